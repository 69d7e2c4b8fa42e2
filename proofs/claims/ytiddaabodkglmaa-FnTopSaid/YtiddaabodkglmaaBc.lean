import Derived.Test.YtiddaabodkglmaaBa
import Derived.Test.YtiddaabodkglmaaBb
import Derived.Test.YtiddaabodkglmaaK4
import Derived.Test.YtiddaabodkglmaaCm
import Derived.Test.YtiddaabodkglmaaEk
namespace Go.Fx
set_option linter.unusedSimpArgs false
def dbl (a : I3) : I3 := (2 * a.1, 2 * a.2.1, 2 * a.2.2)
theorem LV.twice {e : Nat} : ∀ {l : List Nat} {ys : List I3}, LV e l ys → LV (e + 1) l (ys.map dbl)
  | [], [], _ => trivial
  | _ :: _ :: _ :: _ :: _, a :: _, h => by
    refine ⟨v_finer 1 h.1 rfl ?_, v_finer 1 h.2.1 rfl ?_, v_finer 1 h.2.2.1 rfl ?_, v_finer 1 h.2.2.2.1 rfl ?_, LV.twice h.2.2.2.2⟩ <;> simp [dbl] <;> omega
  | [], _ :: _, h => h.elim
  | _ :: _, [], h => by simp [LV] at h
  | [_], _ :: _, h => h.elim
  | [_, _], _ :: _, h => h.elim
  | [_, _, _], _ :: _, h => h.elim
theorem small_dbl {n : Nat} {ys : List I3} (h : ∀ a ∈ ys, Small n a) : ∀ a ∈ ys.map dbl, Small (2 * n) a := by
  intro b hb
  obtain ⟨a, ha, rfl⟩ := List.mem_map.1 hb
  obtain ⟨s1, s2, s3⟩ := h a ha
  exact ⟨by show (2 * a.1).natAbs ≤ _; omega, by show (2 * a.2.1).natAbs ≤ _; omega, by show (2 * a.2.2).natAbs ≤ _; omega⟩
theorem CVs.set {e : Nat} : ∀ {l : List Cel} {ys : List I3} {c : Cel} {a : I3} (k : Nat), CVs e l ys → CV e c a → CVs e (l.set k c) (ys.set k a)
  | [], [], _, _, _, _, _ => trivial
  | _ :: _, _ :: _, _, _, 0, h, k => ⟨k, h.2⟩
  | _ :: _, _ :: _, _, _, n + 1, h, k => ⟨h.1, CVs.set n h.2 k⟩
  | [], _ :: _, _, _, _, h, _ => h.elim
  | _ :: _, [], _, _, _, h, _ => h.elim
theorem plain_set {row : List Cel} {ys : List I3} (h : PlainRow row ys) (k : Nat) {c : Cel} {a : I3} (hc : CV 4 c a) (ha : Small 1024 a) : PlainRow (row.set k c) (ys.set k a) :=
  ⟨h.1.set k hc, fun b hb => by
    rcases List.mem_or_eq_of_mem_set hb with h1 | h1
    · exact h.2 b h1
    · subst h1; exact ha⟩
theorem set_bright {row : List Cel} {k : Nat} (hk : k < row.length) (y : Nat) : (ccells row).set (k * 2) (.float .f32 y) = ccells (row.set k ⟨y, row[k].re, row[k].im⟩) := by
  induction row generalizing k with
  | nil => simp at hk
  | cons c r ih =>
    cases k with
    | zero => rfl
    | succ k =>
      have hk' : k < r.length := by simpa using hk
      have e1 : (k + 1) * 2 = k * 2 + 1 + 1 := by omega
      have e2 : ccells (c :: r) = c1 c :: c2 c :: ccells r := rfl
      rw [e1, e2, List.set_cons_succ, List.set_cons_succ, ih hk']; rfl
/-- what is known of a channel of eighths -/
theorem ch_ok {ch : Chn} {A O X Y : Int} (h : CH 3 ch A O X Y) (h0 : 0 < A) (h1 : A ≤ 128) (h2 : O.natAbs ≤ 512) (h3 : X.natAbs ≤ 128) (h4 : Y.natAbs ≤ 128) : chnOk ch = true := by
  have c16 : V 1098907648 128 3 := v_chk (by decide +kernel)
  have c64 : V 1115684864 512 3 := v_chk (by decide +kernel)
  have c0 : V 0 0 3 := v_chk (by decide +kernel)
  unfold chnOk
  have e1 : fgt .f32 ch.a 0 = true := by unfold fgt; rw [isV_gt h.a c0]; exact decide_eq_true h0
  have e2 : fle .f32 ch.a 1098907648 = true := by
    unfold fle; rw [isV_lt h.a c16, isV_eq h.a c16, Bool.or_eq_true, decide_eq_true_iff, decide_eq_true_iff]; omega
  rw [e1, e2, v_within h.off c64 (by omega), v_within h.re c16 (by omega), v_within h.im c16 (by omega)]; rfl
theorem level_list (j : Nat) (O : Int) (T : List I3) : T.map (trI 4 (2 * ((2 ^ j : Nat) : Int)) O (2 * ((2 ^ j : Nat) : Int)) 0) = (T.map dbl).map (lvI j (16 * O)) := by
  rw [List.map_map]
  congr 1
  funext a
  obtain ⟨y, r, i⟩ := a
  simp only [trI, Function.comp, dbl, lvI, Int.mul_zero, Int.zero_add, Int.sub_zero]
  refine Prod.ext ?_ (Prod.ext ?_ ?_) <;> simp only [] <;> generalize ((2 ^ j : Nat) : Int) = q <;> grind
structure LevRes2 (ch : Chn) (gs : List Nat) : Prop where
  ok : trOk ch gs = true
  fine : ∀ xs, cns xs = tr ch gs → tlOk xs = true ∧ xs.length = gs.length ∧ ∀ zs, cns zs = tl xs → zs.length = gs.length ∧ ∀ (i : Nat) (h1 : i < zs.length) (h2 : i < gs.length), feq .f32 zs[i] gs[i] = true
theorem plain_levelled {row : List Cel} {ys : List I3} {odd : Bool} {gs : List Nat} {ch : Chn} {m O : Int} (h : PlainRow row ys) (h1 : 1 ≤ row.length) (h64 : row.length ≤ 64) (hg : cns gs = lineR (cnC row) odd)
    (hm : m = 1 ∨ m = 2 ∨ m = 4 ∨ m = 8) (ha : V ch.a m 2) (ho : V ch.off O 3) (hO : O.natAbs ≤ 32) (hr : ch.re = ch.a) (hi : ch.im = 0) : LevRes2 ch gs := by
  obtain ⟨hv, hl, hn⟩ := plain_line h h1 h64 hg
  have hyl := h.1.len
  obtain ⟨j, hj, hj3⟩ : ∃ j : Nat, m = ((2 ^ j : Nat) : Int) ∧ j ≤ 3 := by
    rcases hm with rfl | rfl | rfl | rfl
    · exact ⟨0, rfl, by omega⟩
    · exact ⟨1, rfl, by omega⟩
    · exact ⟨2, rfl, by omega⟩
    · exact ⟨3, rfl, by omega⟩
  have hm8 : 0 < m ∧ m ≤ 8 := by omega
  have hV : V ch.a (2 * m) 3 := v_finer 1 ha rfl (by simp; omega)
  have hc : CH 3 ch (2 * m) O (2 * m) 0 := ⟨hV, ho, by rw [hr]; exact hV, by rw [hi]; exact v_chk (by decide +kernel)⟩
  have hs := line_small (odd := odd) h.2
  have gA : (2 * m).natAbs ≤ 16 := by omega
  have gO : O.natAbs * 2 ^ 4 ≤ 1024 * 16 := by omega
  have ht := tr_LV (n := 1024) (g := 16) hc gA gO gA (by decide) (by decide) (by decide) (by decide) hv hs
  have hts := trI_small (e := 4) (n := 1024) (g := 16) (A := 2 * m) (O := O) (X := 2 * m) (Y := 0) gA gO gA (by decide) hs
  have hlen : (headI odd ++ ys.map (conjI odd)).length = 6 + ys.length := by simp [headI]; omega
  have hok : trOk ch gs = true := by
    unfold trOk
    rw [ch_ok hc (by omega) (by omega) (by omega) (by omega) (by decide), samplesOk_LV hv hs (by decide) (by omega) (by omega), samplesOk_LV ht hts (by decide) (by rw [List.length_map]; omega) (by rw [List.length_map]; omega)]; rfl
  refine ⟨hok, fun xs hx => ?_⟩
  unfold tr at hx
  rw [hok, if_pos rfl] at hx
  have hxv : LV 7 xs ((headI odd ++ ys.map (conjI odd)).map (trI 4 (2 * m) O (2 * m) 0)) := LV.of_cn (by rw [hx]; exact ht)
  have hxl := lineOk_LV hxv hts (by decide) (by rw [List.length_map]; omega) (by rw [List.length_map]; omega)
  have hxn : xs.length = gs.length := by rw [hxv.len, hv.len, List.length_map]
  rw [hj, level_list] at hxv
  have hsd := small_dbl hs
  have hform : (headI odd ++ ys.map (conjI odd)).map dbl = (-((2 ^ (5 + 6) : Nat) : Int), 0, 0) :: (-((2 ^ (5 + 6) : Nat) : Int), 0, 0) :: (0, -512, if odd = true then -512 else 512) :: (0, -512, if odd = true then -512 else 512) :: (0, -512, if odd = true then -512 else 512) :: (0, -512, if odd = true then -512 else 512) :: (ys.map (conjI odd)).map dbl := by
    rw [List.map_append]
    have : (headI odd).map dbl = [(-((2 ^ (5 + 6) : Nat) : Int), 0, 0), (-((2 ^ (5 + 6) : Nat) : Int), 0, 0), (0, -512, if odd = true then -512 else 512), (0, -512, if odd = true then -512 else 512), (0, -512, if odd = true then -512 else 512), (0, -512, if odd = true then -512 else 512)] := by cases odd <;> rfl
    rw [this]; rfl
  rw [hform] at hxv hsd
  have hjp : 2 ^ j ≤ 8 := Nat.le_trans (Nat.pow_le_pow_right (by omega) hj3) (by decide)
  obtain ⟨k1, k2⟩ := tl_V (e := 5) (k := 2) (j := j) (n := 2 * 1024) (B := 16 * O) (by omega) (by omega) (by omega) hxv rfl hsd (by
    have : 2 ^ j * (2 * (2 * 1024)) ≤ 8 * (2 * (2 * 1024)) := Nat.mul_le_mul_right _ hjp
    omega) hxl (by decide) (by rw [List.length_map, List.length_map]; omega) (by rw [List.length_map, List.length_map]; omega)
  refine ⟨k1, hxn, fun zs hz => ?_⟩
  unfold tl at hz
  rw [k1, if_pos rfl] at hz
  have hzv := LV.of_cn (l := zs) (by rw [hz]; exact k2)
  rw [← hform] at hzv
  have hgv := hv.twice
  exact ⟨by rw [hzv.len, hgv.len], fun i q1 q2 => LV.feq hzv hgv i q1 q2⟩
end Go.Fx
namespace Go.Proofs.Ytiddaabodkglmaa
open Go.RowKit Go.Fx
set_option linter.unusedVariables false
set_option linter.unusedSimpArgs false
set_option maxRecDepth 100000 in
set_option maxHeartbeats 2000000 in
theorem drawPlainCh_any (A : Option Addr) (c : Nat) (bs : List Int) (w : World) (h : Rd w A (bs.map by8)) (hn : bs.length ≤ 1048576) (hb : ∀ x ∈ bs, 0 ≤ x ∧ x ≤ 255) :
    Calls Try.prog 84 #[.slice A bs.length c] w fun e w' => (∃ ch : Chn, e = .returned (.agg #[.float .f32 ch.a, .float .f32 ch.off, .complex .f32 ch.re ch.im]) ∧ PlainCh ch) ∧ Ext w w' := by
  have ha : Ext w (w.alloc (.cells #[.float .f32 0, .float .f32 0, .complex .f32 0 0] 32)) := (Ext.refl _).alloc _
  have hk := heap_alloc_new w (.cells #[.float .f32 0, .float .f32 0, .complex .f32 0 0] 32)
  go_enter Try.func84, Try.ntmps84
  go_wp2_with fail
  refine (new_any A c bs _ (h.ext ha) hn hb).mono ?_
  rintro e w1 ⟨⟨bk, rfl, hbk, hbz, hcu⟩, hb1⟩
  have kb := blk_ext hk hb1
  replace hb1 := ha.trans hb1
  go_wp2_with fail
  refine (plainCh_any bk _ hcu).mono ?_
  rintro e w2 ⟨⟨ch, rfl, hp⟩, hc2⟩
  have hbk2 : w.heap.size < bk := by simp at hbk; omega
  have kc : w2.heap[w.heap.size]? = some (.cells #[.float .f32 0, .float .f32 0, .complex .f32 0 0] 32 (0, 0)) := by
    have hlt : w.heap.size < w1.heap.size := (Array.getElem?_eq_some_iff.1 kb).1
    rw [hc2.2.block _ hlt (.inl hbk2)]; exact kb
  have hx := ext_turn hb1 hc2.2 (by omega)
  have hws : w.heap.size < w2.heap.size := (Array.getElem?_eq_some_iff.1 kc).1
  have HP := Lib.hid hp
  clear kb hk hp hc2
  obtain ⟨kkc0, kkc1, kkc2, kkf⟩ := blk3 kc
  clear kc
  go_wp2_with fail
  exact bodyPost_ret (v := .agg #[.float .f32 ch.a, .float .f32 ch.off, .complex .f32 ch.re ch.im]) (by simp [results, Try.results84, go_sem, *]) rfl ⟨⟨ch, rfl, HP.out⟩, Below.setCell (p := ⟨w.heap.size, 2, none⟩) (Below.setCell (p := ⟨w.heap.size, 1, none⟩) (Below.setCell (p := ⟨w.heap.size, 0, none⟩) hx (Nat.le_refl _) _) (Nat.le_refl _) _) (Nat.le_refl _) _⟩
set_option maxRecDepth 100000 in
set_option maxHeartbeats 2000000 in
theorem levelled_walk (A0 : Option Addr) (c0 : Nat) (code : List Int) (w : World) (h0 : Rd w A0 (code.map by8)) (hm0 : code.length ≤ maxLen) (hb0 : ∀ x ∈ code, 0 ≤ x ∧ x ≤ 255) :
    Calls Try.prog 27 #[.slice A0 code.length c0] w fun e w' => e = .returned (.bool true) ∧ Ext w w' := by
  have hM0 := hm0
  unfold maxLen at hM0
  have H0 := Lib.hid h0
  have HB0 := Lib.hid hb0
  clear h0 hb0
  by_cases hbig : 1048576 < code.length
  · go_enter Try.func27, Try.ntmps27
    go_wp2_with (go_at_call 39; refine (big_any _ _ _ _ hM0).mono ?_; rintro e w1 ⟨rfl, rfl⟩)
    go_ret
    exact ⟨rfl, Ext.refl _⟩
  have hn0 : code.length ≤ 1048576 := by omega
  go_enter Try.func27, Try.ntmps27
  go_wp2_with (go_at_call 39; refine (big_any _ _ _ _ hM0).mono ?_; rintro e w1 ⟨rfl, rfl⟩)
  refine (drawPlainRow_any A0 c0 code _ H0.out hn0 HB0.out).mono ?_
  rintro e w1 ⟨⟨v1, row, ys, rfl, ho1, hp, hl1, hl6⟩, hb1⟩
  unfold OC at ho1
  have HP0 : Hid (row.length = row.length ∧ ∃ ys, PlainRow row ys) := Lib.hid ⟨rfl, ys, hp⟩
  generalize hrn : row.length = n1 at ho1 hl1 hl6 HP0
  obtain ⟨A1, c1, rfl, -, z1⟩ := own_slice ho1
  obtain ⟨g1, rfl, hg1, hg2⟩ := own_at ho1 (by omega)
  have HRN := Lib.hid hrn
  clear hp hrn
  go_wp2_with fail
  go_loopw [4] (fun i wr => ∃ (k : Nat) (row : List Cel), k ≤ n1 ∧ i = .int .i64 k ∧ wr.ownsRow w.heap.size 90 2 (.slice (some ⟨g1, 0, none⟩) n1 c1) n1 (ccells row) ∧ Hid (row.length = n1 ∧ ∃ ys, PlainRow row ys) ∧ Ext w wr) (fun i _ => n1 - (intOf i).toNat)
  case atStart => exact ⟨0, row, by omega, rfl, ho1, Lib.hid ⟨HRN.out, HP0.out.2⟩, hb1⟩
  case round =>
    clear HP0 HRN ho1 hb1 hg2
    clear row ys
    obtain ⟨k, row, hk, rfl, ho, HP, hbr⟩ := hrel
    by_cases hlt : k < n1
    · have hlt' : k < row.length := by rw [HP.out.1]; exact hlt
      have e1 := cells2_at Go.Fx.c1 Go.Fx.c2 row hlt'
      have hc1 := own_cell ho e1.1
      have hf1 := own_frozen ho (k * 2)
      have HS : Hid (∀ y, (ccells row).set (k * 2) (.float .f32 y) = ccells (row.set k ⟨y, row[k].re, row[k].im⟩)) := Lib.hid (fun y => set_bright hlt' y)
      have HN : Hid ((row.set k ⟨Op.negFloat .f32 row[k].y, row[k].re, row[k].im⟩).length = n1 ∧ ∃ ys, PlainRow (row.set k ⟨Op.negFloat .f32 row[k].y, row[k].re, row[k].im⟩) ys) := Lib.hid (by
        obtain ⟨hrl, ys, hp⟩ := HP.out
        have hly : k < ys.length := by rw [← hp.1.len]; exact hlt'
        have hc := hp.1.at k hlt' hly
        have hsm := hp.2 _ (List.getElem_mem hly)
        exact ⟨by rw [List.length_set, hrl], _, plain_set hp k (a := (-ys[k].1, ys[k].2.1, ys[k].2.2)) ⟨isV_neg hc.1, hc.2.1, hc.2.2⟩ ⟨by show (-ys[k].1).natAbs ≤ _; rw [Int.natAbs_neg]; exact hsm.1, hsm.2.1, hsm.2.2⟩⟩)
      have HST : Hid ((wr.setCell ⟨g1, k * 2, none⟩ (.float .f32 (Op.negFloat .f32 row[k].y))).ownsRow w.heap.size 90 2 (.slice (some ⟨g1, 0, none⟩) n1 c1) n1 (ccells (row.set k ⟨Op.negFloat .f32 row[k].y, row[k].re, row[k].im⟩))) := Lib.hid (by
        rw [← HS.out]; exact own_set ho _)
      have hgz : g1 < wr.heap.size := (own_at ho (by omega)).choose_spec.2.2 |> fun h => by
        have e := (own_at ho (by omega)).choose_spec.1
        injection e with e; injection e with e; rw [e]; exact h
      have HO := Lib.hid ho
      clear ho e1 HS
      cases hq : flt .f32 row[k].y 0
      · go_wp2_with fail
        go_roundw
        case rel => exact ⟨k + 1, row, by omega, by go_num, HO.out, HP, hbr⟩
        case measure => simp [intOf]; omega
      · go_wp2_with fail
        go_roundw
        case rel => exact ⟨k + 1, _, by omega, by go_num, HST.out, HN, Below.setCell (p := ⟨g1, k * 2, none⟩) hbr hg1 _⟩
        case measure => simp [intOf]; omega
    · obtain ⟨hrl, ys, hp⟩ := HP.out
      have HP2 := Lib.hid hp
      have hr := own_rd ho
      have hE := fun odd => iMakeLine_any (some ⟨g1, 0, none⟩) c1 row odd wr hr (by omega)
      have hlen := fun odd gs (hg : cns gs = lineR (cnC row) odd) => (plain_line hp (by omega) (by omega) hg).2.2
      have HLV := Lib.hid (fun odd gs ch m O (hg : cns gs = lineR (cnC row) odd) => plain_levelled (row := row) (ys := ys) (odd := odd) (gs := gs) (ch := ch) (m := m) (O := O) hp (by omega) (by omega) hg)
      rw [hrl] at hE hlen
      have HE := Lib.hid hE
      have HLEN := Lib.hid hlen
      clear hE hlen hp hr ho HP HP2 hrl
      go_wp2_with fail
      refine (HE.out _).mono ?_
      rintro e w2 ⟨⟨v2, gs, rfl, ho2, hg2⟩, hb2⟩
      have hgl := HLEN.out _ _ hg2
      have HG := Lib.hid (fun ch m O => HLV.out _ gs ch m O hg2)
      replace hb2 := hbr.trans hb2
      unfold OF at ho2
      generalize hgm : gs.length = m2 at ho2 hgl
      have hm2 : m2 ≤ 48 := by omega
      obtain ⟨A2, c2, rfl, -, -⟩ := own_slice ho2
      have HGM := Lib.hid hgm
      clear hg2 hgm HE HLEN HLV hbr
      go_wp2_with fail
      refine (drawPlainCh_any A0 c0 code _ (H0.out.ext hb2) hn0 HB0.out).mono ?_
      rintro e w3 ⟨⟨ch, rfl, hpc⟩, hb3⟩
      replace ho2 := own_ext ho2 hb3
      replace hb3 := hb2.trans hb3
      clear hb2
      obtain ⟨⟨m, hm, hva⟩, ⟨O, hO, hvo⟩, -, -⟩ := hpc
      have hlv := HG.out ⟨ch.a, ch.off, ch.a, 0⟩ m O hm hva hvo hO rfl rfl
      have HF := Lib.hid hlv.fine
      have hal : Ext w3 (w3.alloc (.cells #[.float .f32 ch.a, .float .f32 ch.off, .complex .f32 ch.a 0] 32)) := (Ext.refl _).alloc _
      have hT := iTransmit_any ⟨ch.a, ch.off, ch.a, 0⟩ A2 c2 gs _ ((own_rd ho2).ext hal) (by rw [HGM.out]; unfold maxLen; omega) (by rw [HGM.out]; exact own_cap ho2)
      rw [HGM.out, hlv.ok, hgl] at hT
      have HT := Lib.hid hT
      have HA := Lib.hid hal
      have HO2 := Lib.hid ho2
      clear hT hal ho2 hlv HG hva hvo hm hO
      go_wp2_with fail
      refine HT.out.mono ?_
      rintro e w4 ⟨⟨v3, xs, rfl, ho3, hx3⟩, hb4⟩
      replace hb4 := HA.out.trans hb4
      obtain ⟨f1, f2, f3⟩ := HF.out xs hx3
      have HF3 := Lib.hid f3
      have ho2 := own_ext HO2.out hb4
      replace hb4 := hb3.trans hb4
      have f4 : xs.length = 24 + 4 * n1 := by rw [f2, HGM.out]; exact hgl
      unfold OF at ho3
      obtain ⟨A3, c3, rfl, -, -⟩ := own_slice ho3
      have hL := iToLevel_any A3 c3 xs w4 (own_rd ho3) (by rw [f4]; unfold maxLen; omega) (own_cap ho3)
      rw [f1] at hL
      rw [f4] at hL ⊢
      have HL := Lib.hid hL
      have HO2 := Lib.hid ho2
      clear hL ho2 ho3 hx3 HT HA HF hb3 f1 f3
      go_wp2_with fail
      refine HL.out.mono ?_
      rintro e w5 ⟨⟨v4, zs, rfl, ho4, hz4⟩, hb5⟩
      obtain ⟨q1, q2⟩ := HF3.out zs hz4
      rw [HGM.out] at q1
      have ho2 := own_ext HO2.out hb5
      replace hb5 := hb4.trans hb5
      unfold OF at ho4
      obtain ⟨A4, c4, rfl, -, -⟩ := own_slice ho4
      have hE := equals_any A4 A2 c4 c2 zs gs w5 (own_rd ho4) (own_rd ho2) (by rw [q1, hgl]; unfold maxLen; omega) (by rw [HGM.out]; exact q1) q2
      rw [HGM.out, q1, hgl] at hE
      rw [q1, hgl]
      have HE := Lib.hid hE
      clear hE ho2 ho4 hz4 HL HO2 HF3 hb4 q2
      go_wp2_with fail
      refine HE.out.mono ?_
      rintro e w6 ⟨rfl, n6, rfl⟩
      go_wp2_with fail
      go_ret
      exact ⟨rfl, hb5.trans (Ext.drewN w5 n6)⟩
end Go.Proofs.Ytiddaabodkglmaa


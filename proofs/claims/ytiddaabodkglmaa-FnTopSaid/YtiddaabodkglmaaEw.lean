import Derived.Test.YtiddaabodkglmaaEv
import Derived.Test.YtiddaabodkglmaaEf
import Derived.Test.YtiddaabodkglmaaEd
import Derived.Test.YtiddaabodkglmaaEu
namespace Go.Fx
theorem CVs.snoc {e : Nat} : ∀ {l : List Cel} {ys : List I3} {c : Cel} {a : I3}, CVs e l ys → CV e c a → CVs e (l ++ [c]) (ys ++ [a])
  | [], [], _, _, _, h => ⟨h, trivial⟩
  | _ :: _, _ :: _, _, _, h, k => ⟨h.1, CVs.snoc h.2 k⟩
  | [], _ :: _, _, _, h, _ => h.elim
  | _ :: _, [], _, _, h, _ => h.elim
theorem small_snoc {n : Nat} {ys : List I3} {a : I3} (h : ∀ b ∈ ys, Small n b) (ha : Small n a) : ∀ b ∈ ys ++ [a], Small n b := by
  intro b hb
  rcases List.mem_append.1 hb with h1 | h1
  · exact h b h1
  · rw [List.mem_singleton] at h1; subst h1; exact ha
/-- a row of numbers in sixteenths up to 64 -/
def PlainRow (row : List Cel) (ys : List I3) : Prop := CVs 4 row ys ∧ (∀ a ∈ ys, Small 1024 a)
theorem plain_ok {row : List Cel} {ys : List I3} (h : PlainRow row ys) (h1 : 1 ≤ row.length) (h64 : row.length ≤ 64) : rowOk row = true :=
  h.1.rowOk h.2 (by decide) (by rw [← h.1.len]; exact h1) (by rw [← h.1.len]; exact h64)
/-- what is encoded of such a row -/
theorem plain_enc {row : List Cel} {ys : List I3} {odd : Bool} {gs : List Nat} (h : PlainRow row ys) (h1 : 1 ≤ row.length) (h64 : row.length ≤ 64) (hg : cns gs = encR (cnC row) odd) : LV 4 gs (ys.map (conjI odd)) := by
  unfold encR at hg
  rw [rowOk_cnC, plain_ok h h1 h64] at hg
  apply LV.of_cn
  rw [hg]
  exact enc_LV odd (by omega) (by omega) h.1.cn h.2
def chOne : Chn := ⟨1065353216, 0, 1065353216, 0⟩
theorem chOne_CH : CH 0 chOne 1 0 1 0 := ⟨v_chk (by decide +kernel), v_chk (by decide +kernel), v_chk (by decide +kernel), v_chk (by decide +kernel)⟩
theorem trI_one (e : Nat) (ys : List I3) : ys.map (trI e 1 0 1 0) = ys := by
  have : trI e 1 0 1 0 = id := by
    funext a
    obtain ⟨y, r, i⟩ := a
    simp [trI]
  rw [this, List.map_id]
theorem plain_channel {ys : List I3} {gs : List Nat} (h : LV 4 gs ys) (hs : ∀ a ∈ ys, Small 1024 a) (h1 : 1 ≤ ys.length) (h64 : ys.length ≤ 64) : trOk chOne gs = true ∧ ∀ hs, cns hs = tr chOne gs → hs.length = gs.length ∧ ∀ (i : Nat) (h1 : i < hs.length) (h2 : i < gs.length), feq .f32 hs[i] gs[i] = true := by
  have ht := tr_LV (n := 1024) (g := 1) chOne_CH (by decide) (by decide) (by decide) (by decide) (by decide) (by decide) (by decide) h hs
  rw [trI_one] at ht
  have hok : trOk chOne gs = true := by
    unfold trOk
    rw [show chnOk chOne = true by decide +kernel, samplesOk_LV h hs (by decide) h1 (by omega), samplesOk_LV ht hs (by decide) h1 (by omega)]; rfl
  refine ⟨hok, fun xs hx => ?_⟩
  unfold tr at hx
  rw [hok, if_pos rfl] at hx
  have hl : LV 4 xs ys := LV.of_cn (by rw [hx]; exact ht)
  exact ⟨by rw [hl.len, h.len], fun i k1 k2 => LV.feq hl h i k1 k2⟩
theorem cns_nil {gs : List Nat} (h : cns gs = []) : gs = [] := by simpa using h
theorem pc_short {gs : List Nat} (h : gs.length % 4 = 0) (h1 : 0 < gs.length) : trOk chOne (gs.drop 1) = false ∧ tr chOne (gs.drop 1) = [] := by
  apply trOk_rs
  unfold samplesOk
  rw [List.length_drop, decide_eq_false (show ¬ (gs.length - 1) % 4 = 0 by omega)]
  simp
end Go.Fx
namespace Go.Proofs.Ytiddaabodkglmaa
open Go.RowKit Go.Fx
set_option linter.unusedVariables false
set_option linter.unusedSimpArgs false
theorem plain_cell {d : Cel} (h1 : Six d.y 1024) (h2 : Six d.re 512) (h3 : Six d.im 512) : ∃ a, CV 4 d a ∧ Small 1024 a := by
  obtain ⟨m1, l1, v1⟩ := h1
  obtain ⟨m2, l2, v2⟩ := h2
  obtain ⟨m3, l3, v3⟩ := h3
  exact ⟨(m1, m2, m3), ⟨v1, v2, v3⟩, ⟨l1, by show m2.natAbs ≤ _; omega, by show m3.natAbs ≤ _; omega⟩⟩
set_option maxRecDepth 100000 in
set_option maxHeartbeats 4000000 in
theorem drawPlainRow_any (A : Option Addr) (c : Nat) (bs : List Int) (w : World) (h : Rd w A (bs.map by8)) (hn : bs.length ≤ 1048576) (hb : ∀ x ∈ bs, 0 ≤ x ∧ x ≤ 255) :
    Calls Try.prog 88 #[.slice A bs.length c] w fun e w' => (∃ v row ys, e = .returned v ∧ OC w' w.heap.size v row ∧ PlainRow row ys ∧ 1 ≤ row.length ∧ row.length ≤ 6) ∧ Ext w w' := by
  go_enter Try.func88, Try.ntmps88
  go_wp2_with fail
  refine (new_any A c bs _ h hn hb).mono ?_
  rintro e w1 ⟨⟨bk, rfl, hbk, hbz, hcu⟩, hb1⟩
  have hal : Ext w1 (w1.alloc (.cells #[] 90)) := (Ext.refl _).alloc _
  have hnew := own_new w1 w1.heap.size 90 2 (Nat.le_refl _)
  have hcc := CuT.ext (CuT.refl hcu) hal
  go_wp2_with fail
  refine (below_any bk 6 _ hcc.1 (by omega)).mono ?_
  rintro e w2 ⟨⟨x, rfl, hx0, hx1, -⟩, hc2⟩
  have hx2 := hx1 (by omega)
  clear hx1
  obtain ⟨p, rfl⟩ : ∃ p : Nat, x = p := ⟨x.toNat, by omega⟩
  replace hnew := own_up hnew hc2.2 hbz
  replace hcc := hcc.trans hc2
  clear hc2 hal
  go_wp2_with fail
  go_loopw [4, 5] (fun v i wr => ∃ (k m : Nat) (row : List Cel) (ys : List I3), k ≤ 6 ∧ Hid (m + k = 1 + p) ∧ row.length = m ∧ i = .int .i64 k ∧ wr.ownsRow w1.heap.size 90 2 v m (ccells row) ∧ Hid (PlainRow row ys) ∧ CuT bk w1 wr) (fun _ i _ => (intOf i).toNat)
  case atStart => exact ⟨1 + p, 0, [], [], by omega, Lib.hid (by omega), rfl, by congr 1, hnew, Lib.hid ⟨trivial, fun _ h => by cases h⟩, hcc⟩
  case round =>
    obtain ⟨k, m, row, ys, hk, hmk, hrl, rfl, ho, HP, hcr⟩ := hrel
    clear hnew hcc
    obtain ⟨A1, c1, rfl, -, -⟩ := own_slice ho
    have hm6 : m ≤ 6 := by have := hmk.out; omega
    by_cases hlt : 0 < k
    · have hki : (0 : Int) < (k : Int) := by omega
      go_wp2_with fail
      refine (plain_any bk _ hcr.1).mono ?_
      rintro e w3 ⟨⟨d, rfl, s1, s2, s3⟩, hc3⟩
      have HC := Lib.hid (plain_cell s1 s2 s3)
      replace ho := own_up ho hc3.2 hbz
      replace hcr := hcr.trans hc3
      clear hc3 s1 s2 s3
      go_wp2_with (at_builtin; refine wpList_app rfl _ _ 43 rfl w1.heap.size 90 _ 2 12 Try.underlying43 info_cell rfl (by omega) (.slice A1 m c1) m (ccells row) rfl (own_ext ho (by (repeat (first | exact Below.refl _ _ | assumption | refine below_drewN ?_ _ | refine Below.drew ?_ | refine Below.alloc ?_ (by first | exact Nat.le_refl _ | (simp; done) | (simp; omega)) _ | refine Below.setCell ?_ (by first | exact Nat.le_refl _ | (simp; done) | (simp; omega)) _)))) _ 1 1 _ rfl (rd_new _ _ _ _) rfl (fun h => by cases h) (by intro u hu; simp at hu; rcases hu with rfl | rfl <;> rfl) (by unfold maxLen; omega) (by omega) (hcr.ext (by (repeat (first | exact Below.refl _ _ | assumption | refine below_drewN ?_ _ | refine Below.drew ?_ | refine Below.alloc ?_ (by first | exact Nat.le_refl _ | (simp; done) | (simp; omega)) _ | refine Below.setCell ?_ (by first | exact Nat.le_refl _ | (simp; done) | (simp; omega)) _)))).size ?_; intro v1 w4 hown hg hat)
      go_roundw
      case rel =>
        obtain ⟨a, ha, hsa⟩ := HC.out
        exact ⟨k - 1, m + 1, row ++ [d], ys ++ [a], by omega, Lib.hid (by have := hmk.out; omega), by simp [hrl], congrArg (Value.int IntKind.i64) (by omega), by simpa [snoc2] using hown, Lib.hid ⟨HP.out.1.snoc ha, small_snoc HP.out.2 hsa⟩, CuT.grow (hcr.ext ((Ext.refl _).alloc _)) (own_ext ho ((Ext.refl _).alloc _)) (Nat.le_refl _) hg hbz⟩
      case measure => simp [intOf]; omega
    · obtain rfl : k = 0 := by omega
      go_wp2_with fail
      go_ret
      refine ⟨⟨_, row, ys, rfl, ?_, HP.out, by have := hmk.out; omega, by have := hmk.out; omega⟩, ext_turn hb1 hcr.2 hbk⟩
      unfold OC
      rw [hrl]
      exact own_base ho hb1.size
set_option maxRecDepth 100000 in
set_option maxHeartbeats 4000000 in
theorem plainChannel_walk (A0 : Option Addr) (c0 : Nat) (code : List Int) (w : World) (h0 : Rd w A0 (code.map by8)) (hm0 : code.length ≤ maxLen) (hb0 : ∀ x ∈ code, 0 ≤ x ∧ x ≤ 255) :
    Calls Try.prog 15 #[.slice A0 code.length c0] w fun e w' => e = .returned (.bool true) ∧ Ext w w' := by
  have hM0 := hm0
  unfold maxLen at hM0
  have H0 := Lib.hid h0
  have HB0 := Lib.hid hb0
  clear h0 hb0
  by_cases hbig : 1048576 < code.length
  · go_enter Try.func15, Try.ntmps15
    go_wp2_with (go_at_call 39; refine (big_any _ _ _ _ hM0).mono ?_; rintro e w1 ⟨rfl, rfl⟩)
    go_ret
    exact ⟨rfl, Ext.refl _⟩
  have hn0 : code.length ≤ 1048576 := by omega
  go_enter Try.func15, Try.ntmps15
  go_wp2_with (go_at_call 39; refine (big_any _ _ _ _ hM0).mono ?_; rintro e w1 ⟨rfl, rfl⟩)
  refine (drawPlainRow_any A0 c0 code _ H0.out hn0 HB0.out).mono ?_
  rintro e w1 ⟨⟨v1, row, ys, rfl, ho1, hp, hl1, hl6⟩, hb1⟩
  have HP := Lib.hid hp
  have HL := Lib.hid (And.intro hl1 hl6)
  unfold OC at ho1
  generalize hrn : row.length = n1 at ho1
  obtain ⟨A1, c1, rfl, -, -⟩ := own_slice ho1
  have hE := iEncodeCells_any A1 c1 row false w1 (own_rd ho1) (by omega)
  rw [hrn] at hE
  clear hp hl1 hl6 hrn
  go_wp2_with fail
  refine hE.mono ?_
  rintro e w2 ⟨⟨v2, gs, rfl, ho2, hg2⟩, hb2⟩
  have hlv := plain_enc HP.out HL.out.1 (by have := HL.out.2; omega) hg2
  rw [map_conj_false] at hlv
  have hys : 1 ≤ ys.length ∧ ys.length ≤ 6 := by rw [← HP.out.1.len]; exact HL.out
  have hgl := hlv.len
  obtain ⟨hpc, hpe⟩ := plain_channel hlv HP.out.2 hys.1 (by omega)
  have HPE := Lib.hid hpe
  have hsh := pc_short (gs := gs) (by omega) (by omega)
  have hgb : 4 ≤ gs.length ∧ gs.length ≤ 24 := by omega
  unfold OF at ho2
  have hm2 : gs.length ≤ maxLen := by unfold maxLen; omega
  obtain ⟨g2, hA2, hg2a, hg2b⟩ : ∃ g, v2 = .slice (some ⟨g, 0, none⟩) gs.length (match v2 with | .slice _ _ c => c | _ => 0) ∧ w1.heap.size ≤ g ∧ g < w2.heap.size := by
    obtain ⟨A, c, rfl, -, -⟩ := own_slice ho2
    obtain ⟨g, rfl, h1, h2⟩ := own_at ho2 (by omega)
    exact ⟨g, rfl, h1, h2⟩
  obtain ⟨A2, c2, rfl, -, -⟩ := own_slice ho2
  have hA2' : A2 = some ⟨g2, 0, none⟩ := by injection hA2
  subst hA2'
  have hcp := own_cap ho2
  have HT := Lib.hid (fun W (hW : Ext w2 W) => iTransmit_any chOne (some ⟨g2, 0, none⟩) c2 gs W ((own_rd ho2).ext hW) hm2 hcp)
  have hdl : (gs.drop 1).length = gs.length - 1 := by rw [List.length_drop]
  have HT2 : Hid (∀ W, Ext w2 W → Calls Try.prog 89 #[.agg #[.float .f32 1065353216, .float .f32 0, .complex .f32 1065353216 0], .slice (some ⟨g2, 1, none⟩) (gs.length - 1) (c2 - 1)] W fun e w' => (∃ v xs, e = .returned (.tuple #[v, .bool (trOk chOne (gs.drop 1))]) ∧ OF w' W.heap.size v xs ∧ cns xs = tr chOne (gs.drop 1)) ∧ Ext W w') := Lib.hid (fun W hW => by
    have hr := rd_cut ((own_rd ho2).ext hW) 1 (gs.length - 1)
    have e1 : cutF gs 1 (gs.length - 1) = gs.drop 1 := by unfold cutF; rw [List.take_of_length_le (by rw [List.length_drop]; omega)]
    rw [e1] at hr
    have := iTransmit_any chOne (some ⟨g2, 0 + 1, none⟩) (c2 - 1) (gs.drop 1) W hr (by rw [hdl]; unfold maxLen at *; omega) (by rw [hdl]; omega)
    rw [hdl] at this
    exact this)
  rw [hpc] at HT
  rw [hsh.1, hsh.2] at HT2
  clear hA2 hlv hg2 hpc hpe hsh hdl hys HL HP hgl
  generalize hgn : gs.length = m at ho2 hcp HT HT2 hgb hm2
  have HG := Lib.hid hgn
  clear hgn
  go_wp2_with fail
  refine (HT.out _ (Ext.refl _)).mono ?_
  rintro e w3 ⟨⟨v3, xs, rfl, ho3, hx3⟩, hb3⟩
  obtain ⟨hxl, hxe⟩ := HPE.out xs hx3
  unfold OF at ho3
  have hxm : xs.length = m := by rw [hxl]; exact HG.out
  rw [hxm] at ho3
  obtain ⟨A3, c3, rfl, -, -⟩ := own_slice ho3
  have hq := equals_any A3 (some ⟨g2, 0, none⟩) c3 c2 xs gs
  go_wp2_with fail
  refine (HT2.out _ hb3).mono ?_
  rintro e w4 ⟨⟨v4, zs, rfl, ho4, hx4⟩, hb4⟩
  have hz := cns_nil hx4
  subst hz
  obtain ⟨A4, c4, rfl, -, -⟩ := own_slice ho4
  replace hb4' := hb3.trans hb4
  have he := equals_any A3 (some ⟨g2, 0, none⟩) c3 c2 xs gs w4 ((own_rd ho3).ext hb4) ((own_rd ho2).ext hb4') (by unfold maxLen; omega) hxl hxe
  rw [hxm, HG.out] at he
  clear hq hxe hxl hxm hx3 hx4 HPE
  go_wp2_with fail
  refine he.mono ?_
  rintro e w5 ⟨rfl, n5, rfl⟩
  go_wp2_with fail
  go_ret
  exact ⟨rfl, hb1.trans (hb2.trans (hb4'.trans (Ext.drewN _ _)))⟩
end Go.Proofs.Ytiddaabodkglmaa

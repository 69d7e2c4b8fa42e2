import Derived.Test.YtiddaabodkglmaaEi
import Derived.Test.YtiddaabodkglmaaEf
import Derived.Test.YtiddaabodkglmaaEu
import Derived.Test.YtiddaabodkglmaaFe
import Derived.Deep.CutRange
namespace Go.Proofs.Ytiddaabodkglmaa
open Go.RowKit Go.Fx
set_option linter.unusedVariables false
set_option linter.unusedSimpArgs false
set_option maxRecDepth 100000 in
set_option maxHeartbeats 4000000 in
theorem samples_any (bk : Nat) (w : World) (h : Cu w bk) :
    Calls Try.prog 229 #[.pointer (some ⟨bk, 0, none⟩)] w fun e w' => (∃ (A : Option Addr) (c : Nat) (gs : List Nat), e = .returned (.slice A gs.length c) ∧ Drawn bk w' A c gs ∧ gs.length ≤ 300) ∧ CuT bk w w' := by
  have hz := h.size
  go_enter Try.func229, Try.ntmps229
  go_wp2_with fail
  refine (once_any bk 12 _ h (by omega)).mono ?_
  rintro e w1 ⟨⟨q, rfl⟩, hc1⟩
  cases q
  · go_wp2_with fail
    refine (any_any bk _ hc1.1).mono ?_
    rintro e w2 ⟨⟨v1, row, rfl, ho1, hl1⟩, hc2⟩
    go_wp2_with fail
    refine (once_any bk 2 _ hc2.1 (by omega)).mono ?_
    rintro e w3 ⟨⟨q, rfl⟩, hc3⟩
    replace ho1 := own_up ho1 hc3.2 (Nat.lt_of_lt_of_le hz hc1.size)
    have hc := (hc1.trans hc2).trans hc3
    clear hc1 hc2 hc3
    obtain ⟨A1, c1, rfl, -, -⟩ := own_slice ho1
    go_wp2_with fail
    refine (sEncodeCells_any A1 c1 row q _ (own_rd ho1) (by omega)).mono ?_
    rintro e w4 ⟨⟨v3, g3, rfl, ho3, hg3⟩, hb3⟩
    have hl3 : g3.length ≤ 256 := by
      have := congrArg List.length hg3
      rw [List.length_map] at this
      rw [this]
      unfold encR
      split
      · rename_i hr
        rw [encode_len]
        have := rowOk_len hr
        omega
      · simp
    unfold OF at ho3
    generalize hgn3 : g3.length = m3 at ho3 hl3
    replace ho3 := own_base ho3 hc.size
    replace hc := hc.ext hb3
    obtain ⟨A3, c3, rfl, -, z3⟩ := own_slice ho3
    clear hg3 hb3 ho1 hl1 h
    go_upto_region 9 with fail
    go_cut [32] from 6 (fun s32 wr => ∃ q : Bool, s32 = .bool q ∧ (q = true → 0 < m3) ∧ wr.ownsRow w.heap.size 29 1 (.slice A3 m3 c3) m3 (g3.map fl) ∧ CuT bk w wr)
    case first =>
      by_cases hpos : 0 < m3
      · have hpi : (0 : Int) < (m3 : Int) := by omega
        go_wp2_with fail
        refine (once_any bk 6 _ hc.1 (by omega)).mono ?_
        rintro e w4 ⟨⟨q, rfl⟩, hc4⟩
        go_wp2_with fail
        go_meet
        exact ⟨q, rfl, fun _ => hpos, own_up ho3 hc4.2 hz, hc.trans hc4⟩
      · obtain rfl : m3 = 0 := by omega
        go_wp2_with fail
        go_meet
        exact ⟨false, rfl, (fun h => by cases h), ho3, hc⟩
    case rest =>
    clear ho3 hc
    obtain ⟨q, rfl, hq, ho4, hc4⟩ := hcut
    rename World => w4
    go_upto_if 32 with fail
    go_cut [] from 33 (fun wr => ∃ g : List Nat, g.length = m3 ∧ wr.ownsRow w.heap.size 29 1 (.slice A3 m3 c3) m3 (g.map fl) ∧ CuT bk w wr)
    case first =>
      cases q
      · go_wp2_with fail
        go_meet
        exact ⟨g3, hgn3, ho4, hc4⟩
      · have hpos := hq rfl
        clear hq
        obtain ⟨g1, rfl, hg1, hg2⟩ := own_at ho4 hpos
        have hpi : (0 : Int) < (m3 : Int) := by omega
        go_wp2_with fail
        refine (below_any bk m3 _ hc4.1 (by omega)).mono ?_
        rintro e w5 ⟨⟨x, rfl, hx0, hx1, -⟩, hc5⟩
        have hx2 := hx1 hpi
        clear hx1
        obtain ⟨p, rfl⟩ : ∃ p : Nat, x = p := ⟨x.toNat, by omega⟩
        replace ho4 := own_up ho4 hc5.2 hz
        replace hc4 := hc4.trans hc5
        clear hc5
        go_wp2_with fail
        refine (level_any bk _ hc4.1).mono ?_
        rintro e w6 ⟨⟨z, rfl⟩, hc6⟩
        replace ho4 := own_up ho4 hc6.2 hz
        replace hc4 := hc4.trans hc6
        clear hc6
        have hf := own_frozen ho4 p
        have hpl : p < (g3.map fl).length := by rw [List.length_map, hgn3]; omega
        have hcell : ∃ u, w6.cell? ⟨g1, p, none⟩ = some u := ⟨_, own_cell ho4 (List.getElem?_eq_getElem hpl)⟩
        obtain ⟨u0, hcell⟩ := hcell
        have HO5 : Hid ((w6.setCell ⟨g1, p, none⟩ (.float .f32 z)).ownsRow w.heap.size 29 1 (.slice (some ⟨g1, 0, none⟩) m3 c3) m3 ((g3.set p z).map fl)) := Lib.hid (by
          have := own_set ho4 (j := p) (.float .f32 z)
          rwa [show (g3.map fl).set p (.float .f32 z) = (g3.set p z).map fl by rw [List.map_set]] at this)
        have hgn5 : (g3.set p z).length = m3 := by rw [List.length_set, hgn3]
        have HC5 := Lib.hid (CuT.below hc4 (Below.setCell (p := ⟨g1, p, none⟩) (Below.refl w.heap.size w6) hg1 (.float .f32 z)) hz)
        generalize g3.set p z = g5 at HO5 hgn5
        clear ho4 hc4
        go_wp2_with fail
        go_meet
        exact ⟨g5, hgn5, HO5.out, HC5.out⟩
    case rest =>
    clear ho4 hc4 hgn3 hq
    obtain ⟨g5, hgn, ho5, hc5⟩ := hcut
    clear g3
    go_wp2_with fail
    refine (once_any bk 40 _ hc5.1 (by omega)).mono ?_
    rintro e w6 ⟨⟨q, rfl⟩, hc6⟩
    have ho6 := own_up ho5 hc6.2 hz
    have hcc := hc5.trans hc6
    clear hc6 ho5 hc5
    cases q
    · go_wp2_with fail
      go_ret
      exact ⟨⟨A3, c3, g5, by rw [hgn]; rfl, drawn_own ho6 hz, by omega⟩, hcc⟩
    · go_wp2_with fail
      go_loopw [5] (fun v wr => ∃ (m : Nat) (gs : List Nat), gs.length = m ∧ m ≤ 263 ∧ wr.ownsRow w.heap.size 29 1 v m (gs.map fl) ∧ CuT bk w wr) (fun v _ => 300 - vLen v)
      case atStart => exact ⟨m3, g5, hgn, by omega, ho6, hcc⟩
      case round =>
        obtain ⟨m, gs, hgl, hml, ho, hcr⟩ := hrel
        clear ho6 hcc
        obtain ⟨A4, c4, rfl, -, z4⟩ := own_slice ho
        by_cases hlt : m < 260
        · go_wp2_with (at_builtin; refine wpList_app rfl _ _ 22 rfl w.heap.size 29 _ 1 4 Try.underlying22 info_f32 rfl (by omega) (.slice A4 m c4) m (gs.map fl) rfl (own_ext ho ((Ext.refl _).alloc _)) _ 4 4 _ rfl (rd_new _ _ _ _) rfl (fun h => by cases h) (by intro u hu; simp at hu; rcases hu with rfl | rfl | rfl | rfl <;> rfl) (by unfold maxLen; omega) (by omega) (hcr.ext ((Ext.refl _).alloc _)).size ?_; intro v7 w7 hown hg hat)
          obtain ⟨A7, c7, rfl, -, -⟩ := own_slice hown
          go_roundw
          case rel => exact ⟨m + 4, gs ++ [1065353216, 1073741824, 1077936128, 1082130432], by simp [hgl], by omega, by simpa using hown, CuT.grow (hcr.ext ((Ext.refl _).alloc _)) (own_ext ho ((Ext.refl _).alloc _)) (Nat.le_refl _) hg hz⟩
          case measure => simp only [vLen]; omega
        · go_wp2_with fail
          go_ret
          exact ⟨⟨A4, c4, gs, by rw [hgl]; rfl, drawn_own ho hz, by omega⟩, hcr⟩
  · have hal : Ext w1 (w1.alloc (.cells #[] 29)) := (Ext.refl _).alloc _
    have hnew := own_new w1 w.heap.size 29 1 hc1.size
    go_wp2_with fail
    refine (below_any bk 14 _ (hc1.1.ext hal) (by omega)).mono ?_
    rintro e w2 ⟨⟨x, rfl, hx0, hx1, -⟩, hc2⟩
    have hx2 := hx1 (by omega)
    clear hx1
    obtain ⟨p, rfl⟩ : ∃ p : Nat, x = p := ⟨x.toNat, by omega⟩
    replace hnew := own_up hnew hc2.2 hz
    replace hc2 := (hc1.ext hal).trans hc2
    clear hal
    go_wp2_with fail
    go_loopw [3, 4] (fun v i wr => ∃ (k m : Nat) (gs : List Nat), i = .int .i64 k ∧ gs.length = m ∧ m + k ≤ 13 ∧ wr.ownsRow w.heap.size 29 1 v m (gs.map fl) ∧ CuT bk w wr) (fun _ i _ => (intOf i).toNat)
    case atStart => exact ⟨p, 0, [], rfl, rfl, by omega, hnew, hc2⟩
    case round =>
      obtain ⟨k, m, gs, rfl, hgl, hml, ho, hcr⟩ := hrel
      clear hnew hc2
      obtain ⟨A4, c4, rfl, -, z4⟩ := own_slice ho
      by_cases hlt : 0 < k
      · have hki : (0 : Int) < (k : Int) := by omega
        go_wp2_with fail
        refine (level_any bk _ hcr.1).mono ?_
        rintro e w6 ⟨⟨z, rfl⟩, hc6⟩
        replace ho := own_up ho hc6.2 hz
        replace hcr := hcr.trans hc6
        clear hc6
        go_wp2_with (at_builtin; refine wpList_app rfl _ _ 22 rfl w.heap.size 29 _ 1 4 Try.underlying22 info_f32 rfl (by omega) (.slice A4 m c4) m (gs.map fl) rfl (own_ext ho ((Ext.refl _).alloc _)) _ 1 1 _ rfl (rd_new _ _ _ _) rfl (fun h => by cases h) (by intro u hu; simp at hu; rcases hu with rfl <;> rfl) (by unfold maxLen; omega) (by omega) (hcr.ext ((Ext.refl _).alloc _)).size ?_; intro v7 w7 hown hg hat)
        go_roundw
        case rel => exact ⟨k - 1, m + 1, gs ++ [z], congrArg (Value.int IntKind.i64) (by omega), by simp [hgl], by omega, by simpa using hown, CuT.grow (hcr.ext ((Ext.refl _).alloc _)) (own_ext ho ((Ext.refl _).alloc _)) (Nat.le_refl _) hg hz⟩
        case measure => simp [intOf]; omega
      · obtain rfl : k = 0 := by omega
        go_wp2_with fail
        go_ret
        exact ⟨⟨A4, c4, gs, by rw [hgl]; rfl, drawn_own ho hz, by omega⟩, hcr⟩
set_option maxRecDepth 100000 in
set_option maxHeartbeats 4000000 in
theorem drawDelay_any (A : Option Addr) (c : Nat) (bs : List Int) (w : World) (h : Rd w A (bs.map by8)) (hn : bs.length ≤ 1048576) (hb : ∀ x ∈ bs, 0 ≤ x ∧ x ≤ 255) :
    Calls Try.prog 188 #[.slice A bs.length c] w fun e w' => (∃ (A : Option Addr) (c : Nat) (gs : List Nat) (n : Int), e = .returned (.tuple #[.slice A gs.length c, .int .i64 n]) ∧ Rd w' A (gs.map fl) ∧ (A = none → gs.length = 0) ∧ gs.length ≤ c ∧ gs.length ≤ 300) ∧ Ext w w' := by
  go_enter Try.func188, Try.ntmps188
  go_wp2_with fail
  refine (new_any A c bs _ h hn hb).mono ?_
  rintro e w1 ⟨⟨bk, rfl, hbk, hbz, hcu⟩, hb1⟩
  go_wp2_with fail
  refine (samples_any bk _ hcu).mono ?_
  rintro e w2 ⟨⟨A2, c2, gs, rfl, hd, hl⟩, hc2⟩
  go_wp2_with fail
  refine (once_any bk 8 _ hc2.1 (by omega)).mono ?_
  rintro e w3 ⟨⟨q, rfl⟩, hc3⟩
  replace hd := hd.up hc3.2
  replace hc2 := hc2.trans hc3
  clear hc3
  have hz3 := hc2.1.size
  cases q
  · go_wp2_with fail
    refine (below_any bk 6 _ hc2.1 (by omega)).mono ?_
    rintro e w4 ⟨⟨y, rfl, hy0, hy1, -⟩, hc4⟩
    replace hd := hd.up hc4.2
    replace hc2 := hc2.trans hc4
    go_wp2_with fail
    go_ret2
    exact ⟨⟨A2, c2, gs, y, rfl, hd.1, hd.2.1, hd.2.2.1, hl⟩, ext_turn hb1 hc2.2 hbk⟩
  · go_wp2_with fail
    refine (pick_any bk (some ⟨w3.heap.size, 0, none⟩) 4 [-1, 64, 65, 9223372036854775807] _ (hc2.1.ext ((Ext.refl _).alloc _)) (rd_new _ _ _ _) (fun a ha => by cases ha; exact hz3) (by simp) (by simp)).mono ?_
    rintro e w4 ⟨⟨y, hy, rfl⟩, hc4⟩
    replace hd := (hd.ext ((Ext.refl _).alloc _)).up hc4.2
    replace hc2 := (hc2.ext ((Ext.refl _).alloc _)).trans hc4
    go_wp2_with fail
    go_ret2
    exact ⟨⟨A2, c2, gs, y, rfl, hd.1, hd.2.1, hd.2.2.1, hl⟩, ext_turn hb1 hc2.2 hbk⟩
set_option maxRecDepth 100000 in
theorem drawEcho_any (A : Option Addr) (c : Nat) (bs : List Int) (w : World) (h : Rd w A (bs.map by8)) (hn : bs.length ≤ 1048576) (hb : ∀ x ∈ bs, 0 ≤ x ∧ x ≤ 255) :
    Calls Try.prog 105 #[.slice A bs.length c] w fun e w' => (∃ (A : Option Addr) (c : Nat) (gs : List Nat) (n : Int) (x : Nat), e = .returned (.tuple #[.slice A gs.length c, .int .i64 n, .float .f32 x]) ∧ Rd w' A (gs.map fl) ∧ (A = none → gs.length = 0) ∧ gs.length ≤ c ∧ gs.length ≤ 300) ∧ Ext w w' := by
  have H := Lib.hid h
  go_enter Try.func105, Try.ntmps105
  go_wp2_with fail
  refine (drawDelay_any A c bs _ h hn hb).mono ?_
  rintro e w1 ⟨⟨A2, c2, gs, n, rfl, h1, h2, h3, h4⟩, hb1⟩
  go_wp2_with fail
  refine (new_any A c bs _ (H.out.ext hb1) hn hb).mono ?_
  rintro e w2 ⟨⟨bk, rfl, hbk, hbz, hcu⟩, hb2⟩
  go_wp2_with fail
  refine (below_any bk 33 _ hcu (by omega)).mono ?_
  rintro e w3 ⟨⟨y, rfl, hy0, hy1, -⟩, hc3⟩
  have hy2 := hy1 (by omega)
  clear hy1
  have hb3 := ext_turn hb2 hc3.2 hbk
  replace h1 := h1.ext hb3
  clear hb2 hc3
  go_wp2_with (with_reducible refine upon_quo ?_; intro b nb hb)
  go_ret3
  exact ⟨⟨A2, c2, gs, n, _, rfl, h1.ext (by (repeat (first | exact Below.refl _ _ | assumption | refine below_drewN ?_ _ | refine Below.drew ?_ | refine Below.alloc ?_ (by first | exact Nat.le_refl _ | (simp; done) | (simp; omega)) _ | refine Below.setCell ?_ (by first | exact Nat.le_refl _ | (simp; done) | (simp; omega)) _))), h2, h3, h4⟩, (hb1.trans hb3).trans (by (repeat (first | exact Below.refl _ _ | assumption | refine below_drewN ?_ _ | refine Below.drew ?_ | refine Below.alloc ?_ (by first | exact Nat.le_refl _ | (simp; done) | (simp; omega)) _ | refine Below.setCell ?_ (by first | exact Nat.le_refl _ | (simp; done) | (simp; omega)) _)))⟩
theorem echoOk_no {rs : List Nat} {cells : Int} {x : Nat} (h : samplesOk rs = false) : echoOk rs cells x = false := by unfold echoOk; rw [h]; rfl
theorem echoOk_nod {rs : List Nat} {cells : Int} {x : Nat} (h : delayOk cells = false) : echoOk rs cells x = false := by unfold echoOk; rw [h, Bool.and_false]; rfl
theorem feq_of_fk {x y : Nat} (h : fk .f32 x = fk .f32 y) (hn : isN .f32 y = false) : feq .f32 x y = true := by
  cases e : fk .f32 y
  · rw [fk_none.1 e] at hn; cases hn
  · rw [e] at h; rw [feq_fk h e]; simp
/-- the samples of an echo of nothing are what they were -/
theorem nothing_eq {rs gs : List Nat} {cells : Int} (h : samplesOk rs = true) (hd : delayOk cells = true) (hg : cns gs = echo rs cells 0) : gs.length = rs.length ∧ ∀ (i : Nat) (h1 : i < gs.length) (h2 : i < rs.length), feq .f32 gs[i] rs[i] = true := by
  obtain ⟨h1, h2⟩ := echo_nothing h hd
  have e1 : echo rs cells 0 = echoAll rs cells 0 := by unfold echo; rw [if_pos h1]
  rw [e1] at hg
  have hl : gs.length = rs.length := by
    have := congrArg List.length hg
    rwa [List.length_map, echoAll_len] at this
  refine ⟨hl, fun i k1 k2 => ?_⟩
  have e2 : (echoAll rs cells 0).getD i 0 = cn .f32 gs[i] := by
    rw [← hg, List.getD_eq_getElem?_getD, List.getElem?_map, List.getElem?_eq_getElem k1]; rfl
  have h3 := h2 i k2
  rw [e2, fk_cn, fk_cn] at h3
  refine feq_of_fk h3 ?_
  obtain ⟨a, ha, -⟩ := fine_val (samplesOk_fine h) i
  have e3 : rs.getD i 0 = rs[i] := by rw [List.getD_eq_getElem?_getD, List.getElem?_eq_getElem k2]; rfl
  rw [e3] at ha
  have := ha.not
  rwa [isN_cn] at this
theorem double_eq {rs gs : List Nat} (h : samplesOk rs = true) (hok : echoOk rs 0 1065353216 = true) (hg : cns gs = echo rs 0 1065353216) : gs.length = rs.length ∧ ∀ (i : Nat) (h1 : i < gs.length) (h2 : i < rs.length), ∃ r, floatBits .add .f32 rs[i] rs[i] = some r ∧ feq .f32 gs[i] r = true := by
  have e1 : echo rs 0 1065353216 = echoAll rs 0 1065353216 := by unfold echo; rw [if_pos hok]
  rw [e1] at hg
  have hl : gs.length = rs.length := by
    have := congrArg List.length hg
    rwa [List.length_map, echoAll_len] at this
  refine ⟨hl, fun i k1 k2 => ?_⟩
  have e2 : (echoAll rs 0 1065353216).getD i 0 = cn .f32 gs[i] := by
    rw [← hg, List.getD_eq_getElem?_getD, List.getElem?_map, List.getElem?_eq_getElem k1]; rfl
  obtain ⟨h3, h4⟩ := echo_double h i k2
  have hb' : add32 (cn .f32 rs[i]) (cn .f32 rs[i]) = (floatBits .add .f32 rs[i] rs[i]).getD (qn .f32) := by
    show fop .add .f32 (cn .f32 rs[i]) (cn .f32 rs[i]) = _
    rw [fop_cn_l, fop_cn_r]; rfl
  rw [e2, hb', fk_cn] at h4
  rw [hb'] at h3
  cases e : floatBits .add .f32 rs[i] rs[i]
  · rw [e] at h3
    have := isN_qn .f32
    rw [show (none : Option Nat).getD (qn .f32) = qn .f32 from rfl, this] at h3
    cases h3
  · rename_i r
    rw [e] at h3 h4
    exact ⟨r, rfl, feq_of_fk h4 h3⟩
theorem run_some {op : BinOp} (hop : op = .add ∨ op = .sub ∨ op = .mul ∨ op = .quo) {k : FloatKind} {x y r : Nat} (h : floatBits op k x y = some r) (t : TypeId) (P : Program) (W : World) : (binOp op t (.float k x) (.float k y)).run P W = .ok (.float k r) W := by
  have h1 := run_fop (P := P) W op hop t k x y
  have e1 : fbits W op k x y = r := by unfold fbits; rw [h]; rfl
  have e2 : fcnt op k x y = 0 := by unfold fcnt; rw [h]; rfl
  rw [e1, e2] at h1
  exact h1
set_option maxRecDepth 100000 in
set_option maxHeartbeats 4000000 in
theorem noEcho_walk (A0 : Option Addr) (c0 : Nat) (code : List Int) (w : World) (h0 : Rd w A0 (code.map by8)) (hm0 : code.length ≤ maxLen) (hb0 : ∀ x ∈ code, 0 ≤ x ∧ x ≤ 255) :
    Calls Try.prog 22 #[.slice A0 code.length c0] w fun e w' => e = .returned (.bool true) ∧ Ext w w' := by
  have hM0 := hm0
  unfold maxLen at hM0
  have H0 := Lib.hid h0
  have HB0 := Lib.hid hb0
  clear h0 hb0
  by_cases hbig : 1048576 < code.length
  · go_enter Try.func22, Try.ntmps22
    go_wp2_with (go_at_call 39; refine (big_any _ _ _ _ hM0).mono ?_; rintro e w1 ⟨rfl, rfl⟩)
    go_ret
    exact ⟨rfl, Ext.refl _⟩
  have hn0 : code.length ≤ 1048576 := by omega
  go_enter Try.func22, Try.ntmps22
  go_wp2_with (go_at_call 39; refine (big_any _ _ _ _ hM0).mono ?_; rintro e w1 ⟨rfl, rfl⟩)
  refine (drawEcho_any A0 c0 code _ H0.out hn0 HB0.out).mono ?_
  rintro e w1 ⟨⟨A, c, gs, n, x, rfl, hr, hA, hcp, hl⟩, hb1⟩
  have hm : gs.length ≤ maxLen := by unfold maxLen; omega
  have K1 := Lib.hid (fun W (hW : Ext w1 W) => iEcho_any A c gs n 0 W (hr.ext hW) hA (by omega))
  have K2 := Lib.hid (fun W (hW : Ext w1 W) => iEcho_any A c gs 0 1065353216 W (hr.ext hW) hA (by omega))
  have K3 := Lib.hid (fun W (hW : Ext w1 W) => sSamplesOk_any A c gs W (hr.ext hW) hm)
  have HR := Lib.hid hr
  have HM := Lib.hid hm
  clear hr hA hcp hm
  cases hs : samplesOk gs
  · rw [hs] at K3
    have e1 : echoOk gs n 0 = false := echoOk_no hs
    have e2 : echoOk gs 0 1065353216 = false := echoOk_no hs
    rw [e1] at K1
    rw [e2] at K2
    clear e1 e2 hs
    go_wp2_with fail
    refine (K1.out _ (Ext.refl _)).mono ?_
    rintro e w2 ⟨⟨v2, g2, rfl, -, -⟩, hb2⟩
    go_wp2_with fail
    refine (K2.out _ hb2).mono ?_
    rintro e w3 ⟨⟨v3, g3, rfl, -, -⟩, hb3⟩
    replace hb3 := hb2.trans hb3
    go_wp2_with fail
    refine (K3.out _ hb3).mono ?_
    rintro e w4 ⟨rfl, rfl⟩
    go_wp2_with fail
    go_ret
    exact ⟨rfl, hb1.trans hb3⟩
  · rw [hs] at K3
    have hda : (delayOk n = true ∧ 0 ≤ n ∧ n ≤ 64) ∨ (delayOk n = false ∧ (n < 0 ∨ 64 < n)) := by
      unfold delayOk
      by_cases h1 : 0 ≤ n
      · by_cases h2 : n ≤ 64
        · exact .inl ⟨by simp [h1, h2], h1, h2⟩
        · exact .inr ⟨by simp [h2], .inr (by omega)⟩
      · exact .inr ⟨by simp [h1], .inl (by omega)⟩
    have D : Hid (echoOk gs 0 1065353216 = true → ∀ g3, cns g3 = echo gs 0 1065353216 → g3.length = gs.length ∧ ∀ (i : Nat) (h1 : i < g3.length) (h2 : i < gs.length), ∃ r, floatBits .add .f32 gs[i] gs[i] = some r ∧ feq .f32 g3[i] r = true) := Lib.hid (fun h g3 hg => double_eq hs h hg)
    have E1 : Hid (echoOk gs n 0 = delayOk n ∧ (delayOk n = true → ∀ g2, cns g2 = echo gs n 0 → g2.length = gs.length ∧ ∀ (i : Nat) (h1 : i < g2.length) (h2 : i < gs.length), feq .f32 g2[i] gs[i] = true)) := Lib.hid ⟨by
      cases hd : delayOk n
      · exact echoOk_nod hd
      · exact (echo_nothing hs hd).1, fun hd g2 hg => nothing_eq hs hd hg⟩
    rw [E1.out.1] at K1
    clear hs
    generalize hok : echoOk gs 0 1065353216 = fine at K2 D
    clear hok
    go_wp2_with fail
    refine (K1.out _ (Ext.refl _)).mono ?_
    rintro e w2 ⟨⟨v2, g2, rfl, o2, hg2⟩, hb2⟩
    have G2 := Lib.hid hg2
    unfold OF at o2
    generalize hgn2 : g2.length = m2 at o2
    obtain ⟨A2, c2, rfl, -, -⟩ := own_slice o2
    go_wp2_with fail
    refine (K2.out _ hb2).mono ?_
    rintro e w3 ⟨⟨v3, g3, rfl, o3, hg3⟩, hb3⟩
    have G3 := Lib.hid hg3
    unfold OF at o3
    generalize hgn3 : g3.length = m3 at o3
    obtain ⟨A3, c3, rfl, -, -⟩ := own_slice o3
    replace o2 := own_ext o2 hb3
    replace hb3 := hb2.trans hb3
    go_wp2_with fail
    refine (K3.out _ hb3).mono ?_
    rintro e w4 ⟨rfl, rfl⟩
    have HG2 := Lib.hid hgn2
    have HG3 := Lib.hid hgn3
    clear hg2 hg3 hgn2 hgn3 hb2 K1 K2 K3
    go_upto_region 8 with fail
    go_cut [7, 55] from 11 (fun s7 s wr => s = .bool false ∧ Ext w3 wr)
    case first =>
      rcases hda with ⟨hd, hd1, hd2⟩ | ⟨hd, hd3⟩
      · rw [hd]
        have hq := E1.out.2 hd g2 G2.out
        have he := equals_any A2 A c2 c g2 gs w3 (own_rd o2) (HR.out.ext hb3) (by unfold maxLen; rw [hq.1]; omega) hq.1 hq.2
        rw [HG2.out] at he
        clear hd hq
        go_wp2_with fail
        refine he.mono ?_
        rintro e w5 ⟨rfl, n5, rfl⟩
        have e1 : decide ((0 : Int) ≤ n) = true := decide_eq_true hd1
        have e2 : decide (n ≤ (64 : Int)) = true := decide_eq_true hd2
        go_wp2_with fail
        go_meet
        exact ⟨rfl, Ext.drewN _ _⟩
      · rw [hd]
        clear hd
        rcases hd3 with hd3 | hd3
        · go_wp2_with fail
          go_meet
          exact ⟨rfl, Ext.refl _⟩
        · have e1 : decide ((0 : Int) ≤ n) = true := decide_eq_true (by omega)
          have e2 : decide (n ≤ (64 : Int)) = false := decide_eq_false (by omega)
          go_wp2_with fail
          go_meet
          exact ⟨rfl, Ext.refl _⟩
    case rest =>
    obtain ⟨rfl, hb5⟩ := hcut
    rename World => w5
    replace o3 := own_ext o3 hb5
    replace hb5 := hb3.trans hb5
    clear hb3 o2 G2 HG2 E1 hda
    cases fine
    · go_wp2_with fail
      go_loopw [10] (fun i wr => ∃ (k : Nat), k ≤ gs.length ∧ i = .int .i64 k ∧ Ext w5 wr) (fun i _ => gs.length - (intOf i).toNat)
      case atStart => exact ⟨0, Nat.zero_le _, rfl, Ext.refl _⟩
      case round =>
        obtain ⟨k, hk, rfl, hbr⟩ := hrel
        by_cases hlt : k < gs.length
        · go_wp2_with fail
          go_quiet (fail)
          all_goals go_wp2_with fail
          all_goals go_roundw
          all_goals first | exact ⟨k + 1, by omega, by go_num, hbr.trans (by (repeat (first | exact Below.refl _ _ | assumption | refine below_drewN ?_ _ | refine Below.drew ?_ | refine Below.alloc ?_ (by first | exact Nat.le_refl _ | (simp; done) | (simp; omega)) _ | refine Below.setCell ?_ (by first | exact Nat.le_refl _ | (simp; done) | (simp; omega)) _)))⟩ | (simp [intOf]; omega)
        · go_wp2_with fail
          go_ret
          exact ⟨rfl, hb1.trans (hb5.trans hbr)⟩
    · obtain ⟨hl3, he3⟩ := D.out rfl g3 G3.out
      have HE3 := Lib.hid he3
      have e3 : m3 = gs.length := by rw [← HG3.out]; exact hl3
      subst e3
      have HL3 := Lib.hid hl3
      clear hl3 he3 D
      go_wp2_with fail
      go_loopw [10] (fun i wr => ∃ (k : Nat), k ≤ gs.length ∧ i = .int .i64 k ∧ Ext w5 wr) (fun i _ => gs.length - (intOf i).toNat)
      case atStart => exact ⟨0, Nat.zero_le _, rfl, Ext.refl _⟩
      case round =>
        obtain ⟨k, hk, rfl, hbr⟩ := hrel
        by_cases hlt : k < gs.length
        · have hlt3 : k < g3.length := by rw [HL3.out]; exact hlt
          obtain ⟨b, off, rfl, hbw, hc1⟩ := rf_at (HR.out.ext (hb5.trans hbr)) hlt
          obtain ⟨b', off', rfl, hbw', hc2⟩ := rf_at ((own_rd o3).ext hbr) hlt3
          obtain ⟨r, hq1, hq2⟩ := HE3.out k hlt3 hlt
          generalize gs[k] = x at *
          generalize g3[k] = y at *
          have hadd : ∀ W, (binOp .add 29 (.float .f32 x) (.float .f32 x)).run Try.prog W = .ok (.float .f32 r) W := fun W => run_some (.inl rfl) hq1 _ _ W
          clear hq1
          go_wp2_with fail
          go_quiet (fail)
          all_goals go_wp2_with fail
          all_goals go_roundw
          all_goals first | exact ⟨k + 1, by omega, by go_num, hbr.trans (by (repeat (first | exact Below.refl _ _ | assumption | refine below_drewN ?_ _ | refine Below.drew ?_ | refine Below.alloc ?_ (by first | exact Nat.le_refl _ | (simp; done) | (simp; omega)) _ | refine Below.setCell ?_ (by first | exact Nat.le_refl _ | (simp; done) | (simp; omega)) _)))⟩ | (simp [intOf]; omega)
        · go_wp2_with fail
          go_ret
          exact ⟨by simp, hb1.trans (hb5.trans hbr)⟩
end Go.Proofs.Ytiddaabodkglmaa

import Derived.Test.YtiddaabodkglmaaEi
import Derived.Test.YtiddaabodkglmaaEf
import Derived.Test.YtiddaabodkglmaaK3
import Derived.Test.YtiddaabodkglmaaK1
namespace Go.Fx
open Ieee
def hueOk (rs ss : List Cel) : Bool := rowOk rs && rowOk ss && decide (rs.length = ss.length)
def hueR (rs ss : List Cel) : Nat := if hueOk rs ss = true then hueN (cnC rs) (cnC ss) rs.length else 0
theorem hueN_step {rs ss : List Cel} {k : Nat} (h1 : k < rs.length) (h2 : k < ss.length) : hueN (cnC rs) (cnC ss) (k + 1) = add32 (hueN (cnC rs) (cnC ss) k) (sub32 (mul32 (cn .f32 rs[k].re) (cn .f32 ss[k].im)) (mul32 (cn .f32 rs[k].im) (cn .f32 ss[k].re))) := by
  have e1 : (cnC rs).getD k ⟨0, 0, 0⟩ = rs[k].cn := by simp [List.getD_eq_getElem?_getD, h1]
  have e2 : (cnC ss).getD k ⟨0, 0, 0⟩ = ss[k].cn := by simp [List.getD_eq_getElem?_getD, h2]
  show add32 _ (hueX ((cnC rs).getD k ⟨0, 0, 0⟩) ((cnC ss).getD k ⟨0, 0, 0⟩)) = _
  rw [e1, e2]; rfl
theorem hueOk_turn (rs ss : List Cel) : hueOk ss rs = hueOk rs ss := by
  unfold hueOk
  rw [Bool.and_comm (rowOk ss), decide_eq_decide.2 (show ss.length = rs.length ↔ rs.length = ss.length from eq_comm)]
theorem hueOk_self (rs : List Cel) : hueOk rs rs = rowOk rs := by
  unfold hueOk; simp
/-- turned there and back -/
theorem hue_back {rs ss : List Cel} {x y : Nat} (hx : cn .f32 x = hueR rs ss) (hy : cn .f32 y = hueR ss rs) : feq .f32 x (Op.negFloat .f32 y) = true := by
  rw [← feq_cn_l, hx]
  unfold feq
  rw [order_fk, fk_neg, ← fk_cn .f32 y, hy]
  unfold hueR
  rw [hueOk_turn rs ss]
  by_cases h : hueOk rs ss = true
  · rw [if_pos h, if_pos h]
    unfold hueOk at h
    rw [Bool.and_eq_true, Bool.and_eq_true] at h
    have hl := of_decide_eq_true h.2
    obtain ⟨v, h1, h2, -⟩ := hueN_turn (gs := cnC rs) (hs := cnC ss) (by rw [rowOk_cnC]; exact h.1.1) (by rw [rowOk_cnC]; exact h.1.2) rs.length (rowOk_len h.1.1).2
    rw [← hl, h1.fk, h2.fk]
    simp
  · rw [if_neg h, if_neg h, fk_zero32]; rfl
theorem hue_none {rs : List Cel} {x : Nat} (hx : cn .f32 x = hueR rs rs) : feq .f32 x 0 = true := by
  rw [← feq_cn_l, hx]
  have : fk .f32 (hueR rs rs) = some 0 := by
    unfold hueR
    by_cases h : hueOk rs rs = true
    · rw [if_pos h]
      rw [hueOk_self] at h
      exact (hueN_self (gs := cnC rs) (by rw [rowOk_cnC]; exact h) _).fk
    · rw [if_neg h]; exact fk_zero32
  rw [feq_fk this fk_zero32]; rfl
end Go.Fx
namespace Go.Proofs.Ytiddaabodkglmaa
open Go.RowKit Go.Fx
set_option linter.unusedVariables false
set_option linter.unusedSimpArgs false
set_option maxRecDepth 100000 in
set_option maxHeartbeats 4000000 in
theorem iHueTurn_any (A B : Option Addr) (c d : Nat) (rs ss : List Cel) (w : World) (h : Rd w A (ccells rs)) (h' : Rd w B (ccells ss)) (hn : rs.length ≤ maxLen) (hn' : ss.length ≤ maxLen) :
    Calls Try.prog 79 #[.slice A rs.length c, .slice B ss.length d] w fun e w' => (∃ r, e = .returned (.tuple #[.float .f32 r, .bool (hueOk rs ss)]) ∧ cn .f32 r = hueR rs ss) ∧ Ext w w' := by
  have H := Lib.hid h
  have H' := Lib.hid h'
  clear h h'
  have K1 : Hid (∀ W, Ext w W → Calls Try.prog 129 #[.slice A rs.length c] W fun e w' => e = .returned (.bool (rowOk rs)) ∧ Ext W w') := Lib.hid (fun W hW => iRowOk_any A c rs W (H.out.ext hW) hn)
  have K2 : Hid (∀ W, Ext w W → Calls Try.prog 129 #[.slice B ss.length d] W fun e w' => e = .returned (.bool (rowOk ss)) ∧ Ext W w') := Lib.hid (fun W hW => iRowOk_any B d ss W (H'.out.ext hW) hn')
  unfold maxLen at hn hn'
  have hz : ∀ r, cn .f32 r = 0 → True := fun _ _ => trivial
  cases h1 : rowOk rs
  · have HO : Hid (hueOk rs ss = false) := Lib.hid (by unfold hueOk; rw [h1]; rfl)
    rw [h1] at K1
    go_enter Try.func79, Try.ntmps79
    go_wp2_with fail
    refine (K1.out _ (Ext.refl _)).mono ?_
    rintro e w1 ⟨rfl, hb1⟩
    go_wp2_with fail
    go_ret2
    exact ⟨⟨0, by rw [HO.out]; rfl, by unfold hueR; rw [HO.out]; rfl⟩, hb1⟩
  · rw [h1] at K1
    cases h2 : rowOk ss
    · have HO : Hid (hueOk rs ss = false) := Lib.hid (by unfold hueOk; rw [h2, Bool.and_false]; rfl)
      rw [h2] at K2
      go_enter Try.func79, Try.ntmps79
      go_wp2_with fail
      refine (K1.out _ (Ext.refl _)).mono ?_
      rintro e w1 ⟨rfl, hb1⟩
      go_wp2_with fail
      refine (K2.out _ hb1).mono ?_
      rintro e w2 ⟨rfl, hb2⟩
      go_wp2_with fail
      go_ret2
      exact ⟨⟨0, by rw [HO.out]; rfl, by unfold hueR; rw [HO.out]; rfl⟩, hb1.trans hb2⟩
    · rw [h2] at K2
      by_cases hl : rs.length = ss.length
      · have HO : Hid (hueOk rs ss = true) := Lib.hid (by unfold hueOk; rw [h1, h2, decide_eq_true hl]; rfl)
        have HR : Hid (hueR rs ss = hueN (cnC rs) (cnC ss) rs.length) := Lib.hid (by unfold hueR; rw [HO.out]; rfl)
        have hrl := rowOk_len h1
        rw [← hl] at K2 ⊢
        have HL := Lib.hid hl
        clear h1 h2 hl hn'
        go_enter Try.func79, Try.ntmps79
        go_wp2_with fail
        refine (K1.out _ (Ext.refl _)).mono ?_
        rintro e w1 ⟨rfl, hb1⟩
        go_wp2_with fail
        refine (K2.out _ hb1).mono ?_
        rintro e w2 ⟨rfl, hb2⟩
        replace hb2 := hb1.trans hb2
        clear hb1
        go_wp2_with fail
        go_loopw [6, 7, 8, 9, 10, 28] (fun s i c d x j wr => ∃ (k sb : Nat), k ≤ rs.length ∧ j = .int .i64 k ∧ s = .float .f32 sb ∧ Hid (cn .f32 sb = hueN (cnC rs) (cnC ss) k) ∧ Ext w wr) (fun _ _ _ _ _ j _ => rs.length - (intOf j).toNat)
        case atStart => exact ⟨0, 0, by omega, rfl, rfl, Lib.hid (show cn .f32 0 = 0 by decide +kernel), hb2⟩
        case round =>
          obtain ⟨k, sb, hk, rfl, rfl, HS, hbr⟩ := hrel
          clear hb2
          by_cases hlt : k < rs.length
          · have hlt' : k < ss.length := by rw [← HL.out]; exact hlt
            obtain ⟨b, off, rfl, hbw, hy, hcx⟩ := rc_at (H.out.ext hbr) hlt
            obtain ⟨b', off', rfl, hbw', hy', hcx'⟩ := rc_at (H'.out.ext hbr) hlt'
            have HT := Lib.hid (hueN_step hlt hlt')
            generalize rs[k] = C at *
            generalize ss[k] = D at *
            go_wp2_with fail
            go_quiet (fail)
            all_goals go_wp2_with (with_reducible first | (refine upon_mul ?_; intro p np hp) | (refine upon_sub ?_; intro q nq hq) | (refine upon_add ?_; intro s ns hs))
            all_goals rename_i p1 np1 hp1
            all_goals go_roundw
            all_goals first | (simp [intOf]; done) | (simp [intOf]; omega) | skip
            all_goals exact ⟨k + 1, _, by omega, by go_num, rfl, Lib.hid (by rw [HT.out, ← HS.out, hs, hq, hp, hp1]), hbr.trans (by (repeat (first | exact Below.refl _ _ | assumption | refine below_drewN ?_ _ | refine Below.drew ?_ | refine Below.alloc ?_ (by first | exact Nat.le_refl _ | (simp; done) | (simp; omega)) _ | refine Below.setCell ?_ (by first | exact Nat.le_refl _ | (simp; done) | (simp; omega)) _)))⟩
          · obtain rfl : k = rs.length := by omega
            go_wp2_with fail
            go_ret2
            exact ⟨⟨_, by rw [HO.out]; rfl, by rw [HR.out, HS.out]⟩, hbr⟩
      · have HO : Hid (hueOk rs ss = false) := Lib.hid (by unfold hueOk; rw [decide_eq_false hl, Bool.and_false])
        go_enter Try.func79, Try.ntmps79
        go_wp2_with fail
        refine (K1.out _ (Ext.refl _)).mono ?_
        rintro e w1 ⟨rfl, hb1⟩
        go_wp2_with fail
        refine (K2.out _ hb1).mono ?_
        rintro e w2 ⟨rfl, hb2⟩
        go_wp2_with fail
        go_ret2
        exact ⟨⟨0, by rw [HO.out]; rfl, by unfold hueR; rw [HO.out]; rfl⟩, hb1.trans hb2⟩
set_option maxRecDepth 100000 in
set_option maxHeartbeats 4000000 in
theorem drawMeanRow_any (A : Option Addr) (c : Nat) (bs : List Int) (w : World) (h : Rd w A (bs.map by8)) (hn : bs.length ≤ 1048576) (hb : ∀ x ∈ bs, 0 ≤ x ∧ x ≤ 255) :
    Calls Try.prog 166 #[.slice A bs.length c] w fun e w' => (∃ (A : Option Addr) (c : Nat) (rs : List Cel) (B : Option Addr) (d : Nat) (ss : List Cel), e = .returned (.tuple #[.slice A rs.length c, .slice B ss.length d]) ∧ Rd w' A (ccells rs) ∧ rs.length ≤ 65 ∧ Rd w' B (ccells ss) ∧ ss.length ≤ 65) ∧ Ext w w' := by
  go_enter Try.func166, Try.ntmps166
  go_wp2_with fail
  refine (new_any A c bs _ h hn hb).mono ?_
  rintro e w1 ⟨⟨bk, rfl, hbk, hbz, hcu⟩, hb1⟩
  go_wp2_with fail
  refine (any_any bk _ hcu).mono ?_
  rintro e w2 ⟨⟨v2, rs, rfl, ho2, hl2⟩, hc2⟩
  unfold OC at ho2
  generalize hrn : rs.length = n2 at ho2 hl2
  obtain ⟨A2, c2, rfl, -, -⟩ := own_slice ho2
  go_wp2_with fail
  refine (once_any bk 8 _ hc2.1 (by omega)).mono ?_
  rintro e w3 ⟨⟨q, rfl⟩, hc3⟩
  replace ho2 := own_up ho2 hc3.2 hbz
  replace hc2 := hc2.trans hc3
  have hw1 := hc2.size
  clear hc3
  cases q
  · go_wp2_with fail
    refine (cells_any bk n2 _ hc2.1 (by omega) (by omega)).mono ?_
    rintro e w4 ⟨⟨v4, ss, rfl, ho4, hl4⟩, hc4⟩
    replace ho2 := own_up ho2 hc4.2 hbz
    unfold OC at ho4
    generalize hsn : ss.length = n4 at ho4 hl4
    obtain ⟨A4, c4, rfl, -, -⟩ := own_slice ho4
    replace hc2 := hc2.trans hc4
    go_wp2_with fail
    go_ret2
    exact ⟨⟨A2, c2, rs, A4, c4, ss, by rw [hrn, hsn]; rfl, own_rd ho2, by omega, own_rd ho4, by omega⟩, ext_turn hb1 hc2.2 hbk⟩
  · go_wp2_with fail
    refine (any_any bk _ hc2.1).mono ?_
    rintro e w4 ⟨⟨v4, ss, rfl, ho4, hl4⟩, hc4⟩
    replace ho2 := own_up ho2 hc4.2 hbz
    unfold OC at ho4
    generalize hsn : ss.length = n4 at ho4 hl4
    obtain ⟨A4, c4, rfl, -, -⟩ := own_slice ho4
    replace hc2 := hc2.trans hc4
    go_wp2_with fail
    go_ret2
    exact ⟨⟨A2, c2, rs, A4, c4, ss, by rw [hrn, hsn]; rfl, own_rd ho2, by omega, own_rd ho4, by omega⟩, ext_turn hb1 hc2.2 hbk⟩
set_option maxRecDepth 100000 in
theorem drawHueTurn_any (A : Option Addr) (c : Nat) (bs : List Int) (w : World) (h : Rd w A (bs.map by8)) (hn : bs.length ≤ 1048576) (hb : ∀ x ∈ bs, 0 ≤ x ∧ x ≤ 255) :
    Calls Try.prog 78 #[.slice A bs.length c] w fun e w' => (∃ (A : Option Addr) (c : Nat) (rs : List Cel) (B : Option Addr) (d : Nat) (ss : List Cel), e = .returned (.tuple #[.slice A rs.length c, .slice B ss.length d]) ∧ Rd w' A (ccells rs) ∧ rs.length ≤ 65 ∧ Rd w' B (ccells ss) ∧ ss.length ≤ 65) ∧ Ext w w' := by
  go_enter Try.func78, Try.ntmps78
  go_wp2_with fail
  refine (drawMeanRow_any A c bs _ h hn hb).mono ?_
  rintro e w1 ⟨⟨A1, c1, rs, B, d, ss, rfl, h1, h2, h3, h4⟩, hb1⟩
  go_wp2_with fail
  go_ret2
  exact ⟨⟨A1, c1, rs, B, d, ss, rfl, h1, h2, h3, h4⟩, hb1⟩
set_option maxRecDepth 100000 in
set_option maxHeartbeats 4000000 in
theorem hueTurnSides_walk (A0 : Option Addr) (c0 : Nat) (code : List Int) (w : World) (h0 : Rd w A0 (code.map by8)) (hm0 : code.length ≤ maxLen) (hb0 : ∀ x ∈ code, 0 ≤ x ∧ x ≤ 255) :
    Calls Try.prog 13 #[.slice A0 code.length c0] w fun e w' => e = .returned (.bool true) ∧ Ext w w' := by
  have hM0 := hm0
  unfold maxLen at hM0
  have H0 := Lib.hid h0
  have HB0 := Lib.hid hb0
  clear h0 hb0
  by_cases hbig : 1048576 < code.length
  · go_enter Try.func13, Try.ntmps13
    go_wp2_with (go_at_call 39; refine (big_any _ _ _ _ hM0).mono ?_; rintro e w1 ⟨rfl, rfl⟩)
    go_ret
    exact ⟨rfl, Ext.refl _⟩
  have hn0 : code.length ≤ 1048576 := by omega
  go_enter Try.func13, Try.ntmps13
  go_wp2_with (go_at_call 39; refine (big_any _ _ _ _ hM0).mono ?_; rintro e w1 ⟨rfl, rfl⟩)
  refine (drawHueTurn_any A0 c0 code _ H0.out hn0 HB0.out).mono ?_
  rintro e w1 ⟨⟨A, c, rs, B, d, ss, rfl, hr, hl, hr', hl'⟩, hb1⟩
  have hm : rs.length ≤ maxLen := by unfold maxLen; omega
  have hm' : ss.length ≤ maxLen := by unfold maxLen; omega
  have K1 : Hid (∀ W, Ext w1 W → Calls Try.prog 79 #[.slice A rs.length c, .slice B ss.length d] W fun e w' => (∃ r, e = .returned (.tuple #[.float .f32 r, .bool (hueOk rs ss)]) ∧ cn .f32 r = hueR rs ss) ∧ Ext W w') := Lib.hid (fun W hW => iHueTurn_any A B c d rs ss W (hr.ext hW) (hr'.ext hW) hm hm')
  have K2 : Hid (∀ W, Ext w1 W → Calls Try.prog 79 #[.slice B ss.length d, .slice A rs.length c] W fun e w' => (∃ r, e = .returned (.tuple #[.float .f32 r, .bool (hueOk rs ss)]) ∧ cn .f32 r = hueR ss rs) ∧ Ext W w') := Lib.hid (fun W hW => by
    have := iHueTurn_any B A d c ss rs W (hr'.ext hW) (hr.ext hW) hm' hm
    rw [hueOk_turn] at this; exact this)
  have K3 : Hid (∀ W, Ext w1 W → Calls Try.prog 79 #[.slice A rs.length c, .slice A rs.length c] W fun e w' => (∃ r, e = .returned (.tuple #[.float .f32 r, .bool (rowOk rs)]) ∧ cn .f32 r = hueR rs rs) ∧ Ext W w') := Lib.hid (fun W hW => by
    have := iHueTurn_any A A c c rs rs W (hr.ext hW) (hr.ext hW) hm hm
    rw [hueOk_self] at this; exact this)
  have K4 : Hid (∀ W, Ext w1 W → Calls Try.prog 80 #[.slice A rs.length c] W fun e w' => e = .returned (.bool (rowOk rs)) ∧ Ext W w') := Lib.hid (fun W hW => sRowOk_any A c rs W (hr.ext hW) hm)
  have HB := Lib.hid (fun x y => hue_back (rs := rs) (ss := ss) (x := x) (y := y))
  have HN := Lib.hid (fun x => hue_none (rs := rs) (x := x))
  generalize hueOk rs ss = ok at K1 K2
  generalize rowOk rs = fine at K3 K4
  generalize hueR rs ss = r1 at K1 HB
  generalize hueR ss rs = r2 at K2 HB
  generalize hueR rs rs = r3 at K3 HN
  clear hr hr' hm hm'
  go_wp2_with fail
  refine (K1.out _ (Ext.refl _)).mono ?_
  rintro e w2 ⟨⟨x, rfl, ex⟩, hb2⟩
  have EX := Lib.hid ex
  clear ex
  go_wp2_with fail
  refine (K2.out _ hb2).mono ?_
  rintro e w3 ⟨⟨y, rfl, ey⟩, hb3⟩
  replace hb3 := hb2.trans hb3
  have f1 := HB.out x y EX.out ey
  clear ey hb2
  go_wp2_with fail
  refine (K3.out _ hb3).mono ?_
  rintro e w4 ⟨⟨z, rfl, ez⟩, hb4⟩
  replace hb4 := hb3.trans hb4
  have f2 := HN.out z ez
  clear ez hb3
  go_wp2_with fail
  refine (K4.out _ hb4).mono ?_
  rintro e w5 ⟨rfl, hb5⟩
  go_wp2_with fail
  go_ret
  exact ⟨by simp, hb1.trans (hb4.trans hb5)⟩
end Go.Proofs.Ytiddaabodkglmaa

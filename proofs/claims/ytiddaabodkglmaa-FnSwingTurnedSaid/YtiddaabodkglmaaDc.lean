import Derived.Test.YtiddaabodkglmaaDd
import Derived.Test.YtiddaabodkglmaaCl
namespace Go.Fx
theorem bc_not {rs : List Nat} (h : bcOk rs = false) : bcRe rs = 0 ∧ bcIm rs = 0 := by unfold bcRe bcIm; rw [h]; exact ⟨rfl, rfl⟩
theorem bc_is {rs : List Nat} {gs : List Cel} (h : bcOk rs = true) (hg : cnC gs = bcRow rs) : bcRe rs = quo32 (sumN (gs.map Cel.re) 3) 1082130432 ∧ bcIm rs = quo32 (sumN (gs.map Cel.im) 3) 1082130432 := by
  unfold bcRe bcIm; rw [if_pos h, if_pos h, sum_re hg, sum_im hg]; exact ⟨rfl, rfl⟩
theorem sumN_next {rs : List Nat} {k x y : Nat} (h : cn .f32 x = sumN rs k) (hk : k + 1 < rs.length) (hy : cn .f32 y = add32 (cn .f32 x) (cn .f32 rs[k + 1])) : cn .f32 y = sumN rs (k + 1) := by
  rw [hy, h, sumN]; simp [List.getD_eq_getElem?_getD, hk]
end Go.Fx
namespace Go.Proofs.Ytiddaabodkglmaa
open Go.RowKit Go.Fx
set_option linter.unusedVariables false
set_option linter.unusedSimpArgs false
set_option maxRecDepth 100000 in
set_option maxHeartbeats 4000000 in
theorem sBurstColour_any (A : Option Addr) (c : Nat) (rs : List Nat) (w : World) (h : Rd w A (rs.map fl)) (hn : rs.length ≤ 1048576) (hc : rs.length ≤ c) :
    Calls Try.prog 202 #[.slice A rs.length c] w fun e w' => (∃ re im, e = .returned (.tuple #[.complex .f32 re im, .bool (bcOk rs)]) ∧ cn .f32 re = bcRe rs ∧ cn .f32 im = bcIm rs) ∧ Ext w w' := by
  have hm : rs.length ≤ maxLen := by unfold maxLen; omega
  have H := Lib.hid h
  clear h
  have hbl : (brst rs).length ≤ 1048576 := by unfold brst; split <;> simp; omega
  have h0 : cn .f32 0 = 0 := by decide +kernel
  cases hl : lineOk rs
  · have hok : bcOk rs = false := by unfold bcOk; rw [hl]; rfl
    have HB := Lib.hid (bc_not hok)
    have HO := Lib.hid hok
    clear hok
    go_enter Try.func202, Try.ntmps202
    go_wp2_with (first | (go_at_call 160; refine (sBurstOf_any _ _ _ _ H.out hm hc).mono ?_; rintro e w1 ⟨⟨v, rfl, ho⟩, hb1⟩; obtain ⟨A1, c1, rfl, -, -⟩ := own_slice ho) | (go_at_call 184; refine (sDecodeCells_any A1 c1 (brst rs) false _ (own_rd ho) hbl (own_cap ho)).mono ?_; rintro e w2 ⟨⟨v2, gs, rfl, ho2, hg2⟩, hb2⟩) | (go_at_call 110; refine (sLineOk_any _ _ _ _ ((H.out.ext hb1).ext hb2) hm).mono ?_; rintro e w3 ⟨rfl, rfl⟩; rw [hl]))
    go_ret2
    exact ⟨⟨0, 0, by rw [HO.out]; rfl, by rw [HB.out.1, h0], by rw [HB.out.2, h0]⟩, hb1.trans hb2⟩
  · cases hd : decodeOk false (brst rs)
    · have hok : bcOk rs = false := by unfold bcOk; rw [hl, hd]; rfl
      have HB := Lib.hid (bc_not hok)
      have HO := Lib.hid hok
      clear hok
      go_enter Try.func202, Try.ntmps202
      go_wp2_with (first | (go_at_call 160; refine (sBurstOf_any _ _ _ _ H.out hm hc).mono ?_; rintro e w1 ⟨⟨v, rfl, ho⟩, hb1⟩; obtain ⟨A1, c1, rfl, -, -⟩ := own_slice ho) | (go_at_call 184; refine (sDecodeCells_any A1 c1 (brst rs) false _ (own_rd ho) hbl (own_cap ho)).mono ?_; rintro e w2 ⟨⟨v2, gs, rfl, ho2, hg2⟩, hb2⟩; rw [hd]) | (go_at_call 110; refine (sLineOk_any _ _ _ _ ((H.out.ext hb1).ext hb2) hm).mono ?_; rintro e w3 ⟨rfl, rfl⟩; rw [hl]))
      go_ret2
      exact ⟨⟨0, 0, by rw [HO.out]; rfl, by rw [HB.out.1, h0], by rw [HB.out.2, h0]⟩, hb1.trans hb2⟩
    · have hok : bcOk rs = true := by unfold bcOk; rw [hl, hd]; rfl
      have HO := Lib.hid hok
      have hrl := bcRow_len hl
      have HR : Hid (decodeR false (brst rs) = bcRow rs) := Lib.hid (decodeR_ok hd)
      clear hok
      go_enter Try.func202, Try.ntmps202
      go_wp2_with (first | (go_at_call 160; refine (sBurstOf_any _ _ _ _ H.out hm hc).mono ?_; rintro e w1 ⟨⟨v, rfl, ho⟩, hb1⟩; obtain ⟨A1, c1, rfl, -, -⟩ := own_slice ho) | (go_at_call 184; refine (sDecodeCells_any A1 c1 (brst rs) false _ (own_rd ho) hbl (own_cap ho)).mono ?_; rintro e w2 ⟨⟨v2, gs, rfl, ho2, hg2⟩, hb2⟩; rw [hd]; rw [HR.out] at hg2; have hgl := (cnC_len hg2).trans hrl; have HG := Lib.hid hg2; clear hg2; unfold OC at ho2; rw [hgl] at ho2; obtain ⟨A2, c2, rfl, hr2, -⟩ := own_slice ho2; obtain ⟨b, off, rfl, hbw, hy0, hc0⟩ := rc_at hr2 (i := 0) (by omega); rw [Nat.zero_mul, Nat.add_zero] at hy0 hc0) | (go_at_call 110; refine (sLineOk_any _ _ _ _ ((H.out.ext hb1).ext hb2) hm).mono ?_; rintro e w3 ⟨rfl, rfl⟩; rw [hl]))
      have HB2 := Lib.hid (hb1.trans hb2)
      have HR2 := Lib.hid hr2
      clear hr2 ho2 ho hb1 hb2 H
      go_loopw [6, 7, 8] (fun s t i wr => ∃ (k x y : Nat), k < 4 ∧ i = .int .i64 (k + 1) ∧ s = .float .f32 x ∧ t = .float .f32 y ∧ Hid (cn .f32 x = sumN (gs.map Cel.re) k) ∧ Hid (cn .f32 y = sumN (gs.map Cel.im) k) ∧ ∃ n, wr = w2.drewN n) (fun _ _ i _ => 5 - (intOf i).toNat)
      case atStart => exact ⟨0, _, _, by omega, rfl, rfl, rfl, Lib.hid (by simp [sumN, hgl]), Lib.hid (by simp [sumN, hgl]), 0, rfl⟩
      case round =>
        obtain ⟨k, x, y, hk, rfl, rfl, rfl, HX, HY, n, rfl⟩ := hrel
        clear hy0 hc0
        by_cases hlt : k + 1 < 4
        · obtain ⟨b', off', hbo, hbw', hy1, hc1⟩ := rc_at HR2.out (i := k + 1) (by omega)
          cases hbo
          have HX2 : Hid (∀ z, cn .f32 z = add32 (cn .f32 x) (cn .f32 gs[k + 1].re) → cn .f32 z = sumN (gs.map Cel.re) (k + 1)) := Lib.hid (fun z hz => sumN_next HX.out (by rw [List.length_map]; omega) (by rw [hz]; simp))
          have HY2 : Hid (∀ z, cn .f32 z = add32 (cn .f32 y) (cn .f32 gs[k + 1].im) → cn .f32 z = sumN (gs.map Cel.im) (k + 1)) := Lib.hid (fun z hz => sumN_next HY.out (by rw [List.length_map]; omega) (by rw [hz]; simp))
          go_wp2_with (with_reducible first | (refine upon_add ?_; intro b n hb) | (refine upon_sub ?_; intro b n hb) | (refine upon_mul ?_; intro b n hb) | (refine upon_quo ?_; intro b n hb))
          rename_i b1 n1 e1
          go_roundw
          case rel => exact ⟨k + 1, b1, b, hlt, by go_num, rfl, rfl, Lib.hid (HX2.out _ e1), Lib.hid (HY2.out _ hb), _, rfl⟩
          case measure => simp [intOf]; omega
        · have hk3 : k = 3 := by omega
          have HV := Lib.hid (bc_is HO.out HG.out)
          go_wp2_with (with_reducible first | (refine upon_add ?_; intro b n hb) | (refine upon_sub ?_; intro b n hb) | (refine upon_mul ?_; intro b n hb) | (refine upon_quo ?_; intro b n hb))
          rename_i b1 n1 e1
          go_ret2
          rw [c4_0] at e1 hb
          refine ⟨⟨b1, b, by rw [HO.out]; rfl, ?_, ?_⟩, HB2.out.trans (by (repeat (first | exact Below.refl _ _ | assumption | refine below_drewN ?_ _ | refine Below.drew ?_ | refine Below.alloc ?_ (by first | exact Nat.le_refl _ | (simp; done) | (simp; omega)) _ | refine Below.setCell ?_ (by first | exact Nat.le_refl _ | (simp; done) | (simp; omega)) _)))⟩
          · rw [e1, HX.out, HV.out.1, hk3]
          · rw [hb, HY.out, HV.out.2, hk3]
set_option maxRecDepth 100000 in
set_option maxHeartbeats 4000000 in
theorem iBurstColour_any (A : Option Addr) (c : Nat) (rs : List Nat) (w : World) (h : Rd w A (rs.map fl)) (hn : rs.length ≤ 1048576) (hc : rs.length ≤ c) :
    Calls Try.prog 232 #[.slice A rs.length c] w fun e w' => (∃ re im, e = .returned (.tuple #[.complex .f32 re im, .bool (bcOk rs)]) ∧ cn .f32 re = bcRe rs ∧ cn .f32 im = bcIm rs) ∧ Ext w w' := by
  have hm : rs.length ≤ maxLen := by unfold maxLen; omega
  have H := Lib.hid h
  clear h
  have hbl : (brst rs).length ≤ 1048576 := by unfold brst; split <;> simp; omega
  have h0 : cn .f32 0 = 0 := by decide +kernel
  cases hl : lineOk rs
  · have hok : bcOk rs = false := by unfold bcOk; rw [hl]; rfl
    have HB := Lib.hid (bc_not hok)
    have HO := Lib.hid hok
    clear hok
    go_enter Try.func232, Try.ntmps232
    go_wp2_with (first | (go_at_call 108; refine (iBurstOf_any _ _ _ _ H.out hm hc).mono ?_; rintro e w1 ⟨⟨v, rfl, ho⟩, hb1⟩; obtain ⟨A1, c1, rfl, -, -⟩ := own_slice ho) | (go_at_call 186; refine (iDecodeCells_any A1 c1 (brst rs) false _ (own_rd ho) hbl (own_cap ho)).mono ?_; rintro e w2 ⟨⟨v2, gs, rfl, ho2, hg2⟩, hb2⟩) | (go_at_call 161; refine (iLineOk_any _ _ _ _ ((H.out.ext hb1).ext hb2) hm).mono ?_; rintro e w3 ⟨rfl, rfl⟩; rw [hl]))
    go_ret2
    exact ⟨⟨0, 0, by rw [HO.out]; rfl, by rw [HB.out.1, h0], by rw [HB.out.2, h0]⟩, hb1.trans hb2⟩
  · cases hd : decodeOk false (brst rs)
    · have hok : bcOk rs = false := by unfold bcOk; rw [hl, hd]; rfl
      have HB := Lib.hid (bc_not hok)
      have HO := Lib.hid hok
      clear hok
      go_enter Try.func232, Try.ntmps232
      go_wp2_with (first | (go_at_call 108; refine (iBurstOf_any _ _ _ _ H.out hm hc).mono ?_; rintro e w1 ⟨⟨v, rfl, ho⟩, hb1⟩; obtain ⟨A1, c1, rfl, -, -⟩ := own_slice ho) | (go_at_call 186; refine (iDecodeCells_any A1 c1 (brst rs) false _ (own_rd ho) hbl (own_cap ho)).mono ?_; rintro e w2 ⟨⟨v2, gs, rfl, ho2, hg2⟩, hb2⟩; rw [hd]) | (go_at_call 161; refine (iLineOk_any _ _ _ _ ((H.out.ext hb1).ext hb2) hm).mono ?_; rintro e w3 ⟨rfl, rfl⟩; rw [hl]))
      go_ret2
      exact ⟨⟨0, 0, by rw [HO.out]; rfl, by rw [HB.out.1, h0], by rw [HB.out.2, h0]⟩, hb1.trans hb2⟩
    · have hok : bcOk rs = true := by unfold bcOk; rw [hl, hd]; rfl
      have HO := Lib.hid hok
      have hrl := bcRow_len hl
      have HR : Hid (decodeR false (brst rs) = bcRow rs) := Lib.hid (decodeR_ok hd)
      clear hok
      go_enter Try.func232, Try.ntmps232
      go_wp2_with (first | (go_at_call 108; refine (iBurstOf_any _ _ _ _ H.out hm hc).mono ?_; rintro e w1 ⟨⟨v, rfl, ho⟩, hb1⟩; obtain ⟨A1, c1, rfl, -, -⟩ := own_slice ho) | (go_at_call 186; refine (iDecodeCells_any A1 c1 (brst rs) false _ (own_rd ho) hbl (own_cap ho)).mono ?_; rintro e w2 ⟨⟨v2, gs, rfl, ho2, hg2⟩, hb2⟩; rw [hd]; rw [HR.out] at hg2; have hgl := (cnC_len hg2).trans hrl; have HG := Lib.hid hg2; clear hg2; unfold OC at ho2; rw [hgl] at ho2; obtain ⟨A2, c2, rfl, hr2, -⟩ := own_slice ho2; have hcp2 := own_cap ho2; obtain ⟨b, off, rfl, hbw, hy0, hc0⟩ := rc_at hr2 (i := 0) (by omega); rw [Nat.zero_mul, Nat.add_zero] at hy0 hc0) | (go_at_call 161; refine (iLineOk_any _ _ _ _ ((H.out.ext hb1).ext hb2) hm).mono ?_; rintro e w3 ⟨rfl, rfl⟩; rw [hl]))
      have HB2 := Lib.hid (hb1.trans hb2)
      have HR2 := Lib.hid hr2
      clear hr2 ho2 ho hb1 hb2 H
      go_loopw [6, 8, 29] (fun s p i wr => ∃ (k x y : Nat), k < 4 ∧ i = .int .i64 k ∧ s = .complex .f32 x y ∧ Hid (cn .f32 x = sumN (gs.map Cel.re) k) ∧ Hid (cn .f32 y = sumN (gs.map Cel.im) k) ∧ Ext w2 wr) (fun _ _ i _ => 5 - (intOf i).toNat)
      case atStart => exact ⟨0, _, _, by omega, rfl, rfl, Lib.hid (by simp [sumN, hgl]), Lib.hid (by simp [sumN, hgl]), Ext.refl _⟩
      case round =>
        obtain ⟨k, x, y, hk, rfl, rfl, HX, HY, hbr⟩ := hrel
        clear hy0 hc0
        by_cases hlt : k + 1 < 4
        · obtain ⟨b', off', hbo, hbw', hy1, hc1⟩ := rc_at (HR2.out.ext hbr) (i := k + 1) (by omega)
          cases hbo
          rw [show off + (k + 1) * 2 = off + 2 + k * 2 by omega] at hy1 hc1
          have HX2 : Hid (∀ z, cn .f32 z = add32 (cn .f32 x) (cn .f32 gs[k + 1].re) → cn .f32 z = sumN (gs.map Cel.re) (k + 1)) := Lib.hid (fun z hz => sumN_next HX.out (by rw [List.length_map]; omega) (by rw [hz]; simp))
          have HY2 : Hid (∀ z, cn .f32 z = add32 (cn .f32 y) (cn .f32 gs[k + 1].im) → cn .f32 z = sumN (gs.map Cel.im) (k + 1)) := Lib.hid (fun z hz => sumN_next HY.out (by rw [List.length_map]; omega) (by rw [hz]; simp))
          go_wp2_with (go_at_call 197; refine (plus_any _ _ _ _ _).mono ?_; rintro e w3 ⟨⟨x1, y1, rfl, e1, e2⟩, n3, rfl⟩)
          go_roundw
          case rel => exact ⟨k + 1, x1, y1, hlt, by go_num, rfl, Lib.hid (HX2.out _ e1), Lib.hid (HY2.out _ e2), hbr.trans (by (repeat (first | exact Below.refl _ _ | assumption | refine below_drewN ?_ _ | refine Below.drew ?_ | refine Below.alloc ?_ (by first | exact Nat.le_refl _ | (simp; done) | (simp; omega)) _ | refine Below.setCell ?_ (by first | exact Nat.le_refl _ | (simp; done) | (simp; omega)) _)))⟩
          case measure => simp [intOf]; omega
        · have hk3 : k = 3 := by omega
          have HV := Lib.hid (bc_is HO.out HG.out)
          go_wp2_with (with_reducible first | (refine upon_add ?_; intro b n hb) | (refine upon_sub ?_; intro b n hb) | (refine upon_mul ?_; intro b n hb) | (refine upon_quo ?_; intro b n hb))
          rename_i b1 n1 e1
          go_ret2
          rw [c4_0] at e1 hb
          refine ⟨⟨b1, b, by rw [HO.out]; rfl, ?_, ?_⟩, HB2.out.trans (hbr.trans (by (repeat (first | exact Below.refl _ _ | assumption | refine below_drewN ?_ _ | refine Below.drew ?_ | refine Below.alloc ?_ (by first | exact Nat.le_refl _ | (simp; done) | (simp; omega)) _ | refine Below.setCell ?_ (by first | exact Nat.le_refl _ | (simp; done) | (simp; omega)) _))))⟩
          · rw [e1, HX.out, HV.out.1, hk3]
          · rw [hb, HY.out, HV.out.2, hk3]
end Go.Proofs.Ytiddaabodkglmaa

import Derived.Test.YtiddaabodkglmaaCl
import Derived.Test.YtiddaabodkglmaaGa
namespace Go.Proofs.Ytiddaabodkglmaa
open Go.RowKit Go.Fx
set_option linter.unusedVariables false
set_option linter.unusedSimpArgs false

set_option maxRecDepth 100000 in
set_option maxHeartbeats 4000000 in
theorem levels_walk (A0 : Option Addr) (c0 : Nat) (rs : List Nat) (w : World) (h0 : Rd w A0 (rs.map fl)) (hm0 : rs.length ≤ maxLen)  :
    Calls Try.prog 10 #[.slice A0 rs.length c0] w fun e w' => e = .returned (.bool true) ∧ Ext w w' := by
  have hM0 := hm0
  unfold maxLen at hM0
  have H0 := Lib.hid h0
  clear h0
  by_cases hbig0 : 1048576 < rs.length
  · go_enter Try.func10, Try.ntmps10
    go_wp2_with fail
    go_ret
    exact ⟨rfl, Ext.refl _⟩
  have hn0 : rs.length ≤ 1048576 := by omega
  clear hbig0
  go_enter Try.func10, Try.ntmps10
  have hB0 : Ext w w := Ext.refl w
  go_wp2_with fail
  refine (toF_any A0 c0 rs _ (H0.out.ext hB0) hn0).mono ?_
  rintro e w1 ⟨⟨v1, rfl, o1⟩, hb1⟩
  have hs1 := ext_size hb1
  have hB1 := Ext.trans hB0 hb1
  have io1 := own_in o1
  obtain ⟨Av1, cv1, rfl, -, zv1⟩ := own_slice o1
  go_wp2_with fail
  refine (sLevels_any Av1 cv1 rs _ (own_rd o1) hm0 (own_cap o1)).mono ?_
  rintro e w2 ⟨⟨p2, q2, rfl, ht2, hf2⟩, hb2⟩
  have hs2 := ext_size hb2
  have hB2 := Ext.trans hB1 hb2
  replace o1 := own_ext o1 hb2
  go_wp2_with fail
  refine (toF_any A0 c0 rs _ (H0.out.ext hB2) hn0).mono ?_
  rintro e w3 ⟨⟨v3, rfl, o3⟩, hb3⟩
  have hs3 := ext_size hb3
  have hB3 := Ext.trans hB2 hb3
  replace o1 := own_ext o1 hb3
  have io3 := own_in o3
  obtain ⟨Av3, cv3, rfl, -, zv3⟩ := own_slice o3
  go_wp2_with fail
  refine (iLevels_any Av3 cv3 rs _ (own_rd o3) hm0 (own_cap o3)).mono ?_
  rintro e w4 ⟨⟨p4, q4, rfl, ht4, hf4⟩, hb4⟩
  have hs4 := ext_size hb4
  have hB4 := Ext.trans hB3 hb4
  replace o1 := own_ext o1 hb4
  replace o3 := own_ext o3 hb4
  have hp : cn .f32 p4 = cn .f32 p2 := by
    cases hl : levelsOk rs
    · rw [(hf4 hl).1, (hf2 hl).1]
    · rw [(ht4 hl).1, (ht2 hl).1]
  have hq : cn .f32 q4 = cn .f32 q2 := by
    cases hl : levelsOk rs
    · rw [(hf4 hl).2, (hf2 hl).2]
    · rw [(ht4 hl).2, (ht2 hl).2]
  clear ht4 ht2 hf4 hf2
  have w1' := widen_run p4
  have w2' := widen_run p2
  have w3' := widen_run q4
  have w4' := widen_run q2
  go_wp2_with fail
  refine (sameFloat_any _ _ (by rw [cn_widened, cn_widened, hp]) _).mono ?_
  rintro e w5 ⟨rfl, n, hw⟩
  have hb5 : Ext w4 w5 := by rw [hw]; first | exact Ext.drewN _ _ | exact (Ext.drewN _ _).trans (Ext.drewN _ _)
  clear hw
  have hs5 := ext_size hb5
  have hB5 := Ext.trans hB4 hb5
  replace o1 := own_ext o1 hb5
  replace o3 := own_ext o3 hb5
  go_wp2_with fail
  refine (sameFloat_any _ _ (by rw [cn_widened, cn_widened, hq]) _).mono ?_
  rintro e w6 ⟨rfl, n, hw⟩
  have hb6 : Ext w5 w6 := by rw [hw]; first | exact Ext.drewN _ _ | exact (Ext.drewN _ _).trans (Ext.drewN _ _)
  clear hw
  have hs6 := ext_size hb6
  have hB6 := Ext.trans hB5 hb6
  replace o1 := own_ext o1 hb6
  replace o3 := own_ext o3 hb6
  go_wp2_with fail
  refine (toF_any A0 c0 rs _ (H0.out.ext hB6) hn0).mono ?_
  rintro e w7 ⟨⟨v5, rfl, o5⟩, hb7⟩
  have hs7 := ext_size hb7
  have hB7 := Ext.trans hB6 hb7
  replace o1 := own_ext o1 hb7
  replace o3 := own_ext o3 hb7
  have io5 := own_in o5
  obtain ⟨Av5, cv5, rfl, -, zv5⟩ := own_slice o5
  go_wp2_with fail
  refine (eqF_any Av3 Av5 cv3 cv5 rs rs _ (own_rd o3) (own_rd o5) (by unfold maxLen; omega) rfl).mono ?_
  rintro e w8 ⟨rfl, n8, hw⟩
  have hb8 : Ext w7 w8 := hw ▸ Ext.drewN _ _
  clear hw
  have hs8 := ext_size hb8
  have hB8 := Ext.trans hB7 hb8
  replace o1 := own_ext o1 hb8
  replace o3 := own_ext o3 hb8
  replace o5 := own_ext o5 hb8
  go_wp2_with fail
  go_ret
  exact ⟨rfl, hB8⟩
end Go.Proofs.Ytiddaabodkglmaa

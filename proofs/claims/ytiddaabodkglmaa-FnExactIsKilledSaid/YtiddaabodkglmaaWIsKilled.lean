import Derived.Test.YtiddaabodkglmaaDf
import Derived.Test.YtiddaabodkglmaaGb
namespace Go.Proofs.Ytiddaabodkglmaa
open Go.RowKit Go.Fx
set_option linter.unusedVariables false
set_option linter.unusedSimpArgs false

set_option maxRecDepth 100000 in
set_option maxHeartbeats 4000000 in
theorem isKilled_walk (A0 : Option Addr) (c0 : Nat) (rs : List Nat) (A1 : Option Addr) (c1 : Nat) (ss : List Nat) (x : Nat) (w : World) (h0 : Rd w A0 (rs.map fl)) (hm0 : rs.length ≤ maxLen) (h1 : Rd w A1 (ss.map fl)) (hm1 : ss.length ≤ maxLen)  :
    Calls Try.prog 25 #[.slice A0 rs.length c0, .slice A1 ss.length c1, .float .f32 x] w fun e w' => e = .returned (.bool true) ∧ Ext w w' := by
  have hM0 := hm0
  unfold maxLen at hM0
  have H0 := Lib.hid h0
  clear h0
  have hM1 := hm1
  unfold maxLen at hM1
  have H1 := Lib.hid h1
  clear h1
  by_cases hbig0 : 1048576 < rs.length
  · go_enter Try.func25, Try.ntmps25
    go_wp2_with fail
    go_ret
    exact ⟨rfl, Ext.refl _⟩
  have hn0 : rs.length ≤ 1048576 := by omega
  clear hbig0
  by_cases hbig1 : 1048576 < ss.length
  · go_enter Try.func25, Try.ntmps25
    go_wp2_with fail
    go_ret
    exact ⟨rfl, Ext.refl _⟩
  have hn1 : ss.length ≤ 1048576 := by omega
  clear hbig1
  go_enter Try.func25, Try.ntmps25
  have hB0 : Ext w w := Ext.refl w
  go_wp2_with fail
  refine (toF_any A0 c0 rs _ (H0.out.ext hB0) hn0).mono ?_
  rintro e w1 ⟨⟨v1, rfl, o1⟩, hb1⟩
  have hs1 := ext_size hb1
  have hB1 := Ext.trans hB0 hb1
  have io1 := own_in o1
  obtain ⟨Av1, cv1, rfl, -, zv1⟩ := own_slice o1
  go_wp2_with fail
  refine (toF_any A1 c1 ss _ (H1.out.ext hB1) hn1).mono ?_
  rintro e w2 ⟨⟨v2, rfl, o2⟩, hb2⟩
  have hs2 := ext_size hb2
  have hB2 := Ext.trans hB1 hb2
  replace o1 := own_ext o1 hb2
  have io2 := own_in o2
  obtain ⟨Av2, cv2, rfl, -, zv2⟩ := own_slice o2
  go_wp2_with fail
  refine (sIsKilled_any Av1 Av2 cv1 cv2 rs ss x _ (own_rd o1) (own_rd o2) hn0 hn1 (own_cap o1) (own_cap o2)).mono ?_
  rintro e w3 ⟨rfl, hb3⟩
  have hs3 := ext_size hb3
  have hB3 := Ext.trans hB2 hb3
  replace o1 := own_ext o1 hb3
  replace o2 := own_ext o2 hb3
  go_wp2_with fail
  refine (toF_any A0 c0 rs _ (H0.out.ext hB3) hn0).mono ?_
  rintro e w4 ⟨⟨v4, rfl, o4⟩, hb4⟩
  have hs4 := ext_size hb4
  have hB4 := Ext.trans hB3 hb4
  replace o1 := own_ext o1 hb4
  replace o2 := own_ext o2 hb4
  have io4 := own_in o4
  obtain ⟨Av4, cv4, rfl, -, zv4⟩ := own_slice o4
  go_wp2_with fail
  refine (toF_any A1 c1 ss _ (H1.out.ext hB4) hn1).mono ?_
  rintro e w5 ⟨⟨v5, rfl, o5⟩, hb5⟩
  have hs5 := ext_size hb5
  have hB5 := Ext.trans hB4 hb5
  replace o1 := own_ext o1 hb5
  replace o2 := own_ext o2 hb5
  replace o4 := own_ext o4 hb5
  have io5 := own_in o5
  obtain ⟨Av5, cv5, rfl, -, zv5⟩ := own_slice o5
  go_wp2_with fail
  refine (iIsKilled_any Av4 Av5 cv4 cv5 rs ss x _ (own_rd o4) (own_rd o5) hn0 hn1 (own_cap o4) (own_cap o5)).mono ?_
  rintro e w6 ⟨rfl, hb6⟩
  have hs6 := ext_size hb6
  have hB6 := Ext.trans hB5 hb6
  replace o1 := own_ext o1 hb6
  replace o2 := own_ext o2 hb6
  replace o4 := own_ext o4 hb6
  replace o5 := own_ext o5 hb6
  go_wp2_with fail
  refine (toF_any A0 c0 rs _ (H0.out.ext hB6) hn0).mono ?_
  rintro e w7 ⟨⟨v7, rfl, o7⟩, hb7⟩
  have hs7 := ext_size hb7
  have hB7 := Ext.trans hB6 hb7
  replace o1 := own_ext o1 hb7
  replace o2 := own_ext o2 hb7
  replace o4 := own_ext o4 hb7
  replace o5 := own_ext o5 hb7
  have io7 := own_in o7
  obtain ⟨Av7, cv7, rfl, -, zv7⟩ := own_slice o7
  go_wp2_with fail
  refine (eqF_any Av4 Av7 cv4 cv7 rs rs _ (own_rd o4) (own_rd o7) (by unfold maxLen; omega) rfl).mono ?_
  rintro e w8 ⟨rfl, n8, hw⟩
  have hb8 : Ext w7 w8 := hw ▸ Ext.drewN _ _
  clear hw
  have hs8 := ext_size hb8
  have hB8 := Ext.trans hB7 hb8
  replace o1 := own_ext o1 hb8
  replace o2 := own_ext o2 hb8
  replace o4 := own_ext o4 hb8
  replace o5 := own_ext o5 hb8
  replace o7 := own_ext o7 hb8
  go_wp2_with fail
  refine (toF_any A1 c1 ss _ (H1.out.ext hB8) hn1).mono ?_
  rintro e w9 ⟨⟨v8, rfl, o8⟩, hb9⟩
  have hs9 := ext_size hb9
  have hB9 := Ext.trans hB8 hb9
  replace o1 := own_ext o1 hb9
  replace o2 := own_ext o2 hb9
  replace o4 := own_ext o4 hb9
  replace o5 := own_ext o5 hb9
  replace o7 := own_ext o7 hb9
  have io8 := own_in o8
  obtain ⟨Av8, cv8, rfl, -, zv8⟩ := own_slice o8
  go_wp2_with fail
  refine (eqF_any Av5 Av8 cv5 cv8 ss ss _ (own_rd o5) (own_rd o8) (by unfold maxLen; omega) rfl).mono ?_
  rintro e w10 ⟨rfl, n10, hw⟩
  have hb10 : Ext w9 w10 := hw ▸ Ext.drewN _ _
  clear hw
  have hs10 := ext_size hb10
  have hB10 := Ext.trans hB9 hb10
  replace o1 := own_ext o1 hb10
  replace o2 := own_ext o2 hb10
  replace o4 := own_ext o4 hb10
  replace o5 := own_ext o5 hb10
  replace o7 := own_ext o7 hb10
  replace o8 := own_ext o8 hb10
  go_wp2_with fail
  go_ret
  exact ⟨rfl, hB10⟩
end Go.Proofs.Ytiddaabodkglmaa

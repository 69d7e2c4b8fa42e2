import Derived.Test.YtiddaabodkglmaaDe
import Derived.Test.YtiddaabodkglmaaGb
namespace Go.Proofs.Ytiddaabodkglmaa
open Go.RowKit Go.Fx
set_option linter.unusedVariables false
set_option linter.unusedSimpArgs false

set_option maxRecDepth 100000 in
set_option maxHeartbeats 4000000 in
theorem decodeAlone_walk (A0 : Option Addr) (c0 : Nat) (rs : List Nat) (odd : Bool) (w : World) (h0 : Rd w A0 (rs.map fl)) (hm0 : rs.length ≤ maxLen)  :
    Calls Try.prog 21 #[.slice A0 rs.length c0, .bool odd] w fun e w' => e = .returned (.bool true) ∧ Ext w w' := by
  have hM0 := hm0
  unfold maxLen at hM0
  have H0 := Lib.hid h0
  clear h0
  by_cases hbig0 : 1048576 < rs.length
  · go_enter Try.func21, Try.ntmps21
    go_wp2_with fail
    go_ret
    exact ⟨rfl, Ext.refl _⟩
  have hn0 : rs.length ≤ 1048576 := by omega
  clear hbig0
  go_enter Try.func21, Try.ntmps21
  have hB0 : Ext w w := Ext.refl w
  go_wp2_with fail
  refine (toF_any A0 c0 rs _ (H0.out.ext hB0) hn0).mono ?_
  rintro e w1 ⟨⟨v1, rfl, o1⟩, hb1⟩
  have hs1 := ext_size hb1
  have hB1 := Ext.trans hB0 hb1
  have io1 := own_in o1
  obtain ⟨Av1, cv1, rfl, -, zv1⟩ := own_slice o1
  go_wp2_with fail
  refine (sDecodeAlone_any Av1 cv1 rs odd _ (own_rd o1) hn0 (own_cap o1)).mono ?_
  rintro e w2 ⟨⟨v2, gs2, rfl, o2, hg2⟩, hb2⟩
  have hs2 := ext_size hb2
  have hB2 := Ext.trans hB1 hb2
  replace o1 := own_ext o1 hb2
  have io2 := own_in o2
  obtain ⟨Av2, cv2, rfl, -, zv2⟩ := own_slice o2
  have hl2 : gs2.length ≤ 64 := by rw [cnC_len hg2]; exact alone_len _ _
  go_wp2_with fail
  refine (toF_any A0 c0 rs _ (H0.out.ext hB2) hn0).mono ?_
  rintro e w3 ⟨⟨v3, rfl, o3⟩, hb3⟩
  have hs3 := ext_size hb3
  have hB3 := Ext.trans hB2 hb3
  replace o1 := own_ext o1 hb3
  replace o2 := own_ext o2 hb3
  have io3 := own_in o3
  obtain ⟨Av3, cv3, rfl, -, zv3⟩ := own_slice o3
  go_wp2_with fail
  refine (iDecodeAlone_any Av3 cv3 rs odd _ (own_rd o3) hn0 (own_cap o3)).mono ?_
  rintro e w4 ⟨⟨v4, gs4, rfl, o4, hg4⟩, hb4⟩
  have hs4 := ext_size hb4
  have hB4 := Ext.trans hB3 hb4
  replace o1 := own_ext o1 hb4
  replace o2 := own_ext o2 hb4
  replace o3 := own_ext o3 hb4
  have io4 := own_in o4
  obtain ⟨Av4, cv4, rfl, -, zv4⟩ := own_slice o4
  have hl4 : gs4.length ≤ 64 := by rw [cnC_len hg4]; exact alone_len _ _
  go_wp2_with fail
  refine (eqC_any Av4 Av2 cv4 cv2 gs4 gs2 _ (own_rd o4) (own_rd o2) (by unfold maxLen; omega) (hg4.trans hg2.symm)).mono ?_
  rintro e w5 ⟨rfl, hw⟩
  have hb5 : Ext w4 w5 := by first | exact hw | (rw [hw]; exact Ext.refl _) | (obtain ⟨n, e⟩ := hw; rw [e]; exact Ext.drewN _ _)
  have hs5 := ext_size hb5
  have hB5 := Ext.trans hB4 hb5
  replace o1 := own_ext o1 hb5
  replace o2 := own_ext o2 hb5
  replace o3 := own_ext o3 hb5
  replace o4 := own_ext o4 hb5
  go_wp2_with fail
  refine (toF_any A0 c0 rs _ (H0.out.ext hB5) hn0).mono ?_
  rintro e w6 ⟨⟨v5, rfl, o5⟩, hb6⟩
  have hs6 := ext_size hb6
  have hB6 := Ext.trans hB5 hb6
  replace o1 := own_ext o1 hb6
  replace o2 := own_ext o2 hb6
  replace o3 := own_ext o3 hb6
  replace o4 := own_ext o4 hb6
  have io5 := own_in o5
  obtain ⟨Av5, cv5, rfl, -, zv5⟩ := own_slice o5
  go_wp2_with fail
  refine (eqF_any Av3 Av5 cv3 cv5 rs rs _ (own_rd o3) (own_rd o5) (by unfold maxLen; omega) rfl).mono ?_
  rintro e w7 ⟨rfl, n7, hw⟩
  have hb7 : Ext w6 w7 := hw ▸ Ext.drewN _ _
  clear hw
  have hs7 := ext_size hb7
  have hB7 := Ext.trans hB6 hb7
  replace o1 := own_ext o1 hb7
  replace o2 := own_ext o2 hb7
  replace o3 := own_ext o3 hb7
  replace o4 := own_ext o4 hb7
  replace o5 := own_ext o5 hb7
  go_wp2_with fail
  refine (markF_any Av3 cv3 rs.length _ (by omega) (by omega) (by omega) _ _ _ o3).mono ?_
  rintro e w8 ⟨rfl, o3m, hg8⟩
  have ht8 := turn_grown hg8 io3
  have hs8 := turn_size ht8
  have hB8 := ext_turn hB7 ht8 (by omega)
  replace o1 := own_turn o1 ht8 io1 (by omega)
  replace o2 := own_turn o2 ht8 io2 (by omega)
  replace o4 := own_turn o4 ht8 io4 (by omega)
  replace o5 := own_turn o5 ht8 io5 (by omega)
  clear o3
  have o3 := o3m
  clear o3m
  go_wp2_with fail
  refine (eqC_any Av4 Av2 cv4 cv2 gs4 gs2 _ (own_rd o4) (own_rd o2) (by unfold maxLen; omega) (hg4.trans hg2.symm)).mono ?_
  rintro e w9 ⟨rfl, hw⟩
  have hb9 : Ext w8 w9 := by first | exact hw | (rw [hw]; exact Ext.refl _) | (obtain ⟨n, e⟩ := hw; rw [e]; exact Ext.drewN _ _)
  have hs9 := ext_size hb9
  have hB9 := Ext.trans hB8 hb9
  replace o1 := own_ext o1 hb9
  replace o2 := own_ext o2 hb9
  replace o3 := own_ext o3 hb9
  replace o4 := own_ext o4 hb9
  replace o5 := own_ext o5 hb9
  go_wp2_with fail
  refine (markC_any Av4 cv4 gs4.length _ (by omega) (by omega) (by omega) _ _ _ o4).mono ?_
  rintro e w10 ⟨rfl, o4m, hg10⟩
  have ht10 := turn_grown hg10 io4
  have hs10 := turn_size ht10
  have hB10 := ext_turn hB9 ht10 (by omega)
  replace o1 := own_turn o1 ht10 io1 (by omega)
  replace o2 := own_turn o2 ht10 io2 (by omega)
  replace o3 := own_turn o3 ht10 io3 (by omega)
  replace o5 := own_turn o5 ht10 io5 (by omega)
  clear o4
  have o4 := o4m
  clear o4m
  go_wp2_with fail
  refine (heldC_any Av4 cv4 gs4.length _ (by omega) (by omega) (by omega) _ (own_rd o4)).mono ?_
  rintro e w11 ⟨rfl, hw⟩
  have hb11 : Ext w10 w11 := by first | exact hw | (rw [← hw]; exact Ext.refl _) | (obtain ⟨n, e⟩ := hw; rw [e]; exact Ext.drewN _ _)
  clear hw
  have hs11 := ext_size hb11
  have hB11 := Ext.trans hB10 hb11
  replace o1 := own_ext o1 hb11
  replace o2 := own_ext o2 hb11
  replace o3 := own_ext o3 hb11
  replace o4 := own_ext o4 hb11
  replace o5 := own_ext o5 hb11
  go_wp2_with fail
  refine (toF_any A0 c0 rs _ (H0.out.ext hB11) hn0).mono ?_
  rintro e w12 ⟨⟨v6, rfl, o6⟩, hb12⟩
  have hs12 := ext_size hb12
  have hB12 := Ext.trans hB11 hb12
  replace o1 := own_ext o1 hb12
  replace o2 := own_ext o2 hb12
  replace o3 := own_ext o3 hb12
  replace o4 := own_ext o4 hb12
  replace o5 := own_ext o5 hb12
  have io6 := own_in o6
  obtain ⟨Av6, cv6, rfl, -, zv6⟩ := own_slice o6
  go_wp2_with fail
  refine (iDecodeAlone_any Av6 cv6 rs odd _ (own_rd o6) hn0 (own_cap o6)).mono ?_
  rintro e w13 ⟨⟨v7, gs7, rfl, o7, hg7⟩, hb13⟩
  have hs13 := ext_size hb13
  have hB13 := Ext.trans hB12 hb13
  replace o1 := own_ext o1 hb13
  replace o2 := own_ext o2 hb13
  replace o3 := own_ext o3 hb13
  replace o4 := own_ext o4 hb13
  replace o5 := own_ext o5 hb13
  replace o6 := own_ext o6 hb13
  have io7 := own_in o7
  obtain ⟨Av7, cv7, rfl, -, zv7⟩ := own_slice o7
  have hl7 : gs7.length ≤ 64 := by rw [cnC_len hg7]; exact alone_len _ _
  go_wp2_with fail
  refine (eqC_any Av7 Av2 cv7 cv2 gs7 gs2 _ (own_rd o7) (own_rd o2) (by unfold maxLen; omega) (hg7.trans hg2.symm)).mono ?_
  rintro e w14 ⟨rfl, hw⟩
  have hb14 : Ext w13 w14 := by first | exact hw | (rw [hw]; exact Ext.refl _) | (obtain ⟨n, e⟩ := hw; rw [e]; exact Ext.drewN _ _)
  have hs14 := ext_size hb14
  have hB14 := Ext.trans hB13 hb14
  replace o1 := own_ext o1 hb14
  replace o2 := own_ext o2 hb14
  replace o3 := own_ext o3 hb14
  replace o4 := own_ext o4 hb14
  replace o5 := own_ext o5 hb14
  replace o6 := own_ext o6 hb14
  replace o7 := own_ext o7 hb14
  go_wp2_with fail
  refine (heldC_any Av4 cv4 gs4.length _ (by omega) (by omega) (by omega) _ (own_rd o4)).mono ?_
  rintro e w15 ⟨rfl, hw⟩
  have hb15 : Ext w14 w15 := by first | exact hw | (rw [← hw]; exact Ext.refl _) | (obtain ⟨n, e⟩ := hw; rw [e]; exact Ext.drewN _ _)
  clear hw
  have hs15 := ext_size hb15
  have hB15 := Ext.trans hB14 hb15
  replace o1 := own_ext o1 hb15
  replace o2 := own_ext o2 hb15
  replace o3 := own_ext o3 hb15
  replace o4 := own_ext o4 hb15
  replace o5 := own_ext o5 hb15
  replace o6 := own_ext o6 hb15
  replace o7 := own_ext o7 hb15
  go_wp2_with fail
  go_ret
  exact ⟨rfl, hB15⟩
end Go.Proofs.Ytiddaabodkglmaa

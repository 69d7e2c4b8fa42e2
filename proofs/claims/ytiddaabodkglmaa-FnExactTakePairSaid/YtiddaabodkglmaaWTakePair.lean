import Derived.Test.YtiddaabodkglmaaDn
namespace Go.Proofs.Ytiddaabodkglmaa
open Go.RowKit Go.Fx
set_option linter.unusedVariables false
set_option linter.unusedSimpArgs false

set_option maxRecDepth 100000 in
set_option maxHeartbeats 4000000 in
theorem takePair_walk (A0 : Option Addr) (c0 : Nat) (rs : List Nat) (A1 : Option Addr) (c1 : Nat) (ss : List Nat) (least : Nat) (x : Nat) (w : World) (h0 : Rd w A0 (rs.map fl)) (hm0 : rs.length ≤ maxLen) (h1 : Rd w A1 (ss.map fl)) (hm1 : ss.length ≤ maxLen)  :
    Calls Try.prog 33 #[.slice A0 rs.length c0, .slice A1 ss.length c1, .float .f32 least, .float .f32 x] w fun e w' => e = .returned (.bool true) ∧ Ext w w' := by
  have hM0 := hm0
  unfold maxLen at hM0
  have H0 := Lib.hid h0
  clear h0
  have hM1 := hm1
  unfold maxLen at hM1
  have H1 := Lib.hid h1
  clear h1
  by_cases hbig0 : 1048576 < rs.length
  · go_enter Try.func33, Try.ntmps33
    go_wp2_with fail
    go_ret
    exact ⟨rfl, Ext.refl _⟩
  have hn0 : rs.length ≤ 1048576 := by omega
  clear hbig0
  by_cases hbig1 : 1048576 < ss.length
  · go_enter Try.func33, Try.ntmps33
    go_wp2_with fail
    go_ret
    exact ⟨rfl, Ext.refl _⟩
  have hn1 : ss.length ≤ 1048576 := by omega
  clear hbig1
  go_enter Try.func33, Try.ntmps33
  have hB0 : Ext w w := Ext.refl w
  go_wp2_with fail
  refine (toF_any A0 c0 rs _ (H0.out.ext hB0) hn0).mono ?_
  rintro e w1 ⟨⟨v1, rfl, o1⟩, hb1⟩
  have hs1 := ext_size hb1
  have hB1 := Ext.trans hB0 hb1
  have io1 := own_in o1
  obtain ⟨Av1, cv1, rfl, -, zv1⟩ := own_slice o1
  go_wp2_with fail
  refine (toF_any A1 c1 ss _ (H1.out.ext hB1) hn1).mono ?_
  rintro e w2 ⟨⟨v2, rfl, o2⟩, hb2⟩
  have hs2 := ext_size hb2
  have hB2 := Ext.trans hB1 hb2
  replace o1 := own_ext o1 hb2
  have io2 := own_in o2
  obtain ⟨Av2, cv2, rfl, -, zv2⟩ := own_slice o2
  go_wp2_with fail
  refine (sTakePair_any Av1 Av2 cv1 cv2 rs ss least x _ (own_rd o1) (own_rd o2) hn0 hn1 (own_cap o1) (own_cap o2)).mono ?_
  rintro e w3 ⟨⟨v3, us3, rss3, rfl, o3, hg3⟩, hb3⟩
  have hs3 := ext_size hb3
  have hB3 := Ext.trans hB2 hb3
  replace o1 := own_ext o1 hb3
  replace o2 := own_ext o2 hb3
  have io3 := Rows2.inR o3
  have oo := Rows2.own o3
  rw [List.length_map] at oo
  obtain ⟨Av3, cv3, rfl, -, zv3⟩ := own_slice oo
  clear oo
  have hl3 := rss_len hg3 (Go.Fx.take_len (a := rs) (b := ss) (x := least) (k := cn .f32 x)).1
  have each3 := rss_each hg3 (Go.Fx.take_len (a := rs) (b := ss) (x := least) (k := cn .f32 x)).2
  have hsum3 := rss_sum hl3 each3
  go_wp2_with fail
  refine (toF_any A0 c0 rs _ (H0.out.ext hB3) hn0).mono ?_
  rintro e w4 ⟨⟨v4, rfl, o4⟩, hb4⟩
  have hs4 := ext_size hb4
  have hB4 := Ext.trans hB3 hb4
  replace o1 := own_ext o1 hb4
  replace o2 := own_ext o2 hb4
  replace o3 := Rows2.ext o3 hb4
  have io4 := own_in o4
  obtain ⟨Av4, cv4, rfl, -, zv4⟩ := own_slice o4
  go_wp2_with fail
  refine (toF_any A1 c1 ss _ (H1.out.ext hB4) hn1).mono ?_
  rintro e w5 ⟨⟨v5, rfl, o5⟩, hb5⟩
  have hs5 := ext_size hb5
  have hB5 := Ext.trans hB4 hb5
  replace o1 := own_ext o1 hb5
  replace o2 := own_ext o2 hb5
  replace o3 := Rows2.ext o3 hb5
  replace o4 := own_ext o4 hb5
  have io5 := own_in o5
  obtain ⟨Av5, cv5, rfl, -, zv5⟩ := own_slice o5
  go_wp2_with fail
  refine (iTakePair_any Av4 Av5 cv4 cv5 rs ss least x _ (own_rd o4) (own_rd o5) hn0 hn1 (own_cap o4) (own_cap o5)).mono ?_
  rintro e w6 ⟨⟨v6, us6, rss6, rfl, o6, hg6⟩, hb6⟩
  have hs6 := ext_size hb6
  have hB6 := Ext.trans hB5 hb6
  replace o1 := own_ext o1 hb6
  replace o2 := own_ext o2 hb6
  replace o3 := Rows2.ext o3 hb6
  replace o4 := own_ext o4 hb6
  replace o5 := own_ext o5 hb6
  have io6 := Rows2.inR o6
  have oo := Rows2.own o6
  rw [List.length_map] at oo
  obtain ⟨Av6, cv6, rfl, -, zv6⟩ := own_slice oo
  clear oo
  have hl6 := rss_len hg6 (Go.Fx.take_len (a := rs) (b := ss) (x := least) (k := cn .f32 x)).1
  have each6 := rss_each hg6 (Go.Fx.take_len (a := rs) (b := ss) (x := least) (k := cn .f32 x)).2
  have hsum6 := rss_sum hl6 each6
  go_wp2_with fail
  refine (eqCC_any Av6 Av3 cv6 cv3 _ _ rss6 rss3 _ (Rows2.rd o6).1 (Rows2.rd o3).1 (by unfold maxLen; omega) (fun r hr => Nat.le_trans (each6 r hr) (by unfold maxLen; omega)) (hg6.trans hg3.symm)).mono ?_
  rintro e w7 ⟨rfl, hw⟩
  have hb7 : Ext w6 w7 := by first | exact hw | (rw [hw]; exact Ext.refl _) | (obtain ⟨n, e⟩ := hw; rw [e]; exact Ext.drewN _ _)
  have hs7 := ext_size hb7
  have hB7 := Ext.trans hB6 hb7
  replace o1 := own_ext o1 hb7
  replace o2 := own_ext o2 hb7
  replace o3 := Rows2.ext o3 hb7
  replace o4 := own_ext o4 hb7
  replace o5 := own_ext o5 hb7
  replace o6 := Rows2.ext o6 hb7
  go_wp2_with fail
  refine (toF_any A0 c0 rs _ (H0.out.ext hB7) hn0).mono ?_
  rintro e w8 ⟨⟨v7, rfl, o7⟩, hb8⟩
  have hs8 := ext_size hb8
  have hB8 := Ext.trans hB7 hb8
  replace o1 := own_ext o1 hb8
  replace o2 := own_ext o2 hb8
  replace o3 := Rows2.ext o3 hb8
  replace o4 := own_ext o4 hb8
  replace o5 := own_ext o5 hb8
  replace o6 := Rows2.ext o6 hb8
  have io7 := own_in o7
  obtain ⟨Av7, cv7, rfl, -, zv7⟩ := own_slice o7
  go_wp2_with fail
  refine (eqF_any Av4 Av7 cv4 cv7 rs rs _ (own_rd o4) (own_rd o7) (by unfold maxLen; omega) rfl).mono ?_
  rintro e w9 ⟨rfl, n9, hw⟩
  have hb9 : Ext w8 w9 := hw ▸ Ext.drewN _ _
  clear hw
  have hs9 := ext_size hb9
  have hB9 := Ext.trans hB8 hb9
  replace o1 := own_ext o1 hb9
  replace o2 := own_ext o2 hb9
  replace o3 := Rows2.ext o3 hb9
  replace o4 := own_ext o4 hb9
  replace o5 := own_ext o5 hb9
  replace o6 := Rows2.ext o6 hb9
  replace o7 := own_ext o7 hb9
  go_wp2_with fail
  refine (toF_any A1 c1 ss _ (H1.out.ext hB9) hn1).mono ?_
  rintro e w10 ⟨⟨v8, rfl, o8⟩, hb10⟩
  have hs10 := ext_size hb10
  have hB10 := Ext.trans hB9 hb10
  replace o1 := own_ext o1 hb10
  replace o2 := own_ext o2 hb10
  replace o3 := Rows2.ext o3 hb10
  replace o4 := own_ext o4 hb10
  replace o5 := own_ext o5 hb10
  replace o6 := Rows2.ext o6 hb10
  replace o7 := own_ext o7 hb10
  have io8 := own_in o8
  obtain ⟨Av8, cv8, rfl, -, zv8⟩ := own_slice o8
  go_wp2_with fail
  refine (eqF_any Av5 Av8 cv5 cv8 ss ss _ (own_rd o5) (own_rd o8) (by unfold maxLen; omega) rfl).mono ?_
  rintro e w11 ⟨rfl, n11, hw⟩
  have hb11 : Ext w10 w11 := hw ▸ Ext.drewN _ _
  clear hw
  have hs11 := ext_size hb11
  have hB11 := Ext.trans hB10 hb11
  replace o1 := own_ext o1 hb11
  replace o2 := own_ext o2 hb11
  replace o3 := Rows2.ext o3 hb11
  replace o4 := own_ext o4 hb11
  replace o5 := own_ext o5 hb11
  replace o6 := Rows2.ext o6 hb11
  replace o7 := own_ext o7 hb11
  replace o8 := own_ext o8 hb11
  go_wp2_with fail
  refine (markF_any Av4 cv4 rs.length _ (by omega) (by omega) (by omega) _ _ _ o4).mono ?_
  rintro e w12 ⟨rfl, o4m, hg12⟩
  have ht12 := turn_grown hg12 io4
  have hs12 := turn_size ht12
  have hB12 := ext_turn hB11 ht12 (by omega)
  replace o1 := own_turn o1 ht12 io1 (by omega)
  replace o2 := own_turn o2 ht12 io2 (by omega)
  replace o3 := Rows2.turn o3 ht12 io3 (by omega)
  replace o5 := own_turn o5 ht12 io5 (by omega)
  replace o6 := Rows2.turn o6 ht12 io6 (by omega)
  replace o7 := own_turn o7 ht12 io7 (by omega)
  replace o8 := own_turn o8 ht12 io8 (by omega)
  clear o4
  have o4 := o4m
  clear o4m
  go_wp2_with fail
  refine (markF_any Av5 cv5 ss.length _ (by omega) (by omega) (by omega) _ _ _ o5).mono ?_
  rintro e w13 ⟨rfl, o5m, hg13⟩
  have ht13 := turn_grown hg13 io5
  have hs13 := turn_size ht13
  have hB13 := ext_turn hB12 ht13 (by omega)
  replace o1 := own_turn o1 ht13 io1 (by omega)
  replace o2 := own_turn o2 ht13 io2 (by omega)
  replace o3 := Rows2.turn o3 ht13 io3 (by omega)
  replace o4 := own_turn o4 ht13 io4 (by omega)
  replace o6 := Rows2.turn o6 ht13 io6 (by omega)
  replace o7 := own_turn o7 ht13 io7 (by omega)
  replace o8 := own_turn o8 ht13 io8 (by omega)
  clear o5
  have o5 := o5m
  clear o5m
  go_wp2_with fail
  refine (eqCC_any Av6 Av3 cv6 cv3 _ _ rss6 rss3 _ (Rows2.rd o6).1 (Rows2.rd o3).1 (by unfold maxLen; omega) (fun r hr => Nat.le_trans (each6 r hr) (by unfold maxLen; omega)) (hg6.trans hg3.symm)).mono ?_
  rintro e w14 ⟨rfl, hw⟩
  have hb14 : Ext w13 w14 := by first | exact hw | (rw [hw]; exact Ext.refl _) | (obtain ⟨n, e⟩ := hw; rw [e]; exact Ext.drewN _ _)
  have hs14 := ext_size hb14
  have hB14 := Ext.trans hB13 hb14
  replace o1 := own_ext o1 hb14
  replace o2 := own_ext o2 hb14
  replace o3 := Rows2.ext o3 hb14
  replace o4 := own_ext o4 hb14
  replace o5 := own_ext o5 hb14
  replace o6 := Rows2.ext o6 hb14
  replace o7 := own_ext o7 hb14
  replace o8 := own_ext o8 hb14
  go_wp2_with fail
  refine (markCC_any Av6 cv6 rss6.length _ (rowsC rss6) (rss6.map List.length) _ _ _ _ _ (by simp) (by simp) (by omega) (by omega) (by omega) o6 io6).mono ?_
  rintro e w15 ⟨rfl, o6m, ht15⟩
  have hs15 := turn_size ht15
  have hB15 := ext_turn hB14 ht15 (by omega)
  replace o1 := own_turn o1 ht15 io1 (by omega)
  replace o2 := own_turn o2 ht15 io2 (by omega)
  replace o3 := Rows2.turn o3 ht15 io3 (by omega)
  replace o4 := own_turn o4 ht15 io4 (by omega)
  replace o5 := own_turn o5 ht15 io5 (by omega)
  replace o7 := own_turn o7 ht15 io7 (by omega)
  replace o8 := own_turn o8 ht15 io8 (by omega)
  clear o6
  have o6 := o6m
  clear o6m
  go_wp2_with fail
  refine (heldCC_any Av6 cv6 rss6.length _ (rss6.map List.length) _ _ (by simp) (by omega) (by omega) (by omega) (Rows2.rd o6).1).mono ?_
  rintro e w16 ⟨rfl, hw⟩
  have hb16 : Ext w15 w16 := by first | exact hw | (rw [← hw]; exact Ext.refl _) | (obtain ⟨n, e⟩ := hw; rw [e]; exact Ext.drewN _ _)
  clear hw
  have hs16 := ext_size hb16
  have hB16 := Ext.trans hB15 hb16
  replace o1 := own_ext o1 hb16
  replace o2 := own_ext o2 hb16
  replace o3 := Rows2.ext o3 hb16
  replace o4 := own_ext o4 hb16
  replace o5 := own_ext o5 hb16
  replace o6 := Rows2.ext o6 hb16
  replace o7 := own_ext o7 hb16
  replace o8 := own_ext o8 hb16
  go_wp2_with fail
  refine (toF_any A0 c0 rs _ (H0.out.ext hB16) hn0).mono ?_
  rintro e w17 ⟨⟨v9, rfl, o9⟩, hb17⟩
  have hs17 := ext_size hb17
  have hB17 := Ext.trans hB16 hb17
  replace o1 := own_ext o1 hb17
  replace o2 := own_ext o2 hb17
  replace o3 := Rows2.ext o3 hb17
  replace o4 := own_ext o4 hb17
  replace o5 := own_ext o5 hb17
  replace o6 := Rows2.ext o6 hb17
  replace o7 := own_ext o7 hb17
  replace o8 := own_ext o8 hb17
  have io9 := own_in o9
  obtain ⟨Av9, cv9, rfl, -, zv9⟩ := own_slice o9
  go_wp2_with fail
  refine (toF_any A1 c1 ss _ (H1.out.ext hB17) hn1).mono ?_
  rintro e w18 ⟨⟨v10, rfl, o10⟩, hb18⟩
  have hs18 := ext_size hb18
  have hB18 := Ext.trans hB17 hb18
  replace o1 := own_ext o1 hb18
  replace o2 := own_ext o2 hb18
  replace o3 := Rows2.ext o3 hb18
  replace o4 := own_ext o4 hb18
  replace o5 := own_ext o5 hb18
  replace o6 := Rows2.ext o6 hb18
  replace o7 := own_ext o7 hb18
  replace o8 := own_ext o8 hb18
  replace o9 := own_ext o9 hb18
  have io10 := own_in o10
  obtain ⟨Av10, cv10, rfl, -, zv10⟩ := own_slice o10
  go_wp2_with fail
  refine (iTakePair_any Av9 Av10 cv9 cv10 rs ss least x _ (own_rd o9) (own_rd o10) hn0 hn1 (own_cap o9) (own_cap o10)).mono ?_
  rintro e w19 ⟨⟨v11, us11, rss11, rfl, o11, hg11⟩, hb19⟩
  have hs19 := ext_size hb19
  have hB19 := Ext.trans hB18 hb19
  replace o1 := own_ext o1 hb19
  replace o2 := own_ext o2 hb19
  replace o3 := Rows2.ext o3 hb19
  replace o4 := own_ext o4 hb19
  replace o5 := own_ext o5 hb19
  replace o6 := Rows2.ext o6 hb19
  replace o7 := own_ext o7 hb19
  replace o8 := own_ext o8 hb19
  replace o9 := own_ext o9 hb19
  replace o10 := own_ext o10 hb19
  have io11 := Rows2.inR o11
  have oo := Rows2.own o11
  rw [List.length_map] at oo
  obtain ⟨Av11, cv11, rfl, -, zv11⟩ := own_slice oo
  clear oo
  have hl11 := rss_len hg11 (Go.Fx.take_len (a := rs) (b := ss) (x := least) (k := cn .f32 x)).1
  have each11 := rss_each hg11 (Go.Fx.take_len (a := rs) (b := ss) (x := least) (k := cn .f32 x)).2
  have hsum11 := rss_sum hl11 each11
  go_wp2_with fail
  refine (eqCC_any Av11 Av3 cv11 cv3 _ _ rss11 rss3 _ (Rows2.rd o11).1 (Rows2.rd o3).1 (by unfold maxLen; omega) (fun r hr => Nat.le_trans (each11 r hr) (by unfold maxLen; omega)) (hg11.trans hg3.symm)).mono ?_
  rintro e w20 ⟨rfl, hw⟩
  have hb20 : Ext w19 w20 := by first | exact hw | (rw [hw]; exact Ext.refl _) | (obtain ⟨n, e⟩ := hw; rw [e]; exact Ext.drewN _ _)
  have hs20 := ext_size hb20
  have hB20 := Ext.trans hB19 hb20
  replace o1 := own_ext o1 hb20
  replace o2 := own_ext o2 hb20
  replace o3 := Rows2.ext o3 hb20
  replace o4 := own_ext o4 hb20
  replace o5 := own_ext o5 hb20
  replace o6 := Rows2.ext o6 hb20
  replace o7 := own_ext o7 hb20
  replace o8 := own_ext o8 hb20
  replace o9 := own_ext o9 hb20
  replace o10 := own_ext o10 hb20
  replace o11 := Rows2.ext o11 hb20
  go_wp2_with fail
  refine (heldCC_any Av6 cv6 rss6.length _ (rss6.map List.length) _ _ (by simp) (by omega) (by omega) (by omega) (Rows2.rd o6).1).mono ?_
  rintro e w21 ⟨rfl, hw⟩
  have hb21 : Ext w20 w21 := by first | exact hw | (rw [← hw]; exact Ext.refl _) | (obtain ⟨n, e⟩ := hw; rw [e]; exact Ext.drewN _ _)
  clear hw
  have hs21 := ext_size hb21
  have hB21 := Ext.trans hB20 hb21
  replace o1 := own_ext o1 hb21
  replace o2 := own_ext o2 hb21
  replace o3 := Rows2.ext o3 hb21
  replace o4 := own_ext o4 hb21
  replace o5 := own_ext o5 hb21
  replace o6 := Rows2.ext o6 hb21
  replace o7 := own_ext o7 hb21
  replace o8 := own_ext o8 hb21
  replace o9 := own_ext o9 hb21
  replace o10 := own_ext o10 hb21
  replace o11 := Rows2.ext o11 hb21
  go_wp2_with fail
  go_ret
  exact ⟨rfl, hB21⟩
end Go.Proofs.Ytiddaabodkglmaa

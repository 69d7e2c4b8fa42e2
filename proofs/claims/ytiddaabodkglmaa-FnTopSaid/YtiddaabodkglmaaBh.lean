import Derived.Test.YtiddaabodkglmaaHl
import Derived.Test.YtiddaabodkglmaaHc
import Derived.Test.YtiddaabodkglmaaK5
namespace Go.Fx
open Go.RowKit Go.Proofs.Ytiddaabodkglmaa
theorem eqAll_small {a b : List (List Cel)} (h : EqAll a b) (hb : ∀ r ∈ b, r.length ≤ 64) : ∀ r ∈ a, r.length ≤ maxLen := by
  intro r hr
  obtain ⟨i, hi, rfl⟩ := List.getElem_of_mem hr
  have h2 : i < b.length := by rw [← h.1]; exact hi
  have := (h.2 i hi h2).1
  have := hb _ (List.getElem_mem h2)
  unfold maxLen; omega
end Go.Fx
namespace Go.Proofs.Ytiddaabodkglmaa
open Go.RowKit Go.Fx
set_option linter.unusedVariables false
set_option linter.unusedSimpArgs false
set_option maxRecDepth 100000 in
set_option maxHeartbeats 1000000 in
theorem rows07_any (bk : Nat) (w : World) (h : Cu w bk) :
    Calls Try.prog 205 #[.pointer (some ⟨bk, 0, none⟩)] w fun e w' => (∃ A n c us rss, e = .returned (.slice A n c) ∧ DrawnR bk w' A n c us rss) ∧ CuT bk w w' := by
  have hz := h.size
  go_enter Try.func205, Try.ntmps205
  go_wp2_with fail
  refine (pair07_any bk _ h).mono ?_
  rintro e w1 ⟨⟨A, c, gs, B, d, hs, rfl, r1, r2, l1, l2⟩, hc1⟩
  have hD := Lib.hid (sDecodePair_any A B c d gs hs w1 r1.1 r2.1 (by omega) (by omega) r1.2.2.1 r2.2.2.1)
  generalize gs.length = m1 at hD ⊢
  generalize hs.length = m2 at hD ⊢
  clear r1 r2
  go_wp2_with fail
  refine hD.out.mono ?_
  rintro e w2 ⟨⟨v, us, rss, rfl, ho, hm⟩, hb2⟩
  have hz1 : bk < w1.heap.size := hc1.1.size
  have hl2 := rss_len hm pair_two
  have hl64 := rss_each hm pair_each
  have hul : us.length = rss.length := by simpa using ho.len
  obtain ⟨A2, c2, rfl, -⟩ := ho.form
  rw [hul] at ho ⊢
  have HD := Lib.hid (drawnR_own ho hz1 hl64 (by omega))
  generalize rss.length = n at HD ⊢
  have hcc := CuT.ext hc1 hb2
  clear hc1 hb2 ho hm hul hl2 hl64 hD
  go_wp2_with fail
  refine (once_any bk 6 _ hcc.1 (by omega)).mono ?_
  rintro e w3 ⟨⟨q, rfl⟩, hc3⟩
  cases q
  · go_wp2_with fail
    go_ret
    exact ⟨⟨_, _, _, _, _, rfl, HD.out.turn hc3.2⟩, hcc.trans hc3⟩
  · go_wp2_with fail
    refine (picture_any bk _ hc3.1).mono ?_
    rintro e w4 ⟨⟨A4, n4, c4, us4, rss4, rfl, hd⟩, hc4⟩
    have HD4 := Lib.hid hd
    clear hd
    go_wp2_with fail
    go_ret
    exact ⟨⟨_, _, _, _, _, rfl, HD4.out⟩, (hcc.trans hc3).trans hc4⟩
set_option maxRecDepth 100000 in
set_option maxHeartbeats 1000000 in
theorem drawSaturate_any (A0 : Option Addr) (c0 : Nat) (bs : List Int) (w : World) (h : Rd w A0 (bs.map by8)) (hn : bs.length ≤ 1048576) (hb : ∀ x ∈ bs, 0 ≤ x ∧ x ≤ 255) :
    Calls Try.prog 126 #[.slice A0 bs.length c0] w fun e w' => (∃ A m c us rss x, e = .returned (.tuple #[.slice A m c, .float .f32 x]) ∧ RdRows w' A us (rowsC rss) ∧ rss.length = m ∧ m ≤ 64 ∧ m ≤ c ∧ (A = none → m = 0) ∧ (∀ r ∈ rss, r.length ≤ 64)) ∧ Ext w w' := by
  go_enter Try.func126, Try.ntmps126
  go_wp2_with fail
  refine (new_any A0 c0 bs _ h hn hb).mono ?_
  rintro e w1 ⟨⟨bk, rfl, hbk, hbz, hcu⟩, hb1⟩
  go_wp2_with fail
  refine (rows07_any bk _ hcu).mono ?_
  rintro e w2 ⟨⟨A, m, c, us, rss, rfl, hd⟩, hc2⟩
  have HD := Lib.hid hd
  clear hd
  go_wp2_with fail
  refine (real_any bk 3 _ hc2.1 (by omega) (by omega)).mono ?_
  rintro e w3 ⟨⟨x, rfl⟩, hc3⟩
  have HX := Lib.hid (ext_turn hb1 (hc2.trans hc3).2 hbk)
  have HD3 := Lib.hid (HD.out.turn hc3.2)
  clear hc2 hc3 hb1 HD
  go_wp2_with (with_reducible refine upon_narrow Try.underlying68 Try.underlying29 ?_; intro b n hb)
  go_ret2
  exact ⟨⟨A, m, c, us, rss, _, rfl, HD3.out.rd.ext (Ext.drewN _ _), HD3.out.len, HD3.out.few, HD3.out.cap, HD3.out.nil, HD3.out.small⟩, HX.out.trans (Ext.drewN _ _)⟩
set_option maxRecDepth 100000 in
set_option maxHeartbeats 2000000 in
theorem saturated_walk (A0 : Option Addr) (c0 : Nat) (code : List Int) (w : World) (h0 : Rd w A0 (code.map by8)) (hm0 : code.length ≤ maxLen) (hb0 : ∀ x ∈ code, 0 ≤ x ∧ x ≤ 255) :
    Calls Try.prog 32 #[.slice A0 code.length c0] w fun e w' => e = .returned (.bool true) ∧ Ext w w' := by
  have hM0 := hm0
  unfold maxLen at hM0
  have H0 := Lib.hid h0
  have HB0 := Lib.hid hb0
  clear h0 hb0
  by_cases hbig : 1048576 < code.length
  · go_enter Try.func32, Try.ntmps32
    go_wp2_with (go_at_call 39; refine (big_any _ _ _ _ hM0).mono ?_; rintro e w1 ⟨rfl, rfl⟩)
    go_ret
    exact ⟨rfl, Ext.refl _⟩
  have hn0 : code.length ≤ 1048576 := by omega
  go_enter Try.func32, Try.ntmps32
  go_wp2_with (go_at_call 39; refine (big_any _ _ _ _ hM0).mono ?_; rintro e w1 ⟨rfl, rfl⟩)
  refine (drawSaturate_any A0 c0 code _ H0.out hn0 HB0.out).mono ?_
  rintro e w1 ⟨⟨A, n, c, us, rss, x0, rfl, hrd, hl, hn64, hcap, hnil, hsm⟩, hb1⟩
  have HS : Hid (∀ x W, Ext w1 W → Calls Try.prog 127 #[.slice A n c, .float .f32 x] W fun e w' => (∃ v us' out, e = .returned (.tuple #[v, .bool (satOk (cn .f32 x) (rss.map cnC))]) ∧ OCC w' W.heap.size v us' out ∧ out.map cnC = sat (cn .f32 x) (rss.map cnC)) ∧ Ext W w') := Lib.hid (fun x W hW => by
    have := iSaturate_any A c us rss x W (hrd.ext hW) (by omega) hsm
    rwa [hl] at this)
  have HZ : Hid (∀ W, Ext w1 W → Calls Try.prog 128 #[.slice A n c, .complex .f32 1065353216 1084227584] W fun e w' => (∃ v us' out, e = .returned (.tuple #[v, .bool (rss.all rowOk)]) ∧ OCC w' W.heap.size v us' out ∧ out.map cnC = sat (cn .f32 1065353216) (rss.map cnC)) ∧ Ext W w') := Lib.hid (fun W hW => by
    have := iToSize_any A c us rss 1065353216 1084227584 W (hrd.ext hW) (by omega) hsm
    rw [hl, (size_one _).1, (size_one _).2, satOk_of (fun c => cell_one)] at this
    exact this)
  have HS0 : Hid (∀ W, Ext w1 W → Calls Try.prog 127 #[.slice A n c, .float .f32 0] W fun e w' => (∃ v us' out, e = .returned (.tuple #[v, .bool (rss.all rowOk)]) ∧ OCC w' W.heap.size v us' out ∧ out.map cnC = sat (cn .f32 0) (rss.map cnC)) ∧ Ext W w') := Lib.hid (fun W hW => by
    have := HS.out 0 W hW
    rw [satOk_of (fun c => cell_zero)] at this
    exact this)
  have HS1 : Hid (∀ W, Ext w1 W → Calls Try.prog 127 #[.slice A n c, .float .f32 1065353216] W fun e w' => (∃ v us' out, e = .returned (.tuple #[v, .bool (rss.all rowOk)]) ∧ OCC w' W.heap.size v us' out ∧ out.map cnC = sat (cn .f32 1065353216) (rss.map cnC)) ∧ Ext W w') := Lib.hid (fun W hW => by
    have := HS.out 1065353216 W hW
    rw [satOk_of (fun c => cell_one)] at this
    exact this)
  have HG : Hid (∀ W, Ext w1 W → Calls Try.prog 130 #[.slice A n c] W fun e w' => (∃ v us', e = .returned v ∧ OCC w' W.heap.size v us' (rss.map (fun r => r.map grey1))) ∧ Ext W w') := Lib.hid (fun W hW => by
    have := iGreyed_any A c us rss W (hrd.ext hW) (by omega) hsm
    rwa [hl] at this)
  have HR : Hid (∀ (r : Nat) (h : r < rss.length) W, Ext w1 W → ∃ b off B d, A = some ⟨b, off, none⟩ ∧ W.cell? ⟨b, off + r, none⟩ = some (.slice B rss[r].length d) ∧ Calls Try.prog 129 #[.slice B rss[r].length d] W fun e w' => e = .returned (.bool (rowOk rss[r])) ∧ Ext W w') := Lib.hid (fun r h W hW => by
    obtain ⟨b, off, B, d, h1, -, -, h4, h5, -, -⟩ := (hrd.ext hW).atC (i := r) h
    exact ⟨b, off, B, d, h1, h4, iRowOk_any B d _ W h5 (by have := hsm _ (List.getElem_mem h); unfold maxLen; omega)⟩)
  have HRD := Lib.hid hrd
  have HL := Lib.hid hl
  have HSM := Lib.hid hsm
  clear hrd hl hsm HS
  go_wp2_with fail
  refine (HS0.out _ (Ext.refl _)).mono ?_
  rintro e w2 ⟨⟨v2, us2, out2, rfl, ho2, hm2⟩, hb2⟩
  have HO2 := Lib.hid ho2
  have HM2 := Lib.hid hm2
  clear ho2 hm2
  go_wp2_with fail
  refine (HS1.out _ hb2).mono ?_
  rintro e w3 ⟨⟨v3, us3, out3, rfl, ho3, hm3⟩, hb3⟩
  have HO2 := Lib.hid (HO2.out.ext hb3)
  replace hb3 := hb2.trans hb3
  have HO3 := Lib.hid ho3
  have HM3 := Lib.hid hm3
  clear ho3 hm3
  go_wp2_with fail
  refine (HZ.out _ hb3).mono ?_
  rintro e w4 ⟨⟨v4, us4, out4, rfl, ho4, hm4⟩, hb4⟩
  have HO2 := Lib.hid (HO2.out.ext hb4)
  have HO3 := Lib.hid (HO3.out.ext hb4)
  replace hb4 := hb3.trans hb4
  have HO4 := Lib.hid ho4
  have HM4 := Lib.hid hm4
  clear ho4 hm4 hb2 hb3
  generalize hq : rss.all rowOk = q
  have HQ := Lib.hid hq
  clear hq
  go_wp2_with fail
  go_loopw [11, 12] (fun a i wr => ∃ k : Nat, k ≤ n ∧ i = .int .i64 k ∧ a = .bool ((rss.take k).all rowOk) ∧ Ext w4 wr) (fun _ i _ => n - (intOf i).toNat)
  case atStart => exact ⟨0, by omega, rfl, by simp, Ext.refl _⟩
  case round =>
    obtain ⟨k, hk, rfl, rfl, hbr⟩ := hrel
    by_cases hlt : k < n
    · have hltI : (k : Int) < (n : Int) := by omega
      have hkr : k < rss.length := by rw [HL.out]; exact hlt
      have hstep : Hid ((rss.take (k + 1)).all rowOk = ((rss.take k).all rowOk && rowOk rss[k])) := Lib.hid (by rw [List.take_succ_eq_append_getElem hkr, List.all_append]; simp)
      cases ha : (rss.take k).all rowOk
      · have HA := Lib.hid ha
        go_wp2_with fail
        go_roundw
        case rel => exact ⟨k + 1, by omega, by go_num, by rw [hstep.out, HA.out]; rfl, hbr⟩
        case measure => simp [intOf]; omega
      · have HA := Lib.hid ha
        obtain ⟨b, off, B, d, rfl, hcell, hcall⟩ := HR.out k hkr wr (hb4.trans hbr)
        generalize rss[k] = row at hcell hcall hstep
        have HC := Lib.hid hcall
        clear hcall
        go_wp2_with fail
        refine HC.out.mono ?_
        rintro e w5 ⟨rfl, hb5⟩
        go_wp2_with fail
        go_roundw
        case rel => exact ⟨k + 1, by omega, by go_num, by rw [hstep.out, HA.out]; rfl, hbr.trans hb5⟩
        case measure => simp [intOf]; omega
    · obtain rfl : k = n := by omega
      have e1 : (rss.take k).all rowOk = q := by rw [List.take_of_length_le (by rw [HL.out]; exact Nat.le_refl _)]; exact HQ.out
      rw [e1]
      clear e1
      cases q
      · go_wp2_with fail
        go_ret
        exact ⟨rfl, hb1.trans (hb4.trans hbr)⟩
      · have hE2 := sat_zero HM2.out HQ.out
        have hE3 := sat_one HM3.out HQ.out
        have hE4 := sat_one HM4.out HQ.out
        have hxr := hb4.trans hbr
        have ho2 := HO2.out.ext hbr
        have ho3 := HO3.out.ext hbr
        have ho4 := HO4.out.ext hbr
        have l2 : out2.length = k := by have := hE2.1; rwa [List.length_map, HL.out] at this
        have l3 : out3.length = k := by have := hE3.1; rwa [HL.out] at this
        have l4 : out4.length = k := by have := hE4.1; rwa [HL.out] at this
        have u2 : us2.length = k := by have := ho2.len; rwa [List.length_map, l2] at this
        have u3 : us3.length = k := by have := ho3.len; rwa [List.length_map, l3] at this
        have u4 : us4.length = k := by have := ho4.len; rwa [List.length_map, l4] at this
        obtain ⟨A2, c2, rfl, -⟩ := ho2.form
        obtain ⟨A3, c3, rfl, -⟩ := ho3.form
        obtain ⟨A4, c4, rfl, -⟩ := ho4.form
        rw [u2] at ho2
        rw [u3] at ho3
        rw [u4] at ho4
        rw [u2, u3, u4]
        have S2 : Hid (∀ B d vs W, Ext wr W → RdRows W B vs (rowsC (rss.map (fun r => r.map grey1))) → Calls Try.prog 45 #[.slice A2 k c2, .slice B k d] W fun e w' => e = .returned (.bool true) ∧ Ext W w') := Lib.hid (fun B d vs W hW hr => by
          have := sameRows_any A2 B c2 d us2 vs out2 _ W (ho2.ext hW).rd.1 hr (by rw [l2]; unfold maxLen; omega) (eqAll_small hE2 (fun r hr => by obtain ⟨x, hx, rfl⟩ := List.mem_map.1 hr; rw [List.length_map]; exact HSM.out x hx)) hE2
          rwa [l2, List.length_map, HL.out] at this)
        have S3 : Hid (∀ W, Ext wr W → Calls Try.prog 45 #[.slice A3 k c3, .slice A k c] W fun e w' => e = .returned (.bool true) ∧ Ext W w') := Lib.hid (fun W hW => by
          have := sameRows_any A3 A c3 c us3 us out3 rss W (ho3.ext hW).rd.1 (HRD.out.ext (hxr.trans hW)) (by rw [l3]; unfold maxLen; omega) (eqAll_small hE3 HSM.out) hE3
          rwa [l3, HL.out] at this)
        have S4 : Hid (∀ W, Ext wr W → Calls Try.prog 45 #[.slice A4 k c4, .slice A k c] W fun e w' => e = .returned (.bool true) ∧ Ext W w') := Lib.hid (fun W hW => by
          have := sameRows_any A4 A c4 c us4 us out4 rss W (ho4.ext hW).rd.1 (HRD.out.ext (hxr.trans hW)) (by rw [l4]; unfold maxLen; omega) (eqAll_small hE4 HSM.out) hE4
          rwa [l4, HL.out] at this)
        clear hE2 hE3 hE4 ho2 ho3 ho4 l2 l3 l4 u2 u3 u4 HM2 HM3 HM4 HO2 HO3 HO4
        go_wp2_with fail
        refine (HG.out _ hxr).mono ?_
        rintro e w5 ⟨⟨v5, us5, rfl, ho5⟩, hb5⟩
        have u5 : us5.length = k := by have := ho5.len; rwa [List.length_map, List.length_map, HL.out] at this
        obtain ⟨A5, c5, rfl, -⟩ := ho5.form
        rw [u5] at ho5 ⊢
        have HR5 := Lib.hid ho5.rd.1
        clear ho5 u5
        go_wp2_with fail
        refine (S2.out _ _ _ _ hb5 HR5.out).mono ?_
        rintro e w6 ⟨rfl, hb6⟩
        replace hb6 := hb5.trans hb6
        go_wp2_with fail
        refine (S3.out _ hb6).mono ?_
        rintro e w7 ⟨rfl, hb7⟩
        replace hb7 := hb6.trans hb7
        go_wp2_with fail
        refine (S4.out _ hb7).mono ?_
        rintro e w8 ⟨rfl, hb8⟩
        go_wp2_with fail
        go_ret
        exact ⟨rfl, hb1.trans (hxr.trans (hb7.trans hb8))⟩
end Go.Proofs.Ytiddaabodkglmaa

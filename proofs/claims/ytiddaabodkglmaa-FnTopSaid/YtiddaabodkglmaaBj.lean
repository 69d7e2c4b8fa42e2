import Derived.Test.YtiddaabodkglmaaK9
import Derived.Test.YtiddaabodkglmaaK7
import Derived.Test.YtiddaabodkglmaaBf
namespace Go.Proofs.Ytiddaabodkglmaa
open Go.RowKit Go.Fx
set_option linter.unusedVariables false
set_option linter.unusedSimpArgs false
set_option maxRecDepth 100000 in
set_option maxHeartbeats 4000000 in
theorem top_walk (A0 : Option Addr) (c0 : Nat) (code : List Int) (w : World) (h0 : Rd w A0 (code.map by8)) (hm0 : code.length ≤ maxLen) (hb0 : ∀ x ∈ code, 0 ≤ x ∧ x ≤ 255) :
    Calls Try.prog 4 #[.slice A0 code.length c0] w fun e w' => e = .returned (.bool true) ∧ Ext w w' := by
  have hM0 := hm0
  unfold maxLen at hM0
  have H0 := Lib.hid h0
  have HB0 := Lib.hid hb0
  clear h0 hb0
  by_cases hbig : 1048576 < code.length
  · go_enter Try.func4, Try.ntmps4
    go_wp2_with (go_at_call 39; refine (big_any _ _ _ _ hM0).mono ?_; rintro e w1 ⟨rfl, rfl⟩)
    go_ret
    exact ⟨rfl, Ext.refl _⟩
  have hn0 : code.length ≤ 1048576 := by omega
  go_enter Try.func4, Try.ntmps4
  go_wp2_with (go_at_call 39; refine (big_any _ _ _ _ hM0).mono ?_; rintro e w1 ⟨rfl, rfl⟩)
  refine (drawLink_any A0 c0 code _ H0.out hn0 HB0.out).mono ?_
  rintro e w1 ⟨⟨A, m, c, us, rss, W, ch, jj, O, X, Y, rfl, ho, hl, hp, hw1, hw4, hm, hch⟩, hb1⟩
  have HP := Lib.hid hp
  have HC := Lib.hid hch
  have hn48 : rss.length = 4 ∨ rss.length = 8 := by omega
  have hpic : pictureOk rss = true := hp.ok hw1 hw4 hn48
  have hsm : ∀ r ∈ rss, r.length ≤ 64 := fun r hr => by rw [hp.wide r hr]; omega
  have hrd := ho.rd.1
  have hm8 : 4 ≤ m ∧ m ≤ 8 := by omega
  have HNS := Lib.hid (newSet_link (W := W) (m := m) hw1 hw4 hm)
  have HSO := Lib.hid (setOk_link (W := W) (m := m) hw1 hw4 hm)
  have hNEW := fun W' => iNewSet_any (W : Int) (m : Int) W'
  rw [HNS.out, HSO.out] at hNEW
  have HNEW := Lib.hid hNEW
  clear hNEW
  obtain ⟨b0, of0, B0, d0, rfl, hbw0, -, hcc, -, -, -⟩ := hrd.atC (i := 0) (by omega)
  rw [hp.wide _ (List.getElem_mem (by omega : 0 < rss.length)), Nat.add_zero] at hcc
  have HC0 : Hid (∀ W', Ext w1 W' → W'.cell? ⟨b0, of0, none⟩ = some (.slice B0 W d0)) := Lib.hid (fun W' hW => by rw [Below.cell hW (p := ⟨b0, of0, none⟩) hbw0]; exact hcc)
  have HST := Lib.hid (fun W' (hW : Ext w1 W') => iStudio_any ch (some ⟨b0, of0, none⟩) c us rss W' (hrd.ext hW) hpic hsm (link_tx hch hp hw1 hw4))
  have HIP := Lib.hid (fun W' (hW : Ext w1 W') => iIsPaired_any (some ⟨b0, of0, none⟩) c us rss W' (hrd.ext hW) hpic hsm hp.pair)
  have HRD := Lib.hid hrd
  have HN48 := Lib.hid hn48
  have HW := Lib.hid (And.intro hw1 hw4)
  have HL := Lib.hid hl
  rw [hl] at HST HIP
  clear hcc hrd hn48 hpic ho hm
  go_wp2_with fail
  have ha1 : Ext w1 (w1.alloc (.cells #[.float .f32 ch.a, .float .f32 ch.off, .complex .f32 ch.re ch.im] 32)) := (Ext.refl _).alloc _
  refine (HST.out _ ha1).mono ?_
  rintro e w2 ⟨⟨v2, ls, rfl, ho2, ht2⟩, hb2⟩
  have hx2 : Ext w1 w2 := ha1.trans hb2
  have hcp2 := own_cap' ho2
  obtain ⟨A2, c2, rfl, hr2, -⟩ := own_slice ho2
  have hcap := hcp2 _ _ rfl
  have HTP := Lib.hid (top_plain HC.out HP.out HW.out.1 HW.out.2 HN48.out ht2)
  have hrec := fun W' (hW : Ext w2 W') => iReceive_any (W : Int) (m : Int) 3250585600 1040187392 1065353216 none 0 0 A2 c2 ls.flatten W' (hr2.ext hW) (by omega) (link_flat HC.out HP.out HW.out.1 HW.out.2 HN48.out ht2) hcap
  have hok := HTP.out.1
  rw [HL.out] at hok
  rw [hok] at hrec
  have HREC := Lib.hid hrec
  clear hrec hok
  obtain ⟨N, hN⟩ : ∃ N, ls.flatten.length = N := ⟨_, rfl⟩
  rw [hN] at HREC
  rw [hN]
  clear hN hcap hcp2 ho2 hl ht2
  go_wp2_with (first | (go_at_call 42; refine (HIP.out _ hx2).mono ?_; rintro e w3 ⟨rfl, hb3⟩; have hx3 := hx2.trans hb3; have hc0 := HC0.out _ hx3) | (go_at_call 43; refine (HNEW.out _).mono ?_; rintro e w4 ⟨rfl, hb4⟩))
  have hal : Ext w2 (w4.alloc (.cells #[.int .i64 W, .int .i64 m, .float .f32 3250585600, .float .f32 1040187392, .float .f32 1065353216, .slice none 0 0] 40)) := (hb3.trans hb4).alloc _
  refine (HREC.out _ hal).mono ?_
  rintro e w5 ⟨⟨v5, us5, out, rfl, ho5, hg5⟩, hb5⟩
  have hx5 : Ext w1 w5 := hx2.trans (hal.trans hb5)
  have hE := HTP.out.2 out (by rw [HL.out]; exact hg5)
  have hEl : out.length = m := hE.1.trans HL.out
  obtain ⟨A5, c5, rfl, hou5⟩ := ho5.form
  have hul5 : us5.length = m := by have := ho5.len; rw [List.length_map] at this; omega
  rw [hul5]
  have HSR := Lib.hid (fun W' (hW : Ext w5 W') => by
    have := sameRows_any (some ⟨b0, of0, none⟩) A5 c c5 us us5 rss out W' (HRD.out.ext (hx5.trans hW)) (ho5.ext hW).rd.1 (by rw [HL.out]; unfold maxLen; omega) (fun r hr => by rw [HP.out.wide r hr]; have := HW.out.2; unfold maxLen; omega) (Go.Fx.EqAll.symm hE)
    rwa [HL.out, hEl] at this)
  clear hE hEl hou5 ho5 hg5 hul5
  go_wp2_with fail
  refine (HSR.out _ (Ext.refl _)).mono ?_
  rintro e w6 ⟨rfl, hb6⟩
  go_wp2_with fail
  go_ret
  exact ⟨rfl, (hb1.trans hx5).trans hb6⟩
end Go.Proofs.Ytiddaabodkglmaa

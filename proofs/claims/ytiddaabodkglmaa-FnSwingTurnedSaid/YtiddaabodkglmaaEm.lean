import Derived.Test.YtiddaabodkglmaaEr
import Derived.Test.YtiddaabodkglmaaEf
import Derived.Test.YtiddaabodkglmaaDf
import Derived.Test.YtiddaabodkglmaaFu
namespace Go.Proofs.Ytiddaabodkglmaa
open Go.RowKit Go.Fx
set_option linter.unusedVariables false
set_option linter.unusedSimpArgs false
set_option maxRecDepth 100000 in
set_option maxHeartbeats 4000000 in
theorem drawSwing_any (A : Option Addr) (c : Nat) (bs : List Int) (w : World) (h : Rd w A (bs.map by8)) (hn : bs.length ≤ 1048576) (hb : ∀ x ∈ bs, 0 ≤ x ∧ x ≤ 255) :
    Calls Try.prog 120 #[.slice A bs.length c] w fun e w' => (∃ (A : Option Addr) (c : Nat) (gs : List Nat) (B : Option Addr) (d : Nat) (hs : List Nat), e = .returned (.tuple #[.slice A gs.length c, .slice B hs.length d]) ∧ Rd w' A (gs.map fl) ∧ gs.length ≤ c ∧ gs.length ≤ 300 ∧ Rd w' B (hs.map fl) ∧ hs.length ≤ d ∧ hs.length ≤ 300) ∧ Ext w w' := by
  go_enter Try.func120, Try.ntmps120
  go_wp2_with fail
  refine (new_any A c bs _ h hn hb).mono ?_
  rintro e w1 ⟨⟨bk, rfl, hbk, hbz, hcu⟩, hb1⟩
  go_wp2_with fail
  refine (line_any bk _ hcu).mono ?_
  rintro e w2 ⟨⟨A2, c2, gs, rfl, hd, hl⟩, hc2⟩
  go_wp2_with fail
  refine (line_any bk _ hc2.1).mono ?_
  rintro e w3 ⟨⟨A3, c3, hs, rfl, hd3, hl3⟩, hc3⟩
  replace hd := hd.up hc3.2
  replace hc2 := hc2.trans hc3
  go_wp2_with fail
  go_ret2
  exact ⟨⟨A2, c2, gs, A3, c3, hs, rfl, hd.1, hd.2.2.1, hl, hd3.1, hd3.2.2.1, hl3⟩, ext_turn hb1 hc2.2 hbk⟩
theorem swing_three (a b : List Nat) : swing a b = 1 ∨ swing a b = -1 ∨ swing a b = 0 := by
  unfold swing
  split
  · split
    · exact .inl rfl
    · split
      · exact .inr (.inl rfl)
      · exact .inr (.inr rfl)
  · exact .inr (.inr rfl)
theorem feq_cns {p q X : Nat} (hp : cn .f32 p = X) (hq : cn .f32 q = X) (hX : isN .f32 X = false) : feq .f32 p q = true := by
  rw [← feq_cn_l, ← feq_cn_r, hp, hq]
  cases e : fk .f32 X
  · rw [fk_none.1 e] at hX; cases hX
  · rw [feq_fk e e]; simp
theorem feq_cn0 {p : Nat} (hp : cn .f32 p = 0) : feq .f32 p 0 = true := by
  rw [← feq_cn_l, hp]; decide +kernel
set_option maxRecDepth 100000 in
set_option maxHeartbeats 4000000 in
theorem swingTurned_walk (A0 : Option Addr) (c0 : Nat) (code : List Int) (w : World) (h0 : Rd w A0 (code.map by8)) (hm0 : code.length ≤ maxLen) (hb0 : ∀ x ∈ code, 0 ≤ x ∧ x ≤ 255) :
    Calls Try.prog 30 #[.slice A0 code.length c0] w fun e w' => e = .returned (.bool true) ∧ Ext w w' := by
  have hM0 := hm0
  unfold maxLen at hM0
  have H0 := Lib.hid h0
  have HB0 := Lib.hid hb0
  clear h0 hb0
  by_cases hbig : 1048576 < code.length
  · go_enter Try.func30, Try.ntmps30
    go_wp2_with (go_at_call 39; refine (big_any _ _ _ _ hM0).mono ?_; rintro e w1 ⟨rfl, rfl⟩)
    go_ret
    exact ⟨rfl, Ext.refl _⟩
  have hn0 : code.length ≤ 1048576 := by omega
  go_enter Try.func30, Try.ntmps30
  go_wp2_with (go_at_call 39; refine (big_any _ _ _ _ hM0).mono ?_; rintro e w1 ⟨rfl, rfl⟩)
  refine (drawSwing_any A0 c0 code _ H0.out hn0 HB0.out).mono ?_
  rintro e w1 ⟨⟨A, c, gs, B, d, hs, rfl, hr, hcp, hl, hr', hcp', hl'⟩, hb1⟩
  obtain ⟨t1, t2, t3, t4, t5, t6⟩ := hg_turn gs hs
  have sw := swing_turn hs gs
  have sc := swing_three gs hs
  have K1 : Hid (∀ W, Ext w1 W → Calls Try.prog 115 #[.slice A gs.length c, .slice B hs.length d] W fun e w' => (∃ p q, e = .returned (.tuple #[.complex .f32 p q, .bool (hgOk gs hs)]) ∧ cn .f32 p = hgRe gs hs ∧ cn .f32 q = hgIm gs hs) ∧ Ext W w') := Lib.hid (fun W hW => iHueGain_any A B c d gs hs W (hr.ext hW) (hr'.ext hW) (by omega) (by omega) hcp hcp')
  have K2 : Hid (∀ W, Ext w1 W → Calls Try.prog 115 #[.slice B hs.length d, .slice A gs.length c] W fun e w' => (∃ p q, e = .returned (.tuple #[.complex .f32 p q, .bool (hgOk gs hs)]) ∧ cn .f32 p = hgRe gs hs ∧ cn .f32 q = hgIm gs hs) ∧ Ext W w') := Lib.hid (fun W hW => by
    have := iHueGain_any B A d c hs gs W (hr'.ext hW) (hr.ext hW) (by omega) (by omega) hcp' hcp
    rw [← t1, ← t2, ← t3] at this; exact this)
  have K3 : Hid (∀ W, Ext w1 W → Calls Try.prog 121 #[.slice A gs.length c, .slice B hs.length d] W fun e w' => (∃ p q, e = .returned (.tuple #[.complex .f32 p q, .bool (hgOk gs hs)]) ∧ cn .f32 p = hgRe gs hs ∧ cn .f32 q = hgIm gs hs) ∧ Ext W w') := Lib.hid (fun W hW => sHueGain_any A B c d gs hs W (hr.ext hW) (hr'.ext hW) (by omega) (by omega) hcp hcp')
  have K4 : Hid (∀ W, Ext w1 W → Calls Try.prog 116 #[.slice A gs.length c, .slice B hs.length d] W fun e w' => e = .returned (.int .i64 (swing gs hs)) ∧ Ext W w') := Lib.hid (fun W hW => iSwing_any A B c d gs hs W (hr.ext hW) (hr'.ext hW) (by omega) (by omega) hcp hcp')
  have K5 : Hid (∀ W, Ext w1 W → Calls Try.prog 116 #[.slice B hs.length d, .slice A gs.length c] W fun e w' => e = .returned (.int .i64 (-swing gs hs)) ∧ Ext W w') := Lib.hid (fun W hW => by
    have := iSwing_any B A d c hs gs W (hr'.ext hW) (hr.ext hW) (by omega) (by omega) hcp' hcp
    rw [sw] at this; exact this)
  have hsb : -1 ≤ swing gs hs ∧ swing gs hs ≤ 1 := by omega
  have T4 := Lib.hid t4
  have T5 := Lib.hid t5
  have T6 := Lib.hid t6
  generalize swing gs hs = s at K4 K5 hsb
  generalize hgOk gs hs = ok at K1 K2 K3 T6
  generalize hgRe gs hs = re at K1 K2 K3 T4 T6
  generalize hgIm gs hs = im at K1 K2 K3 T5 T6
  have HC := Lib.hid hcp
  have HC' := Lib.hid hcp'
  clear t1 t2 t3 t4 t5 t6 sw sc hr hr' hcp hcp'
  go_wp2_with fail
  refine (K1.out _ (Ext.refl _)).mono ?_
  rintro e w2 ⟨⟨p, q, rfl, ep, eq⟩, hb2⟩
  have EP := Lib.hid ep
  have EQ := Lib.hid eq
  clear ep eq
  go_wp2_with fail
  refine (K2.out _ hb2).mono ?_
  rintro e w3 ⟨⟨p', q', rfl, ep', eq'⟩, hb3⟩
  replace hb3 := hb2.trans hb3
  have f1 := feq_cns EP.out ep' T4.out
  have f2 := feq_cns EQ.out eq' T5.out
  have F3 : Hid (ok = false → feq .f32 p 0 = true ∧ feq .f32 q 0 = true) := Lib.hid (fun h => ⟨feq_cn0 (EP.out.trans (T6.out h).1), feq_cn0 (EQ.out.trans (T6.out h).2)⟩)
  clear ep' eq' hb2
  go_wp2_with fail
  refine (K3.out _ hb3).mono ?_
  rintro e w4 ⟨⟨p2, q2, rfl, -, -⟩, hb4⟩
  replace hb4 := hb3.trans hb4
  clear hb3
  cases ok
  · obtain ⟨f3, f4⟩ := F3.out rfl
    go_wp2_with fail
    refine (K4.out _ hb4).mono ?_
    rintro e w5 ⟨rfl, hb5⟩
    replace hb5 := hb4.trans hb5
    go_wp2_with fail
    refine (K5.out _ hb5).mono ?_
    rintro e w6 ⟨rfl, hb6⟩
    replace hb6 := hb5.trans hb6
    go_wp2_with fail
    go_ret
    exact ⟨rfl, hb1.trans hb6⟩
  · go_wp2_with fail
    refine (K4.out _ hb4).mono ?_
    rintro e w5 ⟨rfl, hb5⟩
    replace hb5 := hb4.trans hb5
    go_wp2_with fail
    refine (K5.out _ hb5).mono ?_
    rintro e w6 ⟨rfl, hb6⟩
    replace hb6 := hb5.trans hb6
    go_wp2_with fail
    go_ret
    exact ⟨rfl, hb1.trans hb6⟩
end Go.Proofs.Ytiddaabodkglmaa

import Derived.Test.YtiddaabodkglmaaDc
namespace Go.Fx
theorem cm32 : cn .f32 3254779904 = 3254779904 := by decide +kernel
theorem amt_cn (x : Nat) : amt (cn .f32 x) = amt x := by unfold amt; rw [flt_cn_l, cn_cn, ← cn_neg]; rfl
theorem flt_amt {b x c : Nat} (h : cn .f32 b = amt x) : flt .f32 b c = flt .f32 (amt x) c := by rw [← h, flt_cn_l]
theorem swing_not {a b : List Nat} (h : (bcOk a && bcOk b) = false) : swing a b = 0 := by unfold swing; rw [if_neg]; rw [h]; decide
theorem hg_not {a b : List Nat} (h : (bcOk a && bcOk b) = false) : hgOk a b = false ∧ hgRe a b = 0 ∧ hgIm a b = 0 := by
  have h1 : hgOk a b = false := h
  unfold hgRe hgIm; rw [h1]; exact ⟨rfl, rfl, rfl⟩
theorem hg_is {a b : List Nat} (h : (bcOk a && bcOk b) = true) : hgOk a b = true ∧ hgRe a b = quo32 (add32 (bcRe a) (bcRe b)) 3254779904 ∧ hgIm a b = quo32 (add32 (bcIm a) (bcIm b)) 3254779904 := by
  have h1 : hgOk a b = true := h
  unfold hgRe hgIm; rw [h1]; exact ⟨rfl, rfl, rfl⟩
theorem swing_is {a b : List Nat} {x : Nat} (h : (bcOk a && bcOk b) = true) (hx : cn .f32 x = swingX a b) : swing a b = if flt .f32 x 0 = true then 1 else if fgt .f32 x 0 = true then -1 else 0 := by
  unfold swing; rw [if_pos h, ← hx, flt_cn_l, fgt_cn_l]
end Go.Fx
namespace Go.Proofs.Ytiddaabodkglmaa
open Go.RowKit Go.Fx
set_option linter.unusedVariables false
set_option linter.unusedSimpArgs false
set_option maxRecDepth 100000 in
theorem bursts_any (A B : Option Addr) (c d : Nat) (rs ss : List Nat) (w : World) (h : Rd w A (rs.map fl)) (h' : Rd w B (ss.map fl)) (hn : rs.length ≤ 1048576) (hn' : ss.length ≤ 1048576) (hc : rs.length ≤ c) (hc' : ss.length ≤ d) :
    Calls Try.prog 196 #[.slice A rs.length c, .slice B ss.length d] w fun e w' => (∃ p q r s, e = .returned (.tuple #[.complex .f32 p q, .complex .f32 r s, .bool (bcOk rs && bcOk ss)]) ∧ cn .f32 p = bcRe rs ∧ cn .f32 q = bcIm rs ∧ cn .f32 r = bcRe ss ∧ cn .f32 s = bcIm ss) ∧ Ext w w' := by
  have H := Lib.hid h
  have H' := Lib.hid h'
  clear h h'
  cases h1 : bcOk rs
  · go_enter Try.func196, Try.ntmps196
    go_wp2_with fail
    refine (iBurstColour_any A c rs _ H.out hn hc).mono ?_
    rintro e w1 ⟨⟨p, q, rfl, hp, hq⟩, hb1⟩
    rw [h1]
    have HP := Lib.hid hp
    have HQ := Lib.hid hq
    clear hp hq
    go_wp2_with fail
    refine (iBurstColour_any B d ss _ (H'.out.ext hb1) hn' hc').mono ?_
    rintro e w2 ⟨⟨r, s, rfl, hr, hs⟩, hb2⟩
    have HR := Lib.hid hr
    have HS := Lib.hid hs
    clear hr hs
    go_wp2_with fail
    go_ret3
    exact ⟨⟨p, q, r, s, by simp, HP.out, HQ.out, HR.out, HS.out⟩, hb1.trans hb2⟩
  · go_enter Try.func196, Try.ntmps196
    go_wp2_with fail
    refine (iBurstColour_any A c rs _ H.out hn hc).mono ?_
    rintro e w1 ⟨⟨p, q, rfl, hp, hq⟩, hb1⟩
    rw [h1]
    have HP := Lib.hid hp
    have HQ := Lib.hid hq
    clear hp hq
    go_wp2_with fail
    refine (iBurstColour_any B d ss _ (H'.out.ext hb1) hn' hc').mono ?_
    rintro e w2 ⟨⟨r, s, rfl, hr, hs⟩, hb2⟩
    have HR := Lib.hid hr
    have HS := Lib.hid hs
    clear hr hs
    go_wp2_with fail
    go_ret3
    exact ⟨⟨p, q, r, s, by simp, HP.out, HQ.out, HR.out, HS.out⟩, hb1.trans hb2⟩
set_option maxRecDepth 100000 in
theorem iHueGain_any (A B : Option Addr) (c d : Nat) (rs ss : List Nat) (w : World) (h : Rd w A (rs.map fl)) (h' : Rd w B (ss.map fl)) (hn : rs.length ≤ 1048576) (hn' : ss.length ≤ 1048576) (hc : rs.length ≤ c) (hc' : ss.length ≤ d) :
    Calls Try.prog 115 #[.slice A rs.length c, .slice B ss.length d] w fun e w' => (∃ p q, e = .returned (.tuple #[.complex .f32 p q, .bool (hgOk rs ss)]) ∧ cn .f32 p = hgRe rs ss ∧ cn .f32 q = hgIm rs ss) ∧ Ext w w' := by
  have H := Lib.hid (bursts_any A B c d rs ss w h h' hn hn' hc hc')
  clear h h'
  have h0 : cn .f32 0 = 0 := by decide +kernel
  cases hok : (bcOk rs && bcOk ss)
  · have HN := Lib.hid (hg_not hok)
    go_enter Try.func115, Try.ntmps115
    go_wp2_with fail
    refine H.out.mono ?_
    rintro e w1 ⟨⟨p, q, r, s, rfl, hp, hq, hr, hs⟩, hb1⟩
    rw [hok]
    clear hp hq hr hs
    go_wp2_with fail
    go_ret2
    exact ⟨⟨0, 0, by rw [HN.out.1]; rfl, by rw [HN.out.2.1, h0], by rw [HN.out.2.2, h0]⟩, hb1⟩
  · have HN := Lib.hid (hg_is hok)
    go_enter Try.func115, Try.ntmps115
    go_wp2_with fail
    refine H.out.mono ?_
    rintro e w1 ⟨⟨p, q, r, s, rfl, hp, hq, hr, hs⟩, hb1⟩
    rw [hok]
    go_wp2_with (first | (go_at_call 197; refine (plus_any _ _ _ _ _).mono ?_; rintro e w2 ⟨⟨x, y, rfl, e1, e2⟩, n3, rfl⟩) | (with_reducible first | (refine upon_add ?_; intro b n hb) | (refine upon_sub ?_; intro b n hb) | (refine upon_mul ?_; intro b n hb) | (refine upon_quo ?_; intro b n hb)))
    rename_i b1 n1 e3
    go_ret2
    rw [cm32] at e3 hb
    exact ⟨⟨b1, b, by rw [HN.out.1]; rfl, by rw [HN.out.2.1, e3, e1, hp, hr], by rw [HN.out.2.2, hb, e2, hq, hs]⟩, hb1.trans (by (repeat (first | exact Below.refl _ _ | assumption | refine below_drewN ?_ _ | refine Below.drew ?_ | refine Below.alloc ?_ (by first | exact Nat.le_refl _ | (simp; done) | (simp; omega)) _ | refine Below.setCell ?_ (by first | exact Nat.le_refl _ | (simp; done) | (simp; omega)) _)))⟩
set_option maxRecDepth 100000 in
theorem iSwing_any (A B : Option Addr) (c d : Nat) (rs ss : List Nat) (w : World) (h : Rd w A (rs.map fl)) (h' : Rd w B (ss.map fl)) (hn : rs.length ≤ 1048576) (hn' : ss.length ≤ 1048576) (hc : rs.length ≤ c) (hc' : ss.length ≤ d) :
    Calls Try.prog 116 #[.slice A rs.length c, .slice B ss.length d] w fun e w' => e = .returned (.int .i64 (swing rs ss)) ∧ Ext w w' := by
  have H := Lib.hid (bursts_any A B c d rs ss w h h' hn hn' hc hc')
  clear h h'
  cases hok : (bcOk rs && bcOk ss)
  · have HN := Lib.hid (swing_not hok)
    go_enter Try.func116, Try.ntmps116
    go_wp2_with fail
    refine H.out.mono ?_
    rintro e w1 ⟨⟨p, q, r, s, rfl, hp, hq, hr, hs⟩, hb1⟩
    rw [hok]
    clear hp hq hr hs
    go_wp2_with fail
    go_ret
    exact ⟨by rw [HN.out]; rfl, hb1⟩
  · have HN : Hid (∀ x, cn .f32 x = swingX rs ss → swing rs ss = if flt .f32 x 0 = true then 1 else if fgt .f32 x 0 = true then -1 else 0) := Lib.hid (fun x hx => swing_is hok hx)
    go_enter Try.func116, Try.ntmps116
    go_wp2_with fail
    refine H.out.mono ?_
    rintro e w1 ⟨⟨p, q, r, s, rfl, hp, hq, hr, hs⟩, hb1⟩
    rw [hok]
    go_wp2_with (first | (go_at_call 197; refine (plus_any _ _ _ _ _).mono ?_; rintro e w2 ⟨⟨x, y, rfl, e1, e2⟩, n3, rfl⟩) | (go_at_call 198; refine (minus_any _ _ _ _ _).mono ?_; rintro e w2 ⟨⟨x0, y0, rfl, e3, e4⟩, n4, rfl⟩) | (with_reducible first | (refine upon_add ?_; intro b n hb) | (refine upon_sub ?_; intro b n hb) | (refine upon_mul ?_; intro b n hb) | (refine upon_quo ?_; intro b n hb)))
    all_goals (
      have hsw : swing rs ss = _ := HN.out b (by simp only [swingX, hb, e1, e2, e3, e4, hp, hq, hr, hs, *])
      go_ret
      refine ⟨?_, hb1.trans (by (repeat (first | exact Below.refl _ _ | assumption | refine below_drewN ?_ _ | refine Below.drew ?_ | refine Below.alloc ?_ (by first | exact Nat.le_refl _ | (simp; done) | (simp; omega)) _ | refine Below.setCell ?_ (by first | exact Nat.le_refl _ | (simp; done) | (simp; omega)) _)))⟩
      rw [hsw]
      simp [*])
set_option maxRecDepth 100000 in
theorem iIsKilled_any (A B : Option Addr) (c d : Nat) (rs ss : List Nat) (least : Nat) (w : World) (h : Rd w A (rs.map fl)) (h' : Rd w B (ss.map fl)) (hn : rs.length ≤ 1048576) (hn' : ss.length ≤ 1048576) (hc : rs.length ≤ c) (hc' : ss.length ≤ d) :
    Calls Try.prog 114 #[.slice A rs.length c, .slice B ss.length d, .float .f32 least] w fun e w' => e = .returned (.bool (killed rs ss least)) ∧ Ext w w' := by
  have H := Lib.hid h
  have H' := Lib.hid h'
  clear h h'
  go_enter Try.func114, Try.ntmps114
  go_wp2_with fail
  refine (iHueGain_any A B c d rs ss _ H.out H'.out hn hn' hc hc').mono ?_
  rintro e w1 ⟨⟨p, q, rfl, hp, hq⟩, hb1⟩
  have HP := Lib.hid hp
  clear hp hq
  have hs := iSwing_any A B c d rs ss w1 (H.out.ext hb1) (H'.out.ext hb1) hn hn' hc hc'
  cases hz : decide (swing rs ss = 0)
  · have hz' : (swing rs ss == 0) = false := by simpa using hz
    have HK : Hid (killed rs ss least = flt .f32 (amt (hgRe rs ss)) least) := Lib.hid (by unfold killed; rw [hz]; rfl)
    generalize swing rs ss = sw at hs hz'
    go_wp2_with (first | (go_at_call 116; refine Calls.mono hs ?_; rintro e w2 ⟨rfl, hb2⟩) | (go_at_call 153; refine (amount_any _ _).mono ?_; rintro e w3 ⟨⟨b, rfl, hb⟩, rfl⟩))
    go_ret
    exact ⟨by rw [HK.out, ← HP.out, amt_cn, ← flt_amt hb]; rfl, hb1.trans hb2⟩
  · have hz' : (swing rs ss == 0) = true := by simpa using hz
    have HK : Hid (killed rs ss least = true) := Lib.hid (by unfold killed; rw [hz]; rfl)
    generalize swing rs ss = sw at hs hz'
    go_wp2_with (first | (go_at_call 116; refine Calls.mono hs ?_; rintro e w2 ⟨rfl, hb2⟩) | (go_at_call 153; refine (amount_any _ _).mono ?_; rintro e w3 ⟨⟨b, rfl, hb⟩, rfl⟩))
    go_ret
    exact ⟨by rw [HK.out]; rfl, hb1.trans hb2⟩
set_option maxRecDepth 100000 in
theorem sHueGain_any (A B : Option Addr) (c d : Nat) (rs ss : List Nat) (w : World) (h : Rd w A (rs.map fl)) (h' : Rd w B (ss.map fl)) (hn : rs.length ≤ 1048576) (hn' : ss.length ≤ 1048576) (hc : rs.length ≤ c) (hc' : ss.length ≤ d) :
    Calls Try.prog 121 #[.slice A rs.length c, .slice B ss.length d] w fun e w' => (∃ p q, e = .returned (.tuple #[.complex .f32 p q, .bool (hgOk rs ss)]) ∧ cn .f32 p = hgRe rs ss ∧ cn .f32 q = hgIm rs ss) ∧ Ext w w' := by
  have H := Lib.hid h
  have H' := Lib.hid h'
  clear h h'
  have h0 : cn .f32 0 = 0 := by decide +kernel
  cases h1 : bcOk rs
  · have hok : (bcOk rs && bcOk ss) = false := by rw [h1]; rfl
    have HN := Lib.hid (hg_not hok)
    clear hok
    go_enter Try.func121, Try.ntmps121
    go_wp2_with fail
    refine (sBurstColour_any A c rs _ H.out hn hc).mono ?_
    rintro e w1 ⟨⟨p, q, rfl, hp, hq⟩, hb1⟩
    rw [h1]
    go_wp2_with fail
    refine (sBurstColour_any B d ss _ (H'.out.ext hb1) hn' hc').mono ?_
    rintro e w2 ⟨⟨r, s, rfl, hr, hs⟩, hb2⟩
    clear hp hq hr hs
    go_wp2_with fail
    go_ret2
    exact ⟨⟨0, 0, by rw [HN.out.1]; rfl, by rw [HN.out.2.1, h0], by rw [HN.out.2.2, h0]⟩, hb1.trans hb2⟩
  · cases h2 : bcOk ss
    · have hok : (bcOk rs && bcOk ss) = false := by rw [h1, h2]; rfl
      have HN := Lib.hid (hg_not hok)
      clear hok
      go_enter Try.func121, Try.ntmps121
      go_wp2_with fail
      refine (sBurstColour_any A c rs _ H.out hn hc).mono ?_
      rintro e w1 ⟨⟨p, q, rfl, hp, hq⟩, hb1⟩
      rw [h1]
      go_wp2_with fail
      refine (sBurstColour_any B d ss _ (H'.out.ext hb1) hn' hc').mono ?_
      rintro e w2 ⟨⟨r, s, rfl, hr, hs⟩, hb2⟩
      rw [h2]
      clear hp hq hr hs
      go_wp2_with fail
      go_ret2
      exact ⟨⟨0, 0, by rw [HN.out.1]; rfl, by rw [HN.out.2.1, h0], by rw [HN.out.2.2, h0]⟩, hb1.trans hb2⟩
    · have hok : (bcOk rs && bcOk ss) = true := by rw [h1, h2]; rfl
      have HN := Lib.hid (hg_is hok)
      clear hok
      go_enter Try.func121, Try.ntmps121
      go_wp2_with fail
      refine (sBurstColour_any A c rs _ H.out hn hc).mono ?_
      rintro e w1 ⟨⟨p, q, rfl, hp, hq⟩, hb1⟩
      rw [h1]
      go_wp2_with fail
      refine (sBurstColour_any B d ss _ (H'.out.ext hb1) hn' hc').mono ?_
      rintro e w2 ⟨⟨r, s, rfl, hr, hs⟩, hb2⟩
      rw [h2]
      go_wp2_with (with_reducible first | (refine upon_add ?_; intro b n hb) | (refine upon_sub ?_; intro b n hb) | (refine upon_mul ?_; intro b n hb) | (refine upon_quo ?_; intro b n hb))
      rename_i b1 n1 m1 b2 n2 m2 b3 n3 m3
      go_ret2
      rw [cm32] at m3 hb
      exact ⟨⟨b3, b, by rw [HN.out.1]; rfl, by rw [HN.out.2.1, m3, m1, hp, hr], by rw [HN.out.2.2, hb, m2, hq, hs]⟩, (hb1.trans hb2).trans (by (repeat (first | exact Below.refl _ _ | assumption | refine below_drewN ?_ _ | refine Below.drew ?_ | refine Below.alloc ?_ (by first | exact Nat.le_refl _ | (simp; done) | (simp; omega)) _ | refine Below.setCell ?_ (by first | exact Nat.le_refl _ | (simp; done) | (simp; omega)) _)))⟩
set_option maxRecDepth 100000 in
theorem sSwing_any (A B : Option Addr) (c d : Nat) (rs ss : List Nat) (w : World) (h : Rd w A (rs.map fl)) (h' : Rd w B (ss.map fl)) (hn : rs.length ≤ 1048576) (hn' : ss.length ≤ 1048576) (hc : rs.length ≤ c) (hc' : ss.length ≤ d) :
    Calls Try.prog 195 #[.slice A rs.length c, .slice B ss.length d] w fun e w' => e = .returned (.int .i64 (swing rs ss)) ∧ Ext w w' := by
  have H := Lib.hid h
  have H' := Lib.hid h'
  clear h h'
  cases h1 : bcOk rs
  · have hok : (bcOk rs && bcOk ss) = false := by rw [h1]; rfl
    have HN := Lib.hid (swing_not hok)
    clear hok
    go_enter Try.func195, Try.ntmps195
    go_wp2_with fail
    refine (sBurstColour_any A c rs _ H.out hn hc).mono ?_
    rintro e w1 ⟨⟨p, q, rfl, hp, hq⟩, hb1⟩
    rw [h1]
    go_wp2_with fail
    refine (sBurstColour_any B d ss _ (H'.out.ext hb1) hn' hc').mono ?_
    rintro e w2 ⟨⟨r, s, rfl, hr, hs⟩, hb2⟩
    clear hp hq hr hs
    go_wp2_with fail
    go_ret
    exact ⟨by rw [HN.out]; rfl, hb1.trans hb2⟩
  · cases h2 : bcOk ss
    · have hok : (bcOk rs && bcOk ss) = false := by rw [h1, h2]; rfl
      have HN := Lib.hid (swing_not hok)
      clear hok
      go_enter Try.func195, Try.ntmps195
      go_wp2_with fail
      refine (sBurstColour_any A c rs _ H.out hn hc).mono ?_
      rintro e w1 ⟨⟨p, q, rfl, hp, hq⟩, hb1⟩
      rw [h1]
      go_wp2_with fail
      refine (sBurstColour_any B d ss _ (H'.out.ext hb1) hn' hc').mono ?_
      rintro e w2 ⟨⟨r, s, rfl, hr, hs⟩, hb2⟩
      rw [h2]
      clear hp hq hr hs
      go_wp2_with fail
      go_ret
      exact ⟨by rw [HN.out]; rfl, hb1.trans hb2⟩
    · have hok : (bcOk rs && bcOk ss) = true := by rw [h1, h2]; rfl
      have HN : Hid (∀ x, cn .f32 x = swingX rs ss → swing rs ss = if flt .f32 x 0 = true then 1 else if fgt .f32 x 0 = true then -1 else 0) := Lib.hid (fun x hx => swing_is hok hx)
      clear hok
      go_enter Try.func195, Try.ntmps195
      go_wp2_with fail
      refine (sBurstColour_any A c rs _ H.out hn hc).mono ?_
      rintro e w1 ⟨⟨p, q, rfl, hp, hq⟩, hb1⟩
      rw [h1]
      go_wp2_with fail
      refine (sBurstColour_any B d ss _ (H'.out.ext hb1) hn' hc').mono ?_
      rintro e w2 ⟨⟨r, s, rfl, hr, hs⟩, hb2⟩
      rw [h2]
      go_wp2_with (with_reducible first | (refine upon_add ?_; intro b n hb) | (refine upon_sub ?_; intro b n hb) | (refine upon_mul ?_; intro b n hb) | (refine upon_quo ?_; intro b n hb))
      all_goals (
        have hsw : swing rs ss = _ := HN.out b (by simp only [swingX, hb, hp, hq, hr, hs, *])
        go_ret
        refine ⟨?_, (hb1.trans hb2).trans (by (repeat (first | exact Below.refl _ _ | assumption | refine below_drewN ?_ _ | refine Below.drew ?_ | refine Below.alloc ?_ (by first | exact Nat.le_refl _ | (simp; done) | (simp; omega)) _ | refine Below.setCell ?_ (by first | exact Nat.le_refl _ | (simp; done) | (simp; omega)) _)))⟩
        rw [hsw]
        simp [*])
set_option maxRecDepth 100000 in
theorem sIsKilled_any (A B : Option Addr) (c d : Nat) (rs ss : List Nat) (least : Nat) (w : World) (h : Rd w A (rs.map fl)) (h' : Rd w B (ss.map fl)) (hn : rs.length ≤ 1048576) (hn' : ss.length ≤ 1048576) (hc : rs.length ≤ c) (hc' : ss.length ≤ d) :
    Calls Try.prog 113 #[.slice A rs.length c, .slice B ss.length d, .float .f32 least] w fun e w' => e = .returned (.bool (killed rs ss least)) ∧ Ext w w' := by
  have H := Lib.hid h
  have H' := Lib.hid h'
  clear h h'
  go_enter Try.func113, Try.ntmps113
  go_wp2_with fail
  refine (sHueGain_any A B c d rs ss _ H.out H'.out hn hn' hc hc').mono ?_
  rintro e w1 ⟨⟨p, q, rfl, hp, hq⟩, hb1⟩
  have HP := Lib.hid hp
  clear hp hq
  have hs := sSwing_any A B c d rs ss w1 (H.out.ext hb1) (H'.out.ext hb1) hn hn' hc hc'
  cases hz : decide (swing rs ss = 0)
  · have hz' : (swing rs ss == 0) = false := by simpa using hz
    have HK : Hid (killed rs ss least = flt .f32 (amt p) least) := Lib.hid (by unfold killed; rw [hz, ← HP.out, amt_cn]; rfl)
    generalize swing rs ss = sw at hs hz'
    cases hlt : flt .f32 p 0
    · have HA := Lib.hid (flt_amt (c := least) (amt_neg hlt))
      go_wp2_with (first | (go_at_call 195; refine Calls.mono hs ?_; rintro e w2 ⟨rfl, hb2⟩))
      go_ret
      exact ⟨by rw [HK.out, ← HA.out]; rfl, hb1.trans hb2⟩
    · have HA := Lib.hid (flt_amt (c := least) (amt_pos hlt))
      go_wp2_with (first | (go_at_call 195; refine Calls.mono hs ?_; rintro e w2 ⟨rfl, hb2⟩))
      go_ret
      exact ⟨by rw [HK.out, ← HA.out]; rfl, hb1.trans hb2⟩
  · have hz' : (swing rs ss == 0) = true := by simpa using hz
    have HK : Hid (killed rs ss least = true) := Lib.hid (by unfold killed; rw [hz]; rfl)
    generalize swing rs ss = sw at hs hz'
    cases hlt : flt .f32 p 0
    all_goals go_wp2_with (first | (go_at_call 195; refine Calls.mono hs ?_; rintro e w2 ⟨rfl, hb2⟩))
    all_goals go_ret
    all_goals exact ⟨by rw [HK.out]; rfl, hb1.trans hb2⟩
end Go.Proofs.Ytiddaabodkglmaa

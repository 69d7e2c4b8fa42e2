import Derived.Test.YtiddaabodkglmaaCg
import Derived.Test.YtiddaabodkglmaaCf
import Derived.Test.YtiddaabodkglmaaGa
namespace Go.Proofs.Ytiddaabodkglmaa
open Go.RowKit Go.Fx
set_option linter.unusedVariables false
set_option linter.unusedSimpArgs false

theorem iLineOk_any (A : Option Addr) (c : Nat) (rs : List Nat) (w : World) (h : Rd w A (rs.map fl)) (hn : rs.length ≤ maxLen) :
    Calls Try.prog 161 #[.slice A rs.length c] w fun e w' => e = .returned (.bool (lineOk rs)) ∧ w = w' := by
  have hn' := hn
  unfold maxLen at hn'
  have H := Lib.hid h
  clear h
  go_enter Try.func161, Try.ntmps161
  go_wp2_with (first | (go_at_call 138; refine (bounded_any _ _ _ _ H.out hn).mono ?_; rintro e w1 ⟨rfl, rfl⟩))
  all_goals go_ret
  all_goals refine ⟨?_, rfl⟩
  all_goals first | (simp_all [lineOk]; done) | (simp_all [lineOk]; omega)
theorem head_any (w : World) : Calls Try.prog 191 #[] w fun e w' => e = .returned (.int .i64 24) ∧ w = w' := by
  go_enter Try.func191, Try.ntmps191
  go_wp2
  go_ret
  exact ⟨rfl, rfl⟩
theorem sLineOk_any (A : Option Addr) (c : Nat) (rs : List Nat) (w : World) (h : Rd w A (rs.map fl)) (hn : rs.length ≤ maxLen) :
    Calls Try.prog 110 #[.slice A rs.length c] w fun e w' => e = .returned (.bool (lineOk rs)) ∧ w = w' := by
  have hn' := hn
  unfold maxLen at hn'
  have H := Lib.hid h
  clear h
  have d1 : (rs.length : Int) < 24 → ((rs.length : Int) - 24).tdiv 4 ≤ 0 := fun h => by
    have e : ((rs.length : Int) - 24) = -(24 - rs.length : Int) := by omega
    rw [e, Int.neg_tdiv, Int.tdiv_eq_ediv_of_nonneg (by omega)]; omega
  have d2 : 24 ≤ (rs.length : Int) → ((rs.length : Int) - 24).tdiv 4 = ((rs.length : Int) - 24) / 4 := fun h => Int.tdiv_eq_ediv_of_nonneg (by omega)
  have d3 : 24 ≤ (rs.length : Int) → ((rs.length : Int) - 24).tmod 4 = ((rs.length : Int) - 24) % 4 := fun h => Int.tmod_eq_emod_of_nonneg (by omega)
  have D1 := Lib.hid d1
  have D2 := Lib.hid d2
  have D3 := Lib.hid d3
  clear d1 d2 d3
  go_enter Try.func110, Try.ntmps110
  go_wp2_with (first | (go_at_call 191; refine (head_any _).mono ?_; rintro e w1 ⟨rfl, rfl⟩) | (go_at_call 135; refine (sIn_any _ _ _ _).mono ?_; rintro e w1 ⟨rfl, rfl⟩) | (go_at_call 136; refine (sFine_any _ _ _ _ H.out hn).mono ?_; rintro e w1 ⟨rfl, rfl⟩))
  all_goals go_ret
  all_goals refine ⟨?_, rfl⟩
  all_goals (have d1 := D1.out; have d2 := D2.out; have d3 := D3.out)
  all_goals clear hn D1 D2 D3
  all_goals by_cases h24 : (rs.length : Int) < 24
  all_goals first | (have := d1 h24; clear d1 d2 d3) | (have e2 := d2 (by omega); have e3 := d3 (by omega); clear d1 d2 d3; simp only [e2, e3] at *; clear e2 e3)
  all_goals first | (simp_all [lineOk]; done) | (simp_all [lineOk]; omega)

theorem lineOk_len {rs : List Nat} (h : lineOk rs = true) : 28 ≤ rs.length ∧ rs.length ≤ 280 ∧ rs.length % 4 = 0 ∧ fine rs = true := by
  simp [lineOk] at h; exact ⟨h.1.1.1, h.1.1.2, h.1.2, h.2⟩
set_option maxRecDepth 100000 in
theorem iPart_any (A : Option Addr) (c : Nat) (rs : List Nat) (i n : Nat) (w : World) (h : Rd w A (rs.map fl)) (hn : rs.length ≤ maxLen) (hc : rs.length ≤ c) (hn1 : 0 < n) (hcut : lineOk rs = true → i + n ≤ rs.length) :
    Calls Try.prog 190 #[.slice A rs.length c, .int .i64 i, .int .i64 (i + n : Nat)] w fun e w' => (∃ v, e = .returned v ∧ OF w' w.heap.size v (if lineOk rs = true then cutF rs i n else [])) ∧ Ext w w' := by
  have hn' := hn
  unfold maxLen at hn'
  have H := Lib.hid h
  clear h
  by_cases hok : lineOk rs = true
  · rw [if_pos hok]
    have hl := lineOk_len hok
    have hcut := hcut hok
    obtain ⟨l1, l2, l3, l4⟩ := hl
    obtain ⟨b, off, rfl, hb⟩ := rd_some H.out (by intro e; have := List.map_eq_nil_iff.1 e; subst this; simp at l1)
    go_enter Try.func190, Try.ntmps190
    go_wp2_with (first | (go_at_call 161; refine (iLineOk_any _ _ _ _ H.out hn).mono ?_; rintro e w1 ⟨rfl, rfl⟩))
    · have hcl := cloneF_any (some ⟨b, off + i, none⟩) (c - i) (cutF rs i n) w (rd_cut H.out i n) (fun h => by cases h) (by rw [cutF_len hcut]; omega)
      rw [cutF_len hcut] at hcl
      refine hcl.mono ?_
      rintro e w1 ⟨⟨v, rfl, ho⟩, hb⟩
      go_wp2
      go_ret
      exact ⟨⟨_, rfl, ho⟩, hb⟩
  · rw [if_neg hok]
    have hok' : lineOk rs = false := by simpa using hok
    go_enter Try.func190, Try.ntmps190
    go_wp2_with (first | (go_at_call 161; refine (iLineOk_any _ _ _ _ H.out hn).mono ?_; rintro e w1 ⟨rfl, rfl⟩))
    go_ret
    exact ⟨⟨_, rfl, World.ownsRow_nil _ _ _ _⟩, Ext.refl _⟩

set_option maxRecDepth 100000 in
theorem sPart_any (A : Option Addr) (c : Nat) (rs : List Nat) (i n : Nat) (w : World) (h : Rd w A (rs.map fl)) (hn : rs.length ≤ maxLen) (hc : rs.length ≤ c) (hn1 : 0 < n) (hcut : lineOk rs = true → i + n ≤ rs.length) :
    Calls Try.prog 220 #[.slice A rs.length c, .int .i64 i, .int .i64 (i + n : Nat)] w fun e w' => (∃ v, e = .returned v ∧ OF w' w.heap.size v (if lineOk rs = true then cutF rs i n else [])) ∧ Ext w w' := by
  have hn' := hn
  unfold maxLen at hn'
  have H := Lib.hid h
  clear h
  by_cases hok : lineOk rs = true
  · rw [if_pos hok]
    have hl := lineOk_len hok
    have hcut := hcut hok
    obtain ⟨l1, l2, l3, l4⟩ := hl
    obtain ⟨b, off, rfl, hb⟩ := rd_some H.out (by intro e; have := List.map_eq_nil_iff.1 e; subst this; simp at l1)
    have hci : ¬ c = i := by omega
    have hln := cutF_len hcut
    go_enter Try.func220, Try.ntmps220
    go_wp2_with (first | (go_at_call 110; refine (sLineOk_any _ _ _ _ H.out hn).mono ?_; rintro e w1 ⟨rfl, rfl⟩) | (at_builtin; (refine wpList_app rfl _ _ 22 rfl w.heap.size 29 _ 1 4 Try.underlying22 info_f32 rfl (by omega) (.slice (some ⟨w.heap.size, 0, none⟩) 0 0) 0 [] rfl (own_new w _ _ 1 (Nat.le_refl _)) (some ⟨b, off + i, none⟩) (i + n - i) (c - i) ((cutF rs i n).map fl) rfl ((rd_cut H.out i n).ext (by (repeat (first | exact Below.refl _ _ | assumption | refine below_drewN ?_ _ | refine Below.drew ?_ | refine Below.alloc ?_ (by first | exact Nat.le_refl _ | (simp; done) | (simp; omega)) _ | refine Below.setCell ?_ (by first | exact Nat.le_refl _ | (simp; done) | (simp; omega)) _)))) (by rw [List.length_map, hln]; omega) (fun h => by cases h) oneCell_fl (by unfold maxLen; omega) (by omega) (by simp) ?_); intro v1 w1 hown hg hat))
    go_ret
    refine ⟨⟨_, rfl, ?_⟩, ext_grow (E := 29) (size := 1) (base := w.heap.size) (by (repeat (first | exact Below.refl _ _ | assumption | refine below_drewN ?_ _ | refine Below.drew ?_ | refine Below.alloc ?_ (by first | exact Nat.le_refl _ | (simp; done) | (simp; omega)) _ | refine Below.setCell ?_ (by first | exact Nat.le_refl _ | (simp; done) | (simp; omega)) _))) (own_new w _ _ 1 (Nat.le_refl _)) (Nat.le_refl _) hg⟩
    unfold OF
    rw [hln]
    simpa [Nat.add_sub_cancel_left] using hown
  · rw [if_neg hok]
    have hok' : lineOk rs = false := by simpa using hok
    go_enter Try.func220, Try.ntmps220
    go_wp2_with (first | (go_at_call 110; refine (sLineOk_any _ _ _ _ H.out hn).mono ?_; rintro e w1 ⟨rfl, rfl⟩))
    go_ret
    exact ⟨⟨_, rfl, own_new w _ _ 1 (Nat.le_refl _)⟩, by (repeat (first | exact Below.refl _ _ | assumption | refine below_drewN ?_ _ | refine Below.drew ?_ | refine Below.alloc ?_ (by first | exact Nat.le_refl _ | (simp; done) | (simp; omega)) _ | refine Below.setCell ?_ (by first | exact Nat.le_refl _ | (simp; done) | (simp; omega)) _))⟩

/-- pulse, burst and cells of a line -/
abbrev pulseOf (rs : List Nat) : List Nat := if lineOk rs = true then cutF rs 0 8 else []
abbrev burstOf (rs : List Nat) : List Nat := if lineOk rs = true then cutF rs 8 16 else []
abbrev cellsOf (rs : List Nat) : List Nat := if lineOk rs = true then cutF rs 24 (rs.length - 24) else []
theorem iPulseOf_any (A : Option Addr) (c : Nat) (rs : List Nat) (w : World) (h : Rd w A (rs.map fl)) (hn : rs.length ≤ maxLen) (hc : rs.length ≤ c) :
    Calls Try.prog 107 #[.slice A rs.length c] w fun e w' => (∃ v, e = .returned v ∧ OF w' w.heap.size v (pulseOf rs)) ∧ Ext w w' := by
  go_enter Try.func107, Try.ntmps107
  go_wp2_with (first | (go_at_call 191; refine (head_any _).mono ?_; rintro e w1 ⟨rfl, rfl⟩) | (go_at_call 190; refine (iPart_any A c rs 0 8 _ h hn hc (by omega) (fun e => by have := lineOk_len e; omega)).mono ?_; rintro e w1 ⟨⟨v, rfl, ho⟩, hb⟩))
  go_ret
  exact ⟨⟨_, rfl, ho⟩, hb⟩
theorem sPulseOf_any (A : Option Addr) (c : Nat) (rs : List Nat) (w : World) (h : Rd w A (rs.map fl)) (hn : rs.length ≤ maxLen) (hc : rs.length ≤ c) :
    Calls Try.prog 159 #[.slice A rs.length c] w fun e w' => (∃ v, e = .returned v ∧ OF w' w.heap.size v (pulseOf rs)) ∧ Ext w w' := by
  go_enter Try.func159, Try.ntmps159
  go_wp2_with (first | (go_at_call 191; refine (head_any _).mono ?_; rintro e w1 ⟨rfl, rfl⟩) | (go_at_call 220; refine (sPart_any A c rs 0 8 _ h hn hc (by omega) (fun e => by have := lineOk_len e; omega)).mono ?_; rintro e w1 ⟨⟨v, rfl, ho⟩, hb⟩))
  go_ret
  exact ⟨⟨_, rfl, ho⟩, hb⟩
theorem iBurstOf_any (A : Option Addr) (c : Nat) (rs : List Nat) (w : World) (h : Rd w A (rs.map fl)) (hn : rs.length ≤ maxLen) (hc : rs.length ≤ c) :
    Calls Try.prog 108 #[.slice A rs.length c] w fun e w' => (∃ v, e = .returned v ∧ OF w' w.heap.size v (burstOf rs)) ∧ Ext w w' := by
  go_enter Try.func108, Try.ntmps108
  go_wp2_with (first | (go_at_call 191; refine (head_any _).mono ?_; rintro e w1 ⟨rfl, rfl⟩) | (go_at_call 190; refine (iPart_any A c rs 8 16 _ h hn hc (by omega) (fun e => by have := lineOk_len e; omega)).mono ?_; rintro e w1 ⟨⟨v, rfl, ho⟩, hb⟩))
  go_ret
  exact ⟨⟨_, rfl, ho⟩, hb⟩
theorem sBurstOf_any (A : Option Addr) (c : Nat) (rs : List Nat) (w : World) (h : Rd w A (rs.map fl)) (hn : rs.length ≤ maxLen) (hc : rs.length ≤ c) :
    Calls Try.prog 160 #[.slice A rs.length c] w fun e w' => (∃ v, e = .returned v ∧ OF w' w.heap.size v (burstOf rs)) ∧ Ext w w' := by
  go_enter Try.func160, Try.ntmps160
  go_wp2_with (first | (go_at_call 191; refine (head_any _).mono ?_; rintro e w1 ⟨rfl, rfl⟩) | (go_at_call 220; refine (sPart_any A c rs 8 16 _ h hn hc (by omega) (fun e => by have := lineOk_len e; omega)).mono ?_; rintro e w1 ⟨⟨v, rfl, ho⟩, hb⟩))
  go_ret
  exact ⟨⟨_, rfl, ho⟩, hb⟩
end Go.Proofs.Ytiddaabodkglmaa

import Derived.Test.YtiddaabodkglmaaCd
namespace Go.Proofs.Ytiddaabodkglmaa
open Go.RowKit Go.Fx
set_option linter.unusedVariables false
set_option linter.unusedSimpArgs false

/-! whole numbers -/
abbrev OI (w : World) (base : Nat) (v : Value) (rs : List Int) : Prop := w.ownsRow base 3 1 v rs.length (rs.map it)

theorem toI_any (A : Option Addr) (c : Nat) (rs : List Int) (w : World) (h : Rd w A (rs.map it)) (hn : rs.length ≤ 1048576) :
    Calls Try.prog 69 #[.slice A rs.length c] w fun e w' => (∃ v, e = .returned v ∧ OI w' w.heap.size v rs) ∧ Ext w w' := by
  obtain ⟨i0, hi, hz0, hz1, hz2⟩ := info_parts info_int
  go_enter Try.func69, Try.ntmps69
  go_wp2_with (at_make; refine wpList_make_full _ rfl _ _ 69 rfl w.heap.size 3 i0 _ 1 Try.underlying69 hi hz0 hz1 _ _ _ _ rs.length rfl rfl rfl rfl (by rw [hz2]; omega) (by unfold maxLen; omega) (Nat.le_refl _) ?_; intro w1 hown hg)
  have hb1 := grown_none hg
  have hlen := hown.1
  go_loopw [4] (fun i wr => ∃ (k : Nat) (xs : List Value), k ≤ rs.length ∧ i = .int .i64 k ∧ Upto k xs (rs.map it) ∧ wr.ownsRow w.heap.size 3 1 (.slice (some ⟨w.heap.size, 0, none⟩) rs.length rs.length) rs.length xs ∧ Ext w wr) (fun i _ => rs.length - (intOf i).toNat)
  case atStart => exact ⟨0, _, Nat.zero_le _, rfl, Upto.zero (by simpa using hlen), hown, hb1⟩
  case round =>
    obtain ⟨k, xs, hk, rfl, hu, ho, hb⟩ := hrel
    clear hlen
    by_cases hlt : k < rs.length
    · obtain ⟨b, off, rfl, hbw, hc⟩ := ri_at (h.ext hb) hlt
      have hf := own_frozen ho k
      have hl : k < xs.length := by have := hu.1; simp at this; omega
      have hcell : ∃ u, wr.cell? ⟨w.heap.size, k, none⟩ = some u := ⟨_, own_cell ho (List.getElem?_eq_getElem hl)⟩
      obtain ⟨u0, hcell⟩ := hcell
      go_wp2
      go_roundw
      case rel => exact ⟨k + 1, _, by omega, by go_num, hu.step (by simp [hlt]), own_set ho _, by (repeat (first | exact Below.refl _ _ | assumption | refine below_drewN ?_ _ | refine Below.drew ?_ | refine Below.alloc ?_ (by first | exact Nat.le_refl _ | (simp; done) | (simp; omega)) _ | refine Below.setCell ?_ (by first | exact Nat.le_refl _ | (simp; done) | (simp; omega)) _))⟩
      case measure => simp [intOf]; omega
    · go_wp2
      go_ret
      obtain rfl : k = rs.length := by omega
      have := Upto.all (ys := rs.map it) (by simpa using hu)
      subst this
      exact ⟨⟨_, rfl, ho⟩, hb⟩

theorem eqI_any (A B : Option Addr) (c d : Nat) (rs : List Int) (w : World) (h : Rd w A (rs.map it)) (h' : Rd w B (rs.map it)) (hn : rs.length ≤ maxLen) :
    Calls Try.prog 72 #[.slice A rs.length c, .slice B rs.length d] w fun e w' => e = .returned (.bool true) ∧ ∃ n, w' = w.drewN n := by
  unfold maxLen at hn
  go_enter Try.func72, Try.ntmps72
  go_wp2
  go_loopw [5] (fun i wr => ∃ (k : Nat), k ≤ rs.length ∧ i = .int .i64 k ∧ ∃ n, wr = w.drewN n) (fun i _ => rs.length - (intOf i).toNat)
  case atStart => exact ⟨0, Nat.zero_le _, rfl, 0, rfl⟩
  case round =>
    obtain ⟨k, hk, rfl, n, rfl⟩ := hrel
    by_cases hlt : k < rs.length
    · obtain ⟨b, off, rfl, hbw, hc⟩ := ri_at h hlt
      obtain ⟨b', off', rfl, hbw', hc'⟩ := ri_at h' hlt
      go_wp2_with fail
      go_quiet (fail)
      go_wp2
      go_roundw
      case rel => exact ⟨k + 1, by omega, by go_num, _, rfl⟩
      case measure => simp [intOf]; omega
    · go_wp2
      go_ret
      exact ⟨rfl, n, rfl⟩
abbrev marksI (k0 : Int) (n : Nat) : List Value := (List.range n).map fun (j : Nat) => it (k0 + j)
theorem marksI_at (k0 : Int) {n k : Nat} (h : k < n) : (marksI k0 n)[k]? = some (it (k0 + k)) := by simp [h]

theorem markI_any (A : Option Addr) (c n : Nat) (k0 : Int) (hn : n ≤ 1099511627776) (hk0 : 0 ≤ k0) (hk1 : k0 ≤ 1099511627776) (xs : List Value) (base : Nat) (w : World) (h : w.ownsRow base 3 1 (.slice A n c) n xs) :
    Calls Try.prog 73 #[.slice A n c, .int .i64 k0] w fun e w' => e = .returned (.int .i64 (k0 + n)) ∧ w'.ownsRow base 3 1 (.slice A n c) n (marksI k0 n) ∧ w.grownBy w' (Value.slice A n c).ownBlock := by
  have hlen := h.1
  go_enter Try.func73, Try.ntmps73
  go_wp2
  go_loopw [1, 5] (fun q i wr => ∃ (k : Nat) (ys : List Value), k ≤ n ∧ i = .int .i64 k ∧ q = .int .i64 (k0 + k) ∧ Upto k ys (marksI k0 n) ∧ wr.ownsRow base 3 1 (.slice A n c) n ys ∧ w.grownBy wr (Value.slice A n c).ownBlock) (fun _ i _ => n - (intOf i).toNat)
  case atStart => exact ⟨0, xs, Nat.zero_le _, rfl, by simp, Upto.zero (by simpa using hlen), h, grown_refl _ _⟩
  case round =>
    obtain ⟨k, ys, hk, rfl, rfl, hu, ho, hg⟩ := hrel
    clear hlen
    by_cases hlt : k < n
    · obtain ⟨g, rfl, hb, hgs⟩ := own_at ho (by omega)
      have hf := own_frozen ho k
      have hl : k < ys.length := by have := hu.1; simp at this; omega
      have hcell : ∃ u, wr.cell? ⟨g, k, none⟩ = some u := ⟨_, own_cell ho (List.getElem?_eq_getElem hl)⟩
      obtain ⟨u0, hcell⟩ := hcell
      go_wp2
      go_roundw
      case rel => exact ⟨k + 1, _, by omega, by go_num, by go_num, hu.step (marksI_at k0 hlt), own_set ho _, grown_set (p := ⟨g, k, none⟩) hg (.inl rfl) _⟩
      case measure => simp [intOf]; omega
    · go_wp2
      go_ret
      obtain rfl : k = n := by omega
      have := Upto.all (ys := marksI k0 k) (by simpa using hu)
      subst this
      exact ⟨rfl, ho, hg⟩
theorem heldI_any (A : Option Addr) (c n : Nat) (k0 : Int) (hn : n ≤ 1099511627776) (hk0 : 0 ≤ k0) (hk1 : k0 ≤ 1099511627776) (w : World) (h : Rd w A (marksI k0 n)) :
    Calls Try.prog 93 #[.slice A n c, .int .i64 k0] w fun e w' => e = .returned (.int .i64 (k0 + n)) ∧ w = w' := by
  go_enter Try.func93, Try.ntmps93
  go_wp2
  go_loop [1, 5] (fun q i => ∃ (k : Nat), k ≤ n ∧ i = .int .i64 k ∧ q = .int .i64 (k0 + k)) (fun _ i => n - (intOf i).toNat)
  case atStart => exact ⟨0, Nat.zero_le _, rfl, by simp⟩
  case round =>
    obtain ⟨k, hk, rfl, rfl⟩ := hrel
    by_cases hlt : k < n
    · obtain ⟨b, off, rfl, hbw, hc⟩ : ∃ b off, A = some ⟨b, off, none⟩ ∧ b < w.heap.size ∧ w.cell? ⟨b, off + k, none⟩ = some (it (k0 + k)) := by
        rcases h with h | ⟨b, off, hA, hb, hc⟩
        · have := congrArg List.length h; simp at this; omega
        · exact ⟨b, off, hA, hb, hc k _ (marksI_at k0 hlt)⟩
      go_wp2
      go_round
      case rel => exact ⟨k + 1, by omega, by go_num, by go_num⟩
      case measure => simp [intOf]; omega
    · go_wp2
      go_ret
      obtain rfl : k = n := by omega
      exact ⟨rfl, rfl⟩

/-! runs: a place and a length -/
abbrev rcells (rs : List (Int × Int)) : List Value := cells2 (fun r => it r.1) (fun r => it r.2) rs
theorem rr_at {w : World} {A : Option Addr} {cs : List (Int × Int)} (h : Rd w A (rcells cs)) {i : Nat} (hi : i < cs.length) :
    ∃ b off, A = some ⟨b, off, none⟩ ∧ b < w.heap.size ∧ w.cell? ⟨b, off + i * 2, none⟩ = some (.int .i64 cs[i].1) ∧ w.cell? ⟨b, off + i * 2 + 1, none⟩ = some (.int .i64 cs[i].2) := by
  rcases h with h | ⟨b, off, hA, hb, hc⟩
  · have h2 : (rcells cs).length = cs.length * 2 := cells2_len _ _ _
    rw [h] at h2; simp at h2; omega
  · obtain ⟨h1, h2⟩ := cells2_at (fun (r : Int × Int) => it r.1) (fun r => it r.2) cs hi
    exact ⟨b, off, hA, hb, hc _ _ h1, by have := hc _ _ h2; rwa [← Nat.add_assoc] at this⟩
theorem eqR_any (A B : Option Addr) (c d : Nat) (rs : List (Int × Int)) (w : World) (h : Rd w A (rcells rs)) (h' : Rd w B (rcells rs)) (hn : rs.length ≤ maxLen) :
    Calls Try.prog 62 #[.slice A rs.length c, .slice B rs.length d] w fun e w' => e = .returned (.bool true) ∧ Ext w w' := by
  unfold maxLen at hn
  go_enter Try.func62, Try.ntmps62
  go_wp2
  go_loopw [5] (fun i wr => ∃ (k : Nat), k ≤ rs.length ∧ i = .int .i64 k ∧ Ext w wr) (fun i _ => rs.length - (intOf i).toNat)
  case atStart => exact ⟨0, Nat.zero_le _, rfl, Ext.refl _⟩
  case round =>
    obtain ⟨k, hk, rfl, hb⟩ := hrel
    by_cases hlt : k < rs.length
    · obtain ⟨b, off, rfl, hbw, hc, hc1⟩ := rr_at (h.ext hb) hlt
      obtain ⟨b', off', rfl, hbw', hc', hc1'⟩ := rr_at (h'.ext hb) hlt
      go_wp2_with fail
      go_region_with (go_at_call 157; refine (eqRun_any _ _ _).mono ?_; rintro e w1 ⟨rfl, hb1⟩)
      all_goals go_wp2
      all_goals go_roundw
      all_goals first | exact ⟨k + 1, by omega, by go_num, Ext.step hb ⟨_, rfl⟩ hb1⟩ | (simp [intOf]; omega)
    · go_wp2
      go_ret
      exact ⟨rfl, hb⟩
abbrev marks2 (f g : Int → Value) (k0 : Int) (n : Nat) : List Value := cells2 (fun (j : Nat) => f (k0 + 2 * j)) (fun (j : Nat) => g (k0 + 2 * j + 1)) (List.range n)
theorem marks2_len (f g : Int → Value) (k0 : Int) (n : Nat) : (marks2 f g k0 n).length = n * 2 := by rw [cells2_len]; simp
theorem marks2_at (f g : Int → Value) (k0 : Int) {n k : Nat} (h : k < n) : (marks2 f g k0 n)[k * 2]? = some (f (k0 + 2 * k)) ∧ (marks2 f g k0 n)[k * 2 + 1]? = some (g (k0 + 2 * k + 1)) := by
  obtain ⟨h1, h2⟩ := cells2_at (fun (j : Nat) => f (k0 + 2 * j)) (fun (j : Nat) => g (k0 + 2 * j + 1)) (List.range n) (i := k) (by simpa using h)
  simp only [List.getElem_range] at h1 h2
  exact ⟨h1, h2⟩
theorem marks2_read {w : World} {A : Option Addr} {f g : Int → Value} {k0 : Int} {n k : Nat} (h : Rd w A (marks2 f g k0 n)) (hlt : k < n) : ∃ b off, A = some ⟨b, off, none⟩ ∧ b < w.heap.size ∧ w.cell? ⟨b, off + k * 2, none⟩ = some (f (k0 + 2 * k)) ∧ w.cell? ⟨b, off + k * 2 + 1, none⟩ = some (g (k0 + 2 * k + 1)) := by
  rcases h with h | ⟨b, off, hA, hb, hc⟩
  · have := congrArg List.length h; rw [marks2_len] at this; simp at this; omega
  · obtain ⟨h1, h2⟩ := marks2_at f g k0 hlt
    exact ⟨b, off, hA, hb, hc _ _ h1, by have := hc _ _ h2; rwa [← Nat.add_assoc] at this⟩

theorem markR_any (A : Option Addr) (c n : Nat) (k0 : Int) (hn : n ≤ 1099511627776) (hk0 : 0 ≤ k0) (hk1 : k0 ≤ 1099511627776) (xs : List Value) (base : Nat) (w : World) (h : w.ownsRow base 105 2 (.slice A n c) n xs) :
    Calls Try.prog 63 #[.slice A n c, .int .i64 k0] w fun e w' => e = .returned (.int .i64 (k0 + 2 * n)) ∧ w'.ownsRow base 105 2 (.slice A n c) n (marks2 it it k0 n) ∧ w.grownBy w' (Value.slice A n c).ownBlock := by
  have hlen := h.1
  go_enter Try.func63, Try.ntmps63
  go_wp2
  go_loopw [1, 5] (fun q i wr => ∃ (k : Nat) (ys : List Value), k ≤ n ∧ i = .int .i64 k ∧ q = .int .i64 (k0 + 2 * k) ∧ Upto (k * 2) ys (marks2 it it k0 n) ∧ wr.ownsRow base 105 2 (.slice A n c) n ys ∧ w.grownBy wr (Value.slice A n c).ownBlock) (fun _ i _ => n - (intOf i).toNat)
  case atStart => exact ⟨0, xs, Nat.zero_le _, rfl, by simp, Upto.zero (by rw [marks2_len]; exact hlen), h, grown_refl _ _⟩
  case round =>
    obtain ⟨k, ys, hk, rfl, rfl, hu, ho, hg⟩ := hrel
    clear hlen
    by_cases hlt : k < n
    · obtain ⟨g, rfl, hb, hgs⟩ := own_at ho (by omega)
      obtain ⟨m1, m2⟩ := marks2_at it it k0 hlt
      have hf := own_frozen ho (k * 2)
      have hf1 := own_frozen ho (k * 2 + 1)
      have hl : k * 2 + 1 < ys.length := by have := hu.1; rw [marks2_len] at this; omega
      have hcell : ∃ u, wr.cell? ⟨g, k * 2, none⟩ = some u := ⟨_, own_cell ho (List.getElem?_eq_getElem (by omega))⟩
      have hcell1 : ∃ u, wr.cell? ⟨g, k * 2 + 1, none⟩ = some u := ⟨_, own_cell ho (List.getElem?_eq_getElem hl)⟩
      obtain ⟨u0, hcell⟩ := hcell
      obtain ⟨u1, hcell1⟩ := hcell1
      have M1 := Lib.hid m1
      have M2 := Lib.hid m2
      clear m1 m2
      go_wp2
      go_roundw
      case rel => exact ⟨k + 1, _, by omega, by go_num, by go_num, by rw [Nat.add_mul]; exact (hu.step M1.out).step (by rw [M2.out]), own_set (own_set ho _) _, grown_set (p := ⟨g, k * 2 + 1, none⟩) (grown_set (p := ⟨g, k * 2, none⟩) hg (.inl rfl) _) (.inl rfl) _⟩
      case measure => simp [intOf]; omega
    · go_wp2
      go_ret
      obtain rfl : k = n := by omega
      have := Upto.all (ys := marks2 it it k0 k) (by rw [marks2_len]; exact hu)
      subst this
      exact ⟨rfl, ho, hg⟩
theorem heldR_any (A : Option Addr) (c n : Nat) (k0 : Int) (hn : n ≤ 1099511627776) (hk0 : 0 ≤ k0) (hk1 : k0 ≤ 1099511627776) (w : World) (h : Rd w A (marks2 it it k0 n)) :
    Calls Try.prog 64 #[.slice A n c, .int .i64 k0] w fun e w' => e = .returned (.int .i64 (k0 + 2 * n)) ∧ w = w' := by
  go_enter Try.func64, Try.ntmps64
  go_wp2
  go_loop [1, 5] (fun q i => ∃ (k : Nat), k ≤ n ∧ i = .int .i64 k ∧ q = .int .i64 (k0 + 2 * k)) (fun _ i => n - (intOf i).toNat)
  case atStart => exact ⟨0, Nat.zero_le _, rfl, by simp⟩
  case round =>
    obtain ⟨k, hk, rfl, rfl⟩ := hrel
    by_cases hlt : k < n
    · obtain ⟨b, off, rfl, hbw, hc, hc1⟩ := marks2_read h hlt
      go_wp2
      go_round
      case rel => exact ⟨k + 1, by omega, by go_num, by go_num⟩
      case measure => simp [intOf]; omega
    · go_wp2
      go_ret
      obtain rfl : k = n := by omega
      exact ⟨rfl, rfl⟩
end Go.Proofs.Ytiddaabodkglmaa

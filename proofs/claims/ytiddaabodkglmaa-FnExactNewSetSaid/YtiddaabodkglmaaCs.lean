import Derived.Test.YtiddaabodkglmaaCd
import Derived.Test.YtiddaabodkglmaaCb
namespace Go.Fx
open Go.RowKit
abbrev st (s : ByteArray) : Value := .string s
theorem rs_at {w : World} {A : Option Addr} {rs : List ByteArray} (h : Rd w A (rs.map st)) {i : Nat} (hi : i < rs.length) :
    ∃ b off, A = some ⟨b, off, none⟩ ∧ b < w.heap.size ∧ w.cell? ⟨b, off + i, none⟩ = some (.string rs[i]) := by
  rcases h with h | ⟨b, off, hA, hb, hc⟩
  · have : rs = [] := by simpa using h
    subst this; simp at hi
  · exact ⟨b, off, hA, hb, hc i _ (by simp [hi])⟩
end Go.Fx
namespace Go.Proofs.Ytiddaabodkglmaa
open Go.RowKit Go.Fx
set_option linter.unusedVariables false
set_option linter.unusedSimpArgs false
theorem info_str : (Try.prog.info? 9).map (fun i => (i.zero, i.size, i.bytes)) = some (some (.string ByteArray.empty), 1, 16) := by kernel_rfl
/-- a fresh row of strings -/
abbrev OS (w : World) (base : Nat) (v : Value) (rs : List ByteArray) : Prop := w.ownsRow base 9 1 v rs.length (rs.map st)

theorem szS_any (A : Option Addr) (c : Nat) (rs : List ByteArray) (left : Int) (w : World) (h : Rd w A (rs.map st)) (hn : rs.length ≤ maxLen) (hs : ∀ s ∈ rs, s.size ≤ maxLen) (h1 : 0 ≤ left) (h2 : left ≤ 1048576) :
    Calls Try.prog 150 #[.slice A rs.length c, .int .i64 left] w fun e w' => (∃ r : Int, e = .returned (.int .i64 r) ∧ r ≤ left ∧ (0 ≤ r → rs.length ≤ left)) ∧ w = w' := by
  unfold maxLen at hn hs
  by_cases hb : left < rs.length
  · go_enter Try.func150, Try.ntmps150
    go_wp2
    go_ret
    exact ⟨⟨-1, rfl, by omega, by omega⟩, rfl⟩
  · go_enter Try.func150, Try.ntmps150
    go_wp2
    go_loop [1, 5] (fun l i => ∃ (k : Nat) (m : Int), k ≤ rs.length ∧ i = .int .i64 k ∧ l = .int .i64 m ∧ 0 ≤ m ∧ m ≤ left) (fun _ i => rs.length - (intOf i).toNat)
    case atStart => exact ⟨0, left - rs.length, Nat.zero_le _, rfl, by go_num, by omega, by omega⟩
    case round =>
      obtain ⟨k, m, hk, rfl, rfl, hm0, hm1⟩ := hrel
      by_cases hlt : k < rs.length
      · obtain ⟨b, off, rfl, hbw, hc⟩ := rs_at h hlt
        have hsz := hs _ (List.getElem_mem hlt)
        by_cases hneg : m - rs[k].size < 0
        · go_wp2
          go_ret
          exact ⟨⟨-1, rfl, by omega⟩, rfl⟩
        · go_wp2
          go_round
          case rel => exact ⟨k + 1, m - rs[k].size, by omega, by go_num, by go_num, by omega, by omega⟩
          case measure => simp [intOf]; omega
      · go_wp2
        go_ret
        exact ⟨⟨m, rfl, hm1⟩, rfl⟩

theorem toS_any (A : Option Addr) (c : Nat) (rs : List ByteArray) (w : World) (h : Rd w A (rs.map st)) (hn : rs.length ≤ 1048576) :
    Calls Try.prog 152 #[.slice A rs.length c] w fun e w' => (∃ v, e = .returned v ∧ OS w' w.heap.size v rs) ∧ Ext w w' := by
  obtain ⟨i0, hi, hz0, hz1, hz2⟩ := info_parts info_str
  go_enter Try.func152, Try.ntmps152
  go_wp2_with (at_make; refine wpList_make_full _ rfl _ _ 38 rfl w.heap.size 9 i0 _ 1 Try.underlying38 hi hz0 hz1 _ _ _ _ rs.length rfl rfl rfl rfl (by rw [hz2]; omega) (by unfold maxLen; omega) (Nat.le_refl _) ?_; intro w1 hown hg)
  have hb1 := grown_none hg
  have hlen := hown.1
  go_loopw [4] (fun i wr => ∃ (k : Nat) (xs : List Value), k ≤ rs.length ∧ i = .int .i64 k ∧ Upto k xs (rs.map st) ∧ wr.ownsRow w.heap.size 9 1 (.slice (some ⟨w.heap.size, 0, none⟩) rs.length rs.length) rs.length xs ∧ Ext w wr) (fun i _ => rs.length - (intOf i).toNat)
  case atStart => exact ⟨0, _, Nat.zero_le _, rfl, Upto.zero (by simpa using hlen), hown, hb1⟩
  case round =>
    obtain ⟨k, xs, hk, rfl, hu, ho, hb⟩ := hrel
    clear hlen
    by_cases hlt : k < rs.length
    · obtain ⟨b, off, rfl, hbw, hc⟩ := rs_at (h.ext hb) hlt
      have hf := own_frozen ho k
      have hl : k < xs.length := by have := hu.1; simp at this; omega
      have hcell : ∃ u, wr.cell? ⟨w.heap.size, k, none⟩ = some u := ⟨_, own_cell ho (List.getElem?_eq_getElem hl)⟩
      obtain ⟨u0, hcell⟩ := hcell
      go_wp2
      go_roundw
      case rel => exact ⟨k + 1, _, by omega, by go_num, hu.step (by simp [hlt]), own_set ho _, by (repeat (first | exact Below.refl _ _ | assumption | refine below_drewN ?_ _ | refine Below.drew ?_ | refine Below.alloc ?_ (by first | exact Nat.le_refl _ | (simp; done) | (simp; omega)) _ | refine Below.setCell ?_ (by first | exact Nat.le_refl _ | (simp; done) | (simp; omega)) _))⟩
      case measure => simp [intOf]; omega
    · go_wp2
      go_ret
      obtain rfl : k = rs.length := by omega
      have := Upto.all (ys := rs.map st) (by simpa using hu)
      subst this
      exact ⟨⟨_, rfl, ho⟩, hb⟩

theorem eqS_any (A B : Option Addr) (c d : Nat) (rs : List ByteArray) (w : World) (h : Rd w A (rs.map st)) (h' : Rd w B (rs.map st)) (hn : rs.length ≤ maxLen) :
    Calls Try.prog 154 #[.slice A rs.length c, .slice B rs.length d] w fun e w' => e = .returned (.bool true) ∧ ∃ n, w' = w.drewN n := by
  unfold maxLen at hn
  go_enter Try.func154, Try.ntmps154
  go_wp2
  go_loopw [5] (fun i wr => ∃ (k : Nat), k ≤ rs.length ∧ i = .int .i64 k ∧ ∃ n, wr = w.drewN n) (fun i _ => rs.length - (intOf i).toNat)
  case atStart => exact ⟨0, Nat.zero_le _, rfl, 0, rfl⟩
  case round =>
    obtain ⟨k, hk, rfl, n, rfl⟩ := hrel
    by_cases hlt : k < rs.length
    · obtain ⟨b, off, rfl, hbw, hc⟩ := rs_at h hlt
      obtain ⟨b', off', rfl, hbw', hc'⟩ := rs_at h' hlt
      go_wp2_with fail
      go_quiet (fail)
      go_wp2
      go_roundw
      case rel => exact ⟨k + 1, by omega, by go_num, _, rfl⟩
      case measure => simp [intOf]; omega
    · go_wp2
      go_ret
      exact ⟨rfl, n, rfl⟩
end Go.Proofs.Ytiddaabodkglmaa

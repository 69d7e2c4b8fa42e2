import Derived.Test.YtiddaabodkglmaaCi
import Derived.Test.YtiddaabodkglmaaK1
namespace Go.Proofs.Ytiddaabodkglmaa
open Go.RowKit Go.Fx
set_option linter.unusedVariables false
set_option linter.unusedSimpArgs false
theorem near_any (a l p : Int) (b : Nat) (w : World) (h : w.cell? ⟨b, 0, none⟩ = some (.int .i64 p)) (hb : b < w.heap.size) (h1 : -1000000 ≤ p) (h2 : p ≤ 1000000) :
    Calls Try.prog 178 #[.agg #[.int .i64 a, .int .i64 l], .pointer (some ⟨b, 0, none⟩)] w fun e w' => e = .returned (.bool (near p (a, l))) ∧ Ext w w' := by
  have hne : b ≠ w.heap.size := by omega
  go_enter Try.func178, Try.ntmps178
  go_wp2_with (go_at_call 137; refine (within_any _ _ _ _).mono ?_; rintro e w1 ⟨rfl, rfl⟩)
  go_ret
  exact ⟨rfl, by (repeat (first | exact Below.refl _ _ | assumption | refine below_drewN ?_ _ | refine Below.drew ?_ | refine Below.alloc ?_ (by first | exact Nat.le_refl _ | (simp; done) | (simp; omega)) _ | refine Below.setCell ?_ (by first | exact Nat.le_refl _ | (simp; done) | (simp; omega)) _))⟩
set_option maxRecDepth 100000 in
theorem idxRun_any (A : Option Addr) (c : Nat) (rs : List (Int × Int)) (p : Int) (b : Nat) (w : World) (h : Rd w A (rcells rs)) (hn : rs.length ≤ maxLen) (hcp : w.cell? ⟨b, 0, none⟩ = some (.int .i64 p)) (hb : b < w.heap.size) (h1 : -1000000 ≤ p) (h2 : p ≤ 1000000) :
    Calls Try.prog 177 #[.slice A rs.length c, .func (.func 178) #[] #[.pointer (some ⟨b, 0, none⟩)]] w fun e w' => (∃ k : Int, e = .returned (.int .i64 k) ∧ ((k = -1 ∧ rs.find? (near p) = none) ∨ ∃ (i : Nat) (hi : i < rs.length), k = i ∧ rs.find? (near p) = some rs[i])) ∧ Ext w w' := by
  unfold maxLen at hn
  go_enter Try.func177, Try.ntmps177
  go_wp2
  go_loopw [8] (fun i wr => ∃ (k : Nat), k ≤ rs.length ∧ i = .int .i64 k ∧ Hid (rs.find? (near p) = (rs.drop k).find? (near p)) ∧ Ext w wr) (fun i _ => rs.length - (intOf i).toNat)
  case atStart => exact ⟨0, Nat.zero_le _, rfl, Lib.hid rfl, Ext.refl _⟩
  case round =>
    obtain ⟨k, hk, rfl, H, hbx⟩ := hrel
    by_cases hlt : k < rs.length
    · obtain ⟨b0, off, rfl, hbw, hc, hc1⟩ := rr_at (h.ext hbx) hlt
      have hcp2 : wr.cell? ⟨b, 0, none⟩ = some (.int .i64 p) := by rw [hbx.cell (p := ⟨b, 0, none⟩) hb]; exact hcp
      cases hnr : near p rs[k]
      · have H' : Hid (rs.find? (near p) = (rs.drop (k + 1)).find? (near p)) := Lib.hid (by rw [H.out, List.drop_eq_getElem_cons hlt, List.find?_cons, hnr])
        go_wp2_with (go_at_call 178; refine (near_any _ _ _ _ _ hcp2 (by have := hbx.size; omega) h1 h2).mono ?_; rintro e w1 ⟨rfl, hb1⟩; rw [show near p (rs[k].1, rs[k].2) = false from hnr])
        go_roundw
        case rel => exact ⟨k + 1, by omega, by go_num, H', hbx.trans hb1⟩
        case measure => simp [intOf]; omega
      · have H' : Hid (rs.find? (near p) = some rs[k]) := Lib.hid (by rw [H.out, List.drop_eq_getElem_cons hlt, List.find?_cons, hnr])
        go_wp2_with (go_at_call 178; refine (near_any _ _ _ _ _ hcp2 (by have := hbx.size; omega) h1 h2).mono ?_; rintro e w1 ⟨rfl, hb1⟩; rw [show near p (rs[k].1, rs[k].2) = true from hnr])
        go_ret
        exact ⟨⟨_, rfl, .inr ⟨k, hlt, rfl, H'.out⟩⟩, hbx.trans hb1⟩
    · go_wp2
      go_ret
      obtain rfl : k = rs.length := by omega
      exact ⟨⟨_, rfl, .inl ⟨rfl, by rw [H.out, List.drop_length]; rfl⟩⟩, hbx⟩
end Go.Proofs.Ytiddaabodkglmaa

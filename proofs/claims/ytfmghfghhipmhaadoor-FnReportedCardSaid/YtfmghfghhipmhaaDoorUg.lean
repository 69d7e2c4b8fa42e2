import Derived.Test.YtfmghfghhipmhaaDoorUf
import Derived.Test.YtfmghfghhipmhaaDoorTs
import Derived.Test.YtfmghfghhipmhaaDoorUb
namespace Go.Proofs.YtfmghfghhipmhaaDoor
open Go.RowKit Go.Fx Go.Sort
set_option linter.unusedVariables false
set_option linter.unusedSimpArgs false
theorem bigD_any (A : Option Addr) (n c : Nat) (w : World) :
    Calls Tryd.prog 15 #[.slice A n c] w fun e w' => e = .returned (.bool (decide (1048576 < (n : Int)))) ∧ w = w' := by
  go_enter Tryd.func15, Tryd.ntmps15
  go_wp2
  go_ret
  exact ⟨rfl, rfl⟩
theorem sameTexts_any (A B : Option Addr) (c d : Nat) (rs : List ByteArray) (w : World) (h : Rd w A (rs.map st)) (h' : Rd w B (rs.map st)) (hn : rs.length ≤ maxLen) :
    Calls Tryd.prog 32 #[.slice A rs.length c, .slice B rs.length d] w fun e w' => e = .returned (.bool true) ∧ ∃ n, w' = w.drewN n := by
  unfold maxLen at hn
  go_enter Tryd.func32, Tryd.ntmps32
  go_wp2
  go_loopw [5] (fun i wr => ∃ (k : Nat), k ≤ rs.length ∧ i = .int .i64 k ∧ ∃ n, wr = w.drewN n) (fun i _ => rs.length - (intOf i).toNat)
  case atStart => exact ⟨0, Nat.zero_le _, rfl, 0, rfl⟩
  case round =>
    obtain ⟨k, hk, rfl, n, rfl⟩ := hrel
    by_cases hlt : k < rs.length
    · obtain ⟨b, off, rfl, hbw, hc⟩ := rs_at h hlt
      obtain ⟨b', off', rfl, hbw', hc'⟩ := rs_at h' hlt
      go_wp2_with fail
      go_quiet (fail)
      go_wp2
      go_roundw
      case rel => exact ⟨k + 1, by omega, by go_num, _, rfl⟩
      case measure => simp [intOf]; omega
    · go_wp2
      go_ret
      exact ⟨rfl, n, rfl⟩
theorem sameBools_any (A B : Option Addr) (c d : Nat) (rs : List Bool) (w : World) (h : Rd w A (rs.map bo)) (h' : Rd w B (rs.map bo)) (hn : rs.length ≤ maxLen) :
    Calls Tryd.prog 40 #[.slice A rs.length c, .slice B rs.length d] w fun e w' => e = .returned (.bool true) ∧ ∃ n, w' = w.drewN n := by
  unfold maxLen at hn
  go_enter Tryd.func40, Tryd.ntmps40
  go_wp2
  go_loopw [5] (fun i wr => ∃ (k : Nat), k ≤ rs.length ∧ i = .int .i64 k ∧ ∃ n, wr = w.drewN n) (fun i _ => rs.length - (intOf i).toNat)
  case atStart => exact ⟨0, Nat.zero_le _, rfl, 0, rfl⟩
  case round =>
    obtain ⟨k, hk, rfl, n, rfl⟩ := hrel
    by_cases hlt : k < rs.length
    · obtain ⟨b, off, rfl, hbw, hc⟩ := bs_at h hlt
      obtain ⟨b', off', rfl, hbw', hc'⟩ := bs_at h' hlt
      go_wp2_with fail
      go_quiet (fail)
      go_wp2
      go_roundw
      case rel => exact ⟨k + 1, by omega, by go_num, _, rfl⟩
      case measure => simp [intOf]; omega
    · go_wp2
      go_ret
      exact ⟨rfl, n, rfl⟩
set_option maxRecDepth 100000 in
set_option maxHeartbeats 2000000 in
theorem sameSet_any (s : TS) (A B : Option Addr) (c d : Nat) (w : World) (h : Rd w A (s.log.map st)) (h' : Rd w B (s.log.map st)) (hn : s.log.length ≤ maxLen) :
    Calls Tryd.prog 19 #[setT s (.slice A s.log.length c), setT s (.slice B s.log.length d)] w fun e w' => e = .returned (.bool true) ∧ Ext w w' := by
  have HL := Lib.hid hn
  unfold maxLen at hn
  have M1 := Lib.hid (fun W => same32_any s.slice s.slice rfl W)
  have M2 := Lib.hid (fun W => same32_any s.least s.least rfl W)
  have M3 := Lib.hid (fun W => same32_any s.sat s.sat rfl W)
  go_enter Tryd.func19, Tryd.ntmps19
  go_wp2_with fail
  refine (M1.out _).mono ?_
  rintro e w1 ⟨rfl, n1, rfl⟩
  go_wp2_with fail
  refine (M2.out _).mono ?_
  rintro e w1 ⟨rfl, n2, rfl⟩
  go_wp2_with fail
  refine (M3.out _).mono ?_
  rintro e w1 ⟨rfl, n3, rfl⟩
  go_wp2_with fail
  refine (sameTexts_any A B c d s.log _ (h.ext (by (repeat (first | exact Below.refl _ _ | assumption | refine below_drewN ?_ _ | refine Below.drew ?_ | refine Below.alloc ?_ (by first | exact Nat.le_refl _ | (simp; done) | (simp; omega)) _ | refine Below.setCell ?_ (by first | exact Nat.le_refl _ | (simp; done) | (simp; omega)) _)))) (h'.ext (by (repeat (first | exact Below.refl _ _ | assumption | refine below_drewN ?_ _ | refine Below.drew ?_ | refine Below.alloc ?_ (by first | exact Nat.le_refl _ | (simp; done) | (simp; omega)) _ | refine Below.setCell ?_ (by first | exact Nat.le_refl _ | (simp; done) | (simp; omega)) _)))) HL.out).mono ?_
  rintro e w1 ⟨rfl, n4, rfl⟩
  go_wp2_with fail
  go_ret
  exact ⟨rfl, by (repeat (first | exact Below.refl _ _ | assumption | refine below_drewN ?_ _ | refine Below.drew ?_ | refine Below.alloc ?_ (by first | exact Nat.le_refl _ | (simp; done) | (simp; omega)) _ | refine Below.setCell ?_ (by first | exact Nat.le_refl _ | (simp; done) | (simp; omega)) _))⟩
end Go.Proofs.YtfmghfghhipmhaaDoor

import Derived.Test.YtfmghfghhipmhaaDoorTh
import Derived.Test.YtfmghfghhipmhaaDoorSe
namespace Go.Proofs.YtfmghfghhipmhaaDoor
open Go.RowKit Go.Fx Go.Sort
open Go.Lib (decDigits)
set_option linter.unusedVariables false
set_option linter.unusedSimpArgs false
set_option maxRecDepth 100000 in
theorem iFromFixed_any (n : Int) (hn : fixOk n = true) (w : World) : ∃ q, floatToFloatBits .f64 q .f32 = some (thou n) ∧
    Calls Tryd.prog 86 #[.int .i64 n] w fun e w' => e = .returned (.float .f64 q) ∧ w = w' := by
  obtain ⟨q, hq, hq2⟩ := thou_bits (n := n) (by obtain ⟨h1, h2⟩ := fixOk_iff.1 hn; omega)
  refine ⟨q, hq2, ?_⟩
  have HQ := Lib.hid hq
  have HF : ∀ (a b : Int), fixOk n = true → (decide (a ≤ n) && decide (n ≤ b)) = (decide (a ≤ n) && decide (n ≤ b)) := fun _ _ _ => rfl
  clear hq2 hq HF
  go_enter Tryd.func86, Tryd.ntmps86
  go_wp2_with (first | (go_at_call 73; refine (fixedOk_any _ _).mono ?_; rintro e w1 ⟨rfl, rfl⟩; rw [hn]) | (rw [run_float_arith w .quo _ .f64 _ _ q HQ.out]))
  go_ret
  exact ⟨rfl, rfl⟩
set_option maxRecDepth 100000 in
theorem sFromFixed_any (n : Int) (hn : fixOk n = true) (w : World) : ∃ q, floatToFloatBits .f64 q .f32 = some (thou n) ∧
    Calls Tryd.prog 83 #[.int .i64 n] w fun e w' => e = .returned (.float .f64 q) ∧ w = w' := by
  obtain ⟨q, hq, hq2⟩ := thou_bits (n := n) (by obtain ⟨h1, h2⟩ := fixOk_iff.1 hn; omega)
  refine ⟨q, hq2, ?_⟩
  have HQ := Lib.hid hq
  clear hq2 hq
  go_enter Tryd.func83, Tryd.ntmps83
  go_wp2_with (first | (go_at_call 64; refine (sIn_any _ _ _ _).mono ?_; rintro e w1 ⟨rfl, rfl⟩; rw [show (decide ((-1000000000 : Int) ≤ n) && decide (n ≤ 1000000000)) = true from hn]) | (rw [run_float_arith w .quo _ .f64 _ _ q HQ.out]))
  go_ret
  exact ⟨rfl, rfl⟩
end Go.Proofs.YtfmghfghhipmhaaDoor

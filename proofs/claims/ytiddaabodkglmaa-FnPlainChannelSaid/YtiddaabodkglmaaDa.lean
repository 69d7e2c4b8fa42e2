import Derived.Test.YtiddaabodkglmaaCg
import Derived.Test.YtiddaabodkglmaaGb
import Derived.Test.YtiddaabodkglmaaMd
namespace Go.Fx
open Go.RowKit Ieee
section
variable {P : Program} {o : Oper} {a : Act} {w : World} {K : Act → World → Prop} {Q : Exit → Act → World → Prop}
/-- 'complex64(c)' of a complex128, where the language says what it is -/
theorem upon_narrowC {src dst : TypeId} {x y r s : Nat} (h1 : P.underlying src = some (.complex .f64)) (h2 : P.underlying dst = some (.complex .f32)) (hx : floatToFloatBits .f64 x .f32 = some r) (hy : floatToFloatBits .f64 y .f32 = some s)
    (h : ∀ n, Oper.upon P o a K Q (.ok (.value (.complex .f32 r s)) (w.drewN n))) :
    Oper.upon P o a K Q ((Sem.run P (convert src dst (.complex .f64 x y)) w).andThen fun v w' => .ok (.value v) w') := by
  have e1 := run_cv (P := P) w .f64 .f32 x
  have e2 := run_cv (P := P) (w.drewN (cvcnt .f64 .f32 x)) .f64 .f32 y
  have v1 : cvbits w .f64 .f32 x = r := by unfold cvbits; rw [hx]; rfl
  have v2 : cvbits (w.drewN (cvcnt .f64 .f32 x)) .f64 .f32 y = s := by unfold cvbits; rw [hy]; rfl
  rw [v1] at e1
  rw [v2] at e2
  have hr : (convert src dst (.complex .f64 x y)).run P w = .ok (.complex .f32 r s) (w.drewN (cvcnt .f64 .f32 x + cvcnt .f64 .f32 y)) := by
    simp [convert, run_underlying h1, run_underlying h2, Conv.complexToComplex, e1, e2]
  rw [hr]; exact h _
end
/-- the single of a whole number, by way of float64 -/
def narI (k : Int) : Nat := (floatToFloatBits .f64 (floatOfInt .f64 k) .f32).getD 0
theorem narI_is {k : Int} (h0 : 0 ≤ k) (h1 : k ≤ 16777216) : floatToFloatBits .f64 (floatOfInt .f64 k) .f32 = some (narI k) := by
  obtain ⟨r, hr, _⟩ := isV_conv (s := .f64) (d := .f32) (isV_int (k := .f64) (n := k) (Nat.le_trans (show k.natAbs ≤ 16777216 by omega) (by decide))) (by decide) (Nat.le_trans (show k.natAbs ≤ 16777216 by omega) (by decide))
  unfold narI; rw [hr]; rfl
theorem narI_not {k : Int} (h0 : 0 ≤ k) (h1 : k ≤ 16777216) : isN .f32 (narI k) = false := by
  obtain ⟨r, hr, hv⟩ := isV_conv (s := .f64) (d := .f32) (isV_int (k := .f64) (n := k) (Nat.le_trans (show k.natAbs ≤ 16777216 by omega) (by decide))) (by decide) (Nat.le_trans (show k.natAbs ≤ 16777216 by omega) (by decide))
  unfold narI; rw [hr]; exact isV_not hv
theorem nar_one : floatToFloatBits .f64 4607182418800017408 .f32 = some 1065353216 := by decide +kernel
abbrev mY (k : Int) : Value := fl (floatOfInt .f32 k)
abbrev mC (k : Int) : Value := .complex .f32 (narI k) 1065353216
theorem cnC_at {rs ss : List Cel} (h : cnC rs = cnC ss) {k : Nat} (h1 : k < rs.length) (h2 : k < ss.length) : rs[k].cn = ss[k].cn := by
  have := congrArg (fun l => l[k]?) h
  simpa [h1, h2] using this
end Go.Fx
namespace Go.Proofs.Ytiddaabodkglmaa
open Go.RowKit Go.Fx
set_option linter.unusedVariables false
set_option linter.unusedSimpArgs false

abbrev marksC (k0 : Int) (n : Nat) : List Value := marks2 mY mC k0 n
theorem info_cell : (Try.prog.info? 90).map (fun i => (i.zero, i.size, i.bytes)) = some (some (.agg #[.float .f32 0, .complex .f32 0 0]), 2, 12) := by kernel_rfl
/-- a fresh row of cells -/
abbrev OC (w : World) (base : Nat) (v : Value) (row : List Cel) : Prop := w.ownsRow base 90 2 v row.length (ccells row)
set_option maxRecDepth 100000 in
set_option maxHeartbeats 4000000 in
theorem eqC_any (A B : Option Addr) (c d : Nat) (rs ss : List Cel) (w : World) (h : Rd w A (ccells rs)) (h' : Rd w B (ccells ss)) (hn : rs.length ≤ maxLen) (he : cnC rs = cnC ss) :
    Calls Try.prog 102 #[.slice A rs.length c, .slice B ss.length d] w fun e w' => e = .returned (.bool true) ∧ Ext w w' := by
  have hl : rs.length = ss.length := by simpa using congrArg List.length he
  have HE := Lib.hid he
  unfold maxLen at hn
  rw [← hl]
  have HL := Lib.hid hl
  clear he hl
  go_enter Try.func102, Try.ntmps102
  go_wp2
  go_loopw [5] (fun i wr => ∃ (k : Nat), k ≤ rs.length ∧ i = .int .i64 k ∧ Ext w wr) (fun i _ => rs.length - (intOf i).toNat)
  case atStart => exact ⟨0, Nat.zero_le _, rfl, Ext.refl _⟩
  case round =>
    obtain ⟨k, hk, rfl, hb⟩ := hrel
    by_cases hlt : k < rs.length
    · have hlt' : k < ss.length := by rw [← HL.out]; exact hlt
      obtain ⟨b, off, rfl, hbw, hc, hc1⟩ := rc_at (h.ext hb) hlt
      obtain ⟨b', off', rfl, hbw', hc', hc1'⟩ := rc_at (h'.ext hb) hlt'
      have HK := Lib.hid (cnC_at HE.out hlt hlt')
      generalize rs[k] = x at hc hc1 HK
      generalize ss[k] = y at hc' hc1' HK
      go_wp2_with fail
      go_region_with (go_at_call 187; refine (eqCell_any x y HK.out _).mono ?_; rintro e w1 ⟨rfl, hb1⟩)
      all_goals go_wp2
      all_goals go_roundw
      all_goals first | exact ⟨k + 1, by omega, by go_num, Ext.step hb ⟨_, rfl⟩ hb1⟩ | (simp [intOf]; omega)
    · go_wp2
      go_ret
      exact ⟨rfl, hb⟩
set_option maxRecDepth 100000 in
set_option maxHeartbeats 4000000 in
theorem markC_any (A : Option Addr) (c n : Nat) (k0 : Int) (hn : n ≤ 8388608) (hk0 : 0 ≤ k0) (hk1 : k0 + 2 * n ≤ 16777216) (xs : List Value) (base : Nat) (w : World) (h : w.ownsRow base 90 2 (.slice A n c) n xs) :
    Calls Try.prog 103 #[.slice A n c, .int .i64 k0] w fun e w' => e = .returned (.int .i64 (k0 + 2 * n)) ∧ w'.ownsRow base 90 2 (.slice A n c) n (marksC k0 n) ∧ w.grownBy w' (Value.slice A n c).ownBlock := by
  have hlen := h.1
  go_enter Try.func103, Try.ntmps103
  go_wp2
  go_loopw [1, 5] (fun q i wr => ∃ (k : Nat) (ys : List Value), k ≤ n ∧ i = .int .i64 k ∧ q = .int .i64 (k0 + 2 * k) ∧ Upto (k * 2) ys (marksC k0 n) ∧ wr.ownsRow base 90 2 (.slice A n c) n ys ∧ w.grownBy wr (Value.slice A n c).ownBlock) (fun _ i _ => n - (intOf i).toNat)
  case atStart => exact ⟨0, xs, Nat.zero_le _, rfl, by simp, Upto.zero (by rw [marks2_len]; exact hlen), h, grown_refl _ _⟩
  case round =>
    obtain ⟨k, ys, hk, rfl, rfl, hu, ho, hg⟩ := hrel
    clear hlen
    by_cases hlt : k < n
    · obtain ⟨g, rfl, hb, hgs⟩ := own_at ho (by omega)
      obtain ⟨m1, m2⟩ := marks2_at mY mC k0 hlt
      have hf := own_frozen ho (k * 2)
      have hf1 := own_frozen ho (k * 2 + 1)
      have hl : k * 2 + 1 < ys.length := by have := hu.1; rw [marks2_len] at this; omega
      have hcell : ∃ u, wr.cell? ⟨g, k * 2, none⟩ = some u := ⟨_, own_cell ho (List.getElem?_eq_getElem (by omega))⟩
      have hcell1 : ∃ u, wr.cell? ⟨g, k * 2 + 1, none⟩ = some u := ⟨_, own_cell ho (List.getElem?_eq_getElem hl)⟩
      obtain ⟨u0, hcell⟩ := hcell
      obtain ⟨u1, hcell1⟩ := hcell1
      have M1 := Lib.hid m1
      have M2 := Lib.hid m2
      have hnar := narI_is (k := k0 + 2 * k + 1) (by omega) (by omega)
      clear m1 m2
      go_wp2_with (with_reducible refine upon_narrowC Try.underlying167 Try.underlying30 hnar nar_one ?_; intro n1)
      go_roundw
      case rel => exact ⟨k + 1, _, by omega, by go_num, by go_num, by rw [Nat.add_mul]; exact (hu.step M1.out).step (by rw [M2.out]), own_set (own_draw (own_set ho _) _) _, grown_set (p := ⟨g, k * 2 + 1, none⟩) (grown_drewN (grown_set (p := ⟨g, k * 2, none⟩) hg (.inl rfl) _) _) (.inl rfl) _⟩
      case measure => simp [intOf]; omega
    · go_wp2
      go_ret
      obtain rfl : k = n := by omega
      have := Upto.all (ys := marksC k0 k) (by rw [marks2_len]; exact hu)
      subst this
      exact ⟨rfl, ho, hg⟩
set_option maxRecDepth 100000 in
set_option maxHeartbeats 4000000 in
theorem heldC_any (A : Option Addr) (c n : Nat) (k0 : Int) (hn : n ≤ 8388608) (hk0 : 0 ≤ k0) (hk1 : k0 + 2 * n ≤ 16777216) (w : World) (h : Rd w A (marksC k0 n)) :
    Calls Try.prog 104 #[.slice A n c, .int .i64 k0] w fun e w' => e = .returned (.int .i64 (k0 + 2 * n)) ∧ ∃ n, w' = w.drewN n := by
  go_enter Try.func104, Try.ntmps104
  go_wp2
  go_loopw [1, 5] (fun q i wr => ∃ (k : Nat), k ≤ n ∧ i = .int .i64 k ∧ q = .int .i64 (k0 + 2 * k) ∧ ∃ m, wr = w.drewN m) (fun _ i _ => n - (intOf i).toNat)
  case atStart => exact ⟨0, Nat.zero_le _, rfl, by simp, 0, rfl⟩
  case round =>
    obtain ⟨k, hk, rfl, rfl, m, rfl⟩ := hrel
    by_cases hlt : k < n
    · obtain ⟨b, off, rfl, hbw, hc, hc1⟩ := marks2_read h hlt
      have hnar := narI_is (k := k0 + 2 * k + 1) (by omega) (by omega)
      have hs := feq_self (notNaN_int .f32 (k0 + 2 * k))
      have hs1 := feq_self (narI_not (k := k0 + 2 * k + 1) (by omega) (by omega))
      have hs2 : feq .f32 1065353216 1065353216 = true := by decide +kernel
      go_wp2_with (with_reducible refine upon_narrowC Try.underlying167 Try.underlying30 hnar nar_one ?_; intro n1)
      go_roundw
      case rel => exact ⟨k + 1, by omega, by go_num, by go_num, _, rfl⟩
      case measure => simp [intOf]; omega
    · go_wp2
      go_ret
      obtain rfl : k = n := by omega
      exact ⟨rfl, _, rfl⟩
end Go.Proofs.Ytiddaabodkglmaa

import Derived.Test.YtfmghfghhipmhaaDoorSf
import Derived.Test.YtfmghfghhipmhaaDoorK1
namespace Go.Fx
open Ieee
set_option linter.unusedVariables false
set_option linter.unusedSimpArgs false
set_option exponentiation.threshold 2000
/-! thousandths of a single -/
abbrev SV (x : Nat) (m : Int) (e : Nat) : Prop := IsV FloatKind.f32.format x m e
theorem sv_within {x c : Nat} {m C : Int} {e : Nat} (hx : SV x m e) (hc : SV c C e) (h : (m.natAbs : Int) ≤ C) : within32 x c = true := by
  unfold within32 fge fle
  have hn : SV (Op.negFloat .f32 c) (-C) e := isV_neg hc
  rw [isV_gt hx hn, isV_eq hx hn, isV_lt hx hc, isV_eq hx hc, Bool.and_eq_true, Bool.or_eq_true, Bool.or_eq_true, decide_eq_true_iff, decide_eq_true_iff, decide_eq_true_iff, decide_eq_true_iff]
  omega
theorem sv_c1024 (e : Nat) : SV 1149239296 (1024 * ((2 ^ e : Nat) : Int)) e := by
  have := IsV.finer (isV_chk (f := FloatKind.f32.format) (b := 1149239296) (m := 1024) (e := 0) (by decide +kernel)) e
  rw [Nat.zero_add] at this; exact this
def toFix (x : Nat) : Int := match single.read x with
  | .number s mag pl => rndI (1000 * (sg s * (mag : Int) * tp pl.toNat)) (-pl).toNat
  | _ => 0
theorem read_V {x : Nat} {s : Bool} {mag : Nat} {pl : Int} (h : single.read x = .number s mag pl) (hp : -149 ≤ pl) : SV x (sg s * (mag : Int) * tp pl.toNat) (-pl).toNat := by
  have hL : FloatKind.f32.format.leastPlace = -149 := by decide
  refine ⟨s, mag, pl, h, by rw [hL]; exact hp, ?_⟩
  rw [hL]
  have e : (pl - -149).toNat + (-pl).toNat = pl.toNat + (-(-149 : Int)).toNat := by omega
  show sg s * (mag : Int) * tp _ * tp _ = _ * tp _ * tp _
  rw [Int.mul_assoc (sg s * _), ← tp_add, e, tp_add, ← Int.mul_assoc]
theorem toFix_V {x : Nat} {m : Int} {e : Nat} (h : SV x m e) : toFix x = rndI (1000 * m) e := by
  obtain ⟨s, mag, pl, hr, hp, hv⟩ := id h
  have hL : FloatKind.f32.format.leastPlace = -149 := by decide
  rw [hL] at hp
  unfold toFix
  have hr' : single.read x = .number s mag pl := hr
  rw [hr']
  have h2 := isV_same (read_V hr' hp) h
  refine rnd_cross ?_
  rw [Int.mul_assoc, h2, Int.mul_assoc]
theorem val_fit {x : Nat} {a : Int} {c : Nat} (h : Val .f32 x a) (hc : a.natAbs ≤ 2 ^ c * 2 ^ 149) (hc10 : c ≤ 20) : ∃ (m : Int) (e : Nat), SV x m e ∧ e ≤ 149 ∧ m.natAbs < 16777216 ∧ m.natAbs ≤ 2 ^ c * 2 ^ e ∧ (0 ≤ a → 0 ≤ m) := by
  obtain ⟨s, mag, pl, hr, hp, hv⟩ := h
  have hL : FloatKind.f32.format.leastPlace = -149 := by decide
  rw [hL] at hp hv
  have hm := read_mag FloatKind.f32.format hr
  have hm : mag < 16777216 := hm
  have hva := congrArg Int.natAbs hv
  rw [Int.natAbs_mul, Int.natAbs_mul, Int.natAbs_natCast, Int.natAbs_natCast, show (sg s).natAbs = 1 by cases s <;> rfl, Nat.one_mul] at hva
  have hsgn : 0 ≤ a → 0 ≤ sg s * (mag : Int) := fun h0 => by
    rw [← hv] at h0
    rcases Int.lt_or_le (sg s * (mag : Int)) 0 with h | h
    · have := Int.mul_neg_of_neg_of_pos h (tp_pos (pl - -149).toNat); omega
    · exact h
  have hV := read_V (x := x) hr hp
  refine ⟨_, _, hV, by omega, ?_⟩
  have hab : (sg s * (mag : Int) * tp pl.toNat).natAbs = mag * 2 ^ pl.toNat := by
    rw [Int.natAbs_mul, Int.natAbs_mul, Int.natAbs_natCast, Int.natAbs_natCast, show (sg s).natAbs = 1 by cases s <;> rfl, Nat.one_mul]
  rw [hab]
  rw [← hva] at hc
  refine ⟨?_, ?_, fun h0 => Int.mul_nonneg (hsgn h0) (Int.le_of_lt (tp_pos _))⟩
  · rcases Int.lt_or_le 0 pl with h | h
    · have e1 : (pl - -149).toNat = pl.toNat + 149 := by omega
      rw [e1, Nat.pow_add, ← Nat.mul_assoc] at hc
      have h1 := Nat.le_of_mul_le_mul_right hc (Nat.two_pow_pos 149)
      have h2 : 2 ^ c ≤ 2 ^ 20 := Nat.pow_le_pow_right (by omega) hc10
      omega
    · rw [show pl.toNat = 0 by omega]; omega
  · have e1 : (pl - -149).toNat + (-pl).toNat = pl.toNat + 149 := by omega
    have h1 := Nat.mul_le_mul_right (2 ^ (-pl).toNat) hc
    rw [Nat.mul_assoc, ← Nat.pow_add, e1, Nat.pow_add, ← Nat.mul_assoc, Nat.mul_right_comm (2 ^ c)] at h1
    exact Nat.le_of_mul_le_mul_right h1 (Nat.two_pow_pos 149)
theorem fk_c16 : fk .f32 1098907648 = some (2 ^ 4 * tp 149) := by decide +kernel
theorem fk_c1024' : fk .f32 1149239296 = some (2 ^ 10 * tp 149) := by decide +kernel
theorem within_fit {x : Nat} (h : within32 x 1149239296 = true) : ∃ (m : Int) (e : Nat), SV x m e ∧ e ≤ 149 ∧ m.natAbs < 16777216 ∧ m.natAbs ≤ 2 ^ 10 * 2 ^ e := by
  unfold within32 at h
  simp only [Bool.and_eq_true] at h
  obtain ⟨h1, h2⟩ := h
  cases hx : fk .f32 x with
  | none => rw [(cmp_nan (.inl hx)).2.2.1] at h2; cases h2
  | some a =>
    rw [fge_fk hx (by rw [fk_neg, fk_c1024']; rfl)] at h1
    rw [fle_fk hx fk_c1024'] at h2
    simp only [decide_eq_true_eq] at h1 h2
    have ha : a.natAbs ≤ 2 ^ 10 * 2 ^ 149 := by
      have e : (2 ^ 10 * tp 149 : Int) = ((2 ^ 10 * 2 ^ 149 : Nat) : Int) := by decide +kernel
      rw [e] at h1 h2; omega
    obtain ⟨m, e, q1, q2, q3, q4, -⟩ := val_fit (c := 10) (val_of_lt hx (by
      have : (((2 ^ 10 * 2 ^ 149 : Nat) : Int)) < Fx.big FloatKind.f32.format := by decide +kernel
      omega)) ha (by omega)
    exact ⟨m, e, q1, q2, q3, q4⟩
theorem upto_fit {x : Nat} (h1 : fge .f32 x 0 = true) (h2 : fle .f32 x 1098907648 = true) : ∃ (m : Int) (e : Nat), SV x m e ∧ e ≤ 149 ∧ m.natAbs < 16777216 ∧ m.natAbs ≤ 2 ^ 4 * 2 ^ e ∧ 0 ≤ m := by
  cases hx : fk .f32 x with
  | none => rw [(cmp_nan (.inl hx)).2.2.1] at h2; cases h2
  | some a =>
    rw [fge_fk hx fk_zero] at h1
    rw [fle_fk hx fk_c16] at h2
    simp only [decide_eq_true_eq] at h1 h2
    have ha : a.natAbs ≤ 2 ^ 4 * 2 ^ 149 := by
      have e : (2 ^ 4 * tp 149 : Int) = ((2 ^ 4 * 2 ^ 149 : Nat) : Int) := by decide +kernel
      rw [e] at h2; omega
    obtain ⟨m, e, q1, q2, q3, q4, q5⟩ := val_fit (c := 4) (val_of_lt hx (by
      have : (((2 ^ 4 * 2 ^ 149 : Nat) : Int)) < Fx.big FloatKind.f32.format := by decide +kernel
      omega)) ha (by omega)
    exact ⟨m, e, q1, q2, q3, q4, q5 h1⟩
theorem rnd_bound {m : Int} {e c : Nat} (h : m.natAbs ≤ 2 ^ c * 2 ^ e) : (rndI (1000 * m) e).natAbs ≤ 1000 * 2 ^ c ∧ (0 ≤ m → 0 ≤ rndI (1000 * m) e) := by
  have hq : (2 * (1000 * m).natAbs + 2 ^ e) / 2 ^ (e + 1) ≤ 1000 * 2 ^ c := by
    have e1 : 2 ^ (e + 1) = 2 * 2 ^ e := by rw [Nat.pow_succ]; omega
    have hp := Nat.two_pow_pos e
    rw [e1]
    have h1 : (1000 * m).natAbs = 1000 * m.natAbs := by rw [Int.natAbs_mul]; rfl
    rw [h1]
    have h2 : 2 * (1000 * m.natAbs) + 2 ^ e < (1000 * 2 ^ c + 1) * (2 * 2 ^ e) := by
      have : (1000 * 2 ^ c + 1) * (2 * 2 ^ e) = 2000 * (2 ^ c * 2 ^ e) + 2 * 2 ^ e := by
        rw [Nat.add_mul, Nat.one_mul, Nat.mul_assoc, Nat.mul_left_comm (2 ^ c)]; omega
      omega
    have := Nat.div_lt_of_lt_mul (by rw [Nat.mul_comm]; exact h2)
    omega
  unfold rndI
  generalize (2 * (1000 * m).natAbs + 2 ^ e) / 2 ^ (e + 1) = q at *
  constructor
  · split <;> omega
  · intro h0
    rw [if_neg (by omega)]; omega
theorem toFix_slice {x : Nat} (h : within32 x 1149239296 = true) : (toFix x).natAbs ≤ 1024000 := by
  obtain ⟨m, e, h1, -, -, h2⟩ := within_fit h
  rw [toFix_V h1]
  exact (rnd_bound h2).1
theorem toFix_upto {x : Nat} (h1 : fge .f32 x 0 = true) (h2 : fle .f32 x 1098907648 = true) : 0 ≤ toFix x ∧ toFix x ≤ 16000 := by
  obtain ⟨m, e, h1, -, -, h2, h3⟩ := upto_fit h1 h2
  rw [toFix_V h1]
  have h4 := (rnd_bound h2).1
  have h5 := (rnd_bound h2).2 h3
  omega
theorem thou_zero : thou 0 = 0 := by decide +kernel
theorem fle_V {x y : Nat} {m n : Int} {e : Nat} (hx : SV x m e) (hy : SV y n e) : fle .f32 x y = decide (m ≤ n) := by
  unfold fle
  rw [isV_lt hx hy, isV_eq hx hy]
  by_cases h : m ≤ n
  · rw [decide_eq_true h]
    rcases Int.lt_or_eq_of_le h with h | h <;> simp [h]
  · rw [decide_eq_false h, decide_eq_false (by omega), decide_eq_false (by omega)]; rfl
theorem fge_V {x y : Nat} {m n : Int} {e : Nat} (hx : SV x m e) (hy : SV y n e) : fge .f32 x y = decide (n ≤ m) := by
  unfold fge
  rw [isV_gt hx hy, isV_eq hx hy]
  by_cases h : n ≤ m
  · rw [decide_eq_true h]
    rcases Int.lt_or_eq_of_le h with h | h <;> simp [h]
  · rw [decide_eq_false h, decide_eq_false (by omega), decide_eq_false (by omega)]; rfl
theorem sv_c16 (e : Nat) : SV 1098907648 (16 * ((2 ^ e : Nat) : Int)) e := by
  have := IsV.finer (isV_chk (f := FloatKind.f32.format) (b := 1098907648) (m := 16) (e := 0) (by decide +kernel)) e
  rw [Nat.zero_add] at this; exact this
theorem sv_0 (e : Nat) : SV 0 0 e := by
  have := IsV.finer (isV_chk (f := FloatKind.f32.format) (b := 0) (m := 0) (e := 0) (by decide +kernel)) e
  rw [Nat.zero_add, Int.zero_mul] at this; exact this
theorem thou_V {n : Int} (h0 : n ≠ 0) (hn : n.natAbs ≤ 1024000) : ∃ (m e : Nat), SV (thou n) (sg (decide (n < 0)) * (m : Int)) e ∧ m < 2 ^ 24 ∧
    (1000 * m) * 2 ^ 23 < (n.natAbs * 2 ^ e) * 2 ^ 23 + n.natAbs * 2 ^ e ∧ (n.natAbs * 2 ^ e) * 2 ^ 23 < (1000 * m) * 2 ^ 23 + n.natAbs * 2 ^ e := by
  obtain ⟨m, e, hr, he, -, hm, h1, h2⟩ := thou_near h0 hn
  have hv := read_V hr (by omega)
  rw [show (-(e : Int)).toNat = 0 by omega, show (- -(e : Int)).toNat = e by omega, show tp 0 = 1 from rfl, Int.mul_one] at hv
  exact ⟨m, e, hv, hm, h1, h2⟩
theorem toFix_thou {n : Int} (hn : n.natAbs ≤ 1024000) : toFix (thou n) = n := by
  by_cases h0 : n = 0
  · subst h0; rw [thou_zero]; decide +kernel
  · obtain ⟨m, e, hv, -, h1, h2⟩ := thou_V h0 hn
    rw [toFix_V hv]
    have p23 : (2 : Nat) ^ 23 = 8388608 := by decide
    rw [p23] at h1 h2
    have hp := Nat.two_pow_pos e
    have hnl : n.natAbs * 2 ^ e ≤ 1024000 * 2 ^ e := Nat.mul_le_mul_right _ hn
    have habs : (1000 * (sg (decide (n < 0)) * (m : Int))).natAbs = 1000 * m := by
      rw [Int.natAbs_mul, sg_natAbs, Int.natAbs_natCast]; rfl
    have hq : (2 * (1000 * m) + 2 ^ e) / 2 ^ (e + 1) = n.natAbs := by
      have e1 : 2 ^ (e + 1) = 2 * 2 ^ e := by rw [Nat.pow_succ]; omega
      rw [e1]
      refine Nat.div_eq_of_lt_le ?_ ?_
      · rw [Nat.mul_left_comm]; omega
      · have e9 : (n.natAbs + 1) * (2 * 2 ^ e) = 2 * (n.natAbs * 2 ^ e) + 2 * 2 ^ e := by rw [Nat.add_mul, Nat.one_mul, Nat.mul_left_comm]
        rw [e9]; omega
    have hmp : 0 < m := by
      rcases Nat.eq_zero_or_pos m with h | h
      · subst h
        have : 1 * 2 ^ e ≤ n.natAbs * 2 ^ e := Nat.mul_le_mul_right _ (by omega)
        omega
      · exact h
    unfold rndI
    rw [habs, hq]
    by_cases hneg : n < 0
    · rw [decide_eq_true hneg, show sg true = -1 from rfl, if_pos (by omega)]; omega
    · rw [decide_eq_false hneg, show sg false = 1 from rfl, if_neg (by omega)]; omega
theorem thou_le {n : Int} (h0 : n ≠ 0) {c : Nat} (hc : c ≤ 10) (hn : n.natAbs ≤ 1000 * 2 ^ c) {m e : Nat} (hm : m < 2 ^ 24) (h1 : (1000 * m) * 2 ^ 23 < (n.natAbs * 2 ^ e) * 2 ^ 23 + n.natAbs * 2 ^ e) : m ≤ 2 ^ c * 2 ^ e := by
  rcases Nat.lt_or_ge (2 ^ c * 2 ^ e) m with h | h
  · exfalso
    have h2 : n.natAbs * 2 ^ e ≤ 1000 * (2 ^ c * 2 ^ e) := by rw [← Nat.mul_assoc]; exact Nat.mul_le_mul_right _ hn
    have hlt : 2 ^ (c + e) < 2 ^ 24 := by rw [Nat.pow_add]; omega
    have hce : c + e < 24 := (Nat.pow_lt_pow_iff_right (by omega)).1 hlt
    have hle : 2 ^ (c + e) ≤ 2 ^ 23 := Nat.pow_le_pow_right (by omega) (by omega)
    rw [Nat.pow_add] at hle
    have p23 : (2 : Nat) ^ 23 = 8388608 := by decide
    rw [p23] at h1 hle
    generalize n.natAbs * 2 ^ e = X at *
    generalize 2 ^ c * 2 ^ e = Y at *
    omega
  · exact h
theorem thou_slice {n : Int} (hn : n.natAbs ≤ 1024000) : within32 (thou n) 1149239296 = true := by
  by_cases h0 : n = 0
  · subst h0; rw [thou_zero]; decide +kernel
  · obtain ⟨m, e, hv, hm, h1, h2⟩ := thou_V h0 hn
    refine sv_within hv (sv_c1024 e) ?_
    rw [sg_natAbs, Int.natAbs_natCast]
    have := thou_le h0 (c := 10) (by omega) hn hm h1
    have p : (2 : Nat) ^ 10 = 1024 := by decide
    rw [p] at this; omega
theorem thou_upto {n : Int} (hl : 0 ≤ n) (hn : n ≤ 16000) : fge .f32 (thou n) 0 = true ∧ fle .f32 (thou n) 1098907648 = true := by
  by_cases h0 : n = 0
  · subst h0; rw [thou_zero]; decide +kernel
  · obtain ⟨m, e, hv, hm, h1, h2⟩ := thou_V h0 (by omega)
    have := thou_le h0 (c := 4) (by omega) (by omega) hm h1
    have p : (2 : Nat) ^ 4 = 16 := by decide
    rw [p] at this
    rw [decide_eq_false (by omega), show sg false = 1 from rfl, Int.one_mul] at hv
    rw [fge_V hv (sv_0 e), fle_V hv (sv_c16 e), decide_eq_true_iff, decide_eq_true_iff]
    omega
end Go.Fx

import Derived.Test.YtiddaabodkglmaaK1
import Derived.Test.YtiddaabodkglmaaEc
namespace Go.Fx
open Ieee
set_option exponentiation.threshold 400
set_option linter.unusedVariables false
set_option linter.unusedSimpArgs false

/-! numbers of few digits: what the program reckons with them is exact -/

/-- a single that is m / 2^e -/
abbrev V (x : Nat) (m : Int) (e : Nat) : Prop := IsV FloatKind.f32.format x m e
theorem e149 {e : Nat} (h : e ≤ 149) : (e : Int) ≤ -FloatKind.f32.format.leastPlace := by
  have : FloatKind.f32.format.leastPlace = -149 := by decide
  rw [this]; omega
theorem m24 {m : Int} (h : m.natAbs ≤ 16777216) : m.natAbs ≤ 2 ^ (FloatKind.f32.format.fractionBits + 1) := h
theorem v_add {x y : Nat} {m n : Int} {e : Nat} (hx : V x m e) (hy : V y n e) (he : e ≤ 149) (hm : (m + n).natAbs ≤ 16777216) : V (add32 x y) (m + n) e := fop_add hx hy (e149 he) (m24 hm)
theorem v_sub {x y : Nat} {m n : Int} {e : Nat} (hx : V x m e) (hy : V y n e) (he : e ≤ 149) (hm : (m - n).natAbs ≤ 16777216) : V (sub32 x y) (m - n) e := fop_sub hx hy (e149 he) (m24 hm)
theorem v_mul {x y : Nat} {m n : Int} {e g : Nat} (hx : V x m e) (hy : V y n g) (he : e + g ≤ 149) (hm : (m * n).natAbs ≤ 16777216) : V (mul32 x y) (m * n) (e + g) := fop_mul hx hy (e149 he) (m24 hm)
theorem v_neg {x : Nat} {m : Int} {e : Nat} (hx : V x m e) : V (neg32 x) (-m) e := isV_fneg hx
theorem v_cn {x : Nat} {m : Int} {e : Nat} : V (cn .f32 x) m e ↔ V x m e := isV_cn
theorem v_half {x : Nat} {m : Int} {e : Nat} (hx : V x (2 * m) e) (he : e ≤ 148) (hm : (2 * m).natAbs ≤ 16777216) : V (quo32 x 1073741824) m e := by
  have h := fop_quo (k := .f32) (e := e) false 23 (-22) hx (y := 1073741824) read_two (e + 1) (by omega) (e149 (by omega)) (m24 hm)
  have e1 : sg false * (2 * m) = m * tp 1 := by simp [sg, tp]; omega
  rw [e1] at h
  exact IsV.coarser h
theorem v_quarter {x : Nat} {m : Int} {e : Nat} (hx : V x (4 * m) e) (he : e ≤ 147) (hm : (4 * m).natAbs ≤ 16777216) : V (quo32 x 1082130432) m e := by
  have h := fop_quo (k := .f32) (e := e) false 23 (-21) hx (y := 1082130432) read_four (e + 2) (by omega) (e149 (by omega)) (m24 hm)
  have e1 : sg false * (4 * m) = m * tp 2 := by simp [sg, tp]; omega
  rw [e1] at h
  exact IsV.coarser h
theorem v_feq {x y : Nat} {m : Int} {e : Nat} (hx : V x m e) (hy : V y m e) : feq .f32 x y = true := by
  unfold feq; rw [isV_eq hx hy]; exact decide_eq_true rfl
theorem v_feq' {x y : Nat} {m n : Int} {e : Nat} (hx : V x m e) (hy : V y n e) (h : m = n) : feq .f32 x y = true := by subst h; exact v_feq hx hy
theorem v_chk {x : Nat} {m : Int} {e : Nat} (h : chkV FloatKind.f32.format x m e = true) : V x m e := isV_chk h
theorem v_finer {x : Nat} {m n : Int} {e g : Nat} (k : Nat) (h : V x m e) (hg : g = e + k) (hn : n = m * ((2 ^ k : Nat) : Int)) : V x n g := by
  subst hg hn; exact IsV.finer h k
theorem v_coarser {x : Nat} {m n : Int} {e g : Nat} (k : Nat) (h : V x n g) (hg : g = e + k) (hn : n = m * ((2 ^ k : Nat) : Int)) : V x m e := by
  subst hg hn; exact IsV.coarser h
theorem mul_abs {a b : Int} {P Q : Nat} (ha : a.natAbs ≤ P) (hb : b.natAbs ≤ Q) : (a * b).natAbs ≤ P * Q := by
  rw [Int.natAbs_mul]; exact Nat.mul_le_mul ha hb
/-- within a bound -/
theorem v_within {x c : Nat} {m C : Int} {e : Nat} (hx : V x m e) (hc : V c C e) (h : (m.natAbs : Int) ≤ C) : within32 x c = true := by
  unfold within32 fge fle
  have hn : V (Op.negFloat .f32 c) (-C) e := isV_neg hc
  rw [isV_gt hx hn, isV_eq hx hn, isV_lt hx hc, isV_eq hx hc, Bool.and_eq_true, Bool.or_eq_true, Bool.or_eq_true, decide_eq_true_iff, decide_eq_true_iff, decide_eq_true_iff, decide_eq_true_iff]
  omega
theorem v_c256 (e : Nat) : V 1132462080 (256 * ((2 ^ e : Nat) : Int)) e := by
  have := IsV.finer (v_chk (x := 1132462080) (m := 256) (e := 0) (by decide +kernel)) e
  rw [Nat.zero_add] at this; exact this
theorem v_c1024 (e : Nat) : V 1149239296 (1024 * ((2 ^ e : Nat) : Int)) e := by
  have := IsV.finer (v_chk (x := 1149239296) (m := 1024) (e := 0) (by decide +kernel)) e
  rw [Nat.zero_add] at this; exact this
/-- one over a power of two -/
theorem v_pow {x : Nat} {c e : Nat} (h : V x ((2 ^ c : Nat) : Int) e) : ∃ (a : Nat) (pl : Int), FloatKind.f32.format.read x = .number false (2 ^ a) pl ∧ pl + a = (c : Int) - e := by
  obtain ⟨s, mag, pl, hr, hp, hv⟩ := h
  have hl : FloatKind.f32.format.leastPlace = -149 := by decide
  rw [hl] at hv hp
  have hpos : 0 < ((2 ^ c : Nat) : Int) * ((2 ^ (- -149 : Int).toNat : Nat) : Int) := Int.mul_pos (tp_pos c) (tp_pos _)
  have hs : s = false := by
    cases s
    · rfl
    · exfalso
      rw [← hv] at hpos
      have : 0 ≤ (mag : Int) * ((2 ^ (pl - -149).toNat : Nat) : Int) * ((2 ^ e : Nat) : Int) := Int.mul_nonneg (Int.mul_nonneg (by omega) (Int.le_of_lt (tp_pos _))) (Int.le_of_lt (tp_pos _))
      simp only [sg, if_true, Int.neg_mul, Int.one_mul] at hpos
      omega
  subst hs
  have hn : mag * 2 ^ ((pl - -149).toNat + e) = 2 ^ (c + 149) := by
    rw [Nat.pow_add, Nat.pow_add, ← Nat.mul_assoc]
    have e2 : (- -149 : Int).toNat = 149 := by decide
    rw [e2] at hv
    simp only [sg, Bool.false_eq_true, if_false, Int.one_mul] at hv
    exact_mod_cast hv
  have hle : (pl - -149).toNat + e ≤ c + 149 := by
    apply (Nat.pow_le_pow_iff_right (a := 2) (by omega)).1
    have hm0 : 0 < mag := by
      rcases Nat.eq_zero_or_pos mag with h0 | h0
      · rw [h0, Nat.zero_mul] at hn
        have := Nat.two_pow_pos (c + 149); omega
      · exact h0
    calc 2 ^ ((pl - -149).toNat + e) ≤ mag * 2 ^ ((pl - -149).toNat + e) := Nat.le_mul_of_pos_left _ hm0
      _ = _ := hn
  refine ⟨c + 149 - ((pl - -149).toNat + e), pl, ?_, by omega⟩
  rw [hr]
  congr 1
  have h2 : 2 ^ (c + 149) = 2 ^ (c + 149 - ((pl - -149).toNat + e)) * 2 ^ ((pl - -149).toNat + e) := by rw [← Nat.pow_add]; congr 1; omega
  rw [h2] at hn
  exact Nat.eq_of_mul_eq_mul_right (Nat.two_pow_pos _) hn
/-- a quotient by 2^c / 2^g: m / 2^e by it is m * 2^g / 2^(e+c) -/
theorem v_quo {x y : Nat} {m : Int} {e c g : Nat} (hx : V x m e) (hy : V y ((2 ^ c : Nat) : Int) g) (e' : Nat) (he' : e' + g = e + c) (he : e' ≤ 149) (hm : m.natAbs ≤ 16777216) : V (quo32 x y) m e' := by
  obtain ⟨a, pl, hr, hp⟩ := v_pow hy
  have h := fop_quo (k := .f32) (e := e) false a pl hx hr e' (by omega) (e149 he) (m24 hm)
  simpa [sg] using h

/-! cells and samples -/
abbrev I3 : Type := Int × Int × Int
def conjI (odd : Bool) (c : I3) : I3 := (c.1, c.2.1, if odd then -c.2.2 else c.2.2)
/-- the amounts of a cell -/
def CV (e : Nat) (c : Cel) (a : I3) : Prop := V c.y a.1 e ∧ V c.re a.2.1 e ∧ V c.im a.2.2 e
/-- the amounts of cells -/
def CVs (e : Nat) : List Cel → List I3 → Prop
  | [], [] => True
  | c :: l, a :: ys => CV e c a ∧ CVs e l ys
  | _, _ => False
/-- the amounts of samples, four a cell -/
def LV (e : Nat) : List Nat → List I3 → Prop
  | [], [] => True
  | s :: t :: u :: v :: l, a :: ys => V s (a.1 + a.2.1) e ∧ V t (a.1 - a.2.2) e ∧ V u (a.1 - a.2.1) e ∧ V v (a.1 + a.2.2) e ∧ LV e l ys
  | _, _ => False
def Small (n : Nat) (a : I3) : Prop := a.1.natAbs ≤ n ∧ a.2.1.natAbs ≤ n ∧ a.2.2.natAbs ≤ n
theorem Small.mono {n m : Nat} {a : I3} (h : Small n a) (hm : n ≤ m) : Small m a := ⟨Nat.le_trans h.1 hm, Nat.le_trans h.2.1 hm, Nat.le_trans h.2.2 hm⟩
theorem CV.cn {e : Nat} {c : Cel} {a : I3} (h : CV e c a) : CV e c.cn a := ⟨v_cn.2 h.1, v_cn.2 h.2.1, v_cn.2 h.2.2⟩
theorem CVs.cn {e : Nat} : ∀ {l : List Cel} {ys : List I3}, CVs e l ys → CVs e (cnC l) ys
  | [], [], _ => trivial
  | c :: l, a :: ys, h => ⟨h.1.cn, CVs.cn h.2⟩
  | [], _ :: _, h => h.elim
  | _ :: _, [], h => h.elim
theorem CVs.len {e : Nat} : ∀ {l : List Cel} {ys : List I3}, CVs e l ys → l.length = ys.length
  | [], [], _ => rfl
  | _ :: _, _ :: _, h => congrArg (· + 1) (CVs.len h.2)
  | [], _ :: _, h => h.elim
  | _ :: _, [], h => h.elim
theorem LV.len {e : Nat} : ∀ {l : List Nat} {ys : List I3}, LV e l ys → l.length = 4 * ys.length
  | [], [], _ => rfl
  | _ :: _ :: _ :: _ :: _, _ :: _, h => by
    have := LV.len h.2.2.2.2
    simp only [List.length_cons]; omega
  | [], _ :: _, h => h.elim
  | _ :: _, [], h => by simp [LV] at h
  | [_], _ :: _, h => h.elim
  | [_, _], _ :: _, h => h.elim
  | [_, _, _], _ :: _, h => h.elim
theorem LV.app {e : Nat} : ∀ {l : List Nat} {ys : List I3} {m : List Nat} {bs : List I3}, LV e l ys → LV e m bs → LV e (l ++ m) (ys ++ bs)
  | [], [], _, _, _, h => h
  | _ :: _ :: _ :: _ :: _, _ :: _, _, _, h, k => ⟨h.1, h.2.1, h.2.2.1, h.2.2.2.1, LV.app h.2.2.2.2 k⟩
  | [], _ :: _, _, _, h, _ => h.elim
  | _ :: _, [], _, _, h, _ => by simp [LV] at h
  | [_], _ :: _, _, _, h, _ => h.elim
  | [_, _], _ :: _, _, _, h, _ => h.elim
  | [_, _, _], _ :: _, _, _, h, _ => h.elim
theorem LV.drop {e : Nat} : ∀ (n : Nat) {l : List Nat} {ys : List I3}, LV e l ys → LV e (l.drop (4 * n)) (ys.drop n)
  | 0, _, _, h => h
  | n + 1, [], [], _ => by simp [LV]
  | n + 1, _ :: _ :: _ :: _ :: l, _ :: ys, h => by
    have := LV.drop n h.2.2.2.2
    rw [show 4 * (n + 1) = 4 * n + 1 + 1 + 1 + 1 by omega]
    simpa only [List.drop_succ_cons] using this
  | _ + 1, [], _ :: _, h => h.elim
  | _ + 1, _ :: _, [], h => by simp [LV] at h
  | _ + 1, [_], _ :: _, h => h.elim
  | _ + 1, [_, _], _ :: _, h => h.elim
  | _ + 1, [_, _, _], _ :: _, h => h.elim
theorem LV.take {e : Nat} : ∀ (n : Nat) {l : List Nat} {ys : List I3}, LV e l ys → LV e (l.take (4 * n)) (ys.take n)
  | 0, _, _, h => by simp [LV]
  | n + 1, [], [], _ => by simp [LV]
  | n + 1, _ :: _ :: _ :: _ :: l, _ :: ys, h => by
    have := LV.take n h.2.2.2.2
    rw [show 4 * (n + 1) = 4 * n + 1 + 1 + 1 + 1 by omega]
    simp only [List.take_succ_cons]
    exact ⟨h.1, h.2.1, h.2.2.1, h.2.2.2.1, this⟩
  | _ + 1, [], _ :: _, h => h.elim
  | _ + 1, _ :: _, [], h => by simp [LV] at h
  | _ + 1, [_], _ :: _, h => h.elim
  | _ + 1, [_, _], _ :: _, h => h.elim
  | _ + 1, [_, _, _], _ :: _, h => h.elim
theorem LV.cn {e : Nat} : ∀ {l : List Nat} {ys : List I3}, LV e l ys → LV e (cns l) ys
  | [], [], _ => trivial
  | _ :: _ :: _ :: _ :: _, _ :: _, h => ⟨v_cn.2 h.1, v_cn.2 h.2.1, v_cn.2 h.2.2.1, v_cn.2 h.2.2.2.1, LV.cn h.2.2.2.2⟩
  | [], _ :: _, h => h.elim
  | _ :: _, [], h => by simp [LV] at h
  | [_], _ :: _, h => h.elim
  | [_, _], _ :: _, h => h.elim
  | [_, _, _], _ :: _, h => h.elim
theorem LV.of_cn {e : Nat} : ∀ {l : List Nat} {ys : List I3}, LV e (cns l) ys → LV e l ys
  | [], [], _ => trivial
  | _ :: _ :: _ :: _ :: _, _ :: _, h => ⟨v_cn.1 h.1, v_cn.1 h.2.1, v_cn.1 h.2.2.1, v_cn.1 h.2.2.2.1, LV.of_cn h.2.2.2.2⟩
  | [], _ :: _, h => h.elim
  | _ :: _, [], h => by simp [LV] at h
  | [_], _ :: _, h => h.elim
  | [_, _], _ :: _, h => h.elim
  | [_, _, _], _ :: _, h => h.elim
/-- samples of the same amounts are equal -/
theorem LV.feq {e : Nat} : ∀ {l m : List Nat} {ys : List I3}, LV e l ys → LV e m ys → ∀ (i : Nat) (h1 : i < l.length) (h2 : i < m.length), feq .f32 l[i] m[i] = true
  | _ :: _ :: _ :: _ :: _, _ :: _ :: _ :: _ :: _, _ :: _, h, k, 0, _, _ => v_feq h.1 k.1
  | _ :: _ :: _ :: _ :: _, _ :: _ :: _ :: _ :: _, _ :: _, h, k, 1, _, _ => v_feq h.2.1 k.2.1
  | _ :: _ :: _ :: _ :: _, _ :: _ :: _ :: _ :: _, _ :: _, h, k, 2, _, _ => v_feq h.2.2.1 k.2.2.1
  | _ :: _ :: _ :: _ :: _, _ :: _ :: _ :: _ :: _, _ :: _, h, k, 3, _, _ => v_feq h.2.2.2.1 k.2.2.2.1
  | _ :: _ :: _ :: _ :: l, _ :: _ :: _ :: _ :: m, _ :: ys, h, k, i + 4, h1, h2 => by
    have h1' : i < l.length := by simp only [List.length_cons] at h1; omega
    have h2' : i < m.length := by simp only [List.length_cons] at h2; omega
    exact LV.feq h.2.2.2.2 k.2.2.2.2 i h1' h2'
  | [], _, _, _, _, _, h1, _ => by simp at h1
  | _, [], _, _, _, _, _, h2 => by simp at h2
  | _ :: _, _, [], h, _, _, _, _ => by simp [LV] at h
  | [_], _, _ :: _, h, _, _, _, _ => h.elim
  | [_, _], _, _ :: _, h, _, _, _, _ => h.elim
  | [_, _, _], _, _ :: _, h, _, _, _, _ => h.elim
  | _ :: _ :: _ :: _ :: _, [_], _ :: _, _, k, _, _, _ => k.elim
  | _ :: _ :: _ :: _ :: _, [_, _], _ :: _, _, k, _, _, _ => k.elim
  | _ :: _ :: _ :: _ :: _, [_, _, _], _ :: _, _, k, _, _, _ => k.elim
/-- each sample -/
theorem LV.each {e n : Nat} : ∀ {l : List Nat} {ys : List I3}, LV e l ys → (∀ a ∈ ys, Small n a) → ∀ x ∈ l, ∃ m : Int, V x m e ∧ m.natAbs ≤ 2 * n
  | [], [], _, _, _, hx => by cases hx
  | _ :: _ :: _ :: _ :: _, a :: _, h, hs, x, hx => by
    obtain ⟨s1, s2, s3⟩ := hs a (List.mem_cons_self ..)
    simp only [List.mem_cons] at hx
    rcases hx with rfl | rfl | rfl | rfl | hx
    · exact ⟨_, h.1, by omega⟩
    · exact ⟨_, h.2.1, by omega⟩
    · exact ⟨_, h.2.2.1, by omega⟩
    · exact ⟨_, h.2.2.2.1, by omega⟩
    · exact LV.each h.2.2.2.2 (fun b hb => hs b (List.mem_cons_of_mem _ hb)) x hx
  | [], _ :: _, h, _, _, _ => h.elim
  | _ :: _, [], h, _, _, _ => by simp [LV] at h
  | [_], _ :: _, h, _, _, _ => h.elim
  | [_, _], _ :: _, h, _, _, _ => h.elim
  | [_, _, _], _ :: _, h, _, _, _ => h.elim
theorem LV.fine {e n : Nat} {l : List Nat} {ys : List I3} (h : LV e l ys) (hs : ∀ a ∈ ys, Small n a) (hn : 2 * n ≤ 1024 * 2 ^ e) : Fx.fine l = true := by
  unfold Fx.fine
  rw [List.all_eq_true]
  intro x hx
  obtain ⟨m, hm, hl⟩ := h.each hs x hx
  refine v_within hm (v_c1024 e) ?_
  have : (m.natAbs : Int) ≤ ((1024 * 2 ^ e : Nat) : Int) := by exact_mod_cast Nat.le_trans hl hn
  rw [Int.natCast_mul] at this
  exact this
theorem CVs.ok {e n : Nat} : ∀ {l : List Cel} {ys : List I3}, CVs e l ys → (∀ a ∈ ys, Small n a) → n ≤ 256 * 2 ^ e → l.all cellOk = true
  | [], [], _, _, _ => rfl
  | c :: l, a :: ys, h, hs, hn => by
    obtain ⟨s1, s2, s3⟩ := hs a (List.mem_cons_self ..)
    have hb : ∀ m : Int, m.natAbs ≤ n → (m.natAbs : Int) ≤ 256 * ((2 ^ e : Nat) : Int) := fun m hm => by
      have : (m.natAbs : Int) ≤ ((256 * 2 ^ e : Nat) : Int) := by exact_mod_cast Nat.le_trans hm hn
      rw [Int.natCast_mul] at this
      exact this
    rw [List.all_cons, Bool.and_eq_true]
    refine ⟨?_, CVs.ok h.2 (fun b hb => hs b (List.mem_cons_of_mem _ hb)) hn⟩
    unfold cellOk
    rw [v_within h.1.1 (v_c256 e) (hb _ s1), v_within h.1.2.1 (v_c256 e) (hb _ s2), v_within h.1.2.2 (v_c256 e) (hb _ s3)]
    rfl
  | [], _ :: _, h, _, _ => h.elim
  | _ :: _, [], h, _, _ => h.elim
theorem CVs.rowOk {e n : Nat} {l : List Cel} {ys : List I3} (h : CVs e l ys) (hs : ∀ a ∈ ys, Small n a) (hn : n ≤ 256 * 2 ^ e) (h1 : 1 ≤ ys.length) (h64 : ys.length ≤ 64) : Fx.rowOk l = true := by
  unfold Fx.rowOk
  rw [h.ok hs hn, h.len, decide_eq_true h1, decide_eq_true h64]; rfl
/-- what is encoded -/
theorem enc_LV {e n : Nat} (odd : Bool) (he : e ≤ 149) (hn : 2 * n ≤ 16777216) : ∀ {l : List Cel} {ys : List I3}, CVs e l ys → (∀ a ∈ ys, Small n a) → LV e (encode l odd) (ys.map (conjI odd))
  | [], [], _, _ => trivial
  | c :: l, a :: ys, h, hs => by
    obtain ⟨s1, s2, s3⟩ := hs a (List.mem_cons_self ..)
    obtain ⟨⟨h1, h2, h3⟩, hr⟩ := h
    have ih := enc_LV odd he hn hr (fun b hb => hs b (List.mem_cons_of_mem _ hb))
    have h4 : V (if odd then neg32 c.im else c.im) (conjI odd a).2.2 e := by
      unfold conjI; cases odd
      · exact h3
      · exact v_neg h3
    have s4 : (conjI odd a).2.2.natAbs ≤ n := by unfold conjI; cases odd <;> simp <;> omega
    have e4 : a.1 - (conjI odd a).2.2 = a.1 + -(conjI odd a).2.2 := by omega
    have e5 : a.1 - a.2.1 = a.1 + -a.2.1 := by omega
    unfold encode
    rw [List.flatMap_cons]
    exact ⟨v_add h1 h2 he (by show (a.1 + a.2.1).natAbs ≤ _; omega), by
      show V _ (a.1 - (conjI odd a).2.2) e
      rw [e4]; exact v_add h1 (v_neg h4) he (by omega), by
      show V _ (a.1 - a.2.1) e
      rw [e5]; exact v_add h1 (v_neg h2) he (by omega), v_add h1 h4 he (by show (a.1 + (conjI odd a).2.2).natAbs ≤ _; omega), ih⟩
  | [], _ :: _, h, _ => h.elim
  | _ :: _, [], h, _ => h.elim
/-- what is decoded -/
theorem dec_CVs {e n : Nat} (odd : Bool) (he : e ≤ 147) (hn : 4 * n ≤ 16777216) : ∀ {l : List Nat} {ys : List I3}, LV e l ys → (∀ a ∈ ys, Small n a) → CVs e (decode odd l) (ys.map (conjI odd))
  | [], [], _, _ => trivial
  | s :: t :: u :: v :: l, a :: ys, h, hs => by
    obtain ⟨s1, s2, s3⟩ := hs a (List.mem_cons_self ..)
    obtain ⟨h1, h2, h3, h4, hr⟩ := h
    have ih := dec_CVs odd he hn hr (fun b hb => hs b (List.mem_cons_of_mem _ hb))
    have k1 := v_add h1 h2 (by omega) (by omega)
    have k2 := v_add k1 h3 (by omega) (by omega)
    have k3 := v_add k2 h4 (by omega) (by omega)
    have k4 : V (quo32 (add32 (add32 (add32 s t) u) v) 1082130432) a.1 e := v_quarter (by
      have e1 : a.1 + a.2.1 + (a.1 - a.2.2) + (a.1 - a.2.1) + (a.1 + a.2.2) = 4 * a.1 := by omega
      rw [e1] at k3; exact k3) (by omega) (by omega)
    have k5 : V (quo32 (sub32 s u) 1073741824) a.2.1 e := v_half (by
      have := v_sub h1 h3 (by omega) (by omega)
      have e1 : a.1 + a.2.1 - (a.1 - a.2.1) = 2 * a.2.1 := by omega
      rw [e1] at this; exact this) (by omega) (by omega)
    have k6 : V (quo32 (sub32 v t) 1073741824) a.2.2 e := v_half (by
      have := v_sub h4 h2 (by omega) (by omega)
      have e1 : a.1 + a.2.2 - (a.1 - a.2.2) = 2 * a.2.2 := by omega
      rw [e1] at this; exact this) (by omega) (by omega)
    refine ⟨⟨k4, k5, ?_⟩, ih⟩
    unfold conjI dec1
    cases odd
    · exact k6
    · exact v_neg k6
  | [], _ :: _, h, _ => h.elim
  | _ :: _, [], h, _ => by simp [LV] at h
  | [_], _ :: _, h, _ => h.elim
  | [_, _], _ :: _, h, _ => h.elim
  | [_, _, _], _ :: _, h, _ => h.elim
theorem conjI_false (a : I3) : conjI false a = a := rfl
theorem conjI_twice (odd : Bool) (a : I3) : conjI odd (conjI odd a) = a := by
  obtain ⟨y, r, i⟩ := a
  unfold conjI; cases odd <;> simp
theorem map_conj_false (ys : List I3) : ys.map (conjI false) = ys := by
  rw [show conjI false = id from rfl, List.map_id]
theorem map_conj_twice (odd : Bool) (ys : List I3) : (ys.map (conjI odd)).map (conjI odd) = ys := by
  rw [List.map_map]
  have : conjI odd ∘ conjI odd = id := by funext a; exact conjI_twice odd a
  rw [this, List.map_id]
theorem small_conj {n : Nat} {odd : Bool} {ys : List I3} (h : ∀ a ∈ ys, Small n a) : ∀ a ∈ ys.map (conjI odd), Small n a := by
  intro a ha
  obtain ⟨b, hb, rfl⟩ := List.mem_map.1 ha
  obtain ⟨s1, s2, s3⟩ := h b hb
  exact ⟨s1, s2, by unfold conjI; cases odd <;> simp <;> omega⟩
/-! a channel -/
def tr1 (ch : Chn) (c : Cel) : List Nat :=
  let y := add32 (mul32 ch.a c.y) ch.off
  let re := timesRe c.re c.im ch.re ch.im
  let im := timesIm c.re c.im ch.re ch.im
  [add32 y re, add32 y (neg32 im), add32 y (neg32 re), add32 y im]
def trAll (ch : Chn) (rs : List Nat) : List Nat := (decode false (cns rs)).flatMap (tr1 ch.cn)
def trOk (ch : Chn) (rs : List Nat) : Bool := chnOk ch && samplesOk rs && samplesOk (trAll ch rs)
def tr (ch : Chn) (rs : List Nat) : List Nat := if trOk ch rs = true then trAll ch rs else []
/-- the amounts of a channel -/
structure CH (k : Nat) (ch : Chn) (A O X Y : Int) : Prop where
  a : V ch.a A k
  off : V ch.off O k
  re : V ch.re X k
  im : V ch.im Y k
def trI (e : Nat) (A O X Y : Int) (c : I3) : I3 := (A * c.1 + O * ((2 ^ e : Nat) : Int), c.2.1 * X - c.2.2 * Y, c.2.1 * Y + c.2.2 * X)
theorem CH.cn {k : Nat} {ch : Chn} {A O X Y : Int} (h : CH k ch A O X Y) : CH k ch.cn A O X Y := ⟨v_cn.2 h.a, v_cn.2 h.off, v_cn.2 h.re, v_cn.2 h.im⟩
theorem tr1_V {e k n g : Nat} {ch : Chn} {A O X Y : Int} (hc : CH k ch A O X Y) (hA : A.natAbs ≤ g) (hO : O.natAbs * 2 ^ e ≤ n * g) (hX : X.natAbs ≤ g) (hY : Y.natAbs ≤ g) (he : e + k ≤ 149) (hn : 4 * (n * g) ≤ 16777216) {c : Cel} {a : I3} (h : CV e c a) (hs : Small n a) :
    ∃ s t u v, tr1 ch c = [s, t, u, v] ∧ V s ((trI e A O X Y a).1 + (trI e A O X Y a).2.1) (e + k) ∧ V t ((trI e A O X Y a).1 - (trI e A O X Y a).2.2) (e + k) ∧ V u ((trI e A O X Y a).1 - (trI e A O X Y a).2.1) (e + k) ∧ V v ((trI e A O X Y a).1 + (trI e A O X Y a).2.2) (e + k) := by
  obtain ⟨s1, s2, s3⟩ := hs
  obtain ⟨h1, h2, h3⟩ := h
  have b1 := mul_abs hA s1
  rw [Nat.mul_comm g n] at b1
  have b2 := mul_abs s2 hX
  have b3 := mul_abs s3 hY
  have b4 := mul_abs s2 hY
  have b5 := mul_abs s3 hX
  have p1 : V (mul32 ch.a c.y) (A * a.1) (e + k) := by have := v_mul hc.a h1 (by omega) (by omega); rwa [Nat.add_comm k e] at this
  have o1 : V ch.off (O * ((2 ^ e : Nat) : Int)) (e + k) := v_finer e hc.off (by omega) rfl
  have ob : (O * ((2 ^ e : Nat) : Int)).natAbs ≤ n * g := by rw [Int.natAbs_mul]; exact hO
  have p2 := v_mul h2 hc.re he (by omega)
  have p3 := v_mul h3 hc.im he (by omega)
  have p4 := v_mul h2 hc.im he (by omega)
  have p5 := v_mul h3 hc.re he (by omega)
  have y := v_add p1 o1 he (by omega)
  have re := v_sub p2 p3 he (by omega)
  have im := v_add p4 p5 he (by omega)
  have e5 : A * a.1 + O * ((2 ^ e : Nat) : Int) - (a.2.1 * Y + a.2.2 * X) = A * a.1 + O * ((2 ^ e : Nat) : Int) + -(a.2.1 * Y + a.2.2 * X) := by omega
  have e6 : A * a.1 + O * ((2 ^ e : Nat) : Int) - (a.2.1 * X - a.2.2 * Y) = A * a.1 + O * ((2 ^ e : Nat) : Int) + -(a.2.1 * X - a.2.2 * Y) := by omega
  refine ⟨_, _, _, _, rfl, ?_, ?_, ?_, ?_⟩
  · show V _ (A * a.1 + O * ((2 ^ e : Nat) : Int) + (a.2.1 * X - a.2.2 * Y)) (e + k)
    exact v_add y re he (by omega)
  · show V _ (A * a.1 + O * ((2 ^ e : Nat) : Int) - (a.2.1 * Y + a.2.2 * X)) (e + k)
    rw [e5]; exact v_add y (v_neg im) he (by omega)
  · show V _ (A * a.1 + O * ((2 ^ e : Nat) : Int) - (a.2.1 * X - a.2.2 * Y)) (e + k)
    rw [e6]; exact v_add y (v_neg re) he (by omega)
  · show V _ (A * a.1 + O * ((2 ^ e : Nat) : Int) + (a.2.1 * Y + a.2.2 * X)) (e + k)
    exact v_add y im he (by omega)
theorem tr_flat {e k n g : Nat} {ch : Chn} {A O X Y : Int} (hc : CH k ch A O X Y) (hA : A.natAbs ≤ g) (hO : O.natAbs * 2 ^ e ≤ n * g) (hX : X.natAbs ≤ g) (hY : Y.natAbs ≤ g) (he : e + k ≤ 149) (hn : 4 * (n * g) ≤ 16777216) :
    ∀ {l : List Cel} {ys : List I3}, CVs e l ys → (∀ a ∈ ys, Small n a) → LV (e + k) (l.flatMap (tr1 ch)) (ys.map (trI e A O X Y))
  | [], [], _, _ => trivial
  | c :: l, a :: ys, h, hs => by
    obtain ⟨s, t, u, v, hf, h1, h2, h3, h4⟩ := tr1_V hc hA hO hX hY he hn h.1 (hs a (List.mem_cons_self ..))
    have ih := tr_flat hc hA hO hX hY he hn h.2 (fun b hb => hs b (List.mem_cons_of_mem _ hb))
    rw [List.flatMap_cons, hf]
    exact ⟨h1, h2, h3, h4, ih⟩
  | [], _ :: _, h, _ => h.elim
  | _ :: _, [], h, _ => h.elim
/-- samples that come through a channel -/
theorem tr_LV {e k n g : Nat} {ch : Chn} {A O X Y : Int} (hc : CH k ch A O X Y) (hA : A.natAbs ≤ g) (hO : O.natAbs * 2 ^ e ≤ n * g) (hX : X.natAbs ≤ g) (hY : Y.natAbs ≤ g) (he : e + k ≤ 147) (hn : 4 * (n * g) ≤ 16777216) (hg : 1 ≤ g) {rs : List Nat} {ys : List I3} (h : LV e rs ys) (hs : ∀ a ∈ ys, Small n a) :
    LV (e + k) (trAll ch rs) (ys.map (trI e A O X Y)) := by
  have hng : n ≤ n * g := Nat.le_mul_of_pos_right _ hg
  have hd := dec_CVs (n := n) false (by omega) (by omega) h.cn hs
  rw [map_conj_false] at hd
  exact tr_flat hc.cn hA hO hX hY (by omega) hn hd hs
theorem trI_small {e n g : Nat} {A O X Y : Int} (hA : A.natAbs ≤ g) (hO : O.natAbs * 2 ^ e ≤ n * g) (hX : X.natAbs ≤ g) (hY : Y.natAbs ≤ g) {ys : List I3} (hs : ∀ a ∈ ys, Small n a) : ∀ a ∈ ys.map (trI e A O X Y), Small (2 * (n * g)) a := by
  intro b hb
  obtain ⟨a, ha, rfl⟩ := List.mem_map.1 hb
  obtain ⟨s1, s2, s3⟩ := hs a ha
  have b1 := mul_abs hA s1
  rw [Nat.mul_comm g n] at b1
  have b2 := mul_abs s2 hX
  have b3 := mul_abs s3 hY
  have b4 := mul_abs s2 hY
  have b5 := mul_abs s3 hX
  have ob : (O * ((2 ^ e : Nat) : Int)).natAbs ≤ n * g := by rw [Int.natAbs_mul]; exact hO
  refine ⟨?_, ?_, ?_⟩
  · show (A * a.1 + O * ((2 ^ e : Nat) : Int)).natAbs ≤ _; omega
  · show (a.2.1 * X - a.2.2 * Y).natAbs ≤ _; omega
  · show (a.2.1 * Y + a.2.2 * X).natAbs ≤ _; omega
theorem samplesOk_LV {e n : Nat} {l : List Nat} {ys : List I3} (h : LV e l ys) (hs : ∀ a ∈ ys, Small n a) (hn : 2 * n ≤ 1024 * 2 ^ e) (h1 : 1 ≤ ys.length) (h2 : ys.length ≤ 1024) : samplesOk l = true := by
  have hl := h.len
  unfold samplesOk
  rw [h.fine hs hn, decide_eq_true (show 4 ≤ l.length by omega), decide_eq_true (show l.length ≤ 4096 by omega), decide_eq_true (show l.length % 4 = 0 by omega)]; rfl
theorem lineOk_LV {e n : Nat} {l : List Nat} {ys : List I3} (h : LV e l ys) (hs : ∀ a ∈ ys, Small n a) (hn : 2 * n ≤ 1024 * 2 ^ e) (h1 : 7 ≤ ys.length) (h2 : ys.length ≤ 70) : lineOk l = true := by
  have hl := h.len
  unfold lineOk
  rw [h.fine hs hn, decide_eq_true (show 28 ≤ l.length by omega), decide_eq_true (show l.length ≤ 280 by omega), decide_eq_true (show l.length % 4 = 0 by omega)]; rfl
/-! lines -/
def headI (odd : Bool) : List I3 := [(-1024, 0, 0), (-1024, 0, 0), (0, -256, if odd then -256 else 256), (0, -256, if odd then -256 else 256), (0, -256, if odd then -256 else 256), (0, -256, if odd then -256 else 256)]
theorem v_bits : V 3263168512 (-1024) 4 ∧ V 3246391296 (-256) 4 ∧ V 1098907648 256 4 ∧ V 0 0 4 := ⟨v_chk (by decide +kernel), v_chk (by decide +kernel), v_chk (by decide +kernel), v_chk (by decide +kernel)⟩
theorem pulse_LV : LV 4 (List.replicate 8 3263168512) [(-1024, 0, 0), (-1024, 0, 0)] := by
  have h := v_bits.1
  exact ⟨h, h, h, h, h, h, h, h, trivial⟩
theorem burst_CVs : CVs 4 burstC [(0, -256, 256), (0, -256, 256), (0, -256, 256), (0, -256, 256)] := by
  have h : CV 4 ⟨0, 3246391296, 1098907648⟩ (0, -256, 256) := ⟨v_bits.2.2.2, v_bits.2.1, v_bits.2.2.1⟩
  exact ⟨h, h, h, h, trivial⟩
theorem line_LV {odd : Bool} {row : List Cel} {ys : List I3} (h : CVs 4 row ys) (hs : ∀ a ∈ ys, Small 1024 a) (h1 : 1 ≤ ys.length) (h64 : ys.length ≤ 64) : LV 4 (lineR row odd) (headI odd ++ ys.map (conjI odd)) := by
  have hr := h.rowOk hs (by decide) h1 h64
  unfold lineR
  rw [if_pos hr]
  have hb : ∀ a ∈ [((0 : Int), (-256 : Int), (256 : Int)), (0, -256, 256), (0, -256, 256), (0, -256, 256)], Small 1024 a := by
    intro a ha
    simp only [List.mem_cons, List.not_mem_nil, or_false] at ha
    rcases ha with rfl | rfl | rfl | rfl <;> exact ⟨by decide, by decide, by decide⟩
  have e2 := enc_LV odd (by omega) (by omega) burst_CVs hb
  have e3 := enc_LV odd (by omega) (by omega) h hs
  have := (pulse_LV.app e2).app e3
  have eh : [((-1024 : Int), (0 : Int), (0 : Int)), (-1024, 0, 0)] ++ [((0 : Int), (-256 : Int), (256 : Int)), (0, -256, 256), (0, -256, 256), (0, -256, 256)].map (conjI odd) = headI odd := by
    unfold headI conjI; rfl
  rw [eh] at this
  exact this
theorem head_small (odd : Bool) : ∀ a ∈ headI odd, Small 1024 a := by
  intro a ha
  unfold headI at ha
  simp only [List.mem_cons, List.not_mem_nil, or_false] at ha
  rcases ha with rfl | rfl | rfl | rfl | rfl | rfl <;> cases odd <;> exact ⟨by decide, by decide, by decide⟩
theorem line_small {odd : Bool} {ys : List I3} (hs : ∀ a ∈ ys, Small 1024 a) : ∀ a ∈ headI odd ++ ys.map (conjI odd), Small 1024 a := by
  intro a ha
  rcases List.mem_append.1 ha with h | h
  · exact head_small odd a h
  · exact small_conj hs a h
end Go.Fx

import Derived.Test.YtiddaabodkglmaaHa
import Derived.Test.YtiddaabodkglmaaFe
namespace Go.Fx
open Ieee Go.Proofs.Ytiddaabodkglmaa
set_option exponentiation.threshold 400
set_option linter.unusedVariables false
set_option linter.unusedSimpArgs false
/-! products of complex numbers; a channel behind which it is undone -/
theorem some_of_V {op : BinOp} {x y : Nat} {m : Int} {e : Nat} (h : V (fop op .f32 x y) m e) : ∃ r, floatBits op .f32 x y = some r ∧ V r m e := by
  cases hf : floatBits op .f32 x y with
  | none =>
    exfalso
    have h1 := isV_not h
    unfold fop at h1
    rw [hf] at h1
    have : isN .f32 (qn .f32) = false := h1
    rw [isN_qn] at this
    cases this
  | some r =>
    refine ⟨r, rfl, ?_⟩
    unfold fop at h
    rw [hf] at h
    exact h
theorem s_quo {x y : Nat} {m : Int} {e c g : Nat} (hx : V x m e) (hy : V y ((2 ^ c : Nat) : Int) g) (e' : Nat) (he' : e' + g = e + c) (he : e' ≤ 149) (hm : m.natAbs ≤ 16777216) : ∃ r, floatBits .quo .f32 x y = some r ∧ V r m e' := some_of_V (v_quo hx hy e' he' he hm)
theorem v_c16 (e : Nat) : V 1098907648 (16 * ((2 ^ e : Nat) : Int)) e := by
  have := IsV.finer (v_chk (x := 1098907648) (m := 16) (e := 0) (by decide +kernel)) e
  rw [Nat.zero_add] at this; exact this
theorem v_c64 (e : Nat) : V 1115684864 (64 * ((2 ^ e : Nat) : Int)) e := by
  have := IsV.finer (v_chk (x := 1115684864) (m := 64) (e := 0) (by decide +kernel)) e
  rw [Nat.zero_add] at this; exact this
theorem v_c0 (e : Nat) : V 0 0 e := by
  have := IsV.finer (v_chk (x := 0) (m := 0) (e := 0) (by decide +kernel)) e
  rw [Nat.zero_add, Int.zero_mul] at this; exact this
theorem v_c1 (e : Nat) : V 1065353216 ((2 ^ e : Nat) : Int) e := by
  have := IsV.finer (v_chk (x := 1065353216) (m := 1) (e := 0) (by decide +kernel)) e
  rw [Nat.zero_add, Int.one_mul] at this; exact this
theorem chnOk_V {c : Chn} {A O X Y : Int} {e f g h : Nat} (ha : V c.a A e) (ho : V c.off O f) (hx : V c.re X g) (hy : V c.im Y h) (a0 : 0 < A) (a1 : A ≤ 16 * ((2 ^ e : Nat) : Int)) (o1 : (O.natAbs : Int) ≤ 64 * ((2 ^ f : Nat) : Int)) (x1 : (X.natAbs : Int) ≤ 16 * ((2 ^ g : Nat) : Int)) (y1 : (Y.natAbs : Int) ≤ 16 * ((2 ^ h : Nat) : Int)) : chnOk c = true := by
  unfold chnOk
  have e1 : fgt .f32 c.a 0 = true := by unfold fgt; rw [isV_gt ha (v_c0 e)]; exact decide_eq_true a0
  have e2 : fle .f32 c.a 1098907648 = true := by
    unfold fle; rw [isV_lt ha (v_c16 e), isV_eq ha (v_c16 e), Bool.or_eq_true, decide_eq_true_iff, decide_eq_true_iff]; omega
  rw [e1, e2, v_within ho (v_c64 f) o1, v_within hx (v_c16 g) x1, v_within hy (v_c16 h) y1]; rfl
theorem zero_le_pow (K : Int) (hK : 0 ≤ K) (n : Nat) : (((0 : Int).natAbs : Nat) : Int) ≤ K * ((2 ^ n : Nat) : Int) := by
  show (0 : Int) ≤ _
  exact Int.mul_nonneg hK (Int.le_of_lt (tp_pos n))
theorem pow_le_16 (n : Nat) : ((((2 ^ n : Nat) : Int).natAbs : Nat) : Int) ≤ 16 * ((2 ^ n : Nat) : Int) ∧ ((2 ^ n : Nat) : Int) ≤ 16 * ((2 ^ n : Nat) : Int) := by
  rw [Int.natAbs_natCast]
  have h : 0 < ((2 ^ n : Nat) : Int) := tp_pos n
  generalize ((2 ^ n : Nat) : Int) = P at *
  exact ⟨by omega, by omega⟩
structure PowerV (a b p : Nat) : Prop where
  ex : ∃ q r, floatBits .mul .f32 a a = some q ∧ floatBits .mul .f32 b b = some r ∧ floatBits .add .f32 q r = some p
/-- what undoes a channel, as it is reckoned -/
structure UndoV (a c : Chn) : Prop where
  ex : ∃ p, PowerV a.re a.im p ∧ feq .f32 p 0 = false ∧ floatBits .quo .f32 1065353216 a.a = some c.a ∧ floatBits .quo .f32 (Op.negFloat .f32 a.off) a.a = some c.off ∧ floatBits .quo .f32 a.re p = some c.re ∧ floatBits .quo .f32 (Op.negFloat .f32 a.im) p = some c.im
  oka : chnOk a = true
  okc : chnOk c = true
/-- a channel behind which it is undone does nothing -/
theorem undone {ch : Chn} (h : PlainCh ch) {re im : Nat} {X Y : Int} (hx : V re X 1) (hy : V im Y 1) (hXY : (X = 4 ∧ Y = 0) ∨ (X = -2 ∧ Y = 0) ∨ (X = 0 ∧ Y = 1) ∨ (X = 0 ∧ Y = -8)) :
    ∃ u c, UndoV ⟨ch.a, ch.off, re, im⟩ u ∧ ChainV ⟨ch.a, ch.off, re, im⟩ u c ∧ feq .f32 c.a 1065353216 = true ∧ feq .f32 c.off 0 = true ∧ feq .f32 c.re 1065353216 = true ∧ feq .f32 c.im 0 = true := by
  obtain ⟨⟨m, hm, ha⟩, ⟨O, hO, ho⟩, -, -⟩ := h
  obtain ⟨c, hc, hc3⟩ : ∃ c : Nat, m = ((2 ^ c : Nat) : Int) ∧ c ≤ 3 := by
    rcases hm with rfl | rfl | rfl | rfl
    · exact ⟨0, rfl, by omega⟩
    · exact ⟨1, rfl, by omega⟩
    · exact ⟨2, rfl, by omega⟩
    · exact ⟨3, rfl, by omega⟩
  obtain ⟨q, hq, hq6, x1, y1, x2, y2⟩ : ∃ q : Nat, X * X + Y * Y = ((2 ^ q : Nat) : Int) ∧ q ≤ 6 ∧ X.natAbs ≤ 8 ∧ Y.natAbs ≤ 8 ∧ ((2 * X).natAbs : Int) ≤ 16 * ((2 ^ q : Nat) : Int) ∧ ((-(2 * Y)).natAbs : Int) ≤ 16 * ((2 ^ q : Nat) : Int) := by
    rcases hXY with ⟨rfl, rfl⟩ | ⟨rfl, rfl⟩ | ⟨rfl, rfl⟩ | ⟨rfl, rfl⟩
    · exact ⟨4, rfl, by omega, by decide, by decide, by decide, by decide⟩
    · exact ⟨2, rfl, by omega, by decide, by decide, by decide, by decide⟩
    · exact ⟨0, rfl, by omega, by decide, by decide, by decide, by decide⟩
    · exact ⟨6, rfl, by omega, by decide, by decide, by decide, by decide⟩
  have hm8 : 0 < m ∧ m ≤ 8 := by omega
  have hqp : 0 < ((2 ^ q : Nat) : Int) := tp_pos q
  have hcp : 0 < ((2 ^ c : Nat) : Int) := tp_pos c
  subst hc
  have bX := mul_abs x1 x1
  have bY := mul_abs y1 y1
  obtain ⟨p1, h1, v1⟩ := s_mul hx hx (by decide) (by omega)
  obtain ⟨p2, h2, v2⟩ := s_mul hy hy (by decide) (by omega)
  obtain ⟨p, h3, v3⟩ := s_add v1 v2 (by decide) (by omega)
  rw [hq] at v3
  have hp0 : feq .f32 p 0 = false := by unfold feq; rw [isV_eq v3 (v_c0 (1 + 1))]; exact decide_eq_false (by omega)
  obtain ⟨ua, h4, v4⟩ := s_quo (m := 4) (e := 2) (v_c1 2) ha c (by omega) (by omega) (by decide)
  obtain ⟨uo, h5, v5⟩ := s_quo (m := -O) (e := 3) (isV_neg ho) ha (c + 1) (by omega) (by omega) (by omega)
  have hx2 : V re (2 * X) 2 := v_finer 1 hx rfl (by simp; omega)
  have hy2 : V (Op.negFloat .f32 im) (-(2 * Y)) 2 := isV_neg (v_finer 1 hy rfl (by simp; omega))
  obtain ⟨ur, h6, v6⟩ := s_quo hx2 v3 q (by omega) (by omega) (by omega)
  obtain ⟨ui, h7, v7⟩ := s_quo hy2 v3 q (by omega) (by omega) (by omega)
  have c2 : (((2 ^ (c + 1) : Nat) : Nat) : Int) = ((2 ^ c : Nat) : Int) * 2 := by rw [Nat.pow_succ, Int.natCast_mul]; rfl
  have oku : chnOk ⟨ua, uo, ur, ui⟩ = true := chnOk_V (c := ⟨ua, uo, ur, ui⟩) v4 v5 v6 v7 (by omega) (by omega) (by omega) x2 y2
  have e2 : ((2 ^ 2 : Nat) : Int) = 4 := rfl
  have e3 : ((2 ^ 3 : Nat) : Int) = 8 := rfl
  have e1 : ((2 ^ 1 : Nat) : Int) = 2 := rfl
  have oka : chnOk ⟨ch.a, ch.off, re, im⟩ = true := chnOk_V (c := ⟨ch.a, ch.off, re, im⟩) ha ho hx hy (by omega) (by omega) (by omega) (by omega) (by omega)
  -- the chain of both
  have mb : (((2 ^ c : Nat) : Int) * 4).natAbs ≤ 32 := by omega
  obtain ⟨ca, g1, k1⟩ := s_mul ha v4 (by omega) (by omega)
  obtain ⟨cm, g2, k2⟩ := s_mul v4 ho (by omega) (by omega)
  have vo : V uo (-(4 * O)) (c + 3) := v_finer 2 v5 (by omega) (by rw [e2]; omega)
  obtain ⟨co, g3, k3⟩ := s_add k2 vo (by omega) (by omega)
  have q64 : ((2 ^ q : Nat) : Int) ≤ 64 := by
    have : 2 ^ q ≤ 64 := Nat.le_trans (Nat.pow_le_pow_right (by omega) hq6) (by decide)
    omega
  obtain ⟨cr, ci, ht, k4, k5⟩ := timesV hx hy v6 v7 (n := 8) (h := 16) (by omega) x1 y1 (by omega) (by omega) (by decide)
  have f1 : X * (2 * X) - Y * (-(2 * Y)) = ((2 ^ (q + 1) : Nat) : Int) := by
    rw [Nat.pow_succ, Int.natCast_mul, ← hq]; show _ = (X * X + Y * Y) * 2; grind
  have f2 : X * (-(2 * Y)) + Y * (2 * X) = 0 := by grind
  rw [f1, Nat.add_comm 1 q] at k4
  rw [f2] at k5
  have f3 : ((2 ^ c : Nat) : Int) * 4 = ((2 ^ (2 + c) : Nat) : Int) := by rw [Nat.add_comm, Nat.pow_add, Int.natCast_mul]; rfl
  rw [f3] at k1
  have f4 : 4 * O + -(4 * O) = 0 := by omega
  rw [f4] at k3
  have okc : chnOk ⟨ca, co, cr, ci⟩ = true := chnOk_V (c := ⟨ca, co, cr, ci⟩) k1 k3 k4 k5 (tp_pos _) (by rw [Nat.add_comm 2 c]; exact (pow_le_16 _).2) (zero_le_pow _ (by decide) _) (pow_le_16 _).1 (zero_le_pow _ (by decide) _)
  exact ⟨⟨ua, uo, ur, ui⟩, ⟨ca, co, cr, ci⟩, ⟨⟨p, ⟨p1, p2, h1, h2, h3⟩, hp0, h4, h5, h6, h7⟩, oka, oku⟩, ⟨⟨cm, g1, g2, g3, ht⟩, oka, oku, okc⟩, v_feq k1 (v_c1 _), v_feq k3 (v_c0 _), v_feq k4 (v_c1 _), v_feq k5 (v_c0 _)⟩
/-- the order of the factors -/
theorem times_comm (a b x y : Nat) : timesRe a b x y = timesRe x y a b ∧ timesIm a b x y = timesIm x y a b := by
  unfold timesRe timesIm
  constructor
  · show sub32 (fop .mul .f32 a x) (fop .mul .f32 b y) = sub32 (fop .mul .f32 x a) (fop .mul .f32 y b)
    rw [fop_mulc _ a x, fop_mulc _ b y]
  · show fop .add .f32 (fop .mul .f32 a y) (fop .mul .f32 b x) = fop .add .f32 (fop .mul .f32 x b) (fop .mul .f32 y a)
    rw [fop_add_comm, fop_mulc _ a y, fop_mulc _ b x]
theorem zero_of_mul {b z : Nat} {B : Int} (hb : Val .f32 b B) (hz : Val .f32 z 0) : Val .f32 (fop .mul .f32 b z) 0 := val_of_lt (fk_mul_zero hb hz) (by decide)
theorem one_of_mul {b : Nat} {B : Int} (hb : Val .f32 b B) : Val .f32 (fop .mul .f32 b 1065353216) B := val_fk hb (fk_mul_one hb read_one)
theorem times_one {a b : Nat} {A B : Int} (ha : Val .f32 a A) (hb : Val .f32 b B) {re im : Nat} (hr : cn .f32 re = timesRe (cn .f32 a) (cn .f32 b) (cn .f32 1065353216) (cn .f32 0)) (hi : cn .f32 im = timesIm (cn .f32 a) (cn .f32 b) (cn .f32 1065353216) (cn .f32 0)) : feq .f32 re a = true ∧ feq .f32 im b = true := by
  unfold timesRe at hr
  unfold timesIm at hi
  simp only [mul32, sub32, add32, fop_cn_l, fop_cn_r] at hr hi
  constructor
  · rw [← feq_cn_l, hr, feq_fk (fk_sub_zero (one_of_mul ha) (zero_of_mul hb val_zero)) ha.fk]; simp
  · rw [← feq_cn_l, hi, feq_fk (fk_zero_add (one_of_mul hb) (zero_of_mul ha val_zero)) hb.fk]; simp
theorem times_i {a b : Nat} {A B : Int} (ha : Val .f32 a A) (hb : Val .f32 b B) {re im : Nat} (hr : cn .f32 re = timesRe (cn .f32 a) (cn .f32 b) (cn .f32 0) (cn .f32 1065353216)) (hi : cn .f32 im = timesIm (cn .f32 a) (cn .f32 b) (cn .f32 0) (cn .f32 1065353216)) : feq .f32 re (Op.negFloat .f32 b) = true ∧ feq .f32 im a = true := by
  unfold timesRe at hr
  unfold timesIm at hi
  simp only [mul32, sub32, add32, fop_cn_l, fop_cn_r] at hr hi
  constructor
  · have hn : fk .f32 (Op.negFloat .f32 b) = some (-B) := by rw [fk_neg, hb.fk]; rfl
    rw [← feq_cn_l, hr, feq_fk (fk_zero_sub (one_of_mul hb) (zero_of_mul ha val_zero)) hn]; simp
  · rw [← feq_cn_l, hi, feq_fk (fk_add_zero (one_of_mul ha) (zero_of_mul hb val_zero)) ha.fk]; simp
end Go.Fx

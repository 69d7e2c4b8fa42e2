import Derived.Test.YtiddaabodkglmaaFv
namespace Go.Fx
open Ieee
set_option exponentiation.threshold 400
set_option linter.unusedVariables false
set_option linter.unusedSimpArgs false
/-! a line is brought to level -/
/-- the amount of a sample -/
def smp (ys : List I3) (j : Nat) : Int :=
  if j % 4 = 0 then (ys.getD (j / 4) (0, 0, 0)).1 + (ys.getD (j / 4) (0, 0, 0)).2.1
  else if j % 4 = 1 then (ys.getD (j / 4) (0, 0, 0)).1 - (ys.getD (j / 4) (0, 0, 0)).2.2
  else if j % 4 = 2 then (ys.getD (j / 4) (0, 0, 0)).1 - (ys.getD (j / 4) (0, 0, 0)).2.1
  else (ys.getD (j / 4) (0, 0, 0)).1 + (ys.getD (j / 4) (0, 0, 0)).2.2
theorem smp_next (a : I3) (ys : List I3) (j : Nat) : smp (a :: ys) (j + 4) = smp ys j := by
  have e1 : (j + 4) % 4 = j % 4 := by omega
  have e2 : (j + 4) / 4 = j / 4 + 1 := by omega
  unfold smp
  rw [e1, e2, List.getD_cons_succ]
theorem LV.at {e : Nat} : ∀ {l : List Nat} {ys : List I3}, LV e l ys → ∀ (j : Nat), j < l.length → V (l.getD j 0) (smp ys j) e
  | _ :: _ :: _ :: _ :: _, _ :: _, h, 0, _ => by simpa [smp] using h.1
  | _ :: _ :: _ :: _ :: _, _ :: _, h, 1, _ => by simpa [smp] using h.2.1
  | _ :: _ :: _ :: _ :: _, _ :: _, h, 2, _ => by simpa [smp] using h.2.2.1
  | _ :: _ :: _ :: _ :: _, _ :: _, h, 3, _ => by simpa [smp] using h.2.2.2.1
  | _ :: _ :: _ :: _ :: l, a :: ys, h, j + 4, hj => by
    have := LV.at h.2.2.2.2 j (by simp only [List.length_cons] at hj; omega)
    rw [smp_next]
    simpa [List.getD_cons_succ] using this
  | [], _, _, _, hj => by simp at hj
  | _ :: _, [], h, _, _ => by simp [LV] at h
  | [_], _ :: _, h, _, _ => h.elim
  | [_, _], _ :: _, h, _, _ => h.elim
  | [_, _, _], _ :: _, h, _, _ => h.elim
def psum (m : Nat → Int) : Nat → Int
  | 0 => m 0
  | k + 1 => psum m k + m (k + 1)
theorem psum_le {m : Nat → Int} {M : Nat} : ∀ k, (∀ i, i ≤ k → (m i).natAbs ≤ M) → (psum m k).natAbs ≤ (k + 1) * M
  | 0, h => by simpa [psum] using h 0 (Nat.le_refl _)
  | k + 1, h => by
    have h1 := psum_le k (fun i hi => h i (by omega))
    have h2 := h (k + 1) (Nat.le_refl _)
    have e : (k + 1 + 1) * M = (k + 1) * M + M := by rw [Nat.add_mul]; omega
    show (psum m k + m (k + 1)).natAbs ≤ _
    omega
theorem sumN_V {rs : List Nat} {m : Nat → Int} {M e : Nat} (he : e ≤ 149) : ∀ k, (∀ i, i ≤ k → V (rs.getD i 0) (m i) e ∧ (m i).natAbs ≤ M) → (k + 1) * M ≤ 16777216 → V (sumN rs k) (psum m k) e
  | 0, h, _ => v_cn.2 (h 0 (Nat.le_refl _)).1
  | k + 1, h, hM => by
    have e1 : (k + 1 + 1) * M = (k + 1) * M + M := by rw [Nat.add_mul]; omega
    have h1 := sumN_V he k (fun i hi => h i (by omega)) (by omega)
    have h2 := h (k + 1) (Nat.le_refl _)
    have h3 := psum_le (M := M) (k + 1) (fun i hi => (h i hi).2)
    exact v_add h1 (v_cn.2 h2.1) he (Nat.le_trans h3 hM)
/-- what is received of an amount -/
def lvI (j : Nat) (B : Int) (a : I3) : I3 := (((2 ^ j : Nat) : Int) * a.1 + B, ((2 ^ j : Nat) : Int) * a.2.1, ((2 ^ j : Nat) : Int) * a.2.2)
theorem LV.level {E e j n : Nat} {B : Int} {g : Nat → Nat} (hg : ∀ x s, V x (((2 ^ j : Nat) : Int) * s + B) E → s.natAbs ≤ 2 * n → V (g x) s e) : ∀ {l : List Nat} {ts : List I3}, LV E l (ts.map (lvI j B)) → (∀ a ∈ ts, Small n a) → LV e (l.map g) ts
  | [], [], _, _ => trivial
  | _ :: _ :: _ :: _ :: _, a :: _, h, hs => by
    obtain ⟨s1, s2, s3⟩ := hs a (List.mem_cons_self ..)
    obtain ⟨h1, h2, h3, h4, hr⟩ := h
    have ih := LV.level hg hr (fun b hb => hs b (List.mem_cons_of_mem _ hb))
    refine ⟨hg _ _ ?_ (by omega), hg _ _ ?_ (by omega), hg _ _ ?_ (by omega), hg _ _ ?_ (by omega), ih⟩
    · have e1 : ((2 ^ j : Nat) : Int) * (a.1 + a.2.1) + B = (lvI j B a).1 + (lvI j B a).2.1 := by
        show _ = ((2 ^ j : Nat) : Int) * a.1 + B + ((2 ^ j : Nat) : Int) * a.2.1
        rw [Int.mul_add]; omega
      rw [e1]; exact h1
    · have e1 : ((2 ^ j : Nat) : Int) * (a.1 - a.2.2) + B = (lvI j B a).1 - (lvI j B a).2.2 := by
        show _ = ((2 ^ j : Nat) : Int) * a.1 + B - ((2 ^ j : Nat) : Int) * a.2.2
        rw [Int.mul_sub]; omega
      rw [e1]; exact h2
    · have e1 : ((2 ^ j : Nat) : Int) * (a.1 - a.2.1) + B = (lvI j B a).1 - (lvI j B a).2.1 := by
        show _ = ((2 ^ j : Nat) : Int) * a.1 + B - ((2 ^ j : Nat) : Int) * a.2.1
        rw [Int.mul_sub]; omega
      rw [e1]; exact h3
    · have e1 : ((2 ^ j : Nat) : Int) * (a.1 + a.2.2) + B = (lvI j B a).1 + (lvI j B a).2.2 := by
        show _ = ((2 ^ j : Nat) : Int) * a.1 + B + ((2 ^ j : Nat) : Int) * a.2.2
        rw [Int.mul_add]; omega
      rw [e1]; exact h4
  | [], _ :: _, h, _ => h.elim
  | _ :: _, [], h, _ => by simp [LV] at h
  | [_], _ :: _, h, _ => h.elim
  | [_, _], _ :: _, h, _ => h.elim
  | [_, _, _], _ :: _, h, _ => h.elim
theorem v_eight : V 1090519040 ((2 ^ 3 : Nat) : Int) 0 := v_chk (by decide +kernel)
theorem v_sixteen : V 1098907648 ((2 ^ 4 : Nat) : Int) 0 := v_chk (by decide +kernel)
theorem v_sixtyfour : V 1115684864 64 0 := v_chk (by decide +kernel)
theorem getD_cut {rs : List Nat} {a n i : Nat} (h : i < n) : ((rs.drop a).take n).getD i 0 = rs.getD (a + i) 0 := by
  simp [List.getD_eq_getElem?_getD, List.getElem?_take, List.getElem?_drop, h]
/-- the levels of such a line -/
theorem levels_V {E j n : Nat} {P B : Int} {b : I3} {rest : List I3} {gs : List Nat} (hE : E ≤ 140) (h : LV E gs (((P, 0, 0) :: (P, 0, 0) :: b :: b :: b :: b :: rest).map (lvI j B))) (hb : b.1 = 0) (hs : ∀ a ∈ ((P, 0, 0) :: (P, 0, 0) :: b :: b :: b :: b :: rest : List I3), Small n a) (hB : (2 ^ j * (2 * n) + B.natAbs) * 16 ≤ 16777216) :
    V (lvPulse gs) (((2 ^ j : Nat) : Int) * P + B) E ∧ V (lvBlack gs) B E := by
  have hl := h.len
  simp only [List.length_map, List.length_cons] at hl
  have hsm : ∀ i, (smp (((P, 0, 0) :: (P, 0, 0) :: b :: b :: b :: b :: rest).map (lvI j B)) i).natAbs ≤ 2 ^ j * (2 * n) + B.natAbs := by
    intro i
    have key : ∀ a : I3, Small n a → ((lvI j B a).1 + (lvI j B a).2.1).natAbs ≤ 2 ^ j * (2 * n) + B.natAbs ∧ ((lvI j B a).1 - (lvI j B a).2.2).natAbs ≤ 2 ^ j * (2 * n) + B.natAbs ∧ ((lvI j B a).1 - (lvI j B a).2.1).natAbs ≤ 2 ^ j * (2 * n) + B.natAbs ∧ ((lvI j B a).1 + (lvI j B a).2.2).natAbs ≤ 2 ^ j * (2 * n) + B.natAbs := by
      intro a ⟨s1, s2, s3⟩
      have m1 := mul_abs (a := ((2 ^ j : Nat) : Int)) (b := a.1) (P := 2 ^ j) (Q := n) (by simp) s1
      have m2 := mul_abs (a := ((2 ^ j : Nat) : Int)) (b := a.2.1) (P := 2 ^ j) (Q := n) (by simp) s2
      have m3 := mul_abs (a := ((2 ^ j : Nat) : Int)) (b := a.2.2) (P := 2 ^ j) (Q := n) (by simp) s3
      have e2 : 2 ^ j * (2 * n) = 2 ^ j * n + 2 ^ j * n := by rw [← Nat.mul_add]; congr 1; omega
      have q1 : (lvI j B a).1 = ((2 ^ j : Nat) : Int) * a.1 + B := rfl
      have q2 : (lvI j B a).2.1 = ((2 ^ j : Nat) : Int) * a.2.1 := rfl
      have q3 : (lvI j B a).2.2 = ((2 ^ j : Nat) : Int) * a.2.2 := rfl
      rw [q1, q2, q3, e2]
      generalize ((2 ^ j : Nat) : Int) * a.1 = x1 at *
      generalize ((2 ^ j : Nat) : Int) * a.2.1 = x2 at *
      generalize ((2 ^ j : Nat) : Int) * a.2.2 = x3 at *
      refine ⟨?_, ?_, ?_, ?_⟩ <;> omega
    generalize hT : ((P, 0, 0) :: (P, 0, 0) :: b :: b :: b :: b :: rest : List I3) = T at hs
    have hget : ∃ a : I3, (T.map (lvI j B)).getD (i / 4) (0, 0, 0) = lvI j B a ∧ Small n a ∨ (T.map (lvI j B)).getD (i / 4) (0, 0, 0) = (0, 0, 0) := by
      rw [List.getD_eq_getElem?_getD, List.getElem?_map]
      cases e : T[i / 4]?
      · exact ⟨(0, 0, 0), .inr rfl⟩
      · rename_i a
        exact ⟨a, .inl ⟨rfl, hs a (List.mem_of_getElem? e)⟩⟩
    unfold smp
    obtain ⟨a, ⟨ha, hsa⟩ | ha⟩ := hget
    · obtain ⟨k1, k2, k3, k4⟩ := key a hsa
      rw [ha]
      split
      · exact k1
      · split
        · exact k2
        · split
          · exact k3
          · exact k4
    · rw [ha]
      split
      · simp
      · split
        · simp
        · split <;> simp
  have hat := h.at
  have lim : 8 * (2 ^ j * (2 * n) + B.natAbs) ≤ 16777216 := by omega
  generalize hM : 2 ^ j * (2 * n) + B.natAbs = M at *
  constructor
  · unfold lvPulse sumAll
    have hlen : ((gs.drop 0).take 8).length - 1 = 7 := by rw [List.length_take, List.length_drop]; omega
    rw [hlen]
    have h8 := sumN_V (rs := (gs.drop 0).take 8) (m := smp (((P, 0, 0) :: (P, 0, 0) :: b :: b :: b :: b :: rest).map (lvI j B))) (M := M) (e := E) (by omega) 7 (fun i hi => by
      rw [getD_cut (by omega), Nat.zero_add]
      exact ⟨hat i (by omega), hsm i⟩) (by omega)
    have e8 : psum (smp (((P, 0, 0) :: (P, 0, 0) :: b :: b :: b :: b :: rest).map (lvI j B))) 7 = (((2 ^ j : Nat) : Int) * P + B) * ((2 ^ 3 : Nat) : Int) := by
      simp only [psum, smp, List.map_cons, lvI, List.getD_cons_zero, List.getD_cons_succ, Nat.reduceMod, Nat.reduceDiv, if_true, if_false, Nat.reduceEqDiff, reduceIte, Int.mul_zero]
      simp
      omega
    rw [e8] at h8
    have hb8 := psum_le (m := smp (((P, 0, 0) :: (P, 0, 0) :: b :: b :: b :: b :: rest).map (lvI j B))) (M := M) 7 (fun i _ => hsm i)
    rw [e8] at hb8
    have hq := v_quo h8 v_eight (E + 3) (by omega) (by omega) (by omega)
    exact IsV.coarser hq
  · unfold lvBlack sumAll
    have hlen : ((gs.drop 8).take 16).length - 1 = 15 := by rw [List.length_take, List.length_drop]; omega
    rw [hlen]
    have h16 := sumN_V (rs := (gs.drop 8).take 16) (m := fun i => smp (((P, 0, 0) :: (P, 0, 0) :: b :: b :: b :: b :: rest).map (lvI j B)) (8 + i)) (M := M) (e := E) (by omega) 15 (fun i hi => by
      rw [getD_cut (by omega)]
      exact ⟨hat (8 + i) (by omega), hsm (8 + i)⟩) (by omega)
    have e16 : psum (fun i => smp (((P, 0, 0) :: (P, 0, 0) :: b :: b :: b :: b :: rest).map (lvI j B)) (8 + i)) 15 = B * ((2 ^ 4 : Nat) : Int) := by
      simp only [psum, smp, List.map_cons, lvI, Nat.reduceAdd, List.getD_cons_zero, List.getD_cons_succ, Nat.reduceMod, Nat.reduceDiv, if_true, if_false, Nat.reduceEqDiff, reduceIte, hb, Int.mul_zero]
      generalize ((2 ^ j : Nat) : Int) * b.2.1 = x1
      generalize ((2 ^ j : Nat) : Int) * b.2.2 = x2
      simp
      omega
    rw [e16] at h16
    have hb16 := psum_le (m := fun i => smp (((P, 0, 0) :: (P, 0, 0) :: b :: b :: b :: b :: rest).map (lvI j B)) (8 + i)) (M := M) 15 (fun i _ => hsm (8 + i))
    rw [e16] at hb16
    have hq := v_quo h16 v_sixteen (E + 4) (by omega) (by omega) (by omega)
    exact IsV.coarser hq
/-- such a line is brought to level as it was -/
theorem tl_V {e k j n : Nat} {B : Int} {b : I3} {rest : List I3} {gs : List Nat} (he : e + k ≤ 100) (hj : j ≤ 20) (hk : k ≤ j + 6)
    (h : LV (e + k) gs (((-((2 ^ (e + 6) : Nat) : Int), 0, 0) :: (-((2 ^ (e + 6) : Nat) : Int), 0, 0) :: b :: b :: b :: b :: rest).map (lvI j B))) (hb : b.1 = 0) (hs : ∀ a ∈ ((-((2 ^ (e + 6) : Nat) : Int), 0, 0) :: (-((2 ^ (e + 6) : Nat) : Int), 0, 0) :: b :: b :: b :: b :: rest : List I3), Small n a)
    (hB : (2 ^ j * (2 * n) + B.natAbs) * 64 ≤ 16777216) (hlo : lineOk gs = true) (hN : 2 * n ≤ 1024 * 2 ^ e) (hrl : rest.length ≤ 64) (hr1 : 1 ≤ rest.length) :
    tlOk gs = true ∧ LV e (tlAll gs) ((-((2 ^ (e + 6) : Nat) : Int), 0, 0) :: (-((2 ^ (e + 6) : Nat) : Int), 0, 0) :: b :: b :: b :: b :: rest) := by
  obtain ⟨hp, hbk⟩ := levels_V (by omega) h hb hs (by omega)
  have e1 : ((2 ^ j : Nat) : Int) * -((2 ^ (e + 6) : Nat) : Int) = -((2 ^ (j + (e + 6)) : Nat) : Int) := by
    rw [Int.mul_neg, ← Int.natCast_mul, ← Nat.pow_add]
  rw [e1] at hp
  have hpw : 0 < ((2 ^ (j + (e + 6)) : Nat) : Int) := tp_pos _
  have hlv : levelsOk gs = true := by
    unfold levelsOk fgt
    rw [hlo, isV_gt hbk hp, decide_eq_true (by omega)]; rfl
  have hsp : (-((2 ^ (e + 6) : Nat) : Int)).natAbs ≤ n := (hs _ (List.mem_cons_self ..)).1
  have hpn : 2 ^ (e + 6) ≤ n := by rw [Int.natAbs_neg, Int.natAbs_natCast] at hsp; exact hsp
  have hpj : 2 ^ (j + (e + 6)) ≤ 2 ^ j * n := by rw [Nat.pow_add]; exact Nat.mul_le_mul_left _ hpn
  have e2 : 2 ^ j * (2 * n) = 2 ^ j * n + 2 ^ j * n := by rw [← Nat.mul_add]; congr 1; omega
  have hsub := v_sub hbk hp (by omega) (by
    have : (B - (-((2 ^ (j + (e + 6)) : Nat) : Int) + B)).natAbs = 2 ^ (j + (e + 6)) := by omega
    omega)
  have e3 : B - (-((2 ^ (j + (e + 6)) : Nat) : Int) + B) = ((2 ^ (j + (e + 6)) : Nat) : Int) := by omega
  rw [e3] at hsub
  have hkk := v_quo v_sixtyfour hsub (j + 6 - k) (by omega) (by omega) (by decide)
  have hall : LV e (tlAll gs) ((-((2 ^ (e + 6) : Nat) : Int), 0, 0) :: (-((2 ^ (e + 6) : Nat) : Int), 0, 0) :: b :: b :: b :: b :: rest) := by
    unfold tlAll
    refine LV.level (n := n) (fun x s hx hsl => ?_) h hs
    have m1 := mul_abs (a := ((2 ^ j : Nat) : Int)) (b := s) (P := 2 ^ j) (Q := 2 * n) (by simp) hsl
    have hd := v_sub (v_cn.2 hx) hbk (by omega) (by
      have : (((2 ^ j : Nat) : Int) * s + B - B).natAbs = (((2 ^ j : Nat) : Int) * s).natAbs := by congr 1; omega
      rw [this]; omega)
    have e4 : ((2 ^ j : Nat) : Int) * s + B - B = ((2 ^ j : Nat) : Int) * s := by omega
    rw [e4] at hd
    have hm := v_mul hkk hd (by omega) (by
      rw [Int.natAbs_mul]
      have : (64 : Int).natAbs = 64 := rfl
      rw [this]; omega)
    unfold tl1
    refine v_coarser (j + 6) hm (by omega) ?_
    have e5 : ((2 ^ (j + 6) : Nat) : Int) = ((2 ^ j : Nat) : Int) * 64 := by rw [Nat.pow_add, Int.natCast_mul]; rfl
    rw [e5]
    generalize ((2 ^ j : Nat) : Int) = q
    grind
  refine ⟨?_, hall⟩
  unfold tlOk
  rw [hlv, lineOk_LV hall hs hN (by simp only [List.length_cons]; omega) (by simp only [List.length_cons]; omega)]; rfl
end Go.Fx

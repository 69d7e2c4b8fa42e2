import Derived.Test.YtiddaabodkglmaaK4
import Derived.Test.YtiddaabodkglmaaHn
namespace Go.Fx
open Ieee
set_option linter.unusedVariables false
set_option linter.unusedSimpArgs false
/-! lines of raised cells: what is cut -/
def RaisedCel (c : Cel) : Prop := ∃ a : I3, CV 4 c a ∧ 256 ≤ a.1 ∧ a.1 ≤ 960 ∧ a.2.1.natAbs ≤ 32 ∧ a.2.2.natAbs ≤ 32
theorem v_16 : V 1098907648 256 4 := v_chk (by decide +kernel)
theorem raised_low {c : Cel} (h : LinkCel c) : RaisedCel ⟨1098907648, c.re, c.im⟩ := by
  obtain ⟨a, ⟨v1, v2, v3⟩, h1, h2, h3, h4⟩ := h
  exact ⟨(256, a.2.1, a.2.2), ⟨v_16, v2, v3⟩, by show (256 : Int) ≤ 256; omega, by show (256 : Int) ≤ 960; omega, h3, h4⟩
theorem raised_high {c : Cel} (h : LinkCel c) (hf : flt .f32 c.y 1098907648 = false) : RaisedCel c := by
  obtain ⟨a, ⟨v1, v2, v3⟩, h1, h2, h3, h4⟩ := h
  have : flt .f32 c.y 1098907648 = decide (a.1 < 256) := by unfold flt; rw [isV_lt v1 v_16]
  rw [hf] at this
  exact ⟨a, ⟨v1, v2, v3⟩, by have := of_decide_eq_false this.symm; omega, h2, h3, h4⟩
abbrev low40 : Nat → Bool := fun y => fle .f32 y 3256877056
theorem low40_V : ∀ x m, V x m 4 → low40 x = decide (m ≤ -640) := fun x m h => by
  show fle .f32 x 3256877056 = _
  unfold fle
  have hc : V 3256877056 (-640) 4 := v_chk (by decide +kernel)
  rw [isV_lt h hc, isV_eq h hc, Bool.eq_iff_iff, Bool.or_eq_true, decide_eq_true_iff, decide_eq_true_iff, decide_eq_true_iff]
  omega
structure CutLine (W : Nat) (l : List Nat) : Prop where
  on : Line1 low40 (24 + 4 * W) true l
  off : Line1 low40 (24 + 4 * W) false (List.replicate 8 0 ++ l.drop 8)
theorem raisedRow_of : ∀ {row : List Cel}, (∀ c ∈ row, RaisedCel c) → ∃ ys : List I3, CVs 4 row ys ∧ ∀ a ∈ ys, 256 ≤ a.1 ∧ a.1 ≤ 960 ∧ a.2.1.natAbs ≤ 32 ∧ a.2.2.natAbs ≤ 32
  | [], _ => ⟨[], trivial, fun a h => by cases h⟩
  | c :: l, h => by
    obtain ⟨a, h1, h2⟩ := h c (List.mem_cons_self ..)
    obtain ⟨ys, h3, h4⟩ := raisedRow_of (row := l) (fun x hx => h x (List.mem_cons_of_mem _ hx))
    refine ⟨a :: ys, ⟨h1, h3⟩, fun b hb => ?_⟩
    rcases List.mem_cons.1 hb with rfl | hb
    · exact h2
    · exact h4 b hb
theorem high_cell {f : Bool} {a : I3} (h : 256 ≤ a.1 ∧ a.1 ≤ 960 ∧ a.2.1.natAbs ≤ 32 ∧ a.2.2.natAbs ≤ 32) : High (-640) (conjI f a) := by
  obtain ⟨h1, h2, h3, h4⟩ := h
  have q5 : (conjI f a).2.2.natAbs ≤ 32 := by unfold conjI; cases f <;> simp <;> omega
  have q6 : (conjI f a).2.1.natAbs ≤ 32 := h3
  have q7 : 256 ≤ (conjI f a).1 := h1
  unfold High
  clear h1 h2 h3 h4
  exact ⟨by omega, by omega, by omega, by omega⟩
theorem cut_line {row : List Cel} {f : Bool} {gs : List Nat} {W : Nat} (h : ∀ c ∈ row, RaisedCel c) (hW : row.length = W) (h1 : 1 ≤ W) (h64 : W ≤ 64) (hg : cns gs = lineR (cnC row) f) : CutLine W gs := by
  obtain ⟨ys, hv, hb⟩ := raisedRow_of h
  have hyl : ys.length = W := by rw [← hv.len]; exact hW
  have hpl : PlainRow row ys := ⟨hv, fun a ha => by obtain ⟨q1, q2, q3, q4⟩ := hb a ha; exact ⟨by omega, by omega, by omega⟩⟩
  obtain ⟨hl, -, hn⟩ := plain_line hpl (by omega) (by omega) hg
  obtain ⟨c0, cs, hcs⟩ : ∃ c0 cs, ys = c0 :: cs := by
    cases ys with
    | nil => simp at hyl; omega
    | cons c cs => exact ⟨c, cs, rfl⟩
  have hcells : ∀ a ∈ conjI f c0 :: cs.map (conjI f), High (-640) a := by
    intro a ha
    have : ∃ c ∈ ys, a = conjI f c := by
      rcases List.mem_cons.1 ha with rfl | ha
      · exact ⟨c0, by rw [hcs]; exact List.mem_cons_self .., rfl⟩
      · obtain ⟨c, hc, rfl⟩ := List.mem_map.1 ha
        exact ⟨c, by rw [hcs]; exact List.mem_cons_of_mem _ hc, rfl⟩
    obtain ⟨c, hc, rfl⟩ := this
    exact high_cell (hb c hc)
  have hlen : (conjI f c0 :: cs.map (conjI f)).length = W := by rw [← hyl, hcs]; simp
  have hform : headI f ++ ys.map (conjI f) = (-1024, 0, 0) :: (-1024, 0, 0) :: (0, -256, if f then -256 else 256) :: (0, -256, if f then -256 else 256) :: (0, -256, if f then -256 else 256) :: (0, -256, if f then -256 else 256) :: conjI f c0 :: cs.map (conjI f) := by
    rw [hcs]; rfl
  rw [hform] at hl
  refine ⟨?_, ?_⟩
  · have := line_pulse low40_V hl (by decide) (by show (-640 : Int) < 0; decide) hcells
    rw [hlen] at this; exact this
  · have hz : V 0 0 4 := v_chk (by decide +kernel)
    have hd := hl.drop 2
    simp only [List.drop_succ_cons, List.drop_zero] at hd
    have h0 : LV 4 (List.replicate 8 0 ++ gs.drop 8) (((0, 0, 0) :: (0, 0, 0) :: (0, -256, if f then -256 else 256) :: (0, -256, if f then -256 else 256) :: (0, -256, if f then -256 else 256) :: (0, -256, if f then -256 else 256) :: conjI f c0 :: cs.map (conjI f)) : List I3) := by
      have hp : LV 4 (List.replicate 8 0) [((0 : Int), (0 : Int), (0 : Int)), (0, 0, 0)] := ⟨hz, hz, hz, hz, hz, hz, hz, hz, trivial⟩
      exact hp.app hd
    have hb4 : High (-640) ((0 : Int), (-256 : Int), if f then (-256 : Int) else 256) := by cases f <;> exact ⟨by decide, by decide, by decide, by decide⟩
    have hb0 : High (-640) ((0 : Int), (0 : Int), (0 : Int)) := ⟨by decide, by decide, by decide, by decide⟩
    have := line_hush low40_V h0 (by
      intro a ha
      rcases List.mem_cons.1 ha with rfl | ha
      · exact hb0
      rcases List.mem_cons.1 ha with rfl | ha
      · exact hb0
      rcases List.mem_cons.1 ha with rfl | ha
      · exact hb4
      rcases List.mem_cons.1 ha with rfl | ha
      · exact hb4
      rcases List.mem_cons.1 ha with rfl | ha
      · exact hb4
      rcases List.mem_cons.1 ha with rfl | ha
      · exact hb4
      · exact hcells a ha)
    have e : 4 * ((0, 0, 0) :: (0, 0, 0) :: (0, -256, if f then -256 else 256) :: (0, -256, if f then -256 else 256) :: (0, -256, if f then -256 else 256) :: (0, -256, if f then -256 else 256) :: conjI f c0 :: cs.map (conjI f) : List I3).length = 24 + 4 * W := by
      rw [← hlen]; simp only [List.length_cons]; omega
    rw [e] at this
    exact this
theorem cutLines_on {W : Nat} : ∀ {ls : List (List Nat)}, (∀ l ∈ ls, CutLine W l) → Lines low40 (24 + 4 * W) (List.replicate ls.length true) ls
  | [], _ => trivial
  | l :: ls, h => ⟨(h l (List.mem_cons_self ..)).on, cutLines_on (fun x hx => h x (List.mem_cons_of_mem _ hx))⟩
theorem getD_rep (K k : Nat) (h : k < K) : (List.replicate K true).getD k false = true := by rw [List.getD_eq_getElem?_getD, List.getElem?_replicate, if_pos h]; rfl
/-- such lines: where they begin, and into what they are cut -/
theorem cut_all {W : Nat} {ls : List (List Nat)} (h : ∀ l ∈ ls, CutLine W l) (h1 : 1 ≤ W) (h4 : W ≤ 4) (hK : ls.length = 4 ∨ ls.length = 8) :
    ls.flatten.length = ls.length * (24 + 4 * W) ∧ starts (lows ls.flatten 3256877056) (ls.flatten.length : Nat) (24 + 4 * (W : Int)) 1 = places ls.length (24 + 4 * W) ∧ cutLines ls.flatten (places ls.length (24 + 4 * W)) (24 + 4 * (W : Int)) = ls ∧
    ∀ k (hk : k < ls.length), 0 < k → starts (lows (erase ls.flatten ((k : Int) * (24 + 4 * (W : Int))) 8) 3256877056) ((erase ls.flatten ((k : Int) * (24 + 4 * (W : Int))) 8).length : Nat) (24 + 4 * (W : Int)) 1 = places ls.length (24 + 4 * W) := by
  have hl := cutLines_on h
  have hflat := hl.flat
  have hlen : ∀ l ∈ ls, l.length = 24 + 4 * W := fun l hx => (h l hx).on.len
  have hLL : ls.length * (24 + 4 * W) ≤ 8 * 40 := Nat.mul_le_mul (by omega) (by omega)
  have en : (24 + 4 * (W : Int)) = ((24 + 4 * W : Nat) : Int) := by push_cast; rfl
  rw [en]
  obtain ⟨K, hKK⟩ : ∃ K, ls.length = K + 1 := ⟨ls.length - 1, by omega⟩
  refine ⟨hflat, ?_, lines_cut hlen hflat (by omega) (by omega) (by omega), fun k hk h0 => ?_⟩
  · have hl2 := hl
    rw [hKK, List.replicate_succ] at hl2
    exact lines_starts (gap := 1) hl2 (by omega) (by omega) (by omega) (by omega) (by omega) (fun k hk => .inl (by
      rw [← List.replicate_succ]
      exact getD_rep _ _ (by simp only [List.length_cons, List.length_replicate] at hk; omega)))
  · obtain ⟨ha, hal⟩ := flatten_at hk hlen
    have hlk := hlen _ (List.getElem_mem hk)
    have he : erase ls.flatten ((k : Int) * ((24 + 4 * W : Nat) : Int)) 8 = (ls.take k ++ (List.replicate 8 0 ++ ls[k].drop 8) :: ls.drop (k + 1)).flatten := by
      have hsplit : ls.flatten = (ls.take k).flatten ++ (ls[k].take 8 ++ (ls[k].drop 8 ++ (ls.drop (k + 1)).flatten)) := by
        rw [ha, ← List.append_assoc (ls[k].take 8), List.take_append_drop]
      have h8 : (ls[k].take 8).length = 8 := by rw [List.length_take]; omega
      have := erase_mid (A := (ls.take k).flatten) (P := ls[k].take 8) (B := ls[k].drop 8 ++ (ls.drop (k + 1)).flatten) (by omega)
      rw [h8, hal] at this
      rw [flatten_split hk, hsplit]
      have e2 : ((k : Int) * ((24 + 4 * W : Nat) : Int)) = ((k * (24 + 4 * W) : Nat) : Int) := by push_cast; rfl
      rw [e2, List.append_assoc]
      exact this
    rw [he]
    have hsp := hl.split k hk (List.replicate 8 0 ++ ls[k].drop 8) (h _ (List.getElem_mem hk)).off
    obtain ⟨j, rfl⟩ : ∃ j, k = j + 1 := ⟨k - 1, by omega⟩
    have hnl : (ls.take (j + 1) ++ (List.replicate 8 0 ++ ls[j + 1].drop 8) :: ls.drop (j + 1 + 1)).length = ls.length := by
      rw [List.length_append, List.length_cons, List.length_take, List.length_drop]; omega
    rw [List.replicate_succ, List.cons_append] at hsp
    have hst := lines_starts (gap := 1) hsp (by omega) (by omega) (by omega) (by omega) (by rw [hnl]; omega) (fun q hq => by
      rw [← List.cons_append, ← List.replicate_succ]
      have hget : ∀ p, p ≠ j + 1 → p < ls.length → (List.replicate (j + 1) true ++ false :: List.replicate (ls.length - (j + 1 + 1)) true).getD p false = true := by
        intro p hp hpl
        rw [List.getD_eq_getElem?_getD]
        by_cases h5 : p < j + 1
        · rw [List.getElem?_append_left (by simpa using h5), List.getElem?_replicate, if_pos h5]; rfl
        · rw [List.getElem?_append_right (by simpa using Nat.le_of_not_lt h5), List.length_replicate, show p - (j + 1) = (p - (j + 1) - 1) + 1 by omega, List.getElem?_cons_succ, List.getElem?_replicate, if_pos (by omega)]; rfl
      have hql : q + 1 < ls.length := by
        have := hsp.len
        rw [hnl] at this
        rw [← this]; exact hq
      by_cases h6 : q = j + 1
      · exact .inr (hget (q + 1) (by omega) hql)
      · exact .inl (hget q h6 (by omega)))
    rw [hnl] at hst
    exact hst
end Go.Fx

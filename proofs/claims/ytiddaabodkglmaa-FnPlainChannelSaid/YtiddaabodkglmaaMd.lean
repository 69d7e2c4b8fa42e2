import Derived.Test.YtiddaabodkglmaaGb
import Derived.Test.YtiddaabodkglmaaMb
namespace Go.Fx
open Go.RowKit Ieee
set_option linter.unusedVariables false
set_option linter.unusedSimpArgs false

/-! rows of cells, decoded lines and pairs -/
abbrev cnC (row : List Cel) : List Cel := row.map Cel.cn
abbrev rowsC (rows : List (List Cel)) : List (Nat × List Value) := rows.map fun r => (r.length, ccells r)
theorem cellOk_cn (c : Cel) : cellOk c.cn = cellOk c := by simp [cellOk]
theorem rowOk_cnC (row : List Cel) : rowOk (cnC row) = rowOk row := by
  unfold rowOk
  rw [List.length_map, List.all_map]
  congr 2
  funext c
  exact cellOk_cn c
theorem rowOk_of {gs X : List Cel} (h : cnC gs = X) : rowOk gs = rowOk X := by rw [← h, rowOk_cnC]
theorem cnC_len {gs X : List Cel} (h : cnC gs = X) : gs.length = X.length := by rw [← h, List.length_map]
theorem cnC_snoc {gs ss : List Cel} {k : Nat} {c : Cel} (h : cnC gs = ss.take k) (hk : k < ss.length) (hb : c.cn = ss[k]) : cnC (gs ++ [c]) = ss.take (k + 1) := by
  rw [take_snoc hk, ← h, ← hb]; simp
theorem rowOk_len {row : List Cel} (h : rowOk row = true) : 1 ≤ row.length ∧ row.length ≤ 64 := by
  simp only [rowOk, Bool.and_eq_true, decide_eq_true_eq] at h; exact h.1
theorem decode_len (odd : Bool) : ∀ xs : List Nat, (decode odd xs).length = xs.length / 4
  | s :: t :: u :: v :: l => by
    rw [decode, List.length_cons, decode_len odd l]
    simp only [List.length_cons]; omega
  | [] => by simp [decode]
  | [_] => by simp [decode]
  | [_, _] => by simp [decode]
  | [_, _, _] => by simp [decode]
theorem decode_at (odd : Bool) : ∀ (xs : List Nat) (k : Nat) (h : 4 * k + 3 < xs.length), (decode odd xs)[k]? = some (dec1 odd xs[4 * k] xs[4 * k + 1] xs[4 * k + 2] xs[4 * k + 3])
  | s :: t :: u :: v :: l, 0, h => by simp [decode]
  | s :: t :: u :: v :: l, k + 1, h => by
    have := decode_at odd l k (by simp only [List.length_cons] at h; omega)
    rw [decode, List.getElem?_cons_succ, this]
    simp only [show 4 * (k + 1) = 4 * k + 1 + 1 + 1 + 1 by omega, show 4 * (k + 1) + 1 = 4 * k + 1 + 1 + 1 + 1 + 1 by omega, List.getElem_cons_succ]
  | [], k, h => by simp at h
  | [_], k, h => by simp at h
  | [_, _], k, h => by simp at h; try omega
  | [_, _, _], k, h => by simp at h; try omega
theorem dec1_at {rs : List Nat} (odd : Bool) {k : Nat} (h : 4 * k + 3 < rs.length) : ∃ hk : k < (decode odd (cns rs)).length, (decode odd (cns rs))[k] = dec1 odd (cn .f32 rs[4 * k]) (cn .f32 rs[4 * k + 1]) (cn .f32 rs[4 * k + 2]) (cn .f32 rs[4 * k + 3]) := by
  have hk : k < (decode odd (cns rs)).length := by rw [decode_len]; simp; omega
  refine ⟨hk, ?_⟩
  have := decode_at odd (cns rs) k (by simpa using h)
  rw [List.getElem?_eq_getElem hk] at this
  simpa using this
/-- what DecodeCells hands back -/
def decodeOk (odd : Bool) (rs : List Nat) : Bool := decide (rs.length % 4 = 0) && rowOk (decode odd (cns rs))
def decodeR (odd : Bool) (rs : List Nat) : List Cel := if decodeOk odd rs = true then decode odd (cns rs) else []
theorem decodeR_ok {odd : Bool} {rs : List Nat} (h : decodeOk odd rs = true) : decodeR odd rs = decode odd (cns rs) := if_pos h
theorem decodeR_not {odd : Bool} {rs : List Nat} (h : decodeOk odd rs = false) : decodeR odd rs = [] := if_neg (by rw [h]; decide)
theorem decodeR_len (odd : Bool) (rs : List Nat) : (decodeR odd rs).length ≤ 64 := by
  unfold decodeR
  split
  · rename_i h
    simp only [decodeOk, Bool.and_eq_true] at h
    exact (rowOk_len h.2).2
  · simp
theorem decodeOk_nil (odd : Bool) : decodeOk odd [] = false := rfl
/-- DecodeAlone -/
def aloneOk (odd : Bool) (rs : List Nat) : Bool := lineOk rs && decodeOk odd (rs.drop 24)
def alone (odd : Bool) (rs : List Nat) : List Cel := if aloneOk odd rs = true then decode odd (cns (rs.drop 24)) else []
theorem alone_len (odd : Bool) (rs : List Nat) : (alone odd rs).length ≤ 64 := by
  unfold alone
  split
  · rename_i h
    simp only [aloneOk, decodeOk, Bool.and_eq_true] at h
    exact (rowOk_len h.2.2).2
  · simp
theorem alone_of (odd : Bool) (rs : List Nat) : alone odd rs = if lineOk rs = true then decodeR odd (rs.drop 24) else [] := by
  unfold alone aloneOk decodeR
  cases lineOk rs <;> simp
/-- BurstColour -/
abbrev brst (rs : List Nat) : List Nat := if lineOk rs = true then cutF rs 8 16 else []
abbrev rest (rs : List Nat) : List Nat := if lineOk rs = true then cutF rs 24 (rs.length - 24) else []
def bcRow (rs : List Nat) : List Cel := decode false (cns (brst rs))
def bcOk (rs : List Nat) : Bool := lineOk rs && decodeOk false (brst rs)
def bcRe (rs : List Nat) : Nat := if bcOk rs = true then quo32 (sumN ((bcRow rs).map Cel.re) 3) 1082130432 else 0
def bcIm (rs : List Nat) : Nat := if bcOk rs = true then quo32 (sumN ((bcRow rs).map Cel.im) 3) 1082130432 else 0
theorem sumN_cns (rs : List Nat) : ∀ k, sumN (cns rs) k = sumN rs k
  | 0 => by
    unfold sumN
    cases rs <;> simp [List.getD, cn_cn]
  | k + 1 => by
    unfold sumN
    rw [sumN_cns rs k]
    congr 1
    simp only [List.getD_eq_getElem?_getD, List.getElem?_map]
    cases rs[k + 1]? <;> simp [cn_cn]
theorem sum_re {gs X : List Cel} (h : cnC gs = X) (k : Nat) : sumN (X.map Cel.re) k = sumN (gs.map Cel.re) k := by
  rw [← sumN_cns (gs.map Cel.re), ← h]; congr 1; simp
theorem sum_im {gs X : List Cel} (h : cnC gs = X) (k : Nat) : sumN (X.map Cel.im) k = sumN (gs.map Cel.im) k := by
  rw [← sumN_cns (gs.map Cel.im), ← h]; congr 1; simp
theorem burst_len {rs : List Nat} (h : lineOk rs = true) : (brst rs).length = 16 := by
  rw [brst, if_pos h]
  simp only [lineOk, Bool.and_eq_true, decide_eq_true_eq] at h
  exact cutF_len (by omega)
theorem bcRow_len {rs : List Nat} (h : lineOk rs = true) : (bcRow rs).length = 4 := by
  unfold bcRow
  rw [decode_len, List.length_map, burst_len h]
/-- Swing -/
def swingX (a b : List Nat) : Nat :=
  sub32 (mul32 (sub32 (bcIm a) (bcIm b)) (add32 (bcRe a) (bcRe b))) (mul32 (sub32 (bcRe a) (bcRe b)) (add32 (bcIm a) (bcIm b)))
def swing (a b : List Nat) : Int :=
  if (bcOk a && bcOk b) = true then (if flt .f32 (swingX a b) 0 = true then 1 else if fgt .f32 (swingX a b) 0 = true then -1 else 0) else 0
/-- HueGain -/
def hgOk (a b : List Nat) : Bool := bcOk a && bcOk b
def hgRe (a b : List Nat) : Nat := if hgOk a b = true then quo32 (add32 (bcRe a) (bcRe b)) 3254779904 else 0
def hgIm (a b : List Nat) : Nat := if hgOk a b = true then quo32 (add32 (bcIm a) (bcIm b)) 3254779904 else 0
/-- IsKilled -/
def killed (a b : List Nat) (least : Nat) : Bool := decide (swing a b = 0) || flt .f32 (amt (hgRe a b)) least
/-- DecodePair -/
def pairRe (s : Int) (p q : Cel) : Nat := if s = 1 ∨ s = -1 then half32 p.re q.re else 0
def pairIm (s : Int) (p q : Cel) : Nat := if s = 1 then half32 p.im (neg32 q.im) else if s = -1 then half32 (neg32 p.im) q.im else 0
def pairP (s : Int) (P Q : List Cel) : List Cel := List.zipWith (fun p q => ⟨p.y, pairRe s p q, pairIm s p q⟩) P Q
def pairQ (s : Int) (P Q : List Cel) : List Cel := List.zipWith (fun p q => ⟨q.y, pairRe s p q, pairIm s p q⟩) P Q
def pairOk (a b : List Nat) : Bool := aloneOk false a && aloneOk false b && decide ((alone false a).length = (alone false b).length)
def pair (a b : List Nat) : List (List Cel) := if pairOk a b = true then [pairP (swing a b) (alone false a) (alone false b), pairQ (swing a b) (alone false a) (alone false b)] else []
/-- Greyed, ScaleRow, Saturate, ToSize, TakePair -/
def grey1 (c : Cel) : Cel := ⟨c.y, 0, 0⟩
def scale1 (k : Nat) (c : Cel) : Cel := ⟨c.y, mul32 c.re k, mul32 c.im k⟩
def scaleOk (k : Nat) (row : List Cel) : Bool := rowOk row && rowOk (row.map (scale1 k))
def satOk (k : Nat) (rows : List (List Cel)) : Bool := rows.all (scaleOk k)
def sat (k : Nat) (rows : List (List Cel)) : List (List Cel) := if satOk k rows = true then rows.map (fun r => r.map (scale1 k)) else []
def sizeOk (g : Nat) (rows : List (List Cel)) : Bool := !feq .f32 g 0 && satOk (quo32 1065353216 g) rows
def size (g : Nat) (rows : List (List Cel)) : List (List Cel) := if feq .f32 g 0 = true then [] else sat (quo32 1065353216 g) rows
def takeOk (a b : List Nat) (least k : Nat) : Bool :=
  pairOk a b && (killed a b least || (hgOk a b && sizeOk (hgRe a b) (pair a b) && satOk k (size (hgRe a b) (pair a b))))
def take (a b : List Nat) (least k : Nat) : List (List Cel) :=
  if takeOk a b least k = true then (if killed a b least = true then (pair a b).map (fun r => r.map grey1) else sat k (size (hgRe a b) (pair a b))) else []
/-- CutLines -/
def cut1 (rs : List Nat) (length at_ : Int) : Option (List Nat) := if 0 ≤ at_ ∧ at_ ≤ (rs.length : Int) - length then some (cutF rs at_.toNat length.toNat) else none
def cutLines (rs : List Nat) (starts : List Int) (length : Int) : List (List Nat) :=
  if 28 ≤ length ∧ length ≤ 280 ∧ rs.length ≤ 20000 then starts.filterMap (cut1 rs length) else []
theorem cutLines_step {rs : List Nat} {starts : List Int} {length : Int} {k : Nat} (h : k < starts.length) : (starts.take (k + 1)).filterMap (cut1 rs length) = (starts.take k).filterMap (cut1 rs length) ++ (cut1 rs length starts[k]).toList := by
  rw [take_snoc h, List.filterMap_append]
  cases hc : cut1 rs length starts[k] <;> simp [hc]
theorem cutLines_len {rs : List Nat} {starts : List Int} {length : Int} : (cutLines rs starts length).length ≤ starts.length := by
  unfold cutLines; split
  · exact List.length_filterMap_le _ _
  · simp
theorem cutLines_each {rs : List Nat} {starts : List Int} {length : Int} : ∀ l ∈ cutLines rs starts length, l.length ≤ 280 := by
  intro l hl
  unfold cutLines at hl
  split at hl
  · rename_i h
    obtain ⟨x, _, hx⟩ := List.mem_filterMap.1 hl
    unfold cut1 at hx
    split at hx
    · cases hx
      simp; omega
    · cases hx
  · simp at hl
theorem cutLines_sum {rs : List Nat} {starts : List Int} {length : Int} (h : starts.length ≤ 1048576) : sumLen ((cutLines rs starts length).map List.length) ≤ 1048576 * 280 := by
  have h1 := sumLen_all (ns := (cutLines rs starts length).map List.length) (b := 280) (fun n hn => by
    obtain ⟨l, hl, rfl⟩ := List.mem_map.1 hn
    exact cutLines_each l hl)
  rw [List.length_map] at h1
  have h2 := cutLines_len (rs := rs) (starts := starts) (length := length)
  exact Nat.le_trans h1 (Nat.mul_le_mul_right _ (Nat.le_trans h2 h))
end Go.Fx

import Derived.Lib.ItoaNum
import Derived.Lib.Split
import Derived.Lib.Join
namespace Go.Fx
open Go.Lib
set_option linter.unusedVariables false
set_option linter.unusedSimpArgs false
/-! texts: numerals, numbers with three places, fields -/
abbrev Txt := List UInt8
def isDig (c : UInt8) : Bool := decide (48 ≤ c.toNat) && decide (c.toNat ≤ 57)
def valF (n : Nat) (l : Txt) : Nat := l.foldl (fun n c => 10 * n + (c.toNat - 48)) n
def val (l : Txt) : Nat := valF 0 l
theorem val_snoc (l : Txt) (c : UInt8) : val (l ++ [c]) = 10 * val l + (c.toNat - 48) := by unfold val valF; rw [List.foldl_append]; rfl
theorem valF_append (n : Nat) (a b : Txt) : valF n (a ++ b) = valF (valF n a) b := by unfold valF; rw [List.foldl_append]
theorem of8 {n : Nat} (h : n < 256) : (UInt8.ofNat n).toNat = n := by
  rw [UInt8.toNat_ofNat']; omega
theorem dig_of {n : Nat} (h : n < 10) : isDig (UInt8.ofNat (48 + n)) = true := by
  unfold isDig; rw [of8 (by omega)]; simp; omega
theorem dec_small {u : Nat} (h : u < 10) : decDigits u = [UInt8.ofNat (48 + u)] := by rw [decDigits, dif_pos h]
theorem dec_big {u : Nat} (h : ¬ u < 10) : decDigits u = decDigits (u / 10) ++ [UInt8.ofNat (48 + u % 10)] := by rw [decDigits, dif_neg h]
theorem dec_digs (u : Nat) : (decDigits u).all isDig = true := by
  induction u using Nat.strongRecOn with
  | _ u ih =>
    by_cases h : u < 10
    · rw [dec_small h, List.all_cons, dig_of h]; rfl
    · rw [dec_big h, List.all_append, ih (u / 10) (by omega), List.all_cons, dig_of (Nat.mod_lt u (by decide : 0 < 10))]; rfl
theorem val_dec (u : Nat) : val (decDigits u) = u := by
  induction u using Nat.strongRecOn with
  | _ u ih =>
    by_cases h : u < 10
    · rw [dec_small h]; unfold val valF; simp only [List.foldl_cons, List.foldl_nil]; rw [of8 (by omega)]; omega
    · rw [dec_big h, val_snoc, ih (u / 10) (by omega), of8 (by omega)]; omega
theorem dec_pos (u : Nat) : 1 ≤ (decDigits u).length := by rw [decDigits_length]; exact nDigits_pos u
theorem dec_len : ∀ {k u : Nat}, u < 10 ^ (k + 1) → (decDigits u).length ≤ k + 1
  | 0, u, h => by rw [dec_small (by simpa using h)]; simp
  | k + 1, u, h => by
    by_cases hu : u < 10
    · rw [dec_small hu]; simp
    · rw [dec_big hu, List.length_append]
      have := dec_len (k := k) (u := u / 10) (by rw [Nat.pow_succ] at h ⊢; omega)
      simp; omega
theorem dec_ne (u : Nat) : decDigits u ≠ [] := by
  intro h; have := dec_pos u; rw [h] at this; simp at this
theorem itoa_nat (u : Nat) : itoa (u : Int) = decDigits u := by unfold itoa; rw [if_neg (by omega)]; simp
theorem valF_lt : ∀ (l : Txt) (n : Nat), l.all isDig = true → valF n l < (n + 1) * 10 ^ l.length
  | [], n, _ => by unfold valF; simp
  | c :: l, n, h => by
    simp only [List.all_cons, Bool.and_eq_true] at h
    have hc := h.1
    unfold isDig at hc
    simp only [Bool.and_eq_true, decide_eq_true_eq] at hc
    have ih := valF_lt l (10 * n + (c.toNat - 48)) h.2
    show valF (10 * n + (c.toNat - 48)) l < _
    refine Nat.lt_of_lt_of_le ih ?_
    rw [List.length_cons, Nat.pow_succ, Nat.mul_comm (10 ^ l.length) 10, ← Nat.mul_assoc]
    exact Nat.mul_le_mul_right _ (by omega)
theorem val_lt {l : Txt} (h : l.all isDig = true) : val l < 10 ^ l.length := by
  have := valF_lt l 0 h
  unfold val; omega
theorem val_le {l : Txt} {k : Nat} (h : l.all isDig = true) (hk : l.length ≤ k) : val l < 10 ^ k := Nat.lt_of_lt_of_le (val_lt h) (Nat.pow_le_pow_right (by decide) hk)
/-! a number without a sign -/
def uintOk (l : Txt) : Bool := decide (1 ≤ l.length) && decide (l.length ≤ 10) && l.all isDig && decide (val l ≤ 1000000000) && decide (decDigits (val l) = l)
def uint (l : Txt) : Nat := if uintOk l = true then val l else 0
theorem uint_empty : uintOk [] = false := rfl
theorem uint_long {l : Txt} (h : 10 < l.length) : uintOk l = false := by unfold uintOk; rw [decide_eq_false (show ¬ l.length ≤ 10 by omega)]; simp
theorem uint_bad {l : Txt} {k : Nat} (hk : k < l.length) (h : isDig l[k] = false) : uintOk l = false := by
  have : l.all isDig = false := by rw [List.all_eq_false]; exact ⟨_, List.getElem_mem hk, by rw [h]; simp⟩
  unfold uintOk; rw [this]; simp
theorem uint_end {l : Txt} (h1 : 1 ≤ l.length) (h2 : l.length ≤ 10) (h : l.all isDig = true) : uintOk l = (decide (val l ≤ 1000000000) && decide (decDigits (val l) = l)) := by
  unfold uintOk; rw [h, decide_eq_true h1, decide_eq_true h2]; simp
theorem uint_bound (l : Txt) : uint l ≤ 1000000000 := by
  unfold uint
  split
  · rename_i h; unfold uintOk at h; simp only [Bool.and_eq_true, decide_eq_true_eq] at h; exact h.1.2
  · omega
/-- the digits of the first k bytes -/
theorem all_take_snoc {p : UInt8 → Bool} {l : Txt} {k : Nat} (hk : k < l.length) (h : (l.take k).all p = true) (h' : p l[k] = true) : (l.take (k + 1)).all p = true := by
  rw [List.take_succ_eq_append_getElem hk, List.all_append, h]; simp [h']
theorem val_take_snoc {l : Txt} {k : Nat} (hk : k < l.length) : val (l.take (k + 1)) = 10 * val (l.take k) + (l[k].toNat - 48) := by
  rw [List.take_succ_eq_append_getElem hk, val_snoc]
/-! three places -/
def pad3 (u : Nat) : Txt := [UInt8.ofNat (48 + u / 100), UInt8.ofNat (48 + u / 10 % 10), UInt8.ofNat (48 + u % 10)]
theorem pad_of {u k : Nat} (hu : u < 1000) (h : k + (decDigits u).length = 3) : List.replicate k 48 ++ decDigits u = pad3 u := by
  by_cases h1 : u < 10
  · rw [dec_small h1] at h ⊢
    have : k = 2 := by simpa using h
    subst this
    unfold pad3
    rw [show u / 100 = 0 by omega, show u / 10 % 10 = 0 by omega, show u % 10 = u by omega]; rfl
  · rw [dec_big h1] at h ⊢
    by_cases h2 : u / 10 < 10
    · rw [dec_small h2] at h ⊢
      have : k = 1 := by simpa using h
      subst this
      unfold pad3
      rw [show u / 100 = 0 by omega, show u / 10 % 10 = u / 10 by omega]; rfl
    · rw [dec_big h2] at h ⊢
      rw [dec_small (show u / 10 / 10 < 10 by omega)] at h ⊢
      have : k = 0 := by simpa using h
      subst this
      unfold pad3
      rw [show u / 10 / 10 = u / 100 by omega]; rfl
theorem dec_1000 {u : Nat} (hu : u < 1000) : decDigits (1000 + u) = 49 :: pad3 u := by
  rw [dec_big (by omega), dec_big (by omega), dec_big (by omega), dec_small (show (1000 + u) / 10 / 10 / 10 < 10 by omega)]
  unfold pad3
  rw [show (1000 + u) / 10 / 10 / 10 = 1 by omega, show (1000 + u) / 10 / 10 % 10 = u / 100 by omega, show (1000 + u) / 10 % 10 = u / 10 % 10 by omega, show (1000 + u) % 10 = u % 10 by omega]; rfl
theorem pad_digs {u : Nat} (hu : u < 1000) : (pad3 u).all isDig = true := by
  unfold pad3
  rw [List.all_cons, List.all_cons, List.all_cons, dig_of (show u / 100 < 10 by omega), dig_of (show u / 10 % 10 < 10 by omega), dig_of (show u % 10 < 10 by omega)]; rfl
theorem valF_pad {u : Nat} (hu : u < 1000) (n : Nat) : valF n (pad3 u) = 1000 * n + u := by
  unfold pad3 valF
  simp only [List.foldl_cons, List.foldl_nil]
  rw [of8 (by omega), of8 (by omega), of8 (by omega)]; omega
def fixOk (n : Int) : Bool := decide (-1000000000 ≤ n) && decide (n ≤ 1000000000)
theorem fixOk_iff {n : Int} : fixOk n = true ↔ -1000000000 ≤ n ∧ n ≤ 1000000000 := by unfold fixOk; simp
def absF (u : Nat) : Txt := decDigits (u / 1000) ++ 46 :: pad3 (u % 1000)
def fmtF (n : Int) : Txt := if n < 0 then 45 :: absF n.natAbs else absF n.natAbs
def fmtFixed (n : Int) : Txt := if fixOk n = true then fmtF n else []
/-- the text without its sign -/
def strip : Txt → Txt
  | 45 :: t => t
  | t => t
def minus : Txt → Bool
  | 45 :: _ => true
  | _ => false
theorem strip_minus {s : Txt} (h : minus s = true) : s = 45 :: strip s := by
  match s, h with
  | c :: t, h =>
    unfold minus at h
    split at h
    · rename_i e; injection e with e1 e2; subst e1 e2; rfl
    · cases h
  | [], h => cases h
theorem strip_plain {s : Txt} (h : minus s = false) : strip s = s := by
  unfold strip
  split
  · rename_i t; unfold minus at h; simp at h
  · rfl
theorem dig_head {l : Txt} (h : l.all isDig = true) (t : Txt) (hl : l ≠ []) : minus (l ++ t) = false := by
  cases l with
  | nil => exact absurd rfl hl
  | cons c l =>
    simp only [List.all_cons, Bool.and_eq_true] at h
    have hc := h.1
    unfold minus
    split
    · rename_i e
      simp only [List.cons_append] at e
      injection e with e1 e2
      subst e1
      exact absurd hc (by decide)
    · rfl
theorem fmt_minus (n : Int) : minus (fmtF n) = decide (n < 0) := by
  unfold fmtF
  by_cases h : n < 0
  · rw [if_pos h, decide_eq_true h]; rfl
  · rw [if_neg h, decide_eq_false h]; exact dig_head (dec_digs _) _ (dec_ne _)
theorem fmt_strip (n : Int) : strip (fmtF n) = absF n.natAbs := by
  by_cases h : n < 0
  · unfold fmtF; rw [if_pos h]; rfl
  · have := fmt_minus n
    rw [decide_eq_false h] at this
    rw [strip_plain this]; unfold fmtF; rw [if_neg h]
/-- the number that a text with a point tells -/
def unabs (t : Txt) : Nat := val (t.filter (fun c => c != 46))
def unfix (s : Txt) : Int := if minus s = true then -(unabs (strip s) : Int) else (unabs (strip s) : Int)
theorem filter_digs {l : Txt} (h : l.all isDig = true) : l.filter (fun c => c != 46) = l := by
  rw [List.filter_eq_self]
  intro c hc
  rw [List.all_eq_true] at h
  have := h c hc
  rw [bne_iff_ne]; rintro rfl; exact absurd this (by decide)
theorem unabs_abs (u : Nat) : unabs (absF u) = u := by
  unfold unabs absF
  rw [List.filter_append, filter_digs (dec_digs _), List.filter_cons, if_neg (by decide), filter_digs (pad_digs (Nat.mod_lt _ (by decide)))]
  unfold val
  rw [valF_append, valF_pad (Nat.mod_lt _ (by decide))]
  have := val_dec (u / 1000)
  unfold val at this
  rw [this]; omega
theorem unfix_fmt (n : Int) : unfix (fmtF n) = n := by
  unfold unfix
  rw [fmt_minus, fmt_strip, unabs_abs]
  by_cases h : n < 0
  · rw [if_pos (by simpa using h)]; omega
  · rw [if_neg (by simpa using h)]; omega
def isFix (s : Txt) : Prop := ∃ m, fixOk m = true ∧ fmtF m = s
def pfixOk (s : Txt) : Bool := fixOk (unfix s) && decide (fmtF (unfix s) = s)
def pfix (s : Txt) : Int := if pfixOk s = true then unfix s else 0
theorem pfix_yes {m : Int} {s : Txt} (h : fixOk m = true) (e : fmtF m = s) : pfixOk s = true ∧ pfix s = m := by
  subst e
  have : pfixOk (fmtF m) = true := by unfold pfixOk; rw [unfix_fmt, h]; simp
  exact ⟨this, by unfold pfix; rw [if_pos this, unfix_fmt]⟩
theorem pfix_fmt {s : Txt} (h : pfixOk s = true) : fmtF (unfix s) = s ∧ fixOk (unfix s) = true := by
  unfold pfixOk at h
  simp only [Bool.and_eq_true, decide_eq_true_eq] at h
  exact ⟨h.2, h.1⟩
theorem pfix_bound (s : Txt) : -1000000000 ≤ pfix s ∧ pfix s ≤ 1000000000 := by
  unfold pfix
  split
  · rename_i h; exact fixOk_iff.1 (pfix_fmt h).2
  · omega
/-- a text that is a number has this form -/
theorem pfix_shape {s : Txt} (h : pfixOk s = true) : ∃ q r, q ≤ 1000000 ∧ r < 1000 ∧ strip s = decDigits q ++ 46 :: pad3 r := by
  obtain ⟨h1, h2⟩ := pfix_fmt h
  rw [fixOk_iff] at h2
  refine ⟨(unfix s).natAbs / 1000, (unfix s).natAbs % 1000, by omega, by omega, ?_⟩
  have := fmt_strip (unfix s)
  rw [h1] at this
  exact this
/-- the point's place, the length, and the other bytes -/
theorem pfix_at {s : Txt} (h : pfixOk s = true) : ∃ i, 1 ≤ i ∧ i ≤ 7 ∧ (strip s).length = i + 4 ∧ (strip s)[i]? = some 46 ∧ ∀ k (hk : k < (strip s).length), k ≠ i → isDig (strip s)[k] = true := by
  obtain ⟨q, r, hq, hr, e⟩ := pfix_shape h
  have hd := dec_digs q
  have hp := pad_digs hr
  have h1 := dec_pos q
  have h7 := dec_len (k := 6) (u := q) (by omega)
  rw [e]
  generalize decDigits q = D at *
  refine ⟨D.length, h1, h7, by simp [pad3], by simp, fun k hk hne => ?_⟩
  rw [List.all_eq_true] at hd hp
  by_cases hlt : k < D.length
  · rw [List.getElem_append_left hlt]; exact hd _ (List.getElem_mem _)
  · rw [List.getElem_append_right (by omega)]
    obtain ⟨j, hj⟩ : ∃ j, k - D.length = j + 1 := ⟨k - D.length - 1, by omega⟩
    simp only [hj, List.getElem_cons_succ]
    exact hp _ (List.getElem_mem _)
/-- what the loop over all but the point reckons -/
theorem unabs_at {t : Txt} {i : Nat} (hi : t[i]? = some 46) (hd : ∀ k (hk : k < t.length), k ≠ i → isDig t[k] = true) : unabs t = valF (val (t.take i)) (t.drop (i + 1)) := by
  have hlt : i < t.length := by
    rcases Nat.lt_or_ge i t.length with h | h
    · exact h
    · rw [List.getElem?_eq_none h] at hi; cases hi
  have hti : t[i] = 46 := by rw [List.getElem?_eq_getElem hlt] at hi; injection hi
  have e : t = t.take i ++ 46 :: t.drop (i + 1) := by
    rw [← hti, List.getElem_cons_drop, List.take_append_drop]
  have d1 : (t.take i).all isDig = true := by
    rw [List.all_eq_true]
    intro c hc
    obtain ⟨k, hk, rfl⟩ := List.getElem_of_mem hc
    rw [List.getElem_take]
    exact hd _ _ (by simp at hk; omega)
  have d2 : (t.drop (i + 1)).all isDig = true := by
    rw [List.all_eq_true]
    intro c hc
    obtain ⟨k, hk, rfl⟩ := List.getElem_of_mem hc
    rw [List.getElem_drop]
    exact hd _ _ (by omega)
  unfold unabs
  conv => lhs; rw [e]
  rw [List.filter_append, filter_digs d1, List.filter_cons, if_neg (by decide), filter_digs d2]
  unfold val
  rw [valF_append]
/-! fields -/
def flds (cur : Txt) : Txt → List Txt
  | [] => if cur.isEmpty then [] else [cur]
  | c :: l => if c = 32 then (if cur.isEmpty then flds [] l else cur :: flds [] l) else flds (cur ++ [c]) l
def plainC (c : UInt8) : Bool := decide (32 ≤ c.toNat) && decide (c.toNat ≤ 126)
def fieldsOk (l : Txt) : Bool := decide (l.length ≤ 600) && l.all plainC && decide ((flds [] l).length ≤ 24)
def fields (l : Txt) : List Txt := if fieldsOk l = true then flds [] l else []
theorem flds_count : ∀ (l : Txt) (cur : Txt), (flds cur l).length ≤ l.length + 1
  | [], cur => by unfold flds; split <;> simp
  | c :: l, cur => by
    unfold flds
    have h0 := flds_count l []
    have h1 := flds_count l (cur ++ [c])
    split
    · split
      · simp; omega
      · simp; omega
    · simp; omega
/-- pieces between blanks -/
def pieces (cur : Txt) : Txt → List Txt
  | [] => [cur]
  | c :: l => if c = 32 then cur :: pieces [] l else pieces (cur ++ [c]) l
theorem flds_pieces : ∀ (l : Txt) (cur : Txt), (pieces cur l).filter (fun t => !t.isEmpty) = flds cur l
  | [], cur => by unfold pieces flds; cases h : cur.isEmpty <;> simp [h]
  | c :: l, cur => by
    unfold pieces flds
    have h0 := flds_pieces l []
    have h1 := flds_pieces l (cur ++ [c])
    split
    · rw [List.filter_cons, h0]
      cases h : cur.isEmpty <;> simp
    · exact h1
theorem pieces_count : ∀ (l : Txt) (cur : Txt), (pieces cur l).length ≤ l.length + 1
  | [], cur => by unfold pieces; simp
  | c :: l, cur => by
    unfold pieces
    have h0 := pieces_count l []
    have h1 := pieces_count l (cur ++ [c])
    split <;> simp <;> omega
theorem pre32 (b : UInt8) (l : Txt) : ([32] : Txt).isPrefixOf (b :: l) = decide (b = 32) := by
  by_cases h : b = 32
  · subst h; simp
  · rw [decide_eq_false h]
    show ((32 : UInt8) == b && true) = false
    rw [beq_eq_false_iff_ne.2 (fun e => h e.symm)]; rfl
theorem pieces_miss : ∀ (s cur : Txt), index s [32] = -1 → pieces cur s = [cur ++ s]
  | [], cur, _ => by simp [pieces]
  | b :: l, cur, h => by
    unfold index at h
    rw [pre32] at h
    by_cases hb : b = 32
    · rw [if_pos (by rw [hb]; rfl)] at h; cases h
    · rw [if_neg (by simpa using hb)] at h
      have hl : index l [32] = -1 := by
        by_cases e : index l [32] = -1
        · exact e
        · rw [if_neg (by simpa using e)] at h
          have := index_ge l [32]; omega
      unfold pieces
      rw [if_neg hb, pieces_miss l (cur ++ [b]) hl]; simp
theorem pieces_hit : ∀ (s cur : Txt) (i : Nat), index s [32] = (i : Int) → pieces cur s = (cur ++ s.take i) :: pieces [] (s.drop (i + 1))
  | [], cur, i, h => by
    have e : index ([] : Txt) [32] = -1 := rfl
    rw [e] at h; omega
  | b :: l, cur, i, h => by
    unfold index at h
    rw [pre32] at h
    by_cases hb : b = 32
    · rw [if_pos (by rw [hb]; rfl)] at h
      have : i = 0 := by omega
      subst this
      rw [pieces, if_pos hb]; simp
    · rw [if_neg (by simpa using hb)] at h
      by_cases e : index l [32] = -1
      · rw [if_pos (by simpa using e)] at h; omega
      · rw [if_neg (by simpa using e)] at h
        obtain ⟨j, rfl⟩ : ∃ j, i = j + 1 := ⟨i - 1, by have := index_ge l [32]; omega⟩
        have hj : index l [32] = (j : Int) := by omega
        conv => lhs; unfold pieces
        rw [if_neg hb, pieces_hit l (cur ++ [b]) j hj]; simp
theorem split_pieces : ∀ (n : Nat) (s : Txt), s.length ≤ n → split s [32] = pieces [] s := by
  intro n
  induction n with
  | zero =>
    intro s h
    have : s = [] := List.length_eq_zero_iff.1 (by omega)
    subst this
    unfold split
    rw [count_miss (by rfl)]
    rfl
  | succ n ih =>
    intro s h
    unfold split
    by_cases e : index s [32] = -1
    · rw [count_miss e, pieces_miss s [] e]; rfl
    · obtain ⟨i, hi⟩ : ∃ i : Nat, index s [32] = (i : Int) := ⟨(index s [32]).toNat, by have := index_ge s [32]; omega⟩
      have hr := index_room s [32] (by omega)
      rw [count_hit (by decide) hi, pieces_hit s [] i hi, Nat.add_comm 1, splitK, if_neg (by rw [hi]; simp), hi]
      have := ih (s.drop (i + 1)) (by rw [List.length_drop]; simp at hr; omega)
      unfold split at this
      simp only [Int.toNat_natCast, Nat.add_zero, List.length_cons, List.length_nil, Nat.zero_add, List.nil_append]
      rw [this]
end Go.Fx

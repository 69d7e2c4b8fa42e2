import Derived.Test.YtiddaabodkglmaaGreatK2
import Derived.Test.YtiddaabodkglmaaGreatK1
import Derived.Laws.CopyOwn
import Derived.Laws.OwnMore
import Derived.Deep.RegionLaw
import Derived.Test.YtiddaabodkglmaaGreatK3
section
namespace Go.Fx
open Go.RowKit
theorem own_full {w : World} {base : Nat} {E : TypeId} {g n : Nat} {xs : List Value} (h : w.ownsRow base E 1 (.slice (some ⟨g, 0, none⟩) n n) n xs) : w.heap[g]? = some (.cells xs.toArray E (0, 0)) := by
  rcases h.2 with ⟨h, _⟩ | ⟨g', cap, cur, hv, hb, hg, hn, hc, hs, ht⟩
  · cases h
  · cases hv
    rw [hg]
    congr 2
    rw [← ht]
    rw [List.take_of_length_le (by simp; omega)]
theorem own_row {w : World} {base : Nat} {E : TypeId} {g n : Nat} {xs : List Value} (h : w.heap[g]? = some (.cells xs.toArray E (0, 0))) (hb : base ≤ g) (hl : xs.length = n) (hm : n ≤ maxLen) : w.ownsRow base E 1 (.slice (some ⟨g, 0, none⟩) n n) n xs :=
  ⟨by omega, .inr ⟨g, n, xs.toArray, rfl, hb, h, Nat.le_refl _, hm, by simp [hl], by simp; rw [List.take_of_length_le (by omega)]⟩⟩
/-- samples that come later -/
def delayL (rs : List Nat) (n : Nat) : List Nat := (List.range rs.length).map fun i => if n ≤ i then rs.getD (i - n) 0 else 0
theorem delayL_len (rs : List Nat) (n : Nat) : (delayL rs n).length = rs.length := by simp [delayL]
theorem delayL_at {rs : List Nat} {n k : Nat} (h : k < rs.length) : (delayL rs n)[k]'(by rw [delayL_len]; exact h) = if n ≤ k then rs.getD (k - n) 0 else 0 := by simp [delayL]
theorem delay_splice {rs : List Nat} {n : Nat} (h : n < rs.length) : splice (List.replicate rs.length (fl 0)) n ((rs.take (rs.length - n)).map fl) = (delayL rs n).map fl := by
  unfold splice
  apply List.ext_getElem
  · simp [delayL_len]; omega
  · intro i h1 h2
    rw [List.length_map, delayL_len] at h2
    rw [List.getElem_map, delayL_at h2]
    by_cases hi : i < n
    · rw [List.getElem_append_left (by simp; omega)]
      simp [show ¬ n ≤ i by omega]
    · rw [List.getElem_append_right (by simp; omega), List.getElem_append_left (by simp; omega)]
      simp only [List.length_take, List.length_replicate, List.getElem_map, List.getElem_take]
      rw [if_pos (by omega), List.getD_eq_getElem?_getD, List.getElem?_eq_getElem (by omega)]
      simp only [Option.getD_some]
      congr 2
      omega
theorem delay_none {rs : List Nat} {n : Nat} (h : rs.length ≤ n) : (delayL rs n).map fl = List.replicate rs.length (fl 0) := by
  apply List.ext_getElem
  · simp [delayL_len]
  · intro i h1 h2
    rw [List.length_map, delayL_len] at h1
    rw [List.getElem_map, delayL_at h1, if_neg (by omega)]; simp
theorem copy_cells {w : World} {b off : Nat} {rs : List Nat} {n : Nat} (h : Rd w (some ⟨b, off, none⟩) (rs.map fl)) {j : Nat} {v : Value} (hv : ((rs.take n).map fl)[j]? = some v) : w.cell? ((⟨b, off, none⟩ : Addr).add j) = some v := by
  have hv2 : (rs.map fl)[j]? = some v := by
    rw [List.map_take, List.getElem?_take] at hv
    split at hv
    · exact hv
    · cases hv
  rcases h with h | ⟨b', off', hA, _, hc⟩
  · rw [h] at hv2; simp at hv2
  · cases hA
    have := hc j v hv2
    unfold Addr.add
    by_cases hj : j = 0
    · subst hj; simpa using this
    · simpa [hj] using this
theorem made_fl (n : Nat) : (madeCells (Value.float .f32 0).cells (n * 1)).toList = List.replicate n (fl 0) := by
  rw [Nat.mul_one]; exact toList_madeCells_one _ _
end Go.Fx
namespace Go.Proofs.YtiddaabodkglmaaGreat
open Go.RowKit Go.Fx
set_option linter.unusedVariables false
set_option linter.unusedSimpArgs false
def delayOk (cells : Int) : Bool := decide (0 ≤ cells) && decide (cells ≤ 64)
def delay (rs : List Nat) (cells : Int) : List Nat := if delayOk cells = true then delayL rs (4 * cells.toNat) else []
theorem snoc_fl {ss : List Nat} {k x : Nat} (hk : k < ss.length) (hx : x = ss[k]) : (ss.take k).map fl ++ [fl x] = (ss.take (k + 1)).map fl := by
  rw [take_snoc hk, hx, List.map_append]; rfl
end Go.Proofs.YtiddaabodkglmaaGreat
end
section
namespace Go.Proofs.YtiddaabodkglmaaGreat
open Go.RowKit Go.Fx
set_option linter.unusedVariables false
set_option linter.unusedSimpArgs false
/-- samples with an echo -/
def echoAll (rs : List Nat) (cells : Int) (k : Nat) : List Nat := (List.range rs.length).map fun i => add32 (cn .f32 (rs.getD i 0)) (mul32 (cn .f32 k) (cn .f32 ((delay rs cells).getD i 0)))
def echoOk (rs : List Nat) (cells : Int) (k : Nat) : Bool := samplesOk rs && delayOk cells && samplesOk (echoAll rs cells k)
def echo (rs : List Nat) (cells : Int) (k : Nat) : List Nat := if echoOk rs cells k = true then echoAll rs cells k else []
theorem echoAll_len (rs : List Nat) (cells : Int) (k : Nat) : (echoAll rs cells k).length = rs.length := by simp [echoAll]
theorem delay_len {rs : List Nat} {cells : Int} (h : delayOk cells = true) : (delay rs cells).length = rs.length := by unfold delay; rw [if_pos h, delayL_len]
theorem echoAll_at {rs : List Nat} {cells : Int} {k i : Nat} (hd : delayOk cells = true) (h : i < rs.length) : (echoAll rs cells k)[i]'(by rw [echoAll_len]; exact h) = add32 (cn .f32 rs[i]) (mul32 (cn .f32 k) (cn .f32 ((delay rs cells)[i]'(by rw [delay_len hd]; exact h)))) := by
  simp only [echoAll, List.getElem_map, List.getElem_range]
  rw [List.getD_eq_getElem?_getD, List.getElem?_eq_getElem h, List.getD_eq_getElem?_getD, List.getElem?_eq_getElem (by rw [delay_len hd]; exact h)]
  rfl
theorem echo_len {gs rs : List Nat} {cells : Int} {x : Nat} (h : cns gs = echo rs cells x) : gs.length ≤ rs.length := by
  have := congrArg List.length h
  simp only [List.length_map] at this
  rw [this]; unfold echo; split <;> simp [echoAll_len]
theorem set_at_len {gs ds : List Nat} {k m : Nat} (hg : gs.length = k) (hk : k < ds.length) : ((gs ++ ds.drop k).map fl).set k (fl m) = ((gs ++ [m]) ++ ds.drop (k + 1)).map fl := by
  subst hg
  rw [← List.map_set, List.set_append_right _ _ (Nat.le_refl _), Nat.sub_self, List.drop_eq_getElem_cons hk, List.set_cons_zero, List.append_assoc]
  rfl
theorem snoc_own {w : World} {base : Nat} {v : Value} {k m : Nat} {gs : List Nat} {E : TypeId} (h : w.ownsRow base E 1 v (k + 1) (gs.map fl ++ #[Value.float .f32 m].toList)) : w.ownsRow base E 1 v (k + 1) ((gs ++ [m]).map fl) := by
  rw [List.map_append]; exact h
end Go.Proofs.YtiddaabodkglmaaGreat
end
section
namespace Go.Fx
open Go.RowKit
set_option linter.unusedVariables false
set_option linter.unusedSimpArgs false
/-- the four samples of a cell -/
def E4 (y re im : Nat) : List Nat := [add32 (cn .f32 y) (cn .f32 re), add32 (cn .f32 y) (neg32 (cn .f32 im)), add32 (cn .f32 y) (neg32 (cn .f32 re)), add32 (cn .f32 y) (cn .f32 im)]
theorem E4_at (y re im : Nat) : ∀ (n : Nat) (h : n < 4), ∃ h' : n < (E4 y re im).length, (E4 y re im)[n] = add32 (cn .f32 y) (cn .f32 (carriedB re im n))
  | 0, _ => ⟨by simp [E4], by simp [E4, carriedB]⟩
  | 1, _ => ⟨by simp [E4], by simp [E4, carriedB, cn_neg]⟩
  | 2, _ => ⟨by simp [E4], by simp [E4, carriedB, cn_neg]⟩
  | 3, _ => ⟨by simp [E4], by simp [E4, carriedB]⟩
  | n + 4, h => by omega
theorem E4_enc (c : Cel) (odd : Bool) : E4 c.y c.re (if odd = true then Op.negFloat .f32 c.im else c.im) = enc1 odd c.cn := by
  cases odd <;> simp [E4, enc1, cn_neg]
theorem encode_snoc {row : List Cel} {odd : Bool} {k : Nat} (h : k < row.length) : encode (cnC (row.take (k + 1))) odd = encode (cnC (row.take k)) odd ++ enc1 odd row[k].cn := by
  rw [take_snoc h]
  simp only [cnC, List.map_append, encode, List.flatMap_append, List.map_cons, List.map_nil, List.flatMap_cons, List.flatMap_nil, List.append_nil]
theorem encode_len (row : List Cel) (odd : Bool) : (encode row odd).length = 4 * row.length := by
  induction row with
  | nil => rfl
  | cons c r ih => simp only [encode, List.flatMap_cons, List.length_append, List.length_cons] at ih ⊢; rw [ih]; simp [enc1]; omega
def encR (row : List Cel) (odd : Bool) : List Nat := if rowOk row = true then encode row odd else []
def burstC : List Cel := List.replicate 4 ⟨0, 3246391296, 1098907648⟩
def lineR (row : List Cel) (odd : Bool) : List Nat := if rowOk row = true then List.replicate 8 3263168512 ++ encode burstC odd ++ encode row odd else []
theorem cns_app (a b : List Nat) : cns (a ++ b) = cns a ++ cns b := by simp
theorem burst_cn : cnC burstC = burstC := by decide +kernel
theorem burst_ok (odd : Bool) : encR (cnC burstC) odd = encode burstC odd := by unfold encR; rw [burst_cn, if_pos (by decide +kernel)]
theorem pulse_cn : cns (List.replicate 8 3263168512) = List.replicate 8 3263168512 := by decide +kernel
theorem snoc_flx {w : World} {base : Nat} {v : Value} {k b : Nat} {gs : List Nat} {E : TypeId} (h : w.ownsRow base E 1 v (k + 1) (gs.map fl ++ #[Value.float .f32 b].toList)) : w.ownsRow base E 1 v (k + 1) ((gs ++ [b]).map fl) := by
  simpa using h
end Go.Fx
namespace Go.Proofs.YtiddaabodkglmaaGreat
open Go.RowKit Go.Fx
set_option linter.unusedVariables false
set_option linter.unusedSimpArgs false
end Go.Proofs.YtiddaabodkglmaaGreat
end
section
namespace Go.Fx
open Ieee
set_option exponentiation.threshold 400
set_option linter.unusedVariables false
set_option linter.unusedSimpArgs false

/-! numbers of few digits: what the program reckons with them is exact -/

/-- a single that is m / 2^e -/
abbrev V (x : Nat) (m : Int) (e : Nat) : Prop := IsV FloatKind.f32.format x m e
theorem e149 {e : Nat} (h : e ≤ 149) : (e : Int) ≤ -FloatKind.f32.format.leastPlace := by
  have : FloatKind.f32.format.leastPlace = -149 := by decide
  rw [this]; omega
theorem m24 {m : Int} (h : m.natAbs ≤ 16777216) : m.natAbs ≤ 2 ^ (FloatKind.f32.format.fractionBits + 1) := h
theorem v_add {x y : Nat} {m n : Int} {e : Nat} (hx : V x m e) (hy : V y n e) (he : e ≤ 149) (hm : (m + n).natAbs ≤ 16777216) : V (add32 x y) (m + n) e := fop_add hx hy (e149 he) (m24 hm)
theorem v_sub {x y : Nat} {m n : Int} {e : Nat} (hx : V x m e) (hy : V y n e) (he : e ≤ 149) (hm : (m - n).natAbs ≤ 16777216) : V (sub32 x y) (m - n) e := fop_sub hx hy (e149 he) (m24 hm)
theorem v_mul {x y : Nat} {m n : Int} {e g : Nat} (hx : V x m e) (hy : V y n g) (he : e + g ≤ 149) (hm : (m * n).natAbs ≤ 16777216) : V (mul32 x y) (m * n) (e + g) := fop_mul hx hy (e149 he) (m24 hm)
theorem v_neg {x : Nat} {m : Int} {e : Nat} (hx : V x m e) : V (neg32 x) (-m) e := isV_fneg hx
theorem v_cn {x : Nat} {m : Int} {e : Nat} : V (cn .f32 x) m e ↔ V x m e := isV_cn
theorem v_half {x : Nat} {m : Int} {e : Nat} (hx : V x (2 * m) e) (he : e ≤ 148) (hm : (2 * m).natAbs ≤ 16777216) : V (quo32 x 1073741824) m e := by
  have h := fop_quo (k := .f32) (e := e) false 23 (-22) hx (y := 1073741824) read_two (e + 1) (by omega) (e149 (by omega)) (m24 hm)
  have e1 : sg false * (2 * m) = m * tp 1 := by simp [sg, tp]; omega
  rw [e1] at h
  exact IsV.coarser h
theorem v_quarter {x : Nat} {m : Int} {e : Nat} (hx : V x (4 * m) e) (he : e ≤ 147) (hm : (4 * m).natAbs ≤ 16777216) : V (quo32 x 1082130432) m e := by
  have h := fop_quo (k := .f32) (e := e) false 23 (-21) hx (y := 1082130432) read_four (e + 2) (by omega) (e149 (by omega)) (m24 hm)
  have e1 : sg false * (4 * m) = m * tp 2 := by simp [sg, tp]; omega
  rw [e1] at h
  exact IsV.coarser h
theorem v_feq {x y : Nat} {m : Int} {e : Nat} (hx : V x m e) (hy : V y m e) : feq .f32 x y = true := by
  unfold feq; rw [isV_eq hx hy]; exact decide_eq_true rfl
theorem v_feq' {x y : Nat} {m n : Int} {e : Nat} (hx : V x m e) (hy : V y n e) (h : m = n) : feq .f32 x y = true := by subst h; exact v_feq hx hy
theorem v_chk {x : Nat} {m : Int} {e : Nat} (h : chkV FloatKind.f32.format x m e = true) : V x m e := isV_chk h
theorem v_finer {x : Nat} {m n : Int} {e g : Nat} (k : Nat) (h : V x m e) (hg : g = e + k) (hn : n = m * ((2 ^ k : Nat) : Int)) : V x n g := by
  subst hg hn; exact IsV.finer h k
theorem v_coarser {x : Nat} {m n : Int} {e g : Nat} (k : Nat) (h : V x n g) (hg : g = e + k) (hn : n = m * ((2 ^ k : Nat) : Int)) : V x m e := by
  subst hg hn; exact IsV.coarser h
theorem mul_abs {a b : Int} {P Q : Nat} (ha : a.natAbs ≤ P) (hb : b.natAbs ≤ Q) : (a * b).natAbs ≤ P * Q := by
  rw [Int.natAbs_mul]; exact Nat.mul_le_mul ha hb
/-- within a bound -/
theorem v_within {x c : Nat} {m C : Int} {e : Nat} (hx : V x m e) (hc : V c C e) (h : (m.natAbs : Int) ≤ C) : within32 x c = true := by
  unfold within32 fge fle
  have hn : V (Op.negFloat .f32 c) (-C) e := isV_neg hc
  rw [isV_gt hx hn, isV_eq hx hn, isV_lt hx hc, isV_eq hx hc, Bool.and_eq_true, Bool.or_eq_true, Bool.or_eq_true, decide_eq_true_iff, decide_eq_true_iff, decide_eq_true_iff, decide_eq_true_iff]
  omega
theorem v_c256 (e : Nat) : V 1132462080 (256 * ((2 ^ e : Nat) : Int)) e := by
  have := IsV.finer (v_chk (x := 1132462080) (m := 256) (e := 0) (by decide +kernel)) e
  rw [Nat.zero_add] at this; exact this
theorem v_c1024 (e : Nat) : V 1149239296 (1024 * ((2 ^ e : Nat) : Int)) e := by
  have := IsV.finer (v_chk (x := 1149239296) (m := 1024) (e := 0) (by decide +kernel)) e
  rw [Nat.zero_add] at this; exact this
/-- one over a power of two -/
theorem v_pow {x : Nat} {c e : Nat} (h : V x ((2 ^ c : Nat) : Int) e) : ∃ (a : Nat) (pl : Int), FloatKind.f32.format.read x = .number false (2 ^ a) pl ∧ pl + a = (c : Int) - e := by
  obtain ⟨s, mag, pl, hr, hp, hv⟩ := h
  have hl : FloatKind.f32.format.leastPlace = -149 := by decide
  rw [hl] at hv hp
  have hpos : 0 < ((2 ^ c : Nat) : Int) * ((2 ^ (- -149 : Int).toNat : Nat) : Int) := Int.mul_pos (tp_pos c) (tp_pos _)
  have hs : s = false := by
    cases s
    · rfl
    · exfalso
      rw [← hv] at hpos
      have : 0 ≤ (mag : Int) * ((2 ^ (pl - -149).toNat : Nat) : Int) * ((2 ^ e : Nat) : Int) := Int.mul_nonneg (Int.mul_nonneg (by omega) (Int.le_of_lt (tp_pos _))) (Int.le_of_lt (tp_pos _))
      simp only [sg, if_true, Int.neg_mul, Int.one_mul] at hpos
      omega
  subst hs
  have hn : mag * 2 ^ ((pl - -149).toNat + e) = 2 ^ (c + 149) := by
    rw [Nat.pow_add, Nat.pow_add, ← Nat.mul_assoc]
    have e2 : (- -149 : Int).toNat = 149 := by decide
    rw [e2] at hv
    simp only [sg, Bool.false_eq_true, if_false, Int.one_mul] at hv
    exact_mod_cast hv
  have hle : (pl - -149).toNat + e ≤ c + 149 := by
    apply (Nat.pow_le_pow_iff_right (a := 2) (by omega)).1
    have hm0 : 0 < mag := by
      rcases Nat.eq_zero_or_pos mag with h0 | h0
      · rw [h0, Nat.zero_mul] at hn
        have := Nat.two_pow_pos (c + 149); omega
      · exact h0
    calc 2 ^ ((pl - -149).toNat + e) ≤ mag * 2 ^ ((pl - -149).toNat + e) := Nat.le_mul_of_pos_left _ hm0
      _ = _ := hn
  refine ⟨c + 149 - ((pl - -149).toNat + e), pl, ?_, by omega⟩
  rw [hr]
  congr 1
  have h2 : 2 ^ (c + 149) = 2 ^ (c + 149 - ((pl - -149).toNat + e)) * 2 ^ ((pl - -149).toNat + e) := by rw [← Nat.pow_add]; congr 1; omega
  rw [h2] at hn
  exact Nat.eq_of_mul_eq_mul_right (Nat.two_pow_pos _) hn
/-- a quotient by 2^c / 2^g: m / 2^e by it is m * 2^g / 2^(e+c) -/
theorem v_quo {x y : Nat} {m : Int} {e c g : Nat} (hx : V x m e) (hy : V y ((2 ^ c : Nat) : Int) g) (e' : Nat) (he' : e' + g = e + c) (he : e' ≤ 149) (hm : m.natAbs ≤ 16777216) : V (quo32 x y) m e' := by
  obtain ⟨a, pl, hr, hp⟩ := v_pow hy
  have h := fop_quo (k := .f32) (e := e) false a pl hx hr e' (by omega) (e149 he) (m24 hm)
  simpa [sg] using h

/-! cells and samples -/
abbrev I3 : Type := Int × Int × Int
def conjI (odd : Bool) (c : I3) : I3 := (c.1, c.2.1, if odd then -c.2.2 else c.2.2)
/-- the amounts of a cell -/
def CV (e : Nat) (c : Cel) (a : I3) : Prop := V c.y a.1 e ∧ V c.re a.2.1 e ∧ V c.im a.2.2 e
/-- the amounts of cells -/
def CVs (e : Nat) : List Cel → List I3 → Prop
  | [], [] => True
  | c :: l, a :: ys => CV e c a ∧ CVs e l ys
  | _, _ => False
/-- the amounts of samples, four a cell -/
def LV (e : Nat) : List Nat → List I3 → Prop
  | [], [] => True
  | s :: t :: u :: v :: l, a :: ys => V s (a.1 + a.2.1) e ∧ V t (a.1 - a.2.2) e ∧ V u (a.1 - a.2.1) e ∧ V v (a.1 + a.2.2) e ∧ LV e l ys
  | _, _ => False
def Small (n : Nat) (a : I3) : Prop := a.1.natAbs ≤ n ∧ a.2.1.natAbs ≤ n ∧ a.2.2.natAbs ≤ n
theorem Small.mono {n m : Nat} {a : I3} (h : Small n a) (hm : n ≤ m) : Small m a := ⟨Nat.le_trans h.1 hm, Nat.le_trans h.2.1 hm, Nat.le_trans h.2.2 hm⟩
theorem CV.cn {e : Nat} {c : Cel} {a : I3} (h : CV e c a) : CV e c.cn a := ⟨v_cn.2 h.1, v_cn.2 h.2.1, v_cn.2 h.2.2⟩
theorem CVs.cn {e : Nat} : ∀ {l : List Cel} {ys : List I3}, CVs e l ys → CVs e (cnC l) ys
  | [], [], _ => trivial
  | c :: l, a :: ys, h => ⟨h.1.cn, CVs.cn h.2⟩
  | [], _ :: _, h => h.elim
  | _ :: _, [], h => h.elim
theorem CVs.len {e : Nat} : ∀ {l : List Cel} {ys : List I3}, CVs e l ys → l.length = ys.length
  | [], [], _ => rfl
  | _ :: _, _ :: _, h => congrArg (· + 1) (CVs.len h.2)
  | [], _ :: _, h => h.elim
  | _ :: _, [], h => h.elim
theorem LV.len {e : Nat} : ∀ {l : List Nat} {ys : List I3}, LV e l ys → l.length = 4 * ys.length
  | [], [], _ => rfl
  | _ :: _ :: _ :: _ :: _, _ :: _, h => by
    have := LV.len h.2.2.2.2
    simp only [List.length_cons]; omega
  | [], _ :: _, h => h.elim
  | _ :: _, [], h => by simp [LV] at h
  | [_], _ :: _, h => h.elim
  | [_, _], _ :: _, h => h.elim
  | [_, _, _], _ :: _, h => h.elim
theorem LV.app {e : Nat} : ∀ {l : List Nat} {ys : List I3} {m : List Nat} {bs : List I3}, LV e l ys → LV e m bs → LV e (l ++ m) (ys ++ bs)
  | [], [], _, _, _, h => h
  | _ :: _ :: _ :: _ :: _, _ :: _, _, _, h, k => ⟨h.1, h.2.1, h.2.2.1, h.2.2.2.1, LV.app h.2.2.2.2 k⟩
  | [], _ :: _, _, _, h, _ => h.elim
  | _ :: _, [], _, _, h, _ => by simp [LV] at h
  | [_], _ :: _, _, _, h, _ => h.elim
  | [_, _], _ :: _, _, _, h, _ => h.elim
  | [_, _, _], _ :: _, _, _, h, _ => h.elim
theorem LV.drop {e : Nat} : ∀ (n : Nat) {l : List Nat} {ys : List I3}, LV e l ys → LV e (l.drop (4 * n)) (ys.drop n)
  | 0, _, _, h => h
  | n + 1, [], [], _ => by simp [LV]
  | n + 1, _ :: _ :: _ :: _ :: l, _ :: ys, h => by
    have := LV.drop n h.2.2.2.2
    rw [show 4 * (n + 1) = 4 * n + 1 + 1 + 1 + 1 by omega]
    simpa only [List.drop_succ_cons] using this
  | _ + 1, [], _ :: _, h => h.elim
  | _ + 1, _ :: _, [], h => by simp [LV] at h
  | _ + 1, [_], _ :: _, h => h.elim
  | _ + 1, [_, _], _ :: _, h => h.elim
  | _ + 1, [_, _, _], _ :: _, h => h.elim
theorem LV.take {e : Nat} : ∀ (n : Nat) {l : List Nat} {ys : List I3}, LV e l ys → LV e (l.take (4 * n)) (ys.take n)
  | 0, _, _, h => by simp [LV]
  | n + 1, [], [], _ => by simp [LV]
  | n + 1, _ :: _ :: _ :: _ :: l, _ :: ys, h => by
    have := LV.take n h.2.2.2.2
    rw [show 4 * (n + 1) = 4 * n + 1 + 1 + 1 + 1 by omega]
    simp only [List.take_succ_cons]
    exact ⟨h.1, h.2.1, h.2.2.1, h.2.2.2.1, this⟩
  | _ + 1, [], _ :: _, h => h.elim
  | _ + 1, _ :: _, [], h => by simp [LV] at h
  | _ + 1, [_], _ :: _, h => h.elim
  | _ + 1, [_, _], _ :: _, h => h.elim
  | _ + 1, [_, _, _], _ :: _, h => h.elim
theorem LV.cn {e : Nat} : ∀ {l : List Nat} {ys : List I3}, LV e l ys → LV e (cns l) ys
  | [], [], _ => trivial
  | _ :: _ :: _ :: _ :: _, _ :: _, h => ⟨v_cn.2 h.1, v_cn.2 h.2.1, v_cn.2 h.2.2.1, v_cn.2 h.2.2.2.1, LV.cn h.2.2.2.2⟩
  | [], _ :: _, h => h.elim
  | _ :: _, [], h => by simp [LV] at h
  | [_], _ :: _, h => h.elim
  | [_, _], _ :: _, h => h.elim
  | [_, _, _], _ :: _, h => h.elim
theorem LV.of_cn {e : Nat} : ∀ {l : List Nat} {ys : List I3}, LV e (cns l) ys → LV e l ys
  | [], [], _ => trivial
  | _ :: _ :: _ :: _ :: _, _ :: _, h => ⟨v_cn.1 h.1, v_cn.1 h.2.1, v_cn.1 h.2.2.1, v_cn.1 h.2.2.2.1, LV.of_cn h.2.2.2.2⟩
  | [], _ :: _, h => h.elim
  | _ :: _, [], h => by simp [LV] at h
  | [_], _ :: _, h => h.elim
  | [_, _], _ :: _, h => h.elim
  | [_, _, _], _ :: _, h => h.elim
/-- samples of the same amounts are equal -/
theorem LV.feq {e : Nat} : ∀ {l m : List Nat} {ys : List I3}, LV e l ys → LV e m ys → ∀ (i : Nat) (h1 : i < l.length) (h2 : i < m.length), feq .f32 l[i] m[i] = true
  | _ :: _ :: _ :: _ :: _, _ :: _ :: _ :: _ :: _, _ :: _, h, k, 0, _, _ => v_feq h.1 k.1
  | _ :: _ :: _ :: _ :: _, _ :: _ :: _ :: _ :: _, _ :: _, h, k, 1, _, _ => v_feq h.2.1 k.2.1
  | _ :: _ :: _ :: _ :: _, _ :: _ :: _ :: _ :: _, _ :: _, h, k, 2, _, _ => v_feq h.2.2.1 k.2.2.1
  | _ :: _ :: _ :: _ :: _, _ :: _ :: _ :: _ :: _, _ :: _, h, k, 3, _, _ => v_feq h.2.2.2.1 k.2.2.2.1
  | _ :: _ :: _ :: _ :: l, _ :: _ :: _ :: _ :: m, _ :: ys, h, k, i + 4, h1, h2 => by
    have h1' : i < l.length := by simp only [List.length_cons] at h1; omega
    have h2' : i < m.length := by simp only [List.length_cons] at h2; omega
    exact LV.feq h.2.2.2.2 k.2.2.2.2 i h1' h2'
  | [], _, _, _, _, _, h1, _ => by simp at h1
  | _, [], _, _, _, _, _, h2 => by simp at h2
  | _ :: _, _, [], h, _, _, _, _ => by simp [LV] at h
  | [_], _, _ :: _, h, _, _, _, _ => h.elim
  | [_, _], _, _ :: _, h, _, _, _, _ => h.elim
  | [_, _, _], _, _ :: _, h, _, _, _, _ => h.elim
  | _ :: _ :: _ :: _ :: _, [_], _ :: _, _, k, _, _, _ => k.elim
  | _ :: _ :: _ :: _ :: _, [_, _], _ :: _, _, k, _, _, _ => k.elim
  | _ :: _ :: _ :: _ :: _, [_, _, _], _ :: _, _, k, _, _, _ => k.elim
/-- each sample -/
theorem LV.each {e n : Nat} : ∀ {l : List Nat} {ys : List I3}, LV e l ys → (∀ a ∈ ys, Small n a) → ∀ x ∈ l, ∃ m : Int, V x m e ∧ m.natAbs ≤ 2 * n
  | [], [], _, _, _, hx => by cases hx
  | _ :: _ :: _ :: _ :: _, a :: _, h, hs, x, hx => by
    obtain ⟨s1, s2, s3⟩ := hs a (List.mem_cons_self ..)
    simp only [List.mem_cons] at hx
    rcases hx with rfl | rfl | rfl | rfl | hx
    · exact ⟨_, h.1, by omega⟩
    · exact ⟨_, h.2.1, by omega⟩
    · exact ⟨_, h.2.2.1, by omega⟩
    · exact ⟨_, h.2.2.2.1, by omega⟩
    · exact LV.each h.2.2.2.2 (fun b hb => hs b (List.mem_cons_of_mem _ hb)) x hx
  | [], _ :: _, h, _, _, _ => h.elim
  | _ :: _, [], h, _, _, _ => by simp [LV] at h
  | [_], _ :: _, h, _, _, _ => h.elim
  | [_, _], _ :: _, h, _, _, _ => h.elim
  | [_, _, _], _ :: _, h, _, _, _ => h.elim
theorem LV.fine {e n : Nat} {l : List Nat} {ys : List I3} (h : LV e l ys) (hs : ∀ a ∈ ys, Small n a) (hn : 2 * n ≤ 1024 * 2 ^ e) : Fx.fine l = true := by
  unfold Fx.fine
  rw [List.all_eq_true]
  intro x hx
  obtain ⟨m, hm, hl⟩ := h.each hs x hx
  refine v_within hm (v_c1024 e) ?_
  have : (m.natAbs : Int) ≤ ((1024 * 2 ^ e : Nat) : Int) := by exact_mod_cast Nat.le_trans hl hn
  rw [Int.natCast_mul] at this
  exact this
theorem CVs.ok {e n : Nat} : ∀ {l : List Cel} {ys : List I3}, CVs e l ys → (∀ a ∈ ys, Small n a) → n ≤ 256 * 2 ^ e → l.all cellOk = true
  | [], [], _, _, _ => rfl
  | c :: l, a :: ys, h, hs, hn => by
    obtain ⟨s1, s2, s3⟩ := hs a (List.mem_cons_self ..)
    have hb : ∀ m : Int, m.natAbs ≤ n → (m.natAbs : Int) ≤ 256 * ((2 ^ e : Nat) : Int) := fun m hm => by
      have : (m.natAbs : Int) ≤ ((256 * 2 ^ e : Nat) : Int) := by exact_mod_cast Nat.le_trans hm hn
      rw [Int.natCast_mul] at this
      exact this
    rw [List.all_cons, Bool.and_eq_true]
    refine ⟨?_, CVs.ok h.2 (fun b hb => hs b (List.mem_cons_of_mem _ hb)) hn⟩
    unfold cellOk
    rw [v_within h.1.1 (v_c256 e) (hb _ s1), v_within h.1.2.1 (v_c256 e) (hb _ s2), v_within h.1.2.2 (v_c256 e) (hb _ s3)]
    rfl
  | [], _ :: _, h, _, _ => h.elim
  | _ :: _, [], h, _, _ => h.elim
theorem CVs.rowOk {e n : Nat} {l : List Cel} {ys : List I3} (h : CVs e l ys) (hs : ∀ a ∈ ys, Small n a) (hn : n ≤ 256 * 2 ^ e) (h1 : 1 ≤ ys.length) (h64 : ys.length ≤ 64) : Fx.rowOk l = true := by
  unfold Fx.rowOk
  rw [h.ok hs hn, h.len, decide_eq_true h1, decide_eq_true h64]; rfl
/-- what is encoded -/
theorem enc_LV {e n : Nat} (odd : Bool) (he : e ≤ 149) (hn : 2 * n ≤ 16777216) : ∀ {l : List Cel} {ys : List I3}, CVs e l ys → (∀ a ∈ ys, Small n a) → LV e (encode l odd) (ys.map (conjI odd))
  | [], [], _, _ => trivial
  | c :: l, a :: ys, h, hs => by
    obtain ⟨s1, s2, s3⟩ := hs a (List.mem_cons_self ..)
    obtain ⟨⟨h1, h2, h3⟩, hr⟩ := h
    have ih := enc_LV odd he hn hr (fun b hb => hs b (List.mem_cons_of_mem _ hb))
    have h4 : V (if odd then neg32 c.im else c.im) (conjI odd a).2.2 e := by
      unfold conjI; cases odd
      · exact h3
      · exact v_neg h3
    have s4 : (conjI odd a).2.2.natAbs ≤ n := by unfold conjI; cases odd <;> simp <;> omega
    have e4 : a.1 - (conjI odd a).2.2 = a.1 + -(conjI odd a).2.2 := by omega
    have e5 : a.1 - a.2.1 = a.1 + -a.2.1 := by omega
    unfold encode
    rw [List.flatMap_cons]
    exact ⟨v_add h1 h2 he (by show (a.1 + a.2.1).natAbs ≤ _; omega), by
      show V _ (a.1 - (conjI odd a).2.2) e
      rw [e4]; exact v_add h1 (v_neg h4) he (by omega), by
      show V _ (a.1 - a.2.1) e
      rw [e5]; exact v_add h1 (v_neg h2) he (by omega), v_add h1 h4 he (by show (a.1 + (conjI odd a).2.2).natAbs ≤ _; omega), ih⟩
  | [], _ :: _, h, _ => h.elim
  | _ :: _, [], h, _ => h.elim
/-- what is decoded -/
theorem dec_CVs {e n : Nat} (odd : Bool) (he : e ≤ 147) (hn : 4 * n ≤ 16777216) : ∀ {l : List Nat} {ys : List I3}, LV e l ys → (∀ a ∈ ys, Small n a) → CVs e (decode odd l) (ys.map (conjI odd))
  | [], [], _, _ => trivial
  | s :: t :: u :: v :: l, a :: ys, h, hs => by
    obtain ⟨s1, s2, s3⟩ := hs a (List.mem_cons_self ..)
    obtain ⟨h1, h2, h3, h4, hr⟩ := h
    have ih := dec_CVs odd he hn hr (fun b hb => hs b (List.mem_cons_of_mem _ hb))
    have k1 := v_add h1 h2 (by omega) (by omega)
    have k2 := v_add k1 h3 (by omega) (by omega)
    have k3 := v_add k2 h4 (by omega) (by omega)
    have k4 : V (quo32 (add32 (add32 (add32 s t) u) v) 1082130432) a.1 e := v_quarter (by
      have e1 : a.1 + a.2.1 + (a.1 - a.2.2) + (a.1 - a.2.1) + (a.1 + a.2.2) = 4 * a.1 := by omega
      rw [e1] at k3; exact k3) (by omega) (by omega)
    have k5 : V (quo32 (sub32 s u) 1073741824) a.2.1 e := v_half (by
      have := v_sub h1 h3 (by omega) (by omega)
      have e1 : a.1 + a.2.1 - (a.1 - a.2.1) = 2 * a.2.1 := by omega
      rw [e1] at this; exact this) (by omega) (by omega)
    have k6 : V (quo32 (sub32 v t) 1073741824) a.2.2 e := v_half (by
      have := v_sub h4 h2 (by omega) (by omega)
      have e1 : a.1 + a.2.2 - (a.1 - a.2.2) = 2 * a.2.2 := by omega
      rw [e1] at this; exact this) (by omega) (by omega)
    refine ⟨⟨k4, k5, ?_⟩, ih⟩
    unfold conjI dec1
    cases odd
    · exact k6
    · exact v_neg k6
  | [], _ :: _, h, _ => h.elim
  | _ :: _, [], h, _ => by simp [LV] at h
  | [_], _ :: _, h, _ => h.elim
  | [_, _], _ :: _, h, _ => h.elim
  | [_, _, _], _ :: _, h, _ => h.elim
theorem conjI_false (a : I3) : conjI false a = a := rfl
theorem conjI_twice (odd : Bool) (a : I3) : conjI odd (conjI odd a) = a := by
  obtain ⟨y, r, i⟩ := a
  unfold conjI; cases odd <;> simp
theorem map_conj_false (ys : List I3) : ys.map (conjI false) = ys := by
  rw [show conjI false = id from rfl, List.map_id]
theorem map_conj_twice (odd : Bool) (ys : List I3) : (ys.map (conjI odd)).map (conjI odd) = ys := by
  rw [List.map_map]
  have : conjI odd ∘ conjI odd = id := by funext a; exact conjI_twice odd a
  rw [this, List.map_id]
theorem small_conj {n : Nat} {odd : Bool} {ys : List I3} (h : ∀ a ∈ ys, Small n a) : ∀ a ∈ ys.map (conjI odd), Small n a := by
  intro a ha
  obtain ⟨b, hb, rfl⟩ := List.mem_map.1 ha
  obtain ⟨s1, s2, s3⟩ := h b hb
  exact ⟨s1, s2, by unfold conjI; cases odd <;> simp <;> omega⟩
/-! a channel -/
def tr1 (ch : Chn) (c : Cel) : List Nat :=
  let y := add32 (mul32 ch.a c.y) ch.off
  let re := timesRe c.re c.im ch.re ch.im
  let im := timesIm c.re c.im ch.re ch.im
  [add32 y re, add32 y (neg32 im), add32 y (neg32 re), add32 y im]
def trAll (ch : Chn) (rs : List Nat) : List Nat := (decode false (cns rs)).flatMap (tr1 ch.cn)
def trOk (ch : Chn) (rs : List Nat) : Bool := chnOk ch && samplesOk rs && samplesOk (trAll ch rs)
def tr (ch : Chn) (rs : List Nat) : List Nat := if trOk ch rs = true then trAll ch rs else []
/-- the amounts of a channel -/
structure CH (k : Nat) (ch : Chn) (A O X Y : Int) : Prop where
  a : V ch.a A k
  off : V ch.off O k
  re : V ch.re X k
  im : V ch.im Y k
def trI (e : Nat) (A O X Y : Int) (c : I3) : I3 := (A * c.1 + O * ((2 ^ e : Nat) : Int), c.2.1 * X - c.2.2 * Y, c.2.1 * Y + c.2.2 * X)
theorem CH.cn {k : Nat} {ch : Chn} {A O X Y : Int} (h : CH k ch A O X Y) : CH k ch.cn A O X Y := ⟨v_cn.2 h.a, v_cn.2 h.off, v_cn.2 h.re, v_cn.2 h.im⟩
theorem tr1_V {e k n g : Nat} {ch : Chn} {A O X Y : Int} (hc : CH k ch A O X Y) (hA : A.natAbs ≤ g) (hO : O.natAbs * 2 ^ e ≤ n * g) (hX : X.natAbs ≤ g) (hY : Y.natAbs ≤ g) (he : e + k ≤ 149) (hn : 4 * (n * g) ≤ 16777216) {c : Cel} {a : I3} (h : CV e c a) (hs : Small n a) :
    ∃ s t u v, tr1 ch c = [s, t, u, v] ∧ V s ((trI e A O X Y a).1 + (trI e A O X Y a).2.1) (e + k) ∧ V t ((trI e A O X Y a).1 - (trI e A O X Y a).2.2) (e + k) ∧ V u ((trI e A O X Y a).1 - (trI e A O X Y a).2.1) (e + k) ∧ V v ((trI e A O X Y a).1 + (trI e A O X Y a).2.2) (e + k) := by
  obtain ⟨s1, s2, s3⟩ := hs
  obtain ⟨h1, h2, h3⟩ := h
  have b1 := mul_abs hA s1
  rw [Nat.mul_comm g n] at b1
  have b2 := mul_abs s2 hX
  have b3 := mul_abs s3 hY
  have b4 := mul_abs s2 hY
  have b5 := mul_abs s3 hX
  have p1 : V (mul32 ch.a c.y) (A * a.1) (e + k) := by have := v_mul hc.a h1 (by omega) (by omega); rwa [Nat.add_comm k e] at this
  have o1 : V ch.off (O * ((2 ^ e : Nat) : Int)) (e + k) := v_finer e hc.off (by omega) rfl
  have ob : (O * ((2 ^ e : Nat) : Int)).natAbs ≤ n * g := by rw [Int.natAbs_mul]; exact hO
  have p2 := v_mul h2 hc.re he (by omega)
  have p3 := v_mul h3 hc.im he (by omega)
  have p4 := v_mul h2 hc.im he (by omega)
  have p5 := v_mul h3 hc.re he (by omega)
  have y := v_add p1 o1 he (by omega)
  have re := v_sub p2 p3 he (by omega)
  have im := v_add p4 p5 he (by omega)
  have e5 : A * a.1 + O * ((2 ^ e : Nat) : Int) - (a.2.1 * Y + a.2.2 * X) = A * a.1 + O * ((2 ^ e : Nat) : Int) + -(a.2.1 * Y + a.2.2 * X) := by omega
  have e6 : A * a.1 + O * ((2 ^ e : Nat) : Int) - (a.2.1 * X - a.2.2 * Y) = A * a.1 + O * ((2 ^ e : Nat) : Int) + -(a.2.1 * X - a.2.2 * Y) := by omega
  refine ⟨_, _, _, _, rfl, ?_, ?_, ?_, ?_⟩
  · show V _ (A * a.1 + O * ((2 ^ e : Nat) : Int) + (a.2.1 * X - a.2.2 * Y)) (e + k)
    exact v_add y re he (by omega)
  · show V _ (A * a.1 + O * ((2 ^ e : Nat) : Int) - (a.2.1 * Y + a.2.2 * X)) (e + k)
    rw [e5]; exact v_add y (v_neg im) he (by omega)
  · show V _ (A * a.1 + O * ((2 ^ e : Nat) : Int) - (a.2.1 * X - a.2.2 * Y)) (e + k)
    rw [e6]; exact v_add y (v_neg re) he (by omega)
  · show V _ (A * a.1 + O * ((2 ^ e : Nat) : Int) + (a.2.1 * Y + a.2.2 * X)) (e + k)
    exact v_add y im he (by omega)
theorem tr_flat {e k n g : Nat} {ch : Chn} {A O X Y : Int} (hc : CH k ch A O X Y) (hA : A.natAbs ≤ g) (hO : O.natAbs * 2 ^ e ≤ n * g) (hX : X.natAbs ≤ g) (hY : Y.natAbs ≤ g) (he : e + k ≤ 149) (hn : 4 * (n * g) ≤ 16777216) :
    ∀ {l : List Cel} {ys : List I3}, CVs e l ys → (∀ a ∈ ys, Small n a) → LV (e + k) (l.flatMap (tr1 ch)) (ys.map (trI e A O X Y))
  | [], [], _, _ => trivial
  | c :: l, a :: ys, h, hs => by
    obtain ⟨s, t, u, v, hf, h1, h2, h3, h4⟩ := tr1_V hc hA hO hX hY he hn h.1 (hs a (List.mem_cons_self ..))
    have ih := tr_flat hc hA hO hX hY he hn h.2 (fun b hb => hs b (List.mem_cons_of_mem _ hb))
    rw [List.flatMap_cons, hf]
    exact ⟨h1, h2, h3, h4, ih⟩
  | [], _ :: _, h, _ => h.elim
  | _ :: _, [], h, _ => h.elim
/-- samples that come through a channel -/
theorem tr_LV {e k n g : Nat} {ch : Chn} {A O X Y : Int} (hc : CH k ch A O X Y) (hA : A.natAbs ≤ g) (hO : O.natAbs * 2 ^ e ≤ n * g) (hX : X.natAbs ≤ g) (hY : Y.natAbs ≤ g) (he : e + k ≤ 147) (hn : 4 * (n * g) ≤ 16777216) (hg : 1 ≤ g) {rs : List Nat} {ys : List I3} (h : LV e rs ys) (hs : ∀ a ∈ ys, Small n a) :
    LV (e + k) (trAll ch rs) (ys.map (trI e A O X Y)) := by
  have hng : n ≤ n * g := Nat.le_mul_of_pos_right _ hg
  have hd := dec_CVs (n := n) false (by omega) (by omega) h.cn hs
  rw [map_conj_false] at hd
  exact tr_flat hc.cn hA hO hX hY (by omega) hn hd hs
theorem trI_small {e n g : Nat} {A O X Y : Int} (hA : A.natAbs ≤ g) (hO : O.natAbs * 2 ^ e ≤ n * g) (hX : X.natAbs ≤ g) (hY : Y.natAbs ≤ g) {ys : List I3} (hs : ∀ a ∈ ys, Small n a) : ∀ a ∈ ys.map (trI e A O X Y), Small (2 * (n * g)) a := by
  intro b hb
  obtain ⟨a, ha, rfl⟩ := List.mem_map.1 hb
  obtain ⟨s1, s2, s3⟩ := hs a ha
  have b1 := mul_abs hA s1
  rw [Nat.mul_comm g n] at b1
  have b2 := mul_abs s2 hX
  have b3 := mul_abs s3 hY
  have b4 := mul_abs s2 hY
  have b5 := mul_abs s3 hX
  have ob : (O * ((2 ^ e : Nat) : Int)).natAbs ≤ n * g := by rw [Int.natAbs_mul]; exact hO
  refine ⟨?_, ?_, ?_⟩
  · show (A * a.1 + O * ((2 ^ e : Nat) : Int)).natAbs ≤ _; omega
  · show (a.2.1 * X - a.2.2 * Y).natAbs ≤ _; omega
  · show (a.2.1 * Y + a.2.2 * X).natAbs ≤ _; omega
theorem samplesOk_LV {e n : Nat} {l : List Nat} {ys : List I3} (h : LV e l ys) (hs : ∀ a ∈ ys, Small n a) (hn : 2 * n ≤ 1024 * 2 ^ e) (h1 : 1 ≤ ys.length) (h2 : ys.length ≤ 1024) : samplesOk l = true := by
  have hl := h.len
  unfold samplesOk
  rw [h.fine hs hn, decide_eq_true (show 4 ≤ l.length by omega), decide_eq_true (show l.length ≤ 4096 by omega), decide_eq_true (show l.length % 4 = 0 by omega)]; rfl
theorem lineOk_LV {e n : Nat} {l : List Nat} {ys : List I3} (h : LV e l ys) (hs : ∀ a ∈ ys, Small n a) (hn : 2 * n ≤ 1024 * 2 ^ e) (h1 : 7 ≤ ys.length) (h2 : ys.length ≤ 70) : lineOk l = true := by
  have hl := h.len
  unfold lineOk
  rw [h.fine hs hn, decide_eq_true (show 28 ≤ l.length by omega), decide_eq_true (show l.length ≤ 280 by omega), decide_eq_true (show l.length % 4 = 0 by omega)]; rfl
/-! lines -/
def headI (odd : Bool) : List I3 := [(-1024, 0, 0), (-1024, 0, 0), (0, -256, if odd then -256 else 256), (0, -256, if odd then -256 else 256), (0, -256, if odd then -256 else 256), (0, -256, if odd then -256 else 256)]
theorem v_bits : V 3263168512 (-1024) 4 ∧ V 3246391296 (-256) 4 ∧ V 1098907648 256 4 ∧ V 0 0 4 := ⟨v_chk (by decide +kernel), v_chk (by decide +kernel), v_chk (by decide +kernel), v_chk (by decide +kernel)⟩
theorem pulse_LV : LV 4 (List.replicate 8 3263168512) [(-1024, 0, 0), (-1024, 0, 0)] := by
  have h := v_bits.1
  exact ⟨h, h, h, h, h, h, h, h, trivial⟩
theorem burst_CVs : CVs 4 burstC [(0, -256, 256), (0, -256, 256), (0, -256, 256), (0, -256, 256)] := by
  have h : CV 4 ⟨0, 3246391296, 1098907648⟩ (0, -256, 256) := ⟨v_bits.2.2.2, v_bits.2.1, v_bits.2.2.1⟩
  exact ⟨h, h, h, h, trivial⟩
theorem line_LV {odd : Bool} {row : List Cel} {ys : List I3} (h : CVs 4 row ys) (hs : ∀ a ∈ ys, Small 1024 a) (h1 : 1 ≤ ys.length) (h64 : ys.length ≤ 64) : LV 4 (lineR row odd) (headI odd ++ ys.map (conjI odd)) := by
  have hr := h.rowOk hs (by decide) h1 h64
  unfold lineR
  rw [if_pos hr]
  have hb : ∀ a ∈ [((0 : Int), (-256 : Int), (256 : Int)), (0, -256, 256), (0, -256, 256), (0, -256, 256)], Small 1024 a := by
    intro a ha
    simp only [List.mem_cons, List.not_mem_nil, or_false] at ha
    rcases ha with rfl | rfl | rfl | rfl <;> exact ⟨by decide, by decide, by decide⟩
  have e2 := enc_LV odd (by omega) (by omega) burst_CVs hb
  have e3 := enc_LV odd (by omega) (by omega) h hs
  have := (pulse_LV.app e2).app e3
  have eh : [((-1024 : Int), (0 : Int), (0 : Int)), (-1024, 0, 0)] ++ [((0 : Int), (-256 : Int), (256 : Int)), (0, -256, 256), (0, -256, 256), (0, -256, 256)].map (conjI odd) = headI odd := by
    unfold headI conjI; rfl
  rw [eh] at this
  exact this
theorem head_small (odd : Bool) : ∀ a ∈ headI odd, Small 1024 a := by
  intro a ha
  unfold headI at ha
  simp only [List.mem_cons, List.not_mem_nil, or_false] at ha
  rcases ha with rfl | rfl | rfl | rfl | rfl | rfl <;> cases odd <;> exact ⟨by decide, by decide, by decide⟩
theorem line_small {odd : Bool} {ys : List I3} (hs : ∀ a ∈ ys, Small 1024 a) : ∀ a ∈ headI odd ++ ys.map (conjI odd), Small 1024 a := by
  intro a ha
  rcases List.mem_append.1 ha with h | h
  · exact head_small odd a h
  · exact small_conj hs a h
end Go.Fx
end
section
namespace Go.Fx
open Ieee
set_option exponentiation.threshold 400
set_option linter.unusedVariables false
set_option linter.unusedSimpArgs false
/-! a line is brought to level -/
/-- the amount of a sample -/
def smp (ys : List I3) (j : Nat) : Int :=
  if j % 4 = 0 then (ys.getD (j / 4) (0, 0, 0)).1 + (ys.getD (j / 4) (0, 0, 0)).2.1
  else if j % 4 = 1 then (ys.getD (j / 4) (0, 0, 0)).1 - (ys.getD (j / 4) (0, 0, 0)).2.2
  else if j % 4 = 2 then (ys.getD (j / 4) (0, 0, 0)).1 - (ys.getD (j / 4) (0, 0, 0)).2.1
  else (ys.getD (j / 4) (0, 0, 0)).1 + (ys.getD (j / 4) (0, 0, 0)).2.2
theorem smp_next (a : I3) (ys : List I3) (j : Nat) : smp (a :: ys) (j + 4) = smp ys j := by
  have e1 : (j + 4) % 4 = j % 4 := by omega
  have e2 : (j + 4) / 4 = j / 4 + 1 := by omega
  unfold smp
  rw [e1, e2, List.getD_cons_succ]
theorem LV.at {e : Nat} : ∀ {l : List Nat} {ys : List I3}, LV e l ys → ∀ (j : Nat), j < l.length → V (l.getD j 0) (smp ys j) e
  | _ :: _ :: _ :: _ :: _, _ :: _, h, 0, _ => by simpa [smp] using h.1
  | _ :: _ :: _ :: _ :: _, _ :: _, h, 1, _ => by simpa [smp] using h.2.1
  | _ :: _ :: _ :: _ :: _, _ :: _, h, 2, _ => by simpa [smp] using h.2.2.1
  | _ :: _ :: _ :: _ :: _, _ :: _, h, 3, _ => by simpa [smp] using h.2.2.2.1
  | _ :: _ :: _ :: _ :: l, a :: ys, h, j + 4, hj => by
    have := LV.at h.2.2.2.2 j (by simp only [List.length_cons] at hj; omega)
    rw [smp_next]
    simpa [List.getD_cons_succ] using this
  | [], _, _, _, hj => by simp at hj
  | _ :: _, [], h, _, _ => by simp [LV] at h
  | [_], _ :: _, h, _, _ => h.elim
  | [_, _], _ :: _, h, _, _ => h.elim
  | [_, _, _], _ :: _, h, _, _ => h.elim
def psum (m : Nat → Int) : Nat → Int
  | 0 => m 0
  | k + 1 => psum m k + m (k + 1)
theorem psum_le {m : Nat → Int} {M : Nat} : ∀ k, (∀ i, i ≤ k → (m i).natAbs ≤ M) → (psum m k).natAbs ≤ (k + 1) * M
  | 0, h => by simpa [psum] using h 0 (Nat.le_refl _)
  | k + 1, h => by
    have h1 := psum_le k (fun i hi => h i (by omega))
    have h2 := h (k + 1) (Nat.le_refl _)
    have e : (k + 1 + 1) * M = (k + 1) * M + M := by rw [Nat.add_mul]; omega
    show (psum m k + m (k + 1)).natAbs ≤ _
    omega
theorem sumN_V {rs : List Nat} {m : Nat → Int} {M e : Nat} (he : e ≤ 149) : ∀ k, (∀ i, i ≤ k → V (rs.getD i 0) (m i) e ∧ (m i).natAbs ≤ M) → (k + 1) * M ≤ 16777216 → V (sumN rs k) (psum m k) e
  | 0, h, _ => v_cn.2 (h 0 (Nat.le_refl _)).1
  | k + 1, h, hM => by
    have e1 : (k + 1 + 1) * M = (k + 1) * M + M := by rw [Nat.add_mul]; omega
    have h1 := sumN_V he k (fun i hi => h i (by omega)) (by omega)
    have h2 := h (k + 1) (Nat.le_refl _)
    have h3 := psum_le (M := M) (k + 1) (fun i hi => (h i hi).2)
    exact v_add h1 (v_cn.2 h2.1) he (Nat.le_trans h3 hM)
/-- what is received of an amount -/
def lvI (j : Nat) (B : Int) (a : I3) : I3 := (((2 ^ j : Nat) : Int) * a.1 + B, ((2 ^ j : Nat) : Int) * a.2.1, ((2 ^ j : Nat) : Int) * a.2.2)
theorem LV.level {E e j n : Nat} {B : Int} {g : Nat → Nat} (hg : ∀ x s, V x (((2 ^ j : Nat) : Int) * s + B) E → s.natAbs ≤ 2 * n → V (g x) s e) : ∀ {l : List Nat} {ts : List I3}, LV E l (ts.map (lvI j B)) → (∀ a ∈ ts, Small n a) → LV e (l.map g) ts
  | [], [], _, _ => trivial
  | _ :: _ :: _ :: _ :: _, a :: _, h, hs => by
    obtain ⟨s1, s2, s3⟩ := hs a (List.mem_cons_self ..)
    obtain ⟨h1, h2, h3, h4, hr⟩ := h
    have ih := LV.level hg hr (fun b hb => hs b (List.mem_cons_of_mem _ hb))
    refine ⟨hg _ _ ?_ (by omega), hg _ _ ?_ (by omega), hg _ _ ?_ (by omega), hg _ _ ?_ (by omega), ih⟩
    · have e1 : ((2 ^ j : Nat) : Int) * (a.1 + a.2.1) + B = (lvI j B a).1 + (lvI j B a).2.1 := by
        show _ = ((2 ^ j : Nat) : Int) * a.1 + B + ((2 ^ j : Nat) : Int) * a.2.1
        rw [Int.mul_add]; omega
      rw [e1]; exact h1
    · have e1 : ((2 ^ j : Nat) : Int) * (a.1 - a.2.2) + B = (lvI j B a).1 - (lvI j B a).2.2 := by
        show _ = ((2 ^ j : Nat) : Int) * a.1 + B - ((2 ^ j : Nat) : Int) * a.2.2
        rw [Int.mul_sub]; omega
      rw [e1]; exact h2
    · have e1 : ((2 ^ j : Nat) : Int) * (a.1 - a.2.1) + B = (lvI j B a).1 - (lvI j B a).2.1 := by
        show _ = ((2 ^ j : Nat) : Int) * a.1 + B - ((2 ^ j : Nat) : Int) * a.2.1
        rw [Int.mul_sub]; omega
      rw [e1]; exact h3
    · have e1 : ((2 ^ j : Nat) : Int) * (a.1 + a.2.2) + B = (lvI j B a).1 + (lvI j B a).2.2 := by
        show _ = ((2 ^ j : Nat) : Int) * a.1 + B + ((2 ^ j : Nat) : Int) * a.2.2
        rw [Int.mul_add]; omega
      rw [e1]; exact h4
  | [], _ :: _, h, _ => h.elim
  | _ :: _, [], h, _ => by simp [LV] at h
  | [_], _ :: _, h, _ => h.elim
  | [_, _], _ :: _, h, _ => h.elim
  | [_, _, _], _ :: _, h, _ => h.elim
theorem v_eight : V 1090519040 ((2 ^ 3 : Nat) : Int) 0 := v_chk (by decide +kernel)
theorem v_sixteen : V 1098907648 ((2 ^ 4 : Nat) : Int) 0 := v_chk (by decide +kernel)
theorem v_sixtyfour : V 1115684864 64 0 := v_chk (by decide +kernel)
theorem getD_cut {rs : List Nat} {a n i : Nat} (h : i < n) : ((rs.drop a).take n).getD i 0 = rs.getD (a + i) 0 := by
  simp [List.getD_eq_getElem?_getD, List.getElem?_take, List.getElem?_drop, h]
/-- the levels of such a line -/
theorem levels_V {E j n : Nat} {P B : Int} {b : I3} {rest : List I3} {gs : List Nat} (hE : E ≤ 140) (h : LV E gs (((P, 0, 0) :: (P, 0, 0) :: b :: b :: b :: b :: rest).map (lvI j B))) (hb : b.1 = 0) (hs : ∀ a ∈ ((P, 0, 0) :: (P, 0, 0) :: b :: b :: b :: b :: rest : List I3), Small n a) (hB : (2 ^ j * (2 * n) + B.natAbs) * 16 ≤ 16777216) :
    V (lvPulse gs) (((2 ^ j : Nat) : Int) * P + B) E ∧ V (lvBlack gs) B E := by
  have hl := h.len
  simp only [List.length_map, List.length_cons] at hl
  have hsm : ∀ i, (smp (((P, 0, 0) :: (P, 0, 0) :: b :: b :: b :: b :: rest).map (lvI j B)) i).natAbs ≤ 2 ^ j * (2 * n) + B.natAbs := by
    intro i
    have key : ∀ a : I3, Small n a → ((lvI j B a).1 + (lvI j B a).2.1).natAbs ≤ 2 ^ j * (2 * n) + B.natAbs ∧ ((lvI j B a).1 - (lvI j B a).2.2).natAbs ≤ 2 ^ j * (2 * n) + B.natAbs ∧ ((lvI j B a).1 - (lvI j B a).2.1).natAbs ≤ 2 ^ j * (2 * n) + B.natAbs ∧ ((lvI j B a).1 + (lvI j B a).2.2).natAbs ≤ 2 ^ j * (2 * n) + B.natAbs := by
      intro a ⟨s1, s2, s3⟩
      have m1 := mul_abs (a := ((2 ^ j : Nat) : Int)) (b := a.1) (P := 2 ^ j) (Q := n) (by simp) s1
      have m2 := mul_abs (a := ((2 ^ j : Nat) : Int)) (b := a.2.1) (P := 2 ^ j) (Q := n) (by simp) s2
      have m3 := mul_abs (a := ((2 ^ j : Nat) : Int)) (b := a.2.2) (P := 2 ^ j) (Q := n) (by simp) s3
      have e2 : 2 ^ j * (2 * n) = 2 ^ j * n + 2 ^ j * n := by rw [← Nat.mul_add]; congr 1; omega
      have q1 : (lvI j B a).1 = ((2 ^ j : Nat) : Int) * a.1 + B := rfl
      have q2 : (lvI j B a).2.1 = ((2 ^ j : Nat) : Int) * a.2.1 := rfl
      have q3 : (lvI j B a).2.2 = ((2 ^ j : Nat) : Int) * a.2.2 := rfl
      rw [q1, q2, q3, e2]
      generalize ((2 ^ j : Nat) : Int) * a.1 = x1 at *
      generalize ((2 ^ j : Nat) : Int) * a.2.1 = x2 at *
      generalize ((2 ^ j : Nat) : Int) * a.2.2 = x3 at *
      refine ⟨?_, ?_, ?_, ?_⟩ <;> omega
    generalize hT : ((P, 0, 0) :: (P, 0, 0) :: b :: b :: b :: b :: rest : List I3) = T at hs
    have hget : ∃ a : I3, (T.map (lvI j B)).getD (i / 4) (0, 0, 0) = lvI j B a ∧ Small n a ∨ (T.map (lvI j B)).getD (i / 4) (0, 0, 0) = (0, 0, 0) := by
      rw [List.getD_eq_getElem?_getD, List.getElem?_map]
      cases e : T[i / 4]?
      · exact ⟨(0, 0, 0), .inr rfl⟩
      · rename_i a
        exact ⟨a, .inl ⟨rfl, hs a (List.mem_of_getElem? e)⟩⟩
    unfold smp
    obtain ⟨a, ⟨ha, hsa⟩ | ha⟩ := hget
    · obtain ⟨k1, k2, k3, k4⟩ := key a hsa
      rw [ha]
      split
      · exact k1
      · split
        · exact k2
        · split
          · exact k3
          · exact k4
    · rw [ha]
      split
      · simp
      · split
        · simp
        · split <;> simp
  have hat := h.at
  have lim : 8 * (2 ^ j * (2 * n) + B.natAbs) ≤ 16777216 := by omega
  generalize hM : 2 ^ j * (2 * n) + B.natAbs = M at *
  constructor
  · unfold lvPulse sumAll
    have hlen : ((gs.drop 0).take 8).length - 1 = 7 := by rw [List.length_take, List.length_drop]; omega
    rw [hlen]
    have h8 := sumN_V (rs := (gs.drop 0).take 8) (m := smp (((P, 0, 0) :: (P, 0, 0) :: b :: b :: b :: b :: rest).map (lvI j B))) (M := M) (e := E) (by omega) 7 (fun i hi => by
      rw [getD_cut (by omega), Nat.zero_add]
      exact ⟨hat i (by omega), hsm i⟩) (by omega)
    have e8 : psum (smp (((P, 0, 0) :: (P, 0, 0) :: b :: b :: b :: b :: rest).map (lvI j B))) 7 = (((2 ^ j : Nat) : Int) * P + B) * ((2 ^ 3 : Nat) : Int) := by
      simp only [psum, smp, List.map_cons, lvI, List.getD_cons_zero, List.getD_cons_succ, Nat.reduceMod, Nat.reduceDiv, if_true, if_false, Nat.reduceEqDiff, reduceIte, Int.mul_zero]
      simp
      omega
    rw [e8] at h8
    have hb8 := psum_le (m := smp (((P, 0, 0) :: (P, 0, 0) :: b :: b :: b :: b :: rest).map (lvI j B))) (M := M) 7 (fun i _ => hsm i)
    rw [e8] at hb8
    have hq := v_quo h8 v_eight (E + 3) (by omega) (by omega) (by omega)
    exact IsV.coarser hq
  · unfold lvBlack sumAll
    have hlen : ((gs.drop 8).take 16).length - 1 = 15 := by rw [List.length_take, List.length_drop]; omega
    rw [hlen]
    have h16 := sumN_V (rs := (gs.drop 8).take 16) (m := fun i => smp (((P, 0, 0) :: (P, 0, 0) :: b :: b :: b :: b :: rest).map (lvI j B)) (8 + i)) (M := M) (e := E) (by omega) 15 (fun i hi => by
      rw [getD_cut (by omega)]
      exact ⟨hat (8 + i) (by omega), hsm (8 + i)⟩) (by omega)
    have e16 : psum (fun i => smp (((P, 0, 0) :: (P, 0, 0) :: b :: b :: b :: b :: rest).map (lvI j B)) (8 + i)) 15 = B * ((2 ^ 4 : Nat) : Int) := by
      simp only [psum, smp, List.map_cons, lvI, Nat.reduceAdd, List.getD_cons_zero, List.getD_cons_succ, Nat.reduceMod, Nat.reduceDiv, if_true, if_false, Nat.reduceEqDiff, reduceIte, hb, Int.mul_zero]
      generalize ((2 ^ j : Nat) : Int) * b.2.1 = x1
      generalize ((2 ^ j : Nat) : Int) * b.2.2 = x2
      simp
      omega
    rw [e16] at h16
    have hb16 := psum_le (m := fun i => smp (((P, 0, 0) :: (P, 0, 0) :: b :: b :: b :: b :: rest).map (lvI j B)) (8 + i)) (M := M) 15 (fun i _ => hsm (8 + i))
    rw [e16] at hb16
    have hq := v_quo h16 v_sixteen (E + 4) (by omega) (by omega) (by omega)
    exact IsV.coarser hq
/-- such a line is brought to level as it was -/
theorem tl_V {e k j n : Nat} {B : Int} {b : I3} {rest : List I3} {gs : List Nat} (he : e + k ≤ 100) (hj : j ≤ 20) (hk : k ≤ j + 6)
    (h : LV (e + k) gs (((-((2 ^ (e + 6) : Nat) : Int), 0, 0) :: (-((2 ^ (e + 6) : Nat) : Int), 0, 0) :: b :: b :: b :: b :: rest).map (lvI j B))) (hb : b.1 = 0) (hs : ∀ a ∈ ((-((2 ^ (e + 6) : Nat) : Int), 0, 0) :: (-((2 ^ (e + 6) : Nat) : Int), 0, 0) :: b :: b :: b :: b :: rest : List I3), Small n a)
    (hB : (2 ^ j * (2 * n) + B.natAbs) * 64 ≤ 16777216) (hlo : lineOk gs = true) (hN : 2 * n ≤ 1024 * 2 ^ e) (hrl : rest.length ≤ 64) (hr1 : 1 ≤ rest.length) :
    tlOk gs = true ∧ LV e (tlAll gs) ((-((2 ^ (e + 6) : Nat) : Int), 0, 0) :: (-((2 ^ (e + 6) : Nat) : Int), 0, 0) :: b :: b :: b :: b :: rest) := by
  obtain ⟨hp, hbk⟩ := levels_V (by omega) h hb hs (by omega)
  have e1 : ((2 ^ j : Nat) : Int) * -((2 ^ (e + 6) : Nat) : Int) = -((2 ^ (j + (e + 6)) : Nat) : Int) := by
    rw [Int.mul_neg, ← Int.natCast_mul, ← Nat.pow_add]
  rw [e1] at hp
  have hpw : 0 < ((2 ^ (j + (e + 6)) : Nat) : Int) := tp_pos _
  have hlv : levelsOk gs = true := by
    unfold levelsOk fgt
    rw [hlo, isV_gt hbk hp, decide_eq_true (by omega)]; rfl
  have hsp : (-((2 ^ (e + 6) : Nat) : Int)).natAbs ≤ n := (hs _ (List.mem_cons_self ..)).1
  have hpn : 2 ^ (e + 6) ≤ n := by rw [Int.natAbs_neg, Int.natAbs_natCast] at hsp; exact hsp
  have hpj : 2 ^ (j + (e + 6)) ≤ 2 ^ j * n := by rw [Nat.pow_add]; exact Nat.mul_le_mul_left _ hpn
  have e2 : 2 ^ j * (2 * n) = 2 ^ j * n + 2 ^ j * n := by rw [← Nat.mul_add]; congr 1; omega
  have hsub := v_sub hbk hp (by omega) (by
    have : (B - (-((2 ^ (j + (e + 6)) : Nat) : Int) + B)).natAbs = 2 ^ (j + (e + 6)) := by omega
    omega)
  have e3 : B - (-((2 ^ (j + (e + 6)) : Nat) : Int) + B) = ((2 ^ (j + (e + 6)) : Nat) : Int) := by omega
  rw [e3] at hsub
  have hkk := v_quo v_sixtyfour hsub (j + 6 - k) (by omega) (by omega) (by decide)
  have hall : LV e (tlAll gs) ((-((2 ^ (e + 6) : Nat) : Int), 0, 0) :: (-((2 ^ (e + 6) : Nat) : Int), 0, 0) :: b :: b :: b :: b :: rest) := by
    unfold tlAll
    refine LV.level (n := n) (fun x s hx hsl => ?_) h hs
    have m1 := mul_abs (a := ((2 ^ j : Nat) : Int)) (b := s) (P := 2 ^ j) (Q := 2 * n) (by simp) hsl
    have hd := v_sub (v_cn.2 hx) hbk (by omega) (by
      have : (((2 ^ j : Nat) : Int) * s + B - B).natAbs = (((2 ^ j : Nat) : Int) * s).natAbs := by congr 1; omega
      rw [this]; omega)
    have e4 : ((2 ^ j : Nat) : Int) * s + B - B = ((2 ^ j : Nat) : Int) * s := by omega
    rw [e4] at hd
    have hm := v_mul hkk hd (by omega) (by
      rw [Int.natAbs_mul]
      have : (64 : Int).natAbs = 64 := rfl
      rw [this]; omega)
    unfold tl1
    refine v_coarser (j + 6) hm (by omega) ?_
    have e5 : ((2 ^ (j + 6) : Nat) : Int) = ((2 ^ j : Nat) : Int) * 64 := by rw [Nat.pow_add, Int.natCast_mul]; rfl
    rw [e5]
    generalize ((2 ^ j : Nat) : Int) = q
    grind
  refine ⟨?_, hall⟩
  unfold tlOk
  rw [hlv, lineOk_LV hall hs hN (by simp only [List.length_cons]; omega) (by simp only [List.length_cons]; omega)]; rfl
end Go.Fx
end
section
namespace Go.Fx
open Ieee
set_option linter.unusedVariables false
set_option linter.unusedSimpArgs false
/-! lines, one behind the other, are cut into these lines -/
/-- the runs of lines of n samples: those with a pulse begin with a run -/
def Runs (n : Nat) : Nat → List Bool → List (Int × Int) → Prop
  | _, [], rs => rs = []
  | i, true :: fs, rs => ∃ m rs', rs = ((i : Int), m) :: rs' ∧ Runs n (i + n) fs rs'
  | i, false :: fs, rs => Runs n (i + n) fs rs
theorem Runs.begin {n : Nat} : ∀ {i : Nat} {fs : List Bool} {rs : List (Int × Int)}, Runs n i fs rs → ∀ r ∈ rs, (i : Int) ≤ r.1
  | i, [], rs, h, r, hr => by rw [show rs = [] from h] at hr; cases hr
  | i, true :: fs, rs, h, r, hr => by
    obtain ⟨m, rs', rfl, h'⟩ := h
    rcases List.mem_cons.1 hr with rfl | hr
    · exact Int.le_refl _
    · have := Runs.begin h' r hr; omega
  | i, false :: fs, rs, h, r, hr => by
    have := Runs.begin (show Runs n (i + n) fs rs from h) r hr; omega
theorem Runs.find {n : Nat} (hn : 28 ≤ n) : ∀ {i : Nat} {fs : List Bool} {rs : List (Int × Int)}, Runs n i fs rs → ∀ (j : Nat) (hj : j < fs.length),
    (fs[j] = true → ∃ m, rs.find? (near ((i + j * n : Nat) : Int)) = some (((i + j * n : Nat) : Int), m)) ∧ (fs[j] = false → rs.find? (near ((i + j * n : Nat) : Int)) = none)
  | i, [], rs, h, j, hj => by simp at hj
  | i, true :: fs, rs, h, 0, hj => by
    obtain ⟨m, rs', rfl, h'⟩ := h
    refine ⟨fun _ => ⟨m, ?_⟩, (fun h => by cases h)⟩
    rw [Nat.zero_mul, Nat.add_zero, List.find?_cons_of_pos]
    unfold near
    simp; omega
  | i, true :: fs, rs, h, j + 1, hj => by
    obtain ⟨m, rs', rfl, h'⟩ := h
    have ih := Runs.find hn h' j (by simpa using hj)
    have e : i + (j + 1) * n = i + n + j * n := by rw [Nat.add_mul]; omega
    rw [e, List.find?_cons_of_neg]
    · simpa using ih
    · unfold near
      simp; intro _; omega
  | i, false :: fs, rs, h, 0, hj => by
    have h' : Runs n (i + n) fs rs := h
    refine ⟨(fun h => by cases h), fun _ => ?_⟩
    rw [List.find?_eq_none]
    intro r hr
    have := h'.begin r hr
    unfold near
    simp; intro _; omega
  | i, false :: fs, rs, h, j + 1, hj => by
    have h' : Runs n (i + n) fs rs := h
    have ih := Runs.find hn h' j (by simpa using hj)
    have e : i + (j + 1) * n = i + n + j * n := by rw [Nat.add_mul]; omega
    rw [e]
    simpa using ih
/-- where lines begin -/
def places (K n : Nat) : List Int := (List.range K).map fun j => ((j * n : Nat) : Int)
theorem startsGo_all {n gap : Nat} {fs : List Bool} {rs : List (Int × Int)} (h : Runs n 0 fs rs) (hn : 28 ≤ n) (hg : 1 ≤ gap) (hfs : ∀ k, k + 1 < fs.length → fs.getD k false = true ∨ fs.getD (k + 1) false = true) :
    ∀ (f k : Nat) (missed : Int), k < fs.length → fs.length ≤ f + k → (fs.getD k false = true → missed = 0) →
      startsGo rs ((fs.length * n : Nat) : Int) n gap f ((k * n : Nat) : Int) missed = (List.range' (k + 1) (fs.length - (k + 1))).map fun j => ((j * n : Nat) : Int)
  | 0, k, missed, hk, hf, hm => by omega
  | f + 1, k, missed, hk, hf, hm => by
    unfold startsGo
    by_cases hlast : k + 1 = fs.length
    · rw [if_pos]
      · rw [hlast, Nat.sub_self]; rfl
      · rw [← hlast, Nat.add_mul]; push_cast; omega
    · have hk1 : k + 1 < fs.length := by omega
      have hle : (k + 2) * n ≤ fs.length * n := Nat.mul_le_mul_right _ (by omega)
      have e2 : (k + 2) * n = k * n + n + n := by rw [Nat.add_mul]; omega
      have e1 : (k + 1) * n = k * n + n := by rw [Nat.add_mul]; omega
      rw [if_neg (by omega)]
      have e : ((k * n : Nat) : Int) + (n : Int) = (((k + 1) * n : Nat) : Int) := by rw [e1]; push_cast; rfl
      have er : (List.range' (k + 1) (fs.length - (k + 1))) = (k + 1) :: List.range' (k + 2) (fs.length - (k + 2)) := by
        rw [show fs.length - (k + 1) = (fs.length - (k + 2)) + 1 by omega, List.range'_succ]
      rw [er, List.map_cons, e]
      obtain ⟨q1, q2⟩ := h.find hn (k + 1) hk1
      rw [Nat.zero_add] at q1 q2
      have hgd : fs.getD (k + 1) false = fs[k + 1] := by rw [List.getD_eq_getElem?_getD, List.getElem?_eq_getElem hk1]; rfl
      cases hb : fs[k + 1]
      · rw [q2 hb]
        have hprev : fs.getD k false = true := by
          rcases hfs k hk1 with h1 | h1
          · exact h1
          · rw [hgd, hb] at h1; cases h1
        have hm0 := hm hprev
        subst hm0
        simp only []
        rw [if_neg (by omega)]
        rw [startsGo_all h hn hg hfs f (k + 1) (0 + 1) hk1 (by omega) (fun h1 => by rw [hgd, hb] at h1; cases h1)]
      · obtain ⟨m, hm1⟩ := q1 hb
        rw [hm1]
        simp only []
        rw [startsGo_all h hn hg hfs f (k + 1) 0 hk1 (by omega) (fun _ => rfl)]
/-- the starts of lines, the first of which has a pulse -/
theorem starts_all {n gap : Nat} {fs : List Bool} {rs : List (Int × Int)} (h : Runs n 0 (true :: fs) rs) (hn : 28 ≤ n) (hn2 : n ≤ 280) (hg : 1 ≤ gap) (hg2 : gap ≤ 10) (hfs : ∀ k, k + 1 < (true :: fs).length → (true :: fs).getD k false = true ∨ (true :: fs).getD (k + 1) false = true) :
    starts rs (((true :: fs).length * n : Nat) : Int) n gap = places (true :: fs).length n := by
  have h' := h
  obtain ⟨m, rs', hrs, -⟩ := h
  have hle : 1 * n ≤ (true :: fs).length * n := Nat.mul_le_mul_right _ (by simp)
  have hok : startsOk rs (((true :: fs).length * n : Nat) : Int) n gap = true := by
    unfold startsOk
    rw [hrs]
    simp only [Bool.and_eq_true, decide_eq_true_eq]
    refine ⟨⟨⟨by omega, by omega⟩, ⟨by omega, by omega⟩⟩, ?_⟩
    omega
  unfold starts
  rw [if_pos hok]
  have hgo := startsGo_all h' hn hg hfs ((((true :: fs).length * n : Nat) : Int).toNat + 1) 0 0 (by simp) (by
    rw [Int.toNat_natCast]
    have : (true :: fs).length * 1 ≤ (true :: fs).length * n := Nat.mul_le_mul_left _ (by omega)
    omega) (fun _ => rfl)
  rw [Nat.zero_mul] at hgo
  rw [hrs] at hgo ⊢
  simp only []
  rw [hgo]
  unfold places
  rw [List.range_eq_range', show (true :: fs).length = fs.length + 1 from rfl, List.range'_succ]
  simp
/-- a line of n samples: with a pulse, or hushed -/
structure Line1 (low : Nat → Bool) (n : Nat) (b : Bool) (l : List Nat) : Prop where
  len : l.length = n
  pulse : b = true → ∃ m : Int, ∀ i r, lowsFrom low i 0 (l ++ r) = ((i : Int), m) :: lowsFrom low (i + n) 0 r
  hush : b = false → ∀ i r, lowsFrom low i 0 (l ++ r) = lowsFrom low (i + n) 0 r
def Lines (low : Nat → Bool) (n : Nat) : List Bool → List (List Nat) → Prop
  | [], [] => True
  | b :: fs, l :: ls => Line1 low n b l ∧ Lines low n fs ls
  | _, _ => False
theorem Lines.len {low : Nat → Bool} {n : Nat} : ∀ {fs : List Bool} {ls : List (List Nat)}, Lines low n fs ls → fs.length = ls.length
  | [], [], _ => rfl
  | _ :: _, _ :: _, h => congrArg (· + 1) (Lines.len h.2)
  | [], _ :: _, h => h.elim
  | _ :: _, [], h => h.elim
theorem Lines.flat {low : Nat → Bool} {n : Nat} : ∀ {fs : List Bool} {ls : List (List Nat)}, Lines low n fs ls → ls.flatten.length = ls.length * n
  | [], [], _ => by simp
  | _ :: _, l :: ls, h => by
    rw [List.flatten_cons, List.length_append, h.1.len, Lines.flat h.2, List.length_cons, Nat.add_mul]; omega
  | [], _ :: _, h => h.elim
  | _ :: _, [], h => h.elim
theorem Lines.runs {low : Nat → Bool} {n : Nat} : ∀ {fs : List Bool} {ls : List (List Nat)}, Lines low n fs ls → ∀ i, Runs n i fs (lowsFrom low i 0 ls.flatten)
  | [], [], _, i => by
    show lowsFrom low i 0 [] = []
    unfold lowsFrom
    rw [if_neg (by omega)]
  | true :: fs, l :: ls, h, i => by
    obtain ⟨m, hm⟩ := h.1.pulse rfl
    rw [List.flatten_cons, hm]
    exact ⟨m, _, rfl, Lines.runs h.2 (i + n)⟩
  | false :: fs, l :: ls, h, i => by
    rw [List.flatten_cons, h.1.hush rfl]
    exact Lines.runs h.2 (i + n)
  | [], _ :: _, h, _ => h.elim
  | _ :: _, [], h, _ => h.elim
/-- the starts of such lines -/
theorem lines_starts {x n gap : Nat} {fs : List Bool} {ls : List (List Nat)} (h : Lines (fun y => fle .f32 y x) n (true :: fs) ls) (hn : 28 ≤ n) (hn2 : n ≤ 280) (hg : 1 ≤ gap) (hg2 : gap ≤ 10) (hL : ls.length * n ≤ 20000) (hfs : ∀ k, k + 1 < (true :: fs).length → (true :: fs).getD k false = true ∨ (true :: fs).getD (k + 1) false = true) :
    starts (lows ls.flatten x) (ls.flatten.length : Nat) n gap = places ls.length n := by
  have hr := h.runs 0
  have e : lows ls.flatten x = lowsFrom (fun y => fle .f32 y x) 0 0 ls.flatten := by
    unfold lows; rw [if_neg (by rw [h.flat]; omega)]
  rw [e, h.flat, ← h.len]
  exact starts_all hr hn hn2 hg hg2 hfs
theorem flatten_cut {n : Nat} : ∀ {ls : List (List Nat)} (k : Nat) (hk : k < ls.length), (∀ l ∈ ls, l.length = n) → (ls.flatten.drop (k * n)).take n = ls[k]
  | l :: ls, 0, _, h => by
    have hl := h l (List.mem_cons_self ..)
    simp [List.take_append, ← hl]
  | l :: ls, k + 1, hk, h => by
    have hl := h l (List.mem_cons_self ..)
    have ih := flatten_cut (ls := ls) k (by simpa using hk) (fun x hx => h x (List.mem_cons_of_mem _ hx))
    rw [List.flatten_cons, show (k + 1) * n = l.length + k * n by rw [Nat.add_mul, hl]; omega, List.drop_append, List.drop_eq_nil_of_le (by omega), List.nil_append, Nat.add_sub_cancel_left, ih]
    simp
  | [], _, hk, _ => by simp at hk
theorem filterMap_all {α β : Type} {f : α → Option β} {g : α → β} : ∀ {l : List α}, (∀ x ∈ l, f x = some (g x)) → l.filterMap f = l.map g
  | [], _ => rfl
  | a :: l, h => by
    rw [List.filterMap_cons_some (h a (List.mem_cons_self ..)), filterMap_all (fun x hx => h x (List.mem_cons_of_mem _ hx)), List.map_cons]
/-- lines are cut at these places into these lines -/
theorem lines_cut {n : Nat} {ls : List (List Nat)} (h : ∀ l ∈ ls, l.length = n) (hf : ls.flatten.length = ls.length * n) (hn : 28 ≤ n) (hn2 : n ≤ 280) (hL : ls.length * n ≤ 20000) : cutLines ls.flatten (places ls.length n) n = ls := by
  unfold cutLines
  rw [if_pos ⟨by omega, by omega, by omega⟩]
  have hc : ∀ x ∈ places ls.length n, cut1 ls.flatten n x = some (cutF ls.flatten x.toNat n) := by
    intro x hx
    unfold places at hx
    obtain ⟨j, hj, rfl⟩ := List.mem_map.1 hx
    have hj' : j < ls.length := by simpa using hj
    have : (j + 1) * n ≤ ls.length * n := Nat.mul_le_mul_right _ (by omega)
    rw [Nat.add_mul] at this
    unfold cut1
    rw [if_pos (by rw [hf]; omega)]
    simp
  rw [filterMap_all hc]
  unfold places
  rw [List.map_map]
  apply List.ext_getElem (by simp)
  intro i h1 h2
  simp only [List.getElem_map, List.getElem_range, Function.comp, Int.toNat_natCast]
  unfold cutF
  exact flatten_cut i h2 h
theorem erase_mid {A P B : List Nat} (h8 : P.length ≤ 280) : erase (A ++ (P ++ B)) (A.length : Nat) (P.length : Nat) = A ++ (List.replicate P.length 0 ++ B) := by
  unfold erase
  rw [if_pos (by omega)]
  apply List.ext_getElem?
  intro i
  rw [List.getElem?_mapIdx]
  by_cases a : i < A.length
  · rw [List.getElem?_append_left a, List.getElem?_append_left a]
    cases A[i]? with
    | none => rfl
    | some x => simp only [Option.map_some, eraseF]; rw [if_neg (by omega)]
  · rw [List.getElem?_append_right (l₁ := A) (l₂ := P ++ B) (by omega), List.getElem?_append_right (l₁ := A) (l₂ := List.replicate P.length 0 ++ B) (by omega)]
    by_cases b : i - A.length < P.length
    · rw [List.getElem?_append_left (l₁ := P) (l₂ := B) b, List.getElem?_append_left (l₁ := List.replicate P.length 0) (l₂ := B) (by simpa using b), List.getElem?_eq_getElem b, List.getElem?_replicate, if_pos b]
      simp only [Option.map_some, eraseF]
      rw [if_pos (by omega)]
    · rw [List.getElem?_append_right (l₁ := P) (l₂ := B) (by omega), List.getElem?_append_right (l₁ := List.replicate P.length 0) (l₂ := B) (by simp; omega), List.length_replicate]
      cases B[i - A.length - P.length]? with
      | none => rfl
      | some x => simp only [Option.map_some, eraseF]; rw [if_neg (by omega)]
/-- the flags of K lines, the k-th of which is hushed -/
def flags (K k : Nat) : List Bool := (List.range K).map fun j => decide (j ≠ k)
theorem Lines.split {low : Nat → Bool} {n : Nat} : ∀ {ls : List (List Nat)} (k : Nat) (hk : k < ls.length), Lines low n (List.replicate ls.length true) ls → ∀ l', Line1 low n false l' →
    Lines low n (List.replicate k true ++ false :: List.replicate (ls.length - (k + 1)) true) (ls.take k ++ l' :: ls.drop (k + 1))
  | l :: ls, 0, _, h, l', h' => by
    have : Lines low n (List.replicate ls.length true) ls := h.2
    simpa using ⟨h', this⟩
  | l :: ls, k + 1, hk, h, l', h' => by
    have ih := Lines.split (ls := ls) k (by simpa using hk) h.2 l' h'
    have e : (l :: ls).length - (k + 1 + 1) = ls.length - (k + 1) := by simp
    rw [e]
    exact ⟨h.1, ih⟩
  | [], _, hk, _, _, _ => by simp at hk
theorem flatten_split {ls : List (List Nat)} {k : Nat} (hk : k < ls.length) (l' : List Nat) : (ls.take k ++ l' :: ls.drop (k + 1)).flatten = (ls.take k).flatten ++ (l' ++ (ls.drop (k + 1)).flatten) := by simp
theorem flatten_at {n : Nat} {ls : List (List Nat)} {k : Nat} (hk : k < ls.length) (h : ∀ l ∈ ls, l.length = n) : ls.flatten = (ls.take k).flatten ++ (ls[k] ++ (ls.drop (k + 1)).flatten) ∧ (ls.take k).flatten.length = k * n := by
  constructor
  · rw [← flatten_split hk, List.getElem_cons_drop hk, List.take_append_drop]
  · have : ∀ {xs : List (List Nat)}, (∀ l ∈ xs, l.length = n) → xs.flatten.length = xs.length * n := by
      intro xs
      induction xs with
      | nil => intro _; simp
      | cons a r ih =>
        intro hx
        rw [List.flatten_cons, List.length_append, hx a (List.mem_cons_self ..), ih (fun l hl => hx l (List.mem_cons_of_mem _ hl)), List.length_cons, Nat.add_mul]; omega
    rw [this (fun l hl => h l (List.mem_of_mem_take hl)), List.length_take, Nat.min_eq_left (by omega)]
/-! which samples of a line are low -/
theorem hush4 {low : Nat → Bool} {i s t u v : Nat} {r : List Nat} (h1 : low s = false) (h2 : low t = false) (h3 : low u = false) (h4 : low v = false) : lowsFrom low i 0 (s :: t :: u :: v :: r) = lowsFrom low (i + 4) 0 r := by
  simp [lowsFrom, h1, h2, h3, h4]
/-- all four samples of a cell are above a level -/
def High (C : Int) (a : I3) : Prop := C < a.1 + a.2.1 ∧ C < a.1 - a.2.2 ∧ C < a.1 - a.2.1 ∧ C < a.1 + a.2.2
theorem LV.hush {e : Nat} {low : Nat → Bool} {C : Int} (hlow : ∀ x m, V x m e → low x = decide (m ≤ C)) : ∀ {l : List Nat} {ys : List I3}, LV e l ys → (∀ a ∈ ys, High C a) → ∀ i r, lowsFrom low i 0 (l ++ r) = lowsFrom low (i + 4 * ys.length) 0 r
  | [], [], _, _, i, r => rfl
  | s :: t :: u :: v :: l, a :: ys, h, hs, i, r => by
    obtain ⟨k1, k2, k3, k4⟩ := hs a (List.mem_cons_self ..)
    obtain ⟨h1, h2, h3, h4, hr⟩ := h
    have ih := LV.hush hlow hr (fun b hb => hs b (List.mem_cons_of_mem _ hb)) (i + 4) r
    have e1 : i + 4 * (a :: ys).length = i + 4 + 4 * ys.length := by simp only [List.length_cons]; omega
    rw [e1, ← ih]
    exact hush4 (by rw [hlow _ _ h1]; exact decide_eq_false (by omega)) (by rw [hlow _ _ h2]; exact decide_eq_false (by omega)) (by rw [hlow _ _ h3]; exact decide_eq_false (by omega)) (by rw [hlow _ _ h4]; exact decide_eq_false (by omega))
  | [], _ :: _, h, _, _, _ => h.elim
  | _ :: _, [], h, _, _, _ => by simp [LV] at h
  | [_], _ :: _, h, _, _, _ => h.elim
  | [_, _], _ :: _, h, _, _, _ => h.elim
  | [_, _, _], _ :: _, h, _, _, _ => h.elim
/-- a pulse of eight, a burst whose colour is carried four times, and what is high -/
theorem pulse_run {low : Nat → Bool} {p1 p2 p3 p4 p5 p6 p7 p8 a1 b1 c1 d1 a2 b2 c2 d2 a3 b3 c3 d3 a4 b4 c4 d4 y : Nat} {a b c d : Bool} (hac : ¬ (a = true ∧ c = true)) (hbd : ¬ (b = true ∧ d = true))
    (q1 : low p1 = true) (q2 : low p2 = true) (q3 : low p3 = true) (q4 : low p4 = true) (q5 : low p5 = true) (q6 : low p6 = true) (q7 : low p7 = true) (q8 : low p8 = true)
    (ha1 : low a1 = a) (hb1 : low b1 = b) (hc1 : low c1 = c) (hd1 : low d1 = d) (ha2 : low a2 = a) (hb2 : low b2 = b) (hc2 : low c2 = c) (hd2 : low d2 = d)
    (ha3 : low a3 = a) (hb3 : low b3 = b) (hc3 : low c3 = c) (hd3 : low d3 = d) (ha4 : low a4 = a) (hb4 : low b4 = b) (hc4 : low c4 = c) (hd4 : low d4 = d) (hy : low y = false) :
    ∃ m : Int, ∀ i r, lowsFrom low i 0 (p1 :: p2 :: p3 :: p4 :: p5 :: p6 :: p7 :: p8 :: a1 :: b1 :: c1 :: d1 :: a2 :: b2 :: c2 :: d2 :: a3 :: b3 :: c3 :: d3 :: a4 :: b4 :: c4 :: d4 :: y :: r) = ((i : Int), m) :: lowsFrom low (i + 25) 0 r := by
  cases a <;> cases b <;> cases c <;> cases d <;> first | (exfalso; simp at hac; done) | (exfalso; simp at hbd; done) | skip
  all_goals (simp [lowsFrom, q1, q2, q3, q4, q5, q6, q7, q8, ha1, hb1, hc1, hd1, ha2, hb2, hc2, hd2, ha3, hb3, hc3, hd3, ha4, hb4, hc4, hd4, hy])
  all_goals (refine ⟨_, fun i => ⟨?_, rfl⟩⟩; omega)
theorem LV.uncons {e : Nat} : ∀ {l : List Nat} {a : I3} {ys : List I3}, LV e l (a :: ys) → ∃ s t u v l', l = s :: t :: u :: v :: l' ∧ V s (a.1 + a.2.1) e ∧ V t (a.1 - a.2.2) e ∧ V u (a.1 - a.2.1) e ∧ V v (a.1 + a.2.2) e ∧ LV e l' ys
  | s :: t :: u :: v :: l', _, _, h => ⟨s, t, u, v, l', rfl, h⟩
  | [], _, _, h => h.elim
  | [_], _, _, h => h.elim
  | [_, _], _, _, h => h.elim
  | [_, _, _], _, _, h => h.elim
/-- a line that comes through a channel, by its amounts -/
theorem line_pulse {e : Nat} {low : Nat → Bool} {C : Int} (hlow : ∀ x m, V x m e → low x = decide (m ≤ C)) {l : List Nat} {p : Int} {b c : I3} {ys : List I3} (h : LV e l ((p, 0, 0) :: (p, 0, 0) :: b :: b :: b :: b :: c :: ys)) (hp : p ≤ C) (hb : C < b.1) (hs : ∀ a ∈ c :: ys, High C a) : Line1 low (24 + 4 * (c :: ys).length) true l := by
  have hlen := h.len
  refine ⟨by rw [hlen]; simp only [List.length_cons]; omega, fun _ => ?_, (fun h => by cases h)⟩
  obtain ⟨p1, p2, p3, p4, l, rfl, q1, q2, q3, q4, h⟩ := h.uncons
  obtain ⟨p5, p6, p7, p8, l, rfl, q5, q6, q7, q8, h⟩ := h.uncons
  obtain ⟨a1, b1, c1, d1, l, rfl, ha1, hb1, hc1, hd1, h⟩ := h.uncons
  obtain ⟨a2, b2, c2, d2, l, rfl, ha2, hb2, hc2, hd2, h⟩ := h.uncons
  obtain ⟨a3, b3, c3, d3, l, rfl, ha3, hb3, hc3, hd3, h⟩ := h.uncons
  obtain ⟨a4, b4, c4, d4, l, rfl, ha4, hb4, hc4, hd4, h⟩ := h.uncons
  obtain ⟨y1, y2, y3, y4, l', rfl, k1, k2, k3, k4, hr⟩ := h.uncons
  obtain ⟨g1, g2, g3, g4⟩ := hs c (List.mem_cons_self ..)
  have lowP : ∀ x, V x (p + 0) e → low x = true := fun x hx => by rw [hlow _ _ hx]; exact decide_eq_true (by omega)
  have lowP' : ∀ x, V x (p - 0) e → low x = true := fun x hx => by rw [hlow _ _ hx]; exact decide_eq_true (by omega)
  obtain ⟨m, hm⟩ := pulse_run (low := low) (a := decide (b.1 + b.2.1 ≤ C)) (b := decide (b.1 - b.2.2 ≤ C)) (c := decide (b.1 - b.2.1 ≤ C)) (d := decide (b.1 + b.2.2 ≤ C)) (by simp only [decide_eq_true_eq]; omega) (by simp only [decide_eq_true_eq]; omega)
    (lowP _ q1) (lowP' _ q2) (lowP' _ q3) (lowP _ q4) (lowP _ q5) (lowP' _ q6) (lowP' _ q7) (lowP _ q8) (hlow _ _ ha1) (hlow _ _ hb1) (hlow _ _ hc1) (hlow _ _ hd1) (hlow _ _ ha2) (hlow _ _ hb2) (hlow _ _ hc2) (hlow _ _ hd2) (hlow _ _ ha3) (hlow _ _ hb3) (hlow _ _ hc3) (hlow _ _ hd3) (hlow _ _ ha4) (hlow _ _ hb4) (hlow _ _ hc4) (hlow _ _ hd4) (y := y1) (by rw [hlow _ _ k1]; exact decide_eq_false (by omega))
  refine ⟨m, fun i r => ?_⟩
  have ih := LV.hush hlow hr (fun a ha => hs a (List.mem_cons_of_mem _ ha)) (i + 28) r
  have e1 : lowsFrom low (i + 25) 0 (y2 :: y3 :: y4 :: (l' ++ r)) = lowsFrom low (i + 28) 0 (l' ++ r) := by
    simp [lowsFrom, hlow _ _ k2, hlow _ _ k3, hlow _ _ k4, Int.not_le.2 g2, Int.not_le.2 g3, Int.not_le.2 g4]
  simp only [List.cons_append]
  rw [hm, e1, ih]
  have e2 : i + 28 + 4 * ys.length = i + (24 + 4 * (c :: ys).length) := by simp only [List.length_cons]; omega
  rw [e2]
theorem line_hush {e : Nat} {low : Nat → Bool} {C : Int} (hlow : ∀ x m, V x m e → low x = decide (m ≤ C)) {l : List Nat} {ys : List I3} (h : LV e l ys) (hs : ∀ a ∈ ys, High C a) : Line1 low (4 * ys.length) false l :=
  ⟨h.len, (fun h => by cases h), fun _ i r => LV.hush hlow h hs i r⟩
end Go.Fx
end

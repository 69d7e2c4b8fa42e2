import Derived.Test.YtiddaabodkglmaaFk
import Derived.WalkKit
import Derived.WalkLawsBesides
import Derived.Deep.QuietTactic
import Derived.BigQuiet
import Derived.Deep.RegionWith
import Derived.Deep.RegionHeld3
import Derived.Deep.DeepMust
import Derived.Deep.LoopGhost
import Derived.Deep.DeepFit
import Derived.Outline
import Derived.Lib.Hide
import Derived.Maps.AppendAt
import Derived.Deep.AppendLies
namespace Go.Fx
open Ieee

/-! floats in the walk: what an operation gives as a function of the world's tape -/

def nanQ (w : World) (q : Question) : Nat := q.cut (w.tape w.drawn q)

/-- the bits that '+', '-', '*', '/' give -/
def fbits (w : World) (op : BinOp) (k : FloatKind) (x y : Nat) : Nat := (floatBits op k x y).getD (nanQ w (.nanBits k x y))
def fcnt (op : BinOp) (k : FloatKind) (x y : Nat) : Nat := if (floatBits op k x y).isSome then 0 else 1

theorem isN_f32 (s r : Nat) (_hs : s < 2) (hr : r < 2 ^ 23 - 1) : isN .f32 (s * 2 ^ 31 + 0x7f800000 + 1 + r) = true := by
  unfold isN Format.read
  have e1 : (FloatKind.f32.format).signWeight = 2147483648 := by decide
  have e2 : (FloatKind.f32.format).binade = 8388608 := by decide
  have e3 : (FloatKind.f32.format).infRung = 2139095040 := by decide
  simp only [e1, e2, e3]
  rw [if_neg (by omega), if_neg (by omega), if_neg (by omega)]
  rfl
theorem isN_f64 (s r : Nat) (_hs : s < 2) (hr : r < 2 ^ 52 - 1) : isN .f64 (s * 2 ^ 63 + 0x7ff0000000000000 + 1 + r) = true := by
  unfold isN Format.read
  have e1 : (FloatKind.f64.format).signWeight = 9223372036854775808 := by decide
  have e2 : (FloatKind.f64.format).binade = 4503599627370496 := by decide
  have e3 : (FloatKind.f64.format).infRung = 9218868437227405312 := by decide
  simp only [e1, e2, e3]
  rw [if_neg (by omega), if_neg (by omega), if_neg (by omega)]
  rfl

theorem isN_nanBits (w : World) (k : FloatKind) (x y : Nat) : isN k (nanQ w (.nanBits k x y)) = true := by
  unfold nanQ
  cases k
  · simp only [Question.cut]; exact isN_f32 _ _ (Nat.mod_lt _ (by omega)) (Nat.mod_lt _ (by omega))
  · simp only [Question.cut]; exact isN_f64 _ _ (Nat.mod_lt _ (by omega)) (Nat.mod_lt _ (by omega))
theorem isN_nanConv (w : World) (k : FloatKind) (x : Nat) : isN k (nanQ w (.nanConv k x)) = true := by
  unfold nanQ
  cases k
  · simp only [Question.cut]; exact isN_f32 _ _ (Nat.mod_lt _ (by omega)) (Nat.mod_lt _ (by omega))
  · simp only [Question.cut]; exact isN_f64 _ _ (Nat.mod_lt _ (by omega)) (Nat.mod_lt _ (by omega))

@[simp] theorem cn_fbits (w : World) (op : BinOp) (k : FloatKind) (x y : Nat) : cn k (fbits w op k x y) = fop op k (cn k x) (cn k y) := by
  rw [fop_cn_l, fop_cn_r]
  unfold fbits fop
  cases h : floatBits op k x y with
  | none => simp [cn_of_nan (isN_nanBits w k x y)]
  | some r => simp [cn_of_not (floatBits_not h)]

/-- where the answer is a number it is just that -/
theorem fbits_of {w : World} {op : BinOp} {k : FloatKind} {x y : Nat} (h : isN k (fop op k x y) = false) : fbits w op k x y = fop op k x y := by
  unfold fbits fop at *
  cases hf : floatBits op k x y with
  | none => rw [hf] at h; simp [isN_qn] at h
  | some r => rfl

section
variable {P : Program} (w : World)

theorem run_fop (op : BinOp) (hop : op = .add ∨ op = .sub ∨ op = .mul ∨ op = .quo) (t : TypeId) (k : FloatKind) (x y : Nat) :
    (binOp op t (.float k x) (.float k y)).run P w = .ok (.float k (fbits w op k x y)) (w.drewN (fcnt op k x y)) := by
  unfold fbits fcnt
  cases h : floatBits op k x y with
  | some r => simpa [World.drewN_zero] using run_float_arith (P := P) w op t k x y r h
  | none =>
    unfold floatBits at h
    rcases hop with rfl | rfl | rfl | rfl <;> simp only at h <;> simp [binOp, Op.floatArith, h, choose, Sem.run, Question.forced, nanQ, World.drewN]
@[go_sem] theorem run_fneg (k : FloatKind) (b : Nat) : (Op.unary .neg (.float k b)).run P w = .ok (.float k (Op.negFloat k b)) w := rfl

/-- the bits that a conversion between widths gives -/
def cvbits (w : World) (s d : FloatKind) (b : Nat) : Nat := (floatToFloatBits s b d).getD (if isN s b then nanQ w (.nanConv d b) else nanQ w (.floatToFloat b))
def cvcnt (s d : FloatKind) (b : Nat) : Nat := if (floatToFloatBits s b d).isSome then 0 else 1

theorem run_cv (s d : FloatKind) (b : Nat) : (Conv.floatToFloat s b d).run P w = .ok (.float d (cvbits w s d b)) (w.drewN (cvcnt s d b)) := by
  unfold cvbits cvcnt
  cases h : floatToFloatBits s b d with
  | some r => simpa [World.drewN_zero] using run_floatToFloat (P := P) w h
  | none =>
    unfold floatToFloatBits at h
    split at h
    · cases h
    · rename_i hsd
      unfold Conv.floatToFloat
      rw [if_neg hsd]
      unfold FloatKind.decode at h ⊢
      split at h
      · rename_i n m hr
        rw [hr]
        have hn : isN s b = true := by unfold isN; rw [hr]; rfl
        cases d <;> simp [hn, choose, Sem.run, Question.forced, nanQ, World.drewN]
      · cases h
      · rename_i n m p hr
        rw [hr]
        have hn : isN s b = false := by unfold isN; rw [hr]; rfl
        split at h
        · rename_i hi
          simp only [hi, if_true]
          simp [hn, choose, Sem.run, Question.forced, nanQ, World.drewN]
        · cases h
theorem run_convert_ff (src dst : TypeId) (s d : FloatKind) (b : Nat) (hs : (P.underlying src).isSome = true) (hd : P.underlying dst = some (.float d)) :
    (convert src dst (.float s b)).run P w = .ok (.float d (cvbits w s d b)) (w.drewN (cvcnt s d b)) := by
  obtain ⟨u, hs'⟩ := Option.isSome_iff_exists.1 hs
  have h := run_cv (P := P) w s d b
  cases u <;> simp [convert, run_underlying hs', run_underlying hd, h]
end

/-- a single, widened -/
theorem wide_cases (b : Nat) : (isN .f32 b = true ∧ floatToFloatBits .f32 b .f64 = none) ∨ (∃ r, floatToFloatBits .f32 b .f64 = some r ∧ isN .f64 r = false ∧ isN .f32 b = false) := by
  unfold floatToFloatBits FloatKind.decode FloatKind.encode
  rw [if_neg (by decide)]
  cases hr : FloatKind.f32.format.read b with
  | nan s m => left; exact ⟨by unfold isN; rw [hr]; rfl, rfl⟩
  | infinity s => right; exact ⟨_, rfl, by unfold isN; exact read_write_not _ rfl, by unfold isN; rw [hr]; rfl⟩
  | number s m p =>
    right
    have hm := read_mag _ hr
    have hp := read_place _ hr
    have ht := read_top _ hr
    have e1 : FloatKind.f32.format.leastPlace = -149 := by decide
    have e2 : FloatKind.f32.format.fractionBits = 23 := by decide
    have e3 : FloatKind.f32.format.exponentBits = 8 := by decide
    have e4 : FloatKind.f64.format.leastPlace = -1074 := by decide
    have e5 : FloatKind.f64.format.fractionBits = 52 := by decide
    have e6 : FloatKind.f64.format.exponentBits = 11 := by decide
    rw [e1] at hp ht; rw [e2] at hm; rw [e3] at ht
    obtain ⟨m', p', hrd, _, _⟩ := read_nearest FloatKind.f64.format good_double s m 0 p (by rw [e5]; omega) (by rw [e4]; omega) (fun h0 => by
      have := log2_lt_of h0 hm
      rw [e4, e5, e6]; omega)
    have hw : FloatKind.f64.format.write (.number s m p) = FloatKind.f64.format.nearest s (m * 2 ^ 0) p := by simp [Format.write]
    refine ⟨_, if_neg ?_, by unfold isN; exact read_write_not _ rfl, by unfold isN; rw [hr]; rfl⟩
    rw [hw, hrd]
    simp [Datum.isInfinity]

@[simp] theorem cn_widened (w : World) (b : Nat) : cn .f64 (cvbits w .f32 .f64 b) = fconv .f32 .f64 (cn .f32 b) := by
  unfold cvbits fconv
  rcases wide_cases b with ⟨h1, h2⟩ | ⟨r, h1, h2, h3⟩
  · rw [h2, cn_of_nan h1]
    have : floatToFloatBits .f32 (qn .f32) .f64 = none := by
      rcases wide_cases (qn .f32) with ⟨_, h⟩ | ⟨_, _, _, h⟩
      · exact h
      · rw [isN_qn] at h; cases h
    simp [this, h1, cn_of_nan (isN_nanConv w .f64 b)]
  · rw [h1, cn_of_not h3, h1]
    simp [cn_of_not h2]

/-! comparisons, folded: so the walk writes them -/
@[go_sem high] theorem cmp_eql (t : TypeId) (k : FloatKind) (a b : Nat) : binOp .eql t (.float k a) (.float k b) = pure (.bool (feq k a b)) := binOp_float_cmp_eql t k a b
@[go_sem high] theorem cmp_neq (t : TypeId) (k : FloatKind) (a b : Nat) : binOp .neq t (.float k a) (.float k b) = pure (.bool (!feq k a b)) := by rw [binOp_float_cmp_neq]; rfl
@[go_sem high] theorem cmp_lss (t : TypeId) (k : FloatKind) (a b : Nat) : binOp .lss t (.float k a) (.float k b) = pure (.bool (flt k a b)) := binOp_float_cmp_lss t k a b
@[go_sem high] theorem cmp_leq (t : TypeId) (k : FloatKind) (a b : Nat) : binOp .leq t (.float k a) (.float k b) = pure (.bool (fle k a b)) := binOp_float_cmp_leq t k a b
@[go_sem high] theorem cmp_gtr (t : TypeId) (k : FloatKind) (a b : Nat) : binOp .gtr t (.float k a) (.float k b) = pure (.bool (fgt k a b)) := binOp_float_cmp_gtr t k a b
@[go_sem high] theorem cmp_geq (t : TypeId) (k : FloatKind) (a b : Nat) : binOp .geq t (.float k a) (.float k b) = pure (.bool (fge k a b)) := binOp_float_cmp_geq t k a b
@[go_sem high] theorem run_eql_cx {P : Program} (w : World) (t : TypeId) (k : FloatKind) (a b c d : Nat) : (binOp .eql t (.complex k a b) (.complex k c d)).run P w = .ok (.bool (feq k a c && feq k b d)) w := run_eql_complex w t k a b c d
@[go_sem high] theorem run_neq_cx {P : Program} (w : World) (t : TypeId) (k : FloatKind) (a b c d : Nat) : (binOp .neq t (.complex k a b) (.complex k c d)).run P w = .ok (.bool (!(feq k a c && feq k b d))) w := run_neq_complex w t k a b c d
theorem feq_def (k : FloatKind) (x y : Nat) : (k.format.order x y == some .eq) = feq k x y := rfl
theorem flt_def (k : FloatKind) (x y : Nat) : (k.format.order x y == some .lt) = flt k x y := rfl
theorem fgt_def (k : FloatKind) (x y : Nat) : (k.format.order x y == some .gt) = fgt k x y := rfl
theorem fle_def (k : FloatKind) (x y : Nat) : (k.format.order x y == some .lt || k.format.order x y == some .eq) = fle k x y := rfl
theorem fge_def (k : FloatKind) (x y : Nat) : (k.format.order x y == some .gt || k.format.order x y == some .eq) = fge k x y := rfl

/-! the walk's own laws: a float's operation leaves new bits of which the value is known, NaNs made one -/
/-- a float's '+', '-', '*', '/' -/
def fshape (o : Oper) (a : Act) : Option (BinOp × FloatKind × Nat × Nat) :=
  match o.guard, o.op with
  | none, .binOp op _ x y _ =>
    match op, a.eval x, a.eval y with
    | .add, .float .f32 m, .float .f32 n => some (.add, .f32, m, n)
    | .sub, .float .f32 m, .float .f32 n => some (.sub, .f32, m, n)
    | .mul, .float .f32 m, .float .f32 n => some (.mul, .f32, m, n)
    | .quo, .float .f32 m, .float .f32 n => some (.quo, .f32, m, n)
    | .add, .float .f64 m, .float .f64 n => some (.add, .f64, m, n)
    | .sub, .float .f64 m, .float .f64 n => some (.sub, .f64, m, n)
    | .mul, .float .f64 m, .float .f64 n => some (.mul, .f64, m, n)
    | .quo, .float .f64 m, .float .f64 n => some (.quo, .f64, m, n)
    | _, _, _ => none
  | _, _ => none

theorem fshape_spec {o : Oper} {a : Act} {op : BinOp} {k : FloatKind} {m n : Nat} (h : fshape o a = some (op, k, m, n)) :
    o.guard = none ∧ (op = .add ∨ op = .sub ∨ op = .mul ∨ op = .quo) ∧ ∃ t x y t', o.op = .binOp op t x y t' ∧ a.eval x = .float k m ∧ a.eval y = .float k n := by
  unfold fshape at h
  split at h
  · rename_i hg ho
    split at h <;> first | (cases h; done) | (cases h; exact ⟨hg, by simp, _, _, _, _, ho, by assumption, by assumption⟩)
  · cases h

@[go_sem] theorem run_store_float (P : Program) (w : World) (a : Addr) (m : Mode) (k : FloatKind) (b : Nat) : (store a (.float k b) m).run P w = stored P w a (.float k b) m := run_store P w a _ m rfl
@[go_sem] theorem run_store_complex (P : Program) (w : World) (a : Addr) (m : Mode) (k : FloatKind) (x y : Nat) : (store a (.complex k x y) m).run P w = stored P w a (.complex k x y) m := run_store P w a _ m rfl
open Go.RowKit in
theorem below_drewN {B : Nat} {a w : World} (h : Below B a w) (n : Nat) : Below B a (w.drewN n) := ⟨h.os, h.tape, h.output, h.size, h.block⟩

section
variable {P : Program} {o : Oper} {a : Act} {w : World} {K : Act → World → Prop} {Q : Exit → Act → World → Prop}
theorem upon_add {t : TypeId} {k : FloatKind} {x y : Nat} (h : ∀ b n, cn k b = fop .add k (cn k x) (cn k y) → Oper.upon P o a K Q (.ok (.value (.float k b)) (w.drewN n))) :
    Oper.upon P o a K Q ((Sem.run P (binOp .add t (.float k x) (.float k y)) w).andThen fun v w' => .ok (.value v) w') := by
  rw [run_fop w .add (by simp) t k x y]; exact h _ _ (cn_fbits w _ k x y)
theorem upon_sub {t : TypeId} {k : FloatKind} {x y : Nat} (h : ∀ b n, cn k b = fop .sub k (cn k x) (cn k y) → Oper.upon P o a K Q (.ok (.value (.float k b)) (w.drewN n))) :
    Oper.upon P o a K Q ((Sem.run P (binOp .sub t (.float k x) (.float k y)) w).andThen fun v w' => .ok (.value v) w') := by
  rw [run_fop w .sub (by simp) t k x y]; exact h _ _ (cn_fbits w _ k x y)
theorem upon_mul {t : TypeId} {k : FloatKind} {x y : Nat} (h : ∀ b n, cn k b = fop .mul k (cn k x) (cn k y) → Oper.upon P o a K Q (.ok (.value (.float k b)) (w.drewN n))) :
    Oper.upon P o a K Q ((Sem.run P (binOp .mul t (.float k x) (.float k y)) w).andThen fun v w' => .ok (.value v) w') := by
  rw [run_fop w .mul (by simp) t k x y]; exact h _ _ (cn_fbits w _ k x y)
theorem upon_quo {t : TypeId} {k : FloatKind} {x y : Nat} (h : ∀ b n, cn k b = fop .quo k (cn k x) (cn k y) → Oper.upon P o a K Q (.ok (.value (.float k b)) (w.drewN n))) :
    Oper.upon P o a K Q ((Sem.run P (binOp .quo t (.float k x) (.float k y)) w).andThen fun v w' => .ok (.value v) w') := by
  rw [run_fop w .quo (by simp) t k x y]; exact h _ _ (cn_fbits w _ k x y)
/-- 'float64(x)' of a single -/
theorem upon_wide {src dst : TypeId} {x : Nat} (h1 : P.underlying src = some (.float .f32)) (h2 : P.underlying dst = some (.float .f64))
    (h : ∀ b n, cn .f64 b = fconv .f32 .f64 (cn .f32 x) → Oper.upon P o a K Q (.ok (.value (.float .f64 b)) (w.drewN n))) :
    Oper.upon P o a K Q ((Sem.run P (convert src dst (.float .f32 x)) w).andThen fun v w' => .ok (.value v) w') := by
  rw [run_convert_ff w src dst .f32 .f64 x (by rw [h1]; rfl) h2]; exact h _ _ (cn_widened w x)
/-- 'float32(x)' of a float64: known where the language says what it is -/
theorem upon_narrow {src dst : TypeId} {x : Nat} (h1 : P.underlying src = some (.float .f64)) (h2 : P.underlying dst = some (.float .f32))
    (h : ∀ b n, (∀ r, floatToFloatBits .f64 x .f32 = some r → b = r) → Oper.upon P o a K Q (.ok (.value (.float .f32 b)) (w.drewN n))) :
    Oper.upon P o a K Q ((Sem.run P (convert src dst (.float .f64 x)) w).andThen fun v w' => .ok (.value v) w') := by
  rw [run_convert_ff w src dst .f64 .f32 x (by rw [h1]; rfl) h2]; exact h _ _ (fun r hr => by unfold cvbits; rw [hr]; rfl)
/-- 'complex128(c)' of a complex64 -/
theorem upon_wideC {src dst : TypeId} {x y : Nat} (h1 : P.underlying src = some (.complex .f32)) (h2 : P.underlying dst = some (.complex .f64))
    (h : ∀ b c n, cn .f64 b = fconv .f32 .f64 (cn .f32 x) → cn .f64 c = fconv .f32 .f64 (cn .f32 y) → Oper.upon P o a K Q (.ok (.value (.complex .f64 b c)) (w.drewN n))) :
    Oper.upon P o a K Q ((Sem.run P (convert src dst (.complex .f32 x y)) w).andThen fun v w' => .ok (.value v) w') := by
  have e1 := run_cv (P := P) w .f32 .f64 x
  have e2 := run_cv (P := P) (w.drewN (cvcnt .f32 .f64 x)) .f32 .f64 y
  have hr : (convert src dst (.complex .f32 x y)).run P w = .ok (.complex .f64 (cvbits w .f32 .f64 x) (cvbits (w.drewN (cvcnt .f32 .f64 x)) .f32 .f64 y)) (w.drewN (cvcnt .f32 .f64 x + cvcnt .f32 .f64 y)) := by
    simp [convert, run_underlying h1, run_underlying h2, Conv.complexToComplex, e1, e2]
  rw [hr]; exact h _ _ _ (cn_widened w x) (cn_widened _ y)
end

end Go.Fx

import Derived.Test.YtiddaabodkglmaaGreatK1
import Derived.Test.YtiddaabodkglmaaGreatProg
section
namespace Go.Proofs.YtiddaabodkglmaaGreat
open Go.RowKit Go.Fx
set_option linter.unusedVariables false
set_option linter.unusedSimpArgs false

theorem amt_pos {x : Nat} (h : flt .f32 x 0 = true) : cn .f32 (Op.negFloat .f32 x) = amt x := by
  unfold amt; rw [h]; rfl
theorem amt_neg {x : Nat} (h : flt .f32 x 0 = false) : cn .f32 x = amt x := by unfold amt; rw [h]; rfl
theorem neg_256 : Op.negFloat .f32 1132462080 = 3279945728 := by decide
theorem amount_any (x : Nat) (w : World) : Calls Tryz.prog 51 #[.float .f32 x] w fun e w' => (∃ b, e = .returned (.float .f32 b) ∧ cn .f32 b = amt x) ∧ w = w' := by
  go_enter Tryz.func51, Tryz.ntmps51
  go_wp2
  all_goals go_ret
  · exact ⟨⟨_, rfl, amt_pos (by assumption)⟩, rfl⟩
  · exact ⟨⟨_, rfl, amt_neg (by assumption)⟩, rfl⟩

theorem sCellOk_any (y re im : Nat) (w : World) : Calls Tryz.prog 97 #[.agg #[.float .f32 y, .complex .f32 re im]] w fun e w' => e = .returned (.bool (cellOk ⟨y, re, im⟩)) ∧ Below w.heap.size w w' := by
  go_enter Tryz.func97, Tryz.ntmps97
  go_wp2
  all_goals go_ret
  all_goals refine ⟨?_, by (repeat (first | exact Below.refl _ _ | assumption | refine below_drewN ?_ _ | refine Below.drew ?_ | refine Below.alloc ?_ (by first | exact Nat.le_refl _ | (simp; done) | (simp; omega)) _ | refine Below.setCell ?_ (by first | exact Nat.le_refl _ | (simp; done) | (simp; omega)) _))⟩
  all_goals simp_all [cellOk, within32, neg_256]

/-- of a number of which only the bits behind 'amount' are known -/
theorem fle_amt {b x c : Nat} (h : cn .f32 b = amt x) : fle .f32 b c = fle .f32 (amt x) c := by rw [← h, fle_cn_l]
theorem iCellOk_any (y re im : Nat) (w : World) : Calls Tryz.prog 108 #[.agg #[.float .f32 y, .complex .f32 re im]] w fun e w' => e = .returned (.bool (cellOk ⟨y, re, im⟩)) ∧ Below w.heap.size w w' := by
  go_enter Tryz.func108, Tryz.ntmps108
  go_wp2_with (first | (go_at_call 51; refine (amount_any _ _).mono ?_; rintro e w1 ⟨⟨b, rfl, hb⟩, rfl⟩; replace hb := fun c => (fle_amt (c := c) hb)))
  all_goals go_ret
  all_goals refine ⟨?_, by (repeat (first | exact Below.refl _ _ | assumption | refine below_drewN ?_ _ | refine Below.drew ?_ | refine Below.alloc ?_ (by first | exact Nat.le_refl _ | (simp; done) | (simp; omega)) _ | refine Below.setCell ?_ (by first | exact Nat.le_refl _ | (simp; done) | (simp; omega)) _))⟩
  all_goals simp_all [cellOk, amt_256]

theorem conj_any (re im : Nat) (w : World) : Calls Tryz.prog 87 #[.complex .f32 re im] w fun e w' => e = .returned (.complex .f32 re (Op.negFloat .f32 im)) ∧ w = w' := by
  go_enter Tryz.func87, Tryz.ntmps87
  go_wp2
  all_goals go_ret
  exact ⟨rfl, rfl⟩
theorem half_any (x y : Nat) (w : World) : Calls Tryz.prog 104 #[.float .f32 x, .float .f32 y] w fun e w' => (∃ b, e = .returned (.float .f32 b) ∧ cn .f32 b = half32 (cn .f32 x) (cn .f32 y)) ∧ ∃ n, w' = w.drewN n := by
  go_enter Tryz.func104, Tryz.ntmps104
  go_wp2_with (with_reducible first | (refine upon_add ?_; intro b n hb) | (refine upon_sub ?_; intro b n hb) | (refine upon_mul ?_; intro b n hb) | (refine upon_quo ?_; intro b n hb))
  all_goals go_ret
  refine ⟨⟨_, rfl, ?_⟩, _, rfl⟩
  simp_all [half32, fop_cn_r]
theorem mean_any (a b x y : Nat) (w : World) : Calls Tryz.prog 86 #[.complex .f32 a b, .complex .f32 x y] w fun e w' => (∃ re im, e = .returned (.complex .f32 re im) ∧ cn .f32 re = half32 (cn .f32 a) (cn .f32 x) ∧ cn .f32 im = half32 (cn .f32 b) (cn .f32 y)) ∧ ∃ n, w' = w.drewN n := by
  go_enter Tryz.func86, Tryz.ntmps86
  go_wp2_with (first | (go_at_call 104; refine (half_any _ _ _).mono ?_; rintro e w1 ⟨⟨b, rfl, hb⟩, n, rfl⟩))
  all_goals go_ret
  refine ⟨⟨_, _, rfl, ?_, ?_⟩, _, rfl⟩ <;> assumption
theorem plus_any (a b x y : Nat) (w : World) : Calls Tryz.prog 89 #[.complex .f32 a b, .complex .f32 x y] w fun e w' => (∃ re im, e = .returned (.complex .f32 re im) ∧ cn .f32 re = add32 (cn .f32 a) (cn .f32 x) ∧ cn .f32 im = add32 (cn .f32 b) (cn .f32 y)) ∧ ∃ n, w' = w.drewN n := by
  go_enter Tryz.func89, Tryz.ntmps89
  go_wp2_with (with_reducible first | (refine upon_add ?_; intro b n hb) | (refine upon_sub ?_; intro b n hb) | (refine upon_mul ?_; intro b n hb) | (refine upon_quo ?_; intro b n hb))
  all_goals go_ret
  refine ⟨⟨_, _, rfl, ?_, ?_⟩, _, rfl⟩ <;> assumption
theorem minus_any (a b x y : Nat) (w : World) : Calls Tryz.prog 103 #[.complex .f32 a b, .complex .f32 x y] w fun e w' => (∃ re im, e = .returned (.complex .f32 re im) ∧ cn .f32 re = sub32 (cn .f32 a) (cn .f32 x) ∧ cn .f32 im = sub32 (cn .f32 b) (cn .f32 y)) ∧ ∃ n, w' = w.drewN n := by
  go_enter Tryz.func103, Tryz.ntmps103
  go_wp2_with (with_reducible first | (refine upon_add ?_; intro b n hb) | (refine upon_sub ?_; intro b n hb) | (refine upon_mul ?_; intro b n hb) | (refine upon_quo ?_; intro b n hb))
  all_goals go_ret
  refine ⟨⟨_, _, rfl, ?_, ?_⟩, _, rfl⟩ <;> assumption
theorem sHalf_any (x y : Nat) (w : World) : Calls Tryz.prog 76 #[.float .f32 x, .float .f32 y] w fun e w' => (∃ b, e = .returned (.float .f32 b) ∧ cn .f32 b = half32 (cn .f32 x) (cn .f32 y)) ∧ ∃ n, w' = w.drewN n := by
  go_enter Tryz.func76, Tryz.ntmps76
  go_wp2_with (with_reducible first | (refine upon_add ?_; intro b n hb) | (refine upon_sub ?_; intro b n hb) | (refine upon_mul ?_; intro b n hb) | (refine upon_quo ?_; intro b n hb))
  all_goals go_ret
  refine ⟨⟨_, rfl, ?_⟩, _, rfl⟩
  simp_all [half32, fop_cn_r]
theorem sConj_any (re im : Nat) (w : World) : Calls Tryz.prog 75 #[.complex .f32 re im] w fun e w' => e = .returned (.complex .f32 re (Op.negFloat .f32 im)) ∧ w = w' := by
  go_enter Tryz.func75, Tryz.ntmps75
  go_wp2
  all_goals go_ret
  exact ⟨rfl, rfl⟩
theorem within_any (n a b : Int) (w : World) : Calls Tryz.prog 50 #[.int .i64 n, .int .i64 a, .int .i64 b] w fun e w' => e = .returned (.bool (decide (a ≤ n) && decide (n ≤ b))) ∧ w = w' := by
  go_enter Tryz.func50, Tryz.ntmps50
  go_wp2
  all_goals go_ret
  all_goals refine ⟨?_, rfl⟩
  all_goals (simp_all <;> omega)
theorem sIn_any (n a b : Int) (w : World) : Calls Tryz.prog 37 #[.int .i64 n, .int .i64 a, .int .i64 b] w fun e w' => e = .returned (.bool (decide (a ≤ n) && decide (n ≤ b))) ∧ w = w' := by
  go_enter Tryz.func37, Tryz.ntmps37
  go_wp2
  all_goals go_ret
  all_goals refine ⟨?_, rfl⟩
  all_goals (simp_all <;> omega)
theorem lengthOk_any (n : Int) (w : World) : Calls Tryz.prog 52 #[.int .i64 n] w fun e w' => e = .returned (.bool (decide (28 ≤ n) && decide (n ≤ 280))) ∧ w = w' := by
  go_enter Tryz.func52, Tryz.ntmps52
  go_wp2_with (go_at_call 50; refine (within_any _ _ _ _).mono ?_; rintro e w1 ⟨rfl, rfl⟩)
  all_goals go_ret
  exact ⟨rfl, rfl⟩
theorem l05In_any (x c : Nat) (w : World) : Calls Tryz.prog 38 #[.float .f32 x, .float .f32 c] w fun e w' => e = .returned (.bool (within32 x c)) ∧ w = w' := by
  go_enter Tryz.func38, Tryz.ntmps38
  go_wp2
  all_goals go_ret
  all_goals refine ⟨?_, rfl⟩
  all_goals simp_all [within32]
end Go.Proofs.YtiddaabodkglmaaGreat
end
section
namespace Go.Proofs.YtiddaabodkglmaaGreat
open Go.RowKit Go.Fx
set_option linter.unusedVariables false
set_option linter.unusedSimpArgs false

theorem iSetOk_any (cells rows : Int) (slice least sat : Nat) (A : Option Addr) (n c : Nat) (hn : n ≤ 9223372036854775807) (w : World) :
    Calls Tryz.prog 25 #[.agg #[.int .i64 cells, .int .i64 rows, .float .f32 slice, .float .f32 least, .float .f32 sat, .slice A n c]] w fun e w' => e = .returned (.bool (setOk cells rows slice least sat n)) ∧ Below w.heap.size w w' := by
  go_enter Tryz.func25, Tryz.ntmps25
  go_wp2_with (first | (go_at_call 51; refine (amount_any _ _).mono ?_; rintro e w1 ⟨⟨b, rfl, hb⟩, rfl⟩; replace hb := fun c => (fle_amt (c := c) hb)) | (go_at_call 50; refine (within_any _ _ _ _).mono ?_; rintro e w1 ⟨rfl, rfl⟩))
  all_goals go_ret
  all_goals refine ⟨?_, by (repeat (first | exact Below.refl _ _ | assumption | refine below_drewN ?_ _ | refine Below.drew ?_ | refine Below.alloc ?_ (by first | exact Nat.le_refl _ | (simp; done) | (simp; omega)) _ | refine Below.setCell ?_ (by first | exact Nat.le_refl _ | (simp; done) | (simp; omega)) _))⟩
  all_goals first | (simp_all [setOk, amt_1024]; done) | (simp_all [setOk, amt_1024]; omega)
theorem sSetOk_any (cells rows : Int) (slice least sat : Nat) (A : Option Addr) (n c : Nat) (hn : n ≤ 9223372036854775807) (w : World) :
    Calls Tryz.prog 17 #[.agg #[.int .i64 cells, .int .i64 rows, .float .f32 slice, .float .f32 least, .float .f32 sat, .slice A n c]] w fun e w' => e = .returned (.bool (setOk cells rows slice least sat n)) ∧ Below w.heap.size w w' := by
  go_enter Tryz.func17, Tryz.ntmps17
  go_wp2_with (first | (go_at_call 38; refine (l05In_any _ _ _).mono ?_; rintro e w1 ⟨rfl, rfl⟩) | (go_at_call 37; refine (sIn_any _ _ _ _).mono ?_; rintro e w1 ⟨rfl, rfl⟩))
  all_goals go_ret
  all_goals refine ⟨?_, by (repeat (first | exact Below.refl _ _ | assumption | refine below_drewN ?_ _ | refine Below.drew ?_ | refine Below.alloc ?_ (by first | exact Nat.le_refl _ | (simp; done) | (simp; omega)) _ | refine Below.setCell ?_ (by first | exact Nat.le_refl _ | (simp; done) | (simp; omega)) _))⟩
  all_goals first | (simp_all [setOk]; done) | (simp_all [setOk]; omega)
end Go.Proofs.YtiddaabodkglmaaGreat
end
section
namespace Go.Proofs.YtiddaabodkglmaaGreat
open Go.RowKit Go.Fx Ieee
set_option linter.unusedVariables false
set_option linter.unusedSimpArgs false

theorem feq_self {k : FloatKind} {a : Nat} (h : isN k a = false) : feq k a a = true := by
  cases ha : fk k a with
  | none => rw [fk_none.1 ha] at h; cases h
  | some x => rw [feq_fk ha ha]; simp
theorem feq_nan {k : FloatKind} {a : Nat} (b : Nat) (h : isN k a = true) : feq k a b = false := (cmp_nan (.inl (fk_none.2 h))).1
theorem cn_same {k : FloatKind} {a b : Nat} (h : cn k a = cn k b) : (isN k a = true ∧ isN k b = true) ∨ (isN k a = false ∧ a = b) := by
  have h1 : isN k a = isN k b := by rw [← isN_cn k a, ← isN_cn k b, h]
  cases ha : isN k a with
  | true => left; exact ⟨rfl, by rw [← h1, ha]⟩
  | false => right; exact ⟨rfl, by rwa [cn_of_not ha, cn_of_not (by rw [← h1, ha])] at h⟩
theorem fgt_same {k : FloatKind} {a b : Nat} (c : Nat) (h : cn k a = cn k b) : fgt k a c = fgt k b c := by rw [← fgt_cn_l, h, fgt_cn_l]

theorem inv_gt {k : FloatKind} {p q X : Nat} {c : Nat} (hp : cn k p = X) (hq : cn k q = X) : (fgt k p c == fgt k q c) = true := by
  rw [fgt_same c (hp.trans hq.symm)]; simp
theorem inv_self {k : FloatKind} {a z : Nat} (h : isN k a = false) (ha : feq k a 0 = true) (hz : isN k (fop .quo k z (Op.negFloat k 0)) = false) (hz' : isN k (fop .quo k z 0) = false) : isN k (fop .quo k z a) = false := by
  cases hk : fk k a with
  | none => rw [fk_none.1 hk] at h; cases h
  | some x =>
    have h0 : fk k 0 = some 0 := by cases k <;> decide +kernel
    rw [feq_fk hk h0] at ha
    have hx : x = 0 := of_decide_eq_true ha
    subst hx
    -- the quotient by a number of which the datum is a zero is no NaN, as by 0 or -0
    unfold fk at hk
    have hd : ∃ s p, k.format.read a = .number s 0 p := by
      cases hr : k.format.read a with
      | nan s m => rw [hr] at hk; cases hk
      | infinity s =>
        rw [hr] at hk
        have ht := tp_ne (k.format.fractionBits + 1 + 2 ^ k.format.exponentBits)
        simp only [dk, big, Option.some.injEq] at hk
        rcases Int.mul_eq_zero.1 hk with h | h
        · cases s <;> simp [sg] at h
        · exact absurd h ht
      | number s m p =>
        rw [hr] at hk
        simp only [dk, Option.some.injEq] at hk
        have ht := tp_ne (p - k.format.leastPlace).toNat
        have hm : sg s * (m : Int) = 0 := by
          rcases Int.mul_eq_zero.1 hk with h | h
          · exact h
          · exact absurd h ht
        have : m = 0 := by cases s <;> simp [sg] at hm <;> omega
        subst this
        exact ⟨s, p, rfl⟩
    obtain ⟨s, p, hr⟩ := hd
    have h0r : ∃ q, k.format.read 0 = .number false 0 q := ⟨k.format.leastPlace, by cases k <;> decide +kernel⟩
    obtain ⟨q, h0r⟩ := h0r
    unfold fop floatBits Format.div at hz' ⊢
    simp only [h0r] at hz'
    simp only [hr]
    cases hzr : k.format.read z with
    | nan t m => rw [hzr] at hz'; simp [Datum.quotient, isN_qn] at hz'
    | infinity t => simp only [Datum.quotient, Option.map_some, Option.getD_some]; unfold isN; exact read_write_not _ rfl
    | number t m r =>
      rw [hzr] at hz'
      simp only [Datum.quotient, if_true] at hz' ⊢
      by_cases hm : m = 0
      · rw [if_pos hm] at hz'; simp [isN_qn] at hz'
      · rw [if_neg hm]; simp only [Option.map_some, Option.getD_some]; unfold isN; exact read_write_not _ rfl
theorem inv_eq {p q X : Nat} (hp : cn .f64 p = X) (hq : cn .f64 q = X) (hX : isN .f64 X = false) : feq .f64 p q = true := by
  rw [← feq_cn_l, ← feq_cn_r, hp, hq]
  exact feq_self hX
theorem one_quo {a : Nat} (h : isN .f64 a = false) (ha : feq .f64 a 0 = true) : isN .f64 (fop .quo .f64 (cn .f64 4607182418800017408) (cn .f64 a)) = false := by
  rw [fop_cn_l, fop_cn_r]
  exact inv_self h ha (by decide +kernel) (by decide +kernel)
theorem sameFloat_any (a b : Nat) (h : cn .f64 a = cn .f64 b) (w : World) : Calls Tryz.prog 32 #[.float .f64 a, .float .f64 b] w fun e w' => e = .returned (.bool true) ∧ ∃ n, w' = w.drewN n := by
  rcases cn_same h with ⟨ha, hb⟩ | ⟨ha, rfl⟩
  · have h1 := feq_nan a ha
    have h2 := feq_nan b hb
    clear h
    go_enter Tryz.func32, Tryz.ntmps32
    go_wp2
    all_goals go_ret
    exact ⟨rfl, 0, rfl⟩
  · have h1 := feq_self ha
    clear h
    go_enter Tryz.func32, Tryz.ntmps32
    go_wp2_with (with_reducible first | (refine upon_add ?_; intro b n hb) | (refine upon_sub ?_; intro b n hb) | (refine upon_mul ?_; intro b n hb) | (refine upon_quo ?_; intro b n hb))
    all_goals go_ret
    · refine ⟨?_, _, rfl⟩
      rw [inv_gt (by assumption) (by assumption)]; rfl
    all_goals exact ⟨rfl, 0, rfl⟩
theorem sameComplex_any (a b x y : Nat) (h : cn .f64 a = cn .f64 x) (h' : cn .f64 b = cn .f64 y) (w : World) : Calls Tryz.prog 92 #[.complex .f64 a b, .complex .f64 x y] w fun e w' => e = .returned (.bool true) ∧ ∃ n, w' = w.drewN n := by
  have H := Lib.hid h
  have H' := Lib.hid h'
  clear h h'
  go_enter Tryz.func92, Tryz.ntmps92
  go_wp2_with fail
  refine (sameFloat_any _ _ H.out _).mono ?_
  rintro e w1 ⟨rfl, n1, rfl⟩
  go_wp2_with fail
  refine (sameFloat_any _ _ H'.out _).mono ?_
  rintro e w1 ⟨rfl, n2, rfl⟩
  go_wp2_with fail
  go_ret
  exact ⟨rfl, _, rfl⟩
theorem eqCell_any (c d : Cel) (h : c.cn = d.cn) (w : World) : Calls Tryz.prog 67 #[.agg #[.float .f32 c.y, .complex .f32 c.re c.im], .agg #[.float .f32 d.y, .complex .f32 d.re d.im]] w fun e w' => e = .returned (.bool true) ∧ Below w.heap.size w w' := by
  obtain ⟨y, re, im⟩ := c
  obtain ⟨y', re', im'⟩ := d
  simp only [Cel.cn, Cel.mk.injEq] at h
  obtain ⟨h1, h2, h3⟩ := h
  have H1 := Lib.hid h1
  have H2 := Lib.hid h2
  have H3 := Lib.hid h3
  clear h1 h2 h3
  go_enter Tryz.func67, Tryz.ntmps67
  go_wp2_with (with_reducible refine upon_wide Tryz.underlying22 Tryz.underlying56 ?_; intro b n hb)
  refine (sameFloat_any _ _ (by simp only [*, H1.out]) _).mono ?_
  rintro e w1 ⟨rfl, n1, rfl⟩
  go_wp2_with (with_reducible refine upon_wideC Tryz.underlying71 Tryz.underlying86 ?_; intro b c n hb hc)
  refine (sameComplex_any _ _ _ _ (by simp only [*, H2.out]) (by simp only [*, H3.out]) _).mono ?_
  rintro e w1 ⟨rfl, n1, rfl⟩
  go_wp2_with fail
  go_ret
  exact ⟨rfl, by (repeat (first | exact Below.refl _ _ | assumption | refine below_drewN ?_ _ | refine Below.drew ?_ | refine Below.alloc ?_ (by first | exact Nat.le_refl _ | (simp; done) | (simp; omega)) _ | refine Below.setCell ?_ (by first | exact Nat.le_refl _ | (simp; done) | (simp; omega)) _))⟩
end Go.Proofs.YtiddaabodkglmaaGreat
end
section
namespace Go.Proofs.YtiddaabodkglmaaGreat
open Go.RowKit Go.Fx
set_option linter.unusedVariables false
set_option linter.unusedSimpArgs false

theorem info_f32 : (Tryz.prog.info? 22).map (fun i => (i.zero, i.size, i.bytes)) = some (some (.float .f32 0), 1, 4) := by kernel_rfl
theorem info_int : (Tryz.prog.info? 3).map (fun i => (i.zero, i.size, i.bytes)) = some (some (.int .i64 0), 1, 8) := by kernel_rfl

/-- a fresh row of singles -/
abbrev OF (w : World) (base : Nat) (v : Value) (rs : List Nat) : Prop := w.ownsRow base 22 1 v rs.length (rs.map fl)

theorem toF_any (A : Option Addr) (c : Nat) (rs : List Nat) (w : World) (h : Rd w A (rs.map fl)) (hn : rs.length ≤ 1048576) :
    Calls Tryz.prog 7 #[.slice A rs.length c] w fun e w' => (∃ v, e = .returned v ∧ OF w' w.heap.size v rs) ∧ Ext w w' := by
  obtain ⟨i0, hi, hz0, hz1, hz2⟩ := info_parts info_f32
  go_enter Tryz.func7, Tryz.ntmps7
  go_wp2_with (at_make; refine wpList_make_full _ rfl _ _ 26 rfl w.heap.size 22 i0 _ 1 Tryz.underlying26 hi hz0 hz1 _ _ _ _ rs.length rfl rfl rfl rfl (by rw [hz2]; omega) (by unfold maxLen; omega) (Nat.le_refl _) ?_; intro w1 hown hg)
  have hb1 := grown_none hg
  have hlen := hown.1
  go_loopw [4] (fun i wr => ∃ (k : Nat) (xs : List Value), k ≤ rs.length ∧ i = .int .i64 k ∧ Upto k xs (rs.map fl) ∧ wr.ownsRow w.heap.size 22 1 (.slice (some ⟨w.heap.size, 0, none⟩) rs.length rs.length) rs.length xs ∧ Ext w wr) (fun i _ => rs.length - (intOf i).toNat)
  case atStart => exact ⟨0, _, Nat.zero_le _, rfl, Upto.zero (by simpa using hlen), hown, hb1⟩
  case round =>
    obtain ⟨k, xs, hk, rfl, hu, ho, hb⟩ := hrel
    clear hlen
    by_cases hlt : k < rs.length
    · obtain ⟨b, off, rfl, hbw, hc⟩ := rf_at (h.ext hb) hlt
      have hf := own_frozen ho k
      have hl : k < xs.length := by have := hu.1; simp at this; omega
      have hcell : ∃ u, wr.cell? ⟨w.heap.size, k, none⟩ = some u := ⟨_, own_cell ho (List.getElem?_eq_getElem hl)⟩
      obtain ⟨u0, hcell⟩ := hcell
      go_wp2
      go_roundw
      case rel => exact ⟨k + 1, _, by omega, by go_num, hu.step (by simp [hlt]), own_set ho _, by (repeat (first | exact Below.refl _ _ | assumption | refine below_drewN ?_ _ | refine Below.drew ?_ | refine Below.alloc ?_ (by first | exact Nat.le_refl _ | (simp; done) | (simp; omega)) _ | refine Below.setCell ?_ (by first | exact Nat.le_refl _ | (simp; done) | (simp; omega)) _))⟩
      case measure => simp [intOf]; omega
    · go_wp2
      go_ret
      obtain rfl : k = rs.length := by omega
      have := Upto.all (ys := rs.map fl) (by simpa using hu)
      subst this
      exact ⟨⟨_, rfl, ho⟩, hb⟩

/-- the widening, in whatever world -/
theorem widen_run (x : Nat) (W : World) : (convert 22 56 (.float .f32 x)).run Tryz.prog W = .ok (.float .f64 (cvbits W .f32 .f64 x)) (W.drewN (cvcnt .f32 .f64 x)) :=
  run_convert_ff W _ _ .f32 .f64 x (by rw [Tryz.underlying22]; rfl) Tryz.underlying56

theorem cns_at {rs ss : List Nat} (h : cns rs = cns ss) {k : Nat} (h1 : k < rs.length) (h2 : k < ss.length) : cn .f32 rs[k] = cn .f32 ss[k] := by
  have := congrArg (fun l => l[k]?) h
  simpa [h1, h2] using this
set_option maxRecDepth 100000 in
set_option maxHeartbeats 4000000 in
theorem eqF_any (A B : Option Addr) (c d : Nat) (rs ss : List Nat) (w : World) (h : Rd w A (rs.map fl)) (h' : Rd w B (ss.map fl)) (hn : rs.length ≤ maxLen) (he : cns rs = cns ss) :
    Calls Tryz.prog 11 #[.slice A rs.length c, .slice B ss.length d] w fun e w' => e = .returned (.bool true) ∧ ∃ n, w' = w.drewN n := by
  have hl : rs.length = ss.length := by simpa using congrArg List.length he
  have HE := Lib.hid he
  unfold maxLen at hn
  rw [← hl]
  have HL := Lib.hid hl
  clear he hl
  go_enter Tryz.func11, Tryz.ntmps11
  go_wp2
  go_loopw [5] (fun i wr => ∃ (k : Nat), k ≤ rs.length ∧ i = .int .i64 k ∧ ∃ n, wr = w.drewN n) (fun i _ => rs.length - (intOf i).toNat)
  case atStart => exact ⟨0, Nat.zero_le _, rfl, 0, rfl⟩
  case round =>
    obtain ⟨k, hk, rfl, n, rfl⟩ := hrel
    by_cases hlt : k < rs.length
    · obtain ⟨b, off, rfl, hbw, hc⟩ := rf_at h hlt
      obtain ⟨b', off', rfl, hbw', hc'⟩ := rf_at h' (by rw [← HL.out]; exact hlt)
      have hlt' : k < ss.length := by rw [← HL.out]; exact hlt
      have HK := Lib.hid (cns_at HE.out hlt hlt')
      have w1 := widen_run rs[k]
      have w2 := widen_run ss[k]
      go_wp2_with fail
      go_region_with (go_at_call 32; refine (sameFloat_any _ _ (by rw [cn_widened, cn_widened, HK.out]) _).mono ?_; rintro e w1 ⟨rfl, n1, rfl⟩)
      all_goals go_wp2
      all_goals go_roundw
      all_goals first | exact ⟨k + 1, by omega, by go_num, _, rfl⟩ | (simp [intOf]; omega)
    · go_wp2
      go_ret
      exact ⟨rfl, n, rfl⟩

theorem notNaN_int (k : FloatKind) (n : Int) : isN k (floatOfInt k n) = false := by
  unfold isN floatOfInt FloatKind.nearest FloatKind.encode; exact read_write_not _ rfl
abbrev marksF (k0 : Int) (n : Nat) : List Value := (List.range n).map fun (j : Nat) => fl (floatOfInt .f32 (k0 + j))
theorem marksF_at (k0 : Int) {n k : Nat} (h : k < n) : (marksF k0 n)[k]? = some (fl (floatOfInt .f32 (k0 + k))) := by simp [h]

theorem markF_any (A : Option Addr) (c n : Nat) (k0 : Int) (hn : n ≤ 1099511627776) (hk0 : 0 ≤ k0) (hk1 : k0 ≤ 1099511627776) (xs : List Value) (base : Nat) (w : World) (h : w.ownsRow base 22 1 (.slice A n c) n xs) :
    Calls Tryz.prog 13 #[.slice A n c, .int .i64 k0] w fun e w' => e = .returned (.int .i64 (k0 + n)) ∧ w'.ownsRow base 22 1 (.slice A n c) n (marksF k0 n) ∧ w.grownBy w' (Value.slice A n c).ownBlock := by
  have hlen := h.1
  go_enter Tryz.func13, Tryz.ntmps13
  go_wp2
  go_loopw [1, 5] (fun q i wr => ∃ (k : Nat) (ys : List Value), k ≤ n ∧ i = .int .i64 k ∧ q = .int .i64 (k0 + k) ∧ Upto k ys (marksF k0 n) ∧ wr.ownsRow base 22 1 (.slice A n c) n ys ∧ w.grownBy wr (Value.slice A n c).ownBlock) (fun _ i _ => n - (intOf i).toNat)
  case atStart => exact ⟨0, xs, Nat.zero_le _, rfl, by simp, Upto.zero (by simpa using hlen), h, grown_refl _ _⟩
  case round =>
    obtain ⟨k, ys, hk, rfl, rfl, hu, ho, hg⟩ := hrel
    clear hlen
    by_cases hlt : k < n
    · obtain ⟨g, rfl, hb, hgs⟩ := own_at ho (by omega)
      have hf := own_frozen ho k
      have hl : k < ys.length := by have := hu.1; simp at this; omega
      have hcell : ∃ u, wr.cell? ⟨g, k, none⟩ = some u := ⟨_, own_cell ho (List.getElem?_eq_getElem hl)⟩
      obtain ⟨u0, hcell⟩ := hcell
      go_wp2
      go_roundw
      case rel => exact ⟨k + 1, _, by omega, by go_num, by go_num, hu.step (marksF_at k0 hlt), own_set ho _, grown_set (p := ⟨g, k, none⟩) hg (.inl rfl) _⟩
      case measure => simp [intOf]; omega
    · go_wp2
      go_ret
      obtain rfl : k = n := by omega
      have := Upto.all (ys := marksF k0 k) (by simpa using hu)
      subst this
      exact ⟨rfl, ho, hg⟩
end Go.Proofs.YtiddaabodkglmaaGreat
end
section
namespace Go.Proofs.YtiddaabodkglmaaGreat
open Go.RowKit Go.Fx
set_option linter.unusedVariables false
set_option linter.unusedSimpArgs false

/-! whole numbers -/
abbrev OI (w : World) (base : Nat) (v : Value) (rs : List Int) : Prop := w.ownsRow base 3 1 v rs.length (rs.map it)

abbrev marksI (k0 : Int) (n : Nat) : List Value := (List.range n).map fun (j : Nat) => it (k0 + j)
theorem marksI_at (k0 : Int) {n k : Nat} (h : k < n) : (marksI k0 n)[k]? = some (it (k0 + k)) := by simp [h]

/-! runs: a place and a length -/
abbrev rcells (rs : List (Int × Int)) : List Value := cells2 (fun r => it r.1) (fun r => it r.2) rs
theorem rr_at {w : World} {A : Option Addr} {cs : List (Int × Int)} (h : Rd w A (rcells cs)) {i : Nat} (hi : i < cs.length) :
    ∃ b off, A = some ⟨b, off, none⟩ ∧ b < w.heap.size ∧ w.cell? ⟨b, off + i * 2, none⟩ = some (.int .i64 cs[i].1) ∧ w.cell? ⟨b, off + i * 2 + 1, none⟩ = some (.int .i64 cs[i].2) := by
  rcases h with h | ⟨b, off, hA, hb, hc⟩
  · have h2 : (rcells cs).length = cs.length * 2 := cells2_len _ _ _
    rw [h] at h2; simp at h2; omega
  · obtain ⟨h1, h2⟩ := cells2_at (fun (r : Int × Int) => it r.1) (fun r => it r.2) cs hi
    exact ⟨b, off, hA, hb, hc _ _ h1, by have := hc _ _ h2; rwa [← Nat.add_assoc] at this⟩
abbrev marks2 (f g : Int → Value) (k0 : Int) (n : Nat) : List Value := cells2 (fun (j : Nat) => f (k0 + 2 * j)) (fun (j : Nat) => g (k0 + 2 * j + 1)) (List.range n)
theorem marks2_len (f g : Int → Value) (k0 : Int) (n : Nat) : (marks2 f g k0 n).length = n * 2 := by rw [cells2_len]; simp
theorem marks2_at (f g : Int → Value) (k0 : Int) {n k : Nat} (h : k < n) : (marks2 f g k0 n)[k * 2]? = some (f (k0 + 2 * k)) ∧ (marks2 f g k0 n)[k * 2 + 1]? = some (g (k0 + 2 * k + 1)) := by
  obtain ⟨h1, h2⟩ := cells2_at (fun (j : Nat) => f (k0 + 2 * j)) (fun (j : Nat) => g (k0 + 2 * j + 1)) (List.range n) (i := k) (by simpa using h)
  simp only [List.getElem_range] at h1 h2
  exact ⟨h1, h2⟩
theorem marks2_read {w : World} {A : Option Addr} {f g : Int → Value} {k0 : Int} {n k : Nat} (h : Rd w A (marks2 f g k0 n)) (hlt : k < n) : ∃ b off, A = some ⟨b, off, none⟩ ∧ b < w.heap.size ∧ w.cell? ⟨b, off + k * 2, none⟩ = some (f (k0 + 2 * k)) ∧ w.cell? ⟨b, off + k * 2 + 1, none⟩ = some (g (k0 + 2 * k + 1)) := by
  rcases h with h | ⟨b, off, hA, hb, hc⟩
  · have := congrArg List.length h; rw [marks2_len] at this; simp at this; omega
  · obtain ⟨h1, h2⟩ := marks2_at f g k0 hlt
    exact ⟨b, off, hA, hb, hc _ _ h1, by have := hc _ _ h2; rwa [← Nat.add_assoc] at this⟩

end Go.Proofs.YtiddaabodkglmaaGreat
end
section
namespace Go.Proofs.YtiddaabodkglmaaGreat
open Go.RowKit Go.Fx
set_option linter.unusedVariables false
set_option linter.unusedSimpArgs false

theorem neg_1024 : Op.negFloat .f32 1149239296 = 3296722944 := by decide
theorem sFine_any (A : Option Addr) (c : Nat) (rs : List Nat) (w : World) (h : Rd w A (rs.map fl)) (hn : rs.length ≤ maxLen) :
    Calls Tryz.prog 72 #[.slice A rs.length c] w fun e w' => e = .returned (.bool (fine rs)) ∧ w = w' := by
  unfold maxLen at hn
  go_enter Tryz.func72, Tryz.ntmps72
  go_wp2
  go_loop [3] (fun i => ∃ (k : Nat), k ≤ rs.length ∧ i = .int .i64 k ∧ Hid ((rs.take k).all (fun x => within32 x 1149239296) = true)) (fun i => rs.length - (intOf i).toNat)
  case atStart => exact ⟨0, Nat.zero_le _, rfl, Lib.hid (by simp)⟩
  case round =>
    obtain ⟨k, hk, rfl, H⟩ := hrel
    by_cases hlt : k < rs.length
    · obtain ⟨b, off, rfl, hbw, hc⟩ := rf_at h hlt
      by_cases hp : within32 rs[k] 1149239296 = true
      · have H' := Lib.hid (all_take_step (fun x => within32 x 1149239296) hlt H.out hp)
        simp only [within32, neg_1024, Bool.and_eq_true] at hp
        obtain ⟨h1, h2⟩ := hp
        go_wp2
        go_round
        case rel => exact ⟨k + 1, by omega, by go_num, H'⟩
        case measure => simp [intOf]; omega
      · have hp' : within32 rs[k] 1149239296 = false := by simpa using hp
        have H' := Lib.hid (all_not (fun x => within32 x 1149239296) hlt hp')
        simp only [within32, neg_1024] at hp'
        clear hp
        by_cases h1 : fge .f32 rs[k] 3296722944 = true
        · have h2 : fle .f32 rs[k] 1149239296 = false := by simpa [h1] using hp'
          clear hp'
          go_wp2
          go_ret
          exact ⟨by rw [fine, H'.out]; rfl, rfl⟩
        · have h2 : fge .f32 rs[k] 3296722944 = false := by simpa using h1
          clear hp' h1
          go_wp2
          go_ret
          exact ⟨by rw [fine, H'.out]; rfl, rfl⟩
    · go_wp2
      go_ret
      obtain rfl : k = rs.length := by omega
      have := H.out
      rw [List.take_length] at this
      exact ⟨by rw [fine, this]; rfl, rfl⟩
theorem bounded1_any (x : Nat) (w : World) : Calls Tryz.prog 100 #[.float .f32 x] w fun e w' => e = .returned (.bool (!within32 x 1149239296)) ∧ w = w' := by
  go_enter Tryz.func100, Tryz.ntmps100
  go_wp2_with (first | (go_at_call 51; refine (amount_any _ _).mono ?_; rintro e w1 ⟨⟨b, rfl, hb⟩, rfl⟩; replace hb := fun c => (fle_amt (c := c) hb)))
  all_goals go_ret
  refine ⟨?_, rfl⟩
  simp_all [amt_1024]
theorem indexF_any (A : Option Addr) (c : Nat) (rs : List Nat) (w : World) (h : Rd w A (rs.map fl)) (hn : rs.length ≤ maxLen) :
    Calls Tryz.prog 112 #[.slice A rs.length c, .func (.func 100) #[] #[]] w fun e w' => (∃ k : Int, e = .returned (.int .i64 k) ∧ decide (0 ≤ k) = !(fine rs)) ∧ w = w' := by
  unfold maxLen at hn
  go_enter Tryz.func112, Tryz.ntmps112
  go_wp2
  go_loop [8] (fun i => ∃ (k : Nat), k ≤ rs.length ∧ i = .int .i64 k ∧ Hid ((rs.take k).all (fun x => within32 x 1149239296) = true)) (fun i => rs.length - (intOf i).toNat)
  case atStart => exact ⟨0, Nat.zero_le _, rfl, Lib.hid (by simp)⟩
  case round =>
    obtain ⟨k, hk, rfl, H⟩ := hrel
    by_cases hlt : k < rs.length
    · obtain ⟨b, off, rfl, hbw, hc⟩ := rf_at h hlt
      by_cases hp : within32 rs[k] 1149239296 = true
      · have H' := Lib.hid (all_take_step (fun x => within32 x 1149239296) hlt H.out hp)
        go_wp2_with (first | (go_at_call 100; refine (bounded1_any _ _).mono ?_; rintro e w1 ⟨rfl, rfl⟩))
        go_round
        case rel => exact ⟨k + 1, by omega, by go_num, H'⟩
        case measure => simp [intOf]; omega
      · have hp' : within32 rs[k] 1149239296 = false := by simpa using hp
        have H' := Lib.hid (all_not (fun x => within32 x 1149239296) hlt hp')
        clear hp
        go_wp2_with (first | (go_at_call 100; refine (bounded1_any _ _).mono ?_; rintro e w1 ⟨rfl, rfl⟩))
        go_ret
        exact ⟨⟨_, rfl, by rw [fine, H'.out]; simp⟩, rfl⟩
    · go_wp2
      go_ret
      obtain rfl : k = rs.length := by omega
      have := H.out
      rw [List.take_length] at this
      exact ⟨⟨_, rfl, by rw [fine, this]; rfl⟩, rfl⟩
theorem bounded_any (A : Option Addr) (c : Nat) (rs : List Nat) (w : World) (h : Rd w A (rs.map fl)) (hn : rs.length ≤ maxLen) :
    Calls Tryz.prog 83 #[.slice A rs.length c] w fun e w' => e = .returned (.bool (fine rs)) ∧ w = w' := by
  have H := Lib.hid h
  have HN := Lib.hid hn
  clear h hn
  go_enter Tryz.func83, Tryz.ntmps83
  go_wp2_with fail
  go_enter Tryz.func99, Tryz.ntmps99
  go_wp2_with (first | (go_at_call 112; refine (indexF_any _ _ _ _ H.out HN.out).mono ?_; rintro e w1 ⟨⟨k, rfl, hk⟩, rfl⟩))
  go_ret
  refine ⟨?_, rfl⟩
  simp_all
end Go.Proofs.YtiddaabodkglmaaGreat
end
section
namespace Go.Proofs.YtiddaabodkglmaaGreat
open Go.RowKit Go.Fx
set_option linter.unusedVariables false
set_option linter.unusedSimpArgs false

@[go_sem] theorem eql_nil_f32 (w : World) (a : Option Addr) (n c : Nat) : (binOp .eql 26 (.slice a n c) (.slice none 0 0)).run Tryz.prog w = .ok (.bool a.isNone) w := Lib.run_eql_slice_nil w _ _ a n c 0 0 Tryz.underlying26

set_option maxRecDepth 100000 in
theorem cloneF_any (A : Option Addr) (c : Nat) (rs : List Nat) (w : World) (h : Rd w A (rs.map fl)) (hA : A = none → rs.length = 0) (hn : rs.length ≤ 1048576) :
    Calls Tryz.prog 53 #[.slice A rs.length c] w fun e w' => (∃ v, e = .returned v ∧ OF w' w.heap.size v rs) ∧ Ext w w' := by
  cases A with
  | none =>
    have h0 := List.eq_nil_of_length_eq_zero (hA rfl)
    subst h0
    go_enter Tryz.func53, Tryz.ntmps53
    go_wp2
    go_ret
    exact ⟨⟨_, rfl, World.ownsRow_nil _ _ _ _⟩, Ext.refl _⟩
  | some ad =>
    go_enter Tryz.func53, Tryz.ntmps53
    go_wp2_with (at_builtin; refine wpList_app rfl _ _ 26 rfl w.heap.size 22 _ 1 4 Tryz.underlying26 info_f32 rfl (by omega) (.slice (some ⟨w.heap.size, 0, none⟩) 0 0) 0 [] rfl (own_new w _ _ 1 (Nat.le_refl _)) (some ad) rs.length c (rs.map fl) rfl (h.ext (by (repeat (first | exact Below.refl _ _ | assumption | refine below_drewN ?_ _ | refine Below.drew ?_ | refine Below.alloc ?_ (by first | exact Nat.le_refl _ | (simp; done) | (simp; omega)) _ | refine Below.setCell ?_ (by first | exact Nat.le_refl _ | (simp; done) | (simp; omega)) _)))) (by simp) (fun h => by cases h) oneCell_fl (by unfold maxLen; omega) (by omega) (by simp) ?_; intro v1 w1 hown hg hat)
    go_ret
    refine ⟨⟨_, rfl, by simpa using hown⟩, ext_grow (E := 22) (size := 1) (base := w.heap.size) (by (repeat (first | exact Below.refl _ _ | assumption | refine below_drewN ?_ _ | refine Below.drew ?_ | refine Below.alloc ?_ (by first | exact Nat.le_refl _ | (simp; done) | (simp; omega)) _ | refine Below.setCell ?_ (by first | exact Nat.le_refl _ | (simp; done) | (simp; omega)) _))) (own_new w _ _ 1 (Nat.le_refl _)) (Nat.le_refl _) hg⟩

end Go.Proofs.YtiddaabodkglmaaGreat
end
section
namespace Go.Proofs.YtiddaabodkglmaaGreat
open Go.RowKit Go.Fx
set_option linter.unusedVariables false
set_option linter.unusedSimpArgs false

theorem iLineOk_any (A : Option Addr) (c : Nat) (rs : List Nat) (w : World) (h : Rd w A (rs.map fl)) (hn : rs.length ≤ maxLen) :
    Calls Tryz.prog 58 #[.slice A rs.length c] w fun e w' => e = .returned (.bool (lineOk rs)) ∧ w = w' := by
  have hn' := hn
  unfold maxLen at hn'
  have H := Lib.hid h
  clear h
  go_enter Tryz.func58, Tryz.ntmps58
  go_wp2_with (first | (go_at_call 83; refine (bounded_any _ _ _ _ H.out hn).mono ?_; rintro e w1 ⟨rfl, rfl⟩))
  all_goals go_ret
  all_goals refine ⟨?_, rfl⟩
  all_goals first | (simp_all [lineOk]; done) | (simp_all [lineOk]; omega)
theorem head_any (w : World) : Calls Tryz.prog 18 #[] w fun e w' => e = .returned (.int .i64 24) ∧ w = w' := by
  go_enter Tryz.func18, Tryz.ntmps18
  go_wp2
  go_ret
  exact ⟨rfl, rfl⟩
theorem sLineOk_any (A : Option Addr) (c : Nat) (rs : List Nat) (w : World) (h : Rd w A (rs.map fl)) (hn : rs.length ≤ maxLen) :
    Calls Tryz.prog 41 #[.slice A rs.length c] w fun e w' => e = .returned (.bool (lineOk rs)) ∧ w = w' := by
  have hn' := hn
  unfold maxLen at hn'
  have H := Lib.hid h
  clear h
  have d1 : (rs.length : Int) < 24 → ((rs.length : Int) - 24).tdiv 4 ≤ 0 := fun h => by
    have e : ((rs.length : Int) - 24) = -(24 - rs.length : Int) := by omega
    rw [e, Int.neg_tdiv, Int.tdiv_eq_ediv_of_nonneg (by omega)]; omega
  have d2 : 24 ≤ (rs.length : Int) → ((rs.length : Int) - 24).tdiv 4 = ((rs.length : Int) - 24) / 4 := fun h => Int.tdiv_eq_ediv_of_nonneg (by omega)
  have d3 : 24 ≤ (rs.length : Int) → ((rs.length : Int) - 24).tmod 4 = ((rs.length : Int) - 24) % 4 := fun h => Int.tmod_eq_emod_of_nonneg (by omega)
  have D1 := Lib.hid d1
  have D2 := Lib.hid d2
  have D3 := Lib.hid d3
  clear d1 d2 d3
  go_enter Tryz.func41, Tryz.ntmps41
  go_wp2_with (first | (go_at_call 18; refine (head_any _).mono ?_; rintro e w1 ⟨rfl, rfl⟩) | (go_at_call 37; refine (sIn_any _ _ _ _).mono ?_; rintro e w1 ⟨rfl, rfl⟩) | (go_at_call 72; refine (sFine_any _ _ _ _ H.out hn).mono ?_; rintro e w1 ⟨rfl, rfl⟩))
  all_goals go_ret
  all_goals refine ⟨?_, rfl⟩
  all_goals (have d1 := D1.out; have d2 := D2.out; have d3 := D3.out)
  all_goals clear hn D1 D2 D3
  all_goals by_cases h24 : (rs.length : Int) < 24
  all_goals first | (have := d1 h24; clear d1 d2 d3) | (have e2 := d2 (by omega); have e3 := d3 (by omega); clear d1 d2 d3; simp only [e2, e3] at *; clear e2 e3)
  all_goals first | (simp_all [lineOk]; done) | (simp_all [lineOk]; omega)

theorem lineOk_len {rs : List Nat} (h : lineOk rs = true) : 28 ≤ rs.length ∧ rs.length ≤ 280 ∧ rs.length % 4 = 0 ∧ fine rs = true := by
  simp [lineOk] at h; exact ⟨h.1.1.1, h.1.1.2, h.1.2, h.2⟩
set_option maxRecDepth 100000 in
theorem iPart_any (A : Option Addr) (c : Nat) (rs : List Nat) (i n : Nat) (w : World) (h : Rd w A (rs.map fl)) (hn : rs.length ≤ maxLen) (hc : rs.length ≤ c) (hn1 : 0 < n) (hcut : lineOk rs = true → i + n ≤ rs.length) :
    Calls Tryz.prog 98 #[.slice A rs.length c, .int .i64 i, .int .i64 (i + n : Nat)] w fun e w' => (∃ v, e = .returned v ∧ OF w' w.heap.size v (if lineOk rs = true then cutF rs i n else [])) ∧ Ext w w' := by
  have hn' := hn
  unfold maxLen at hn'
  have H := Lib.hid h
  clear h
  by_cases hok : lineOk rs = true
  · rw [if_pos hok]
    have hl := lineOk_len hok
    have hcut := hcut hok
    obtain ⟨l1, l2, l3, l4⟩ := hl
    obtain ⟨b, off, rfl, hb⟩ := rd_some H.out (by intro e; have := List.map_eq_nil_iff.1 e; subst this; simp at l1)
    go_enter Tryz.func98, Tryz.ntmps98
    go_wp2_with (first | (go_at_call 58; refine (iLineOk_any _ _ _ _ H.out hn).mono ?_; rintro e w1 ⟨rfl, rfl⟩))
    · have hcl := cloneF_any (some ⟨b, off + i, none⟩) (c - i) (cutF rs i n) w (rd_cut H.out i n) (fun h => by cases h) (by rw [cutF_len hcut]; omega)
      rw [cutF_len hcut] at hcl
      refine hcl.mono ?_
      rintro e w1 ⟨⟨v, rfl, ho⟩, hb⟩
      go_wp2
      go_ret
      exact ⟨⟨_, rfl, ho⟩, hb⟩
  · rw [if_neg hok]
    have hok' : lineOk rs = false := by simpa using hok
    go_enter Tryz.func98, Tryz.ntmps98
    go_wp2_with (first | (go_at_call 58; refine (iLineOk_any _ _ _ _ H.out hn).mono ?_; rintro e w1 ⟨rfl, rfl⟩))
    go_ret
    exact ⟨⟨_, rfl, World.ownsRow_nil _ _ _ _⟩, Ext.refl _⟩

set_option maxRecDepth 100000 in
theorem sPart_any (A : Option Addr) (c : Nat) (rs : List Nat) (i n : Nat) (w : World) (h : Rd w A (rs.map fl)) (hn : rs.length ≤ maxLen) (hc : rs.length ≤ c) (hn1 : 0 < n) (hcut : lineOk rs = true → i + n ≤ rs.length) :
    Calls Tryz.prog 93 #[.slice A rs.length c, .int .i64 i, .int .i64 (i + n : Nat)] w fun e w' => (∃ v, e = .returned v ∧ OF w' w.heap.size v (if lineOk rs = true then cutF rs i n else [])) ∧ Ext w w' := by
  have hn' := hn
  unfold maxLen at hn'
  have H := Lib.hid h
  clear h
  by_cases hok : lineOk rs = true
  · rw [if_pos hok]
    have hl := lineOk_len hok
    have hcut := hcut hok
    obtain ⟨l1, l2, l3, l4⟩ := hl
    obtain ⟨b, off, rfl, hb⟩ := rd_some H.out (by intro e; have := List.map_eq_nil_iff.1 e; subst this; simp at l1)
    have hci : ¬ c = i := by omega
    have hln := cutF_len hcut
    go_enter Tryz.func93, Tryz.ntmps93
    go_wp2_with (first | (go_at_call 41; refine (sLineOk_any _ _ _ _ H.out hn).mono ?_; rintro e w1 ⟨rfl, rfl⟩) | (at_builtin; (refine wpList_app rfl _ _ 26 rfl w.heap.size 22 _ 1 4 Tryz.underlying26 info_f32 rfl (by omega) (.slice (some ⟨w.heap.size, 0, none⟩) 0 0) 0 [] rfl (own_new w _ _ 1 (Nat.le_refl _)) (some ⟨b, off + i, none⟩) (i + n - i) (c - i) ((cutF rs i n).map fl) rfl ((rd_cut H.out i n).ext (by (repeat (first | exact Below.refl _ _ | assumption | refine below_drewN ?_ _ | refine Below.drew ?_ | refine Below.alloc ?_ (by first | exact Nat.le_refl _ | (simp; done) | (simp; omega)) _ | refine Below.setCell ?_ (by first | exact Nat.le_refl _ | (simp; done) | (simp; omega)) _)))) (by rw [List.length_map, hln]; omega) (fun h => by cases h) oneCell_fl (by unfold maxLen; omega) (by omega) (by simp) ?_); intro v1 w1 hown hg hat))
    go_ret
    refine ⟨⟨_, rfl, ?_⟩, ext_grow (E := 22) (size := 1) (base := w.heap.size) (by (repeat (first | exact Below.refl _ _ | assumption | refine below_drewN ?_ _ | refine Below.drew ?_ | refine Below.alloc ?_ (by first | exact Nat.le_refl _ | (simp; done) | (simp; omega)) _ | refine Below.setCell ?_ (by first | exact Nat.le_refl _ | (simp; done) | (simp; omega)) _))) (own_new w _ _ 1 (Nat.le_refl _)) (Nat.le_refl _) hg⟩
    unfold OF
    rw [hln]
    simpa [Nat.add_sub_cancel_left] using hown
  · rw [if_neg hok]
    have hok' : lineOk rs = false := by simpa using hok
    go_enter Tryz.func93, Tryz.ntmps93
    go_wp2_with (first | (go_at_call 41; refine (sLineOk_any _ _ _ _ H.out hn).mono ?_; rintro e w1 ⟨rfl, rfl⟩))
    go_ret
    exact ⟨⟨_, rfl, own_new w _ _ 1 (Nat.le_refl _)⟩, by (repeat (first | exact Below.refl _ _ | assumption | refine below_drewN ?_ _ | refine Below.drew ?_ | refine Below.alloc ?_ (by first | exact Nat.le_refl _ | (simp; done) | (simp; omega)) _ | refine Below.setCell ?_ (by first | exact Nat.le_refl _ | (simp; done) | (simp; omega)) _))⟩

/-- pulse, burst and cells of a line -/
abbrev pulseOf (rs : List Nat) : List Nat := if lineOk rs = true then cutF rs 0 8 else []
abbrev burstOf (rs : List Nat) : List Nat := if lineOk rs = true then cutF rs 8 16 else []
abbrev cellsOf (rs : List Nat) : List Nat := if lineOk rs = true then cutF rs 24 (rs.length - 24) else []
theorem iPulseOf_any (A : Option Addr) (c : Nat) (rs : List Nat) (w : World) (h : Rd w A (rs.map fl)) (hn : rs.length ≤ maxLen) (hc : rs.length ≤ c) :
    Calls Tryz.prog 81 #[.slice A rs.length c] w fun e w' => (∃ v, e = .returned v ∧ OF w' w.heap.size v (pulseOf rs)) ∧ Ext w w' := by
  go_enter Tryz.func81, Tryz.ntmps81
  go_wp2_with (first | (go_at_call 18; refine (head_any _).mono ?_; rintro e w1 ⟨rfl, rfl⟩) | (go_at_call 98; refine (iPart_any A c rs 0 8 _ h hn hc (by omega) (fun e => by have := lineOk_len e; omega)).mono ?_; rintro e w1 ⟨⟨v, rfl, ho⟩, hb⟩))
  go_ret
  exact ⟨⟨_, rfl, ho⟩, hb⟩
theorem sPulseOf_any (A : Option Addr) (c : Nat) (rs : List Nat) (w : World) (h : Rd w A (rs.map fl)) (hn : rs.length ≤ maxLen) (hc : rs.length ≤ c) :
    Calls Tryz.prog 70 #[.slice A rs.length c] w fun e w' => (∃ v, e = .returned v ∧ OF w' w.heap.size v (pulseOf rs)) ∧ Ext w w' := by
  go_enter Tryz.func70, Tryz.ntmps70
  go_wp2_with (first | (go_at_call 18; refine (head_any _).mono ?_; rintro e w1 ⟨rfl, rfl⟩) | (go_at_call 93; refine (sPart_any A c rs 0 8 _ h hn hc (by omega) (fun e => by have := lineOk_len e; omega)).mono ?_; rintro e w1 ⟨⟨v, rfl, ho⟩, hb⟩))
  go_ret
  exact ⟨⟨_, rfl, ho⟩, hb⟩
theorem iBurstOf_any (A : Option Addr) (c : Nat) (rs : List Nat) (w : World) (h : Rd w A (rs.map fl)) (hn : rs.length ≤ maxLen) (hc : rs.length ≤ c) :
    Calls Tryz.prog 82 #[.slice A rs.length c] w fun e w' => (∃ v, e = .returned v ∧ OF w' w.heap.size v (burstOf rs)) ∧ Ext w w' := by
  go_enter Tryz.func82, Tryz.ntmps82
  go_wp2_with (first | (go_at_call 18; refine (head_any _).mono ?_; rintro e w1 ⟨rfl, rfl⟩) | (go_at_call 98; refine (iPart_any A c rs 8 16 _ h hn hc (by omega) (fun e => by have := lineOk_len e; omega)).mono ?_; rintro e w1 ⟨⟨v, rfl, ho⟩, hb⟩))
  go_ret
  exact ⟨⟨_, rfl, ho⟩, hb⟩
theorem sBurstOf_any (A : Option Addr) (c : Nat) (rs : List Nat) (w : World) (h : Rd w A (rs.map fl)) (hn : rs.length ≤ maxLen) (hc : rs.length ≤ c) :
    Calls Tryz.prog 71 #[.slice A rs.length c] w fun e w' => (∃ v, e = .returned v ∧ OF w' w.heap.size v (burstOf rs)) ∧ Ext w w' := by
  go_enter Tryz.func71, Tryz.ntmps71
  go_wp2_with (first | (go_at_call 18; refine (head_any _).mono ?_; rintro e w1 ⟨rfl, rfl⟩) | (go_at_call 93; refine (sPart_any A c rs 8 16 _ h hn hc (by omega) (fun e => by have := lineOk_len e; omega)).mono ?_; rintro e w1 ⟨⟨v, rfl, ho⟩, hb⟩))
  go_ret
  exact ⟨⟨_, rfl, ho⟩, hb⟩
end Go.Proofs.YtiddaabodkglmaaGreat
end
section
namespace Go.Proofs.YtiddaabodkglmaaGreat
open Go.RowKit Go.Fx
set_option linter.unusedVariables false
set_option linter.unusedSimpArgs false

set_option maxRecDepth 100000 in
theorem sSum_any (A : Option Addr) (c : Nat) (rs : List Nat) (w : World) (h : Rd w A (rs.map fl)) (hn : rs.length ≤ maxLen) (h1 : 0 < rs.length) :
    Calls Tryz.prog 69 #[.slice A rs.length c] w fun e w' => (∃ b, e = .returned (.float .f32 b) ∧ cn .f32 b = sumAll rs) ∧ ∃ n, w' = w.drewN n := by
  unfold maxLen at hn
  obtain ⟨b, off, rfl, hbw, hc0⟩ := rf_at h h1
  rw [Nat.add_zero] at hc0
  go_enter Tryz.func69, Tryz.ntmps69
  go_wp2
  go_loopw [3, 4] (fun s i wr => ∃ (k x : Nat), k < rs.length ∧ i = .int .i64 (k + 1) ∧ s = .float .f32 x ∧ Hid (cn .f32 x = sumN rs k) ∧ ∃ n, wr = w.drewN n) (fun _ i _ => rs.length + 1 - (intOf i).toNat)
  case atStart => exact ⟨0, _, h1, rfl, rfl, Lib.hid (by simp [sumN, h1]), 0, rfl⟩
  case round =>
    obtain ⟨k, x, hk, rfl, rfl, H, n, rfl⟩ := hrel
    clear hc0
    by_cases hlt : k + 1 < rs.length
    · obtain ⟨b', off', hbo, hbw', hc⟩ := rf_at (h.drewN n) hlt
      cases hbo
      go_wp2_with (with_reducible first | (refine upon_add ?_; intro b n hb) | (refine upon_sub ?_; intro b n hb) | (refine upon_mul ?_; intro b n hb) | (refine upon_quo ?_; intro b n hb))
      go_roundw
      case rel => exact ⟨k + 1, b, hlt, by go_num, rfl, Lib.hid (by rw [hb, H.out]; simp [sumN, hlt]), _, rfl⟩
      case measure => simp [intOf]; omega
    · go_wp2
      go_ret
      refine ⟨⟨_, rfl, ?_⟩, n, rfl⟩
      rw [H.out]
      congr 1
      omega

set_option maxRecDepth 100000 in
theorem iSum_any (A : Option Addr) (c : Nat) (rs : List Nat) (w : World) (h : Rd w A (rs.map fl)) (hn : rs.length ≤ maxLen) (h2 : 2 ≤ rs.length) (hcap : rs.length ≤ c) :
    Calls Tryz.prog 80 #[.slice A rs.length c] w fun e w' => (∃ b, e = .returned (.float .f32 b) ∧ cn .f32 b = sumAll rs) ∧ ∃ n, w' = w.drewN n := by
  unfold maxLen at hn
  obtain ⟨b, off, rfl, hbw, hc0⟩ := rf_at h (show 0 < rs.length by omega)
  rw [Nat.add_zero] at hc0
  go_enter Tryz.func80, Tryz.ntmps80
  go_wp2
  go_loopw [3, 12] (fun s i wr => ∃ (k x : Nat), k < rs.length ∧ i = .int .i64 k ∧ s = .float .f32 x ∧ Hid (cn .f32 x = sumN rs k) ∧ ∃ n, wr = w.drewN n) (fun _ i _ => rs.length - (intOf i).toNat)
  case atStart => exact ⟨0, _, by omega, rfl, rfl, Lib.hid (by simp [sumN, show 0 < rs.length by omega]), 0, rfl⟩
  case round =>
    obtain ⟨k, x, hk, rfl, rfl, H, n, rfl⟩ := hrel
    clear hc0
    by_cases hlt : k + 1 < rs.length
    · obtain ⟨b', off', hbo, hbw', hc⟩ := rf_at (h.drewN n) hlt
      cases hbo
      rw [show off + (k + 1) = off + 1 + k by omega] at hc
      go_wp2_with (with_reducible first | (refine upon_add ?_; intro b n hb) | (refine upon_sub ?_; intro b n hb) | (refine upon_mul ?_; intro b n hb) | (refine upon_quo ?_; intro b n hb))
      all_goals trace_state
      go_roundw
      case rel => exact ⟨k + 1, b, hlt, by go_num, rfl, Lib.hid (by rw [hb, H.out]; simp [sumN, hlt]), _, rfl⟩
      case measure => simp [intOf]; omega
    · go_wp2
      go_ret
      refine ⟨⟨_, rfl, ?_⟩, n, rfl⟩
      rw [H.out]
      congr 1
      omega
end Go.Proofs.YtiddaabodkglmaaGreat
end
section
namespace Go.Proofs.YtiddaabodkglmaaGreat
open Go.RowKit Go.Fx
set_option linter.unusedVariables false
set_option linter.unusedSimpArgs false
theorem c8 : cn .f32 1090519040 = 1090519040 := by decide +kernel
theorem c16 : cn .f32 1098907648 = 1098907648 := by decide +kernel
/-- what 'Levels' hands back -/
def LevRes (rs : List Nat) (e : Ending) : Prop :=
  ∃ p b : Nat, e = .returned (.tuple #[.float .f32 p, .float .f32 b, .bool (levelsOk rs)]) ∧ (levelsOk rs = true → cn .f32 p = lvPulse rs ∧ cn .f32 b = lvBlack rs) ∧ (levelsOk rs = false → p = 0 ∧ b = 0)
set_option maxRecDepth 100000 in
theorem iLevels_any (A : Option Addr) (c : Nat) (rs : List Nat) (w : World) (h : Rd w A (rs.map fl)) (hn : rs.length ≤ maxLen) (hc : rs.length ≤ c) :
    Calls Tryz.prog 57 #[.slice A rs.length c] w fun e w' => LevRes rs e ∧ Ext w w' := by
  have hn' := hn
  unfold maxLen at hn'
  have H := Lib.hid h
  clear h
  by_cases hok : lineOk rs = true
  · have hl := lineOk_len hok
    obtain ⟨l1, l2, l3, l4⟩ := hl
    have hp : pulseOf rs = cutF rs 0 8 := if_pos hok
    have hbu : burstOf rs = cutF rs 8 16 := if_pos hok
    have q1 : (cutF rs 0 8).length = 8 := cutF_len (by omega)
    have q2 : (cutF rs 8 16).length = 16 := cutF_len (by omega)
    go_enter Tryz.func57, Tryz.ntmps57
    go_wp2_with (go_at_call 58; refine (iLineOk_any _ _ _ _ H.out hn).mono ?_; rintro e w1 ⟨rfl, rfl⟩)
    refine (iPulseOf_any _ _ _ _ H.out hn hc).mono ?_
    rintro e w1 ⟨⟨v1, rfl, o1⟩, hb1⟩
    rw [hp] at o1
    unfold OF at o1
    rw [q1] at o1
    obtain ⟨A1, c1, rfl, r1, -⟩ := own_slice o1
    go_wp2_with fail
    have hs1 := iSum_any A1 c1 (cutF rs 0 8) w1 r1 (by rw [q1]; unfold maxLen; omega) (by rw [q1]; omega) (by rw [q1]; exact own_cap o1)
    rw [q1] at hs1
    refine hs1.mono ?_
    rintro e w2 ⟨⟨b1, rfl, hv1⟩, n1, rfl⟩
    go_wp2_with (with_reducible refine upon_quo ?_; intro q1' m1 hq1')
    have hb2 := Ext.trans hb1 (Ext.drewN w1 (n1 + m1))
    refine (iBurstOf_any _ _ _ _ (H.out.ext hb2) hn hc).mono ?_
    rintro e w2 ⟨⟨v2, rfl, o2⟩, hb3⟩
    rw [hbu] at o2
    unfold OF at o2
    rw [q2] at o2
    obtain ⟨A2, c2, rfl, r2, -⟩ := own_slice o2
    go_wp2_with fail
    have hs2 := iSum_any A2 c2 (cutF rs 8 16) w2 r2 (by rw [q2]; unfold maxLen; omega) (by rw [q2]; omega) (by rw [q2]; exact own_cap o2)
    rw [q2] at hs2
    refine hs2.mono ?_
    rintro e w3 ⟨⟨b2, rfl, hv2⟩, n2, rfl⟩
    have e1 : cn .f32 q1' = lvPulse rs := by rw [hq1', hv1, c8]; rfl
    have HB : Hid (Ext w (w2.drewN n2)) := Lib.hid ((hb2.trans hb3).trans (Ext.drewN w2 n2))
    have HE1 := Lib.hid e1
    clear hq1' e1 hv1 hs1 hs2 hb1 hb2 hb3 o1 o2 r1 r2
    have hgt : ∀ q2' : Nat, cn .f32 q2' = fop BinOp.quo FloatKind.f32 (cn FloatKind.f32 b2) (cn FloatKind.f32 1098907648) → fgt .f32 q2' q1' = levelsOk rs ∧ Hid (cn .f32 q2' = lvBlack rs) := fun q2' hq => by
      have e2 : cn .f32 q2' = lvBlack rs := by rw [hq, hv2, c16]; rfl
      refine ⟨?_, Lib.hid e2⟩
      unfold levelsOk
      rw [hok, Bool.true_and, ← fgt_cn_l, ← fgt_cn_r, e2, HE1.out]
    go_wp2_with (with_reducible refine upon_quo ?_; intro b n hb; obtain ⟨hgt1, HE2⟩ := hgt b hb; clear hb hgt; cases hlv : levelsOk rs <;> (have HL := Lib.hid hlv; rw [hlv] at hgt1; clear hlv))
    all_goals go_ret3
    · exact ⟨⟨0, 0, by rw [HL.out]; rfl, fun h => (by rw [HL.out] at h; cases h), fun _ => ⟨rfl, rfl⟩⟩, by have := HB.out.trans (Ext.drewN _ n); simpa using this⟩
    · exact ⟨⟨q1', b, by rw [HL.out]; rfl, fun _ => ⟨HE1.out, HE2.out⟩, fun h => (by rw [HL.out] at h; cases h)⟩, by have := HB.out.trans (Ext.drewN _ n); simpa using this⟩
  · have hok' : lineOk rs = false := by simpa using hok
    have hlv : levelsOk rs = false := by unfold levelsOk; rw [hok']; rfl
    have HL := Lib.hid hlv
    clear hlv
    go_enter Tryz.func57, Tryz.ntmps57
    go_wp2_with (go_at_call 58; refine (iLineOk_any _ _ _ _ H.out hn).mono ?_; rintro e w1 ⟨rfl, rfl⟩)
    go_ret3
    exact ⟨⟨0, 0, by rw [HL.out]; rfl, fun h => (by rw [HL.out] at h; cases h), fun _ => ⟨rfl, rfl⟩⟩, Ext.refl _⟩
set_option maxRecDepth 100000 in
theorem sLevels_any (A : Option Addr) (c : Nat) (rs : List Nat) (w : World) (h : Rd w A (rs.map fl)) (hn : rs.length ≤ maxLen) (hc : rs.length ≤ c) :
    Calls Tryz.prog 40 #[.slice A rs.length c] w fun e w' => LevRes rs e ∧ Ext w w' := by
  have hn' := hn
  unfold maxLen at hn'
  have H := Lib.hid h
  clear h
  by_cases hok : lineOk rs = true
  · have hl := lineOk_len hok
    obtain ⟨l1, l2, l3, l4⟩ := hl
    have hp : pulseOf rs = cutF rs 0 8 := if_pos hok
    have hbu : burstOf rs = cutF rs 8 16 := if_pos hok
    have q1 : (cutF rs 0 8).length = 8 := cutF_len (by omega)
    have q2 : (cutF rs 8 16).length = 16 := cutF_len (by omega)
    go_enter Tryz.func40, Tryz.ntmps40
    go_wp2_with (go_at_call 41; refine (sLineOk_any _ _ _ _ H.out hn).mono ?_; rintro e w1 ⟨rfl, rfl⟩)
    refine (sPulseOf_any _ _ _ _ H.out hn hc).mono ?_
    rintro e w1 ⟨⟨v1, rfl, o1⟩, hb1⟩
    rw [hp] at o1
    unfold OF at o1
    rw [q1] at o1
    obtain ⟨A1, c1, rfl, r1, -⟩ := own_slice o1
    go_wp2_with fail
    have hs1 := sSum_any A1 c1 (cutF rs 0 8) w1 r1 (by rw [q1]; unfold maxLen; omega) (by rw [q1]; omega)
    rw [q1] at hs1
    refine hs1.mono ?_
    rintro e w2 ⟨⟨b1, rfl, hv1⟩, n1, rfl⟩
    go_wp2_with (with_reducible refine upon_quo ?_; intro q1' m1 hq1')
    have hb2 := Ext.trans hb1 (Ext.drewN w1 (n1 + m1))
    refine (sBurstOf_any _ _ _ _ (H.out.ext hb2) hn hc).mono ?_
    rintro e w2 ⟨⟨v2, rfl, o2⟩, hb3⟩
    rw [hbu] at o2
    unfold OF at o2
    rw [q2] at o2
    obtain ⟨A2, c2, rfl, r2, -⟩ := own_slice o2
    go_wp2_with fail
    have hs2 := sSum_any A2 c2 (cutF rs 8 16) w2 r2 (by rw [q2]; unfold maxLen; omega) (by rw [q2]; omega)
    rw [q2] at hs2
    refine hs2.mono ?_
    rintro e w3 ⟨⟨b2, rfl, hv2⟩, n2, rfl⟩
    have e1 : cn .f32 q1' = lvPulse rs := by rw [hq1', hv1, c8]; rfl
    have HB : Hid (Ext w (w2.drewN n2)) := Lib.hid ((hb2.trans hb3).trans (Ext.drewN w2 n2))
    have HE1 := Lib.hid e1
    clear hq1' e1 hv1 hs1 hs2 hb1 hb2 hb3 o1 o2 r1 r2
    have hgt : ∀ q2' : Nat, cn .f32 q2' = fop BinOp.quo FloatKind.f32 (cn FloatKind.f32 b2) (cn FloatKind.f32 1098907648) → fle .f32 q2' q1' = (!levelsOk rs) ∧ Hid (cn .f32 q2' = lvBlack rs) := fun q2' hq => by
      have e2 : cn .f32 q2' = lvBlack rs := by rw [hq, hv2, c16]; rfl
      refine ⟨?_, Lib.hid e2⟩
      unfold levelsOk
      rw [hok, Bool.true_and, ← fle_cn_l, ← fle_cn_r, e2, HE1.out]
      exact le_of_not_gt (lv_not hok).2 (lv_not hok).1
    go_wp2_with (with_reducible refine upon_quo ?_; intro b n hb; obtain ⟨hgt1, HE2⟩ := hgt b hb; clear hb hgt; cases hlv : levelsOk rs <;> (have HL := Lib.hid hlv; rw [hlv] at hgt1; clear hlv))
    all_goals go_ret3
    · exact ⟨⟨0, 0, by rw [HL.out]; rfl, fun h => (by rw [HL.out] at h; cases h), fun _ => ⟨rfl, rfl⟩⟩, by have := HB.out.trans (Ext.drewN _ n); simpa using this⟩
    · exact ⟨⟨q1', b, by rw [HL.out]; rfl, fun _ => ⟨HE1.out, HE2.out⟩, fun h => (by rw [HL.out] at h; cases h)⟩, by have := HB.out.trans (Ext.drewN _ n); simpa using this⟩
  · have hok' : lineOk rs = false := by simpa using hok
    have hlv : levelsOk rs = false := by unfold levelsOk; rw [hok']; rfl
    have HL := Lib.hid hlv
    clear hlv
    go_enter Tryz.func40, Tryz.ntmps40
    go_wp2_with (go_at_call 41; refine (sLineOk_any _ _ _ _ H.out hn).mono ?_; rintro e w1 ⟨rfl, rfl⟩)
    go_ret3
    exact ⟨⟨0, 0, by rw [HL.out]; rfl, fun h => (by rw [HL.out] at h; cases h), fun _ => ⟨rfl, rfl⟩⟩, Ext.refl _⟩
end Go.Proofs.YtiddaabodkglmaaGreat
end

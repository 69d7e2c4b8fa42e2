import Derived.Test.YtfmghfghhipmhaaDoorK1
import Derived.Test.YtfmghfghhipmhaaDoorProg
section
namespace Go.Proofs.YtfmghfghhipmhaaDoor
open Go.RowKit Go.Fx
set_option linter.unusedVariables false
set_option linter.unusedSimpArgs false

theorem amt_pos {x : Nat} (h : flt .f32 x 0 = true) : cn .f32 (Op.negFloat .f32 x) = amt x := by
  unfold amt; rw [h]; rfl
theorem amt_neg {x : Nat} (h : flt .f32 x 0 = false) : cn .f32 x = amt x := by unfold amt; rw [h]; rfl
theorem neg_256 : Op.negFloat .f32 1132462080 = 3279945728 := by decide
theorem amount_any (x : Nat) (w : World) : Calls Tryd.prog 54 #[.float .f32 x] w fun e w' => (∃ b, e = .returned (.float .f32 b) ∧ cn .f32 b = amt x) ∧ w = w' := by
  go_enter Tryd.func54, Tryd.ntmps54
  go_wp2
  all_goals go_ret
  · exact ⟨⟨_, rfl, amt_pos (by assumption)⟩, rfl⟩
  · exact ⟨⟨_, rfl, amt_neg (by assumption)⟩, rfl⟩

/-- of a number of which only the bits behind 'amount' are known -/
theorem fle_amt {b x c : Nat} (h : cn .f32 b = amt x) : fle .f32 b c = fle .f32 (amt x) c := by rw [← h, fle_cn_l]
theorem within_any (n a b : Int) (w : World) : Calls Tryd.prog 53 #[.int .i64 n, .int .i64 a, .int .i64 b] w fun e w' => e = .returned (.bool (decide (a ≤ n) && decide (n ≤ b))) ∧ w = w' := by
  go_enter Tryd.func53, Tryd.ntmps53
  go_wp2
  all_goals go_ret
  all_goals refine ⟨?_, rfl⟩
  all_goals (simp_all <;> omega)
theorem sIn_any (n a b : Int) (w : World) : Calls Tryd.prog 64 #[.int .i64 n, .int .i64 a, .int .i64 b] w fun e w' => e = .returned (.bool (decide (a ≤ n) && decide (n ≤ b))) ∧ w = w' := by
  go_enter Tryd.func64, Tryd.ntmps64
  go_wp2
  all_goals go_ret
  all_goals refine ⟨?_, rfl⟩
  all_goals (simp_all <;> omega)
theorem l05In_any (x c : Nat) (w : World) : Calls Tryd.prog 65 #[.float .f32 x, .float .f32 c] w fun e w' => e = .returned (.bool (within32 x c)) ∧ w = w' := by
  go_enter Tryd.func65, Tryd.ntmps65
  go_wp2
  all_goals go_ret
  all_goals refine ⟨?_, rfl⟩
  all_goals simp_all [within32]
end Go.Proofs.YtfmghfghhipmhaaDoor
end
section
namespace Go.Proofs.YtfmghfghhipmhaaDoor
open Go.RowKit Go.Fx
set_option linter.unusedVariables false
set_option linter.unusedSimpArgs false

theorem iSetOk_any (cells rows : Int) (slice least sat : Nat) (A : Option Addr) (n c : Nat) (hn : n ≤ 9223372036854775807) (w : World) :
    Calls Tryd.prog 18 #[.agg #[.int .i64 cells, .int .i64 rows, .float .f32 slice, .float .f32 least, .float .f32 sat, .slice A n c]] w fun e w' => e = .returned (.bool (setOk cells rows slice least sat n)) ∧ Below w.heap.size w w' := by
  go_enter Tryd.func18, Tryd.ntmps18
  go_wp2_with (first | (go_at_call 54; refine (amount_any _ _).mono ?_; rintro e w1 ⟨⟨b, rfl, hb⟩, rfl⟩; replace hb := fun c => (fle_amt (c := c) hb)) | (go_at_call 53; refine (within_any _ _ _ _).mono ?_; rintro e w1 ⟨rfl, rfl⟩))
  all_goals go_ret
  all_goals refine ⟨?_, by (repeat (first | exact Below.refl _ _ | assumption | refine below_drewN ?_ _ | refine Below.drew ?_ | refine Below.alloc ?_ (by first | exact Nat.le_refl _ | (simp; done) | (simp; omega)) _ | refine Below.setCell ?_ (by first | exact Nat.le_refl _ | (simp; done) | (simp; omega)) _))⟩
  all_goals first | (simp_all [setOk, amt_1024]; done) | (simp_all [setOk, amt_1024]; omega)
theorem sSetOk_any (cells rows : Int) (slice least sat : Nat) (A : Option Addr) (n c : Nat) (hn : n ≤ 9223372036854775807) (w : World) :
    Calls Tryd.prog 38 #[.agg #[.int .i64 cells, .int .i64 rows, .float .f32 slice, .float .f32 least, .float .f32 sat, .slice A n c]] w fun e w' => e = .returned (.bool (setOk cells rows slice least sat n)) ∧ Below w.heap.size w w' := by
  go_enter Tryd.func38, Tryd.ntmps38
  go_wp2_with (first | (go_at_call 65; refine (l05In_any _ _ _).mono ?_; rintro e w1 ⟨rfl, rfl⟩) | (go_at_call 64; refine (sIn_any _ _ _ _).mono ?_; rintro e w1 ⟨rfl, rfl⟩))
  all_goals go_ret
  all_goals refine ⟨?_, by (repeat (first | exact Below.refl _ _ | assumption | refine below_drewN ?_ _ | refine Below.drew ?_ | refine Below.alloc ?_ (by first | exact Nat.le_refl _ | (simp; done) | (simp; omega)) _ | refine Below.setCell ?_ (by first | exact Nat.le_refl _ | (simp; done) | (simp; omega)) _))⟩
  all_goals first | (simp_all [setOk]; done) | (simp_all [setOk]; omega)
end Go.Proofs.YtfmghfghhipmhaaDoor
end
section
namespace Go.Proofs.YtfmghfghhipmhaaDoor
open Go.RowKit Go.Fx Ieee
set_option linter.unusedVariables false
set_option linter.unusedSimpArgs false

theorem feq_self {k : FloatKind} {a : Nat} (h : isN k a = false) : feq k a a = true := by
  cases ha : fk k a with
  | none => rw [fk_none.1 ha] at h; cases h
  | some x => rw [feq_fk ha ha]; simp
theorem feq_nan {k : FloatKind} {a : Nat} (b : Nat) (h : isN k a = true) : feq k a b = false := (cmp_nan (.inl (fk_none.2 h))).1
theorem cn_same {k : FloatKind} {a b : Nat} (h : cn k a = cn k b) : (isN k a = true ∧ isN k b = true) ∨ (isN k a = false ∧ a = b) := by
  have h1 : isN k a = isN k b := by rw [← isN_cn k a, ← isN_cn k b, h]
  cases ha : isN k a with
  | true => left; exact ⟨rfl, by rw [← h1, ha]⟩
  | false => right; exact ⟨rfl, by rwa [cn_of_not ha, cn_of_not (by rw [← h1, ha])] at h⟩
theorem fgt_same {k : FloatKind} {a b : Nat} (c : Nat) (h : cn k a = cn k b) : fgt k a c = fgt k b c := by rw [← fgt_cn_l, h, fgt_cn_l]

theorem inv_gt {k : FloatKind} {p q X : Nat} {c : Nat} (hp : cn k p = X) (hq : cn k q = X) : (fgt k p c == fgt k q c) = true := by
  rw [fgt_same c (hp.trans hq.symm)]; simp
theorem inv_self {k : FloatKind} {a z : Nat} (h : isN k a = false) (ha : feq k a 0 = true) (hz : isN k (fop .quo k z (Op.negFloat k 0)) = false) (hz' : isN k (fop .quo k z 0) = false) : isN k (fop .quo k z a) = false := by
  cases hk : fk k a with
  | none => rw [fk_none.1 hk] at h; cases h
  | some x =>
    have h0 : fk k 0 = some 0 := by cases k <;> decide +kernel
    rw [feq_fk hk h0] at ha
    have hx : x = 0 := of_decide_eq_true ha
    subst hx
    -- the quotient by a number of which the datum is a zero is no NaN, as by 0 or -0
    unfold fk at hk
    have hd : ∃ s p, k.format.read a = .number s 0 p := by
      cases hr : k.format.read a with
      | nan s m => rw [hr] at hk; cases hk
      | infinity s =>
        rw [hr] at hk
        have ht := tp_ne (k.format.fractionBits + 1 + 2 ^ k.format.exponentBits)
        simp only [dk, big, Option.some.injEq] at hk
        rcases Int.mul_eq_zero.1 hk with h | h
        · cases s <;> simp [sg] at h
        · exact absurd h ht
      | number s m p =>
        rw [hr] at hk
        simp only [dk, Option.some.injEq] at hk
        have ht := tp_ne (p - k.format.leastPlace).toNat
        have hm : sg s * (m : Int) = 0 := by
          rcases Int.mul_eq_zero.1 hk with h | h
          · exact h
          · exact absurd h ht
        have : m = 0 := by cases s <;> simp [sg] at hm <;> omega
        subst this
        exact ⟨s, p, rfl⟩
    obtain ⟨s, p, hr⟩ := hd
    have h0r : ∃ q, k.format.read 0 = .number false 0 q := ⟨k.format.leastPlace, by cases k <;> decide +kernel⟩
    obtain ⟨q, h0r⟩ := h0r
    unfold fop floatBits Format.div at hz' ⊢
    simp only [h0r] at hz'
    simp only [hr]
    cases hzr : k.format.read z with
    | nan t m => rw [hzr] at hz'; simp [Datum.quotient, isN_qn] at hz'
    | infinity t => simp only [Datum.quotient, Option.map_some, Option.getD_some]; unfold isN; exact read_write_not _ rfl
    | number t m r =>
      rw [hzr] at hz'
      simp only [Datum.quotient, if_true] at hz' ⊢
      by_cases hm : m = 0
      · rw [if_pos hm] at hz'; simp [isN_qn] at hz'
      · rw [if_neg hm]; simp only [Option.map_some, Option.getD_some]; unfold isN; exact read_write_not _ rfl
theorem inv_eq {p q X : Nat} (hp : cn .f64 p = X) (hq : cn .f64 q = X) (hX : isN .f64 X = false) : feq .f64 p q = true := by
  rw [← feq_cn_l, ← feq_cn_r, hp, hq]
  exact feq_self hX
theorem one_quo {a : Nat} (h : isN .f64 a = false) (ha : feq .f64 a 0 = true) : isN .f64 (fop .quo .f64 (cn .f64 4607182418800017408) (cn .f64 a)) = false := by
  rw [fop_cn_l, fop_cn_r]
  exact inv_self h ha (by decide +kernel) (by decide +kernel)
theorem sameFloat_any (a b : Nat) (h : cn .f64 a = cn .f64 b) (w : World) : Calls Tryd.prog 47 #[.float .f64 a, .float .f64 b] w fun e w' => e = .returned (.bool true) ∧ ∃ n, w' = w.drewN n := by
  rcases cn_same h with ⟨ha, hb⟩ | ⟨ha, rfl⟩
  · have h1 := feq_nan a ha
    have h2 := feq_nan b hb
    clear h
    go_enter Tryd.func47, Tryd.ntmps47
    go_wp2
    all_goals go_ret
    exact ⟨rfl, 0, rfl⟩
  · have h1 := feq_self ha
    clear h
    go_enter Tryd.func47, Tryd.ntmps47
    go_wp2_with (with_reducible first | (refine upon_add ?_; intro b n hb) | (refine upon_sub ?_; intro b n hb) | (refine upon_mul ?_; intro b n hb) | (refine upon_quo ?_; intro b n hb))
    all_goals go_ret
    · refine ⟨?_, _, rfl⟩
      rw [inv_gt (by assumption) (by assumption)]; rfl
    all_goals exact ⟨rfl, 0, rfl⟩
theorem same64_any (a b : Nat) (h : cn .f64 a = cn .f64 b) (w : World) : Calls Tryd.prog 80 #[.float .f64 a, .float .f64 b] w fun e w' => e = .returned (.bool true) ∧ ∃ n, w' = w.drewN n := by
  rcases cn_same h with ⟨ha, hb⟩ | ⟨ha, rfl⟩
  · have h1 := feq_nan a ha
    have h2 := feq_nan b hb
    clear h
    go_enter Tryd.func80, Tryd.ntmps80
    go_wp2
    all_goals go_ret
    exact ⟨rfl, 0, rfl⟩
  · have h1 := feq_self ha
    clear h
    go_enter Tryd.func80, Tryd.ntmps80
    go_wp2_with (with_reducible first | (refine upon_add ?_; intro b n hb) | (refine upon_sub ?_; intro b n hb) | (refine upon_mul ?_; intro b n hb) | (refine upon_quo ?_; intro b n hb))
    all_goals go_ret
    · refine ⟨?_, _, rfl⟩
      rw [inv_eq (by assumption) (by assumption) (one_quo ha (by assumption))]; rfl
    all_goals exact ⟨rfl, 0, rfl⟩
theorem same32_any (a b : Nat) (h : cn .f32 a = cn .f32 b) (w : World) : Calls Tryd.prog 55 #[.float .f32 a, .float .f32 b] w fun e w' => e = .returned (.bool true) ∧ ∃ n, w' = w.drewN n := by
  have H := Lib.hid h
  clear h
  go_enter Tryd.func55, Tryd.ntmps55
  go_wp2_with (with_reducible refine upon_wide Tryd.underlying22 Tryd.underlying63 ?_; intro b n hb)
  refine (same64_any _ _ (by simp only [*, H.out]) _).mono ?_
  rintro e w1 ⟨rfl, n1, rfl⟩
  go_wp2_with fail
  go_ret
  exact ⟨rfl, _, rfl⟩
end Go.Proofs.YtfmghfghhipmhaaDoor
end
section
namespace Go.Proofs.YtfmghfghhipmhaaDoor
open Go.RowKit Go.Fx
set_option linter.unusedVariables false
set_option linter.unusedSimpArgs false

theorem info_f32 : (Tryd.prog.info? 22).map (fun i => (i.zero, i.size, i.bytes)) = some (some (.float .f32 0), 1, 4) := by kernel_rfl
theorem info_int : (Tryd.prog.info? 3).map (fun i => (i.zero, i.size, i.bytes)) = some (some (.int .i64 0), 1, 8) := by kernel_rfl

/-- a fresh row of singles -/
abbrev OF (w : World) (base : Nat) (v : Value) (rs : List Nat) : Prop := w.ownsRow base 22 1 v rs.length (rs.map fl)

/-- the widening, in whatever world -/
theorem widen_run (x : Nat) (W : World) : (convert 22 63 (.float .f32 x)).run Tryd.prog W = .ok (.float .f64 (cvbits W .f32 .f64 x)) (W.drewN (cvcnt .f32 .f64 x)) :=
  run_convert_ff W _ _ .f32 .f64 x (by rw [Tryd.underlying22]; rfl) Tryd.underlying63

theorem cns_at {rs ss : List Nat} (h : cns rs = cns ss) {k : Nat} (h1 : k < rs.length) (h2 : k < ss.length) : cn .f32 rs[k] = cn .f32 ss[k] := by
  have := congrArg (fun l => l[k]?) h
  simpa [h1, h2] using this
theorem notNaN_int (k : FloatKind) (n : Int) : isN k (floatOfInt k n) = false := by
  unfold isN floatOfInt FloatKind.nearest FloatKind.encode; exact read_write_not _ rfl
abbrev marksF (k0 : Int) (n : Nat) : List Value := (List.range n).map fun (j : Nat) => fl (floatOfInt .f32 (k0 + j))
theorem marksF_at (k0 : Int) {n k : Nat} (h : k < n) : (marksF k0 n)[k]? = some (fl (floatOfInt .f32 (k0 + k))) := by simp [h]

end Go.Proofs.YtfmghfghhipmhaaDoor
end
section
namespace Go.Proofs.YtfmghfghhipmhaaDoor
open Go.RowKit Go.Fx
set_option linter.unusedVariables false
set_option linter.unusedSimpArgs false

/-! whole numbers -/
abbrev OI (w : World) (base : Nat) (v : Value) (rs : List Int) : Prop := w.ownsRow base 3 1 v rs.length (rs.map it)

abbrev marksI (k0 : Int) (n : Nat) : List Value := (List.range n).map fun (j : Nat) => it (k0 + j)
theorem marksI_at (k0 : Int) {n k : Nat} (h : k < n) : (marksI k0 n)[k]? = some (it (k0 + k)) := by simp [h]

/-! runs: a place and a length -/
abbrev rcells (rs : List (Int × Int)) : List Value := cells2 (fun r => it r.1) (fun r => it r.2) rs
theorem rr_at {w : World} {A : Option Addr} {cs : List (Int × Int)} (h : Rd w A (rcells cs)) {i : Nat} (hi : i < cs.length) :
    ∃ b off, A = some ⟨b, off, none⟩ ∧ b < w.heap.size ∧ w.cell? ⟨b, off + i * 2, none⟩ = some (.int .i64 cs[i].1) ∧ w.cell? ⟨b, off + i * 2 + 1, none⟩ = some (.int .i64 cs[i].2) := by
  rcases h with h | ⟨b, off, hA, hb, hc⟩
  · have h2 : (rcells cs).length = cs.length * 2 := cells2_len _ _ _
    rw [h] at h2; simp at h2; omega
  · obtain ⟨h1, h2⟩ := cells2_at (fun (r : Int × Int) => it r.1) (fun r => it r.2) cs hi
    exact ⟨b, off, hA, hb, hc _ _ h1, by have := hc _ _ h2; rwa [← Nat.add_assoc] at this⟩
abbrev marks2 (f g : Int → Value) (k0 : Int) (n : Nat) : List Value := cells2 (fun (j : Nat) => f (k0 + 2 * j)) (fun (j : Nat) => g (k0 + 2 * j + 1)) (List.range n)
theorem marks2_len (f g : Int → Value) (k0 : Int) (n : Nat) : (marks2 f g k0 n).length = n * 2 := by rw [cells2_len]; simp
theorem marks2_at (f g : Int → Value) (k0 : Int) {n k : Nat} (h : k < n) : (marks2 f g k0 n)[k * 2]? = some (f (k0 + 2 * k)) ∧ (marks2 f g k0 n)[k * 2 + 1]? = some (g (k0 + 2 * k + 1)) := by
  obtain ⟨h1, h2⟩ := cells2_at (fun (j : Nat) => f (k0 + 2 * j)) (fun (j : Nat) => g (k0 + 2 * j + 1)) (List.range n) (i := k) (by simpa using h)
  simp only [List.getElem_range] at h1 h2
  exact ⟨h1, h2⟩
theorem marks2_read {w : World} {A : Option Addr} {f g : Int → Value} {k0 : Int} {n k : Nat} (h : Rd w A (marks2 f g k0 n)) (hlt : k < n) : ∃ b off, A = some ⟨b, off, none⟩ ∧ b < w.heap.size ∧ w.cell? ⟨b, off + k * 2, none⟩ = some (f (k0 + 2 * k)) ∧ w.cell? ⟨b, off + k * 2 + 1, none⟩ = some (g (k0 + 2 * k + 1)) := by
  rcases h with h | ⟨b, off, hA, hb, hc⟩
  · have := congrArg List.length h; rw [marks2_len] at this; simp at this; omega
  · obtain ⟨h1, h2⟩ := marks2_at f g k0 hlt
    exact ⟨b, off, hA, hb, hc _ _ h1, by have := hc _ _ h2; rwa [← Nat.add_assoc] at this⟩

end Go.Proofs.YtfmghfghhipmhaaDoor
end
section
namespace Go.Proofs.YtfmghfghhipmhaaDoor
open Go.RowKit Go.Fx
set_option linter.unusedVariables false
set_option linter.unusedSimpArgs false

theorem neg_1024 : Op.negFloat .f32 1149239296 = 3296722944 := by decide
end Go.Proofs.YtfmghfghhipmhaaDoor
end
section
namespace Go.Proofs.YtfmghfghhipmhaaDoor
open Go.RowKit Go.Fx
set_option linter.unusedVariables false
set_option linter.unusedSimpArgs false

end Go.Proofs.YtfmghfghhipmhaaDoor
end
section
namespace Go.Proofs.YtfmghfghhipmhaaDoor
open Go.RowKit Go.Fx
set_option linter.unusedVariables false
set_option linter.unusedSimpArgs false

theorem lineOk_len {rs : List Nat} (h : lineOk rs = true) : 28 ≤ rs.length ∧ rs.length ≤ 280 ∧ rs.length % 4 = 0 ∧ fine rs = true := by
  simp [lineOk] at h; exact ⟨h.1.1.1, h.1.1.2, h.1.2, h.2⟩
/-- pulse, burst and cells of a line -/
abbrev pulseOf (rs : List Nat) : List Nat := if lineOk rs = true then cutF rs 0 8 else []
abbrev burstOf (rs : List Nat) : List Nat := if lineOk rs = true then cutF rs 8 16 else []
abbrev cellsOf (rs : List Nat) : List Nat := if lineOk rs = true then cutF rs 24 (rs.length - 24) else []
end Go.Proofs.YtfmghfghhipmhaaDoor
end
section
namespace Go.Proofs.YtfmghfghhipmhaaDoor
open Go.RowKit Go.Fx
set_option linter.unusedVariables false
set_option linter.unusedSimpArgs false

end Go.Proofs.YtfmghfghhipmhaaDoor
end
section
namespace Go.Proofs.YtfmghfghhipmhaaDoor
open Go.RowKit Go.Fx
set_option linter.unusedVariables false
set_option linter.unusedSimpArgs false
theorem c8 : cn .f32 1090519040 = 1090519040 := by decide +kernel
theorem c16 : cn .f32 1098907648 = 1098907648 := by decide +kernel
/-- what 'Levels' hands back -/
def LevRes (rs : List Nat) (e : Ending) : Prop :=
  ∃ p b : Nat, e = .returned (.tuple #[.float .f32 p, .float .f32 b, .bool (levelsOk rs)]) ∧ (levelsOk rs = true → cn .f32 p = lvPulse rs ∧ cn .f32 b = lvBlack rs) ∧ (levelsOk rs = false → p = 0 ∧ b = 0)
end Go.Proofs.YtfmghfghhipmhaaDoor
end

import Derived.Test.YtiddaabodkglmaaEk
import Derived.Test.YtiddaabodkglmaaEf
import Derived.Test.YtiddaabodkglmaaFs
namespace Go.Fx
open Ieee
theorem feq_self32 {x : Nat} (h : isN .f32 x = false) : feq .f32 x x = true := by
  cases e : fk .f32 x
  · rw [fk_none.1 e] at h; cases h
  · rw [feq_fk e e]; simp
theorem feq_not {x y : Nat} (h : isN .f32 x = true) : feq .f32 x y = false := (cmp_nan (.inl (fk_none.2 h))).1
theorem fop_nan_l {op : BinOp} {x y : Nat} (h : isN .f32 x = true) : isN .f32 (fop op .f32 x y) = true := by
  have : floatBits op .f32 x y = none := by
    unfold isN at h
    unfold floatBits
    split <;> first | rfl | skip
    · simp only [Format.add]; rw [sum_nan_l h]; rfl
    · simp only [Format.sub]; rw [sum_nan_l h]; rfl
    · simp only [Format.mul]; rw [product_nan_l h]; rfl
    · simp only [Format.div]; rw [quotient_nan_l h]; rfl
  unfold fop; rw [this]; exact isN_qn .f32
theorem power_nan {a b : Nat} (h : isN .f32 a = true ∨ isN .f32 b = true) : isN .f32 (power a b) = true := by
  unfold power
  rcases h with h | h
  · exact fop_nan_l (fop_nan_l h)
  · show isN .f32 (fop .add .f32 _ _) = true
    rw [fop_add_comm]; exact fop_nan_l (fop_nan_l h)
theorem feq_zero {x : Nat} {s : Int} (h : fk .f32 x = some s) : feq .f32 x 0 = decide (s = 0) := feq_fk h fk_zero
/-- what is known of the power of a number -/
theorem power_is {a b : Nat} (ha : isN .f32 a = false) (hb : isN .f32 b = false) : isN .f32 (power a b) = false ∧ fge .f32 (power a b) 0 = true ∧ feq .f32 (power a b) 0 = (feq .f32 (mul32 a a) 0 && feq .f32 (mul32 b b) 0) ∧ power a (fneg .f32 b) = power a b ∧ power (fneg .f32 b) a = power a b := by
  obtain ⟨s, hs, s0⟩ := fk_square .f32 ha
  obtain ⟨t, ht, t0⟩ := fk_square .f32 hb
  obtain ⟨u, hu, u0, uz⟩ := fk_add_nonneg .f32 hs ht s0 t0
  have hp : fk .f32 (power a b) = some u := hu
  have e1 : power a (fneg .f32 b) = power a b := by unfold power; rw [show mul32 (fneg .f32 b) (fneg .f32 b) = mul32 b b from fop_mul_opps _ _ _]
  refine ⟨?_, ?_, ?_, e1, ?_⟩
  · cases e : isN .f32 (power a b)
    · rfl
    · rw [fk_none.2 e] at hp; cases hp
  · rw [fge_fk hp fk_zero]; simp [u0]
  · rw [feq_zero hp, feq_zero hs, feq_zero ht, ← Bool.decide_and]
    exact decide_eq_decide.2 uz
  · rw [← e1]; unfold power; exact fop_add_comm _ _ _
end Go.Fx
namespace Go.Proofs.Ytiddaabodkglmaa
open Go.RowKit Go.Fx
set_option linter.unusedVariables false
set_option linter.unusedSimpArgs false
theorem power_fix {a b : Nat} (h : isN .f32 (power (cn .f32 a) (cn .f32 b)) = false) (w : World) : Calls Try.prog 51 #[.complex .f32 a b] w fun e w' => e = .returned (.float .f32 (power (cn .f32 a) (cn .f32 b))) ∧ ∃ n, w' = w.drewN n := by
  refine (power_any a b w).mono ?_
  rintro e w' ⟨⟨r, rfl, hr⟩, hw⟩
  have : isN .f32 r = false := by rw [← isN_cn, hr]; exact h
  rw [cn_of_not this] at hr
  exact ⟨by rw [hr], hw⟩
set_option maxRecDepth 100000 in
theorem drawPower_any (A : Option Addr) (c : Nat) (bs : List Int) (w : World) (h : Rd w A (bs.map by8)) (hn : bs.length ≤ 1048576) (hb : ∀ x ∈ bs, 0 ≤ x ∧ x ≤ 255) :
    Calls Try.prog 50 #[.slice A bs.length c] w fun e w' => (∃ a b : Nat, e = .returned (.complex .f32 a b)) ∧ Ext w w' := by
  go_enter Try.func50, Try.ntmps50
  go_wp2_with fail
  refine (new_any A c bs _ h hn hb).mono ?_
  rintro e w1 ⟨⟨bk, rfl, hbk, hbz, hcu⟩, hb1⟩
  go_wp2_with fail
  refine (anyCh_any bk _ hcu).mono ?_
  rintro e w2 ⟨⟨ch, rfl⟩, hc2⟩
  have hfd : ∀ W, (Instr.field 32 (.agg #[.float .f32 ch.a, .float .f32 ch.off, .complex .f32 ch.re ch.im]) 2).run Try.prog W = .ok (.complex .f32 ch.re ch.im) W := fun W => rfl
  go_wp2_with fail
  go_ret
  exact ⟨⟨_, _, rfl⟩, ext_turn hb1 hc2.2 hbk⟩
set_option maxRecDepth 100000 in
set_option maxHeartbeats 4000000 in
theorem powers_walk (A0 : Option Addr) (c0 : Nat) (code : List Int) (w : World) (h0 : Rd w A0 (code.map by8)) (hm0 : code.length ≤ maxLen) (hb0 : ∀ x ∈ code, 0 ≤ x ∧ x ≤ 255) :
    Calls Try.prog 6 #[.slice A0 code.length c0] w fun e w' => e = .returned (.bool true) ∧ Ext w w' := by
  have hM0 := hm0
  unfold maxLen at hM0
  have H0 := Lib.hid h0
  have HB0 := Lib.hid hb0
  clear h0 hb0
  by_cases hbig : 1048576 < code.length
  · go_enter Try.func6, Try.ntmps6
    go_wp2_with (go_at_call 39; refine (big_any _ _ _ _ hM0).mono ?_; rintro e w1 ⟨rfl, rfl⟩)
    go_ret
    exact ⟨rfl, Ext.refl _⟩
  have hn0 : code.length ≤ 1048576 := by omega
  go_enter Try.func6, Try.ntmps6
  go_wp2_with (go_at_call 39; refine (big_any _ _ _ _ hM0).mono ?_; rintro e w1 ⟨rfl, rfl⟩)
  refine (drawPower_any A0 c0 code _ H0.out hn0 HB0.out).mono ?_
  rintro e w1 ⟨⟨a, b, rfl⟩, hb1⟩
  by_cases hN : isN .f32 a = true ∨ isN .f32 b = true
  · have hp : Calls Try.prog 51 #[.complex .f32 a b] w1 fun e w' => (∃ r, e = .returned (.float .f32 r) ∧ feq .f32 r r = false) ∧ Ext w1 w' := by
      refine (power_any a b w1).mono ?_
      rintro e w' ⟨⟨r, rfl, hr⟩, n, rfl⟩
      refine ⟨⟨r, rfl, feq_not ?_⟩, Ext.drewN _ _⟩
      rw [← isN_cn, hr]
      exact power_nan (by rw [isN_cn, isN_cn]; exact hN)
    have hne : (feq .f32 a a && feq .f32 b b) = false := by
      rcases hN with h | h
      · rw [feq_not h]; rfl
      · rw [feq_not h, Bool.and_false]
    clear hN
    go_wp2_with fail
    refine Calls.mono hp ?_
    rintro e w2 ⟨⟨r, rfl, hr⟩, hb2⟩
    clear hp
    go_wp2_with fail
    go_ret
    exact ⟨rfl, hb1.trans hb2⟩
  · have ha : isN .f32 a = false := by cases h : isN .f32 a <;> simp_all
    have hb : isN .f32 b = false := by cases h : isN .f32 b <;> simp_all
    have f1 := feq_self32 ha
    have f2 := feq_self32 hb
    have hna : isN .f32 (Op.negFloat .f32 b) = false := by rw [isN_neg]; exact hb
    have en : fneg .f32 b = Op.negFloat .f32 b := by unfold fneg; exact cn_of_not hna
    obtain ⟨p1, p2, p3, p4, p5⟩ := power_is ha hb
    rw [en] at p4 p5
    have c1 := power_fix (a := a) (b := b) (by rw [cn_of_not ha, cn_of_not hb]; exact p1)
    have c2 := power_fix (a := a) (b := Op.negFloat .f32 b) (by rw [cn_of_not ha, cn_of_not hna, p4]; exact p1)
    have c3 := power_fix (a := Op.negFloat .f32 b) (b := a) (by rw [cn_of_not ha, cn_of_not hna, p5]; exact p1)
    rw [cn_of_not ha, cn_of_not hb] at c1
    rw [cn_of_not ha, cn_of_not hna, p4] at c2
    rw [cn_of_not ha, cn_of_not hna, p5] at c3
    have HA : Hid (∀ m, cn .f32 m = fop .mul .f32 (cn .f32 a) (cn .f32 a) → feq .f32 m 0 = feq .f32 (mul32 a a) 0) := Lib.hid (fun m hm => by rw [← feq_cn_l, hm, cn_of_not ha])
    have HB : Hid (∀ m, cn .f32 m = fop .mul .f32 (cn .f32 b) (cn .f32 b) → feq .f32 m 0 = feq .f32 (mul32 b b) 0) := Lib.hid (fun m hm => by rw [← feq_cn_l, hm, cn_of_not hb])
    have f3 := feq_self32 p1
    have P2 := Lib.hid p2
    have P3 := Lib.hid p3
    clear hN p4 p5 en hna ha hb p1 p2 p3
    have C1 := Lib.hid c1
    have C2 := Lib.hid c2
    have C3 := Lib.hid c3
    clear c1 c2 c3
    generalize power a b = p at *
    generalize feq .f32 (mul32 a a) 0 = qa at *
    generalize feq .f32 (mul32 b b) 0 = qb at *
    have p2 := P2.out
    have p3 := P3.out
    go_wp2_with fail
    refine (C1.out _).mono ?_
    rintro e w2 ⟨rfl, n2, rfl⟩
    go_wp2_with fail
    refine (C2.out _).mono ?_
    rintro e w3 ⟨rfl, n3, rfl⟩
    go_wp2_with fail
    refine (C3.out _).mono ?_
    rintro e w4 ⟨rfl, n4, rfl⟩
    cases qa
    · go_wp2_with (with_reducible refine upon_mul ?_; intro m n hm; replace hm := HA.out m hm)
      go_ret
      exact ⟨rfl, hb1.trans (by (repeat (first | exact Below.refl _ _ | assumption | refine below_drewN ?_ _ | refine Below.drew ?_ | refine Below.alloc ?_ (by first | exact Nat.le_refl _ | (simp; done) | (simp; omega)) _ | refine Below.setCell ?_ (by first | exact Nat.le_refl _ | (simp; done) | (simp; omega)) _)))⟩
    · cases qb
      · go_wp2_with (first | (with_reducible refine upon_mul (x := a) (y := a) ?_; intro m n hm; replace hm := HA.out m hm) | (with_reducible refine upon_mul (x := b) (y := b) ?_; intro m n hm; replace hm := HB.out m hm))
        go_ret
        exact ⟨rfl, hb1.trans (by (repeat (first | exact Below.refl _ _ | assumption | refine below_drewN ?_ _ | refine Below.drew ?_ | refine Below.alloc ?_ (by first | exact Nat.le_refl _ | (simp; done) | (simp; omega)) _ | refine Below.setCell ?_ (by first | exact Nat.le_refl _ | (simp; done) | (simp; omega)) _)))⟩
      · go_wp2_with (first | (with_reducible refine upon_mul (x := a) (y := a) ?_; intro m n hm; replace hm := HA.out m hm) | (with_reducible refine upon_mul (x := b) (y := b) ?_; intro m n hm; replace hm := HB.out m hm))
        go_ret
        exact ⟨rfl, hb1.trans (by (repeat (first | exact Below.refl _ _ | assumption | refine below_drewN ?_ _ | refine Below.drew ?_ | refine Below.alloc ?_ (by first | exact Nat.le_refl _ | (simp; done) | (simp; omega)) _ | refine Below.setCell ?_ (by first | exact Nat.le_refl _ | (simp; done) | (simp; omega)) _)))⟩
end Go.Proofs.Ytiddaabodkglmaa

import Derived.Test.YtiddaabodkglmaaFt
import Derived.Test.YtiddaabodkglmaaMd
namespace Go.Fx
open Ieee
set_option exponentiation.threshold 400
set_option linter.unusedVariables false
set_option linter.unusedSimpArgs false

/-! amounts: bounds that may be met -/

theorem Val.lt {k : FloatKind} {x : Nat} {a : Int} (h : Val k x a) : (a.natAbs : Int) < big k.format := by
  obtain ⟨s, m, p, hr, -, rfl⟩ := h
  have := number_lt k.format hr
  rw [Int.mul_assoc, sg_natAbs]
  have hp : 0 ≤ (m : Int) * tp (p - k.format.leastPlace).toNat := Int.mul_nonneg (by omega) (Int.le_of_lt (tp_pos _))
  omega
theorem val_of_lt {k : FloatKind} {x : Nat} {a : Int} (h : fk k x = some a) (hl : (a.natAbs : Int) < big k.format) : Val k x a := by
  have hp : ∀ s m p, k.format.read x = .number s m p → k.format.leastPlace ≤ p := fun s m p h => read_place _ h
  unfold fk at h
  unfold Val
  generalize k.format.read x = d at *
  cases d
  · rename_i s m p
    exact ⟨s, m, p, rfl, hp _ _ _ rfl, Option.some.inj h⟩
  · rename_i s
    have hb : 0 < big k.format := tp_pos _
    obtain rfl := Option.some.inj h
    rw [sg_natAbs] at hl
    omega
  · cases h
theorem val_fk {k : FloatKind} {x y : Nat} {a : Int} (h : Val k x a) (hy : fk k y = some a) : Val k y a := val_of_lt hy h.lt
theorem fk_zero32 : fk .f32 0 = some 0 := fk_zero
theorem val_zero : Val .f32 0 0 := val_of_lt fk_zero (by decide)
theorem rungOf_cap (f : Format) (n E : Nat) (hn : n ≤ 2 ^ E) (hE : f.fractionBits ≤ E) : rungOf f n f.leastPlace ≤ (E - f.fractionBits + 1) * f.binade := by
  have hb : 0 < f.binade := Nat.two_pow_pos _
  unfold rungOf
  by_cases h0 : n = 0
  · rw [if_pos h0]; omega
  · rw [if_neg h0]
    simp only []
    refine Nat.le_trans (Nat.min_le_left ..) ?_
    have hle := pow_log2_le h0
    have hlE : n.log2 ≤ E := (Nat.pow_le_pow_iff_right (by omega)).1 (Nat.le_trans hle hn)
    generalize hlast : max (f.leastPlace + (n.log2 : Int) - f.fractionBits) f.leastPlace = last
    have e0 : (f.leastPlace - last).toNat = 0 := by omega
    have e1 : (last - f.leastPlace).toNat = n.log2 - f.fractionBits := by omega
    rw [e0, e1, Nat.shiftLeft_zero]
    by_cases hEE : n.log2 = E
    · have hn2 : n = 2 ^ E := Nat.le_antisymm hn (by rw [← hEE]; exact hle)
      have hc : Toward.even.cut false n (n.log2 - f.fractionBits) = n / 2 ^ (n.log2 - f.fractionBits) := cut_exact _ _ _ _ (by omega) (by rw [hEE, hn2]; exact Nat.pow_dvd_pow 2 (by omega))
      rw [hc, hEE, hn2, Nat.pow_div (by omega) (by omega)]
      have : E - (E - f.fractionBits) = f.fractionBits := by omega
      rw [this, Nat.add_mul]; unfold Format.binade; omega
    · have hkept : Toward.even.cut false n (n.log2 - f.fractionBits) ≤ 2 ^ (f.fractionBits + 1) := by
        refine Nat.le_trans (cut_le _ _ _ _) ?_
        have hlt := lt_pow_log2 n
        have hq : n / 2 ^ (min (n.log2 - f.fractionBits) (n.log2 + 2)) < 2 ^ (f.fractionBits + 1) := by
          rw [Nat.div_lt_iff_lt_mul (Nat.two_pow_pos _), ← Nat.pow_add]
          refine Nat.lt_of_lt_of_le hlt (Nat.pow_le_pow_right (by omega) ?_)
          omega
        omega
      by_cases hlow : n.log2 < f.fractionBits
      · have e2 : n.log2 - f.fractionBits = 0 := by omega
        have hc : Toward.even.cut false n 0 = n := by rw [cut_exact _ _ _ 0 (by omega) (by simp)]; simp
        rw [e2, hc]
        have : n < 2 ^ f.fractionBits := Nat.lt_of_lt_of_le (lt_pow_log2 n) (Nat.pow_le_pow_right (by omega) (by omega))
        have h3 : f.binade ≤ (E - f.fractionBits + 1) * f.binade := Nat.le_mul_of_pos_left _ (by omega)
        unfold Format.binade at *
        omega
      · have e4 : E - f.fractionBits + 1 = (n.log2 - f.fractionBits) + 2 + (E - 1 - n.log2) := by omega
        rw [e4, Nat.add_mul, Nat.add_mul]
        have : 2 ^ (f.fractionBits + 1) = 2 * f.binade := by rw [Nat.pow_succ]; unfold Format.binade; omega
        omega
/-- a word below the rung of 2^E is a number of at most 2^E -/
theorem word_cap (k : FloatKind) (s : Bool) {rung E : Nat} (hr : rung ≤ (E - k.format.fractionBits + 1) * k.format.binade) (hE : k.format.fractionBits ≤ E) (hE1 : E + 2 < k.format.fractionBits + 2 ^ k.format.exponentBits) :
    ∃ a, Val k (k.format.word s rung) a ∧ a.natAbs ≤ 2 ^ E := by
  have hb : 0 < k.format.binade := Nat.two_pow_pos _
  have hir := k.format.infRung_lt
  have hlt : rung < k.format.infRung := by
    refine Nat.lt_of_le_of_lt hr ?_
    unfold Format.infRung
    exact Nat.mul_lt_mul_of_pos_right (by omega) hb
  have hsg : ∀ x : Nat, (sg s * (x : Int)).natAbs = x := fun x => by rw [sg_natAbs]; simp
  by_cases h1 : rung < k.format.binade
  · refine ⟨sg s * (rung : Int), ⟨s, rung, k.format.leastPlace, by rw [read_word _ _ (by omega), if_pos h1], Int.le_refl _, by simp [tp]⟩, ?_⟩
    rw [hsg]
    have : k.format.binade ≤ 2 ^ E := Nat.pow_le_pow_right (by omega) hE
    omega
  · generalize hq : rung / k.format.binade = q
    have hq1 : 1 ≤ q := by rw [← hq]; exact (Nat.one_le_div_iff hb).2 (by omega)
    have hmod := Nat.mod_lt rung hb
    have hdm := Nat.div_add_mod rung k.format.binade
    rw [hq] at hdm
    have e : (k.format.leastPlace + ((q - 1 : Nat) : Int) - k.format.leastPlace).toNat = q - 1 := by omega
    refine ⟨sg s * (((k.format.binade + rung % k.format.binade) * 2 ^ (q - 1) : Nat) : Int), ⟨s, k.format.binade + rung % k.format.binade, k.format.leastPlace + (q - 1 : Nat), by rw [read_word _ _ (by omega), if_neg h1, if_pos hlt, hq], by omega, ?_⟩, ?_⟩
    · rw [e, Int.natCast_mul, Int.mul_assoc]
    · rw [hsg]
      have hqE : q ≤ E - k.format.fractionBits + 1 := by
        rw [← hq]; exact Nat.div_le_of_le_mul (by rw [Nat.mul_comm]; exact hr)
      by_cases hqe : q = E - k.format.fractionBits + 1
      · have hm0 : rung % k.format.binade = 0 := by
          rw [← hqe, Nat.mul_comm] at hr; omega
        rw [hm0, Nat.add_zero, hqe]
        show 2 ^ k.format.fractionBits * 2 ^ (E - k.format.fractionBits + 1 - 1) ≤ 2 ^ E
        rw [← Nat.pow_add]
        exact Nat.pow_le_pow_right (by omega) (by omega)
      · have h3 : k.format.binade + rung % k.format.binade ≤ 2 ^ (k.format.fractionBits + 1) := by rw [Nat.pow_succ]; unfold Format.binade at *; omega
        refine Nat.le_trans (Nat.mul_le_mul_right _ h3) ?_
        rw [← Nat.pow_add]
        exact Nat.pow_le_pow_right (by omega) (by omega)
theorem RB_le (k : FloatKind) {v : Int} {E : Nat} (hv : v.natAbs ≤ 2 ^ E) (hE : k.format.fractionBits ≤ E) (hE1 : E + 2 < k.format.fractionBits + 2 ^ k.format.exponentBits) : ∃ a, RB k k.format.leastPlace v = some a ∧ a.natAbs ≤ 2 ^ E := by
  obtain ⟨a, h1, h2⟩ := word_cap k (decide (v < 0)) (rungOf_cap k.format v.natAbs E hv hE) hE hE1
  exact ⟨a, h1.fk, h2⟩
/-- a number of at most 2^E least places -/
def Ble (k : FloatKind) (E : Nat) (x : Nat) : Prop := ∃ a, Val k x a ∧ a.natAbs ≤ 2 ^ E
theorem Ble.mono {k : FloatKind} {E F x : Nat} (h : Ble k E x) (hF : E ≤ F) : Ble k F x := by
  obtain ⟨a, h1, h2⟩ := h
  exact ⟨a, h1, Nat.le_trans h2 (Nat.pow_le_pow_right (by omega) hF)⟩
theorem ble_of_bd {k : FloatKind} {N x : Nat} (h : Bd k N x) (hN : N ≤ k.format.fractionBits + 1 + 2 ^ k.format.exponentBits) : Ble k N x := by
  obtain ⟨a, h1, h2⟩ := h
  exact ⟨a, val_of_bd ⟨a, h1, h2⟩ hN h1, Nat.le_of_lt h2⟩
theorem Ble.bd {k : FloatKind} {E x : Nat} (h : Ble k E x) : Bd k (E + 1) x := by
  obtain ⟨a, h1, h2⟩ := h
  exact ⟨a, h1.fk, by have := Nat.two_pow_pos E; rw [Nat.pow_succ]; omega⟩
theorem ble_cn {k : FloatKind} {E x : Nat} : Ble k E (cn k x) ↔ Ble k E x := by
  unfold Ble
  constructor
  · rintro ⟨a, h, hl⟩; exact ⟨a, val_cn.1 h, hl⟩
  · rintro ⟨a, h, hl⟩; exact ⟨a, val_cn.2 h, hl⟩
theorem Ble.not {k : FloatKind} {E x : Nat} (h : Ble k E x) : isN k x = false := by obtain ⟨a, h1, -⟩ := h; exact h1.not
theorem big_le (k : FloatKind) {E : Nat} (hE1 : E + 2 < k.format.fractionBits + 2 ^ k.format.exponentBits) {a : Int} (h : a.natAbs ≤ 2 ^ E) : (a.natAbs : Int) < big k.format := by
  have h1 : 2 ^ E < 2 ^ (k.format.fractionBits + 1 + 2 ^ k.format.exponentBits) := Nat.pow_lt_pow_right (by omega) (by omega)
  unfold big
  show (a.natAbs : Int) < ((2 ^ (k.format.fractionBits + 1 + 2 ^ k.format.exponentBits) : Nat) : Int)
  omega
theorem val_RB {k : FloatKind} {x : Nat} {v : Int} {E : Nat} (h : fk k x = RB k k.format.leastPlace v) (hv : v.natAbs ≤ 2 ^ E) (hE : k.format.fractionBits ≤ E) (hE1 : E + 2 < k.format.fractionBits + 2 ^ k.format.exponentBits) : Ble k E x := by
  obtain ⟨a, h1, h2⟩ := RB_le k hv hE hE1
  rw [h1] at h
  exact ⟨a, val_of_lt h (big_le k hE1 h2), h2⟩
theorem ble_fneg {k : FloatKind} {E x : Nat} (h : Ble k E x) : Ble k E (fneg k x) := by
  obtain ⟨a, h1, h2⟩ := h
  exact ⟨-a, val_fneg h1, by rw [Int.natAbs_neg]; exact h2⟩
theorem ble_add {k : FloatKind} {E x y : Nat} (hx : Ble k E x) (hy : Ble k E y) (hE : k.format.fractionBits ≤ E + 1) (hE1 : E + 3 < k.format.fractionBits + 2 ^ k.format.exponentBits) : Ble k (E + 1) (fop .add k x y) := by
  obtain ⟨a, ha, ha2⟩ := hx
  obtain ⟨b, hb, hb2⟩ := hy
  refine val_RB (fk_add_val ha hb) ?_ hE (by omega)
  rw [Nat.pow_succ]; omega
theorem ble_sub {k : FloatKind} {E x y : Nat} (hx : Ble k E x) (hy : Ble k E y) (hE : k.format.fractionBits ≤ E + 1) (hE1 : E + 3 < k.format.fractionBits + 2 ^ k.format.exponentBits) : Ble k (E + 1) (fop .sub k x y) := by
  rw [fop_sub_eq]; exact ble_add hx (ble_fneg hy) hE hE1
theorem ble_mul {k : FloatKind} {N M L x y : Nat} (hx : Ble k N x) (hy : Ble k M y) (hN : N + 1 ≤ k.format.fractionBits + 1 + 2 ^ k.format.exponentBits) (hM : M + 1 ≤ k.format.fractionBits + 1 + 2 ^ k.format.exponentBits)
    (hL : ((N + 1 : Nat) : Int) + ((M + 1 : Nat) : Int) + k.format.leastPlace ≤ L) (hL0 : k.format.fractionBits < L) (hL1 : L + 4 < k.format.fractionBits + 2 ^ k.format.exponentBits) : Ble k (L + 2) (fop .mul k x y) :=
  ble_of_bd (bd_mul hx.bd hy.bd hN hM hL hL0 hL1) (by omega)
/-! the difference of two products, turned round -/
theorem opp_mul {k : FloatKind} {x x' y : Nat} {a b : Int} (hx : Val k x a) (hx' : Val k x' (-a)) (hy : Val k y b) : fk k (fop .mul k x' y) = (fk k (fop .mul k x y)).map (- ·) := by
  rw [fk_mul_val hx' hy, fk_mul_val hx hy, Int.neg_mul, RB_neg]
theorem opp_sub {k : FloatKind} {x x' y y' : Nat} {a b : Int} (hx : Val k x a) (hx' : Val k x' (-a)) (hy : Val k y b) (hy' : Val k y' (-b)) : fk k (fop .sub k x' y') = (fk k (fop .sub k x y)).map (- ·) := by
  rw [fk_sub_val hx' hy', fk_sub_val hx hy, ← RB_neg]; congr 1; omega
theorem opp_add {k : FloatKind} {x x' y y' : Nat} {a b : Int} (hx : Val k x a) (hx' : Val k x' (-a)) (hy : Val k y b) (hy' : Val k y' (-b)) : fk k (fop .add k x' y') = (fk k (fop .add k x y)).map (- ·) := by
  rw [fk_add_val hx' hy', fk_add_val hx hy, ← RB_neg]; congr 1; omega
theorem val_opp {k : FloatKind} {x x' : Nat} {a : Int} (h : Val k x a) (h' : fk k x' = (fk k x).map (- ·)) : Val k x' (-a) := by
  rw [h.fk] at h'
  exact val_of_lt h' (by rw [Int.natAbs_neg]; exact h.lt)
/-! what lies within 256, 1024 -/
theorem ble_within {x c : Nat} {C : Int} {N : Nat} (hc : fk .f32 c = some C) (h : within32 x c = true) (hC : C.natAbs < 2 ^ N) (h0 : 0 ≤ C) (hN : N ≤ 280) : Ble .f32 N x :=
  ble_of_bd (bd_within hc h hC h0) hN
theorem fk_c256 : fk .f32 1132462080 = some (256 * tp 149) := by decide +kernel
theorem fk_c1024 : fk .f32 1149239296 = some (1024 * tp 149) := by decide +kernel
theorem ble_256 {x : Nat} (h : within32 x 1132462080 = true) : Ble .f32 158 x := ble_within fk_c256 h (by decide +kernel) (by decide +kernel) (by omega)
theorem within_1024 {x : Nat} (h : within32 x 1132462080 = true) : within32 x 1149239296 = true := by
  obtain ⟨a, ha, -⟩ := ble_256 h
  unfold within32 at *
  rw [Bool.and_eq_true] at *
  have n1 : fk .f32 (Op.negFloat .f32 1132462080) = some (-(256 * tp 149)) := by rw [fk_neg, fk_c256]; rfl
  have n2 : fk .f32 (Op.negFloat .f32 1149239296) = some (-(1024 * tp 149)) := by rw [fk_neg, fk_c1024]; rfl
  rw [fge_fk ha.fk n1, fle_fk ha.fk fk_c256] at h
  rw [fge_fk ha.fk n2, fle_fk ha.fk fk_c1024]
  have ht := tp_pos 149
  have h1 := of_decide_eq_true h.1
  have h2 := of_decide_eq_true h.2
  exact ⟨decide_eq_true (by omega), decide_eq_true (by omega)⟩
theorem cell_ble {c : Cel} (h : cellOk c = true) : Ble .f32 158 c.y ∧ Ble .f32 158 c.re ∧ Ble .f32 158 c.im := by
  unfold cellOk at h
  rw [Bool.and_eq_true, Bool.and_eq_true] at h
  exact ⟨ble_256 h.1.1, ble_256 h.1.2, ble_256 h.2⟩
theorem row_cell {row : List Cel} (h : rowOk row = true) : ∀ c ∈ row, cellOk c = true := by
  unfold rowOk at h
  rw [Bool.and_eq_true] at h
  exact fun c hc => List.all_eq_true.1 h.2 c hc
/-! swings -/
theorem read_two : FloatKind.f32.format.read 1073741824 = .number false (2 ^ 23) (-22) := by decide +kernel
theorem read_four : FloatKind.f32.format.read 1082130432 = .number false (2 ^ 23) (-21) := by decide +kernel
theorem read_m32 : FloatKind.f32.format.read 3254779904 = .number true (2 ^ 23) (-18) := by decide +kernel
theorem bc_ble {rs : List Nat} (h : bcOk rs = true) : Ble .f32 168 (bcRe rs) ∧ Ble .f32 168 (bcIm rs) := by
  unfold bcOk at h
  have hl : lineOk rs = true := (Bool.and_eq_true _ _ ▸ h).1
  have hd : decodeOk false (brst rs) = true := (Bool.and_eq_true _ _ ▸ h).2
  have hro : rowOk (bcRow rs) = true := by
    unfold decodeOk at hd
    exact (Bool.and_eq_true _ _ ▸ hd).2
  have hlen := bcRow_len hl
  have hc := row_cell hro
  have f1 : fine ((bcRow rs).map Cel.re) = true := by
    unfold fine
    rw [List.all_map, List.all_eq_true]
    intro c hm
    have := hc c hm
    unfold cellOk at this
    rw [Bool.and_eq_true, Bool.and_eq_true] at this
    exact within_1024 this.1.2
  have f2 : fine ((bcRow rs).map Cel.im) = true := by
    unfold fine
    rw [List.all_map, List.all_eq_true]
    intro c hm
    have := hc c hm
    unfold cellOk at this
    rw [Bool.and_eq_true, Bool.and_eq_true] at this
    exact within_1024 this.2
  have b1 := sumN_bd f1 3 (by rw [List.length_map, hlen]; omega) (by omega)
  have b2 := sumN_bd f2 3 (by rw [List.length_map, hlen]; omega) (by omega)
  have hb : bcOk rs = true := by unfold bcOk; exact h
  unfold bcRe bcIm
  rw [if_pos hb, if_pos hb]
  exact ⟨ble_of_bd (bd_quo b1 (by decide) (by decide) read_four (by decide)) (by decide), ble_of_bd (bd_quo b2 (by decide) (by decide) read_four (by decide)) (by decide)⟩
theorem swingX_opp {a b : List Nat} (ha : bcOk a = true) (hb : bcOk b = true) : ∃ v, fk .f32 (swingX a b) = some v ∧ fk .f32 (swingX b a) = some (-v) := by
  obtain ⟨ar, ai⟩ := bc_ble ha
  obtain ⟨br, bi⟩ := bc_ble hb
  have e1 : add32 (bcRe b) (bcRe a) = add32 (bcRe a) (bcRe b) := fop_add_comm _ _ _
  have e2 : add32 (bcIm b) (bcIm a) = add32 (bcIm a) (bcIm b) := fop_add_comm _ _ _
  unfold swingX
  rw [e1, e2]
  have di := ble_sub ai bi (by decide) (by decide)
  have dr := ble_sub ar br (by decide) (by decide)
  have si := ble_add ai bi (by decide) (by decide)
  have sr := ble_add ar br (by decide) (by decide)
  have p1 := ble_mul (L := 191) di sr (by decide) (by decide) (by decide) (by decide) (by decide)
  have p2 := ble_mul (L := 191) dr si (by decide) (by decide) (by decide) (by decide) (by decide)
  have px := ble_sub p1 p2 (by decide) (by decide)
  obtain ⟨x1, v1, -⟩ := di
  obtain ⟨x2, v2, -⟩ := dr
  obtain ⟨x3, v3, -⟩ := si
  obtain ⟨x4, v4, -⟩ := sr
  obtain ⟨x5, v5, -⟩ := p1
  obtain ⟨x6, v6, -⟩ := p2
  obtain ⟨x7, v7, -⟩ := px
  have w1 := val_opp v1 (fk_sub_turn .f32 (bcIm a) (bcIm b))
  have w2 := val_opp v2 (fk_sub_turn .f32 (bcRe a) (bcRe b))
  have w5 := val_opp v5 (opp_mul v1 w1 v4)
  have w6 := val_opp v6 (opp_mul v2 w2 v3)
  exact ⟨x7, v7.fk, (val_opp v7 (opp_sub v5 w5 v6 w6)).fk⟩
theorem swing_turn (a b : List Nat) : swing a b = - swing b a := by
  unfold swing
  rw [Bool.and_comm (bcOk b)]
  by_cases h : (bcOk a && bcOk b) = true
  · rw [if_pos h, if_pos h]
    rw [Bool.and_eq_true] at h
    obtain ⟨v, h1, h2⟩ := swingX_opp h.1 h.2
    rw [flt_fk h1 fk_zero, flt_fk h2 fk_zero, fgt_fk h1 fk_zero, fgt_fk h2 fk_zero]
    rcases Int.lt_trichotomy v 0 with hv | hv | hv
    · have e1 : decide (v < 0) = true := decide_eq_true hv
      have e2 : decide (-v < 0) = false := decide_eq_false (by omega)
      have e3 : decide (0 < -v) = true := decide_eq_true (by omega)
      rw [e1, e2, e3]; rfl
    · subst hv; rfl
    · have e1 : decide (v < 0) = false := decide_eq_false (by omega)
      have e2 : decide (-v < 0) = true := decide_eq_true (by omega)
      have e3 : decide (0 < v) = true := decide_eq_true hv
      rw [e1, e2, e3]; rfl
  · rw [if_neg h, if_neg h]; rfl
theorem hg_turn (a b : List Nat) : hgOk a b = hgOk b a ∧ hgRe a b = hgRe b a ∧ hgIm a b = hgIm b a ∧ isN .f32 (hgRe a b) = false ∧ isN .f32 (hgIm a b) = false ∧ (hgOk a b = false → hgRe a b = 0 ∧ hgIm a b = 0) := by
  have e0 : hgOk a b = hgOk b a := Bool.and_comm _ _
  have e1 : add32 (bcRe a) (bcRe b) = add32 (bcRe b) (bcRe a) := fop_add_comm _ _ _
  have e2 : add32 (bcIm a) (bcIm b) = add32 (bcIm b) (bcIm a) := fop_add_comm _ _ _
  refine ⟨e0, ?_, ?_, ?_, ?_, ?_⟩
  · unfold hgRe; rw [e0, e1]
  · unfold hgIm; rw [e0, e2]
  · unfold hgRe
    by_cases h : hgOk a b = true
    · rw [if_pos h]
      unfold hgOk at h
      rw [Bool.and_eq_true] at h
      exact (ble_of_bd (bd_quo (ble_add (bc_ble h.1).1 (bc_ble h.2).1 (by decide) (by decide)).bd (by decide) (by decide) read_m32 (by decide)) (by decide)).not
    · rw [if_neg h]; decide
  · unfold hgIm
    by_cases h : hgOk a b = true
    · rw [if_pos h]
      unfold hgOk at h
      rw [Bool.and_eq_true] at h
      exact (ble_of_bd (bd_quo (ble_add (bc_ble h.1).2 (bc_ble h.2).2 (by decide) (by decide)).bd (by decide) (by decide) read_m32 (by decide)) (by decide)).not
    · rw [if_neg h]; decide
  · intro h
    unfold hgRe hgIm
    rw [h]; simp
/-! turns of the hue -/
def hueX (c d : Cel) : Nat := sub32 (mul32 c.re d.im) (mul32 c.im d.re)
def hueN (gs hs : List Cel) : Nat → Nat
  | 0 => 0
  | k + 1 => add32 (hueN gs hs k) (hueX (gs.getD k ⟨0, 0, 0⟩) (hs.getD k ⟨0, 0, 0⟩))
theorem zero_ble : cellOk ⟨0, 0, 0⟩ = true := by decide +kernel
theorem getD_ok {row : List Cel} (h : rowOk row = true) (k : Nat) : cellOk (row.getD k ⟨0, 0, 0⟩) = true := by
  rw [List.getD_eq_getElem?_getD]
  cases e : row[k]?
  · exact zero_ble
  · exact row_cell h _ (List.mem_of_getElem? e)
theorem hueX_ble {c d : Cel} (hc : cellOk c = true) (hd : cellOk d = true) : Ble .f32 172 (hueX c d) ∧ (fk .f32 (hueX d c) = (fk .f32 (hueX c d)).map (- ·)) := by
  obtain ⟨-, cr, ci⟩ := cell_ble hc
  obtain ⟨-, dr, di⟩ := cell_ble hd
  have p1 := ble_mul (L := 169) cr di (by decide) (by decide) (by decide) (by decide) (by decide)
  have p2 := ble_mul (L := 169) ci dr (by decide) (by decide) (by decide) (by decide) (by decide)
  refine ⟨ble_sub p1 p2 (by decide) (by decide), ?_⟩
  unfold hueX
  have e1 : mul32 d.re c.im = mul32 c.im d.re := fop_mulc _ _ _
  have e2 : mul32 d.im c.re = mul32 c.re d.im := fop_mulc _ _ _
  rw [e1, e2]
  exact fk_sub_turn _ _ _
theorem hueX_self {c : Cel} (hc : cellOk c = true) : Val .f32 (hueX c c) 0 := by
  obtain ⟨-, cr, ci⟩ := cell_ble hc
  obtain ⟨a, p1, -⟩ := ble_mul (L := 169) cr ci (by decide) (by decide) (by decide) (by decide) (by decide)
  have e1 : mul32 c.im c.re = mul32 c.re c.im := fop_mulc _ _ _
  unfold hueX
  rw [e1]
  refine val_of_lt ?_ (by decide)
  rw [fk_sub_val p1 p1, Int.sub_self, RB_zero]
theorem hueN_turn {gs hs : List Cel} (hg : rowOk gs = true) (hh : rowOk hs = true) : ∀ k, k ≤ 64 → ∃ v, Val .f32 (hueN gs hs k) v ∧ Val .f32 (hueN hs gs k) (-v) ∧ v.natAbs ≤ 2 ^ (172 + k)
  | 0, _ => ⟨0, val_zero, val_zero, by simp⟩
  | k + 1, hk => by
    obtain ⟨v, h1, h2, h3⟩ := hueN_turn hg hh k (by omega)
    obtain ⟨⟨x, hx, hxl⟩, ho⟩ := hueX_ble (getD_ok hg k) (getD_ok hh k)
    have hx' := val_opp hx ho
    have hb := ble_add (E := 172 + k) ⟨v, h1, h3⟩ ⟨x, hx, Nat.le_trans hxl (Nat.pow_le_pow_right (by omega) (by omega))⟩ (show 23 ≤ _ by omega) (show _ < 23 + 2 ^ 8 by omega)
    obtain ⟨s, hs, hsl⟩ := hb
    exact ⟨s, hs, val_opp hs (opp_add h1 h2 hx hx'), hsl⟩
theorem hueN_self {gs : List Cel} (hg : rowOk gs = true) : ∀ k, Val .f32 (hueN gs gs k) 0
  | 0 => val_zero
  | k + 1 => by
    have h1 := hueN_self hg k
    have h2 := hueX_self (getD_ok hg k)
    refine val_of_lt ?_ (by decide)
    show fk .f32 (fop .add .f32 _ _) = _
    rw [fk_add_val h1 h2]
    exact RB_zero _ _
end Go.Fx

import Derived.Test.YtiddaabodkglmaaBc
import Derived.Test.YtiddaabodkglmaaEw
namespace Go.Fx
open Ieee
set_option linter.unusedVariables false
set_option linter.unusedSimpArgs false
/-! two channels, one after the other, and the chain of both -/
/-- what is reckoned is a number, the same each time -/
theorem s_add {x y : Nat} {m n : Int} {e : Nat} (hx : V x m e) (hy : V y n e) (he : e ≤ 149) (hm : (m + n).natAbs ≤ 16777216) : ∃ r, floatBits .add .f32 x y = some r ∧ V r (m + n) e := isV_add (good .f32) hx hy (e149 he) (m24 hm)
theorem s_sub {x y : Nat} {m n : Int} {e : Nat} (hx : V x m e) (hy : V y n e) (he : e ≤ 149) (hm : (m - n).natAbs ≤ 16777216) : ∃ r, floatBits .sub .f32 x y = some r ∧ V r (m - n) e := isV_sub (good .f32) hx hy (e149 he) (m24 hm)
theorem s_mul {x y : Nat} {m n : Int} {e g : Nat} (hx : V x m e) (hy : V y n g) (he : e + g ≤ 149) (hm : (m * n).natAbs ≤ 16777216) : ∃ r, floatBits .mul .f32 x y = some r ∧ V r (m * n) (e + g) := isV_mul (good .f32) hx hy (e149 he) (m24 hm)
theorem run_same {op : BinOp} (hop : op = .add ∨ op = .sub ∨ op = .mul ∨ op = .quo) {k : FloatKind} {x y r : Nat} (h : floatBits op k x y = some r) (t : TypeId) (P : Program) (W : World) : (binOp op t (.float k x) (.float k y)).run P W = .ok (.float k r) W := by
  have h1 := run_fop (P := P) W op hop t k x y
  have e1 : fbits W op k x y = r := by unfold fbits; rw [h]; rfl
  have e2 : fcnt op k x y = 0 := by unfold fcnt; rw [h]; rfl
  rw [e1, e2] at h1
  exact h1
/-- the amounts of a product of complex numbers -/
structure TimesV (a b x y : Nat) (re im : Nat) : Prop where
  ex : ∃ p1 p2 p4 p5, floatBits .mul .f32 a x = some p1 ∧ floatBits .mul .f32 b y = some p2 ∧ floatBits .sub .f32 p1 p2 = some re ∧ floatBits .mul .f32 a y = some p4 ∧ floatBits .mul .f32 b x = some p5 ∧ floatBits .add .f32 p4 p5 = some im
theorem timesV {a b x y : Nat} {A B X Y : Int} {e g n h : Nat} (ha : V a A e) (hb : V b B e) (hx : V x X g) (hy : V y Y g) (he : e + g ≤ 149) (hA : A.natAbs ≤ n) (hB : B.natAbs ≤ n) (hX : X.natAbs ≤ h) (hY : Y.natAbs ≤ h) (hn : 2 * (n * h) ≤ 16777216) :
    ∃ re im, TimesV a b x y re im ∧ V re (A * X - B * Y) (e + g) ∧ V im (A * Y + B * X) (e + g) := by
  have b1 := mul_abs hA hX
  have b2 := mul_abs hB hY
  have b3 := mul_abs hA hY
  have b4 := mul_abs hB hX
  obtain ⟨p1, h1, v1⟩ := s_mul ha hx he (by omega)
  obtain ⟨p2, h2, v2⟩ := s_mul hb hy he (by omega)
  obtain ⟨p4, h4, v4⟩ := s_mul ha hy he (by omega)
  obtain ⟨p5, h5, v5⟩ := s_mul hb hx he (by omega)
  obtain ⟨re, h3, v3⟩ := s_sub v1 v2 he (by omega)
  obtain ⟨im, h6, v6⟩ := s_add v4 v5 he (by omega)
  exact ⟨re, im, ⟨p1, p2, p4, p5, h1, h2, h3, h4, h5, h6⟩, v3, v6⟩
/-- the chain of two channels, as it is reckoned -/
structure ChainV (a b c : Chn) : Prop where
  ex : ∃ r2, floatBits .mul .f32 a.a b.a = some c.a ∧ floatBits .mul .f32 b.a a.off = some r2 ∧ floatBits .add .f32 r2 b.off = some c.off ∧ TimesV a.re a.im b.re b.im c.re c.im
  oka : chnOk a = true
  okb : chnOk b = true
  okc : chnOk c = true
theorem v_fine {x y : Nat} {m : Int} {e : Nat} (hx : V x m e) (hy : V y m e) : within32 x 1149239296 = within32 y 1149239296 := by
  have hc := v_c1024 e
  have hn : V (Op.negFloat .f32 1149239296) (-(1024 * ((2 ^ e : Nat) : Int))) e := isV_neg hc
  unfold within32 fge fle
  rw [isV_gt hx hn, isV_eq hx hn, isV_lt hx hc, isV_eq hx hc, isV_gt hy hn, isV_eq hy hn, isV_lt hy hc, isV_eq hy hc]
theorem fine_getD {l : List Nat} : fine l = true ↔ ∀ j, j < l.length → within32 (l.getD j 0) 1149239296 = true := by
  unfold fine
  rw [List.all_eq_true]
  constructor
  · intro h j hj
    rw [List.getD_eq_getElem?_getD, List.getElem?_eq_getElem hj]
    exact h _ (List.getElem_mem hj)
  · intro h x hx
    obtain ⟨j, hj, rfl⟩ := List.getElem_of_mem hx
    have := h j hj
    rw [List.getD_eq_getElem?_getD, List.getElem?_eq_getElem hj] at this
    exact this
theorem LV.fine_eq {e : Nat} {l m : List Nat} {ys : List I3} (h : LV e l ys) (k : LV e m ys) : Fx.fine l = Fx.fine m := by
  have hl : l.length = m.length := by rw [h.len, k.len]
  rw [Bool.eq_iff_iff, fine_getD, fine_getD, hl]
  refine forall_congr' fun j => forall_congr' fun hj => ?_
  rw [v_fine (h.at j (by omega)) (k.at j hj)]
theorem LV.samplesOk_eq {e : Nat} {l m : List Nat} {ys : List I3} (h : LV e l ys) (k : LV e m ys) : samplesOk l = samplesOk m := by
  unfold samplesOk
  rw [h.fine_eq k, h.len, k.len]
theorem plainCh_CH {ch : Chn} (h : PlainCh ch) : ∃ A O X Y, CH 3 ch A O X Y ∧ 0 < A ∧ A ≤ 16 ∧ O.natAbs ≤ 32 ∧ X.natAbs ≤ 16 ∧ Y.natAbs ≤ 16 := by
  obtain ⟨⟨m, hm, ha⟩, ⟨O, hO, ho⟩, ⟨x, hx, vx⟩, ⟨y, hy, vy⟩⟩ := h
  exact ⟨2 * m, O, 2 * x, 2 * y, ⟨v_finer 1 ha rfl (by simp; omega), ho, v_finer 1 vx rfl (by simp; omega), v_finer 1 vy rfl (by simp; omega)⟩, by omega, by omega, hO, by omega, by omega⟩
/-- what is known of a channel of sixtyfourths -/
theorem ch_ok6 {ch : Chn} {A O X Y : Int} (h : CH 6 ch A O X Y) (h0 : 0 < A) (h1 : A ≤ 1024) (h2 : O.natAbs ≤ 4096) (h3 : X.natAbs ≤ 1024) (h4 : Y.natAbs ≤ 1024) : chnOk ch = true := by
  have c16 : V 1098907648 1024 6 := v_chk (by decide +kernel)
  have c64 : V 1115684864 4096 6 := v_chk (by decide +kernel)
  have c0 : V 0 0 6 := v_chk (by decide +kernel)
  unfold chnOk
  have e1 : fgt .f32 ch.a 0 = true := by unfold fgt; rw [isV_gt h.a c0]; exact decide_eq_true h0
  have e2 : fle .f32 ch.a 1098907648 = true := by
    unfold fle; rw [isV_lt h.a c16, isV_eq h.a c16, Bool.or_eq_true, decide_eq_true_iff, decide_eq_true_iff]; omega
  rw [e1, e2, v_within h.off c64 (by omega), v_within h.re c16 (by omega), v_within h.im c16 (by omega)]; rfl
/-- such channels can be chained, and the chain is known -/
theorem chain_CH {a b : Chn} {A O X Y A' O' X' Y' : Int} (ha : CH 3 a A O X Y) (hb : CH 3 b A' O' X' Y') (a0 : 0 < A) (a1 : A ≤ 16) (o1 : O.natAbs ≤ 32) (x1 : X.natAbs ≤ 16) (y1 : Y.natAbs ≤ 16) (a0' : 0 < A') (a1' : A' ≤ 16) (o1' : O'.natAbs ≤ 32) (x1' : X'.natAbs ≤ 16) (y1' : Y'.natAbs ≤ 16) :
    ∃ c, ChainV a b c ∧ CH 6 c (A * A') (A' * O + O' * 8) (X * X' - Y * Y') (X * Y' + Y * X') ∧ 0 < A * A' ∧ A * A' ≤ 256 ∧ (A' * O + O' * 8).natAbs ≤ 768 ∧ (X * X' - Y * Y').natAbs ≤ 512 ∧ (X * Y' + Y * X').natAbs ≤ 512 := by
  have p1 : 0 < A * A' := Int.mul_pos a0 a0'
  have b1 := mul_abs (a := A) (b := A') (P := 16) (Q := 16) (by omega) (by omega)
  have b2 := mul_abs (a := A') (b := O) (P := 16) (Q := 32) (by omega) o1
  have b3 := mul_abs x1 x1'
  have b4 := mul_abs y1 y1'
  have b5 := mul_abs x1 y1'
  have b6 := mul_abs y1 x1'
  obtain ⟨r1, h1, v1⟩ := s_mul ha.a hb.a (by decide) (by omega)
  obtain ⟨r2, h2, v2⟩ := s_mul hb.a ha.off (by decide) (by omega)
  have vo : V b.off (O' * 8) 6 := v_finer 3 hb.off rfl (by simp)
  obtain ⟨r3, h3, v3⟩ := s_add v2 vo (by decide) (by omega)
  obtain ⟨re, im, ht, vr, vi⟩ := timesV ha.re ha.im hb.re hb.im (n := 16) (h := 16) (by decide) x1 y1 x1' y1' (by decide)
  have hc : CH 6 ⟨r1, r3, re, im⟩ (A * A') (A' * O + O' * 8) (X * X' - Y * Y') (X * Y' + Y * X') := ⟨v1, v3, vr, vi⟩
  exact ⟨⟨r1, r3, re, im⟩, ⟨⟨r2, h1, h2, h3, ht⟩, ch_ok ha a0 (by omega) (by omega) (by omega) (by omega), ch_ok hb a0' (by omega) (by omega) (by omega) (by omega), ch_ok6 hc p1 (by omega) (by omega) (by omega) (by omega)⟩, hc, p1, by omega, by omega, by omega, by omega⟩
theorem trI_chain (A O X Y A' O' X' Y' : Int) (ys : List I3) : (ys.map (trI 4 A O X Y)).map (trI 7 A' O' X' Y') = ys.map (trI 4 (A * A') (A' * O + O' * 8) (X * X' - Y * Y') (X * Y' + Y * X')) := by
  rw [List.map_map]
  congr 1
  funext a
  obtain ⟨y, r, i⟩ := a
  simp only [trI, Function.comp]
  have e4 : ((2 ^ 4 : Nat) : Int) = 16 := rfl
  have e7 : ((2 ^ 7 : Nat) : Int) = 128 := rfl
  rw [e4, e7]
  refine Prod.ext ?_ (Prod.ext ?_ ?_) <;> simp only [] <;> grind
/-- through the chain of two channels samples come as through one and then the other -/
theorem chained {a b : Chn} (ha : PlainCh a) (hb : PlainCh b) : ∃ c, ChainV a b c ∧ ∀ (gs : List Nat) (ys : List I3), LV 4 gs ys → (∀ z ∈ ys, Small 1024 z) → 1 ≤ ys.length → ys.length ≤ 64 → trOk a gs = true → ∀ xs, cns xs = tr a gs → trOk b xs = trOk c gs ∧
    ∀ vs zs, cns vs = tr b xs → cns zs = tr c gs → vs.length = zs.length ∧ ∀ (i : Nat) (h1 : i < vs.length) (h2 : i < zs.length), feq .f32 vs[i] zs[i] = true := by
  obtain ⟨A, O, X, Y, ca, a0, a1, o1, x1, y1⟩ := plainCh_CH ha
  obtain ⟨A', O', X', Y', cb, a0', a1', o1', x1', y1'⟩ := plainCh_CH hb
  obtain ⟨c, hc, cc, c0, k1, k2, k3, k4⟩ := chain_CH ca cb a0 a1 o1 x1 y1 a0' a1' o1' x1' y1'
  refine ⟨c, hc, fun gs ys hv hs h1 h64 hok xs hx => ?_⟩
  have t1 := tr_LV (n := 1024) (g := 16) ca (by omega) (by omega) x1 y1 (by decide) (by decide) (by decide) hv hs
  have s1 := trI_small (e := 4) (n := 1024) (g := 16) (A := A) (O := O) (X := X) (Y := Y) (by omega) (by omega) x1 y1 hs
  unfold tr at hx
  rw [hok, if_pos rfl] at hx
  have hxv : LV 7 xs (ys.map (trI 4 A O X Y)) := LV.of_cn (by rw [hx]; exact t1)
  have t2 := tr_LV (n := 32768) (g := 16) cb (by omega) (by omega) x1' y1' (by decide) (by decide) (by decide) hxv s1
  rw [trI_chain] at t2
  have t3 := tr_LV (n := 1024) (g := 512) cc (by omega) (by omega) k3 k4 (by decide) (by decide) (by decide) hv hs
  have hsx : samplesOk xs = true := by
    unfold trOk at hok
    rw [Bool.and_eq_true] at hok
    have e := samplesOk_cns xs
    rw [hx] at e
    rw [← e]
    exact hok.2
  have hsg : samplesOk gs = true := by
    unfold trOk at hok
    rw [Bool.and_eq_true, Bool.and_eq_true] at hok
    exact hok.1.2
  have hoks : trOk b xs = trOk c gs := by
    unfold trOk
    rw [hc.okb, hc.okc, hsx, hsg, t2.samplesOk_eq t3]
  refine ⟨hoks, fun vs zs hv' hz => ?_⟩
  unfold tr at hv' hz
  rw [hoks] at hv'
  cases hk : trOk c gs
  · rw [hk] at hv' hz
    have e1 : vs = [] := by simpa using hv'
    have e2 : zs = [] := by simpa using hz
    subst e1 e2
    exact ⟨rfl, fun i h1 => by simp at h1⟩
  · rw [hk, if_pos rfl] at hv' hz
    have w1 : LV 10 vs _ := LV.of_cn (by rw [hv']; exact t2)
    have w2 : LV 10 zs _ := LV.of_cn (by rw [hz]; exact t3)
    exact ⟨by rw [w1.len, w2.len], fun i k1 k2 => LV.feq w1 w2 i k1 k2⟩
end Go.Fx

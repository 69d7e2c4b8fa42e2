import Derived.Test.YtiddaabodkglmaaGreatK2
import Derived.Test.YtiddaabodkglmaaGreatK1
section
namespace Go.Fx
open Go.RowKit Ieee
section
variable {P : Program} {o : Oper} {a : Act} {w : World} {K : Act → World → Prop} {Q : Exit → Act → World → Prop}
/-- 'complex64(c)' of a complex128, where the language says what it is -/
theorem upon_narrowC {src dst : TypeId} {x y r s : Nat} (h1 : P.underlying src = some (.complex .f64)) (h2 : P.underlying dst = some (.complex .f32)) (hx : floatToFloatBits .f64 x .f32 = some r) (hy : floatToFloatBits .f64 y .f32 = some s)
    (h : ∀ n, Oper.upon P o a K Q (.ok (.value (.complex .f32 r s)) (w.drewN n))) :
    Oper.upon P o a K Q ((Sem.run P (convert src dst (.complex .f64 x y)) w).andThen fun v w' => .ok (.value v) w') := by
  have e1 := run_cv (P := P) w .f64 .f32 x
  have e2 := run_cv (P := P) (w.drewN (cvcnt .f64 .f32 x)) .f64 .f32 y
  have v1 : cvbits w .f64 .f32 x = r := by unfold cvbits; rw [hx]; rfl
  have v2 : cvbits (w.drewN (cvcnt .f64 .f32 x)) .f64 .f32 y = s := by unfold cvbits; rw [hy]; rfl
  rw [v1] at e1
  rw [v2] at e2
  have hr : (convert src dst (.complex .f64 x y)).run P w = .ok (.complex .f32 r s) (w.drewN (cvcnt .f64 .f32 x + cvcnt .f64 .f32 y)) := by
    simp [convert, run_underlying h1, run_underlying h2, Conv.complexToComplex, e1, e2]
  rw [hr]; exact h _
end
/-- the single of a whole number, by way of float64 -/
def narI (k : Int) : Nat := (floatToFloatBits .f64 (floatOfInt .f64 k) .f32).getD 0
theorem narI_is {k : Int} (h0 : 0 ≤ k) (h1 : k ≤ 16777216) : floatToFloatBits .f64 (floatOfInt .f64 k) .f32 = some (narI k) := by
  obtain ⟨r, hr, _⟩ := isV_conv (s := .f64) (d := .f32) (isV_int (k := .f64) (n := k) (Nat.le_trans (show k.natAbs ≤ 16777216 by omega) (by decide))) (by decide) (Nat.le_trans (show k.natAbs ≤ 16777216 by omega) (by decide))
  unfold narI; rw [hr]; rfl
theorem narI_not {k : Int} (h0 : 0 ≤ k) (h1 : k ≤ 16777216) : isN .f32 (narI k) = false := by
  obtain ⟨r, hr, hv⟩ := isV_conv (s := .f64) (d := .f32) (isV_int (k := .f64) (n := k) (Nat.le_trans (show k.natAbs ≤ 16777216 by omega) (by decide))) (by decide) (Nat.le_trans (show k.natAbs ≤ 16777216 by omega) (by decide))
  unfold narI; rw [hr]; exact isV_not hv
theorem nar_one : floatToFloatBits .f64 4607182418800017408 .f32 = some 1065353216 := by decide +kernel
abbrev mY (k : Int) : Value := fl (floatOfInt .f32 k)
abbrev mC (k : Int) : Value := .complex .f32 (narI k) 1065353216
theorem cnC_at {rs ss : List Cel} (h : cnC rs = cnC ss) {k : Nat} (h1 : k < rs.length) (h2 : k < ss.length) : rs[k].cn = ss[k].cn := by
  have := congrArg (fun l => l[k]?) h
  simpa [h1, h2] using this
end Go.Fx
namespace Go.Proofs.YtiddaabodkglmaaGreat
open Go.RowKit Go.Fx
set_option linter.unusedVariables false
set_option linter.unusedSimpArgs false

abbrev marksC (k0 : Int) (n : Nat) : List Value := marks2 mY mC k0 n
theorem info_cell : (Tryz.prog.info? 83).map (fun i => (i.zero, i.size, i.bytes)) = some (some (.agg #[.float .f32 0, .complex .f32 0 0]), 2, 12) := by kernel_rfl
/-- a fresh row of cells -/
abbrev OC (w : World) (base : Nat) (v : Value) (row : List Cel) : Prop := w.ownsRow base 83 2 v row.length (ccells row)
set_option maxRecDepth 100000 in
set_option maxHeartbeats 4000000 in
theorem eqC_any (A B : Option Addr) (c d : Nat) (rs ss : List Cel) (w : World) (h : Rd w A (ccells rs)) (h' : Rd w B (ccells ss)) (hn : rs.length ≤ maxLen) (he : cnC rs = cnC ss) :
    Calls Tryz.prog 31 #[.slice A rs.length c, .slice B ss.length d] w fun e w' => e = .returned (.bool true) ∧ Ext w w' := by
  have hl : rs.length = ss.length := by simpa using congrArg List.length he
  have HE := Lib.hid he
  unfold maxLen at hn
  rw [← hl]
  have HL := Lib.hid hl
  clear he hl
  go_enter Tryz.func31, Tryz.ntmps31
  go_wp2
  go_loopw [5] (fun i wr => ∃ (k : Nat), k ≤ rs.length ∧ i = .int .i64 k ∧ Ext w wr) (fun i _ => rs.length - (intOf i).toNat)
  case atStart => exact ⟨0, Nat.zero_le _, rfl, Ext.refl _⟩
  case round =>
    obtain ⟨k, hk, rfl, hb⟩ := hrel
    by_cases hlt : k < rs.length
    · have hlt' : k < ss.length := by rw [← HL.out]; exact hlt
      obtain ⟨b, off, rfl, hbw, hc, hc1⟩ := rc_at (h.ext hb) hlt
      obtain ⟨b', off', rfl, hbw', hc', hc1'⟩ := rc_at (h'.ext hb) hlt'
      have HK := Lib.hid (cnC_at HE.out hlt hlt')
      generalize rs[k] = x at hc hc1 HK
      generalize ss[k] = y at hc' hc1' HK
      go_wp2_with fail
      go_region_with (go_at_call 67; refine (eqCell_any x y HK.out _).mono ?_; rintro e w1 ⟨rfl, hb1⟩)
      all_goals go_wp2
      all_goals go_roundw
      all_goals first | exact ⟨k + 1, by omega, by go_num, Ext.step hb ⟨_, rfl⟩ hb1⟩ | (simp [intOf]; omega)
    · go_wp2
      go_ret
      exact ⟨rfl, hb⟩
set_option maxRecDepth 100000 in
set_option maxHeartbeats 4000000 in
theorem markC_any (A : Option Addr) (c n : Nat) (k0 : Int) (hn : n ≤ 8388608) (hk0 : 0 ≤ k0) (hk1 : k0 + 2 * n ≤ 16777216) (xs : List Value) (base : Nat) (w : World) (h : w.ownsRow base 83 2 (.slice A n c) n xs) :
    Calls Tryz.prog 35 #[.slice A n c, .int .i64 k0] w fun e w' => e = .returned (.int .i64 (k0 + 2 * n)) ∧ w'.ownsRow base 83 2 (.slice A n c) n (marksC k0 n) ∧ w.grownBy w' (Value.slice A n c).ownBlock := by
  have hlen := h.1
  go_enter Tryz.func35, Tryz.ntmps35
  go_wp2
  go_loopw [1, 5] (fun q i wr => ∃ (k : Nat) (ys : List Value), k ≤ n ∧ i = .int .i64 k ∧ q = .int .i64 (k0 + 2 * k) ∧ Upto (k * 2) ys (marksC k0 n) ∧ wr.ownsRow base 83 2 (.slice A n c) n ys ∧ w.grownBy wr (Value.slice A n c).ownBlock) (fun _ i _ => n - (intOf i).toNat)
  case atStart => exact ⟨0, xs, Nat.zero_le _, rfl, by simp, Upto.zero (by rw [marks2_len]; exact hlen), h, grown_refl _ _⟩
  case round =>
    obtain ⟨k, ys, hk, rfl, rfl, hu, ho, hg⟩ := hrel
    clear hlen
    by_cases hlt : k < n
    · obtain ⟨g, rfl, hb, hgs⟩ := own_at ho (by omega)
      obtain ⟨m1, m2⟩ := marks2_at mY mC k0 hlt
      have hf := own_frozen ho (k * 2)
      have hf1 := own_frozen ho (k * 2 + 1)
      have hl : k * 2 + 1 < ys.length := by have := hu.1; rw [marks2_len] at this; omega
      have hcell : ∃ u, wr.cell? ⟨g, k * 2, none⟩ = some u := ⟨_, own_cell ho (List.getElem?_eq_getElem (by omega))⟩
      have hcell1 : ∃ u, wr.cell? ⟨g, k * 2 + 1, none⟩ = some u := ⟨_, own_cell ho (List.getElem?_eq_getElem hl)⟩
      obtain ⟨u0, hcell⟩ := hcell
      obtain ⟨u1, hcell1⟩ := hcell1
      have M1 := Lib.hid m1
      have M2 := Lib.hid m2
      have hnar := narI_is (k := k0 + 2 * k + 1) (by omega) (by omega)
      clear m1 m2
      go_wp2_with (with_reducible refine upon_narrowC Tryz.underlying86 Tryz.underlying71 hnar nar_one ?_; intro n1)
      go_roundw
      case rel => exact ⟨k + 1, _, by omega, by go_num, by go_num, by rw [Nat.add_mul]; exact (hu.step M1.out).step (by rw [M2.out]), own_set (own_draw (own_set ho _) _) _, grown_set (p := ⟨g, k * 2 + 1, none⟩) (grown_drewN (grown_set (p := ⟨g, k * 2, none⟩) hg (.inl rfl) _) _) (.inl rfl) _⟩
      case measure => simp [intOf]; omega
    · go_wp2
      go_ret
      obtain rfl : k = n := by omega
      have := Upto.all (ys := marksC k0 k) (by rw [marks2_len]; exact hu)
      subst this
      exact ⟨rfl, ho, hg⟩
set_option maxRecDepth 100000 in
set_option maxHeartbeats 4000000 in
theorem heldC_any (A : Option Addr) (c n : Nat) (k0 : Int) (hn : n ≤ 8388608) (hk0 : 0 ≤ k0) (hk1 : k0 + 2 * n ≤ 16777216) (w : World) (h : Rd w A (marksC k0 n)) :
    Calls Tryz.prog 36 #[.slice A n c, .int .i64 k0] w fun e w' => e = .returned (.int .i64 (k0 + 2 * n)) ∧ ∃ n, w' = w.drewN n := by
  go_enter Tryz.func36, Tryz.ntmps36
  go_wp2
  go_loopw [1, 5] (fun q i wr => ∃ (k : Nat), k ≤ n ∧ i = .int .i64 k ∧ q = .int .i64 (k0 + 2 * k) ∧ ∃ m, wr = w.drewN m) (fun _ i _ => n - (intOf i).toNat)
  case atStart => exact ⟨0, Nat.zero_le _, rfl, by simp, 0, rfl⟩
  case round =>
    obtain ⟨k, hk, rfl, rfl, m, rfl⟩ := hrel
    by_cases hlt : k < n
    · obtain ⟨b, off, rfl, hbw, hc, hc1⟩ := marks2_read h hlt
      have hnar := narI_is (k := k0 + 2 * k + 1) (by omega) (by omega)
      have hs := feq_self (notNaN_int .f32 (k0 + 2 * k))
      have hs1 := feq_self (narI_not (k := k0 + 2 * k + 1) (by omega) (by omega))
      have hs2 : feq .f32 1065353216 1065353216 = true := by decide +kernel
      go_wp2_with (with_reducible refine upon_narrowC Tryz.underlying86 Tryz.underlying71 hnar nar_one ?_; intro n1)
      go_roundw
      case rel => exact ⟨k + 1, by omega, by go_num, by go_num, _, rfl⟩
      case measure => simp [intOf]; omega
    · go_wp2
      go_ret
      obtain rfl : k = n := by omega
      exact ⟨rfl, _, rfl⟩
end Go.Proofs.YtiddaabodkglmaaGreat
end
section
namespace Go.Fx
theorem cn_negF (b : Nat) : cn .f32 (Op.negFloat .f32 b) = neg32 (cn .f32 b) := cn_neg .f32 b
theorem c4_0 : cn .f32 1082130432 = 1082130432 := by decide +kernel
theorem c2_0 : cn .f32 1073741824 = 1073741824 := by decide +kernel
theorem decodeOk_of4 {odd : Bool} {rs : List Nat} (h : rs.length % 4 ≠ 0) : decodeOk odd rs = false := by simp [decodeOk, h]
theorem decodeOk_big {odd : Bool} {rs : List Nat} (h : 256 < rs.length) : decodeOk odd rs = false := by
  by_cases h4 : rs.length % 4 = 0
  · unfold decodeOk rowOk
    rw [decode_len]
    simp only [List.length_map]
    have : ¬ rs.length / 4 ≤ 64 := by omega
    simp [this]
  · exact decodeOk_of4 h4
theorem decodeOk_row {odd : Bool} {rs : List Nat} {gs : List Cel} (h4 : rs.length % 4 = 0) (hg : cnC gs = decode odd (cns rs)) : decodeOk odd rs = rowOk gs := by
  unfold decodeOk; rw [rowOk_of hg]; simp [h4]
end Go.Fx
namespace Go.Proofs.YtiddaabodkglmaaGreat
open Go.RowKit Go.Fx
set_option linter.unusedVariables false
set_option linter.unusedSimpArgs false

set_option maxRecDepth 100000 in
theorem sRowOk_any (A : Option Addr) (c : Nat) (row : List Cel) (w : World) (h : Rd w A (ccells row)) (hn : row.length ≤ maxLen) :
    Calls Tryz.prog 79 #[.slice A row.length c] w fun e w' => e = .returned (.bool (rowOk row)) ∧ Ext w w' := by
  unfold maxLen at hn
  go_enter Tryz.func79, Tryz.ntmps79
  go_wp2
  go_loopw [3] (fun i wr => ∃ (k : Nat), k ≤ row.length ∧ i = .int .i64 k ∧ Hid ((row.take k).all cellOk = true) ∧ Ext w wr) (fun i _ => row.length - (intOf i).toNat)
  case atStart => exact ⟨0, Nat.zero_le _, rfl, Lib.hid (by simp), Ext.refl _⟩
  case round =>
    obtain ⟨k, hk, rfl, H, hb⟩ := hrel
    by_cases hlt : k < row.length
    · obtain ⟨b, off, rfl, hbw, hc, hc1⟩ := rc_at (h.ext hb) hlt
      cases hp : cellOk row[k]
      · have H' := Lib.hid (all_not cellOk hlt hp)
        go_wp2_with (go_at_call 97; refine (sCellOk_any _ _ _ _).mono ?_; rintro e w1 ⟨rfl, hb1⟩; rw [hp])
        go_ret
        exact ⟨by rw [rowOk, H'.out, Bool.and_false]; rfl, hb.trans hb1⟩
      · have H' := Lib.hid (all_take_step cellOk hlt H.out hp)
        go_wp2_with (go_at_call 97; refine (sCellOk_any _ _ _ _).mono ?_; rintro e w1 ⟨rfl, hb1⟩; rw [hp])
        go_roundw
        case rel => exact ⟨k + 1, by omega, by go_num, H', hb.trans hb1⟩
        case measure => simp [intOf]; omega
    · obtain rfl : k = row.length := by omega
      have H' := Lib.hid (show row.all cellOk = true by have := H.out; rwa [List.take_length] at this)
      have HL : Hid (rowOk row = (decide (1 ≤ (row.length : Int)) && decide ((row.length : Int) ≤ 64))) := Lib.hid (by
        rw [rowOk, H'.out, Bool.and_true]
        congr 1 <;> (rw [decide_eq_decide]; omega))
      clear H
      go_wp2_with (go_at_call 37; refine (sIn_any _ _ _ _).mono ?_; rintro e w1 ⟨rfl, rfl⟩)
      go_ret
      exact ⟨by rw [HL.out]; rfl, hb⟩
theorem iRowOk1_any (x : Cel) (w : World) : Calls Tryz.prog 107 #[.agg #[.float .f32 x.y, .complex .f32 x.re x.im]] w fun e w' => e = .returned (.bool (!cellOk x)) ∧ Ext w w' := by
  go_enter Tryz.func107, Tryz.ntmps107
  go_wp2_with (first | (go_at_call 108; refine (iCellOk_any _ _ _ _).mono ?_; rintro e w1 ⟨rfl, hb1⟩))
  go_ret
  exact ⟨rfl, ((Ext.refl _).alloc _).trans hb1⟩
set_option maxRecDepth 100000 in
theorem indexC_any (A : Option Addr) (c : Nat) (row : List Cel) (w : World) (h : Rd w A (ccells row)) (hn : row.length ≤ maxLen) :
    Calls Tryz.prog 114 #[.slice A row.length c, .func (.func 107) #[] #[]] w fun e w' => (∃ k : Int, e = .returned (.int .i64 k) ∧ decide (0 ≤ k) = !(row.all cellOk)) ∧ Ext w w' := by
  unfold maxLen at hn
  go_enter Tryz.func114, Tryz.ntmps114
  go_wp2
  go_loopw [8] (fun i wr => ∃ (k : Nat), k ≤ row.length ∧ i = .int .i64 k ∧ Hid ((row.take k).all cellOk = true) ∧ Ext w wr) (fun i _ => row.length - (intOf i).toNat)
  case atStart => exact ⟨0, Nat.zero_le _, rfl, Lib.hid (by simp), Ext.refl _⟩
  case round =>
    obtain ⟨k, hk, rfl, H, hb⟩ := hrel
    by_cases hlt : k < row.length
    · obtain ⟨b, off, rfl, hbw, hc, hc1⟩ := rc_at (h.ext hb) hlt
      cases hp : cellOk row[k]
      · have H' := Lib.hid (all_not cellOk hlt hp)
        go_wp2_with (first | (go_at_call 107; refine (iRowOk1_any _ _).mono ?_; rintro e w1 ⟨rfl, hb1⟩; rw [hp]))
        go_ret
        exact ⟨⟨_, rfl, by rw [H'.out]; simp⟩, hb.trans hb1⟩
      · have H' := Lib.hid (all_take_step cellOk hlt H.out hp)
        go_wp2_with (first | (go_at_call 107; refine (iRowOk1_any _ _).mono ?_; rintro e w1 ⟨rfl, hb1⟩; rw [hp]))
        go_roundw
        case rel => exact ⟨k + 1, by omega, by go_num, H', hb.trans hb1⟩
        case measure => simp [intOf]; omega
    · go_wp2
      go_ret
      obtain rfl : k = row.length := by omega
      have := H.out
      rw [List.take_length] at this
      exact ⟨⟨_, rfl, by rw [this]; rfl⟩, hb⟩
set_option maxRecDepth 100000 in
theorem iRowOk_any (A : Option Addr) (c : Nat) (row : List Cel) (w : World) (h : Rd w A (ccells row)) (hn : row.length ≤ maxLen) :
    Calls Tryz.prog 91 #[.slice A row.length c] w fun e w' => e = .returned (.bool (rowOk row)) ∧ Ext w w' := by
  have hn' := hn
  unfold maxLen at hn'
  have H := Lib.hid h
  clear h
  cases hl : (decide (1 ≤ (row.length : Int)) && decide ((row.length : Int) ≤ 64))
  · have HR : Hid (rowOk row = false) := Lib.hid (by
      have : (decide (1 ≤ row.length) && decide (row.length ≤ 64)) = false := by rw [← hl]; congr 1 <;> (rw [decide_eq_decide]; omega)
      rw [rowOk, this]; rfl)
    go_enter Tryz.func91, Tryz.ntmps91
    go_wp2_with (first | (go_at_call 50; refine (within_any _ _ _ _).mono ?_; rintro e w1 ⟨rfl, rfl⟩; rw [hl]))
    go_ret
    exact ⟨by rw [HR.out]; rfl, Ext.refl _⟩
  · have HR : Hid (rowOk row = row.all cellOk) := Lib.hid (by
      have : (decide (1 ≤ row.length) && decide (row.length ≤ 64)) = true := by rw [← hl]; congr 1 <;> (rw [decide_eq_decide]; omega)
      rw [rowOk, this]; rfl)
    go_enter Tryz.func91, Tryz.ntmps91
    go_wp2_with (first | (go_at_call 50; refine (within_any _ _ _ _).mono ?_; rintro e w1 ⟨rfl, rfl⟩; rw [hl]))
    go_enter Tryz.func106, Tryz.ntmps106
    go_wp2_with (first | (go_at_call 114; refine (indexC_any _ _ _ _ H.out hn).mono ?_; rintro e w1 ⟨⟨k, rfl, hk⟩, hb1⟩))
    go_ret
    refine ⟨?_, hb1⟩
    rw [HR.out]
    simp_all
set_option maxRecDepth 100000 in
theorem sTake_any (A : Option Addr) (c : Nat) (rs : List Nat) (j : Nat) (w : World) (h : Rd w A (rs.map fl)) (hj : j + 3 < rs.length) (hn : rs.length ≤ 1048576) :
    Calls Tryz.prog 109 #[.slice A rs.length c, .int .i64 j] w fun e w' => (∃ d : Cel, e = .returned (.agg #[.float .f32 d.y, .complex .f32 d.re d.im]) ∧ d.cn = dec1 false (cn .f32 rs[j]) (cn .f32 rs[j + 1]) (cn .f32 rs[j + 2]) (cn .f32 rs[j + 3])) ∧ Ext w w' := by
  have hx : Ext w (w.alloc (.cells #[.float .f32 0, .complex .f32 0 0] 83)) := (Ext.refl _).alloc _
  obtain ⟨b, off, rfl, hbw, h0⟩ := rf_at (h.ext hx) (i := j) (by omega)
  obtain ⟨_, _, e1, _, h1⟩ := rf_at (h.ext hx) (i := j + 1) (by omega)
  cases e1
  obtain ⟨_, _, e1, _, h2⟩ := rf_at (h.ext hx) (i := j + 2) (by omega)
  cases e1
  obtain ⟨_, _, e1, _, h3⟩ := rf_at (h.ext hx) (i := j + 3) (by omega)
  cases e1
  clear h
  have hj0 : j < rs.length := by omega
  generalize rs[j] = s at h0
  generalize rs[j + 1] = t at h1
  generalize rs[j + 2] = u at h2
  generalize rs[j + 3] = v at h3
  go_enter Tryz.func109, Tryz.ntmps109
  go_wp2_with (with_reducible first | (refine upon_add ?_; intro b n hb) | (refine upon_sub ?_; intro b n hb) | (refine upon_mul ?_; intro b n hb) | (refine upon_quo ?_; intro b n hb))
  rename_i b1 n1 e1 b2 n2 e2 b3 n3 e3 b4 n4 e4 b5 n5 e5 b6 n6 e6 b7 n7 e7
  refine bodyPost_ret (v := .agg #[.float .f32 b4, .complex .f32 b6 b]) (by simp [results, Tryz.results109, go_sem, *]) rfl ⟨⟨⟨b4, b6, b⟩, rfl, ?_⟩, by (repeat (first | exact Below.refl _ _ | assumption | refine below_drewN ?_ _ | refine Below.drew ?_ | refine Below.alloc ?_ (by first | exact Nat.le_refl _ | (simp; done) | (simp; omega)) _ | refine Below.setCell ?_ (by first | exact Nat.le_refl _ | (simp; done) | (simp; omega)) _))⟩
  rw [c4_0] at e4
  rw [c2_0] at e6 hb
  rw [e3, e2, e1] at e4
  rw [e5] at e6
  rw [e7] at hb
  simp only [Cel.cn, dec1, e4, e6, hb]
  rfl
set_option maxRecDepth 100000 in
theorem decoded_any (b off c : Nat) (s t u v : Nat) (odd : Bool) (w : World) (hbw : b < w.heap.size) (h0 : w.cell? ⟨b, off, none⟩ = some (fl s)) (h1 : w.cell? ⟨b, off + 1, none⟩ = some (fl t)) (h2 : w.cell? ⟨b, off + 2, none⟩ = some (fl u)) (h3 : w.cell? ⟨b, off + 3, none⟩ = some (fl v)) :
    Calls Tryz.prog 113 #[.slice (some ⟨b, off, none⟩) 4 c, .bool odd] w fun e w' => (∃ d : Cel, e = .returned (.agg #[.float .f32 d.y, .complex .f32 d.re d.im]) ∧ d.cn = dec1 odd (cn .f32 s) (cn .f32 t) (cn .f32 u) (cn .f32 v)) ∧ Ext w w' := by
  cases odd
  · go_enter Tryz.func113, Tryz.ntmps113
    go_wp2_with fail
    go_quiet (fail)
    all_goals go_wp2_with (with_reducible first | (refine upon_add ?_; intro b n hb) | (refine upon_sub ?_; intro b n hb) | (refine upon_mul ?_; intro b n hb) | (refine upon_quo ?_; intro b n hb))
    rename_i b1 n1 e1 b2 n2 e2 b3 n3 e3 b4 n4 e4 b5 n5 e5 b6 n6 e6 b7 n7 e7
    refine bodyPost_ret (v := .agg #[.float .f32 b, .complex .f32 b5 b7]) (by simp [results, Tryz.results113, go_sem, *]) rfl ⟨⟨⟨b, b5, b7⟩, rfl, ?_⟩, by (repeat (first | exact Below.refl _ _ | assumption | refine below_drewN ?_ _ | refine Below.drew ?_ | refine Below.alloc ?_ (by first | exact Nat.le_refl _ | (simp; done) | (simp; omega)) _ | refine Below.setCell ?_ (by first | exact Nat.le_refl _ | (simp; done) | (simp; omega)) _))⟩
    rw [c4_0] at hb
    rw [c2_0] at e5 e7
    rw [e3, e2, e1] at hb
    rw [e4] at e5
    rw [e6] at e7
    simp only [Cel.cn, dec1, e5, e7, hb]
    rfl
  · go_enter Tryz.func113, Tryz.ntmps113
    go_wp2_with fail
    go_quiet (fail)
    all_goals go_wp2_with (first | (with_reducible first | (refine upon_add ?_; intro b n hb) | (refine upon_sub ?_; intro b n hb) | (refine upon_mul ?_; intro b n hb) | (refine upon_quo ?_; intro b n hb)) | (go_at_call 87; refine (conj_any _ _ _).mono ?_; rintro e w1 ⟨rfl, rfl⟩))
    rename_i b1 n1 e1 b2 n2 e2 b3 n3 e3 b4 n4 e4 b5 n5 e5 b6 n6 e6 b7 n7 e7
    refine bodyPost_ret (v := .agg #[.float .f32 b, .complex .f32 b5 (Op.negFloat .f32 b7)]) (by simp [results, Tryz.results113, go_sem, *]) rfl ⟨⟨⟨b, b5, Op.negFloat .f32 b7⟩, rfl, ?_⟩, by (repeat (first | exact Below.refl _ _ | assumption | refine below_drewN ?_ _ | refine Below.drew ?_ | refine Below.alloc ?_ (by first | exact Nat.le_refl _ | (simp; done) | (simp; omega)) _ | refine Below.setCell ?_ (by first | exact Nat.le_refl _ | (simp; done) | (simp; omega)) _))⟩
    rw [c4_0] at hb
    rw [c2_0] at e5 e7
    rw [e3, e2, e1] at hb
    rw [e4] at e5
    rw [e6] at e7
    simp only [Cel.cn, dec1, e5, hb, cn_negF, e7]
    rfl
end Go.Proofs.YtiddaabodkglmaaGreat
end
section
namespace Go.Fx
open Go.RowKit
theorem rd_at {W : World} {cs : Array Value} {E : TypeId} {m : Nat × Nat} {n : Nat} (h : n = W.heap.size) : Rd (W.alloc (.cells cs E m)) (some ⟨n, 0, none⟩) cs.toList := by
  subst h; exact rd_new W cs E m
theorem dec1_odd (s t u v : Nat) : conjC (dec1 false s t u v) = dec1 true s t u v := by simp [conjC, dec1]
end Go.Fx
namespace Go.Proofs.YtiddaabodkglmaaGreat
open Go.RowKit Go.Fx
set_option linter.unusedVariables false
set_option linter.unusedSimpArgs false
set_option maxRecDepth 100000 in
set_option maxHeartbeats 4000000 in
theorem iDecodeCells_any (A : Option Addr) (c : Nat) (rs : List Nat) (odd : Bool) (w : World) (h : Rd w A (rs.map fl)) (hn : rs.length ≤ 1048576) (hc : rs.length ≤ c) :
    Calls Tryz.prog 101 #[.slice A rs.length c, .bool odd] w fun e w' => (∃ v gs, e = .returned (.tuple #[v, .bool (decodeOk odd rs)]) ∧ OC w' w.heap.size v gs ∧ cnC gs = decodeR odd rs) ∧ Ext w w' := by
  have H := Lib.hid h
  clear h
  by_cases h4 : rs.length % 4 = 0
  · have hz : ((rs.length : Int) % 4 == 0) = true := by rw [beq_iff_eq]; omega
    go_enter Tryz.func101, Tryz.ntmps101
    go_wp2_with fail
    go_loopw [6, 7] (fun v i wr => ∃ (k : Nat) (gs : List Cel), 4 * k ≤ rs.length ∧ gs.length = k ∧ i = .int .i64 (4 * (k : Int)) ∧ wr.ownsRow w.heap.size 83 2 v k (ccells gs) ∧ Hid (cnC gs = (Fx.decode odd (cns rs)).take k) ∧ Ext w wr) (fun _ i _ => rs.length - (intOf i).toNat)
    case atStart => exact ⟨0, [], by omega, rfl, rfl, World.ownsRow_nil _ _ _ _, Lib.hid (by simp), Ext.refl _⟩
    case round =>
      obtain ⟨k, gs, hjl, hgl, rfl, ho, hcn, hb⟩ := hrel
      obtain ⟨A1, c1, rfl, -, -⟩ := own_slice ho
      by_cases hlt : 4 * k < rs.length
      · have hx : 4 * k + 3 < rs.length := by omega
        obtain ⟨b, off, rfl, hbw, h0⟩ := rf_at (H.out.ext hb) (i := 4 * k) (by omega)
        obtain ⟨_, _, e1, _, h1⟩ := rf_at (H.out.ext hb) (i := 4 * k + 1) (by omega)
        cases e1
        obtain ⟨_, _, e1, _, h2⟩ := rf_at (H.out.ext hb) (i := 4 * k + 2) (by omega)
        cases e1
        obtain ⟨_, _, e1, _, h3⟩ := rf_at (H.out.ext hb) (i := 4 * k + 3) (by omega)
        cases e1
        rw [← Nat.add_assoc] at h1 h2 h3
        obtain ⟨hkd, hdk⟩ := dec1_at odd (k := k) hx
        have HD := Lib.hid hdk
        clear hdk
        go_wp2_with (first | (go_at_call 113; refine (decoded_any b (off + 4 * k) (c - 4 * k) _ _ _ _ odd _ hbw h0 h1 h2 h3).mono ?_; rintro e w1 ⟨⟨d, rfl, hd⟩, hb1⟩) | (at_builtin; refine wpList_app rfl _ _ 54 rfl w.heap.size 83 _ 2 12 Tryz.underlying54 info_cell rfl (by omega) (.slice A1 k c1) k (ccells gs) rfl (own_ext (own_ext ho hb1) (by (repeat (first | exact Below.refl _ _ | assumption | refine below_drewN ?_ _ | refine Below.drew ?_ | refine Below.alloc ?_ (by first | exact Nat.le_refl _ | (simp; done) | (simp; omega)) _ | refine Below.setCell ?_ (by first | exact Nat.le_refl _ | (simp; done) | (simp; omega)) _)))) _ 1 1 _ rfl (rd_new _ _ _ _) rfl (fun h => by cases h) (by intro u hu; simp at hu; rcases hu with rfl | rfl <;> rfl) (by unfold maxLen; omega) (by omega) (by have := hb.size; have := hb1.size; simp; omega) ?_; intro v1 w2 hown hg hat))
        go_roundw
        case rel => exact ⟨k + 1, by omega, gs ++ [d], by simp [hgl], by go_num, by simpa [snoc2] using hown, Lib.hid (cnC_snoc hcn.out hkd (by rw [hd, HD.out])), ext_grow (base := w.heap.size) ((hb.trans hb1).alloc _) (own_ext (own_ext ho hb1) (by (repeat (first | exact Below.refl _ _ | assumption | refine below_drewN ?_ _ | refine Below.drew ?_ | refine Below.alloc ?_ (by first | exact Nat.le_refl _ | (simp; done) | (simp; omega)) _ | refine Below.setCell ?_ (by first | exact Nat.le_refl _ | (simp; done) | (simp; omega)) _)))) (Nat.le_refl _) hg⟩
        case measure => simp [intOf]; omega
      · have hend : 4 * k = rs.length := by omega
        have hcn2 : cnC gs = Fx.decode odd (cns rs) := by rw [hcn.out]; apply List.take_of_length_le; rw [decode_len, List.length_map]; omega
        have HT := Lib.hid (decodeOk_row h4 hcn2)
        have HC := Lib.hid hcn2
        clear hcn2
        have hlo := iRowOk_any A1 c1 gs wr (by have := (own_rd ho); exact this) (by unfold maxLen; omega)
        rw [hgl] at hlo
        cases hlg : rowOk gs
        · have HG := Lib.hid hlg
          go_wp2_with (go_at_call 91; refine hlo.mono ?_; rintro e w2 ⟨rfl, hb2⟩; rw [hlg])
          go_ret2
          exact ⟨⟨_, [], by rw [HT.out, HG.out]; rfl, World.ownsRow_nil _ _ _ _, by rw [decodeR_not (by rw [HT.out, HG.out])]; rfl⟩, hb.trans hb2⟩
        · have HG := Lib.hid hlg
          go_wp2_with (go_at_call 91; refine hlo.mono ?_; rintro e w2 ⟨rfl, hb2⟩; rw [hlg])
          go_ret2
          refine ⟨⟨.slice A1 k c1, gs, by rw [HT.out, HG.out]; rfl, ?_, by rw [decodeR_ok (by rw [HT.out, HG.out]), HC.out]⟩, hb.trans hb2⟩
          unfold OC
          rw [hgl]
          exact own_ext ho hb2
  · have HN := Lib.hid (decodeOk_of4 (odd := odd) h4)
    have hz : ((rs.length : Int) % 4 == 0) = false := by rw [beq_eq_false_iff_ne]; omega
    go_enter Tryz.func101, Tryz.ntmps101
    go_wp2_with fail
    go_ret2
    exact ⟨⟨_, [], by rw [HN.out]; rfl, World.ownsRow_nil _ _ _ _, by rw [decodeR_not HN.out]; rfl⟩, Ext.refl _⟩
set_option maxRecDepth 100000 in
set_option maxHeartbeats 4000000 in
theorem sDecodeCells_any (A : Option Addr) (c : Nat) (rs : List Nat) (odd : Bool) (w : World) (h : Rd w A (rs.map fl)) (hn : rs.length ≤ 1048576) (hc : rs.length ≤ c) :
    Calls Tryz.prog 94 #[.slice A rs.length c, .bool odd] w fun e w' => (∃ v gs, e = .returned (.tuple #[v, .bool (decodeOk odd rs)]) ∧ OC w' w.heap.size v gs ∧ cnC gs = decodeR odd rs) ∧ Ext w w' := by
  have H := Lib.hid h
  clear h
  have ha : Ext w (w.alloc (.cells #[] 83)) := (Ext.refl _).alloc _
  have hnew := own_new w w.heap.size 83 2 (Nat.le_refl _)
  by_cases h4 : rs.length % 4 = 0
  · have hz : ((rs.length : Int) % 4 == 0) = true := by rw [beq_iff_eq]; omega
    by_cases hbig : 256 < rs.length
    · have HN := Lib.hid (decodeOk_big (odd := odd) hbig)
      go_enter Tryz.func94, Tryz.ntmps94
      go_wp2_with fail
      go_ret2
      exact ⟨⟨_, [], by rw [HN.out]; rfl, hnew, by rw [decodeR_not HN.out]; rfl⟩, ha⟩
    go_enter Tryz.func94, Tryz.ntmps94
    go_wp2_with fail
    go_loopw [6, 7, 8] (fun v i p wr => ∃ (k : Nat) (gs : List Cel), 4 * k ≤ rs.length ∧ gs.length = k ∧ i = .int .i64 (4 * (k : Int)) ∧ wr.ownsRow w.heap.size 83 2 v k (ccells gs) ∧ Hid (cnC gs = (Fx.decode odd (cns rs)).take k) ∧ Ext w wr) (fun _ i _ _ => rs.length - (intOf i).toNat)
    case atStart => exact ⟨0, [], by omega, rfl, rfl, hnew, Lib.hid (by simp), ha⟩
    case round =>
      obtain ⟨k, gs, hjl, hgl, rfl, ho, hcn, hb⟩ := hrel
      clear hnew ha
      obtain ⟨A1, c1, rfl, -, -⟩ := own_slice ho
      by_cases hlt : 4 * k < rs.length
      · have hx : 4 * k + 3 < rs.length := by omega
        have htk := sTake_any A c rs (4 * k) wr (H.out.ext hb) hx hn
        rw [show ((4 * k : Nat) : Int) = 4 * (k : Int) by omega] at htk
        obtain ⟨hkd, hdk⟩ := dec1_at odd (k := k) hx
        have HD := Lib.hid hdk
        clear hdk
        cases odd
        · go_wp2_with (first | (go_at_call 109; refine htk.mono ?_; rintro e w1 ⟨⟨d, rfl, hd⟩, hb1⟩) | (at_builtin; refine wpList_app rfl _ _ 54 rfl w.heap.size 83 _ 2 12 Tryz.underlying54 info_cell rfl (by omega) (.slice A1 k c1) k (ccells gs) rfl (own_ext (own_ext ho hb1) (by (repeat (first | exact Below.refl _ _ | assumption | refine below_drewN ?_ _ | refine Below.drew ?_ | refine Below.alloc ?_ (by first | exact Nat.le_refl _ | (simp; done) | (simp; omega)) _ | refine Below.setCell ?_ (by first | exact Nat.le_refl _ | (simp; done) | (simp; omega)) _)))) _ 1 1 _ rfl (rd_at (by simp [World.setCell])) rfl (fun h => by cases h) (by intro u hu; simp at hu; rcases hu with rfl | rfl <;> rfl) (by unfold maxLen; omega) (by omega) (by have := hb.size; have := hb1.size; simp [World.setCell]; omega) ?_; intro v1 w2 hown hg hat))
          go_roundw
          case rel => exact ⟨k + 1, gs ++ [d], by omega, by simp [hgl], by go_num, by simpa [snoc2] using hown, Lib.hid (cnC_snoc hcn.out hkd (by rw [HD.out]; exact hd)), ext_grow (base := w.heap.size) (hb.trans (hb1.trans (by (repeat (first | exact Below.refl _ _ | assumption | refine below_drewN ?_ _ | refine Below.drew ?_ | refine Below.alloc ?_ (by first | exact Nat.le_refl _ | (simp; done) | (simp; omega)) _ | refine Below.setCell ?_ (by first | exact Nat.le_refl _ | (simp; done) | (simp; omega)) _))))) (own_ext (own_ext ho hb1) (by (repeat (first | exact Below.refl _ _ | assumption | refine below_drewN ?_ _ | refine Below.drew ?_ | refine Below.alloc ?_ (by first | exact Nat.le_refl _ | (simp; done) | (simp; omega)) _ | refine Below.setCell ?_ (by first | exact Nat.le_refl _ | (simp; done) | (simp; omega)) _)))) (Nat.le_refl _) hg⟩
          case measure => simp [intOf]; omega
        · go_wp2_with (first | (go_at_call 109; refine htk.mono ?_; rintro e w1 ⟨⟨d, rfl, hd⟩, hb1⟩) | (go_at_call 75; refine (sConj_any _ _ _).mono ?_; rintro e w1 ⟨rfl, rfl⟩) | (at_builtin; refine wpList_app rfl _ _ 54 rfl w.heap.size 83 _ 2 12 Tryz.underlying54 info_cell rfl (by omega) (.slice A1 k c1) k (ccells gs) rfl (own_ext (own_ext ho hb1) (by (repeat (first | exact Below.refl _ _ | assumption | refine below_drewN ?_ _ | refine Below.drew ?_ | refine Below.alloc ?_ (by first | exact Nat.le_refl _ | (simp; done) | (simp; omega)) _ | refine Below.setCell ?_ (by first | exact Nat.le_refl _ | (simp; done) | (simp; omega)) _)))) _ 1 1 _ rfl (rd_at (by simp [World.setCell])) rfl (fun h => by cases h) (by intro u hu; simp at hu; rcases hu with rfl | rfl <;> rfl) (by unfold maxLen; omega) (by omega) (by have := hb.size; have := hb1.size; simp [World.setCell]; omega) ?_; intro v1 w2 hown hg hat))
          go_roundw
          case rel => exact ⟨k + 1, gs ++ [⟨d.y, d.re, Op.negFloat .f32 d.im⟩], by omega, by simp [hgl], by go_num, by simpa [snoc2] using hown, Lib.hid (cnC_snoc hcn.out hkd (by rw [HD.out]; rw [← dec1_odd, ← hd]; simp [Cel.cn, cn_negF, conjC])), ext_grow (base := w.heap.size) (hb.trans (hb1.trans (by (repeat (first | exact Below.refl _ _ | assumption | refine below_drewN ?_ _ | refine Below.drew ?_ | refine Below.alloc ?_ (by first | exact Nat.le_refl _ | (simp; done) | (simp; omega)) _ | refine Below.setCell ?_ (by first | exact Nat.le_refl _ | (simp; done) | (simp; omega)) _))))) (own_ext (own_ext ho hb1) (by (repeat (first | exact Below.refl _ _ | assumption | refine below_drewN ?_ _ | refine Below.drew ?_ | refine Below.alloc ?_ (by first | exact Nat.le_refl _ | (simp; done) | (simp; omega)) _ | refine Below.setCell ?_ (by first | exact Nat.le_refl _ | (simp; done) | (simp; omega)) _)))) (Nat.le_refl _) hg⟩
          case measure => simp [intOf]; omega
      · have hend : 4 * k = rs.length := by omega
        have hcn2 : cnC gs = Fx.decode odd (cns rs) := by rw [hcn.out]; apply List.take_of_length_le; rw [decode_len, List.length_map]; omega
        have HT := Lib.hid (decodeOk_row h4 hcn2)
        have HC := Lib.hid hcn2
        clear hcn2
        have hlo := sRowOk_any A1 c1 gs wr (by have := (own_rd ho); exact this) (by unfold maxLen; omega)
        rw [hgl] at hlo
        cases hlg : rowOk gs
        · have HG := Lib.hid hlg
          go_wp2_with (go_at_call 79; refine hlo.mono ?_; rintro e w2 ⟨rfl, hb2⟩; rw [hlg])
          go_ret2
          exact ⟨⟨_, [], by rw [HT.out, HG.out]; rfl, own_new w2 _ _ 2 (Nat.le_trans hb.size hb2.size), by rw [decodeR_not (by rw [HT.out, HG.out])]; rfl⟩, (hb.trans hb2).alloc _⟩
        · have HG := Lib.hid hlg
          go_wp2_with (go_at_call 79; refine hlo.mono ?_; rintro e w2 ⟨rfl, hb2⟩; rw [hlg])
          go_ret2
          refine ⟨⟨.slice A1 k c1, gs, by rw [HT.out, HG.out]; rfl, ?_, by rw [decodeR_ok (by rw [HT.out, HG.out]), HC.out]⟩, hb.trans hb2⟩
          unfold OC
          rw [hgl]
          exact own_ext ho hb2
  · have HN := Lib.hid (decodeOk_of4 (odd := odd) h4)
    have hz : ((rs.length : Int) % 4 == 0) = false := by rw [beq_eq_false_iff_ne]; omega
    go_enter Tryz.func94, Tryz.ntmps94
    go_wp2_with fail
    go_ret2
    exact ⟨⟨_, [], by rw [HN.out]; rfl, hnew, by rw [decodeR_not HN.out]; rfl⟩, ha⟩
end Go.Proofs.YtiddaabodkglmaaGreat
end
section
namespace Go.Fx
theorem rest_drop (rs : List Nat) : rs.drop 24 = cutF rs 24 (rs.length - 24) := by
  unfold cutF
  rw [List.take_of_length_le (by simp)]
theorem alone_is (odd : Bool) {rs : List Nat} (h : lineOk rs = true) : aloneOk odd rs = decodeOk odd (cutF rs 24 (rs.length - 24)) ∧ alone odd rs = decodeR odd (cutF rs 24 (rs.length - 24)) := by
  rw [← rest_drop]
  exact ⟨by unfold aloneOk; rw [h, Bool.true_and], by rw [alone_of, if_pos h]⟩
theorem alone_not (odd : Bool) {rs : List Nat} (h : lineOk rs = false) : aloneOk odd rs = false ∧ alone odd rs = [] :=
  ⟨by unfold aloneOk; rw [h, Bool.false_and], by rw [alone_of, h]; rfl⟩
end Go.Fx
namespace Go.Proofs.YtiddaabodkglmaaGreat
open Go.RowKit Go.Fx
set_option linter.unusedVariables false
set_option linter.unusedSimpArgs false
set_option maxRecDepth 100000 in
theorem iCellsOf_any (A : Option Addr) (c : Nat) (rs : List Nat) (w : World) (h : Rd w A (rs.map fl)) (hn : rs.length ≤ maxLen) (hc : rs.length ≤ c) (hl : lineOk rs = true) :
    Calls Tryz.prog 102 #[.slice A rs.length c] w fun e w' => (∃ v, e = .returned v ∧ OF w' w.heap.size v (cutF rs 24 (rs.length - 24))) ∧ Ext w w' := by
  have hll := lineOk_len hl
  have hp := iPart_any A c rs 24 (rs.length - 24) w h hn hc (by omega) (fun e => by omega)
  rw [show 24 + (rs.length - 24) = rs.length by omega, if_pos hl] at hp
  go_enter Tryz.func102, Tryz.ntmps102
  go_wp2_with (go_at_call 98; refine hp.mono ?_; rintro e w1 ⟨⟨v, rfl, ho⟩, hb⟩)
  go_ret
  exact ⟨⟨_, rfl, ho⟩, hb⟩
set_option maxRecDepth 100000 in
theorem sCellsOf_any (A : Option Addr) (c : Nat) (rs : List Nat) (w : World) (h : Rd w A (rs.map fl)) (hn : rs.length ≤ maxLen) (hc : rs.length ≤ c) (hl : lineOk rs = true) :
    Calls Tryz.prog 95 #[.slice A rs.length c] w fun e w' => (∃ v, e = .returned v ∧ OF w' w.heap.size v (cutF rs 24 (rs.length - 24))) ∧ Ext w w' := by
  have hll := lineOk_len hl
  have hp := sPart_any A c rs 24 (rs.length - 24) w h hn hc (by omega) (fun e => by omega)
  rw [show 24 + (rs.length - 24) = rs.length by omega, if_pos hl] at hp
  go_enter Tryz.func95, Tryz.ntmps95
  go_wp2_with (first | (go_at_call 18; refine (head_any _).mono ?_; rintro e w1 ⟨rfl, rfl⟩) | (go_at_call 93; refine hp.mono ?_; rintro e w1 ⟨⟨v, rfl, ho⟩, hb⟩))
  go_ret
  exact ⟨⟨_, rfl, ho⟩, hb⟩
set_option maxRecDepth 100000 in
theorem iDecodeAlone_any (A : Option Addr) (c : Nat) (rs : List Nat) (odd : Bool) (w : World) (h : Rd w A (rs.map fl)) (hn : rs.length ≤ 1048576) (hc : rs.length ≤ c) :
    Calls Tryz.prog 84 #[.slice A rs.length c, .bool odd] w fun e w' => (∃ v gs, e = .returned (.tuple #[v, .bool (aloneOk odd rs)]) ∧ OC w' w.heap.size v gs ∧ cnC gs = alone odd rs) ∧ Ext w w' := by
  have H := Lib.hid h
  have hm : rs.length ≤ maxLen := by unfold maxLen; omega
  clear h
  cases hl : lineOk rs
  · have HN := Lib.hid (alone_not odd hl)
    go_enter Tryz.func84, Tryz.ntmps84
    go_wp2_with (go_at_call 58; refine (iLineOk_any _ _ _ _ H.out hm).mono ?_; rintro e w1 ⟨rfl, rfl⟩; rw [hl])
    go_ret2
    exact ⟨⟨_, [], by rw [HN.out.1]; rfl, World.ownsRow_nil _ _ _ _, by rw [HN.out.2]; rfl⟩, Ext.refl _⟩
  · have HN := Lib.hid (alone_is odd hl)
    have hcl := iCellsOf_any A c rs w H.out hm hc hl
    have hlen : (cutF rs 24 (rs.length - 24)).length ≤ 1048576 := by simp; omega
    generalize cutF rs 24 (rs.length - 24) = ts at hcl hlen HN
    go_enter Tryz.func84, Tryz.ntmps84
    go_wp2_with (first | (go_at_call 58; refine (iLineOk_any _ _ _ _ H.out hm).mono ?_; rintro e w1 ⟨rfl, rfl⟩; rw [hl]) | (go_at_call 102; refine Calls.mono hcl ?_; rintro e w1 ⟨⟨v, rfl, ho⟩, hb1⟩; obtain ⟨A1, c1, rfl, -, -⟩ := own_slice ho) | (go_at_call 101; refine (iDecodeCells_any A1 c1 ts odd _ (own_rd ho) hlen (own_cap ho)).mono ?_; rintro e w2 ⟨⟨v2, gs, rfl, ho2, hg2⟩, hb2⟩))
    go_ret2
    exact ⟨⟨v2, gs, by rw [HN.out.1]; rfl, own_base ho2 hb1.size, by rw [HN.out.2]; exact hg2⟩, hb1.trans hb2⟩
set_option maxRecDepth 100000 in
theorem sDecodeAlone_any (A : Option Addr) (c : Nat) (rs : List Nat) (odd : Bool) (w : World) (h : Rd w A (rs.map fl)) (hn : rs.length ≤ 1048576) (hc : rs.length ≤ c) :
    Calls Tryz.prog 73 #[.slice A rs.length c, .bool odd] w fun e w' => (∃ v gs, e = .returned (.tuple #[v, .bool (aloneOk odd rs)]) ∧ OC w' w.heap.size v gs ∧ cnC gs = alone odd rs) ∧ Ext w w' := by
  have H := Lib.hid h
  have hm : rs.length ≤ maxLen := by unfold maxLen; omega
  clear h
  cases hl : lineOk rs
  · have HN := Lib.hid (alone_not odd hl)
    go_enter Tryz.func73, Tryz.ntmps73
    go_wp2_with (go_at_call 41; refine (sLineOk_any _ _ _ _ H.out hm).mono ?_; rintro e w1 ⟨rfl, rfl⟩; rw [hl])
    go_ret2
    exact ⟨⟨_, [], by rw [HN.out.1]; rfl, own_new w _ _ 2 (Nat.le_refl _), by rw [HN.out.2]; rfl⟩, (Ext.refl _).alloc _⟩
  · have HN := Lib.hid (alone_is odd hl)
    have hcl := sCellsOf_any A c rs w H.out hm hc hl
    have hlen : (cutF rs 24 (rs.length - 24)).length ≤ 1048576 := by simp; omega
    generalize cutF rs 24 (rs.length - 24) = ts at hcl hlen HN
    go_enter Tryz.func73, Tryz.ntmps73
    go_wp2_with (first | (go_at_call 41; refine (sLineOk_any _ _ _ _ H.out hm).mono ?_; rintro e w1 ⟨rfl, rfl⟩; rw [hl]) | (go_at_call 95; refine Calls.mono hcl ?_; rintro e w1 ⟨⟨v, rfl, ho⟩, hb1⟩; obtain ⟨A1, c1, rfl, -, -⟩ := own_slice ho) | (go_at_call 94; refine (sDecodeCells_any A1 c1 ts odd _ (own_rd ho) hlen (own_cap ho)).mono ?_; rintro e w2 ⟨⟨v2, gs, rfl, ho2, hg2⟩, hb2⟩))
    go_ret2
    exact ⟨⟨v2, gs, by rw [HN.out.1]; rfl, own_base ho2 hb1.size, by rw [HN.out.2]; exact hg2⟩, hb1.trans hb2⟩
end Go.Proofs.YtiddaabodkglmaaGreat
end
section
namespace Go.Fx
theorem bc_not {rs : List Nat} (h : bcOk rs = false) : bcRe rs = 0 ∧ bcIm rs = 0 := by unfold bcRe bcIm; rw [h]; exact ⟨rfl, rfl⟩
theorem bc_is {rs : List Nat} {gs : List Cel} (h : bcOk rs = true) (hg : cnC gs = bcRow rs) : bcRe rs = quo32 (sumN (gs.map Cel.re) 3) 1082130432 ∧ bcIm rs = quo32 (sumN (gs.map Cel.im) 3) 1082130432 := by
  unfold bcRe bcIm; rw [if_pos h, if_pos h, sum_re hg, sum_im hg]; exact ⟨rfl, rfl⟩
theorem sumN_next {rs : List Nat} {k x y : Nat} (h : cn .f32 x = sumN rs k) (hk : k + 1 < rs.length) (hy : cn .f32 y = add32 (cn .f32 x) (cn .f32 rs[k + 1])) : cn .f32 y = sumN rs (k + 1) := by
  rw [hy, h, sumN]; simp [List.getD_eq_getElem?_getD, hk]
end Go.Fx
namespace Go.Proofs.YtiddaabodkglmaaGreat
open Go.RowKit Go.Fx
set_option linter.unusedVariables false
set_option linter.unusedSimpArgs false
set_option maxRecDepth 100000 in
set_option maxHeartbeats 4000000 in
theorem sBurstColour_any (A : Option Addr) (c : Nat) (rs : List Nat) (w : World) (h : Rd w A (rs.map fl)) (hn : rs.length ≤ 1048576) (hc : rs.length ≤ c) :
    Calls Tryz.prog 77 #[.slice A rs.length c] w fun e w' => (∃ re im, e = .returned (.tuple #[.complex .f32 re im, .bool (bcOk rs)]) ∧ cn .f32 re = bcRe rs ∧ cn .f32 im = bcIm rs) ∧ Ext w w' := by
  have hm : rs.length ≤ maxLen := by unfold maxLen; omega
  have H := Lib.hid h
  clear h
  have hbl : (brst rs).length ≤ 1048576 := by unfold brst; split <;> simp; omega
  have h0 : cn .f32 0 = 0 := by decide +kernel
  cases hl : lineOk rs
  · have hok : bcOk rs = false := by unfold bcOk; rw [hl]; rfl
    have HB := Lib.hid (bc_not hok)
    have HO := Lib.hid hok
    clear hok
    go_enter Tryz.func77, Tryz.ntmps77
    go_wp2_with (first | (go_at_call 71; refine (sBurstOf_any _ _ _ _ H.out hm hc).mono ?_; rintro e w1 ⟨⟨v, rfl, ho⟩, hb1⟩; obtain ⟨A1, c1, rfl, -, -⟩ := own_slice ho) | (go_at_call 94; refine (sDecodeCells_any A1 c1 (brst rs) false _ (own_rd ho) hbl (own_cap ho)).mono ?_; rintro e w2 ⟨⟨v2, gs, rfl, ho2, hg2⟩, hb2⟩) | (go_at_call 41; refine (sLineOk_any _ _ _ _ ((H.out.ext hb1).ext hb2) hm).mono ?_; rintro e w3 ⟨rfl, rfl⟩; rw [hl]))
    go_ret2
    exact ⟨⟨0, 0, by rw [HO.out]; rfl, by rw [HB.out.1, h0], by rw [HB.out.2, h0]⟩, hb1.trans hb2⟩
  · cases hd : decodeOk false (brst rs)
    · have hok : bcOk rs = false := by unfold bcOk; rw [hl, hd]; rfl
      have HB := Lib.hid (bc_not hok)
      have HO := Lib.hid hok
      clear hok
      go_enter Tryz.func77, Tryz.ntmps77
      go_wp2_with (first | (go_at_call 71; refine (sBurstOf_any _ _ _ _ H.out hm hc).mono ?_; rintro e w1 ⟨⟨v, rfl, ho⟩, hb1⟩; obtain ⟨A1, c1, rfl, -, -⟩ := own_slice ho) | (go_at_call 94; refine (sDecodeCells_any A1 c1 (brst rs) false _ (own_rd ho) hbl (own_cap ho)).mono ?_; rintro e w2 ⟨⟨v2, gs, rfl, ho2, hg2⟩, hb2⟩; rw [hd]) | (go_at_call 41; refine (sLineOk_any _ _ _ _ ((H.out.ext hb1).ext hb2) hm).mono ?_; rintro e w3 ⟨rfl, rfl⟩; rw [hl]))
      go_ret2
      exact ⟨⟨0, 0, by rw [HO.out]; rfl, by rw [HB.out.1, h0], by rw [HB.out.2, h0]⟩, hb1.trans hb2⟩
    · have hok : bcOk rs = true := by unfold bcOk; rw [hl, hd]; rfl
      have HO := Lib.hid hok
      have hrl := bcRow_len hl
      have HR : Hid (decodeR false (brst rs) = bcRow rs) := Lib.hid (decodeR_ok hd)
      clear hok
      go_enter Tryz.func77, Tryz.ntmps77
      go_wp2_with (first | (go_at_call 71; refine (sBurstOf_any _ _ _ _ H.out hm hc).mono ?_; rintro e w1 ⟨⟨v, rfl, ho⟩, hb1⟩; obtain ⟨A1, c1, rfl, -, -⟩ := own_slice ho) | (go_at_call 94; refine (sDecodeCells_any A1 c1 (brst rs) false _ (own_rd ho) hbl (own_cap ho)).mono ?_; rintro e w2 ⟨⟨v2, gs, rfl, ho2, hg2⟩, hb2⟩; rw [hd]; rw [HR.out] at hg2; have hgl := (cnC_len hg2).trans hrl; have HG := Lib.hid hg2; clear hg2; unfold OC at ho2; rw [hgl] at ho2; obtain ⟨A2, c2, rfl, hr2, -⟩ := own_slice ho2; obtain ⟨b, off, rfl, hbw, hy0, hc0⟩ := rc_at hr2 (i := 0) (by omega); rw [Nat.zero_mul, Nat.add_zero] at hy0 hc0) | (go_at_call 41; refine (sLineOk_any _ _ _ _ ((H.out.ext hb1).ext hb2) hm).mono ?_; rintro e w3 ⟨rfl, rfl⟩; rw [hl]))
      have HB2 := Lib.hid (hb1.trans hb2)
      have HR2 := Lib.hid hr2
      clear hr2 ho2 ho hb1 hb2 H
      go_loopw [6, 7, 8] (fun s t i wr => ∃ (k x y : Nat), k < 4 ∧ i = .int .i64 (k + 1) ∧ s = .float .f32 x ∧ t = .float .f32 y ∧ Hid (cn .f32 x = sumN (gs.map Cel.re) k) ∧ Hid (cn .f32 y = sumN (gs.map Cel.im) k) ∧ ∃ n, wr = w2.drewN n) (fun _ _ i _ => 5 - (intOf i).toNat)
      case atStart => exact ⟨0, _, _, by omega, rfl, rfl, rfl, Lib.hid (by simp [sumN, hgl]), Lib.hid (by simp [sumN, hgl]), 0, rfl⟩
      case round =>
        obtain ⟨k, x, y, hk, rfl, rfl, rfl, HX, HY, n, rfl⟩ := hrel
        clear hy0 hc0
        by_cases hlt : k + 1 < 4
        · obtain ⟨b', off', hbo, hbw', hy1, hc1⟩ := rc_at HR2.out (i := k + 1) (by omega)
          cases hbo
          have HX2 : Hid (∀ z, cn .f32 z = add32 (cn .f32 x) (cn .f32 gs[k + 1].re) → cn .f32 z = sumN (gs.map Cel.re) (k + 1)) := Lib.hid (fun z hz => sumN_next HX.out (by rw [List.length_map]; omega) (by rw [hz]; simp))
          have HY2 : Hid (∀ z, cn .f32 z = add32 (cn .f32 y) (cn .f32 gs[k + 1].im) → cn .f32 z = sumN (gs.map Cel.im) (k + 1)) := Lib.hid (fun z hz => sumN_next HY.out (by rw [List.length_map]; omega) (by rw [hz]; simp))
          go_wp2_with (with_reducible first | (refine upon_add ?_; intro b n hb) | (refine upon_sub ?_; intro b n hb) | (refine upon_mul ?_; intro b n hb) | (refine upon_quo ?_; intro b n hb))
          rename_i b1 n1 e1
          go_roundw
          case rel => exact ⟨k + 1, b1, b, hlt, by go_num, rfl, rfl, Lib.hid (HX2.out _ e1), Lib.hid (HY2.out _ hb), _, rfl⟩
          case measure => simp [intOf]; omega
        · have hk3 : k = 3 := by omega
          have HV := Lib.hid (bc_is HO.out HG.out)
          go_wp2_with (with_reducible first | (refine upon_add ?_; intro b n hb) | (refine upon_sub ?_; intro b n hb) | (refine upon_mul ?_; intro b n hb) | (refine upon_quo ?_; intro b n hb))
          rename_i b1 n1 e1
          go_ret2
          rw [c4_0] at e1 hb
          refine ⟨⟨b1, b, by rw [HO.out]; rfl, ?_, ?_⟩, HB2.out.trans (by (repeat (first | exact Below.refl _ _ | assumption | refine below_drewN ?_ _ | refine Below.drew ?_ | refine Below.alloc ?_ (by first | exact Nat.le_refl _ | (simp; done) | (simp; omega)) _ | refine Below.setCell ?_ (by first | exact Nat.le_refl _ | (simp; done) | (simp; omega)) _)))⟩
          · rw [e1, HX.out, HV.out.1, hk3]
          · rw [hb, HY.out, HV.out.2, hk3]
set_option maxRecDepth 100000 in
set_option maxHeartbeats 4000000 in
theorem iBurstColour_any (A : Option Addr) (c : Nat) (rs : List Nat) (w : World) (h : Rd w A (rs.map fl)) (hn : rs.length ≤ 1048576) (hc : rs.length ≤ c) :
    Calls Tryz.prog 105 #[.slice A rs.length c] w fun e w' => (∃ re im, e = .returned (.tuple #[.complex .f32 re im, .bool (bcOk rs)]) ∧ cn .f32 re = bcRe rs ∧ cn .f32 im = bcIm rs) ∧ Ext w w' := by
  have hm : rs.length ≤ maxLen := by unfold maxLen; omega
  have H := Lib.hid h
  clear h
  have hbl : (brst rs).length ≤ 1048576 := by unfold brst; split <;> simp; omega
  have h0 : cn .f32 0 = 0 := by decide +kernel
  cases hl : lineOk rs
  · have hok : bcOk rs = false := by unfold bcOk; rw [hl]; rfl
    have HB := Lib.hid (bc_not hok)
    have HO := Lib.hid hok
    clear hok
    go_enter Tryz.func105, Tryz.ntmps105
    go_wp2_with (first | (go_at_call 82; refine (iBurstOf_any _ _ _ _ H.out hm hc).mono ?_; rintro e w1 ⟨⟨v, rfl, ho⟩, hb1⟩; obtain ⟨A1, c1, rfl, -, -⟩ := own_slice ho) | (go_at_call 101; refine (iDecodeCells_any A1 c1 (brst rs) false _ (own_rd ho) hbl (own_cap ho)).mono ?_; rintro e w2 ⟨⟨v2, gs, rfl, ho2, hg2⟩, hb2⟩) | (go_at_call 58; refine (iLineOk_any _ _ _ _ ((H.out.ext hb1).ext hb2) hm).mono ?_; rintro e w3 ⟨rfl, rfl⟩; rw [hl]))
    go_ret2
    exact ⟨⟨0, 0, by rw [HO.out]; rfl, by rw [HB.out.1, h0], by rw [HB.out.2, h0]⟩, hb1.trans hb2⟩
  · cases hd : decodeOk false (brst rs)
    · have hok : bcOk rs = false := by unfold bcOk; rw [hl, hd]; rfl
      have HB := Lib.hid (bc_not hok)
      have HO := Lib.hid hok
      clear hok
      go_enter Tryz.func105, Tryz.ntmps105
      go_wp2_with (first | (go_at_call 82; refine (iBurstOf_any _ _ _ _ H.out hm hc).mono ?_; rintro e w1 ⟨⟨v, rfl, ho⟩, hb1⟩; obtain ⟨A1, c1, rfl, -, -⟩ := own_slice ho) | (go_at_call 101; refine (iDecodeCells_any A1 c1 (brst rs) false _ (own_rd ho) hbl (own_cap ho)).mono ?_; rintro e w2 ⟨⟨v2, gs, rfl, ho2, hg2⟩, hb2⟩; rw [hd]) | (go_at_call 58; refine (iLineOk_any _ _ _ _ ((H.out.ext hb1).ext hb2) hm).mono ?_; rintro e w3 ⟨rfl, rfl⟩; rw [hl]))
      go_ret2
      exact ⟨⟨0, 0, by rw [HO.out]; rfl, by rw [HB.out.1, h0], by rw [HB.out.2, h0]⟩, hb1.trans hb2⟩
    · have hok : bcOk rs = true := by unfold bcOk; rw [hl, hd]; rfl
      have HO := Lib.hid hok
      have hrl := bcRow_len hl
      have HR : Hid (decodeR false (brst rs) = bcRow rs) := Lib.hid (decodeR_ok hd)
      clear hok
      go_enter Tryz.func105, Tryz.ntmps105
      go_wp2_with (first | (go_at_call 82; refine (iBurstOf_any _ _ _ _ H.out hm hc).mono ?_; rintro e w1 ⟨⟨v, rfl, ho⟩, hb1⟩; obtain ⟨A1, c1, rfl, -, -⟩ := own_slice ho) | (go_at_call 101; refine (iDecodeCells_any A1 c1 (brst rs) false _ (own_rd ho) hbl (own_cap ho)).mono ?_; rintro e w2 ⟨⟨v2, gs, rfl, ho2, hg2⟩, hb2⟩; rw [hd]; rw [HR.out] at hg2; have hgl := (cnC_len hg2).trans hrl; have HG := Lib.hid hg2; clear hg2; unfold OC at ho2; rw [hgl] at ho2; obtain ⟨A2, c2, rfl, hr2, -⟩ := own_slice ho2; have hcp2 := own_cap ho2; obtain ⟨b, off, rfl, hbw, hy0, hc0⟩ := rc_at hr2 (i := 0) (by omega); rw [Nat.zero_mul, Nat.add_zero] at hy0 hc0) | (go_at_call 58; refine (iLineOk_any _ _ _ _ ((H.out.ext hb1).ext hb2) hm).mono ?_; rintro e w3 ⟨rfl, rfl⟩; rw [hl]))
      have HB2 := Lib.hid (hb1.trans hb2)
      have HR2 := Lib.hid hr2
      clear hr2 ho2 ho hb1 hb2 H
      go_loopw [6, 8, 29] (fun s p i wr => ∃ (k x y : Nat), k < 4 ∧ i = .int .i64 k ∧ s = .complex .f32 x y ∧ Hid (cn .f32 x = sumN (gs.map Cel.re) k) ∧ Hid (cn .f32 y = sumN (gs.map Cel.im) k) ∧ Ext w2 wr) (fun _ _ i _ => 5 - (intOf i).toNat)
      case atStart => exact ⟨0, _, _, by omega, rfl, rfl, Lib.hid (by simp [sumN, hgl]), Lib.hid (by simp [sumN, hgl]), Ext.refl _⟩
      case round =>
        obtain ⟨k, x, y, hk, rfl, rfl, HX, HY, hbr⟩ := hrel
        clear hy0 hc0
        by_cases hlt : k + 1 < 4
        · obtain ⟨b', off', hbo, hbw', hy1, hc1⟩ := rc_at (HR2.out.ext hbr) (i := k + 1) (by omega)
          cases hbo
          rw [show off + (k + 1) * 2 = off + 2 + k * 2 by omega] at hy1 hc1
          have HX2 : Hid (∀ z, cn .f32 z = add32 (cn .f32 x) (cn .f32 gs[k + 1].re) → cn .f32 z = sumN (gs.map Cel.re) (k + 1)) := Lib.hid (fun z hz => sumN_next HX.out (by rw [List.length_map]; omega) (by rw [hz]; simp))
          have HY2 : Hid (∀ z, cn .f32 z = add32 (cn .f32 y) (cn .f32 gs[k + 1].im) → cn .f32 z = sumN (gs.map Cel.im) (k + 1)) := Lib.hid (fun z hz => sumN_next HY.out (by rw [List.length_map]; omega) (by rw [hz]; simp))
          go_wp2_with (go_at_call 89; refine (plus_any _ _ _ _ _).mono ?_; rintro e w3 ⟨⟨x1, y1, rfl, e1, e2⟩, n3, rfl⟩)
          go_roundw
          case rel => exact ⟨k + 1, x1, y1, hlt, by go_num, rfl, Lib.hid (HX2.out _ e1), Lib.hid (HY2.out _ e2), hbr.trans (by (repeat (first | exact Below.refl _ _ | assumption | refine below_drewN ?_ _ | refine Below.drew ?_ | refine Below.alloc ?_ (by first | exact Nat.le_refl _ | (simp; done) | (simp; omega)) _ | refine Below.setCell ?_ (by first | exact Nat.le_refl _ | (simp; done) | (simp; omega)) _)))⟩
          case measure => simp [intOf]; omega
        · have hk3 : k = 3 := by omega
          have HV := Lib.hid (bc_is HO.out HG.out)
          go_wp2_with (with_reducible first | (refine upon_add ?_; intro b n hb) | (refine upon_sub ?_; intro b n hb) | (refine upon_mul ?_; intro b n hb) | (refine upon_quo ?_; intro b n hb))
          rename_i b1 n1 e1
          go_ret2
          rw [c4_0] at e1 hb
          refine ⟨⟨b1, b, by rw [HO.out]; rfl, ?_, ?_⟩, HB2.out.trans (hbr.trans (by (repeat (first | exact Below.refl _ _ | assumption | refine below_drewN ?_ _ | refine Below.drew ?_ | refine Below.alloc ?_ (by first | exact Nat.le_refl _ | (simp; done) | (simp; omega)) _ | refine Below.setCell ?_ (by first | exact Nat.le_refl _ | (simp; done) | (simp; omega)) _))))⟩
          · rw [e1, HX.out, HV.out.1, hk3]
          · rw [hb, HY.out, HV.out.2, hk3]
end Go.Proofs.YtiddaabodkglmaaGreat
end
section
namespace Go.Fx
theorem cm32 : cn .f32 3254779904 = 3254779904 := by decide +kernel
theorem amt_cn (x : Nat) : amt (cn .f32 x) = amt x := by unfold amt; rw [flt_cn_l, cn_cn, ← cn_neg]; rfl
theorem flt_amt {b x c : Nat} (h : cn .f32 b = amt x) : flt .f32 b c = flt .f32 (amt x) c := by rw [← h, flt_cn_l]
theorem swing_not {a b : List Nat} (h : (bcOk a && bcOk b) = false) : swing a b = 0 := by unfold swing; rw [if_neg]; rw [h]; decide
theorem hg_not {a b : List Nat} (h : (bcOk a && bcOk b) = false) : hgOk a b = false ∧ hgRe a b = 0 ∧ hgIm a b = 0 := by
  have h1 : hgOk a b = false := h
  unfold hgRe hgIm; rw [h1]; exact ⟨rfl, rfl, rfl⟩
theorem hg_is {a b : List Nat} (h : (bcOk a && bcOk b) = true) : hgOk a b = true ∧ hgRe a b = quo32 (add32 (bcRe a) (bcRe b)) 3254779904 ∧ hgIm a b = quo32 (add32 (bcIm a) (bcIm b)) 3254779904 := by
  have h1 : hgOk a b = true := h
  unfold hgRe hgIm; rw [h1]; exact ⟨rfl, rfl, rfl⟩
theorem swing_is {a b : List Nat} {x : Nat} (h : (bcOk a && bcOk b) = true) (hx : cn .f32 x = swingX a b) : swing a b = if flt .f32 x 0 = true then 1 else if fgt .f32 x 0 = true then -1 else 0 := by
  unfold swing; rw [if_pos h, ← hx, flt_cn_l, fgt_cn_l]
end Go.Fx
namespace Go.Proofs.YtiddaabodkglmaaGreat
open Go.RowKit Go.Fx
set_option linter.unusedVariables false
set_option linter.unusedSimpArgs false
set_option maxRecDepth 100000 in
theorem bursts_any (A B : Option Addr) (c d : Nat) (rs ss : List Nat) (w : World) (h : Rd w A (rs.map fl)) (h' : Rd w B (ss.map fl)) (hn : rs.length ≤ 1048576) (hn' : ss.length ≤ 1048576) (hc : rs.length ≤ c) (hc' : ss.length ≤ d) :
    Calls Tryz.prog 88 #[.slice A rs.length c, .slice B ss.length d] w fun e w' => (∃ p q r s, e = .returned (.tuple #[.complex .f32 p q, .complex .f32 r s, .bool (bcOk rs && bcOk ss)]) ∧ cn .f32 p = bcRe rs ∧ cn .f32 q = bcIm rs ∧ cn .f32 r = bcRe ss ∧ cn .f32 s = bcIm ss) ∧ Ext w w' := by
  have H := Lib.hid h
  have H' := Lib.hid h'
  clear h h'
  cases h1 : bcOk rs
  · go_enter Tryz.func88, Tryz.ntmps88
    go_wp2_with fail
    refine (iBurstColour_any A c rs _ H.out hn hc).mono ?_
    rintro e w1 ⟨⟨p, q, rfl, hp, hq⟩, hb1⟩
    rw [h1]
    have HP := Lib.hid hp
    have HQ := Lib.hid hq
    clear hp hq
    go_wp2_with fail
    refine (iBurstColour_any B d ss _ (H'.out.ext hb1) hn' hc').mono ?_
    rintro e w2 ⟨⟨r, s, rfl, hr, hs⟩, hb2⟩
    have HR := Lib.hid hr
    have HS := Lib.hid hs
    clear hr hs
    go_wp2_with fail
    go_ret3
    exact ⟨⟨p, q, r, s, by simp, HP.out, HQ.out, HR.out, HS.out⟩, hb1.trans hb2⟩
  · go_enter Tryz.func88, Tryz.ntmps88
    go_wp2_with fail
    refine (iBurstColour_any A c rs _ H.out hn hc).mono ?_
    rintro e w1 ⟨⟨p, q, rfl, hp, hq⟩, hb1⟩
    rw [h1]
    have HP := Lib.hid hp
    have HQ := Lib.hid hq
    clear hp hq
    go_wp2_with fail
    refine (iBurstColour_any B d ss _ (H'.out.ext hb1) hn' hc').mono ?_
    rintro e w2 ⟨⟨r, s, rfl, hr, hs⟩, hb2⟩
    have HR := Lib.hid hr
    have HS := Lib.hid hs
    clear hr hs
    go_wp2_with fail
    go_ret3
    exact ⟨⟨p, q, r, s, by simp, HP.out, HQ.out, HR.out, HS.out⟩, hb1.trans hb2⟩
set_option maxRecDepth 100000 in
theorem iHueGain_any (A B : Option Addr) (c d : Nat) (rs ss : List Nat) (w : World) (h : Rd w A (rs.map fl)) (h' : Rd w B (ss.map fl)) (hn : rs.length ≤ 1048576) (hn' : ss.length ≤ 1048576) (hc : rs.length ≤ c) (hc' : ss.length ≤ d) :
    Calls Tryz.prog 62 #[.slice A rs.length c, .slice B ss.length d] w fun e w' => (∃ p q, e = .returned (.tuple #[.complex .f32 p q, .bool (hgOk rs ss)]) ∧ cn .f32 p = hgRe rs ss ∧ cn .f32 q = hgIm rs ss) ∧ Ext w w' := by
  have H := Lib.hid (bursts_any A B c d rs ss w h h' hn hn' hc hc')
  clear h h'
  have h0 : cn .f32 0 = 0 := by decide +kernel
  cases hok : (bcOk rs && bcOk ss)
  · have HN := Lib.hid (hg_not hok)
    go_enter Tryz.func62, Tryz.ntmps62
    go_wp2_with fail
    refine H.out.mono ?_
    rintro e w1 ⟨⟨p, q, r, s, rfl, hp, hq, hr, hs⟩, hb1⟩
    rw [hok]
    clear hp hq hr hs
    go_wp2_with fail
    go_ret2
    exact ⟨⟨0, 0, by rw [HN.out.1]; rfl, by rw [HN.out.2.1, h0], by rw [HN.out.2.2, h0]⟩, hb1⟩
  · have HN := Lib.hid (hg_is hok)
    go_enter Tryz.func62, Tryz.ntmps62
    go_wp2_with fail
    refine H.out.mono ?_
    rintro e w1 ⟨⟨p, q, r, s, rfl, hp, hq, hr, hs⟩, hb1⟩
    rw [hok]
    go_wp2_with (first | (go_at_call 89; refine (plus_any _ _ _ _ _).mono ?_; rintro e w2 ⟨⟨x, y, rfl, e1, e2⟩, n3, rfl⟩) | (with_reducible first | (refine upon_add ?_; intro b n hb) | (refine upon_sub ?_; intro b n hb) | (refine upon_mul ?_; intro b n hb) | (refine upon_quo ?_; intro b n hb)))
    rename_i b1 n1 e3
    go_ret2
    rw [cm32] at e3 hb
    exact ⟨⟨b1, b, by rw [HN.out.1]; rfl, by rw [HN.out.2.1, e3, e1, hp, hr], by rw [HN.out.2.2, hb, e2, hq, hs]⟩, hb1.trans (by (repeat (first | exact Below.refl _ _ | assumption | refine below_drewN ?_ _ | refine Below.drew ?_ | refine Below.alloc ?_ (by first | exact Nat.le_refl _ | (simp; done) | (simp; omega)) _ | refine Below.setCell ?_ (by first | exact Nat.le_refl _ | (simp; done) | (simp; omega)) _)))⟩
set_option maxRecDepth 100000 in
theorem iSwing_any (A B : Option Addr) (c d : Nat) (rs ss : List Nat) (w : World) (h : Rd w A (rs.map fl)) (h' : Rd w B (ss.map fl)) (hn : rs.length ≤ 1048576) (hn' : ss.length ≤ 1048576) (hc : rs.length ≤ c) (hc' : ss.length ≤ d) :
    Calls Tryz.prog 85 #[.slice A rs.length c, .slice B ss.length d] w fun e w' => e = .returned (.int .i64 (swing rs ss)) ∧ Ext w w' := by
  have H := Lib.hid (bursts_any A B c d rs ss w h h' hn hn' hc hc')
  clear h h'
  cases hok : (bcOk rs && bcOk ss)
  · have HN := Lib.hid (swing_not hok)
    go_enter Tryz.func85, Tryz.ntmps85
    go_wp2_with fail
    refine H.out.mono ?_
    rintro e w1 ⟨⟨p, q, r, s, rfl, hp, hq, hr, hs⟩, hb1⟩
    rw [hok]
    clear hp hq hr hs
    go_wp2_with fail
    go_ret
    exact ⟨by rw [HN.out]; rfl, hb1⟩
  · have HN : Hid (∀ x, cn .f32 x = swingX rs ss → swing rs ss = if flt .f32 x 0 = true then 1 else if fgt .f32 x 0 = true then -1 else 0) := Lib.hid (fun x hx => swing_is hok hx)
    go_enter Tryz.func85, Tryz.ntmps85
    go_wp2_with fail
    refine H.out.mono ?_
    rintro e w1 ⟨⟨p, q, r, s, rfl, hp, hq, hr, hs⟩, hb1⟩
    rw [hok]
    go_wp2_with (first | (go_at_call 89; refine (plus_any _ _ _ _ _).mono ?_; rintro e w2 ⟨⟨x, y, rfl, e1, e2⟩, n3, rfl⟩) | (go_at_call 103; refine (minus_any _ _ _ _ _).mono ?_; rintro e w2 ⟨⟨x0, y0, rfl, e3, e4⟩, n4, rfl⟩) | (with_reducible first | (refine upon_add ?_; intro b n hb) | (refine upon_sub ?_; intro b n hb) | (refine upon_mul ?_; intro b n hb) | (refine upon_quo ?_; intro b n hb)))
    all_goals (
      have hsw : swing rs ss = _ := HN.out b (by simp only [swingX, hb, e1, e2, e3, e4, hp, hq, hr, hs, *])
      go_ret
      refine ⟨?_, hb1.trans (by (repeat (first | exact Below.refl _ _ | assumption | refine below_drewN ?_ _ | refine Below.drew ?_ | refine Below.alloc ?_ (by first | exact Nat.le_refl _ | (simp; done) | (simp; omega)) _ | refine Below.setCell ?_ (by first | exact Nat.le_refl _ | (simp; done) | (simp; omega)) _)))⟩
      rw [hsw]
      simp [*])
set_option maxRecDepth 100000 in
theorem iIsKilled_any (A B : Option Addr) (c d : Nat) (rs ss : List Nat) (least : Nat) (w : World) (h : Rd w A (rs.map fl)) (h' : Rd w B (ss.map fl)) (hn : rs.length ≤ 1048576) (hn' : ss.length ≤ 1048576) (hc : rs.length ≤ c) (hc' : ss.length ≤ d) :
    Calls Tryz.prog 60 #[.slice A rs.length c, .slice B ss.length d, .float .f32 least] w fun e w' => e = .returned (.bool (killed rs ss least)) ∧ Ext w w' := by
  have H := Lib.hid h
  have H' := Lib.hid h'
  clear h h'
  go_enter Tryz.func60, Tryz.ntmps60
  go_wp2_with fail
  refine (iHueGain_any A B c d rs ss _ H.out H'.out hn hn' hc hc').mono ?_
  rintro e w1 ⟨⟨p, q, rfl, hp, hq⟩, hb1⟩
  have HP := Lib.hid hp
  clear hp hq
  have hs := iSwing_any A B c d rs ss w1 (H.out.ext hb1) (H'.out.ext hb1) hn hn' hc hc'
  cases hz : decide (swing rs ss = 0)
  · have hz' : (swing rs ss == 0) = false := by simpa using hz
    have HK : Hid (killed rs ss least = flt .f32 (amt (hgRe rs ss)) least) := Lib.hid (by unfold killed; rw [hz]; rfl)
    generalize swing rs ss = sw at hs hz'
    go_wp2_with (first | (go_at_call 85; refine Calls.mono hs ?_; rintro e w2 ⟨rfl, hb2⟩) | (go_at_call 51; refine (amount_any _ _).mono ?_; rintro e w3 ⟨⟨b, rfl, hb⟩, rfl⟩))
    go_ret
    exact ⟨by rw [HK.out, ← HP.out, amt_cn, ← flt_amt hb]; rfl, hb1.trans hb2⟩
  · have hz' : (swing rs ss == 0) = true := by simpa using hz
    have HK : Hid (killed rs ss least = true) := Lib.hid (by unfold killed; rw [hz]; rfl)
    generalize swing rs ss = sw at hs hz'
    go_wp2_with (first | (go_at_call 85; refine Calls.mono hs ?_; rintro e w2 ⟨rfl, hb2⟩) | (go_at_call 51; refine (amount_any _ _).mono ?_; rintro e w3 ⟨⟨b, rfl, hb⟩, rfl⟩))
    go_ret
    exact ⟨by rw [HK.out]; rfl, hb1.trans hb2⟩
set_option maxRecDepth 100000 in
theorem sHueGain_any (A B : Option Addr) (c d : Nat) (rs ss : List Nat) (w : World) (h : Rd w A (rs.map fl)) (h' : Rd w B (ss.map fl)) (hn : rs.length ≤ 1048576) (hn' : ss.length ≤ 1048576) (hc : rs.length ≤ c) (hc' : ss.length ≤ d) :
    Calls Tryz.prog 45 #[.slice A rs.length c, .slice B ss.length d] w fun e w' => (∃ p q, e = .returned (.tuple #[.complex .f32 p q, .bool (hgOk rs ss)]) ∧ cn .f32 p = hgRe rs ss ∧ cn .f32 q = hgIm rs ss) ∧ Ext w w' := by
  have H := Lib.hid h
  have H' := Lib.hid h'
  clear h h'
  have h0 : cn .f32 0 = 0 := by decide +kernel
  cases h1 : bcOk rs
  · have hok : (bcOk rs && bcOk ss) = false := by rw [h1]; rfl
    have HN := Lib.hid (hg_not hok)
    clear hok
    go_enter Tryz.func45, Tryz.ntmps45
    go_wp2_with fail
    refine (sBurstColour_any A c rs _ H.out hn hc).mono ?_
    rintro e w1 ⟨⟨p, q, rfl, hp, hq⟩, hb1⟩
    rw [h1]
    go_wp2_with fail
    refine (sBurstColour_any B d ss _ (H'.out.ext hb1) hn' hc').mono ?_
    rintro e w2 ⟨⟨r, s, rfl, hr, hs⟩, hb2⟩
    clear hp hq hr hs
    go_wp2_with fail
    go_ret2
    exact ⟨⟨0, 0, by rw [HN.out.1]; rfl, by rw [HN.out.2.1, h0], by rw [HN.out.2.2, h0]⟩, hb1.trans hb2⟩
  · cases h2 : bcOk ss
    · have hok : (bcOk rs && bcOk ss) = false := by rw [h1, h2]; rfl
      have HN := Lib.hid (hg_not hok)
      clear hok
      go_enter Tryz.func45, Tryz.ntmps45
      go_wp2_with fail
      refine (sBurstColour_any A c rs _ H.out hn hc).mono ?_
      rintro e w1 ⟨⟨p, q, rfl, hp, hq⟩, hb1⟩
      rw [h1]
      go_wp2_with fail
      refine (sBurstColour_any B d ss _ (H'.out.ext hb1) hn' hc').mono ?_
      rintro e w2 ⟨⟨r, s, rfl, hr, hs⟩, hb2⟩
      rw [h2]
      clear hp hq hr hs
      go_wp2_with fail
      go_ret2
      exact ⟨⟨0, 0, by rw [HN.out.1]; rfl, by rw [HN.out.2.1, h0], by rw [HN.out.2.2, h0]⟩, hb1.trans hb2⟩
    · have hok : (bcOk rs && bcOk ss) = true := by rw [h1, h2]; rfl
      have HN := Lib.hid (hg_is hok)
      clear hok
      go_enter Tryz.func45, Tryz.ntmps45
      go_wp2_with fail
      refine (sBurstColour_any A c rs _ H.out hn hc).mono ?_
      rintro e w1 ⟨⟨p, q, rfl, hp, hq⟩, hb1⟩
      rw [h1]
      go_wp2_with fail
      refine (sBurstColour_any B d ss _ (H'.out.ext hb1) hn' hc').mono ?_
      rintro e w2 ⟨⟨r, s, rfl, hr, hs⟩, hb2⟩
      rw [h2]
      go_wp2_with (with_reducible first | (refine upon_add ?_; intro b n hb) | (refine upon_sub ?_; intro b n hb) | (refine upon_mul ?_; intro b n hb) | (refine upon_quo ?_; intro b n hb))
      rename_i b1 n1 m1 b2 n2 m2 b3 n3 m3
      go_ret2
      rw [cm32] at m3 hb
      exact ⟨⟨b3, b, by rw [HN.out.1]; rfl, by rw [HN.out.2.1, m3, m1, hp, hr], by rw [HN.out.2.2, hb, m2, hq, hs]⟩, (hb1.trans hb2).trans (by (repeat (first | exact Below.refl _ _ | assumption | refine below_drewN ?_ _ | refine Below.drew ?_ | refine Below.alloc ?_ (by first | exact Nat.le_refl _ | (simp; done) | (simp; omega)) _ | refine Below.setCell ?_ (by first | exact Nat.le_refl _ | (simp; done) | (simp; omega)) _)))⟩
set_option maxRecDepth 100000 in
theorem sSwing_any (A B : Option Addr) (c d : Nat) (rs ss : List Nat) (w : World) (h : Rd w A (rs.map fl)) (h' : Rd w B (ss.map fl)) (hn : rs.length ≤ 1048576) (hn' : ss.length ≤ 1048576) (hc : rs.length ≤ c) (hc' : ss.length ≤ d) :
    Calls Tryz.prog 74 #[.slice A rs.length c, .slice B ss.length d] w fun e w' => e = .returned (.int .i64 (swing rs ss)) ∧ Ext w w' := by
  have H := Lib.hid h
  have H' := Lib.hid h'
  clear h h'
  cases h1 : bcOk rs
  · have hok : (bcOk rs && bcOk ss) = false := by rw [h1]; rfl
    have HN := Lib.hid (swing_not hok)
    clear hok
    go_enter Tryz.func74, Tryz.ntmps74
    go_wp2_with fail
    refine (sBurstColour_any A c rs _ H.out hn hc).mono ?_
    rintro e w1 ⟨⟨p, q, rfl, hp, hq⟩, hb1⟩
    rw [h1]
    go_wp2_with fail
    refine (sBurstColour_any B d ss _ (H'.out.ext hb1) hn' hc').mono ?_
    rintro e w2 ⟨⟨r, s, rfl, hr, hs⟩, hb2⟩
    clear hp hq hr hs
    go_wp2_with fail
    go_ret
    exact ⟨by rw [HN.out]; rfl, hb1.trans hb2⟩
  · cases h2 : bcOk ss
    · have hok : (bcOk rs && bcOk ss) = false := by rw [h1, h2]; rfl
      have HN := Lib.hid (swing_not hok)
      clear hok
      go_enter Tryz.func74, Tryz.ntmps74
      go_wp2_with fail
      refine (sBurstColour_any A c rs _ H.out hn hc).mono ?_
      rintro e w1 ⟨⟨p, q, rfl, hp, hq⟩, hb1⟩
      rw [h1]
      go_wp2_with fail
      refine (sBurstColour_any B d ss _ (H'.out.ext hb1) hn' hc').mono ?_
      rintro e w2 ⟨⟨r, s, rfl, hr, hs⟩, hb2⟩
      rw [h2]
      clear hp hq hr hs
      go_wp2_with fail
      go_ret
      exact ⟨by rw [HN.out]; rfl, hb1.trans hb2⟩
    · have hok : (bcOk rs && bcOk ss) = true := by rw [h1, h2]; rfl
      have HN : Hid (∀ x, cn .f32 x = swingX rs ss → swing rs ss = if flt .f32 x 0 = true then 1 else if fgt .f32 x 0 = true then -1 else 0) := Lib.hid (fun x hx => swing_is hok hx)
      clear hok
      go_enter Tryz.func74, Tryz.ntmps74
      go_wp2_with fail
      refine (sBurstColour_any A c rs _ H.out hn hc).mono ?_
      rintro e w1 ⟨⟨p, q, rfl, hp, hq⟩, hb1⟩
      rw [h1]
      go_wp2_with fail
      refine (sBurstColour_any B d ss _ (H'.out.ext hb1) hn' hc').mono ?_
      rintro e w2 ⟨⟨r, s, rfl, hr, hs⟩, hb2⟩
      rw [h2]
      go_wp2_with (with_reducible first | (refine upon_add ?_; intro b n hb) | (refine upon_sub ?_; intro b n hb) | (refine upon_mul ?_; intro b n hb) | (refine upon_quo ?_; intro b n hb))
      all_goals (
        have hsw : swing rs ss = _ := HN.out b (by simp only [swingX, hb, hp, hq, hr, hs, *])
        go_ret
        refine ⟨?_, (hb1.trans hb2).trans (by (repeat (first | exact Below.refl _ _ | assumption | refine below_drewN ?_ _ | refine Below.drew ?_ | refine Below.alloc ?_ (by first | exact Nat.le_refl _ | (simp; done) | (simp; omega)) _ | refine Below.setCell ?_ (by first | exact Nat.le_refl _ | (simp; done) | (simp; omega)) _)))⟩
        rw [hsw]
        simp [*])
set_option maxRecDepth 100000 in
theorem sIsKilled_any (A B : Option Addr) (c d : Nat) (rs ss : List Nat) (least : Nat) (w : World) (h : Rd w A (rs.map fl)) (h' : Rd w B (ss.map fl)) (hn : rs.length ≤ 1048576) (hn' : ss.length ≤ 1048576) (hc : rs.length ≤ c) (hc' : ss.length ≤ d) :
    Calls Tryz.prog 43 #[.slice A rs.length c, .slice B ss.length d, .float .f32 least] w fun e w' => e = .returned (.bool (killed rs ss least)) ∧ Ext w w' := by
  have H := Lib.hid h
  have H' := Lib.hid h'
  clear h h'
  go_enter Tryz.func43, Tryz.ntmps43
  go_wp2_with fail
  refine (sHueGain_any A B c d rs ss _ H.out H'.out hn hn' hc hc').mono ?_
  rintro e w1 ⟨⟨p, q, rfl, hp, hq⟩, hb1⟩
  have HP := Lib.hid hp
  clear hp hq
  have hs := sSwing_any A B c d rs ss w1 (H.out.ext hb1) (H'.out.ext hb1) hn hn' hc hc'
  cases hz : decide (swing rs ss = 0)
  · have hz' : (swing rs ss == 0) = false := by simpa using hz
    have HK : Hid (killed rs ss least = flt .f32 (amt p) least) := Lib.hid (by unfold killed; rw [hz, ← HP.out, amt_cn]; rfl)
    generalize swing rs ss = sw at hs hz'
    cases hlt : flt .f32 p 0
    · have HA := Lib.hid (flt_amt (c := least) (amt_neg hlt))
      go_wp2_with (first | (go_at_call 74; refine Calls.mono hs ?_; rintro e w2 ⟨rfl, hb2⟩))
      go_ret
      exact ⟨by rw [HK.out, ← HA.out]; rfl, hb1.trans hb2⟩
    · have HA := Lib.hid (flt_amt (c := least) (amt_pos hlt))
      go_wp2_with (first | (go_at_call 74; refine Calls.mono hs ?_; rintro e w2 ⟨rfl, hb2⟩))
      go_ret
      exact ⟨by rw [HK.out, ← HA.out]; rfl, hb1.trans hb2⟩
  · have hz' : (swing rs ss == 0) = true := by simpa using hz
    have HK : Hid (killed rs ss least = true) := Lib.hid (by unfold killed; rw [hz]; rfl)
    generalize swing rs ss = sw at hs hz'
    cases hlt : flt .f32 p 0
    all_goals go_wp2_with (first | (go_at_call 74; refine Calls.mono hs ?_; rintro e w2 ⟨rfl, hb2⟩))
    all_goals go_ret
    all_goals exact ⟨by rw [HK.out]; rfl, hb1.trans hb2⟩
end Go.Proofs.YtiddaabodkglmaaGreat
end

import Derived.Test.YtiddaabodkglmaaDa
namespace Go.Fx
theorem cn_negF (b : Nat) : cn .f32 (Op.negFloat .f32 b) = neg32 (cn .f32 b) := cn_neg .f32 b
theorem c4_0 : cn .f32 1082130432 = 1082130432 := by decide +kernel
theorem c2_0 : cn .f32 1073741824 = 1073741824 := by decide +kernel
theorem decodeOk_of4 {odd : Bool} {rs : List Nat} (h : rs.length % 4 ≠ 0) : decodeOk odd rs = false := by simp [decodeOk, h]
theorem decodeOk_big {odd : Bool} {rs : List Nat} (h : 256 < rs.length) : decodeOk odd rs = false := by
  by_cases h4 : rs.length % 4 = 0
  · unfold decodeOk rowOk
    rw [decode_len]
    simp only [List.length_map]
    have : ¬ rs.length / 4 ≤ 64 := by omega
    simp [this]
  · exact decodeOk_of4 h4
theorem decodeOk_row {odd : Bool} {rs : List Nat} {gs : List Cel} (h4 : rs.length % 4 = 0) (hg : cnC gs = decode odd (cns rs)) : decodeOk odd rs = rowOk gs := by
  unfold decodeOk; rw [rowOk_of hg]; simp [h4]
end Go.Fx
namespace Go.Proofs.Ytiddaabodkglmaa
open Go.RowKit Go.Fx
set_option linter.unusedVariables false
set_option linter.unusedSimpArgs false

set_option maxRecDepth 100000 in
theorem sRowOk_any (A : Option Addr) (c : Nat) (row : List Cel) (w : World) (h : Rd w A (ccells row)) (hn : row.length ≤ maxLen) :
    Calls Try.prog 80 #[.slice A row.length c] w fun e w' => e = .returned (.bool (rowOk row)) ∧ Ext w w' := by
  unfold maxLen at hn
  go_enter Try.func80, Try.ntmps80
  go_wp2
  go_loopw [3] (fun i wr => ∃ (k : Nat), k ≤ row.length ∧ i = .int .i64 k ∧ Hid ((row.take k).all cellOk = true) ∧ Ext w wr) (fun i _ => row.length - (intOf i).toNat)
  case atStart => exact ⟨0, Nat.zero_le _, rfl, Lib.hid (by simp), Ext.refl _⟩
  case round =>
    obtain ⟨k, hk, rfl, H, hb⟩ := hrel
    by_cases hlt : k < row.length
    · obtain ⟨b, off, rfl, hbw, hc, hc1⟩ := rc_at (h.ext hb) hlt
      cases hp : cellOk row[k]
      · have H' := Lib.hid (all_not cellOk hlt hp)
        go_wp2_with (go_at_call 83; refine (sCellOk_any _ _ _ _).mono ?_; rintro e w1 ⟨rfl, hb1⟩; rw [hp])
        go_ret
        exact ⟨by rw [rowOk, H'.out, Bool.and_false]; rfl, hb.trans hb1⟩
      · have H' := Lib.hid (all_take_step cellOk hlt H.out hp)
        go_wp2_with (go_at_call 83; refine (sCellOk_any _ _ _ _).mono ?_; rintro e w1 ⟨rfl, hb1⟩; rw [hp])
        go_roundw
        case rel => exact ⟨k + 1, by omega, by go_num, H', hb.trans hb1⟩
        case measure => simp [intOf]; omega
    · obtain rfl : k = row.length := by omega
      have H' := Lib.hid (show row.all cellOk = true by have := H.out; rwa [List.take_length] at this)
      have HL : Hid (rowOk row = (decide (1 ≤ (row.length : Int)) && decide ((row.length : Int) ≤ 64))) := Lib.hid (by
        rw [rowOk, H'.out, Bool.and_true]
        congr 1 <;> (rw [decide_eq_decide]; omega))
      clear H
      go_wp2_with (go_at_call 135; refine (sIn_any _ _ _ _).mono ?_; rintro e w1 ⟨rfl, rfl⟩)
      go_ret
      exact ⟨by rw [HL.out]; rfl, hb⟩
theorem iRowOk1_any (x : Cel) (w : World) : Calls Try.prog 209 #[.agg #[.float .f32 x.y, .complex .f32 x.re x.im]] w fun e w' => e = .returned (.bool (!cellOk x)) ∧ Ext w w' := by
  go_enter Try.func209, Try.ntmps209
  go_wp2_with (first | (go_at_call 210; refine (iCellOk_any _ _ _ _).mono ?_; rintro e w1 ⟨rfl, hb1⟩))
  go_ret
  exact ⟨rfl, ((Ext.refl _).alloc _).trans hb1⟩
set_option maxRecDepth 100000 in
theorem indexC_any (A : Option Addr) (c : Nat) (row : List Cel) (w : World) (h : Rd w A (ccells row)) (hn : row.length ≤ maxLen) :
    Calls Try.prog 236 #[.slice A row.length c, .func (.func 209) #[] #[]] w fun e w' => (∃ k : Int, e = .returned (.int .i64 k) ∧ decide (0 ≤ k) = !(row.all cellOk)) ∧ Ext w w' := by
  unfold maxLen at hn
  go_enter Try.func236, Try.ntmps236
  go_wp2
  go_loopw [8] (fun i wr => ∃ (k : Nat), k ≤ row.length ∧ i = .int .i64 k ∧ Hid ((row.take k).all cellOk = true) ∧ Ext w wr) (fun i _ => row.length - (intOf i).toNat)
  case atStart => exact ⟨0, Nat.zero_le _, rfl, Lib.hid (by simp), Ext.refl _⟩
  case round =>
    obtain ⟨k, hk, rfl, H, hb⟩ := hrel
    by_cases hlt : k < row.length
    · obtain ⟨b, off, rfl, hbw, hc, hc1⟩ := rc_at (h.ext hb) hlt
      cases hp : cellOk row[k]
      · have H' := Lib.hid (all_not cellOk hlt hp)
        go_wp2_with (first | (go_at_call 209; refine (iRowOk1_any _ _).mono ?_; rintro e w1 ⟨rfl, hb1⟩; rw [hp]))
        go_ret
        exact ⟨⟨_, rfl, by rw [H'.out]; simp⟩, hb.trans hb1⟩
      · have H' := Lib.hid (all_take_step cellOk hlt H.out hp)
        go_wp2_with (first | (go_at_call 209; refine (iRowOk1_any _ _).mono ?_; rintro e w1 ⟨rfl, hb1⟩; rw [hp]))
        go_roundw
        case rel => exact ⟨k + 1, by omega, by go_num, H', hb.trans hb1⟩
        case measure => simp [intOf]; omega
    · go_wp2
      go_ret
      obtain rfl : k = row.length := by omega
      have := H.out
      rw [List.take_length] at this
      exact ⟨⟨_, rfl, by rw [this]; rfl⟩, hb⟩
set_option maxRecDepth 100000 in
theorem iRowOk_any (A : Option Addr) (c : Nat) (row : List Cel) (w : World) (h : Rd w A (ccells row)) (hn : row.length ≤ maxLen) :
    Calls Try.prog 129 #[.slice A row.length c] w fun e w' => e = .returned (.bool (rowOk row)) ∧ Ext w w' := by
  have hn' := hn
  unfold maxLen at hn'
  have H := Lib.hid h
  clear h
  cases hl : (decide (1 ≤ (row.length : Int)) && decide ((row.length : Int) ≤ 64))
  · have HR : Hid (rowOk row = false) := Lib.hid (by
      have : (decide (1 ≤ row.length) && decide (row.length ≤ 64)) = false := by rw [← hl]; congr 1 <;> (rw [decide_eq_decide]; omega)
      rw [rowOk, this]; rfl)
    go_enter Try.func129, Try.ntmps129
    go_wp2_with (first | (go_at_call 137; refine (within_any _ _ _ _).mono ?_; rintro e w1 ⟨rfl, rfl⟩; rw [hl]))
    go_ret
    exact ⟨by rw [HR.out]; rfl, Ext.refl _⟩
  · have HR : Hid (rowOk row = row.all cellOk) := Lib.hid (by
      have : (decide (1 ≤ row.length) && decide (row.length ≤ 64)) = true := by rw [← hl]; congr 1 <;> (rw [decide_eq_decide]; omega)
      rw [rowOk, this]; rfl)
    go_enter Try.func129, Try.ntmps129
    go_wp2_with (first | (go_at_call 137; refine (within_any _ _ _ _).mono ?_; rintro e w1 ⟨rfl, rfl⟩; rw [hl]))
    go_enter Try.func208, Try.ntmps208
    go_wp2_with (first | (go_at_call 236; refine (indexC_any _ _ _ _ H.out hn).mono ?_; rintro e w1 ⟨⟨k, rfl, hk⟩, hb1⟩))
    go_ret
    refine ⟨?_, hb1⟩
    rw [HR.out]
    simp_all
set_option maxRecDepth 100000 in
theorem sTake_any (A : Option Addr) (c : Nat) (rs : List Nat) (j : Nat) (w : World) (h : Rd w A (rs.map fl)) (hj : j + 3 < rs.length) (hn : rs.length ≤ 1048576) :
    Calls Try.prog 227 #[.slice A rs.length c, .int .i64 j] w fun e w' => (∃ d : Cel, e = .returned (.agg #[.float .f32 d.y, .complex .f32 d.re d.im]) ∧ d.cn = dec1 false (cn .f32 rs[j]) (cn .f32 rs[j + 1]) (cn .f32 rs[j + 2]) (cn .f32 rs[j + 3])) ∧ Ext w w' := by
  have hx : Ext w (w.alloc (.cells #[.float .f32 0, .complex .f32 0 0] 90)) := (Ext.refl _).alloc _
  obtain ⟨b, off, rfl, hbw, h0⟩ := rf_at (h.ext hx) (i := j) (by omega)
  obtain ⟨_, _, e1, _, h1⟩ := rf_at (h.ext hx) (i := j + 1) (by omega)
  cases e1
  obtain ⟨_, _, e1, _, h2⟩ := rf_at (h.ext hx) (i := j + 2) (by omega)
  cases e1
  obtain ⟨_, _, e1, _, h3⟩ := rf_at (h.ext hx) (i := j + 3) (by omega)
  cases e1
  clear h
  have hj0 : j < rs.length := by omega
  generalize rs[j] = s at h0
  generalize rs[j + 1] = t at h1
  generalize rs[j + 2] = u at h2
  generalize rs[j + 3] = v at h3
  go_enter Try.func227, Try.ntmps227
  go_wp2_with (with_reducible first | (refine upon_add ?_; intro b n hb) | (refine upon_sub ?_; intro b n hb) | (refine upon_mul ?_; intro b n hb) | (refine upon_quo ?_; intro b n hb))
  rename_i b1 n1 e1 b2 n2 e2 b3 n3 e3 b4 n4 e4 b5 n5 e5 b6 n6 e6 b7 n7 e7
  refine bodyPost_ret (v := .agg #[.float .f32 b4, .complex .f32 b6 b]) (by simp [results, Try.results227, go_sem, *]) rfl ⟨⟨⟨b4, b6, b⟩, rfl, ?_⟩, by (repeat (first | exact Below.refl _ _ | assumption | refine below_drewN ?_ _ | refine Below.drew ?_ | refine Below.alloc ?_ (by first | exact Nat.le_refl _ | (simp; done) | (simp; omega)) _ | refine Below.setCell ?_ (by first | exact Nat.le_refl _ | (simp; done) | (simp; omega)) _))⟩
  rw [c4_0] at e4
  rw [c2_0] at e6 hb
  rw [e3, e2, e1] at e4
  rw [e5] at e6
  rw [e7] at hb
  simp only [Cel.cn, dec1, e4, e6, hb]
  rfl
set_option maxRecDepth 100000 in
theorem decoded_any (b off c : Nat) (s t u v : Nat) (odd : Bool) (w : World) (hbw : b < w.heap.size) (h0 : w.cell? ⟨b, off, none⟩ = some (fl s)) (h1 : w.cell? ⟨b, off + 1, none⟩ = some (fl t)) (h2 : w.cell? ⟨b, off + 2, none⟩ = some (fl u)) (h3 : w.cell? ⟨b, off + 3, none⟩ = some (fl v)) :
    Calls Try.prog 175 #[.slice (some ⟨b, off, none⟩) 4 c, .bool odd] w fun e w' => (∃ d : Cel, e = .returned (.agg #[.float .f32 d.y, .complex .f32 d.re d.im]) ∧ d.cn = dec1 odd (cn .f32 s) (cn .f32 t) (cn .f32 u) (cn .f32 v)) ∧ Ext w w' := by
  cases odd
  · go_enter Try.func175, Try.ntmps175
    go_wp2_with fail
    go_quiet (fail)
    all_goals go_wp2_with (with_reducible first | (refine upon_add ?_; intro b n hb) | (refine upon_sub ?_; intro b n hb) | (refine upon_mul ?_; intro b n hb) | (refine upon_quo ?_; intro b n hb))
    rename_i b1 n1 e1 b2 n2 e2 b3 n3 e3 b4 n4 e4 b5 n5 e5 b6 n6 e6 b7 n7 e7
    refine bodyPost_ret (v := .agg #[.float .f32 b, .complex .f32 b5 b7]) (by simp [results, Try.results175, go_sem, *]) rfl ⟨⟨⟨b, b5, b7⟩, rfl, ?_⟩, by (repeat (first | exact Below.refl _ _ | assumption | refine below_drewN ?_ _ | refine Below.drew ?_ | refine Below.alloc ?_ (by first | exact Nat.le_refl _ | (simp; done) | (simp; omega)) _ | refine Below.setCell ?_ (by first | exact Nat.le_refl _ | (simp; done) | (simp; omega)) _))⟩
    rw [c4_0] at hb
    rw [c2_0] at e5 e7
    rw [e3, e2, e1] at hb
    rw [e4] at e5
    rw [e6] at e7
    simp only [Cel.cn, dec1, e5, e7, hb]
    rfl
  · go_enter Try.func175, Try.ntmps175
    go_wp2_with fail
    go_quiet (fail)
    all_goals go_wp2_with (first | (with_reducible first | (refine upon_add ?_; intro b n hb) | (refine upon_sub ?_; intro b n hb) | (refine upon_mul ?_; intro b n hb) | (refine upon_quo ?_; intro b n hb)) | (go_at_call 201; refine (conj_any _ _ _).mono ?_; rintro e w1 ⟨rfl, rfl⟩))
    rename_i b1 n1 e1 b2 n2 e2 b3 n3 e3 b4 n4 e4 b5 n5 e5 b6 n6 e6 b7 n7 e7
    refine bodyPost_ret (v := .agg #[.float .f32 b, .complex .f32 b5 (Op.negFloat .f32 b7)]) (by simp [results, Try.results175, go_sem, *]) rfl ⟨⟨⟨b, b5, Op.negFloat .f32 b7⟩, rfl, ?_⟩, by (repeat (first | exact Below.refl _ _ | assumption | refine below_drewN ?_ _ | refine Below.drew ?_ | refine Below.alloc ?_ (by first | exact Nat.le_refl _ | (simp; done) | (simp; omega)) _ | refine Below.setCell ?_ (by first | exact Nat.le_refl _ | (simp; done) | (simp; omega)) _))⟩
    rw [c4_0] at hb
    rw [c2_0] at e5 e7
    rw [e3, e2, e1] at hb
    rw [e4] at e5
    rw [e6] at e7
    simp only [Cel.cn, dec1, e5, hb, cn_negF, e7]
    rfl
end Go.Proofs.Ytiddaabodkglmaa

import Derived.Test.YtiddaabodkglmaaDi
import Derived.Test.YtiddaabodkglmaaCo
namespace Go.Fx
open Go.RowKit
set_option linter.unusedSimpArgs false
theorem oneCell_cc {row : List Cel} : ∀ u ∈ ccells row, u.oneCell' = true := oneCell_cells2 (fun _ => rfl) (fun _ => rfl)
theorem scaleOk_not {k : Nat} {row : List Cel} (h : rowOk row = false) : scaleOk (cn .f32 k) (cnC row) = false := by unfold scaleOk; rw [rowOk_cnC, h]; rfl
theorem scaleOk_row {k : Nat} {row gs : List Cel} (h : rowOk row = true) (hg : cnC gs = (cnC row).map (scale1 (cn .f32 k))) : scaleOk (cn .f32 k) (cnC row) = rowOk gs := by
  unfold scaleOk; rw [rowOk_cnC, h, Bool.true_and, ← hg, rowOk_cnC]
theorem scale_at {row : List Cel} {k i : Nat} (h : i < row.length) : ∃ h' : i < ((cnC row).map (scale1 (cn .f32 k))).length, ((cnC row).map (scale1 (cn .f32 k)))[i] = ⟨cn .f32 row[i].y, mul32 (cn .f32 row[i].re) (cn .f32 k), mul32 (cn .f32 row[i].im) (cn .f32 k)⟩ :=
  ⟨by simpa using h, by simp [scale1]⟩
theorem snoc_cel {w : World} {base : Nat} {v : Value} {k y re im : Nat} {gs : List Cel} {E : TypeId} (h : w.ownsRow base E 2 v (k + 1) (ccells gs ++ #[Value.float .f32 y, Value.complex .f32 re im].toList)) : w.ownsRow base E 2 v (k + 1) (ccells (gs ++ [⟨y, re, im⟩])) := by
  simpa [snoc2] using h
def scaleR (k : Nat) (row : List Cel) : List Cel := if scaleOk k row = true then row.map (scale1 k) else []
theorem scaleR_len {k : Nat} {row gs : List Cel} (h : cnC gs = scaleR k row) : gs.length ≤ 64 := by
  rw [cnC_len h]
  unfold scaleR
  split
  · rename_i h
    simp only [scaleOk, Bool.and_eq_true] at h
    exact (rowOk_len h.2).2
  · simp
end Go.Fx
namespace Go.Proofs.Ytiddaabodkglmaa
open Go.RowKit Go.Fx
set_option linter.unusedVariables false
set_option linter.unusedSimpArgs false
@[go_sem] theorem eql_nil_cell (w : World) (a : Option Addr) (n c : Nat) : (binOp .eql 43 (.slice a n c) (.slice none 0 0)).run Try.prog w = .ok (.bool a.isNone) w := Lib.run_eql_slice_nil w _ _ a n c 0 0 Try.underlying43
set_option maxRecDepth 100000 in
theorem cloneC_any (A : Option Addr) (c : Nat) (row : List Cel) (w : World) (h : Rd w A (ccells row)) (hA : A = none → row.length = 0) (hn : row.length ≤ 1048576) :
    Calls Try.prog 211 #[.slice A row.length c] w fun e w' => (∃ v, e = .returned v ∧ OC w' w.heap.size v row) ∧ Ext w w' := by
  cases A with
  | none =>
    have h0 := List.eq_nil_of_length_eq_zero (hA rfl)
    subst h0
    go_enter Try.func211, Try.ntmps211
    go_wp2
    go_ret
    exact ⟨⟨_, rfl, World.ownsRow_nil _ _ _ _⟩, Ext.refl _⟩
  | some ad =>
    go_enter Try.func211, Try.ntmps211
    go_wp2_with (at_builtin; refine wpList_app rfl _ _ 43 rfl w.heap.size 90 _ 2 12 Try.underlying43 info_cell rfl (by omega) (.slice (some ⟨w.heap.size, 0, none⟩) 0 0) 0 [] rfl (own_new w _ _ 2 (Nat.le_refl _)) (some ad) row.length c (ccells row) rfl (h.ext (by (repeat (first | exact Below.refl _ _ | assumption | refine below_drewN ?_ _ | refine Below.drew ?_ | refine Below.alloc ?_ (by first | exact Nat.le_refl _ | (simp; done) | (simp; omega)) _ | refine Below.setCell ?_ (by first | exact Nat.le_refl _ | (simp; done) | (simp; omega)) _)))) (ccells_len row) (fun h => by cases h) oneCell_cc (by unfold maxLen; omega) (by omega) (by simp) ?_; intro v1 w1 hown hg hat)
    go_ret
    refine ⟨⟨_, rfl, by simpa using hown⟩, ext_grow (E := 90) (size := 2) (base := w.heap.size) (by (repeat (first | exact Below.refl _ _ | assumption | refine below_drewN ?_ _ | refine Below.drew ?_ | refine Below.alloc ?_ (by first | exact Nat.le_refl _ | (simp; done) | (simp; omega)) _ | refine Below.setCell ?_ (by first | exact Nat.le_refl _ | (simp; done) | (simp; omega)) _))) (own_new w _ _ 2 (Nat.le_refl _)) (Nat.le_refl _) hg⟩
set_option maxRecDepth 100000 in
theorem sRow_any (A : Option Addr) (c : Nat) (row : List Cel) (w : World) (h : Rd w A (ccells row)) (hA : A = none → row.length = 0) (hn : row.length ≤ 1048576) :
    Calls Try.prog 237 #[.slice A row.length c] w fun e w' => (∃ v, e = .returned v ∧ OC w' w.heap.size v row) ∧ Ext w w' := by
  go_enter Try.func237, Try.ntmps237
  go_wp2_with (at_builtin; refine wpList_app rfl _ _ 43 rfl w.heap.size 90 _ 2 12 Try.underlying43 info_cell rfl (by omega) (.slice (some ⟨w.heap.size, 0, none⟩) 0 0) 0 [] rfl (own_new w _ _ 2 (Nat.le_refl _)) A row.length c (ccells row) rfl (h.ext (by (repeat (first | exact Below.refl _ _ | assumption | refine below_drewN ?_ _ | refine Below.drew ?_ | refine Below.alloc ?_ (by first | exact Nat.le_refl _ | (simp; done) | (simp; omega)) _ | refine Below.setCell ?_ (by first | exact Nat.le_refl _ | (simp; done) | (simp; omega)) _)))) (ccells_len row) hA oneCell_cc (by unfold maxLen; omega) (by omega) (by simp) ?_; intro v1 w1 hown hg hat)
  go_ret
  refine ⟨⟨_, rfl, by simpa using hown⟩, ext_grow (E := 90) (size := 2) (base := w.heap.size) (by (repeat (first | exact Below.refl _ _ | assumption | refine below_drewN ?_ _ | refine Below.drew ?_ | refine Below.alloc ?_ (by first | exact Nat.le_refl _ | (simp; done) | (simp; omega)) _ | refine Below.setCell ?_ (by first | exact Nat.le_refl _ | (simp; done) | (simp; omega)) _))) (own_new w _ _ 2 (Nat.le_refl _)) (Nat.le_refl _) hg⟩
set_option maxRecDepth 100000 in
set_option maxHeartbeats 4000000 in
theorem iScaleRow_any (A : Option Addr) (c : Nat) (row : List Cel) (x : Nat) (w : World) (h : Rd w A (ccells row)) (hA : A = none → row.length = 0) (hn : row.length ≤ 1048576) :
    Calls Try.prog 207 #[.slice A row.length c, .float .f32 x] w fun e w' => (∃ v gs, e = .returned (.tuple #[v, .bool (scaleOk (cn .f32 x) (cnC row))]) ∧ OC w' w.heap.size v gs ∧ cnC gs = scaleR (cn .f32 x) (cnC row)) ∧ Ext w w' := by
  have H := Lib.hid h
  clear h
  have hm : row.length ≤ maxLen := by unfold maxLen; omega
  cases hok : rowOk row
  · have HN := Lib.hid (scaleOk_not (k := x) hok)
    go_enter Try.func207, Try.ntmps207
    go_wp2_with (go_at_call 129; refine (iRowOk_any _ _ _ _ H.out hm).mono ?_; rintro e w1 ⟨rfl, hb1⟩; rw [hok])
    go_ret2
    exact ⟨⟨_, [], by rw [HN.out]; rfl, World.ownsRow_nil _ _ _ _, by unfold scaleR; rw [HN.out]; rfl⟩, hb1⟩
  · have HO := Lib.hid hok
    have hrl := rowOk_len hok
    go_enter Try.func207, Try.ntmps207
    go_wp2_with (first | (go_at_call 129; refine (iRowOk_any _ _ _ _ H.out hm).mono ?_; rintro e w1 ⟨rfl, hb1⟩; rw [hok]) | (go_at_call 211; refine (cloneC_any _ _ _ _ (H.out.ext hb1) hA hn).mono ?_; rintro e w2 ⟨⟨v, rfl, ho⟩, hb2⟩; obtain ⟨A1, c1, rfl, -, -⟩ := own_slice ho; replace ho := own_base ho hb1.size))
    clear hok
    go_loopw [7, 8, 16] (fun j p i wr => ∃ (k : Nat) (xs : List Cel), k ≤ row.length ∧ xs.length = k ∧ i = .int .i64 k ∧ wr.ownsRow w.heap.size 90 2 (.slice A1 row.length c1) row.length (ccells (xs ++ row.drop k)) ∧ Hid (cnC xs = ((cnC row).map (scale1 (cn .f32 x))).take k) ∧ Ext w wr) (fun _ _ i _ => row.length - (intOf i).toNat)
    case atStart => exact ⟨0, [], by omega, rfl, rfl, by simpa using ho, Lib.hid (by simp), hb1.trans hb2⟩
    case round =>
      obtain ⟨k, xs, hk, hxl, rfl, hop, HX, hbr⟩ := hrel
      clear ho
      by_cases hlt : k < row.length
      · obtain ⟨b, off, rfl, hbw, hy, hcx⟩ := rc_at (H.out.ext hbr) hlt
        obtain ⟨g1, rfl, hg1, hs1⟩ := own_at hop (by omega)
        obtain ⟨hxa, exa⟩ := colour_at hxl hlt
        obtain ⟨p0, p1⟩ := cells2_at Go.Fx.c1 Go.Fx.c2 _ hxa
        rw [exa] at p0 p1
        have hp1 := own_cell hop p1
        have hfp := own_frozen hop (k * 2 + 1)
        obtain ⟨hSk, eSk⟩ := scale_at (k := x) hlt
        have STEP : Hid (∀ (W : World) (re im : Nat), Ext wr W → cn .f32 re = mul32 (cn .f32 row[k].re) (cn .f32 x) → cn .f32 im = mul32 (cn .f32 row[k].im) (cn .f32 x) →
            ∃ xs' : List Cel, xs'.length = k + 1 ∧ (W.setCell ⟨g1, k * 2 + 1, none⟩ (.complex .f32 re im)).ownsRow w.heap.size 90 2 (.slice (some ⟨g1, 0, none⟩) row.length c1) row.length (ccells (xs' ++ row.drop (k + 1))) ∧
              Hid (cnC xs' = ((cnC row).map (scale1 (cn .f32 x))).take (k + 1)) ∧ Ext w (W.setCell ⟨g1, k * 2 + 1, none⟩ (.complex .f32 re im))) := Lib.hid (by
          intro W re im hW hre him
          refine ⟨xs ++ [⟨row[k].y, re, im⟩], by simp [hxl], ?_, Lib.hid (cnC_snoc HX.out hSk (by rw [eSk]; simp only [Cel.cn, hre, him])), ?_⟩
          · rw [← set_colour hxl hlt]
            exact own_set (own_ext hop hW) _
          · exact Below.setCell (p := ⟨g1, k * 2 + 1, none⟩) (hbr.trans hW) hg1 _)
        clear p0 p1 exa hxa eSk hop
        go_wp2_with (with_reducible first | (refine upon_add ?_; intro b n hb) | (refine upon_sub ?_; intro b n hb) | (refine upon_mul ?_; intro b n hb) | (refine upon_quo ?_; intro b n hb))
        rename_i b1 n1 m1
        go_roundw
        case rel =>
          obtain ⟨xs', l1, o1, x1, bx⟩ := STEP.out ((wr.alloc (.cells #[.float .f32 row[k].y, .complex .f32 row[k].re row[k].im] 90)).drewN (n1 + n)) b1 b (by (repeat (first | exact Below.refl _ _ | assumption | refine below_drewN ?_ _ | refine Below.drew ?_ | refine Below.alloc ?_ (by first | exact Nat.le_refl _ | (simp; done) | (simp; omega)) _ | refine Below.setCell ?_ (by first | exact Nat.le_refl _ | (simp; done) | (simp; omega)) _))) m1 hb
          exact ⟨k + 1, xs', by omega, l1, by go_num, o1, x1, bx⟩
        case measure => simp [intOf]; omega
      · obtain rfl : k = row.length := by omega
        rw [List.drop_of_length_le (Nat.le_refl _), List.append_nil] at hop
        have hcn2 : cnC xs = (cnC row).map (scale1 (cn .f32 x)) := by rw [HX.out]; apply List.take_of_length_le; simp
        have HT := Lib.hid (scaleOk_row HO.out hcn2)
        have HC := Lib.hid hcn2
        clear hcn2
        have hlo := iRowOk_any A1 c1 xs wr (by have := (own_rd hop); exact this) (by unfold maxLen; omega)
        rw [hxl] at hlo
        cases hlg : rowOk xs
        · have HG := Lib.hid hlg
          go_wp2_with (go_at_call 129; refine hlo.mono ?_; rintro e w3 ⟨rfl, hb3⟩; rw [hlg])
          go_ret2
          exact ⟨⟨_, [], by rw [HT.out, HG.out]; rfl, World.ownsRow_nil _ _ _ _, by unfold scaleR; rw [HT.out, HG.out]; rfl⟩, hbr.trans hb3⟩
        · have HG := Lib.hid hlg
          go_wp2_with (go_at_call 129; refine hlo.mono ?_; rintro e w3 ⟨rfl, hb3⟩; rw [hlg])
          go_ret2
          refine ⟨⟨.slice A1 row.length c1, xs, by rw [HT.out, HG.out]; rfl, ?_, by unfold scaleR; rw [HT.out, HG.out, HC.out]; rfl⟩, hbr.trans hb3⟩
          unfold OC
          rw [hxl]
          exact own_ext hop hb3
set_option maxRecDepth 100000 in
set_option maxHeartbeats 4000000 in
theorem sScaleRow_any (A : Option Addr) (c : Nat) (row : List Cel) (x : Nat) (w : World) (h : Rd w A (ccells row)) (hA : A = none → row.length = 0) (hn : row.length ≤ 1048576) :
    Calls Try.prog 245 #[.slice A row.length c, .float .f32 x] w fun e w' => (∃ v gs, e = .returned (.tuple #[v, .bool (scaleOk (cn .f32 x) (cnC row))]) ∧ OC w' w.heap.size v gs ∧ cnC gs = scaleR (cn .f32 x) (cnC row)) ∧ Ext w w' := by
  have H := Lib.hid h
  clear h
  have hm : row.length ≤ maxLen := by unfold maxLen; omega
  have ha : Ext w (w.alloc (.cells #[] 90)) := (Ext.refl _).alloc _
  have hnew := own_new w w.heap.size 90 2 (Nat.le_refl _)
  cases hok : rowOk row
  · have HN := Lib.hid (scaleOk_not (k := x) hok)
    go_enter Try.func245, Try.ntmps245
    go_wp2_with (go_at_call 80; refine (sRowOk_any _ _ _ _ (H.out.ext ha) hm).mono ?_; rintro e w1 ⟨rfl, hb1⟩; rw [hok])
    go_ret2
    exact ⟨⟨_, [], by rw [HN.out]; rfl, own_ext hnew hb1, by unfold scaleR; rw [HN.out]; rfl⟩, ha.trans hb1⟩
  · have HO := Lib.hid hok
    have hrl := rowOk_len hok
    go_enter Try.func245, Try.ntmps245
    go_wp2_with (first | (go_at_call 80; refine (sRowOk_any _ _ _ _ (H.out.ext ha) hm).mono ?_; rintro e w1 ⟨rfl, hb1⟩; rw [hok]; replace hnew := own_ext hnew hb1; replace ha := ha.trans hb1))
    clear hok
    go_loopw [6, 7, 8] (fun v i z wr => ∃ (k : Nat) (xs : List Cel), k ≤ row.length ∧ xs.length = k ∧ i = .int .i64 k ∧ wr.ownsRow w.heap.size 90 2 v k (ccells xs) ∧ Hid (cnC xs = ((cnC row).map (scale1 (cn .f32 x))).take k) ∧ Ext w wr) (fun _ i _ _ => row.length - (intOf i).toNat)
    case atStart => exact ⟨0, [], by omega, rfl, rfl, hnew, Lib.hid (by simp), ha⟩
    case round =>
      obtain ⟨k, xs, hk, hxl, rfl, hop, HX, hbr⟩ := hrel
      clear hnew ha
      obtain ⟨A1, c1, rfl, -, -⟩ := own_slice hop
      by_cases hlt : k < row.length
      · obtain ⟨b, off, rfl, hbw, hy, hcx⟩ := rc_at (H.out.ext hbr) hlt
        obtain ⟨hSk, eSk⟩ := scale_at (k := x) hlt
        have ES := Lib.hid eSk
        clear eSk
        have hmul : ∀ W y, (binOp .mul 29 (.float .f32 y) (.float .f32 x)).run Try.prog W = .ok (.float .f32 (fbits W .mul .f32 y x)) (W.drewN (fcnt .mul .f32 y x)) := fun W y => run_fop W .mul (by simp) _ _ _ _
        go_wp2_with fail
        go_region_law (fail)
        all_goals go_wp2_with (at_builtin; refine wpList_app rfl _ _ 43 rfl w.heap.size 90 _ 2 12 Try.underlying43 info_cell rfl (by omega) (.slice A1 k c1) k (ccells xs) rfl (own_ext hop (by (repeat (first | exact Below.refl _ _ | assumption | refine below_drewN ?_ _ | refine Below.drew ?_ | refine Below.alloc ?_ (by first | exact Nat.le_refl _ | (simp; done) | (simp; omega)) _ | refine Below.setCell ?_ (by first | exact Nat.le_refl _ | (simp; done) | (simp; omega)) _)))) _ 1 1 _ rfl (rd_new _ _ _ _) rfl (fun h => by cases h) (by intro u hu; simp at hu; rcases hu with rfl | rfl <;> rfl) (by unfold maxLen; omega) (by omega) (by have := hbr.size; simp; omega) ?_; intro v1 w2 hown hg hat)
        all_goals go_roundw
        all_goals first | (simp [intOf]; done) | (simp [intOf]; omega) | skip
        all_goals exact ⟨k + 1, xs ++ [⟨_, _, _⟩], by omega, by simp [hxl], by go_num, snoc_cel hown, Lib.hid (cnC_snoc HX.out hSk (by rw [ES.out]; simp only [Cel.cn, cn_fbits])), ext_grow (base := w.heap.size) (hbr.trans (by (repeat (first | exact Below.refl _ _ | assumption | refine below_drewN ?_ _ | refine Below.drew ?_ | refine Below.alloc ?_ (by first | exact Nat.le_refl _ | (simp; done) | (simp; omega)) _ | refine Below.setCell ?_ (by first | exact Nat.le_refl _ | (simp; done) | (simp; omega)) _)))) (own_ext hop (by (repeat (first | exact Below.refl _ _ | assumption | refine below_drewN ?_ _ | refine Below.drew ?_ | refine Below.alloc ?_ (by first | exact Nat.le_refl _ | (simp; done) | (simp; omega)) _ | refine Below.setCell ?_ (by first | exact Nat.le_refl _ | (simp; done) | (simp; omega)) _)))) (Nat.le_refl _) hg⟩
      · obtain rfl : k = row.length := by omega
        have hcn2 : cnC xs = (cnC row).map (scale1 (cn .f32 x)) := by rw [HX.out]; apply List.take_of_length_le; simp
        have HT := Lib.hid (scaleOk_row HO.out hcn2)
        have HC := Lib.hid hcn2
        clear hcn2
        have hlo := sRowOk_any A1 c1 xs wr (by have := (own_rd hop); exact this) (by unfold maxLen; omega)
        rw [hxl] at hlo
        cases hlg : rowOk xs
        · have HG := Lib.hid hlg
          go_wp2_with (go_at_call 80; refine hlo.mono ?_; rintro e w3 ⟨rfl, hb3⟩; rw [hlg])
          go_ret2
          exact ⟨⟨_, [], by rw [HT.out, HG.out]; rfl, own_new w3 _ _ 2 (Nat.le_trans hbr.size hb3.size), by unfold scaleR; rw [HT.out, HG.out]; rfl⟩, (hbr.trans hb3).alloc _⟩
        · have HG := Lib.hid hlg
          go_wp2_with (go_at_call 80; refine hlo.mono ?_; rintro e w3 ⟨rfl, hb3⟩; rw [hlg])
          go_ret2
          refine ⟨⟨.slice A1 row.length c1, xs, by rw [HT.out, HG.out]; rfl, ?_, by unfold scaleR; rw [HT.out, HG.out, HC.out]; rfl⟩, hbr.trans hb3⟩
          unfold OC
          rw [hxl]
          exact own_ext hop hb3
end Go.Proofs.Ytiddaabodkglmaa

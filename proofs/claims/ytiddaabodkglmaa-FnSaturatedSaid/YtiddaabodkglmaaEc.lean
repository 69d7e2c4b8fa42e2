import Derived.Test.YtiddaabodkglmaaK3
import Derived.Test.YtiddaabodkglmaaCo
namespace Go.Fx
open Go.RowKit
set_option linter.unusedVariables false
set_option linter.unusedSimpArgs false
/-- the four samples of a cell -/
def E4 (y re im : Nat) : List Nat := [add32 (cn .f32 y) (cn .f32 re), add32 (cn .f32 y) (neg32 (cn .f32 im)), add32 (cn .f32 y) (neg32 (cn .f32 re)), add32 (cn .f32 y) (cn .f32 im)]
theorem E4_at (y re im : Nat) : ∀ (n : Nat) (h : n < 4), ∃ h' : n < (E4 y re im).length, (E4 y re im)[n] = add32 (cn .f32 y) (cn .f32 (carriedB re im n))
  | 0, _ => ⟨by simp [E4], by simp [E4, carriedB]⟩
  | 1, _ => ⟨by simp [E4], by simp [E4, carriedB, cn_neg]⟩
  | 2, _ => ⟨by simp [E4], by simp [E4, carriedB, cn_neg]⟩
  | 3, _ => ⟨by simp [E4], by simp [E4, carriedB]⟩
  | n + 4, h => by omega
theorem E4_enc (c : Cel) (odd : Bool) : E4 c.y c.re (if odd = true then Op.negFloat .f32 c.im else c.im) = enc1 odd c.cn := by
  cases odd <;> simp [E4, enc1, cn_neg]
theorem encode_snoc {row : List Cel} {odd : Bool} {k : Nat} (h : k < row.length) : encode (cnC (row.take (k + 1))) odd = encode (cnC (row.take k)) odd ++ enc1 odd row[k].cn := by
  rw [take_snoc h]
  simp only [cnC, List.map_append, encode, List.flatMap_append, List.map_cons, List.map_nil, List.flatMap_cons, List.flatMap_nil, List.append_nil]
theorem encode_len (row : List Cel) (odd : Bool) : (encode row odd).length = 4 * row.length := by
  induction row with
  | nil => rfl
  | cons c r ih => simp only [encode, List.flatMap_cons, List.length_append, List.length_cons] at ih ⊢; rw [ih]; simp [enc1]; omega
def encR (row : List Cel) (odd : Bool) : List Nat := if rowOk row = true then encode row odd else []
def burstC : List Cel := List.replicate 4 ⟨0, 3246391296, 1098907648⟩
def lineR (row : List Cel) (odd : Bool) : List Nat := if rowOk row = true then List.replicate 8 3263168512 ++ encode burstC odd ++ encode row odd else []
theorem cns_app (a b : List Nat) : cns (a ++ b) = cns a ++ cns b := by simp
theorem burst_cn : cnC burstC = burstC := by decide +kernel
theorem burst_ok (odd : Bool) : encR (cnC burstC) odd = encode burstC odd := by unfold encR; rw [burst_cn, if_pos (by decide +kernel)]
theorem pulse_cn : cns (List.replicate 8 3263168512) = List.replicate 8 3263168512 := by decide +kernel
theorem snoc_flx {w : World} {base : Nat} {v : Value} {k b : Nat} {gs : List Nat} {E : TypeId} (h : w.ownsRow base E 1 v (k + 1) (gs.map fl ++ #[Value.float .f32 b].toList)) : w.ownsRow base E 1 v (k + 1) ((gs ++ [b]).map fl) := by
  simpa using h
end Go.Fx
namespace Go.Proofs.Ytiddaabodkglmaa
open Go.RowKit Go.Fx
set_option linter.unusedVariables false
set_option linter.unusedSimpArgs false
set_option maxRecDepth 100000 in
set_option maxHeartbeats 4000000 in
theorem put_any (A : Option Addr) (c k : Nat) (gs : List Nat) (y re im : Nat) (base : Nat) (w0 w : World) (h : w.ownsRow base 29 1 (.slice A k c) k (gs.map fl)) (hx : Ext w0 w) (hb0 : w0.heap.size ≤ base) (hbw : base ≤ w.heap.size) (hk : k ≤ 1048576) :
    Calls Try.prog 246 #[.slice A k c, .float .f32 y, .complex .f32 re im] w fun e w' => (∃ v ms, e = .returned v ∧ cns ms = E4 y re im ∧ w'.ownsRow base 29 1 v (k + 4) ((gs ++ ms).map fl)) ∧ Ext w0 w' ∧ base ≤ w'.heap.size := by
  go_enter Try.func246, Try.ntmps246
  go_wp2
  go_loopw [0, 7] (fun v i wr => ∃ (j : Nat) (ms : List Nat), j ≤ 4 ∧ i = .int .i64 j ∧ wr.ownsRow base 29 1 v (k + j) ((gs ++ ms).map fl) ∧ Hid (cns ms = (E4 y re im).take j) ∧ Ext w0 wr ∧ base ≤ wr.heap.size) (fun _ i _ => 4 - (intOf i).toNat)
  case atStart => exact ⟨0, [], by omega, rfl, by simpa using h, Lib.hid (by simp), hx, hbw⟩
  case round =>
    obtain ⟨j, ms, hn, rfl, ho, HM, hxr, hbr⟩ := hrel
    clear h hx hbw
    obtain ⟨A1, c1, rfl, -, -⟩ := own_slice ho
    by_cases hlt : j < 4
    · obtain ⟨hE, eE⟩ := E4_at y re im j hlt
      have EE := Lib.hid eE
      clear eE
      go_wp2_with (first | (go_at_call 249; refine (sCarried_any re im j (by omega) (by omega) _).mono ?_; rintro e w1 ⟨rfl, rfl⟩) | (with_reducible first | (refine upon_add ?_; intro b n hb) | (refine upon_sub ?_; intro b n hb) | (refine upon_mul ?_; intro b n hb) | (refine upon_quo ?_; intro b n hb)) | (at_builtin; refine wpList_app rfl _ _ 22 rfl base 29 _ 1 4 Try.underlying22 info_f32 rfl (by omega) (.slice A1 (k + j) c1) (k + j) ((gs ++ ms).map fl) rfl (own_ext ho (by (repeat (first | exact Below.refl _ _ | assumption | refine below_drewN ?_ _ | refine Below.drew ?_ | refine Below.alloc ?_ (by first | exact Nat.le_refl _ | (simp; done) | (simp; omega)) _ | refine Below.setCell ?_ (by first | exact Nat.le_refl _ | (simp; done) | (simp; omega)) _)))) _ 1 1 _ rfl (rd_new _ _ _ _) rfl (fun h => by cases h) (by intro u hu; simp at hu; rcases hu with rfl; rfl) (by unfold maxLen; omega) (by omega) (by simp; omega) ?_; intro v1 w2 hown hg hat))
      go_roundw
      case rel => exact ⟨j + 1, ms ++ [b], by omega, by go_num, by rw [← List.append_assoc, ← Nat.add_assoc]; exact snoc_flx hown, Lib.hid (cns_snoc HM.out hE (by rw [EE.out, hb])), ext_grow (base := base) (hxr.trans (by (repeat (first | exact Below.refl _ _ | assumption | refine below_drewN ?_ _ | refine Below.drew ?_ | refine Below.alloc ?_ (by first | exact Nat.le_refl _ | (simp; done) | (simp; omega)) _ | refine Below.setCell ?_ (by first | exact Nat.le_refl _ | (simp; done) | (simp; omega)) _)))) (own_ext ho (by (repeat (first | exact Below.refl _ _ | assumption | refine below_drewN ?_ _ | refine Below.drew ?_ | refine Below.alloc ?_ (by first | exact Nat.le_refl _ | (simp; done) | (simp; omega)) _ | refine Below.setCell ?_ (by first | exact Nat.le_refl _ | (simp; done) | (simp; omega)) _)))) hb0 hg, by have := hg.size; simp at this; omega⟩
      case measure => simp [intOf]; omega
    · go_wp2
      go_ret
      obtain rfl : j = 4 := by omega
      exact ⟨⟨_, ms, rfl, by rw [HM.out]; rfl, ho⟩, hxr, hbr⟩
set_option maxRecDepth 100000 in
set_option maxHeartbeats 4000000 in
theorem sEncodeCells_any (A : Option Addr) (c : Nat) (row : List Cel) (odd : Bool) (w : World) (h : Rd w A (ccells row)) (hn : row.length ≤ 1048576) :
    Calls Try.prog 240 #[.slice A row.length c, .bool odd] w fun e w' => (∃ v gs, e = .returned v ∧ OF w' w.heap.size v gs ∧ cns gs = encR (cnC row) odd) ∧ Ext w w' := by
  have H := Lib.hid h
  clear h
  have hm : row.length ≤ maxLen := by unfold maxLen; omega
  have ha : Ext w (w.alloc (.cells #[] 29)) := (Ext.refl _).alloc _
  have hnew := own_new w w.heap.size 29 1 (Nat.le_refl _)
  cases hok : rowOk row
  · have HN : Hid (encR (cnC row) odd = []) := Lib.hid (by unfold encR; rw [rowOk_cnC, hok]; rfl)
    go_enter Try.func240, Try.ntmps240
    go_wp2_with (go_at_call 80; refine (sRowOk_any _ _ _ _ (H.out.ext ha) hm).mono ?_; rintro e w1 ⟨rfl, hb1⟩; rw [hok])
    go_ret
    exact ⟨⟨_, [], rfl, own_ext hnew hb1, by rw [HN.out]; rfl⟩, ha.trans hb1⟩
  · have HN : Hid (encR (cnC row) odd = encode (cnC row) odd) := Lib.hid (by unfold encR; rw [rowOk_cnC, hok]; rfl)
    have hrl := rowOk_len hok
    go_enter Try.func240, Try.ntmps240
    go_wp2_with (first | (go_at_call 80; refine (sRowOk_any _ _ _ _ (H.out.ext ha) hm).mono ?_; rintro e w1 ⟨rfl, hb1⟩; rw [hok]; replace hnew := own_ext hnew hb1; replace ha := ha.trans hb1))
    clear hok
    go_loopw [5, 6, 7] (fun v i z wr => ∃ (k m : Nat) (gs : List Nat), k ≤ row.length ∧ gs.length = m ∧ i = .int .i64 k ∧ wr.ownsRow w.heap.size 29 1 v m (gs.map fl) ∧ Hid (cns gs = encode (cnC (row.take k)) odd) ∧ Ext w wr) (fun _ i _ _ => row.length - (intOf i).toNat)
    case atStart => exact ⟨0, 0, [], by omega, rfl, rfl, hnew, Lib.hid (by simp [encode]), ha⟩
    case round =>
      obtain ⟨k, m, gs, hk, hgl, rfl, ho, HM, hbr⟩ := hrel
      clear hnew ha
      obtain ⟨A1, c1, rfl, -, -⟩ := own_slice ho
      have hml : m ≤ 256 := by
        have := congrArg List.length HM.out
        rw [encode_len] at this
        simp at this
        omega
      by_cases hlt : k < row.length
      · obtain ⟨b, off, rfl, hbw, hy, hcx⟩ := rc_at (H.out.ext hbr) hlt
        have HS := Lib.hid (encode_snoc (odd := odd) hlt)
        have HE := Lib.hid (E4_enc row[k] odd)
        cases odd
        · go_wp2_with (go_at_call 246; refine (put_any A1 c1 m gs _ _ _ w.heap.size w _ ho hbr (Nat.le_refl _) hbr.size (by omega)).mono ?_; rintro e w2 ⟨⟨v2, ms, rfl, hms, ho2⟩, hb2, -⟩)
          go_roundw
          case rel => exact ⟨k + 1, m + 4, gs ++ ms, by omega, by have := congrArg List.length hms; simp [E4] at this; simp [hgl, this], by go_num, ho2, Lib.hid (by rw [HS.out, ← HE.out, cns_app, HM.out, hms]; simp), hb2⟩
          case measure => simp [intOf]; omega
        · go_wp2_with (first | (go_at_call 203; refine (sConj_any _ _ _).mono ?_; rintro e w4 ⟨rfl, rfl⟩) | (go_at_call 246; refine (put_any A1 c1 m gs _ _ _ w.heap.size w _ ho hbr (Nat.le_refl _) hbr.size (by omega)).mono ?_; rintro e w2 ⟨⟨v2, ms, rfl, hms, ho2⟩, hb2, -⟩))
          go_roundw
          case rel => exact ⟨k + 1, m + 4, gs ++ ms, by omega, by have := congrArg List.length hms; simp [E4] at this; simp [hgl, this], by go_num, ho2, Lib.hid (by rw [HS.out, ← HE.out, cns_app, HM.out, hms]; simp), hb2⟩
          case measure => simp [intOf]; omega
      · go_wp2
        go_ret
        obtain rfl : k = row.length := by omega
        refine ⟨⟨.slice A1 m c1, gs, rfl, ?_, by rw [HN.out, HM.out, List.take_of_length_le (Nat.le_refl _)]⟩, hbr⟩
        unfold OF
        rw [hgl]
        exact ho
theorem burst_any (w : World) :
    Calls Try.prog 241 #[] w fun e w' => (∃ v, e = .returned v ∧ OC w' w.heap.size v (List.replicate 4 ⟨0, 3246391296, 1098907648⟩)) ∧ Ext w w' := by
  have ha : Ext w (w.alloc (.cells #[] 90)) := (Ext.refl _).alloc _
  have hnew := own_new w w.heap.size 90 2 (Nat.le_refl _)
  go_enter Try.func241, Try.ntmps241
  go_wp2
  go_loopw [1, 2] (fun v i wr => ∃ (k : Nat), k ≤ 4 ∧ i = .int .i64 k ∧ wr.ownsRow w.heap.size 90 2 v k (ccells (List.replicate k ⟨0, 3246391296, 1098907648⟩)) ∧ Ext w wr) (fun _ i _ => 4 - (intOf i).toNat)
  case atStart => exact ⟨0, by omega, rfl, hnew, ha⟩
  case round =>
    obtain ⟨k, hk, rfl, ho, hbr⟩ := hrel
    clear hnew ha
    obtain ⟨A1, c1, rfl, -, -⟩ := own_slice ho
    by_cases hlt : k < 4
    · go_wp2_with (at_builtin; refine wpList_app rfl _ _ 43 rfl w.heap.size 90 _ 2 12 Try.underlying43 info_cell rfl (by omega) (.slice A1 k c1) k (ccells (List.replicate k ⟨0, 3246391296, 1098907648⟩)) rfl (own_ext ho ((Ext.refl _).alloc _)) _ 1 1 _ rfl (rd_new _ _ _ _) rfl (fun h => by cases h) (by intro u hu; simp at hu; rcases hu with rfl | rfl <;> rfl) (by unfold maxLen; omega) (by omega) (by have := hbr.size; simp; omega) ?_; intro v1 w2 hown hg hat)
      go_roundw
      case rel => exact ⟨k + 1, by omega, by go_num, by rw [List.replicate_succ']; simpa [snoc2] using hown, ext_grow (base := w.heap.size) (hbr.alloc _) (own_ext ho ((Ext.refl _).alloc _)) (Nat.le_refl _) hg⟩
      case measure => simp [intOf]; omega
    · go_wp2
      go_ret
      obtain rfl : k = 4 := by omega
      exact ⟨⟨_, rfl, ho⟩, hbr⟩
set_option maxRecDepth 100000 in
set_option maxHeartbeats 4000000 in
theorem sMakeLine_any (A : Option Addr) (c : Nat) (row : List Cel) (odd : Bool) (w : World) (h : Rd w A (ccells row)) (hn : row.length ≤ 1048576) :
    Calls Try.prog 226 #[.slice A row.length c, .bool odd] w fun e w' => (∃ v gs, e = .returned v ∧ OF w' w.heap.size v gs ∧ cns gs = lineR (cnC row) odd) ∧ Ext w w' := by
  have H := Lib.hid h
  clear h
  have hm : row.length ≤ maxLen := by unfold maxLen; omega
  have ha : Ext w (w.alloc (.cells #[] 29)) := (Ext.refl _).alloc _
  have hnew := own_new w w.heap.size 29 1 (Nat.le_refl _)
  cases hok : rowOk row
  · have HN : Hid (lineR (cnC row) odd = []) := Lib.hid (by unfold lineR; rw [rowOk_cnC, hok]; rfl)
    go_enter Try.func226, Try.ntmps226
    go_wp2_with (go_at_call 80; refine (sRowOk_any _ _ _ _ (H.out.ext ha) hm).mono ?_; rintro e w1 ⟨rfl, hb1⟩; rw [hok])
    go_ret
    exact ⟨⟨_, [], rfl, own_ext hnew hb1, by rw [HN.out]; rfl⟩, ha.trans hb1⟩
  · have HO := Lib.hid hok
    have hrl := rowOk_len hok
    go_enter Try.func226, Try.ntmps226
    go_wp2_with (first | (go_at_call 80; refine (sRowOk_any _ _ _ _ (H.out.ext ha) hm).mono ?_; rintro e w1 ⟨rfl, hb1⟩; rw [hok]; replace hnew := own_ext hnew hb1; replace ha := ha.trans hb1))
    clear hok
    go_loopw [5, 6] (fun v i wr => ∃ (k : Nat), k ≤ 8 ∧ i = .int .i64 k ∧ wr.ownsRow w.heap.size 29 1 v k ((List.replicate k 3263168512).map fl) ∧ Ext w wr) (fun _ i _ => 8 - (intOf i).toNat)
    case atStart => exact ⟨0, by omega, rfl, hnew, ha⟩
    case round =>
      obtain ⟨k, hk, rfl, ho, hbr⟩ := hrel
      clear hnew ha
      obtain ⟨A1, c1, rfl, -, -⟩ := own_slice ho
      by_cases hlt : k < 8
      · go_wp2_with (at_builtin; refine wpList_app rfl _ _ 22 rfl w.heap.size 29 _ 1 4 Try.underlying22 info_f32 rfl (by omega) (.slice A1 k c1) k ((List.replicate k 3263168512).map fl) rfl (own_ext ho ((Ext.refl _).alloc _)) _ 1 1 _ rfl (rd_new _ _ _ _) rfl (fun h => by cases h) (by intro u hu; simp at hu; rcases hu with rfl; rfl) (by unfold maxLen; omega) (by omega) (by have := hbr.size; simp; omega) ?_; intro v1 w2 hown hg hat)
        go_roundw
        case rel => exact ⟨k + 1, by omega, by go_num, by rw [List.replicate_succ']; exact snoc_flx hown, ext_grow (base := w.heap.size) (hbr.alloc _) (own_ext ho ((Ext.refl _).alloc _)) (Nat.le_refl _) hg⟩
        case measure => simp [intOf]; omega
      · obtain rfl : k = 8 := by omega
        have HB := Lib.hid (burst_ok odd)
        have HL : Hid (lineR (cnC row) odd = List.replicate 8 3263168512 ++ encode burstC odd ++ encR (cnC row) odd) := Lib.hid (by unfold lineR encR; rw [rowOk_cnC, HO.out]; rfl)
        go_wp2_with fail
        refine (burst_any _).mono ?_
        rintro e w2 ⟨⟨v2, rfl, ho2⟩, hb2⟩
        obtain ⟨A2, c2, rfl, -, -⟩ := own_slice ho2
        go_wp2_with fail
        refine (sEncodeCells_any A2 c2 burstC odd _ (own_rd ho2) (by simp [burstC])).mono ?_
        rintro e w3 ⟨⟨v3, g3, rfl, ho3, hg3⟩, hb3⟩
        have hl3 : g3.length = 16 := by
          have := congrArg List.length hg3
          rw [HB.out, encode_len] at this
          simpa [burstC] using this
        unfold OF at ho3
        rw [hl3] at ho3
        obtain ⟨A3, c3, rfl, -, z3⟩ := own_slice ho3
        have HG3 := Lib.hid hg3
        have hx3 := (hbr.trans hb2).trans hb3
        replace ho := own_ext (own_ext ho hb2) hb3
        clear hg3 ho2 hb2 hb3 hbr
        go_wp2_with (at_builtin; refine wpList_app rfl _ _ 22 rfl w.heap.size 29 _ 1 4 Try.underlying22 info_f32 rfl (by omega) (.slice A1 8 c1) 8 ((List.replicate 8 3263168512).map fl) rfl ho A3 16 c3 (g3.map fl) rfl (own_rd ho3) (by rw [List.length_map, hl3]) z3 oneCell_fl (by unfold maxLen; omega) (by omega) hx3.size ?_; intro v4 w4 hown4 hg4 hat4)
        have hx4 := ext_grow (base := w.heap.size) hx3 ho (Nat.le_refl _) hg4
        have hown4' : w4.ownsRow w.heap.size 29 1 v4 24 ((List.replicate 8 3263168512).map fl ++ g3.map fl) := hown4
        clear hown4
        obtain ⟨A4, c4, rfl, -, -⟩ := own_slice hown4'
        refine (sEncodeCells_any A c row odd _ (H.out.ext hx4) hn).mono ?_
        rintro e w5 ⟨⟨v5, g5, rfl, ho5, hg5⟩, hb5⟩
        have hl5 : g5.length ≤ 256 := by
          have := congrArg List.length hg5
          unfold encR at this
          split at this
          · rw [encode_len] at this; simp at this; omega
          · simp at this; simp [this]
        have HG5 := Lib.hid hg5
        have hx5 := hx4.trans hb5
        replace hown4' := own_ext hown4' hb5
        unfold OF at ho5
        generalize hgn : g5.length = m5 at ho5 hl5
        obtain ⟨A5, c5, rfl, -, z5⟩ := own_slice ho5
        clear hg5 hb5 hx4 hg4 hat4 hx3 ho ho3 hl3
        go_wp2_with (at_builtin; refine wpList_app rfl _ _ 22 rfl w.heap.size 29 _ 1 4 Try.underlying22 info_f32 rfl (by omega) (.slice A4 24 c4) 24 _ rfl hown4' A5 m5 c5 (g5.map fl) rfl (own_rd ho5) (by rw [List.length_map, hgn, Nat.mul_one]) z5 oneCell_fl (by unfold maxLen; omega) (by omega) hx5.size ?_; intro v6 w6 hown6 hg6 hat6)
        go_ret
        refine ⟨⟨v6, (List.replicate 8 3263168512 ++ g3) ++ g5, rfl, ?_, ?_⟩, ext_grow (base := w.heap.size) hx5 hown4' (Nat.le_refl _) hg6⟩
        · unfold OF
          have e1 : ((List.replicate 8 3263168512 ++ g3) ++ g5).length = 24 + m5 := by
            have := congrArg List.length HG3.out
            rw [HB.out, encode_len] at this
            simp [burstC] at this
            simp [this, hgn]; omega
          rw [e1, List.map_append, List.map_append]
          exact hown6
        · rw [HL.out, cns_app, cns_app, pulse_cn, HG3.out, HB.out, HG5.out]
end Go.Proofs.Ytiddaabodkglmaa

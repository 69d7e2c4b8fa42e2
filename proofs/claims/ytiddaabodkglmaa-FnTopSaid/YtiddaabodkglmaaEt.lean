import Derived.Test.YtiddaabodkglmaaK4
import Derived.Test.YtiddaabodkglmaaEd
import Derived.Test.YtiddaabodkglmaaK6
import Derived.Deep.CutRange
namespace Go.Proofs.Ytiddaabodkglmaa
open Go.RowKit Go.Fx
set_option linter.unusedVariables false
set_option linter.unusedSimpArgs false
set_option maxRecDepth 100000 in
set_option maxHeartbeats 4000000 in
theorem encoded_any (A : Option Addr) (c : Nat) (row : List Cel) (odd : Bool) (w : World) (h : Rd w A (ccells row)) (hn : row.length ≤ 1048576) :
    Calls Try.prog 172 #[.slice A row.length c, .bool odd] w fun e w' => (∃ v gs, e = .returned v ∧ OF w' w.heap.size v gs ∧ cns gs = encode (cnC row) odd) ∧ Ext w w' := by
  have H := Lib.hid h
  clear h
  go_enter Try.func172, Try.ntmps172
  go_wp2_with fail
  go_loopw [5, 7, 8, 9, 12] (fun v p x n i wr => ∃ (k m : Nat) (gs : List Nat), k ≤ row.length ∧ Hid (m = 4 * k) ∧ gs.length = m ∧ i = .int .i64 k ∧ wr.ownsRow w.heap.size 29 1 v m (gs.map fl) ∧ Hid (cns gs = encode (cnC (row.take k)) odd) ∧ Ext w wr) (fun _ _ _ _ i _ => row.length - (intOf i).toNat)
  case atStart => exact ⟨0, 0, [], by omega, Lib.hid rfl, rfl, rfl, World.ownsRow_nil _ _ _ _, Lib.hid (by simp [encode]), Ext.refl _⟩
  case round =>
    obtain ⟨k, m, gs, hk, hm4, hgl, rfl, ho, HM, hbr⟩ := hrel
    rename World => wo
    obtain ⟨A1, c1, rfl, -, -⟩ := own_slice ho
    have hml : m ≤ 4194304 := by have := hm4.out; omega
    by_cases hlt : k < row.length
    · obtain ⟨b, off, rfl, hbw, hy, hcx⟩ := rc_at (H.out.ext hbr) hlt
      have HS := Lib.hid (encode_snoc (odd := odd) hlt)
      have HE := Lib.hid (E4_enc row[k] odd)
      generalize row[k] = C at *
      have hal : Ext wo (wo.alloc (.cells #[.float .f32 C.y, .complex .f32 C.re C.im] 90)) := (Ext.refl _).alloc _
      have hblk := heap_alloc_new wo (.cells #[.float .f32 C.y, .complex .f32 C.re C.im] 90)
      have hown : (Value.slice A1 m c1).ownBlock ≠ some wo.heap.size := fun e => by have := (ho.lt _ e).2; omega
      have ho1 := own_ext ho hal
      have hbr1 := hbr.alloc (.cells #[.float .f32 C.y, .complex .f32 C.re C.im] 90)
      go_upto_if 18 with fail
      go_cut [8] from 18 to 20 (fun s8 wr => s8 = .complex .f32 C.re (if odd = true then Op.negFloat .f32 C.im else C.im) ∧ wr = wo.alloc (.cells #[.float .f32 C.y, .complex .f32 C.re C.im] 90))
      case first =>
        cases odd
        · go_wp2_with fail
          go_meet
          exact ⟨rfl, rfl⟩
        · go_wp2_with fail
          refine (conj_any _ _ _).mono ?_
          rintro e w2 ⟨rfl, rfl⟩
          go_wp2_with fail
          go_meet
          exact ⟨rfl, rfl⟩
      case rest =>
      obtain ⟨rfl, rfl⟩ := hcut
      generalize (if odd = true then Op.negFloat .f32 C.im else C.im) = im at *
      generalize hwa : wo.alloc (.cells #[.float .f32 C.y, .complex .f32 C.re C.im] 90) = wa at *
      have HK0 := Lib.hid hblk
      have HW := Lib.hid hwa
      clear hal hblk ho hwa
      go_wp2_with fail
      go_loopw [5, 9] (fun v n wr => ∃ (j : Nat) (ms : List Nat), j ≤ 4 ∧ n = .int .i64 j ∧ wr.ownsRow w.heap.size 29 1 v (m + j) ((gs ++ ms).map fl) ∧ Hid (cns ms = (E4 C.y C.re im).take j) ∧ v.ownBlock ≠ some wo.heap.size ∧ Hid (wr.heap[wo.heap.size]? = some (.cells #[.float .f32 C.y, .complex .f32 C.re C.im] 90 (0, 0))) ∧ Ext w wr) (fun _ n _ => 4 - (intOf n).toNat)
      case atStart => exact ⟨0, [], by omega, rfl, by simpa using ho1, Lib.hid (by simp), hown, HK0, hbr1⟩
      case round =>
        obtain ⟨j, ms, hj, rfl, ho2, HMS, hne, HK, hbr2⟩ := hrel
        clear ho1 hown hbr1
        obtain ⟨A2, c2, rfl, -, -⟩ := own_slice ho2
        by_cases hlj : j < 4
        · obtain ⟨hE, eE⟩ := E4_at C.y C.re im j hlj
          have EE := Lib.hid eE
          clear eE
          have kb := HK.out
          have hws : wo.heap.size < wr.heap.size := (Array.getElem?_eq_some_iff.1 kb).1
          obtain ⟨kkc0, kkc1, kkf⟩ := blk2 kb
          have hadd : ∀ W, (binOp .add 29 (.float .f32 C.y) (.float .f32 (carriedB C.re im j))).run Try.prog W = .ok (.float .f32 (fbits W .add .f32 C.y (carriedB C.re im j))) (W.drewN (fcnt .add .f32 C.y (carriedB C.re im j))) := fun W => run_fop W .add (by simp) _ _ _ _
          clear kb
          go_wp2_with fail
          go_region_law (first | (refine step_app rfl _ _ 22 rfl w.heap.size 29 _ 1 4 Try.underlying22 info_f32 rfl (by omega) (.slice A2 (m + j) c2) (m + j) ((gs ++ ms).map fl) rfl (own_ext ho2 (by (repeat (first | exact Below.refl _ _ | assumption | refine below_drewN ?_ _ | refine Below.drew ?_ | refine Below.alloc ?_ (by first | exact Nat.le_refl _ | (simp; done) | (simp; omega)) _ | refine Below.setCell ?_ (by first | exact Nat.le_refl _ | (simp; done) | (simp; omega)) _)))) _ 1 1 _ rfl (rd_new _ _ _ _) rfl (fun h => by cases h) (by intro u hu; simp at hu; rcases hu with rfl; rfl) (by unfold maxLen; omega) (by omega) (by have := hbr2.size; simp; omega) ?_; intro v1 w2 hown hg hat) | (go_simp; go_at_call 176; refine (iCarried_any C.re im j (by omega) (by omega) _).mono ?_; rintro e w1 ⟨rfl, rfl⟩))
          all_goals go_wp2_with fail
          all_goals go_roundw
          all_goals first | (simp [intOf]; done) | (simp [intOf]; omega) | skip
          all_goals exact ⟨j + 1, ms ++ [_], by omega, by go_num, by rw [← List.append_assoc, ← Nat.add_assoc]; exact snoc_flx hown, Lib.hid (cns_snoc HMS.out hE (by rw [EE.out, cn_fbits])), own_ne hat hne (by simp; omega), Lib.hid (blk_past (blk_ext HK.out (by (repeat (first | exact Below.refl _ _ | assumption | refine below_drewN ?_ _ | refine Below.drew ?_ | refine Below.alloc ?_ (by first | exact Nat.le_refl _ | (simp; done) | (simp; omega)) _ | refine Below.setCell ?_ (by first | exact Nat.le_refl _ | (simp; done) | (simp; omega)) _)))) hg (fun e => hne e.symm)), ext_grow (base := w.heap.size) (hbr2.trans (by (repeat (first | exact Below.refl _ _ | assumption | refine below_drewN ?_ _ | refine Below.drew ?_ | refine Below.alloc ?_ (by first | exact Nat.le_refl _ | (simp; done) | (simp; omega)) _ | refine Below.setCell ?_ (by first | exact Nat.le_refl _ | (simp; done) | (simp; omega)) _)))) (own_ext ho2 (by (repeat (first | exact Below.refl _ _ | assumption | refine below_drewN ?_ _ | refine Below.drew ?_ | refine Below.alloc ?_ (by first | exact Nat.le_refl _ | (simp; done) | (simp; omega)) _ | refine Below.setCell ?_ (by first | exact Nat.le_refl _ | (simp; done) | (simp; omega)) _)))) (Nat.le_refl _) hg⟩
        · obtain rfl : j = 4 := by omega
          go_wp2_with fail
          go_roundw
          case rel => exact ⟨k + 1, m + 4, gs ++ ms, by omega, Lib.hid (by have := hm4.out; omega), by have := congrArg List.length HMS.out; simp [E4] at this; simp [hgl, this], by go_num, ho2, Lib.hid (by rw [HS.out, ← HE.out, cns_app, HM.out, HMS.out]; rfl), hbr2⟩
          case measure => simp [intOf]; omega
    · obtain rfl : k = row.length := by omega
      go_wp2_with fail
      go_ret
      refine ⟨⟨.slice A1 m c1, gs, rfl, ?_, by rw [HM.out, List.take_of_length_le (Nat.le_refl _)]⟩, hbr⟩
      unfold OF
      rw [hgl]
      exact ho
set_option maxRecDepth 100000 in
theorem iEncodeCells_any (A : Option Addr) (c : Nat) (row : List Cel) (odd : Bool) (w : World) (h : Rd w A (ccells row)) (hn : row.length ≤ 1048576) :
    Calls Try.prog 87 #[.slice A row.length c, .bool odd] w fun e w' => (∃ v gs, e = .returned v ∧ OF w' w.heap.size v gs ∧ cns gs = encR (cnC row) odd) ∧ Ext w w' := by
  have H := Lib.hid h
  clear h
  have hm : row.length ≤ maxLen := by unfold maxLen; omega
  cases hok : rowOk row
  · have HN : Hid (encR (cnC row) odd = []) := Lib.hid (by unfold encR; rw [rowOk_cnC, hok]; rfl)
    go_enter Try.func87, Try.ntmps87
    go_wp2_with fail
    refine (iRowOk_any A c row _ H.out hm).mono ?_
    rintro e w1 ⟨rfl, hb1⟩
    rw [hok]
    go_wp2_with fail
    go_ret
    exact ⟨⟨_, [], rfl, World.ownsRow_nil _ _ _ _, by rw [HN.out]; rfl⟩, hb1⟩
  · have HN : Hid (encR (cnC row) odd = encode (cnC row) odd) := Lib.hid (by unfold encR; rw [rowOk_cnC, hok]; rfl)
    go_enter Try.func87, Try.ntmps87
    go_wp2_with fail
    refine (iRowOk_any A c row _ H.out hm).mono ?_
    rintro e w1 ⟨rfl, hb1⟩
    rw [hok]
    go_wp2_with fail
    refine (encoded_any A c row odd _ (H.out.ext hb1) hn).mono ?_
    rintro e w2 ⟨⟨v, gs, rfl, ho, hg⟩, hb2⟩
    go_wp2_with fail
    go_ret
    exact ⟨⟨v, gs, rfl, own_base ho hb1.size, by rw [HN.out]; exact hg⟩, hb1.trans hb2⟩
end Go.Proofs.Ytiddaabodkglmaa

import Derived.Test.YtiddaabodkglmaaHj
import Derived.Test.YtiddaabodkglmaaEf
import Derived.Deep.CutRange
import Derived.Outline
namespace Go.Fx
open Ieee Go.Proofs.Ytiddaabodkglmaa
theorem four_V {k : Nat} (hk : k < 4) : ∃ (re im : Nat) (X Y : Int), (#[Value.complex .f32 1073741824 0, Value.complex .f32 3212836864 0, Value.complex .f32 0 1056964608, Value.complex .f32 0 3229614080])[k]? = some (.complex .f32 re im) ∧ V re X 1 ∧ V im Y 1 ∧ ((X = 4 ∧ Y = 0) ∨ (X = -2 ∧ Y = 0) ∨ (X = 0 ∧ Y = 1) ∨ (X = 0 ∧ Y = -8)) := by
  have z : V 0 0 1 := v_chk (by decide +kernel)
  rcases (by omega : k = 0 ∨ k = 1 ∨ k = 2 ∨ k = 3) with rfl | rfl | rfl | rfl
  · exact ⟨1073741824, 0, 4, 0, rfl, v_chk (by decide +kernel), z, .inl ⟨rfl, rfl⟩⟩
  · exact ⟨3212836864, 0, -2, 0, rfl, v_chk (by decide +kernel), z, .inr (.inl ⟨rfl, rfl⟩)⟩
  · exact ⟨0, 1056964608, 0, 1, rfl, z, v_chk (by decide +kernel), .inr (.inr (.inl ⟨rfl, rfl⟩))⟩
  · exact ⟨0, 3229614080, 0, -8, rfl, z, v_chk (by decide +kernel), .inr (.inr (.inr ⟨rfl, rfl⟩))⟩
end Go.Fx
namespace Go.Proofs.Ytiddaabodkglmaa
open Go.RowKit Go.Fx
set_option linter.unusedVariables false
set_option linter.unusedSimpArgs false
set_option maxRecDepth 100000 in
set_option maxHeartbeats 2000000 in
theorem times_walk (A0 : Option Addr) (c0 : Nat) (code : List Int) (w : World) (h0 : Rd w A0 (code.map by8)) (hm0 : code.length ≤ maxLen) (hb0 : ∀ x ∈ code, 0 ≤ x ∧ x ≤ 255) :
    Calls Try.prog 14 #[.slice A0 code.length c0] w fun e w' => e = .returned (.bool true) ∧ Ext w w' := by
  have hM0 := hm0
  unfold maxLen at hM0
  have H0 := Lib.hid h0
  have HB0 := Lib.hid hb0
  clear h0 hb0
  by_cases hbig : 1048576 < code.length
  · go_enter Try.func14, Try.ntmps14
    go_wp2_with (go_at_call 39; refine (big_any _ _ _ _ hM0).mono ?_; rintro e w1 ⟨rfl, rfl⟩)
    go_ret
    exact ⟨rfl, Ext.refl _⟩
  have hn0 : code.length ≤ 1048576 := by omega
  go_enter Try.func14, Try.ntmps14
  go_wp2_with (go_at_call 39; refine (big_any _ _ _ _ hM0).mono ?_; rintro e w1 ⟨rfl, rfl⟩)
  refine (drawTimes_any A0 c0 code _ H0.out hn0 HB0.out).mono ?_
  rintro e w1 ⟨⟨a, b, x, y, rfl⟩, hb1⟩
  cases hq1 : (feq .f32 a a && feq .f32 b b)
  · go_wp2_with fail
    go_ret
    exact ⟨rfl, hb1⟩
  cases hq2 : (feq .f32 x x && feq .f32 y y)
  · rw [Bool.and_eq_true] at hq1
    obtain ⟨f1, f2⟩ := hq1
    go_wp2_with fail
    go_ret
    exact ⟨rfl, hb1⟩
  rw [Bool.and_eq_true] at hq1 hq2
  obtain ⟨f1, f2⟩ := hq1
  obtain ⟨f3, f4⟩ := hq2
  go_wp2_with fail
  refine (iTimes_any a b x y _).mono ?_
  rintro e w2 ⟨⟨r, i, rfl, hr, hi⟩, n2, rfl⟩
  have HR := Lib.hid hr
  have HI := Lib.hid hi
  clear hr hi
  go_wp2_with fail
  refine (iTimes_any x y a b _).mono ?_
  rintro e w3 ⟨⟨s, j, rfl, hs, hj⟩, n3, rfl⟩
  have HRS : Hid (feq .f32 r s = feq .f32 r r) := Lib.hid (by rw [← feq_cn_r, hs, ← (times_comm _ _ _ _).1, ← HR.out, feq_cn_r])
  have HIJ : Hid (feq .f32 i j = feq .f32 i i) := Lib.hid (by rw [← feq_cn_r, hj, ← (times_comm _ _ _ _).2, ← HI.out, feq_cn_r])
  clear hs hj HR HI f1 f2 f3 f4
  have HX : Hid (Ext w ((w1.drewN n2).drewN n3)) := Lib.hid (hb1.trans ((Ext.drewN _ _).trans (Ext.drewN _ _)))
  clear hb1
  generalize ((w1.drewN n2).drewN n3) = wa at HX ⊢
  go_upto_region 8 with fail
  go_cut [42] from 35 (fun u wr => u = .bool false ∧ wr = wa)
  case first =>
    cases q1 : feq .f32 r r
    · go_wp2_with fail
      go_meet
      exact ⟨rfl, rfl⟩
    · cases q2 : feq .f32 i i
      · go_wp2_with fail
        go_meet
        exact ⟨rfl, rfl⟩
      · have q3 : feq .f32 r s = true := by rw [HRS.out, q1]
        have q4 : feq .f32 i j = true := by rw [HIJ.out, q2]
        go_wp2_with fail
        go_meet
        exact ⟨rfl, rfl⟩
  case rest =>
  obtain ⟨rfl, rfl⟩ := hcut
  go_wp2_with fail
  refine (sCellOk_any 0 a b _).mono ?_
  rintro e w4 ⟨rfl, hb4⟩
  cases hok : cellOk ⟨0, a, b⟩
  · go_wp2_with fail
    go_ret
    exact ⟨rfl, HX.out.trans hb4⟩
  have HOK := Lib.hid hok
  have HX4 := Lib.hid (HX.out.trans hb4)
  clear hok hb4 HRS HIJ
  go_wp2_with fail
  refine (drawPlainCh_any A0 c0 code _ (H0.out.ext HX4.out) hn0 HB0.out).mono ?_
  rintro e w5 ⟨⟨ch, rfl, hpc⟩, hb5⟩
  have HPC := Lib.hid hpc
  obtain ⟨p1, p2, p3, p4⟩ := ch
  have hq5 := heap_alloc_new w5 (.cells #[.float .f32 p1, .float .f32 p2, .complex .f32 p3 p4] 32)
  have hs5 : (w5.alloc (.cells #[.float .f32 p1, .float .f32 p2, .complex .f32 p3 p4] 32)).heap.size = w5.heap.size + 1 := by simp
  have hq6 := heap_alloc_new (w5.alloc (.cells #[.float .f32 p1, .float .f32 p2, .complex .f32 p3 p4] 32)) (.cells #[.complex .f32 1073741824 0, .complex .f32 3212836864 0, .complex .f32 0 1056964608, .complex .f32 0 3229614080] 30)
  rw [hs5] at hq6
  have HQ5 := Lib.hid (blk_alloc (p := .cells #[.complex .f32 1073741824 0, .complex .f32 3212836864 0, .complex .f32 0 1056964608, .complex .f32 0 3229614080] 30) hq5)
  have HQ6 := Lib.hid hq6
  have HX6 := Lib.hid (HX4.out.trans (hb5.trans (((Ext.refl _).alloc (.cells #[.float .f32 p1, .float .f32 p2, .complex .f32 p3 p4] 32)).alloc (.cells #[.complex .f32 1073741824 0, .complex .f32 3212836864 0, .complex .f32 0 1056964608, .complex .f32 0 3229614080] 30))))
  have hws : w.heap.size ≤ w5.heap.size := (HX4.out.trans hb5).size
  clear hpc hq5 hs5 hq6 hb5
  go_wp2_with fail
  go_loopw [9, 10, 11, 12, 13, 51] (fun z1 z2 z3 z4 z5 k wr => ∃ (q gr gi : Nat), q ≤ 4 ∧ k = .int .i64 q ∧ Hid (wr.heap[w5.heap.size]? = some (.cells #[.float .f32 p1, .float .f32 p2, .complex .f32 gr gi] 32 (0, 0))) ∧ Hid (wr.heap[w5.heap.size + 1]? = some (.cells #[.complex .f32 1073741824 0, .complex .f32 3212836864 0, .complex .f32 0 1056964608, .complex .f32 0 3229614080] 30 (0, 0))) ∧ Ext w wr) (fun _ _ _ _ _ k _ => 4 - (intOf k).toNat)
  case atStart => exact ⟨0, p3, p4, by omega, rfl, HQ5, HQ6, HX6.out⟩
  case round =>
    obtain ⟨q, gr, gi, hq, rfl, HC, HL, hbr⟩ := hrel
    clear HQ5 HQ6 HX6
    by_cases hlt : q < 4
    · have hltI : (q : Int) < 4 := by omega
      obtain ⟨re, im, X, Y, hcell, vx, vy, hxy⟩ := four_V hlt
      obtain ⟨u, c, hu, hc, e1, e2, e3, e4⟩ := undone HPC.out vx vy hxy
      have HU := Lib.hid hu
      have HCC := Lib.hid hc
      have hrd : wr.cell? ⟨w5.heap.size + 1, q, none⟩ = some (.complex .f32 re im) := blk_cell HL.out hcell
      have hz1 : w5.heap.size < wr.heap.size := (Array.getElem?_eq_some_iff.1 HC.out).1
      have hz2 : w5.heap.size + 1 < wr.heap.size := (Array.getElem?_eq_some_iff.1 HL.out).1
      have kc := HC.out
      have ks := blk_set kc 2 (.complex .f32 re im)
      have HS : Hid ((wr.setCell ⟨w5.heap.size, 2, none⟩ (.complex .f32 re im)).heap[w5.heap.size]? = some (.cells #[.float .f32 p1, .float .f32 p2, .complex .f32 re im] 32 (0, 0))) := Lib.hid (by simpa using ks)
      have HL2 : Hid ((wr.setCell ⟨w5.heap.size, 2, none⟩ (.complex .f32 re im)).heap[w5.heap.size + 1]? = some (.cells #[.complex .f32 1073741824 0, .complex .f32 3212836864 0, .complex .f32 0 1056964608, .complex .f32 0 3229614080] 30 (0, 0))) := Lib.hid (by
        rw [Below.heap_setCell wr ⟨w5.heap.size, 2, none⟩ _ (w5.heap.size + 1) (by simp)]; exact HL.out)
      have HXS : Hid (Ext w (wr.setCell ⟨w5.heap.size, 2, none⟩ (.complex .f32 re im))) := Lib.hid (Below.setCell (p := ⟨w5.heap.size, 2, none⟩) hbr hws _)
      obtain ⟨xc0, xc1, xc2, xf⟩ := blk3 kc
      clear kc ks hcell vx vy hxy hu hc hbr
      go_wp2_with fail
      generalize (wr.setCell ⟨w5.heap.size, 2, none⟩ (.complex .f32 re im)) = wS at HS HL2 HXS ⊢
      refine (iUndo_ex ⟨p1, p2, re, im⟩ u HU.out _).mono ?_
      rintro e w7 ⟨rfl, hb7⟩
      have hq7 := heap_alloc_new w7 (.cells #[.float .f32 u.a, .float .f32 u.off, .complex .f32 u.re u.im] 32)
      have he7 : Ext w7 (w7.alloc (.cells #[.float .f32 u.a, .float .f32 u.off, .complex .f32 u.re u.im] 32)) := (Ext.refl _).alloc _
      have hb77 := hb7.trans he7
      have ks := blk_ext HS.out hb77
      obtain ⟨yc0, yc1, yc2, yf⟩ := blk3 hq7
      obtain ⟨zc0, zc1, zc2, zf⟩ := blk3 ks
      have HB7 := Lib.hid hb77
      clear hq7 he7 hb7 hb77 ks xc0 xc1 xc2 xf
      go_wp2_with fail
      refine (iChain_ex ⟨p1, p2, re, im⟩ u c HCC.out _).mono ?_
      rintro e w8 ⟨rfl, hb8⟩
      have hq8 := heap_alloc_new w8 (.cells #[.float .f32 c.a, .float .f32 c.off, .complex .f32 c.re c.im] 32)
      have he8 : Ext w8 (w8.alloc (.cells #[.float .f32 c.a, .float .f32 c.off, .complex .f32 c.re c.im] 32)) := (Ext.refl _).alloc _
      have hb88 := HB7.out.trans (hb8.trans he8)
      have HF : Hid (Hid ((w8.alloc (.cells #[.float .f32 c.a, .float .f32 c.off, .complex .f32 c.re c.im] 32)).heap[w5.heap.size]? = some (.cells #[.float .f32 p1, .float .f32 p2, .complex .f32 re im] 32 (0, 0))) ∧ Hid ((w8.alloc (.cells #[.float .f32 c.a, .float .f32 c.off, .complex .f32 c.re c.im] 32)).heap[w5.heap.size + 1]? = some (.cells #[.complex .f32 1073741824 0, .complex .f32 3212836864 0, .complex .f32 0 1056964608, .complex .f32 0 3229614080] 30 (0, 0))) ∧ Ext w (w8.alloc (.cells #[.float .f32 c.a, .float .f32 c.off, .complex .f32 c.re c.im] 32))) := Lib.hid ⟨Lib.hid (blk_ext HS.out hb88), Lib.hid (blk_ext HL2.out hb88), HXS.out.trans hb88⟩
      obtain ⟨sc0, sc1, sc2, sf⟩ := blk3 hq8
      clear hq8 he8 hb8 hb88 yc0 yc1 yc2 yf zc0 zc1 zc2 zf
      go_wp2_with fail
      go_roundw
      case rel => exact ⟨q + 1, re, im, by omega, by go_num, HF.out.1, HF.out.2.1, HF.out.2.2⟩
      case measure => simp [intOf]; omega
    · have hv := HOK.out
      unfold cellOk at hv
      simp only [Bool.and_eq_true] at hv
      obtain ⟨va, ha, -⟩ := ble_256 hv.1.2
      obtain ⟨vb, hb, -⟩ := ble_256 hv.2
      have T1 := Lib.hid (fun re im => times_one (re := re) (im := im) ha hb)
      have T2 := Lib.hid (fun re im => times_i (re := re) (im := im) ha hb)
      clear hv ha hb HC HL
      go_wp2_with fail
      refine (iTimes_any a b 1065353216 0 _).mono ?_
      rintro e w9 ⟨⟨r1, i1, rfl, hr, hi⟩, n9, rfl⟩
      obtain ⟨t1, t2⟩ := T1.out r1 i1 hr hi
      clear hr hi
      go_wp2_with fail
      refine (iTimes_any a b 0 1065353216 _).mono ?_
      rintro e w10 ⟨⟨r2, i2, rfl, hr, hi⟩, n10, rfl⟩
      obtain ⟨t3, t4⟩ := T2.out r2 i2 hr hi
      clear hr hi
      go_wp2_with fail
      go_ret
      exact ⟨rfl, hbr.trans (by (repeat (first | exact Below.refl _ _ | assumption | refine below_drewN ?_ _ | refine Below.drew ?_ | refine Below.alloc ?_ (by first | exact Nat.le_refl _ | (simp; done) | (simp; omega)) _ | refine Below.setCell ?_ (by first | exact Nat.le_refl _ | (simp; done) | (simp; omega)) _)))⟩
end Go.Proofs.Ytiddaabodkglmaa

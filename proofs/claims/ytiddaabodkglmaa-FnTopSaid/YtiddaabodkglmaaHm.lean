import Derived.Test.YtiddaabodkglmaaHe
import Derived.Test.YtiddaabodkglmaaEk
import Derived.Test.YtiddaabodkglmaaBk
import Derived.Deep.CutRange
import Derived.Deep.RegionHeld3
namespace Go.Fx
open Go.RowKit Ieee
set_option linter.unusedVariables false
set_option linter.unusedSimpArgs false
theorem dya_two {b : Nat} {x : Int} {n : Nat} (hb : cn .f32 b = fop .quo .f32 (cn .f32 (floatOfInt .f32 x)) (cn .f32 1073741824)) (hx : x.natAbs ≤ n) (hn : n ≤ 16384) : V b x 1 := by
  show IsV _ _ _ _
  rw [← isV_cn (k := .f32), hb]
  have h1 : IsV FloatKind.f32.format (cn .f32 (floatOfInt .f32 x)) x 0 := isV_cn.2 (isV_int (k := .f32) (Nat.le_trans hx (Nat.le_trans hn (by decide))))
  have h2 := fop_quo (k := .f32) (e := 0) false 23 (-22) h1 (y := cn .f32 1073741824) (by decide +kernel) 1 (by decide) (by decide) (Nat.le_trans hx (Nat.le_trans hn (by decide)))
  simpa [sg] using h2
/-- a channel of such numbers -/
theorem linkCh_of {a off p q re im : Nat} {m O u v : Int} (hm : m = 1 ∨ m = 2 ∨ m = 4) (ha : V a m 1) (ho : V off O 3) (hO : O.natAbs ≤ 32) (hp : V p u 1) (hu : u = 1 ∨ u = 2 ∨ u = -1 ∨ u = -2) (hq : V q v 2) (hv : v.natAbs ≤ 4) (hr : cn .f32 re = fop .mul .f32 (cn .f32 a) (cn .f32 p)) (hi : cn .f32 im = fop .mul .f32 (cn .f32 a) (cn .f32 q)) : ∃ j O X Y, LinkCh ⟨a, off, re, im⟩ j O X Y := by
  obtain ⟨j, hj, hj2⟩ : ∃ j : Nat, m = ((2 ^ j : Nat) : Int) ∧ j ≤ 2 := by
    rcases hm with rfl | rfl | rfl
    · exact ⟨0, rfl, by omega⟩
    · exact ⟨1, rfl, by omega⟩
    · exact ⟨2, rfl, by omega⟩
  have hu2 : u.natAbs ≤ 2 := by omega
  have b1 := mul_abs (a := m) (b := u) (P := 4) (Q := 2) (by omega) hu2
  have b2 := mul_abs (a := m) (b := v) (P := 4) (Q := 4) (by omega) hv
  have v1 : V re (m * u) 2 := by
    have := v_mul (v_cn.2 ha) (v_cn.2 hp) (by decide) (by omega)
    exact v_cn.1 (by rw [hr]; exact this)
  have v2 : V im (m * v) 3 := by
    have := v_mul (v_cn.2 ha) (v_cn.2 hq) (by decide) (by omega)
    exact v_cn.1 (by rw [hi]; exact this)
  refine ⟨j, O, 2 * u, v, ⟨⟨?_, ho, ?_, ?_⟩, hj2, hO, by omega, hv⟩⟩
  · rw [← hj]; exact v_finer 2 ha rfl (by simp; omega)
  · rw [← hj]; exact v_finer 1 v1 rfl (by simp; grind)
  · rw [← hj]; exact v2
end Go.Fx
namespace Go.Proofs.Ytiddaabodkglmaa
open Go.RowKit Go.Fx
set_option linter.unusedVariables false
set_option linter.unusedSimpArgs false
set_option maxRecDepth 100000 in
set_option maxHeartbeats 2000000 in
theorem chan08_any (bk : Nat) (w : World) (h : Cu w bk) :
    Calls Try.prog 141 #[.pointer (some ⟨bk, 0, none⟩)] w fun e w' => (∃ (ch : Chn) (j : Nat) (O X Y : Int), e = .returned (.agg #[.float .f32 ch.a, .float .f32 ch.off, .complex .f32 ch.re ch.im]) ∧ LinkCh ch j O X Y) ∧ CuT bk w w' := by
  have hz := h.size
  have ha : Ext w (w.alloc (.cells #[.float .f32 0, .float .f32 0, .complex .f32 0 0] 32)) := (Ext.refl _).alloc _
  go_enter Try.func141, Try.ntmps141
  go_wp2_with fail
  refine (pick_any bk (some ⟨w.heap.size + 1, 0, none⟩) 3 [1, 2, 4] _ (h.ext ((ha.alloc _))) (by have := rd_new (w.alloc (.cells #[.float .f32 0, .float .f32 0, .complex .f32 0 0] 32)) #[.int .i64 1, .int .i64 2, .int .i64 4] 3 (0, 0); simpa using this) (fun a ha => by cases ha; simp; omega) (by simp) (by simp)).mono ?_
  rintro e w1 ⟨⟨x, hx, rfl⟩, hc1⟩
  have hx2 : x = 1 ∨ x = 2 ∨ x = 4 := by simpa using hx
  clear hx
  have hc1' := (CuT.ext (CuT.refl h) (ha.alloc _)).trans hc1
  have kb := blk_turn (blk_alloc (p := .cells #[.int .i64 1, .int .i64 2, .int .i64 4] 3) (heap_alloc_new w (.cells #[.float .f32 0, .float .f32 0, .complex .f32 0 0] 32))) hc1.2 hz
  have hz1 : bk < w1.heap.size := hc1'.1.size
  clear hc1
  go_wp2_with ((with_reducible refine upon_quo ?_; intro ab n1 ea))
  have hal : Ext w1 ((w1.drewN n1).alloc (.cells #[.int .i64 1, .int .i64 2, .int .i64 (-1), .int .i64 (-2)] 3)) := Ext.trans (Ext.drewN _ n1) ((Ext.refl _).alloc _)
  refine (pick_any bk (some ⟨w1.heap.size, 0, none⟩) 4 [1, 2, -1, -2] _ (hc1'.1.ext hal) (by have := rd_new (w1.drewN n1) #[.int .i64 1, .int .i64 2, .int .i64 (-1), .int .i64 (-2)] 3 (0, 0); simpa using this) (fun a ha => by cases ha; simp; omega) (by simp) (by simp)).mono ?_
  rintro e w2 ⟨⟨u, hu, rfl⟩, hc2⟩
  have hu2 : u = 1 ∨ u = 2 ∨ u = -1 ∨ u = -2 := by simpa using hu
  clear hu
  have hc2' := (CuT.ext hc1' hal).trans hc2
  replace kb := blk_turn (blk_ext kb hal) hc2.2 hz
  have VA := Lib.hid (dya_two (n := 8) ea (by omega) (by omega))
  clear hc1' hc2 hal ea
  go_wp2_with ((with_reducible refine upon_quo ?_; intro ub n2 eu))
  refine (below_any bk 9 _ (hc2'.1.ext (Ext.drewN _ _)) (by omega)).mono ?_
  rintro e w3 ⟨⟨v, rfl, hv0, hv1, -⟩, hc3⟩
  have hv2 := hv1 (by omega)
  clear hv1
  replace kb := blk_turn (blk_ext kb (Ext.drewN _ n2)) hc3.2 hz
  replace hc3 := (hc2'.ext (Ext.drewN _ _)).trans hc3
  have VU := Lib.hid (dya_two (n := 8) eu (by omega) (by omega))
  clear hc2' eu
  go_wp2_with ((with_reducible refine upon_quo ?_; intro vb n3 ev))
  refine (below_any bk 65 _ (hc3.1.ext (Ext.drewN _ _)) (by omega)).mono ?_
  rintro e w4 ⟨⟨z, rfl, hz0, hz1', -⟩, hc4⟩
  have hz2 := hz1' (by omega)
  clear hz1'
  replace kb := blk_turn (blk_ext kb (Ext.drewN _ n3)) hc4.2 hz
  replace hc4 := (hc3.ext (Ext.drewN _ _)).trans hc4
  have VV := Lib.hid (dya_of (n := 8) ev (by omega) (by omega) (.inl ⟨rfl, rfl⟩))
  clear hc3 ev
  have hws : w.heap.size < w4.heap.size := (Array.getElem?_eq_some_iff.1 kb).1
  obtain ⟨kc0, kc1, kc2, kf⟩ := blk3 kb
  have H4 := Lib.hid hc4
  have KZ : Hid (∀ off re im, cn .f32 off = fop .quo .f32 (cn .f32 (floatOfInt .f32 (z - 32))) (cn .f32 1090519040) → cn .f32 re = fop .mul .f32 (cn .f32 ab) (cn .f32 ub) → cn .f32 im = fop .mul .f32 (cn .f32 ab) (cn .f32 vb) → ∃ j O X Y, LinkCh ⟨ab, off, re, im⟩ j O X Y) := Lib.hid (fun off re im h1 h2 h3 => linkCh_of hx2 VA.out (dya_of (n := 32) h1 (by omega) (by omega) (.inr ⟨rfl, rfl⟩)) (by omega) VU.out hu2 VV.out (by omega) h2 h3)
  clear hc4
  go_wp2_with (first | (with_reducible refine upon_quo ?_; intro zb n4 ez) | (with_reducible refine upon_mul (y := ub) ?_; intro rb n5 er) | (with_reducible refine upon_mul (y := vb) ?_; intro ib n6 ei))
  exact bodyPost_ret (v := .agg #[.float .f32 ab, .float .f32 zb, .complex .f32 rb ib]) (by simp [results, Try.results141, go_sem, *]) rfl ⟨by
    obtain ⟨j, O, X, Y, hl⟩ := KZ.out zb rb ib ez er ei
    exact ⟨⟨ab, zb, rb, ib⟩, j, O, X, Y, rfl, hl⟩, CuT.below H4.out (Below.setCell (p := ⟨w.heap.size, 2, none⟩) (Below.setCell (p := ⟨w.heap.size, 1, none⟩) (Below.setCell (p := ⟨w.heap.size, 0, none⟩) (by (repeat (first | exact Below.refl _ _ | assumption | refine below_drewN ?_ _ | refine Below.drew ?_ | refine Below.alloc ?_ (by first | exact Nat.le_refl _ | (simp; done) | (simp; omega)) _ | refine Below.setCell ?_ (by first | exact Nat.le_refl _ | (simp; done) | (simp; omega)) _))) (Nat.le_refl _) _) (Nat.le_refl _) _) (Nat.le_refl _) _) hz⟩
end Go.Proofs.Ytiddaabodkglmaa

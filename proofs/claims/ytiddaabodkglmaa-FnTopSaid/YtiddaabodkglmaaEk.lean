import Derived.Test.YtiddaabodkglmaaEd
namespace Go.Fx
open Go.RowKit
/-- what is made of a small whole number by a power of two -/
theorem dya_of {b c : Nat} {x : Int} {n e : Nat} (hb : cn .f32 b = fop .quo .f32 (cn .f32 (floatOfInt .f32 x)) (cn .f32 c)) (hx : x.natAbs ≤ n) (hn : n ≤ 16384) (hc : c = 1082130432 ∧ e = 2 ∨ c = 1090519040 ∧ e = 3) : IsV FloatKind.f32.format b x e := by
  rw [← isV_cn (k := .f32), hb]
  have h1 : IsV FloatKind.f32.format (cn .f32 (floatOfInt .f32 x)) x 0 := isV_cn.2 (isV_int (k := .f32) (Nat.le_trans hx (Nat.le_trans hn (by decide))))
  rcases hc with ⟨rfl, rfl⟩ | ⟨rfl, rfl⟩
  · have h2 := fop_quo (k := .f32) (e := 0) false 23 (-21) h1 (y := cn .f32 1082130432) (by decide +kernel) 2 (by decide) (by decide) (Nat.le_trans hx (Nat.le_trans hn (by decide)))
    simpa [sg] using h2
  · have h2 := fop_quo (k := .f32) (e := 0) false 23 (-20) h1 (y := cn .f32 1090519040) (by decide +kernel) 3 (by decide) (by decide) (Nat.le_trans hx (Nat.le_trans hn (by decide)))
    simpa [sg] using h2
/-- a channel of small dyadic numbers -/
def PlainCh (c : Chn) : Prop := (∃ m : Int, (m = 1 ∨ m = 2 ∨ m = 4 ∨ m = 8) ∧ IsV FloatKind.f32.format c.a m 2) ∧ (∃ m : Int, m.natAbs ≤ 32 ∧ IsV FloatKind.f32.format c.off m 3) ∧ (∃ m : Int, m.natAbs ≤ 8 ∧ IsV FloatKind.f32.format c.re m 2) ∧ (∃ m : Int, m.natAbs ≤ 8 ∧ IsV FloatKind.f32.format c.im m 2)
end Go.Fx
namespace Go.Proofs.Ytiddaabodkglmaa
open Go.RowKit Go.Fx
set_option linter.unusedVariables false
set_option linter.unusedSimpArgs false
set_option maxRecDepth 100000 in
set_option maxHeartbeats 4000000 in
theorem plainCh_any (bk : Nat) (w : World) (h : Cu w bk) :
    Calls Try.prog 170 #[.pointer (some ⟨bk, 0, none⟩)] w fun e w' => (∃ ch : Chn, e = .returned (.agg #[.float .f32 ch.a, .float .f32 ch.off, .complex .f32 ch.re ch.im]) ∧ PlainCh ch) ∧ CuT bk w w' := by
  have hz := h.size
  have ha : Ext w (w.alloc (.cells #[.float .f32 0, .float .f32 0, .complex .f32 0 0] 32)) := (Ext.refl _).alloc _
  have hs1 : w.heap.size < (w.alloc (.cells #[.float .f32 0, .float .f32 0, .complex .f32 0 0] 32)).heap.size := by simp
  go_enter Try.func170, Try.ntmps170
  go_wp2_with fail
  refine (pick_any bk (some ⟨w.heap.size + 1, 0, none⟩) 4 [1, 2, 4, 8] _ (h.ext ((ha.alloc _))) (by have := rd_new (w.alloc (.cells #[.float .f32 0, .float .f32 0, .complex .f32 0 0] 32)) #[.int .i64 1, .int .i64 2, .int .i64 4, .int .i64 8] 3 (0, 0); simpa using this) (fun a ha => by cases ha; simp; omega) (by simp) (by simp)).mono ?_
  rintro e w1 ⟨⟨x, hx, rfl⟩, hc1⟩
  have hx2 : x = 1 ∨ x = 2 ∨ x = 4 ∨ x = 8 := by simpa using hx
  clear hx
  have hc1' := (CuT.ext (CuT.refl h) (ha.alloc _)).trans hc1
  have kb := blk_turn (blk_alloc (p := .cells #[.int .i64 1, .int .i64 2, .int .i64 4, .int .i64 8] 3) (heap_alloc_new w (.cells #[.float .f32 0, .float .f32 0, .complex .f32 0 0] 32))) hc1.2 hz
  clear hc1
  go_wp2_with ((with_reducible refine upon_quo ?_; intro ab n1 ea))
  refine (below_any bk 17 _ (hc1'.1.ext (Ext.drewN _ _)) (by omega)).mono ?_
  rintro e w2 ⟨⟨u, rfl, hu0, hu1, -⟩, hc2⟩
  have hu2 := hu1 (by omega)
  clear hu1
  replace kb := blk_turn (blk_ext kb (Ext.drewN _ n1)) hc2.2 hz
  replace hc2 := (hc1'.ext (Ext.drewN _ _)).trans hc2
  have ka := dya_of (n := 8) ea (by omega) (by omega) (.inl ⟨rfl, rfl⟩)
  have KA : Hid (∃ m : Int, (m = 1 ∨ m = 2 ∨ m = 4 ∨ m = 8) ∧ IsV FloatKind.f32.format ab m 2) := Lib.hid ⟨x, hx2, ka⟩
  clear hc1' ka ea
  go_wp2_with ((with_reducible refine upon_quo ?_; intro ub n2 eu))
  refine (below_any bk 65 _ (hc2.1.ext (Ext.drewN _ _)) (by omega)).mono ?_
  rintro e w3 ⟨⟨v, rfl, hv0, hv1, -⟩, hc3⟩
  have hv2 := hv1 (by omega)
  clear hv1
  replace kb := blk_turn (blk_ext kb (Ext.drewN _ n2)) hc3.2 hz
  replace hc3 := (hc2.ext (Ext.drewN _ _)).trans hc3
  have ku := dya_of (n := 8) eu (by omega) (by omega) (.inl ⟨rfl, rfl⟩)
  have KU : Hid (∃ m : Int, m.natAbs ≤ 8 ∧ IsV FloatKind.f32.format ub m 2) := Lib.hid ⟨_, by omega, ku⟩
  clear hc2 ku eu
  go_wp2_with ((with_reducible refine upon_quo ?_; intro vb n3 ev))
  refine (below_any bk 17 _ (hc3.1.ext (Ext.drewN _ _)) (by omega)).mono ?_
  rintro e w4 ⟨⟨z, rfl, hz0, hz1, -⟩, hc4⟩
  have hz2 := hz1 (by omega)
  clear hz1
  replace kb := blk_turn (blk_ext kb (Ext.drewN _ n3)) hc4.2 hz
  replace hc4 := (hc3.ext (Ext.drewN _ _)).trans hc4
  have kv := dya_of (n := 32) ev (by omega) (by omega) (.inr ⟨rfl, rfl⟩)
  have KV : Hid (∃ m : Int, m.natAbs ≤ 32 ∧ IsV FloatKind.f32.format vb m 3) := Lib.hid ⟨_, by omega, kv⟩
  clear hc3 kv ev
  have hws : w.heap.size < w4.heap.size := (Array.getElem?_eq_some_iff.1 kb).1
  obtain ⟨kc0, kc1, kc2, kf⟩ := blk3 kb
  have H4 := Lib.hid hc4
  have KZ : Hid (∀ b, cn .f32 b = fop .quo .f32 (cn .f32 (floatOfInt .f32 (z - 8))) (cn .f32 1082130432) → ∃ m : Int, m.natAbs ≤ 8 ∧ IsV FloatKind.f32.format b m 2) := Lib.hid (fun b hb => ⟨_, by omega, dya_of (n := 8) hb (by omega) (by omega) (.inl ⟨rfl, rfl⟩)⟩)
  clear hc4
  go_wp2_with ((with_reducible refine upon_quo ?_; intro zb n4 ez))
  exact bodyPost_ret (v := .agg #[.float .f32 ab, .float .f32 vb, .complex .f32 ub zb]) (by simp [results, Try.results170, go_sem, *]) rfl ⟨⟨⟨ab, vb, ub, zb⟩, rfl, KA.out, KV.out, KU.out, KZ.out zb ez⟩, CuT.below H4.out (Below.setCell (p := ⟨w.heap.size, 2, none⟩) (Below.setCell (p := ⟨w.heap.size, 1, none⟩) (Below.setCell (p := ⟨w.heap.size, 0, none⟩) (below_drewN (Below.refl _ _) _) (Nat.le_refl _) _) (Nat.le_refl _) _) (Nat.le_refl _) _) hz⟩
set_option maxRecDepth 100000 in
set_option maxHeartbeats 4000000 in
theorem anyCh_any (bk : Nat) (w : World) (h : Cu w bk) :
    Calls Try.prog 149 #[.pointer (some ⟨bk, 0, none⟩)] w fun e w' => (∃ ch : Chn, e = .returned (.agg #[.float .f32 ch.a, .float .f32 ch.off, .complex .f32 ch.re ch.im])) ∧ CuT bk w w' := by
  have hz := h.size
  have ha : Ext w (w.alloc (.cells #[.float .f32 0, .float .f32 0, .complex .f32 0 0] 32)) := (Ext.refl _).alloc _
  go_enter Try.func149, Try.ntmps149
  go_wp2_with fail
  refine (plainCh_any bk _ (h.ext ha)).mono ?_
  rintro e w1 ⟨⟨d, rfl, -⟩, hc1⟩
  have kb0 := blk_turn (heap_alloc_new w (.cells #[.float .f32 0, .float .f32 0, .complex .f32 0 0] 32)) hc1.2 hz
  have hw1 : w.heap.size < w1.heap.size := (Array.getElem?_eq_some_iff.1 kb0).1
  replace hc1 := (CuT.ext (CuT.refl h) ha).trans hc1
  have hal : Ext w1 (w1.alloc (.cells #[.float .f32 d.a, .float .f32 d.off, .complex .f32 d.re d.im] 32)) := (Ext.refl _).alloc _
  have hz1 : bk + 1 ≤ w1.heap.size := by omega
  clear ha
  go_wp2_with fail
  refine (below_any bk 12 _ (hc1.1.ext hal) (by omega)).mono ?_
  rintro e w2 ⟨⟨x, rfl, hx0, hx1, -⟩, hc2⟩
  have ka := blk_turn (blk_alloc (p := .cells #[.float .f32 d.a, .float .f32 d.off, .complex .f32 d.re d.im] 32) kb0) hc2.2 hz
  have kb := blk_turn (heap_alloc_new w1 (.cells #[.float .f32 d.a, .float .f32 d.off, .complex .f32 d.re d.im] 32)) hc2.2 hz1
  replace hc2 := (hc1.ext hal).trans hc2
  have hw2 : w1.heap.size < w2.heap.size := (Array.getElem?_eq_some_iff.1 kb).1
  clear hc1 hal hx1 kb0
  rcases (by omega : x = 0 ∨ x = 1 ∨ x = 2 ∨ x = 3 ∨ x = 4 ∨ 4 < x) with rfl | rfl | rfl | rfl | rfl | hx
  · go_wp2_with fail
    refine (real_any bk 20 _ hc2.1 (by omega) (by omega)).mono ?_
    rintro e w3 ⟨⟨y, rfl⟩, hc3⟩
    replace ka := blk_turn ka hc3.2 hz
    replace kb := blk_turn kb hc3.2 hz1
    have H := Lib.hid (hc2.trans hc3)
    have hw3 : w1.heap.size < w3.heap.size := (Array.getElem?_eq_some_iff.1 kb).1
    clear hc2 hc3
    obtain ⟨kc0, kc1, kc2, kf⟩ := blk3 ka
    obtain ⟨mc0, mc1, mc2, mf⟩ := blk3 kb
    go_wp2_with (with_reducible refine upon_narrow Try.underlying68 Try.underlying29 ?_; intro b n hb)
    exact bodyPost_ret (v := .agg #[.float .f32 b, .float .f32 d.off, .complex .f32 d.re d.im]) (by simp [results, Try.results149, go_sem, *]) rfl ⟨⟨⟨b, d.off, d.re, d.im⟩, rfl⟩, CuT.below H.out (Below.setCell (p := ⟨w.heap.size, 2, none⟩) (Below.setCell (p := ⟨w.heap.size, 1, none⟩) (Below.setCell (p := ⟨w.heap.size, 0, none⟩) (Below.setCell (p := ⟨w1.heap.size, 0, none⟩) (below_drewN (Below.refl _ _) _) (Nat.le_of_lt hw1) _) (Nat.le_refl _) _) (Nat.le_refl _) _) (Nat.le_refl _) _) hz⟩
  · go_wp2_with fail
    refine (real_any bk 80 _ hc2.1 (by omega) (by omega)).mono ?_
    rintro e w3 ⟨⟨y, rfl⟩, hc3⟩
    replace ka := blk_turn ka hc3.2 hz
    replace kb := blk_turn kb hc3.2 hz1
    have H := Lib.hid (hc2.trans hc3)
    have hw3 : w1.heap.size < w3.heap.size := (Array.getElem?_eq_some_iff.1 kb).1
    clear hc2 hc3
    obtain ⟨kc0, kc1, kc2, kf⟩ := blk3 ka
    obtain ⟨mc0, mc1, mc2, mf⟩ := blk3 kb
    go_wp2_with (with_reducible refine upon_narrow Try.underlying68 Try.underlying29 ?_; intro b n hb)
    exact bodyPost_ret (v := .agg #[.float .f32 d.a, .float .f32 b, .complex .f32 d.re d.im]) (by simp [results, Try.results149, go_sem, *]) rfl ⟨⟨⟨d.a, b, d.re, d.im⟩, rfl⟩, CuT.below H.out (Below.setCell (p := ⟨w.heap.size, 2, none⟩) (Below.setCell (p := ⟨w.heap.size, 1, none⟩) (Below.setCell (p := ⟨w.heap.size, 0, none⟩) (Below.setCell (p := ⟨w1.heap.size, 1, none⟩) (below_drewN (Below.refl _ _) _) (Nat.le_of_lt hw1) _) (Nat.le_refl _) _) (Nat.le_refl _) _) (Nat.le_refl _) _) hz⟩
  · go_wp2_with fail
    refine (real_any bk 20 _ hc2.1 (by omega) (by omega)).mono ?_
    rintro e w3 ⟨⟨y, rfl⟩, hc3⟩
    replace ka := blk_turn ka hc3.2 hz
    replace kb := blk_turn kb hc3.2 hz1
    replace hc2 := hc2.trans hc3
    clear hc3
    go_wp2_with (with_reducible refine upon_narrow Try.underlying68 Try.underlying29 ?_; intro b1 n1 hb1)
    refine (real_any bk 20 _ (hc2.1.ext (Ext.drewN _ _)) (by omega) (by omega)).mono ?_
    rintro e w4 ⟨⟨y2, rfl⟩, hc4⟩
    replace ka := blk_turn (blk_ext ka (Ext.drewN _ n1)) hc4.2 hz
    replace kb := blk_turn (blk_ext kb (Ext.drewN _ n1)) hc4.2 hz1
    have H := Lib.hid ((hc2.ext (Ext.drewN _ _)).trans hc4)
    have hw3 : w1.heap.size < w4.heap.size := (Array.getElem?_eq_some_iff.1 kb).1
    clear hc2 hc4
    obtain ⟨kc0, kc1, kc2, kf⟩ := blk3 ka
    obtain ⟨mc0, mc1, mc2, mf⟩ := blk3 kb
    go_wp2_with (with_reducible refine upon_narrow Try.underlying68 Try.underlying29 ?_; intro b n hb)
    exact bodyPost_ret (v := .agg #[.float .f32 d.a, .float .f32 d.off, .complex .f32 b1 b]) (by simp [results, Try.results149, go_sem, *]) rfl ⟨⟨⟨d.a, d.off, b1, b⟩, rfl⟩, CuT.below H.out (Below.setCell (p := ⟨w.heap.size, 2, none⟩) (Below.setCell (p := ⟨w.heap.size, 1, none⟩) (Below.setCell (p := ⟨w.heap.size, 0, none⟩) (Below.setCell (p := ⟨w1.heap.size, 2, none⟩) (below_drewN (Below.refl _ _) _) (Nat.le_of_lt hw1) _) (Nat.le_refl _) _) (Nat.le_refl _) _) (Nat.le_refl _) _) hz⟩
  · have H := Lib.hid hc2
    clear hc2
    obtain ⟨kc0, kc1, kc2, kf⟩ := blk3 ka
    obtain ⟨mc0, mc1, mc2, mf⟩ := blk3 kb
    go_wp2_with fail
    exact bodyPost_ret (v := .agg #[.float .f32 1098907648, .float .f32 3263168512, .complex .f32 1098907648 3246391296]) (by simp [results, Try.results149, go_sem, *]) rfl ⟨⟨⟨1098907648, 3263168512, 1098907648, 3246391296⟩, rfl⟩, CuT.below H.out (Below.setCell (p := ⟨w.heap.size, 2, none⟩) (Below.setCell (p := ⟨w.heap.size, 1, none⟩) (Below.setCell (p := ⟨w.heap.size, 0, none⟩) (Below.setCell (p := ⟨w1.heap.size, 2, none⟩) (Below.setCell (p := ⟨w1.heap.size, 1, none⟩) (Below.setCell (p := ⟨w1.heap.size, 0, none⟩) (Below.refl _ _) (Nat.le_of_lt hw1) _) (Nat.le_of_lt hw1) _) (Nat.le_of_lt hw1) _) (Nat.le_refl _) _) (Nat.le_refl _) _) (Nat.le_refl _) _) hz⟩
  · have H := Lib.hid hc2
    clear hc2
    obtain ⟨kc0, kc1, kc2, kf⟩ := blk3 ka
    obtain ⟨mc0, mc1, mc2, mf⟩ := blk3 kb
    go_wp2_with fail
    exact bodyPost_ret (v := .agg #[.float .f32 d.a, .float .f32 d.off, .complex .f32 0 0]) (by simp [results, Try.results149, go_sem, *]) rfl ⟨⟨⟨d.a, d.off, 0, 0⟩, rfl⟩, CuT.below H.out (Below.setCell (p := ⟨w.heap.size, 2, none⟩) (Below.setCell (p := ⟨w.heap.size, 1, none⟩) (Below.setCell (p := ⟨w.heap.size, 0, none⟩) (Below.setCell (p := ⟨w1.heap.size, 2, none⟩) (Below.refl _ _) (Nat.le_of_lt hw1) _) (Nat.le_refl _) _) (Nat.le_refl _) _) (Nat.le_refl _) _) hz⟩
  · have H := Lib.hid hc2
    clear hc2
    obtain ⟨kc0, kc1, kc2, kf⟩ := blk3 ka
    obtain ⟨mc0, mc1, mc2, mf⟩ := blk3 kb
    go_wp2_with fail
    exact bodyPost_ret (v := .agg #[.float .f32 d.a, .float .f32 d.off, .complex .f32 d.re d.im]) (by simp [results, Try.results149, go_sem, *]) rfl ⟨⟨⟨d.a, d.off, d.re, d.im⟩, rfl⟩, CuT.below H.out (Below.setCell (p := ⟨w.heap.size, 2, none⟩) (Below.setCell (p := ⟨w.heap.size, 1, none⟩) (Below.setCell (p := ⟨w.heap.size, 0, none⟩) (Below.refl _ _) (Nat.le_refl _) _) (Nat.le_refl _) _) (Nat.le_refl _) _) hz⟩
end Go.Proofs.Ytiddaabodkglmaa

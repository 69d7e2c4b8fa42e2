import Derived.Test.YtiddaabodkglmaaHb
import Derived.Deep.CutRange
import Derived.Deep.RegionHeld3
namespace Go.Proofs.Ytiddaabodkglmaa
open Go.RowKit Go.Fx
set_option linter.unusedVariables false
set_option linter.unusedSimpArgs false
set_option maxRecDepth 100000 in
theorem iTimes_ex {a b x y re im : Nat} (h : TimesV a b x y re im) (w : World) : Calls Try.prog 82 #[.complex .f32 a b, .complex .f32 x y] w fun e w' => e = .returned (.complex .f32 re im) ∧ w = w' := by
  obtain ⟨p1, p2, p4, p5, h1, h2, h3, h4, h5, h6⟩ := h.ex
  have k1 : ∀ W, (binOp .mul 29 (.float .f32 a) (.float .f32 x)).run Try.prog W = .ok (.float .f32 p1) W := fun W => run_same (by simp) h1 _ _ W
  have k2 : ∀ W, (binOp .mul 29 (.float .f32 b) (.float .f32 y)).run Try.prog W = .ok (.float .f32 p2) W := fun W => run_same (by simp) h2 _ _ W
  have k3 : ∀ W, (binOp .sub 29 (.float .f32 p1) (.float .f32 p2)).run Try.prog W = .ok (.float .f32 re) W := fun W => run_same (by simp) h3 _ _ W
  have k4 : ∀ W, (binOp .mul 29 (.float .f32 a) (.float .f32 y)).run Try.prog W = .ok (.float .f32 p4) W := fun W => run_same (by simp) h4 _ _ W
  have k5 : ∀ W, (binOp .mul 29 (.float .f32 b) (.float .f32 x)).run Try.prog W = .ok (.float .f32 p5) W := fun W => run_same (by simp) h5 _ _ W
  have k6 : ∀ W, (binOp .add 29 (.float .f32 p4) (.float .f32 p5)).run Try.prog W = .ok (.float .f32 im) W := fun W => run_same (by simp) h6 _ _ W
  clear h1 h2 h3 h4 h5 h6 h
  go_enter Try.func82, Try.ntmps82
  go_wp2_with fail
  go_ret
  exact ⟨rfl, rfl⟩
abbrev chV (c : Chn) : Value := .agg #[.float .f32 c.a, .float .f32 c.off, .complex .f32 c.re c.im]
set_option maxRecDepth 100000 in
set_option maxHeartbeats 2000000 in
theorem iChain_ex (a b c : Chn) (h : ChainV a b c) (w : World) :
    Calls Try.prog 86 #[chV a, chV b] w fun e w' => e = .returned (.tuple #[chV c, .bool true]) ∧ Ext w w' := by
  obtain ⟨r2, h1, h2, h3, ht⟩ := h.ex
  have ka := h.oka
  have kb := h.okb
  have kc := h.okc
  obtain ⟨a1, a2, a3, a4⟩ := a
  obtain ⟨b1, b2, b3, b4⟩ := b
  obtain ⟨c1, c2, c3, c4⟩ := c
  have k1 : ∀ W, (binOp .mul 29 (.float .f32 a1) (.float .f32 b1)).run Try.prog W = .ok (.float .f32 c1) W := fun W => run_same (by simp) h1 _ _ W
  have k2 : ∀ W, (binOp .mul 29 (.float .f32 b1) (.float .f32 a2)).run Try.prog W = .ok (.float .f32 r2) W := fun W => run_same (by simp) h2 _ _ W
  have k3 : ∀ W, (binOp .add 29 (.float .f32 r2) (.float .f32 b2)).run Try.prog W = .ok (.float .f32 c2) W := fun W => run_same (by simp) h3 _ _ W
  dsimp only at ht
  have KT := Lib.hid (iTimes_ex ht)
  clear h1 h2 h3 ht h
  have q1 := heap_alloc_new w (.cells #[.float .f32 a1, .float .f32 a2, .complex .f32 a3 a4] 32)
  have q2 := heap_alloc_new (w.alloc (.cells #[.float .f32 a1, .float .f32 a2, .complex .f32 a3 a4] 32)) (.cells #[.float .f32 b1, .float .f32 b2, .complex .f32 b3 b4] 32)
  have hs1 : (w.alloc (.cells #[.float .f32 a1, .float .f32 a2, .complex .f32 a3 a4] 32)).heap.size = w.heap.size + 1 := by simp
  rw [hs1] at q2
  generalize hwB : (((w.alloc (.cells #[.float .f32 a1, .float .f32 a2, .complex .f32 a3 a4] 32)).alloc (.cells #[.float .f32 b1, .float .f32 b2, .complex .f32 b3 b4] 32)).alloc (.cells #[.float .f32 0, .float .f32 0, .complex .f32 0 0] 32)) = wB
  have HB := Lib.hid hwB
  have hsz : wB.heap.size = w.heap.size + 3 := by rw [← hwB]; simp
  have HE : Hid (Ext w wB) := Lib.hid (by rw [← hwB]; exact (((Ext.refl _).alloc _).alloc _).alloc _)
  have KS : Hid (∀ W, Ext wB W → W.cell? ⟨w.heap.size, 0, none⟩ = some (.float .f32 a1) ∧ W.cell? ⟨w.heap.size, 1, none⟩ = some (.float .f32 a2) ∧ W.cell? ⟨w.heap.size, 2, none⟩ = some (.complex .f32 a3 a4) ∧ W.cell? ⟨w.heap.size + 1, 0, none⟩ = some (.float .f32 b1) ∧ W.cell? ⟨w.heap.size + 1, 1, none⟩ = some (.float .f32 b2) ∧ W.cell? ⟨w.heap.size + 1, 2, none⟩ = some (.complex .f32 b3 b4) ∧ Ext wB W) := Lib.hid (fun W hW => by
    have r1 := blk_ext (blk_alloc (p := .cells #[.float .f32 0, .float .f32 0, .complex .f32 0 0] 32) (blk_alloc (p := .cells #[.float .f32 b1, .float .f32 b2, .complex .f32 b3 b4] 32) q1)) (hwB ▸ hW)
    have r2 := blk_ext (blk_alloc (p := .cells #[.float .f32 0, .float .f32 0, .complex .f32 0 0] 32) q2) (hwB ▸ hW)
    exact ⟨blk_cell r1 rfl, blk_cell r1 rfl, blk_cell r1 rfl, blk_cell r2 rfl, blk_cell r2 rfl, blk_cell r2 rfl, hW⟩)
  have HR : Hid (∀ W, Ext wB W → W.heap[w.heap.size]? = some (.cells #[.float .f32 a1, .float .f32 a2, .complex .f32 a3 a4] 32 (0, 0)) ∧ W.heap[w.heap.size + 1]? = some (.cells #[.float .f32 b1, .float .f32 b2, .complex .f32 b3 b4] 32 (0, 0)) ∧ W.heap[w.heap.size + 2]? = some (.cells #[.float .f32 0, .float .f32 0, .complex .f32 0 0] 32 (0, 0))) := Lib.hid (fun W hW => by
    have r1 := blk_ext (blk_alloc (p := .cells #[.float .f32 0, .float .f32 0, .complex .f32 0 0] 32) (blk_alloc (p := .cells #[.float .f32 b1, .float .f32 b2, .complex .f32 b3 b4] 32) q1)) (hwB ▸ hW)
    have r2 := blk_ext (blk_alloc (p := .cells #[.float .f32 0, .float .f32 0, .complex .f32 0 0] 32) q2) (hwB ▸ hW)
    have q3 := heap_alloc_new ((w.alloc (.cells #[.float .f32 a1, .float .f32 a2, .complex .f32 a3 a4] 32)).alloc (.cells #[.float .f32 b1, .float .f32 b2, .complex .f32 b3 b4] 32)) (.cells #[.float .f32 0, .float .f32 0, .complex .f32 0 0] 32)
    have hs2 : ((w.alloc (.cells #[.float .f32 a1, .float .f32 a2, .complex .f32 a3 a4] 32)).alloc (.cells #[.float .f32 b1, .float .f32 b2, .complex .f32 b3 b4] 32)).heap.size = w.heap.size + 2 := by simp
    rw [hs2] at q3
    exact ⟨r1, r2, blk_ext q3 (hwB ▸ hW)⟩)
  have HSZ := Lib.hid hsz
  clear q1 q2 hs1 hwB hsz
  go_enter Try.func86, Try.ntmps86
  go_wp2_with fail
  rw [HB.out]
  obtain ⟨f1, f2, f3, f4, f5, f6, -⟩ := KS.out wB (Ext.refl _)
  go_region_held3 (fun W => W.cell? ⟨w.heap.size, 0, none⟩ = some (.float .f32 a1) ∧ W.cell? ⟨w.heap.size, 1, none⟩ = some (.float .f32 a2) ∧ W.cell? ⟨w.heap.size, 2, none⟩ = some (.complex .f32 a3 a4) ∧ W.cell? ⟨w.heap.size + 1, 0, none⟩ = some (.float .f32 b1) ∧ W.cell? ⟨w.heap.size + 1, 1, none⟩ = some (.float .f32 b2) ∧ W.cell? ⟨w.heap.size + 1, 2, none⟩ = some (.complex .f32 b3 b4) ∧ Ext wB W)
    (exact KS.out _ (by (repeat (first | exact Below.refl _ _ | assumption | refine below_drewN ?_ _ | refine Below.drew ?_ | refine Below.alloc ?_ (by first | exact Nat.le_refl _ | (simp; done) | (simp; omega)) _ | refine Below.setCell ?_ (by first | exact Nat.le_refl _ | (simp; done) | (simp; omega)) _))))
    (first
      | (go_at_call 82; refine (KT.out _).mono ?_; rintro e w1 ⟨rfl, rfl⟩))
  all_goals (
    have q4 := heap_alloc_new wB (.cells #[.float .f32 c1, .float .f32 c2, .complex .f32 c3 c4] 32)
    have hC : Ext wB (wB.alloc (.cells #[.float .f32 c1, .float .f32 c2, .complex .f32 c3 c4] 32)).drew := Ext.trans ((Ext.refl _).alloc _) (Below.drew (Below.refl _ _))
    have q5 := blk_ext q4 (Below.drew (Below.refl _ _) : Ext _ (wB.alloc (.cells #[.float .f32 c1, .float .f32 c2, .complex .f32 c3 c4] 32)).drew)
    generalize (wB.alloc (.cells #[.float .f32 c1, .float .f32 c2, .complex .f32 c3 c4] 32)).drew = wC at q5 hC ⊢
    have HQ := Lib.hid q5
    clear f1 f2 f3 f4 f5 f6 q4 q5
    obtain ⟨p1, p2, p3⟩ := HR.out wC hC
    obtain ⟨xc0, xc1, xc2, xf⟩ := blk3 p1
    clear p1 p2 p3
    go_wp2_with fail
    refine (iChannelOk_any _ _ _ _ _).mono ?_
    rintro e w1 ⟨rfl, hb1⟩
    rw [ka]
    have HQ := Lib.hid (blk_ext HQ.out hb1)
    replace hC := hC.trans hb1
    obtain ⟨p1, p2, p3⟩ := HR.out w1 hC
    obtain ⟨yc0, yc1, yc2, yf⟩ := blk3 p2
    clear p1 p2 p3 hb1
    go_wp2_with fail
    refine (iChannelOk_any _ _ _ _ _).mono ?_
    rintro e w2 ⟨rfl, hb2⟩
    rw [kb]
    have HQ := Lib.hid (blk_ext HQ.out hb2)
    replace hC := hC.trans hb2
    have q6 := HQ.out
    obtain ⟨zc0, zc1, zc2, zf⟩ := blk3 q6
    clear q6 hb2
    go_wp2_with fail
    refine (iChannelOk_any _ _ _ _ _).mono ?_
    rintro e w3 ⟨rfl, hb3⟩
    rw [kc]
    have q6 := blk_ext HQ.out hb3
    replace hC := hC.trans hb3
    obtain ⟨p1, p2, p3⟩ := HR.out w3 hC
    obtain ⟨uc0, uc1, uc2, uf⟩ := blk3 q6
    obtain ⟨vc0, vc1, vc2, vf⟩ := blk3 p3
    have hw2 : w.heap.size + 2 < w3.heap.size := (Array.getElem?_eq_some_iff.1 p3).1
    have hx := HE.out.trans hC
    clear q6 hb3 p1 p2 p3
    go_wp2_with fail
    exact bodyPost_ret (v := .tuple #[.agg #[.float .f32 c1, .float .f32 c2, .complex .f32 c3 c4], .bool true]) (by simp [results, Try.results86, go_sem, *]) rfl ⟨rfl, Below.setCell (p := ⟨w.heap.size + 2, 2, none⟩) (Below.setCell (p := ⟨w.heap.size + 2, 1, none⟩) (Below.setCell (p := ⟨w.heap.size + 2, 0, none⟩) hx (by simp) _) (by simp) _) (by simp) _⟩)
end Go.Proofs.Ytiddaabodkglmaa

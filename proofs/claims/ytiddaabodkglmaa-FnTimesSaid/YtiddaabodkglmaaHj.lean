import Derived.Test.YtiddaabodkglmaaEx
import Derived.BigQuiet
namespace Go.Proofs.Ytiddaabodkglmaa
open Go.RowKit Go.Fx
set_option linter.unusedVariables false
set_option linter.unusedSimpArgs false
set_option maxRecDepth 100000 in
set_option maxHeartbeats 1000000 in
theorem drawTimes_any (A : Option Addr) (c : Nat) (bs : List Int) (w : World) (h : Rd w A (bs.map by8)) (hn : bs.length ≤ 1048576) (hb : ∀ x ∈ bs, 0 ≤ x ∧ x ≤ 255) :
    Calls Try.prog 81 #[.slice A bs.length c] w fun e w' => (∃ a b x y, e = .returned (.tuple #[.complex .f32 a b, .complex .f32 x y])) ∧ Ext w w' := by
  go_enter Try.func81, Try.ntmps81
  go_wp2_with fail
  refine (new_any A c bs _ h hn hb).mono ?_
  rintro e w1 ⟨⟨bk, rfl, hbk, hbz, hcu⟩, hb1⟩
  go_wp2_with fail
  refine (cell_any bk _ hcu).mono ?_
  rintro e w2 ⟨⟨d, rfl⟩, hc2⟩
  have hq2 := heap_alloc_new w2 (.cells #[.float .f32 d.y, .complex .f32 d.re d.im] 90)
  have he2 : Ext w2 (w2.alloc (.cells #[.float .f32 d.y, .complex .f32 d.re d.im] 90)) := (Ext.refl _).alloc _
  have hc2' := CuT.ext hc2 he2
  have hz2 : bk + 1 ≤ w2.heap.size := hc2.1.size
  clear hc2 he2
  go_wp2_with fail
  refine (anyCh_any bk _ hc2'.1).mono ?_
  rintro e w3 ⟨⟨ch, rfl⟩, hc3⟩
  have kb := blk_turn hq2 hc3.2 hz2
  have kc := blk_alloc (p := .cells #[.float .f32 ch.a, .float .f32 ch.off, .complex .f32 ch.re ch.im] 32) kb
  have kd := heap_alloc_new w3 (.cells #[.float .f32 ch.a, .float .f32 ch.off, .complex .f32 ch.re ch.im] 32)
  have hx := Lib.hid (ext_turn hb1 (hc2'.trans hc3).2 hbk)
  have hxx := Lib.hid ((Ext.refl w3).alloc (.cells #[.float .f32 ch.a, .float .f32 ch.off, .complex .f32 ch.re ch.im] 32))
  obtain ⟨kc0, kc1, kf⟩ := blk2 kc
  obtain ⟨mc0, mc1, mc2, mf⟩ := blk3 kd
  clear kb kc kd hc2' hc3 hq2 hb1
  go_wp2_with fail
  go_quiet (fail)
  go_wp2_with fail
  go_ret2
  exact ⟨⟨d.re, d.im, ch.re, ch.im, rfl⟩, hx.out.trans (hxx.out.trans (Ext.drewN _ _))⟩
set_option maxRecDepth 100000 in
theorem iPower_ex {a b p : Nat} (h : PowerV a b p) (w : World) : Calls Try.prog 51 #[.complex .f32 a b] w fun e w' => e = .returned (.float .f32 p) ∧ w = w' := by
  obtain ⟨q, r, h1, h2, h3⟩ := h.ex
  have k1 : ∀ W, (binOp .mul 29 (.float .f32 a) (.float .f32 a)).run Try.prog W = .ok (.float .f32 q) W := fun W => run_same (by simp) h1 _ _ W
  have k2 : ∀ W, (binOp .mul 29 (.float .f32 b) (.float .f32 b)).run Try.prog W = .ok (.float .f32 r) W := fun W => run_same (by simp) h2 _ _ W
  have k3 : ∀ W, (binOp .add 29 (.float .f32 q) (.float .f32 r)).run Try.prog W = .ok (.float .f32 p) W := fun W => run_same (by simp) h3 _ _ W
  clear h1 h2 h3 h
  go_enter Try.func51, Try.ntmps51
  go_wp2_with fail
  go_ret
  exact ⟨rfl, rfl⟩
set_option maxRecDepth 100000 in
set_option maxHeartbeats 1000000 in
theorem iUndo_ex (a u : Chn) (h : UndoV a u) (w : World) :
    Calls Try.prog 85 #[chV a] w fun e w' => e = .returned (.tuple #[chV u, .bool true]) ∧ Ext w w' := by
  obtain ⟨p, hp, hp0, h1, h2, h3, h4⟩ := h.ex
  have ka := h.oka
  have ku := h.okc
  obtain ⟨a1, a2, a3, a4⟩ := a
  obtain ⟨u1, u2, u3, u4⟩ := u
  have k1 : ∀ W, (binOp .quo 29 (.float .f32 1065353216) (.float .f32 a1)).run Try.prog W = .ok (.float .f32 u1) W := fun W => run_same (by simp) h1 _ _ W
  have k2 : ∀ W, (binOp .quo 29 (.float .f32 (Op.negFloat .f32 a2)) (.float .f32 a1)).run Try.prog W = .ok (.float .f32 u2) W := fun W => run_same (by simp) h2 _ _ W
  have k3 : ∀ W, (binOp .quo 29 (.float .f32 a3) (.float .f32 p)).run Try.prog W = .ok (.float .f32 u3) W := fun W => run_same (by simp) h3 _ _ W
  have k4 : ∀ W, (binOp .quo 29 (.float .f32 (Op.negFloat .f32 a4)) (.float .f32 p)).run Try.prog W = .ok (.float .f32 u4) W := fun W => run_same (by simp) h4 _ _ W
  dsimp only at hp
  have KP := Lib.hid (iPower_ex hp)
  clear h1 h2 h3 h4 hp h
  have q1 := heap_alloc_new w (.cells #[.float .f32 a1, .float .f32 a2, .complex .f32 a3 a4] 32)
  have q2 := heap_alloc_new (w.alloc (.cells #[.float .f32 a1, .float .f32 a2, .complex .f32 a3 a4] 32)) (.cells #[.float .f32 0, .float .f32 0, .complex .f32 0 0] 32)
  have hs1 : (w.alloc (.cells #[.float .f32 a1, .float .f32 a2, .complex .f32 a3 a4] 32)).heap.size = w.heap.size + 1 := by simp
  rw [hs1] at q2
  have q3 := blk_alloc (p := .cells #[.float .f32 0, .float .f32 0, .complex .f32 0 0] 32) q1
  have he : Ext w ((w.alloc (.cells #[.float .f32 a1, .float .f32 a2, .complex .f32 a3 a4] 32)).alloc (.cells #[.float .f32 0, .float .f32 0, .complex .f32 0 0] 32)) := ((Ext.refl _).alloc _).alloc _
  generalize hwB : ((w.alloc (.cells #[.float .f32 a1, .float .f32 a2, .complex .f32 a3 a4] 32)).alloc (.cells #[.float .f32 0, .float .f32 0, .complex .f32 0 0] 32)) = wB at q2 q3 he
  have HB := Lib.hid hwB
  have HE := Lib.hid he
  have HQ2 := Lib.hid q2
  have HQ3 := Lib.hid q3
  have hsz : w.heap.size + 1 < wB.heap.size := (Array.getElem?_eq_some_iff.1 q2).1
  have q3' := HQ3.out
  obtain ⟨xc0, xc1, xc2, xf⟩ := blk3 q3
  clear q1 q2 q3 q3' hs1 hwB he
  go_enter Try.func85, Try.ntmps85
  go_wp2_with fail
  rw [HB.out]
  refine (KP.out _).mono ?_
  rintro e w1 ⟨rfl, rfl⟩
  go_wp2_with fail
  refine (iChannelOk_any _ _ _ _ _).mono ?_
  rintro e w1 ⟨rfl, hb1⟩
  rw [ka]
  have p3 := blk_ext HQ3.out hb1
  obtain ⟨yc0, yc1, yc2, yf⟩ := blk3 p3
  clear p3
  have q4 := heap_alloc_new w1 (.cells #[.float .f32 u1, .float .f32 u2, .complex .f32 u3 u4] 32)
  have he4 : Ext w1 (w1.alloc (.cells #[.float .f32 u1, .float .f32 u2, .complex .f32 u3 u4] 32)) := (Ext.refl _).alloc _
  have HQ4 := Lib.hid q4
  have HE4 := Lib.hid he4
  obtain ⟨zc0, zc1, zc2, zf⟩ := blk3 q4
  clear q4 he4
  go_wp2_with fail
  refine (iChannelOk_any _ _ _ _ _).mono ?_
  rintro e w2 ⟨rfl, hb2⟩
  rw [ku]
  have p4 := blk_ext HQ4.out hb2
  have p2 := blk_ext HQ2.out (Ext.trans hb1 (Ext.trans HE4.out hb2))
  have hx := Ext.trans HE.out (Ext.trans hb1 (Ext.trans HE4.out hb2))
  have hw2 : w.heap.size + 1 < w2.heap.size := (Array.getElem?_eq_some_iff.1 p2).1
  obtain ⟨sc0, sc1, sc2, sf⟩ := blk3 p4
  obtain ⟨tc0, tc1, tc2, tf⟩ := blk3 p2
  clear p4 p2
  go_wp2_with fail
  exact bodyPost_ret (v := .tuple #[.agg #[.float .f32 u1, .float .f32 u2, .complex .f32 u3 u4], .bool true]) (by simp [results, Try.results85, go_sem, *]) rfl ⟨rfl, Below.setCell (p := ⟨w.heap.size + 1, 2, none⟩) (Below.setCell (p := ⟨w.heap.size + 1, 1, none⟩) (Below.setCell (p := ⟨w.heap.size + 1, 0, none⟩) hx (by simp) _) (by simp) _) (by simp) _⟩
end Go.Proofs.Ytiddaabodkglmaa

import Derived.Test.YtiddaabodkglmaaK4
import Derived.Test.YtiddaabodkglmaaEb
namespace Go.Fx
open Go.RowKit
theorem blk_turn {w w' : World} {b lo hi : Nat} {o : Obj} (h : w.heap[b]? = some o) (t : Turn lo hi w w') (hb : hi ≤ b) : w'.heap[b]? = some o := by
  rw [t.block b (Array.getElem?_eq_some_iff.1 h).1 (.inr hb)]; exact h
/-- a row that lies above the cursor stays while it draws -/
theorem own_up {w w' : World} {base b : Nat} {E : TypeId} {size n : Nat} {v : Value} {xs : List Value} (h : w.ownsRow base E size v n xs) (t : Turn b (b + 1) w w') (hb : b < base) : w'.ownsRow base E size v n xs :=
  own_turn h t (own_in h) (.inr hb)
end Go.Fx
namespace Go.Proofs.Ytiddaabodkglmaa
open Go.RowKit Go.Fx
set_option linter.unusedVariables false
set_option linter.unusedSimpArgs false
theorem CuT.below {bk : Nat} {w w3 w4 : World} (hcc : CuT bk w w3) (hb1 : Below w.heap.size w3 w4) (hz : bk < w.heap.size) : CuT bk w w4 := by
  have ht := hcc.2
  have ht2 : Turn bk (bk + 1) w w4 := ⟨hb1.os.trans ht.os, hb1.tape.trans ht.tape, hb1.output.trans ht.output, Nat.le_trans ht.size hb1.size, fun k hk ho => (hb1.block k hk).trans (ht.block k hk ho)⟩
  obtain ⟨A, c, bs, i, hh, H⟩ := hcc.1
  refine ⟨⟨A, c, bs, i, hh, ?_, ?_, H.lt, H.len, H.byte, H.hi⟩, ht2⟩
  · rw [hb1.block bk hz]; exact H.blk
  · rcases H.rd with h0 | ⟨b2, off, hA, hb, hcl⟩
    · exact .inl h0
    · by_cases hne : bs.map by8 = []
      · exact .inl hne
      · have hlt := H.lt _ hA hne
        refine .inr ⟨b2, off, hA, Nat.lt_of_lt_of_le hb hb1.size, fun j x hx => ?_⟩
        rw [World.cell?_of_block (w := w3) (a := ⟨b2, off + j, none⟩) (hb1.block b2 (by simp at hlt; omega))]
        exact hcl j x hx
/-- a step of the call's own: what lies below its world is as it was -/
theorem CuT.step {bk : Nat} {w0 w w' : World} (h : CuT bk w0 w) (e : Below w0.heap.size w w') (hz : bk < w0.heap.size) : CuT bk w0 w' := h.below e hz
theorem CuT.grow {bk base n size : Nat} {w0 w w' : World} {E : TypeId} {v : Value} {xs : List Value} (h : CuT bk w0 w) (ho : w.ownsRow base E size v n xs) (hb : w0.heap.size ≤ base) (hg : w.grownBy w' v.ownBlock) (hz : bk < w0.heap.size) : CuT bk w0 w' :=
  h.below ⟨hg.os, hg.tape, hg.output, hg.size, fun k hk => by
    by_cases hkw : k < w.heap.size
    · exact hg.block k hkw (fun e => by have := (ho.lt k e.symm).1; omega)
    · exact absurd (Nat.lt_of_lt_of_le hk h.size) hkw⟩ hz
set_option maxRecDepth 100000 in
set_option maxHeartbeats 4000000 in
theorem cell_any (bk : Nat) (w : World) (h : Cu w bk) :
    Calls Try.prog 167 #[.pointer (some ⟨bk, 0, none⟩)] w fun e w' => (∃ d : Cel, e = .returned (.agg #[.float .f32 d.y, .complex .f32 d.re d.im])) ∧ CuT bk w w' := by
  have hz := h.size
  have ha : Ext w (w.alloc (.cells #[.float .f32 0, .complex .f32 0 0] 90)) := (Ext.refl _).alloc _
  go_enter Try.func167, Try.ntmps167
  go_wp2_with fail
  refine (level_any bk _ (h.ext ha)).mono ?_
  rintro e w1 ⟨⟨y, rfl⟩, hc1⟩
  go_wp2_with fail
  refine (level_any bk _ hc1.1).mono ?_
  rintro e w2 ⟨⟨re, rfl⟩, hc2⟩
  go_wp2_with fail
  refine (level_any bk _ hc2.1).mono ?_
  rintro e w3 ⟨⟨im, rfl⟩, hc3⟩
  have hcc := CuT.trans (CuT.trans hc1 hc2) hc3
  have kb := blk_turn (heap_alloc_new w (.cells #[.float .f32 0, .complex .f32 0 0] 90)) hcc.2 hz
  have hws : w.heap.size < w3.heap.size := (Array.getElem?_eq_some_iff.1 kb).1
  obtain ⟨kc0, kc1, kf⟩ := blk2 kb
  have hfin : Hid (∀ u v, CuT bk w ((w3.setCell ⟨w.heap.size, 0, none⟩ u).setCell ⟨w.heap.size, 1, none⟩ v)) := Lib.hid (fun u v =>
    CuT.below ((CuT.ext (CuT.refl h) ha).trans hcc) (Below.setCell (p := ⟨w.heap.size, 1, none⟩) (Below.setCell (p := ⟨w.heap.size, 0, none⟩) (Below.refl _ _) (Nat.le_refl _) _) (Nat.le_refl _) _) hz)
  clear hc1 hc2 hc3 hcc
  go_wp2_with fail
  exact bodyPost_ret (v := .agg #[.float .f32 y, .complex .f32 re im]) (by simp [results, Try.results167, go_sem, *]) rfl ⟨⟨⟨y, re, im⟩, rfl⟩, hfin.out _ _⟩
/-- numbers in sixteenths -/
def Six (b : Nat) (n : Nat) : Prop := ∃ m : Int, m.natAbs ≤ n ∧ IsV FloatKind.f32.format b m 4
theorem six_of {b : Nat} {x : Int} {n : Nat} (hb : cn .f32 b = fop .quo .f32 (cn .f32 (floatOfInt .f32 x)) (cn .f32 1098907648)) (hx : x.natAbs ≤ n) (hn : n ≤ 16384) : Six b n := by
  refine ⟨x, hx, ?_⟩
  rw [← isV_cn (k := .f32), hb]
  have h1 : IsV FloatKind.f32.format (cn .f32 (floatOfInt .f32 x)) x 0 := isV_cn.2 (isV_int (k := .f32) (Nat.le_trans hx (Nat.le_trans hn (by decide))))
  have h2 := fop_quo (k := .f32) (e := 0) false 23 (-19) h1 (y := cn .f32 1098907648) (by decide +kernel) 4 (by decide) (by decide) (Nat.le_trans hx (Nat.le_trans hn (by decide)))
  simpa [sg] using h2
set_option maxRecDepth 100000 in
set_option maxHeartbeats 4000000 in
theorem plain_any (bk : Nat) (w : World) (h : Cu w bk) :
    Calls Try.prog 174 #[.pointer (some ⟨bk, 0, none⟩)] w fun e w' => (∃ d : Cel, e = .returned (.agg #[.float .f32 d.y, .complex .f32 d.re d.im]) ∧ Six d.y 1024 ∧ Six d.re 512 ∧ Six d.im 512) ∧ CuT bk w w' := by
  have hz := h.size
  have ha : Ext w (w.alloc (.cells #[.float .f32 0, .complex .f32 0 0] 90)) := (Ext.refl _).alloc _
  go_enter Try.func174, Try.ntmps174
  go_wp2_with fail
  refine (below_any bk 2049 _ (h.ext ha) (by omega)).mono ?_
  rintro e w1 ⟨⟨y, rfl, hy0, hy1, -⟩, hc1⟩
  have hy2 := hy1 (by omega)
  clear hy1
  go_wp2_with ((with_reducible refine upon_quo ?_; intro yb n1 ey))
  refine (below_any bk 1025 _ (hc1.1.ext (Ext.drewN _ _)) (by omega)).mono ?_
  rintro e w2 ⟨⟨u, rfl, hu0, hu1, -⟩, hc2⟩
  have hu2 := hu1 (by omega)
  clear hu1
  go_wp2_with ((with_reducible refine upon_quo ?_; intro ub n2 eu))
  refine (below_any bk 1025 _ (hc2.1.ext (Ext.drewN _ _)) (by omega)).mono ?_
  rintro e w3 ⟨⟨v, rfl, hv0, hv1, -⟩, hc3⟩
  have hv2 := hv1 (by omega)
  clear hv1
  have hcc := CuT.trans (CuT.trans (CuT.ext hc1 (Ext.drewN _ _)) (CuT.ext hc2 (Ext.drewN _ _))) hc3
  have hc4 := CuT.trans (CuT.ext (CuT.refl h) ha) hcc
  have kb := blk_turn (heap_alloc_new w (.cells #[.float .f32 0, .complex .f32 0 0] 90)) hcc.2 hz
  have hws : w.heap.size < w3.heap.size := (Array.getElem?_eq_some_iff.1 kb).1
  obtain ⟨kc0, kc1, kf⟩ := blk2 kb
  have H4 := Lib.hid hc4
  have S1 := Lib.hid (six_of (n := 1024) ey (by omega) (by omega))
  have S2 := Lib.hid (six_of (n := 512) eu (by omega) (by omega))
  have EV : Hid (∀ b, cn .f32 b = fop .quo .f32 (cn .f32 (floatOfInt .f32 (v - 512))) (cn .f32 1098907648) → Six b 512) := Lib.hid (fun b hb => six_of hb (by omega) (by omega))
  clear hc1 hc2 hc3 hcc hc4 ey eu
  go_wp2_with ((with_reducible refine upon_quo ?_; intro vb n3 ev))
  exact bodyPost_ret (v := .agg #[.float .f32 yb, .complex .f32 ub vb]) (by simp [results, Try.results174, go_sem, *]) rfl ⟨⟨⟨yb, ub, vb⟩, rfl, S1.out, S2.out, EV.out vb ev⟩, CuT.below H4.out (Below.setCell (p := ⟨w.heap.size, 1, none⟩) (Below.setCell (p := ⟨w.heap.size, 0, none⟩) (below_drewN (Below.refl _ _) _) (Nat.le_refl _) _) (Nat.le_refl _) _) hz⟩
end Go.Proofs.Ytiddaabodkglmaa

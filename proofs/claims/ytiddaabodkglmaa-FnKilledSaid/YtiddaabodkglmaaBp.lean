import Derived.Test.YtiddaabodkglmaaBo
namespace Go.Proofs.Ytiddaabodkglmaa
open Go.RowKit Go.Fx
set_option linter.unusedVariables false
set_option linter.unusedSimpArgs false
set_option maxRecDepth 100000 in
set_option maxHeartbeats 2000000 in
theorem drawIsKilled_any (A0 : Option Addr) (c0 : Nat) (bs : List Int) (w : World) (h : Rd w A0 (bs.map by8)) (hn : bs.length ≤ 1048576) (hb : ∀ x ∈ bs, 0 ≤ x ∧ x ≤ 255) :
    Calls Try.prog 215 #[.slice A0 bs.length c0] w fun e w' => (∃ (A : Option Addr) (c n : Nat) (gs : List Nat) (B : Option Addr) (d m : Nat) (hs : List Nat) (x : Nat), e = .returned (.tuple #[.slice A n c, .slice B m d, .float .f32 x]) ∧ Rd w' A (gs.map fl) ∧ Rd w' B (hs.map fl) ∧ gs.length = n ∧ hs.length = m ∧ n ≤ 300 ∧ m ≤ 300 ∧ n ≤ c ∧ m ≤ d) ∧ Ext w w' := by
  go_enter Try.func215, Try.ntmps215
  go_wp2_with fail
  refine (new_any A0 c0 bs _ h hn hb).mono ?_
  rintro e w1 ⟨⟨bk, rfl, hbk, hbz, hcu⟩, hb1⟩
  go_wp2_with fail
  refine (pair07_any bk _ hcu).mono ?_
  rintro e w2 ⟨⟨A, c, gs, B, d, hs, rfl, ho, ho', hl, hl'⟩, hc2⟩
  have hk := ho.2.2.1
  have hk' := ho'.2.2.1
  generalize hgn : gs.length = n at hl hk ⊢
  generalize hhn : hs.length = m at hl' hk' ⊢
  have HG := Lib.hid hgn
  have HH := Lib.hid hhn
  clear hgn hhn
  go_wp2_with fail
  refine (below_any bk 13 _ hc2.1 (by omega)).mono ?_
  rintro e w3 ⟨⟨x, rfl, hx0, hx1, -⟩, hc3⟩
  have hx2 := hx1 (by omega)
  clear hx1
  have r1 := (ho.up hc3.2).1
  have r2 := (ho'.up hc3.2).1
  have hx := ext_turn hb1 (hc2.trans hc3).2 hbk
  clear ho ho' hc2 hc3 hb1
  go_wp2_with ((with_reducible refine upon_quo ?_; intro xb n1 ex))
  go_ret3
  exact ⟨⟨A, c, n, gs, B, d, m, hs, xb, rfl, r1.ext (Ext.drewN _ _), r2.ext (Ext.drewN _ _), HG.out, HH.out, hl, hl', hk, hk'⟩, hx.trans (Ext.drewN _ _)⟩
set_option maxRecDepth 100000 in
set_option maxHeartbeats 2000000 in
theorem drawTakePair_any (A0 : Option Addr) (c0 : Nat) (bs : List Int) (w : World) (h : Rd w A0 (bs.map by8)) (hn : bs.length ≤ 1048576) (hb : ∀ x ∈ bs, 0 ≤ x ∧ x ≤ 255) :
    Calls Try.prog 133 #[.slice A0 bs.length c0] w fun e w' => (∃ (A : Option Addr) (c n : Nat) (gs : List Nat) (B : Option Addr) (d m : Nat) (hs : List Nat) (x y : Nat), e = .returned (.tuple #[.slice A n c, .slice B m d, .float .f32 x, .float .f32 y]) ∧ Rd w' A (gs.map fl) ∧ Rd w' B (hs.map fl) ∧ gs.length = n ∧ hs.length = m ∧ n ≤ 300 ∧ m ≤ 300 ∧ n ≤ c ∧ m ≤ d) ∧ Ext w w' := by
  go_enter Try.func133, Try.ntmps133
  go_wp2_with fail
  refine (drawIsKilled_any A0 c0 bs _ h hn hb).mono ?_
  rintro e w1 ⟨⟨A, c, n, gs, B, d, m, hs, x, rfl, r1, r2, hgn, hhn, hl, hl', hk, hk'⟩, hb1⟩
  have HG := Lib.hid hgn
  have HH := Lib.hid hhn
  clear hgn hhn
  go_wp2_with fail
  refine (new_any A0 c0 bs _ (h.ext hb1) hn hb).mono ?_
  rintro e w2 ⟨⟨bk, rfl, hbk, hbz, hcu⟩, hb2⟩
  have r1' := r1.ext hb2
  have r2' := r2.ext hb2
  have hlow1 := hb2.size
  go_wp2_with fail
  refine (below_any bk 17 _ hcu (by omega)).mono ?_
  rintro e w3 ⟨⟨z, rfl, hz0, hz1, -⟩, hc3⟩
  have hz2 := hz1 (by omega)
  clear hz1
  have R1 := Lib.hid r1
  have R2 := Lib.hid r2
  go_wp2_with ((with_reducible refine upon_quo ?_; intro xb n1 ex))
  refine (once_any bk 20 _ (hc3.1.ext (Ext.drewN _ _)) (by omega)).mono ?_
  rintro e w4 ⟨⟨q, rfl⟩, hc4⟩
  have hcc := (CuT.ext hc3 (Ext.drewN _ _)).trans hc4
  clear hc3 hc4 ex
  cases q
  · have hx := ext_turn hb2 hcc.2 hbk
    go_wp2_with ((with_reducible refine upon_quo ?_; intro yb n2 ey))
    refine bodyPost_ret (by simp [results, Try.results133, go_sem]; try rfl) rfl ?_
    exact ⟨⟨A, c, _, gs, B, d, _, hs, yb, xb, rfl, R1.out.ext (hx.trans (Ext.drewN _ _)), R2.out.ext (hx.trans (Ext.drewN _ _)), HG.out, HH.out, hl, hl', hk, hk'⟩, hb1.trans (hx.trans (Ext.drewN _ _))⟩
  · go_wp2_with fail
    refine (odd_any bk _ hcc.1).mono ?_
    rintro e w5 ⟨⟨u, rfl⟩, hc5⟩
    have hx := ext_turn hb2 (hcc.trans hc5).2 hbk
    go_wp2_with (first | (with_reducible refine upon_narrow Try.underlying68 Try.underlying29 ?_; intro b n hb) | (with_reducible refine upon_quo ?_; intro yb n2 ey))
    refine bodyPost_ret (by simp [results, Try.results133, go_sem]; try rfl) rfl ?_
    exact ⟨⟨A, c, _, gs, B, d, _, hs, yb, _, rfl, R1.out.ext (hx.trans (by (repeat (first | exact Below.refl _ _ | assumption | refine below_drewN ?_ _ | refine Below.drew ?_ | refine Below.alloc ?_ (by first | exact Nat.le_refl _ | (simp; done) | (simp; omega)) _ | refine Below.setCell ?_ (by first | exact Nat.le_refl _ | (simp; done) | (simp; omega)) _)))), R2.out.ext (hx.trans (by (repeat (first | exact Below.refl _ _ | assumption | refine below_drewN ?_ _ | refine Below.drew ?_ | refine Below.alloc ?_ (by first | exact Nat.le_refl _ | (simp; done) | (simp; omega)) _ | refine Below.setCell ?_ (by first | exact Nat.le_refl _ | (simp; done) | (simp; omega)) _)))), HG.out, HH.out, hl, hl', hk, hk'⟩, hb1.trans (hx.trans (by (repeat (first | exact Below.refl _ _ | assumption | refine below_drewN ?_ _ | refine Below.drew ?_ | refine Below.alloc ?_ (by first | exact Nat.le_refl _ | (simp; done) | (simp; omega)) _ | refine Below.setCell ?_ (by first | exact Nat.le_refl _ | (simp; done) | (simp; omega)) _))))⟩
end Go.Proofs.Ytiddaabodkglmaa

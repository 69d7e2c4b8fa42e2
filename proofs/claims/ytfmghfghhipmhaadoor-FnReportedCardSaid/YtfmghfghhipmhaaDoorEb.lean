import Derived.Test.YtfmghfghhipmhaaDoorEa
import Derived.Test.YtfmghfghhipmhaaDoorK2
namespace Go.Proofs.YtfmghfghhipmhaaDoor
open Go.RowKit Go.Fx
set_option linter.unusedVariables false
set_option linter.unusedSimpArgs false
theorem CuT.refl {b : Nat} {w : World} (h : Cu w b) : CuT b w w := ⟨h, Turn.refl _ _ _⟩
theorem once_any (b : Nat) (n : Int) (w : World) (h : Cu w b) (hn : n ≤ 4294967296) :
    Calls Tryd.prog 100 #[.pointer (some ⟨b, 0, none⟩), .int .i64 n] w fun e w' => (∃ q : Bool, e = .returned (.bool q)) ∧ CuT b w w' := by
  go_enter Tryd.func100, Tryd.ntmps100
  go_wp2_with (go_at_call 50; refine (below_any b n _ h hn).mono ?_; rintro e w1 ⟨⟨x, rfl, hx0, hx1, hx2⟩, hc⟩)
  go_ret
  exact ⟨⟨_, rfl⟩, hc⟩
set_option maxRecDepth 100000 in
theorem pick_any (b : Nat) (A : Option Addr) (c : Nat) (xs : List Int) (w : World) (h : Cu w b) (hr : Rd w A (xs.map it)) (hA : ∀ a, A = some a → b + 1 ≤ a.block) (h0 : 0 < xs.length) (hn : xs.length ≤ 1000) :
    Calls Tryd.prog 99 #[.pointer (some ⟨b, 0, none⟩), .slice A xs.length c] w fun e w' => (∃ x ∈ xs, e = .returned (.int .i64 x)) ∧ CuT b w w' := by
  go_enter Tryd.func99, Tryd.ntmps99
  go_wp2_with fail
  refine (below_any b xs.length _ h (by omega)).mono ?_
  rintro e w1 ⟨⟨x, rfl, hx0, hx1, hx2⟩, hc⟩
  have hlt := hx1 (by omega)
  obtain ⟨k, rfl⟩ : ∃ k : Nat, x = k := ⟨x.toNat, by omega⟩
  have hkl : k < xs.length := by omega
  obtain ⟨b2, off, rfl, hbw, hcell⟩ := ri_at (rd_turn hr hc.2 (fun a ha _ => .inr (hA a ha))) hkl
  have hm := List.getElem_mem hkl
  generalize xs[k] = y at hcell hm
  go_wp2_with fail
  go_ret
  exact ⟨⟨y, hm, rfl⟩, hc⟩
set_option maxRecDepth 100000 in
set_option maxHeartbeats 4000000 in
theorem odd_any (b : Nat) (w : World) (h : Cu w b) :
    Calls Tryd.prog 88 #[.pointer (some ⟨b, 0, none⟩)] w fun e w' => (∃ x : Nat, e = .returned (.float .f64 x)) ∧ CuT b w w' := by
  go_enter Tryd.func88, Tryd.ntmps88
  go_wp2_with fail
  refine (below_any b 2 _ h (by omega)).mono ?_
  rintro e w1 ⟨⟨x, rfl, hx0, hx1, hx2⟩, hc1⟩
  go_wp2_with fail
  refine (below_any b 8 _ hc1.1 (by omega)).mono ?_
  rintro e w2 ⟨⟨y, rfl, hy0, hy1, hy2⟩, hc2⟩
  have hc := CuT.trans hc1 hc2
  clear hc1 hc2
  go_wp2_with (with_reducible first | (refine upon_add ?_; intro b n hb) | (refine upon_sub ?_; intro b n hb) | (refine upon_mul ?_; intro b n hb) | (refine upon_quo ?_; intro b n hb))
  all_goals go_ret
  all_goals exact ⟨⟨_, rfl⟩, hc.ext (by (repeat (first | exact Below.refl _ _ | assumption | refine below_drewN ?_ _ | refine Below.drew ?_ | refine Below.alloc ?_ (by first | exact Nat.le_refl _ | (simp; done) | (simp; omega)) _ | refine Below.setCell ?_ (by first | exact Nat.le_refl _ | (simp; done) | (simp; omega)) _)))⟩
set_option maxRecDepth 100000 in
set_option maxHeartbeats 4000000 in
theorem real_any (bk : Nat) (most : Int) (w : World) (h : Cu w bk) (h0 : 0 ≤ most) (h1 : most ≤ 1000) :
    Calls Tryd.prog 89 #[.pointer (some ⟨bk, 0, none⟩), .int .i64 most] w fun e w' => (∃ x : Nat, e = .returned (.float .f64 x)) ∧ CuT bk w w' := by
  go_enter Tryd.func89, Tryd.ntmps89
  go_wp2_with fail
  refine (once_any bk 40 _ h (by omega)).mono ?_
  rintro e w1 ⟨⟨q, rfl⟩, hc1⟩
  cases q
  · go_wp2_with fail
    refine (below_any bk (most * 8 + 1) _ hc1.1 (by omega)).mono ?_
    rintro e w2 ⟨⟨x, rfl, hx0, hx1, hx2⟩, hc2⟩
    have hcc := CuT.trans hc1 hc2
    clear hc1 hc2
    go_wp2_with (with_reducible first | (refine upon_add ?_; intro b n hb) | (refine upon_sub ?_; intro b n hb) | (refine upon_mul ?_; intro b n hb) | (refine upon_quo ?_; intro b n hb))
    refine (once_any bk 2 _ (hcc.1.ext (Ext.drewN _ _)) (by omega)).mono ?_
    rintro e w3 ⟨⟨q, rfl⟩, hc3⟩
    have hc4 := CuT.trans (CuT.ext hcc (Ext.drewN _ _)) hc3
    clear hcc hc3
    cases q
    · go_wp2_with fail
      refine (once_any bk 2 _ hc4.1 (by omega)).mono ?_
      rintro e w4 ⟨⟨q, rfl⟩, hc5⟩
      have hc6 := CuT.trans hc4 hc5
      cases q
      all_goals go_wp2_with fail
      all_goals go_ret
      all_goals exact ⟨⟨_, rfl⟩, hc6⟩
    · go_wp2_with fail
      refine (below_any bk (most * 1000 + 1) _ hc4.1 (by omega)).mono ?_
      rintro e w4 ⟨⟨x, rfl, hx0, hx1, hx2⟩, hc5⟩
      have hc6 := CuT.trans hc4 hc5
      clear hc4 hc5
      go_wp2_with (with_reducible first | (refine upon_add ?_; intro b n hb) | (refine upon_sub ?_; intro b n hb) | (refine upon_mul ?_; intro b n hb) | (refine upon_quo ?_; intro b n hb))
      refine (once_any bk 2 _ (hc6.1.ext (Ext.drewN _ _)) (by omega)).mono ?_
      rintro e w5 ⟨⟨q, rfl⟩, hc7⟩
      have hc8 := CuT.trans (CuT.ext hc6 (Ext.drewN _ _)) hc7
      cases q
      all_goals go_wp2_with fail
      all_goals go_ret
      all_goals exact ⟨⟨_, rfl⟩, hc8⟩
  · go_wp2_with fail
    refine (odd_any bk _ hc1.1).mono ?_
    rintro e w2 ⟨⟨x, rfl⟩, hc2⟩
    go_wp2_with fail
    go_ret
    exact ⟨⟨_, rfl⟩, hc1.trans hc2⟩
end Go.Proofs.YtfmghfghhipmhaaDoor

import Derived.Test.YtfmghfghhipmhaaDoorK1
import Derived.Test.YtfmghfghhipmhaaDoorRx
import Derived.Test.YtfmghfghhipmhaaDoorK2
namespace Go.Fx
open Go.RowKit
set_option linter.unusedVariables false
set_option linter.unusedSimpArgs false
theorem rd_turn {w w' : World} {A : Option Addr} {cs : List Value} {lo hi : Nat} (h : Rd w A cs) (ht : Turn lo hi w w') (hA : ∀ a, A = some a → cs ≠ [] → a.block < lo ∨ hi ≤ a.block) : Rd w' A cs := by
  by_cases hne : cs = []
  · exact .inl hne
  rcases h with h | ⟨b, off, hAd, hb, hc⟩
  · exact .inl h
  · refine .inr ⟨b, off, hAd, Nat.lt_of_lt_of_le hb ht.size, fun j u hu => ?_⟩
    rw [World.cell?_of_block (w := w) (a := ⟨b, off + j, none⟩) (ht.block b hb (hA _ hAd hne))]
    exact hc j u hu
/-- the cursor over the code -/
structure CurS (E : TypeId) (w : World) (b : Nat) (A : Option Addr) (c : Nat) (bs : List Int) (i : Nat) (h : Int) : Prop where
  blk : w.heap[b]? = some (.cells #[.slice A bs.length c, .int .i64 i, .int .i64 h] E (0, 0))
  rd : Rd w A (bs.map by8)
  lt : ∀ a, A = some a → bs.map by8 ≠ [] → a.block < b
  len : bs.length ≤ 1048576
  byte : ∀ x ∈ bs, 0 ≤ x ∧ x ≤ 255
  hi : i ≤ bs.length
def Cur (E : TypeId) (w : World) (b : Nat) : Prop := ∃ A c bs i h, CurS E w b A c bs i h
theorem Cur.ext {E : TypeId} {w w' : World} {b : Nat} (h : Cur E w b) (e : Ext w w') : Cur E w' b := by
  obtain ⟨A, c, bs, i, x, h⟩ := h
  exact ⟨A, c, bs, i, x, blk_ext h.blk e, h.rd.ext e, h.lt, h.len, h.byte, h.hi⟩
theorem Cur.size {E : TypeId} {w : World} {b : Nat} (h : Cur E w b) : b < w.heap.size := by
  obtain ⟨A, c, bs, i, x, h⟩ := h
  exact (Array.getElem?_eq_some_iff.1 h.blk).1
theorem Cur.turn {E : TypeId} {w w' : World} {b lo hi : Nat} (h : Cur E w b) (e : Turn lo hi w w') (hb : b < lo) : Cur E w' b := by
  obtain ⟨A, c, bs, i, x, h⟩ := h
  refine ⟨A, c, bs, i, x, ?_, rd_turn h.rd e (fun a ha hne => .inl (Nat.lt_trans (h.lt a ha hne) hb)), h.lt, h.len, h.byte, h.hi⟩
  rw [e.block b (Array.getElem?_eq_some_iff.1 h.blk).1 (.inl hb)]; exact h.blk
theorem blk_set {w : World} {b : Nat} {cs : Array Value} {E : TypeId} (h : w.heap[b]? = some (.cells cs E (0, 0))) (j : Nat) (v : Value) : (w.setCell ⟨b, j, none⟩ v).heap[b]? = some (.cells (cs.setIfInBounds j v) E (0, 0)) := by
  simp [World.setCell, Array.getElem?_modify, h]
theorem turn_set {lo hi : Nat} {w w' : World} (h : Turn lo hi w w') {p : Addr} (h1 : lo ≤ p.block) (h2 : p.block < hi) (v : Value) : Turn lo hi w (w'.setCell p v) :=
  ⟨h.os, h.tape, h.output, by simpa [World.setCell] using h.size, fun k hk ho => by
    rw [Below.heap_setCell w' p v k (fun e => by subst e; omega)]
    exact h.block k hk ho⟩
theorem turn_drewN {lo hi : Nat} {w w' : World} (h : Turn lo hi w w') (n : Nat) : Turn lo hi w (w'.drewN n) := ⟨h.os, h.tape, h.output, h.size, h.block⟩
theorem land255 (x : Int) : 0 ≤ bits BinOp.and IntKind.i64 x 255 ∧ bits BinOp.and IntKind.i64 x 255 ≤ 255 := by
  have h : (BitVec.ofInt 64 x &&& BitVec.ofInt 64 255).toNat ≤ 255 := by
    rw [BitVec.toNat_and]
    exact Nat.and_le_right
  show 0 ≤ IntKind.i64.wrap ((BitVec.ofInt 64 x &&& BitVec.ofInt 64 255).toNat : Nat) ∧ IntKind.i64.wrap ((BitVec.ofInt 64 x &&& BitVec.ofInt 64 255).toNat : Nat) ≤ 255
  rw [IntKind.wrap_i64]
  omega
end Go.Fx
namespace Go.Proofs.YtfmghfghhipmhaaDoor
open Go.RowKit Go.Fx
set_option linter.unusedVariables false
set_option linter.unusedSimpArgs false
/-- the cursor, at the block b -/
abbrev Cu (w : World) (b : Nat) : Prop := Cur 93 w b
set_option maxRecDepth 100000 in
set_option maxHeartbeats 4000000 in
theorem new_any (A : Option Addr) (c : Nat) (bs : List Int) (w : World) (h : Rd w A (bs.map by8)) (hn : bs.length ≤ 1048576) (hb : ∀ x ∈ bs, 0 ≤ x ∧ x ≤ 255) :
    Calls Tryd.prog 48 #[.slice A bs.length c] w fun e w' => (∃ b, e = .returned (.pointer (some ⟨b, 0, none⟩)) ∧ w.heap.size ≤ b ∧ b < w'.heap.size ∧ Cu w' b) ∧ Ext w w' := by
  have HB := Lib.hid hb
  clear hb
  go_enter Tryd.func48, Tryd.ntmps48
  go_wp2
  go_loop [3, 4] (fun hh i => ∃ (k : Nat) (x : Int), k ≤ bs.length ∧ i = .int .i64 k ∧ hh = .int .i64 x) (fun _ i => bs.length - (intOf i).toNat)
  case atStart => exact ⟨0, _, by omega, rfl, rfl⟩
  case round =>
    obtain ⟨k, x, hk, rfl, rfl⟩ := hrel
    have hfin : Hid (Cu (w.alloc (.cells #[.slice A bs.length c, .int .i64 0, .int .i64 x] 93)) w.heap.size) := Lib.hid ⟨A, c, bs, 0, x, heap_alloc_new w _, h.ext ((Ext.refl _).alloc _), fun a ha hne => by
      rcases h with h | ⟨b, off, hA, hb, _⟩
      · exact absurd h hne
      · rw [ha] at hA; cases hA; exact hb, hn, HB.out, by omega⟩
    by_cases hlt : k < bs.length
    · obtain ⟨b, off, rfl, hbw, hc⟩ : ∃ b off, A = some ⟨b, off, none⟩ ∧ b < w.heap.size ∧ w.cell? ⟨b, off + k, none⟩ = some (by8 bs[k]) := by
        rcases h with h | ⟨b, off, hA, hb, hc⟩
        · have := congrArg List.length h; rw [List.length_map, List.length_nil] at this; omega
        · exact ⟨b, off, hA, hb, hc k _ (by simp [hlt])⟩
      by_cases h4 : k < 4000
      · go_wp2
        go_round
        case rel => exact ⟨k + 1, _, by omega, by go_num, rfl⟩
        case measure => simp [intOf]; omega
      · go_wp2
        go_ret
        exact ⟨⟨_, rfl, Nat.le_refl _, by simp, hfin.out⟩, (Ext.refl _).alloc _⟩
    · go_wp2
      go_ret
      exact ⟨⟨_, rfl, Nat.le_refl _, by simp, hfin.out⟩, (Ext.refl _).alloc _⟩
set_option maxRecDepth 100000 in
set_option maxHeartbeats 4000000 in
theorem byte_any (b : Nat) (w : World) (h : Cu w b) :
    Calls Tryd.prog 77 #[.pointer (some ⟨b, 0, none⟩)] w fun e w' => (∃ x : Int, e = .returned (.int .i64 x) ∧ 0 ≤ x ∧ x ≤ 255) ∧ Cu w' b ∧ Turn b (b + 1) w w' := by
  obtain ⟨A, c, bs, i, hh, H⟩ := h
  have kb := H.blk
  obtain ⟨kc0, kc1, kc2, kf⟩ := blk3 kb
  have hbz := (Array.getElem?_eq_some_iff.1 kb).1
  have HI := H.hi
  have HN := H.len
  by_cases hlt : i < bs.length
  · go_enter Tryd.func77, Tryd.ntmps77
    obtain ⟨b2, off2, rfl, hbw, hc⟩ : ∃ b2 off2, A = some ⟨b2, off2, none⟩ ∧ b2 < b ∧ w.cell? ⟨b2, off2 + i, none⟩ = some (by8 bs[i]) := by
      rcases H.rd with h | ⟨b2, off2, hA, hb, hc⟩
      · have := congrArg List.length h; rw [List.length_map, List.length_nil] at this; omega
      · exact ⟨b2, off2, hA, H.lt _ hA (by intro e; have := congrArg List.length e; rw [List.length_map, List.length_nil] at this; omega), hc i _ (by simp [hlt])⟩
    have hc' : ∀ v, (w.setCell ⟨b, 2, none⟩ v).cell? ⟨b2, off2 + i, none⟩ = some (by8 bs[i]) := fun v => by
      rw [World.cell?_of_block (w := w) (a := ⟨b2, off2 + i, none⟩) (Below.heap_setCell w ⟨b, 2, none⟩ v b2 (fun e => by simp at e; omega))]; exact hc
    have HF : Hid (∀ (n : Nat) (x : Int), Cu (((w.setCell ⟨b, 2, none⟩ (.int .i64 x)).drewN n).setCell ⟨b, 1, none⟩ (.int .i64 ((i : Int) + 1))) b ∧ Turn b (b + 1) w (((w.setCell ⟨b, 2, none⟩ (.int .i64 x)).drewN n).setCell ⟨b, 1, none⟩ (.int .i64 ((i : Int) + 1)))) := Lib.hid (fun n x => by
      have ht : Turn b (b + 1) w (((w.setCell ⟨b, 2, none⟩ (.int .i64 x)).drewN n).setCell ⟨b, 1, none⟩ (.int .i64 ((i : Int) + 1))) := turn_set (p := ⟨b, 1, none⟩) (turn_drewN (turn_set (p := ⟨b, 2, none⟩) (Turn.refl _ _ w) (Nat.le_refl _) (Nat.lt_succ_self _) _) n) (Nat.le_refl _) (Nat.lt_succ_self _) _
      refine ⟨⟨some ⟨b2, off2, none⟩, c, bs, i + 1, x, ?_, rd_turn H.rd ht (fun a ha hne => .inl (H.lt a ha hne)), H.lt, H.len, H.byte, hlt⟩, ht⟩
      have h1 := blk_set kb 2 (.int .i64 x)
      have h2 : ((w.setCell ⟨b, 2, none⟩ (.int .i64 x)).drewN n).heap[b]? = _ := h1
      have h3 := blk_set h2 1 (.int .i64 ((i : Int) + 1))
      rw [h3]
      simp)
    clear H
    go_wp2_with fail
    go_quiet (fail)
    all_goals go_wp2_with fail
    all_goals go_quiet (fail)
    all_goals go_wp2_with fail
    all_goals go_quiet (fail)
    all_goals go_wp2_with fail
    go_ret
    exact ⟨⟨_, rfl, land255 _⟩, (HF.out _ _).1, (HF.out _ _).2⟩
  · have HF : Hid (∀ (n m : Nat) (x : Int), Cu (((w.setCell ⟨b, 2, none⟩ (.int .i64 x)).drewN n).drewN m) b ∧ Turn b (b + 1) w (((w.setCell ⟨b, 2, none⟩ (.int .i64 x)).drewN n).drewN m)) := Lib.hid (fun n m x => by
      have ht : Turn b (b + 1) w (((w.setCell ⟨b, 2, none⟩ (.int .i64 x)).drewN n).drewN m) := turn_drewN (turn_drewN (turn_set (p := ⟨b, 2, none⟩) (Turn.refl _ _ w) (Nat.le_refl _) (Nat.lt_succ_self _) _) n) m
      refine ⟨⟨A, c, bs, i, x, ?_, rd_turn H.rd ht (fun a ha hne => .inl (H.lt a ha hne)), H.lt, H.len, H.byte, H.hi⟩, ht⟩
      have h1 := blk_set kb 2 (.int .i64 x)
      have h2 : (((w.setCell ⟨b, 2, none⟩ (.int .i64 x)).drewN n).drewN m).heap[b]? = _ := h1
      rw [h2]
      simp)
    clear H
    go_enter Tryd.func77, Tryd.ntmps77
    go_wp2_with fail
    go_quiet (fail)
    all_goals go_wp2_with fail
    all_goals go_quiet (fail)
    all_goals go_wp2_with fail
    go_ret
    exact ⟨⟨_, rfl, land255 _⟩, (HF.out _ _ _).1, (HF.out _ _ _).2⟩
/-- what a call that draws off the cursor leaves -/
abbrev CuT (b : Nat) (w w' : World) : Prop := Cu w' b ∧ Turn b (b + 1) w w'
theorem CuT.trans {b : Nat} {u v w : World} (h : CuT b u v) (k : CuT b v w) : CuT b u w := ⟨k.1, h.2.trans k.2⟩
theorem CuT.size {b : Nat} {u v : World} (h : CuT b u v) : u.heap.size ≤ v.heap.size := h.2.size
theorem CuT.ext {b : Nat} {u v w : World} (h : CuT b u v) (k : Ext v w) : CuT b u w := ⟨h.1.ext k, h.2.trans (turn_ext _ _ k)⟩
set_option maxRecDepth 100000 in
set_option maxHeartbeats 4000000 in
theorem below_any (b : Nat) (n : Int) (w : World) (h : Cu w b) (hn : n ≤ 4294967296) :
    Calls Tryd.prog 50 #[.pointer (some ⟨b, 0, none⟩), .int .i64 n] w fun e w' => (∃ x : Int, e = .returned (.int .i64 x) ∧ 0 ≤ x ∧ (0 < n → x < n) ∧ (n ≤ 0 → x = 0)) ∧ CuT b w w' := by
  by_cases h0 : n ≤ 0
  · go_enter Tryd.func50, Tryd.ntmps50
    go_wp2_with fail
    go_ret
    exact ⟨⟨0, rfl, by omega, by omega, fun _ => rfl⟩, h, Turn.refl _ _ _⟩
  · by_cases h1 : n ≤ 256
    · go_enter Tryd.func50, Tryd.ntmps50
      go_wp2_with (go_at_call 77; refine (byte_any b _ h).mono ?_; rintro e w1 ⟨⟨x, rfl, hx0, hx1⟩, hc⟩)
      go_ret
      exact ⟨⟨_, rfl, Int.emod_nonneg _ (by omega), fun h => Int.emod_lt_of_pos _ h, fun h => by omega⟩, hc⟩
    · go_enter Tryd.func50, Tryd.ntmps50
      go_wp2_with fail
      refine (byte_any b _ h).mono ?_
      rintro e w1 ⟨⟨x, rfl, hx0, hx1⟩, hc1⟩
      go_wp2_with fail
      refine (byte_any b _ hc1.1).mono ?_
      rintro e w2 ⟨⟨y, rfl, hy0, hy1⟩, hc2⟩
      go_wp2_with fail
      refine (byte_any b _ hc2.1).mono ?_
      rintro e w3 ⟨⟨z, rfl, hz0, hz1⟩, hc3⟩
      go_wp2_with fail
      refine (byte_any b _ hc3.1).mono ?_
      rintro e w4 ⟨⟨v, rfl, hv0, hv1⟩, hc4⟩
      go_wp2_with fail
      go_ret
      exact ⟨⟨_, rfl, Int.emod_nonneg _ (by omega), fun h => Int.emod_lt_of_pos _ h, fun h => by omega⟩, CuT.trans (CuT.trans (CuT.trans hc1 hc2) hc3) hc4⟩
end Go.Proofs.YtfmghfghhipmhaaDoor

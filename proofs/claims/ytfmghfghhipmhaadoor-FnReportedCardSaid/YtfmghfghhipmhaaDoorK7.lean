import Derived.Test.YtfmghfghhipmhaaDoorK2
import Derived.Test.YtfmghfghhipmhaaDoorK1
section
namespace Go.Fx
open Go.RowKit
abbrev st (s : ByteArray) : Value := .string s
theorem rs_at {w : World} {A : Option Addr} {rs : List ByteArray} (h : Rd w A (rs.map st)) {i : Nat} (hi : i < rs.length) :
    ∃ b off, A = some ⟨b, off, none⟩ ∧ b < w.heap.size ∧ w.cell? ⟨b, off + i, none⟩ = some (.string rs[i]) := by
  rcases h with h | ⟨b, off, hA, hb, hc⟩
  · have : rs = [] := by simpa using h
    subst this; simp at hi
  · exact ⟨b, off, hA, hb, hc i _ (by simp [hi])⟩
end Go.Fx
namespace Go.Proofs.YtfmghfghhipmhaaDoor
open Go.RowKit Go.Fx
set_option linter.unusedVariables false
set_option linter.unusedSimpArgs false
theorem info_str : (Tryd.prog.info? 9).map (fun i => (i.zero, i.size, i.bytes)) = some (some (.string ByteArray.empty), 1, 16) := by kernel_rfl
/-- a fresh row of strings -/
abbrev OS (w : World) (base : Nat) (v : Value) (rs : List ByteArray) : Prop := w.ownsRow base 9 1 v rs.length (rs.map st)

theorem szS_any (A : Option Addr) (c : Nat) (rs : List ByteArray) (left : Int) (w : World) (h : Rd w A (rs.map st)) (hn : rs.length ≤ maxLen) (hs : ∀ s ∈ rs, s.size ≤ maxLen) (h1 : 0 ≤ left) (h2 : left ≤ 1048576) :
    Calls Tryd.prog 25 #[.slice A rs.length c, .int .i64 left] w fun e w' => (∃ r : Int, e = .returned (.int .i64 r) ∧ r ≤ left ∧ (0 ≤ r → rs.length ≤ left)) ∧ w = w' := by
  unfold maxLen at hn hs
  by_cases hb : left < rs.length
  · go_enter Tryd.func25, Tryd.ntmps25
    go_wp2
    go_ret
    exact ⟨⟨-1, rfl, by omega, by omega⟩, rfl⟩
  · go_enter Tryd.func25, Tryd.ntmps25
    go_wp2
    go_loop [1, 5] (fun l i => ∃ (k : Nat) (m : Int), k ≤ rs.length ∧ i = .int .i64 k ∧ l = .int .i64 m ∧ 0 ≤ m ∧ m ≤ left) (fun _ i => rs.length - (intOf i).toNat)
    case atStart => exact ⟨0, left - rs.length, Nat.zero_le _, rfl, by go_num, by omega, by omega⟩
    case round =>
      obtain ⟨k, m, hk, rfl, rfl, hm0, hm1⟩ := hrel
      by_cases hlt : k < rs.length
      · obtain ⟨b, off, rfl, hbw, hc⟩ := rs_at h hlt
        have hsz := hs _ (List.getElem_mem hlt)
        by_cases hneg : m - rs[k].size < 0
        · go_wp2
          go_ret
          exact ⟨⟨-1, rfl, by omega⟩, rfl⟩
        · go_wp2
          go_round
          case rel => exact ⟨k + 1, m - rs[k].size, by omega, by go_num, by go_num, by omega, by omega⟩
          case measure => simp [intOf]; omega
      · go_wp2
        go_ret
        exact ⟨⟨m, rfl, hm1⟩, rfl⟩

theorem toS_any (A : Option Addr) (c : Nat) (rs : List ByteArray) (w : World) (h : Rd w A (rs.map st)) (hn : rs.length ≤ 1048576) :
    Calls Tryd.prog 27 #[.slice A rs.length c] w fun e w' => (∃ v, e = .returned v ∧ OS w' w.heap.size v rs) ∧ Ext w w' := by
  obtain ⟨i0, hi, hz0, hz1, hz2⟩ := info_parts info_str
  go_enter Tryd.func27, Tryd.ntmps27
  go_wp2_with (at_make; refine wpList_make_full _ rfl _ _ 23 rfl w.heap.size 9 i0 _ 1 Tryd.underlying23 hi hz0 hz1 _ _ _ _ rs.length rfl rfl rfl rfl (by rw [hz2]; omega) (by unfold maxLen; omega) (Nat.le_refl _) ?_; intro w1 hown hg)
  have hb1 := grown_none hg
  have hlen := hown.1
  go_loopw [4] (fun i wr => ∃ (k : Nat) (xs : List Value), k ≤ rs.length ∧ i = .int .i64 k ∧ Upto k xs (rs.map st) ∧ wr.ownsRow w.heap.size 9 1 (.slice (some ⟨w.heap.size, 0, none⟩) rs.length rs.length) rs.length xs ∧ Ext w wr) (fun i _ => rs.length - (intOf i).toNat)
  case atStart => exact ⟨0, _, Nat.zero_le _, rfl, Upto.zero (by simpa using hlen), hown, hb1⟩
  case round =>
    obtain ⟨k, xs, hk, rfl, hu, ho, hb⟩ := hrel
    clear hlen
    by_cases hlt : k < rs.length
    · obtain ⟨b, off, rfl, hbw, hc⟩ := rs_at (h.ext hb) hlt
      have hf := own_frozen ho k
      have hl : k < xs.length := by have := hu.1; simp at this; omega
      have hcell : ∃ u, wr.cell? ⟨w.heap.size, k, none⟩ = some u := ⟨_, own_cell ho (List.getElem?_eq_getElem hl)⟩
      obtain ⟨u0, hcell⟩ := hcell
      go_wp2
      go_roundw
      case rel => exact ⟨k + 1, _, by omega, by go_num, hu.step (by simp [hlt]), own_set ho _, by (repeat (first | exact Below.refl _ _ | assumption | refine below_drewN ?_ _ | refine Below.drew ?_ | refine Below.alloc ?_ (by first | exact Nat.le_refl _ | (simp; done) | (simp; omega)) _ | refine Below.setCell ?_ (by first | exact Nat.le_refl _ | (simp; done) | (simp; omega)) _))⟩
      case measure => simp [intOf]; omega
    · go_wp2
      go_ret
      obtain rfl : k = rs.length := by omega
      have := Upto.all (ys := rs.map st) (by simpa using hu)
      subst this
      exact ⟨⟨_, rfl, ho⟩, hb⟩

theorem eqS_any (A B : Option Addr) (c d : Nat) (rs : List ByteArray) (w : World) (h : Rd w A (rs.map st)) (h' : Rd w B (rs.map st)) (hn : rs.length ≤ maxLen) :
    Calls Tryd.prog 28 #[.slice A rs.length c, .slice B rs.length d] w fun e w' => e = .returned (.bool true) ∧ ∃ n, w' = w.drewN n := by
  unfold maxLen at hn
  go_enter Tryd.func28, Tryd.ntmps28
  go_wp2
  go_loopw [5] (fun i wr => ∃ (k : Nat), k ≤ rs.length ∧ i = .int .i64 k ∧ ∃ n, wr = w.drewN n) (fun i _ => rs.length - (intOf i).toNat)
  case atStart => exact ⟨0, Nat.zero_le _, rfl, 0, rfl⟩
  case round =>
    obtain ⟨k, hk, rfl, n, rfl⟩ := hrel
    by_cases hlt : k < rs.length
    · obtain ⟨b, off, rfl, hbw, hc⟩ := rs_at h hlt
      obtain ⟨b', off', rfl, hbw', hc'⟩ := rs_at h' hlt
      go_wp2_with fail
      go_quiet (fail)
      go_wp2
      go_roundw
      case rel => exact ⟨k + 1, by omega, by go_num, _, rfl⟩
      case measure => simp [intOf]; omega
    · go_wp2
      go_ret
      exact ⟨rfl, n, rfl⟩
end Go.Proofs.YtfmghfghhipmhaaDoor
end
section
namespace Go.Proofs.YtfmghfghhipmhaaDoor
open Go.RowKit Go.Fx
set_option linter.unusedVariables false
set_option linter.unusedSimpArgs false
abbrev setV (cells rows : Int) (slice least sat : Nat) (v : Value) : Value := .agg #[.int .i64 cells, .int .i64 rows, .float .f32 slice, .float .f32 least, .float .f32 sat, v]

theorem szSet_any (cells rows : Int) (slice least sat : Nat) (A : Option Addr) (c : Nat) (rs : List ByteArray) (left : Int) (w : World) (h : Rd w A (rs.map st)) (hn : rs.length ≤ maxLen) (hs : ∀ s ∈ rs, s.size ≤ maxLen) (h1 : 0 ≤ left) (h2 : left ≤ 1048576) :
    Calls Tryd.prog 10 #[setV cells rows slice least sat (.slice A rs.length c), .int .i64 left] w fun e w' => (∃ r : Int, e = .returned (.int .i64 r) ∧ r ≤ left ∧ (0 ≤ r → rs.length ≤ left)) ∧ Ext w w' := by
  go_enter Tryd.func10, Tryd.ntmps10
  go_wp2_with (go_at_call 25; refine (szS_any _ _ _ _ _ (h.ext (by (repeat (first | exact Below.refl _ _ | assumption | refine below_drewN ?_ _ | refine Below.drew ?_ | refine Below.alloc ?_ (by first | exact Nat.le_refl _ | (simp; done) | (simp; omega)) _ | refine Below.setCell ?_ (by first | exact Nat.le_refl _ | (simp; done) | (simp; omega)) _)))) hn hs h1 h2).mono ?_; rintro e w1 ⟨⟨r, rfl, hr1, hr2⟩, rfl⟩)
  all_goals go_ret
  · exact ⟨⟨-1, rfl, by omega, by omega⟩, by (repeat (first | exact Below.refl _ _ | assumption | refine below_drewN ?_ _ | refine Below.drew ?_ | refine Below.alloc ?_ (by first | exact Nat.le_refl _ | (simp; done) | (simp; omega)) _ | refine Below.setCell ?_ (by first | exact Nat.le_refl _ | (simp; done) | (simp; omega)) _))⟩
  · exact ⟨⟨r, rfl, hr1, hr2⟩, by (repeat (first | exact Below.refl _ _ | assumption | refine below_drewN ?_ _ | refine Below.drew ?_ | refine Below.alloc ?_ (by first | exact Nat.le_refl _ | (simp; done) | (simp; omega)) _ | refine Below.setCell ?_ (by first | exact Nat.le_refl _ | (simp; done) | (simp; omega)) _))⟩
theorem toSet_any (cells rows : Int) (slice least sat : Nat) (A : Option Addr) (c : Nat) (rs : List ByteArray) (w : World) (h : Rd w A (rs.map st)) (hn : rs.length ≤ 1048576) :
    Calls Tryd.prog 12 #[setV cells rows slice least sat (.slice A rs.length c)] w fun e w' => (∃ v, e = .returned (setV cells rows slice least sat v) ∧ OS w' w.heap.size v rs) ∧ Ext w w' := by
  go_enter Tryd.func12, Tryd.ntmps12
  go_wp2_with fail
  refine (toS_any A c rs _ (h.ext (by (repeat (first | exact Below.refl _ _ | assumption | refine below_drewN ?_ _ | refine Below.drew ?_ | refine Below.alloc ?_ (by first | exact Nat.le_refl _ | (simp; done) | (simp; omega)) _ | refine Below.setCell ?_ (by first | exact Nat.le_refl _ | (simp; done) | (simp; omega)) _)))) hn).mono ?_
  rintro e w1 ⟨⟨v, rfl, ho⟩, hb1⟩
  have k2 : w1.heap[w.heap.size + 1 + 1]? = some (.cells #[.int .i64 cells, .int .i64 rows, .float .f32 slice, .float .f32 least, .float .f32 sat, .slice none 0 0] 28 (0, 0)) := blk_ext (by rw [show w.heap.size + 1 + 1 = ((w.alloc _).alloc _).heap.size by simp]; exact heap_alloc_new _ _) hb1
  have k1 : w1.heap[w.heap.size + 1]? = some (.cells #[.int .i64 0, .int .i64 0, .float .f32 0, .float .f32 0, .float .f32 0, .slice none 0 0] 28 (0, 0)) := blk_ext (blk_alloc (by rw [show w.heap.size + 1 = (w.alloc _).heap.size by simp]; exact heap_alloc_new _ _)) hb1
  obtain ⟨ac0, ac1, ac2, ac3, ac4, ac5, af⟩ := blk6 k2
  obtain ⟨bc0, bc1, bc2, bc3, bc4, bc5, bf⟩ := blk6 k1
  have hb2 : Ext w w1 := Ext.trans (by (repeat (first | exact Below.refl _ _ | assumption | refine below_drewN ?_ _ | refine Below.drew ?_ | refine Below.alloc ?_ (by first | exact Nat.le_refl _ | (simp; done) | (simp; omega)) _ | refine Below.setCell ?_ (by first | exact Nat.le_refl _ | (simp; done) | (simp; omega)) _))) hb1
  have ho2 : OS w1 w.heap.size v rs := own_base ho (by simp; omega)
  obtain ⟨A2, c2, rfl, -, -⟩ := own_slice ho
  have hin := own_in ho
  have hlt2 : ∀ b, (Value.slice A2 rs.length c2).ownBlock = some b → w.heap.size + 1 + 1 < b := fun b hb => by have := (hin b hb).1; simp at this; omega
  clear k1 k2 hb1 ho hin
  go_wp2_with fail
  refine bodyPost_ret (v := setV cells rows slice least sat (.slice A2 rs.length c2)) (by simp [results, Tryd.results12, go_sem, *]) rfl ⟨⟨_, rfl, ?_⟩, ?_⟩
  · have hx : ∀ b, (Value.slice A2 rs.length c2).ownBlock = some b → b ≠ w.heap.size + 1 := fun b hb => by have := hlt2 b hb; omega
    have hy : ∀ b, (Value.slice A2 rs.length c2).ownBlock = some b → b ≠ w.heap.size + 1 + 1 := fun b hb => by have := hlt2 b hb; omega
    unfold OS at ho2 ⊢
    refine own_other ?_ hx _
    refine own_other ?_ hx _
    refine own_other ?_ hx _
    refine own_other ?_ hx _
    refine own_other ?_ hx _
    refine own_other ?_ hx _
    refine own_other ?_ hy _
    exact ho2
  · have s1 : w.heap.size ≤ w.heap.size + 1 := by omega
    have s2 : w.heap.size ≤ w.heap.size + 1 + 1 := by omega
    refine Below.setCell ?_ s1 _
    refine Below.setCell ?_ s1 _
    refine Below.setCell ?_ s1 _
    refine Below.setCell ?_ s1 _
    refine Below.setCell ?_ s1 _
    refine Below.setCell ?_ s1 _
    refine Below.setCell ?_ s2 _
    exact hb2

set_option maxHeartbeats 1000000 in
theorem eqSet_any (cells rows : Int) (s1 l1 t1 s2 l2 t2 : Nat) (A B : Option Addr) (c d : Nat) (rs : List ByteArray) (w : World) (h : Rd w A (rs.map st)) (h' : Rd w B (rs.map st)) (hn : rs.length ≤ maxLen) (e1 : cn .f32 s1 = cn .f32 s2) (e2 : cn .f32 l1 = cn .f32 l2) (e3 : cn .f32 t1 = cn .f32 t2) :
    Calls Tryd.prog 14 #[setV cells rows s1 l1 t1 (.slice A rs.length c), setV cells rows s2 l2 t2 (.slice B rs.length d)] w fun e w' => e = .returned (.bool true) ∧ Ext w w' := by
  have x1 := widen_run s1
  have x2 := widen_run l1
  have x3 := widen_run t1
  have x4 := widen_run s2
  have x5 := widen_run l2
  have x6 := widen_run t2
  have HL := Lib.hid hn
  unfold maxLen at hn
  have E1 := Lib.hid e1
  have E2 := Lib.hid e2
  have E3 := Lib.hid e3
  clear e1 e2 e3
  go_enter Tryd.func14, Tryd.ntmps14
  go_wp2_with (first | (go_at_call 47; refine (sameFloat_any _ _ (by first | (rw [cn_widened, cn_widened, E1.out]; done) | (rw [cn_widened, cn_widened, E2.out]; done) | (rw [cn_widened, cn_widened, E3.out]; done)) _).mono ?_; rintro e w1 ⟨rfl, n, rfl⟩) | (go_at_call 28; refine (eqS_any _ _ _ _ rs _ (h.ext (((Ext.refl _).alloc _ |>.alloc _).trans (Ext.drewN _ _))) (h'.ext (((Ext.refl _).alloc _ |>.alloc _).trans (Ext.drewN _ _))) HL.out).mono ?_; rintro e w1 ⟨rfl, n, rfl⟩))
  go_ret
  exact ⟨rfl, (((Ext.refl _).alloc _).alloc _).trans (Ext.drewN _ _)⟩
end Go.Proofs.YtfmghfghhipmhaaDoor
end
section
namespace Go.Proofs.YtfmghfghhipmhaaDoor
open Go.RowKit Go.Fx
set_option linter.unusedVariables false
set_option linter.unusedSimpArgs false
/-- what 'NewSet' hands back -/
def newSet (cells rows : Int) : Value := if setOk cells rows 3250585600 1040187392 1065353216 0 = true then setV cells rows 3250585600 1040187392 1065353216 (.slice none 0 0) else setV 0 0 0 0 0 (.slice none 0 0)
set_option maxRecDepth 100000 in
set_option maxHeartbeats 1000000 in
theorem iNewSet_any (cells rows : Int) (w : World) :
    Calls Tryd.prog 39 #[.int .i64 cells, .int .i64 rows] w fun e w' => e = .returned (.tuple #[newSet cells rows, .bool (setOk cells rows 3250585600 1040187392 1065353216 0)]) ∧ Ext w w' := by
  cases hok : setOk cells rows 3250585600 1040187392 1065353216 0
  · have HN : Hid (newSet cells rows = setV 0 0 0 0 0 (.slice none 0 0)) := Lib.hid (by unfold newSet; rw [hok]; rfl)
    go_enter Tryd.func39, Tryd.ntmps39
    go_wp2_with fail
    refine (iSetOk_any _ _ _ _ _ _ _ _ (by omega) _).mono ?_
    rintro e w1 ⟨rfl, hb1⟩
    rw [hok]
    have k1 : w1.heap[w.heap.size]? = some (.cells #[.int .i64 0, .int .i64 0, .float .f32 0, .float .f32 0, .float .f32 0, .slice none 0 0] 28 (0, 0)) := blk_ext (blk_alloc (heap_alloc_new _ _)) hb1
    obtain ⟨ac0, ac1, ac2, ac3, ac4, ac5, af⟩ := blk6 k1
    have hb2 : Ext w w1 := Ext.trans (((Ext.refl _).alloc _).alloc _) hb1
    go_wp2_with fail
    refine bodyPost_ret (v := .tuple #[setV 0 0 0 0 0 (.slice none 0 0), .bool false]) (by simp [results, Tryd.results39, go_sem, *]) rfl ⟨by rw [HN.out], ?_⟩
    have s1 : w.heap.size ≤ w.heap.size := Nat.le_refl _
    refine Below.setCell ?_ s1 _
    refine Below.setCell ?_ s1 _
    refine Below.setCell ?_ s1 _
    refine Below.setCell ?_ s1 _
    refine Below.setCell ?_ s1 _
    refine Below.setCell ?_ s1 _
    exact hb2
  · have HN : Hid (newSet cells rows = setV cells rows 3250585600 1040187392 1065353216 (.slice none 0 0)) := Lib.hid (by unfold newSet; rw [hok]; rfl)
    go_enter Tryd.func39, Tryd.ntmps39
    go_wp2_with fail
    refine (iSetOk_any _ _ _ _ _ _ _ _ (by omega) _).mono ?_
    rintro e w1 ⟨rfl, hb1⟩
    rw [hok]
    have k1 : w1.heap[w.heap.size]? = some (.cells #[.int .i64 0, .int .i64 0, .float .f32 0, .float .f32 0, .float .f32 0, .slice none 0 0] 28 (0, 0)) := blk_ext (blk_alloc (heap_alloc_new _ _)) hb1
    have k2 : w1.heap[w.heap.size + 1]? = some (.cells #[.int .i64 cells, .int .i64 rows, .float .f32 3250585600, .float .f32 1040187392, .float .f32 1065353216, .slice none 0 0] 28 (0, 0)) := blk_ext (by rw [show w.heap.size + 1 = (w.alloc _).heap.size by simp]; exact heap_alloc_new _ _) hb1
    obtain ⟨ac0, ac1, ac2, ac3, ac4, ac5, af⟩ := blk6 k1
    obtain ⟨bc0, bc1, bc2, bc3, bc4, bc5, bf⟩ := blk6 k2
    have hb2 : Ext w w1 := Ext.trans (((Ext.refl _).alloc _).alloc _) hb1
    go_wp2_with fail
    refine bodyPost_ret (v := .tuple #[setV cells rows 3250585600 1040187392 1065353216 (.slice none 0 0), .bool true]) (by simp [results, Tryd.results39, go_sem, *]) rfl ⟨by rw [HN.out], ?_⟩
    have s1 : w.heap.size ≤ w.heap.size := Nat.le_refl _
    refine Below.setCell ?_ s1 _
    refine Below.setCell ?_ s1 _
    refine Below.setCell ?_ s1 _
    refine Below.setCell ?_ s1 _
    refine Below.setCell ?_ s1 _
    refine Below.setCell ?_ s1 _
    exact hb2
set_option maxRecDepth 100000 in
set_option maxHeartbeats 1000000 in
theorem sNewSet_any (cells rows : Int) (w : World) :
    Calls Tryd.prog 49 #[.int .i64 cells, .int .i64 rows] w fun e w' => e = .returned (.tuple #[newSet cells rows, .bool (setOk cells rows 3250585600 1040187392 1065353216 0)]) ∧ Ext w w' := by
  cases hok : setOk cells rows 3250585600 1040187392 1065353216 0
  · have HN : Hid (newSet cells rows = setV 0 0 0 0 0 (.slice none 0 0)) := Lib.hid (by unfold newSet; rw [hok]; rfl)
    go_enter Tryd.func49, Tryd.ntmps49
    go_wp2_with fail
    refine (sSetOk_any _ _ _ _ _ _ _ _ (by omega) _).mono ?_
    rintro e w1 ⟨rfl, hb1⟩
    rw [hok]
    have k1 : w1.heap[w.heap.size]? = some (.cells #[.int .i64 0, .int .i64 0, .float .f32 0, .float .f32 0, .float .f32 0, .slice none 0 0] 28 (0, 0)) := blk_ext (blk_alloc (heap_alloc_new _ _)) hb1
    obtain ⟨ac0, ac1, ac2, ac3, ac4, ac5, af⟩ := blk6 k1
    have hb2 : Ext w w1 := Ext.trans (((Ext.refl _).alloc _).alloc _) hb1
    go_wp2_with fail
    refine bodyPost_ret (v := .tuple #[setV 0 0 0 0 0 (.slice none 0 0), .bool false]) (by simp [results, Tryd.results49, go_sem, *]) rfl ⟨by rw [HN.out], ?_⟩
    have s1 : w.heap.size ≤ w.heap.size := Nat.le_refl _
    refine Below.setCell ?_ s1 _
    refine Below.setCell ?_ s1 _
    refine Below.setCell ?_ s1 _
    refine Below.setCell ?_ s1 _
    refine Below.setCell ?_ s1 _
    refine Below.setCell ?_ s1 _
    exact hb2
  · have HN : Hid (newSet cells rows = setV cells rows 3250585600 1040187392 1065353216 (.slice none 0 0)) := Lib.hid (by unfold newSet; rw [hok]; rfl)
    go_enter Tryd.func49, Tryd.ntmps49
    go_wp2_with fail
    refine (sSetOk_any _ _ _ _ _ _ _ _ (by omega) _).mono ?_
    rintro e w1 ⟨rfl, hb1⟩
    rw [hok]
    have k1 : w1.heap[w.heap.size]? = some (.cells #[.int .i64 0, .int .i64 0, .float .f32 0, .float .f32 0, .float .f32 0, .slice none 0 0] 28 (0, 0)) := blk_ext (blk_alloc (heap_alloc_new _ _)) hb1
    have k2 : w1.heap[w.heap.size + 1]? = some (.cells #[.int .i64 cells, .int .i64 rows, .float .f32 3250585600, .float .f32 1040187392, .float .f32 1065353216, .slice none 0 0] 28 (0, 0)) := blk_ext (by rw [show w.heap.size + 1 = (w.alloc _).heap.size by simp]; exact heap_alloc_new _ _) hb1
    obtain ⟨ac0, ac1, ac2, ac3, ac4, ac5, af⟩ := blk6 k1
    obtain ⟨bc0, bc1, bc2, bc3, bc4, bc5, bf⟩ := blk6 k2
    have hb2 : Ext w w1 := Ext.trans (((Ext.refl _).alloc _).alloc _) hb1
    go_wp2_with fail
    refine bodyPost_ret (v := .tuple #[setV cells rows 3250585600 1040187392 1065353216 (.slice none 0 0), .bool true]) (by simp [results, Tryd.results49, go_sem, *]) rfl ⟨by rw [HN.out], ?_⟩
    have s1 : w.heap.size ≤ w.heap.size := Nat.le_refl _
    refine Below.setCell ?_ s1 _
    refine Below.setCell ?_ s1 _
    refine Below.setCell ?_ s1 _
    refine Below.setCell ?_ s1 _
    refine Below.setCell ?_ s1 _
    refine Below.setCell ?_ s1 _
    exact hb2
end Go.Proofs.YtfmghfghhipmhaaDoor
end

import Derived.Test.YtiddaabodkglmaaEt
import Derived.Test.YtiddaabodkglmaaK4
import Derived.Test.YtiddaabodkglmaaEe
import Derived.Laws.CopyOwn
import Derived.Deep.CutRange
namespace Go.Fx
open Go.RowKit
set_option linter.unusedSimpArgs false
section
variable {P : Program} {w : World}
/-- a copy of elements of any size -/
theorem run_copy_sized (dT sT ty elem : TypeId) (g o dLen dCap : Nat) (a : Addr) (sLen sCap : Nat) (cur : Array Value) (t : TypeId) (cs : List Value) (size n : Nat)
    (hu : P.underlying dT = some (.slice elem)) (hs : (P.info? elem).map (·.size) = some size)
    (hg : w.heap[g]? = some (.cells cur t (0, 0))) (hn : n = Nat.min sLen dLen) (hcl : cs.length = n * size)
    (hsrc : ∀ j v, cs[j]? = some v → w.cell? (a.add j) = some v) (hfit : o + cs.length ≤ cur.size) (h1 : ∀ v ∈ cs, v.oneCell' = true) :
    (Builtin.copy_ #[dT, sT] ty #[.slice (some ⟨g, o, none⟩) dLen dCap, .slice (some a) sLen sCap]).run P w =
      .ok (goInt n) (w.setRow g (cur.toList.take o ++ cs ++ cur.toList.drop (o + cs.length)).toArray) := by
  have hl := run_loadCells_list (P := P) w a cs hsrc
  have hst := run_storeCells_at P g o t cs 0 cur w hg (by simpa using hfit) h1
  cases hq : P.info? elem with
  | none => simp [hq] at hs
  | some i =>
    have hi : i.size = size := by simpa [hq] using hs
    rw [hcl] at hl
    simp [Builtin.copy_, run_underlying hu, Builtin.lenOf, Builtin.firstCells, sizeOf, typeInfo, hq, hi, ← hn, hl, hst]
theorem wpList_copy_sized {ops : Array Oper} {rest : List Oper} {o : Oper} {a : Act} {Q : Exit → Act → World → Prop} (hgd : o.guard = none) (d s : Operand) (dT sT : TypeId)
    (ho : o.op = .call { callee := .builtin .copy, args := #[d, s], argTypes := #[dT, sT] }) (elem : TypeId) (size n : Nat) (hu : P.underlying dT = some (.slice elem)) (hsz : (P.info? elem).map (·.size) = some size)
    (g off : Nat) (ad : Addr) (dLen dCap sLen sCap : Nat) (hd : a.eval d = .slice (some ⟨g, off, none⟩) dLen dCap) (hs : a.eval s = .slice (some ad) sLen sCap)
    (cur : List Value) (t : TypeId) (hg : w.heap[g]? = some (.cells cur.toArray t (0, 0))) (cs : List Value) (hn : n = Nat.min sLen dLen) (hcl : cs.length = n * size)
    (hsrc : ∀ j v, cs[j]? = some v → w.cell? (ad.add j) = some v) (hfit : off + cs.length ≤ cur.length) (h1 : ∀ v ∈ cs, v.oneCell' = true) (B : Nat) (w0 : World) (hb : Below B w0 w) (hBg : B ≤ g)
    (h : ∀ w', Hid (w'.heap[g]? = some (.cells (splice cur off cs).toArray t (0, 0))) → Below B w0 w' → wpList P ops Q rest (a.put o.dst (goInt n)) w') :
    wpList P ops Q (o :: rest) a w := by
  refine wpList_plain hgd fun K hK => ?_
  have hrun := run_copy_sized (P := P) (w := w) dT sT o.type elem g off dLen dCap ad sLen sCap cur.toArray t cs size n hu hsz hg hn hcl hsrc (by simpa using hfit) h1
  unfold Oper.wp
  simp [execOp, ho, resolve, invoke, builtin, hd, hs, hrun, Result.andThen]
  exact hK _ _ (h _ (show _ = _ by simpa [splice] using setRow_heap w g _ _ t _ hg) (below_setRow hb hBg _))
theorem step_copy_sized {ops : Array Oper} {o : Oper} {a : Act} {K : Act → World → Prop} {Q : Exit → Act → World → Prop} {E : Prop} (hgd : o.guard = none) (d s : Operand) (dT sT : TypeId)
    (ho : o.op = .call { callee := .builtin .copy, args := #[d, s], argTypes := #[dT, sT] }) (elem : TypeId) (size n : Nat) (hu : P.underlying dT = some (.slice elem)) (hsz : (P.info? elem).map (·.size) = some size)
    (g off : Nat) (ad : Addr) (dLen dCap sLen sCap : Nat) (hd : a.eval d = .slice (some ⟨g, off, none⟩) dLen dCap) (hs : a.eval s = .slice (some ad) sLen sCap)
    (cur : List Value) (t : TypeId) (hg : w.heap[g]? = some (.cells cur.toArray t (0, 0))) (cs : List Value) (hn : n = Nat.min sLen dLen) (hcl : cs.length = n * size)
    (hsrc : ∀ j v, cs[j]? = some v → w.cell? (ad.add j) = some v) (hfit : off + cs.length ≤ cur.length) (h1 : ∀ v ∈ cs, v.oneCell' = true) (B : Nat) (w0 : World) (hb : Below B w0 w) (hBg : B ≤ g)
    (h : ∀ w', Hid (w'.heap[g]? = some (.cells (splice cur off cs).toArray t (0, 0))) → Below B w0 w' → K (a.put o.dst (goInt n)) w') :
    if Region.wanted o (yielded ops a.tmps) = true then Oper.wp P o a w K Q else E := by
  have hw : Region.wanted o (yielded ops a.tmps) = true := by simp [Region.wanted, hgd]
  rw [if_pos hw]
  have hrun := run_copy_sized (P := P) (w := w) dT sT o.type elem g off dLen dCap ad sLen sCap cur.toArray t cs size n hu hsz hg hn hcl hsrc (by simpa using hfit) h1
  unfold Oper.wp
  simp [execOp, ho, resolve, invoke, builtin, hd, hs, hrun, Result.andThen]
  exact h _ (show _ = _ by simpa [splice] using setRow_heap w g _ _ t _ hg) (below_setRow hb hBg _)
/-- append(nil, make([]T, n)...) -/
theorem run_append_zeros (t u ty e : TypeId) (i : TypeInfo) (z : Value) (ht : P.underlying t = some (.slice e)) (hu : P.underlying u = some (.int .i64)) (hi : P.info? e = some i) (hz : i.zero = some z) (hsz : i.size ≠ 0)
    (n : Nat) (h0 : 0 < n) (h63 : (n : Int) ≤ 1048576) (h48 : n * i.bytes ≤ 281474976710656) :
    (Builtin.append_ #[t, u] ty #[.slice none 0 0, .int .i64 n]).run P w =
      .ok (.slice (some ⟨w.heap.size, 0, none⟩) n (grownCap w n 0 e)) (w.drew.alloc (.cells (Builtin.zeroCells z.cells n ++ Builtin.zeroCells z.cells (grownCap w n 0 e - n)) e)) := by
  have hn : n ≠ 0 := by omega
  have h63' : ¬ (9223372036854775807 < (n : Int)) := by omega
  have h48' : ¬ (281474976710656 < Builtin.nextslicecap n 0 * i.bytes) := by rw [nextslicecap_zero h0]; omega
  have h48i : ¬ (281474976710656 < (n : Int) * (i.bytes : Int)) := by
    have : (n : Int) * (i.bytes : Int) = ((n * i.bytes : Nat) : Int) := by rw [Int.natCast_mul]
    omega
  have wl : IntKind.i64.wrap (n : Int) = n := by rw [IntKind.wrap_i64]; omega
  have hneg : ¬ ((n : Int) < 0) := by omega
  simp [Builtin.append_, run_underlying ht, run_underlying hu, sizeOf, typeInfo, zeroValue, hi, hz, hsz, asInt, asIntOf, wl, hneg, h48i, Builtin.lenOf, hn, h63', h48', Question.forced, run_firstCells_none, newRow, grownCap]
  intro h; exact absurd h (Nat.mul_ne_zero hn hsz)
end
def rep8 (a : Value) (k : Nat) : List Value := List.replicate k a ++ List.replicate (8 - k) (fl 0)
theorem rep8_start : (madeCells (Value.float .f32 0).cells 8) = (rep8 (fl 0) 0).toArray := by
  apply Array.ext'
  simp only [madeCells, Array.toList_map, Array.toList_range]
  rfl
theorem rep8_splice (a : Value) {k : Nat} (hk : k = 1 ∨ k = 2 ∨ k = 4) : splice (rep8 a k) k (List.replicate k a) = rep8 a (2 * k) := by
  rcases hk with rfl | rfl | rfl <;> rfl
theorem rep8_first (a : Value) : splice (rep8 (fl 0) 0) 0 [a] = rep8 a 1 := by rfl
theorem rep8_at (a : Value) {k j : Nat} {v : Value} (h : (List.replicate k a)[j]? = some v) : (rep8 a k).toArray[j]? = some v := by
  rw [List.getElem?_toArray]
  unfold rep8
  have hj : j < (List.replicate k a).length := (List.getElem?_eq_some_iff.1 h).1
  rw [List.getElem?_append_left hj]; exact h
abbrev zc1 : Value := .float .f32 0
abbrev zc2 : Value := .complex .f32 0 0
def rep4 (y c : Value) (k : Nat) : List Value := (List.replicate k [y, c]).flatten ++ (List.replicate (4 - k) [zc1, zc2]).flatten
theorem rep4_start : (madeCells (Value.agg #[zc1, zc2]).cells 8) = (rep4 zc1 zc2 0).toArray := by
  apply Array.ext'
  simp only [madeCells, Array.toList_map, Array.toList_range]
  rfl
theorem rep4_splice (y c : Value) {k : Nat} (hk : k = 1 ∨ k = 2) : splice (rep4 y c k) (2 * k) (List.replicate k [y, c]).flatten = rep4 y c (2 * k) := by
  rcases hk with rfl | rfl <;> rfl
theorem rep4_first (y c : Value) : splice (rep4 zc1 zc2 0) 0 [y, c] = rep4 y c 1 := by rfl
theorem rep4_at (y c : Value) {k j : Nat} {v : Value} (h : ((List.replicate k [y, c]).flatten)[j]? = some v) : (rep4 y c k).toArray[j]? = some v := by
  rw [List.getElem?_toArray]
  unfold rep4
  have hj : j < ((List.replicate k [y, c]).flatten).length := (List.getElem?_eq_some_iff.1 h).1
  rw [List.getElem?_append_left hj]; exact h
end Go.Fx
namespace Go.Proofs.Ytiddaabodkglmaa
open Go.RowKit Go.Fx
set_option linter.unusedVariables false
set_option linter.unusedSimpArgs false
set_option maxRecDepth 100000 in
set_option maxHeartbeats 4000000 in
theorem mul8_any (x n : Int) (hx : x = 1) (hn : n = 8 ∨ n = 4) (w : World) : Calls Try.prog 230 #[.int .u64 x, .int .u64 n] w fun e w' => e = .returned (.tuple #[.int .u64 0, .int .u64 n]) ∧ w = w' := by
  subst hx
  rcases hn with rfl | rfl <;> (
    go_enter Try.func230, Try.ntmps230
    go_wp2
    go_ret2
    exact ⟨rfl, rfl⟩)
theorem repeatF_step1 (x : Nat) {P : Program} (hu : P.underlying 22 = some (.slice 29)) (hsz : (P.info? 29).map (·.size) = some 1) (g : Nat) (w0 : World) (hg0 : w0.heap.size ≤ g) (W : World) (hb : Ext w0 W) (hg : W.heap[g]? = some (.cells (rep8 (fl x) 1).toArray 29 (0, 0))) :
    ∃ w1, (∀ ty, (Builtin.copy_ #[22, 22] ty #[.slice (some ⟨g, 1, none⟩) 7 7, .slice (some ⟨g, 0, none⟩) 1 8]).run P W = .ok (.int .i64 1) w1) ∧ Hid (w1.heap[g]? = some (.cells (rep8 (fl x) 2).toArray 29 (0, 0))) ∧ Ext w0 w1 := by
  refine ⟨W.setRow g (rep8 (fl x) 2).toArray, fun ty => ?_, ?_, below_setRow hb hg0 _⟩
  · have h := run_copy_sized (P := P) (w := W) 22 22 ty 29 g 1 7 7 ⟨g, 0, none⟩ 1 8 (rep8 (fl x) 1).toArray 29 (List.replicate 1 (fl x)) 1 1 hu hsz hg rfl rfl (fun j v hv => ?_) (by simp [rep8]) (fun v hv => ?_)
    · exact h
    · rw [show (⟨g, 0, none⟩ : Addr).add j = ⟨g, j, none⟩ by unfold Addr.add; split <;> simp_all]
      exact blk_cell hg (rep8_at _ hv)
    · simp at hv
      subst hv; rfl
  · exact setRow_heap W g _ _ 29 _ hg
theorem repeatF_step2 (x : Nat) {P : Program} (hu : P.underlying 22 = some (.slice 29)) (hsz : (P.info? 29).map (·.size) = some 1) (g : Nat) (w0 : World) (hg0 : w0.heap.size ≤ g) (W : World) (hb : Ext w0 W) (hg : W.heap[g]? = some (.cells (rep8 (fl x) 2).toArray 29 (0, 0))) :
    ∃ w1, (∀ ty, (Builtin.copy_ #[22, 22] ty #[.slice (some ⟨g, 2, none⟩) 6 6, .slice (some ⟨g, 0, none⟩) 2 8]).run P W = .ok (.int .i64 2) w1) ∧ Hid (w1.heap[g]? = some (.cells (rep8 (fl x) 4).toArray 29 (0, 0))) ∧ Ext w0 w1 := by
  refine ⟨W.setRow g (rep8 (fl x) 4).toArray, fun ty => ?_, ?_, below_setRow hb hg0 _⟩
  · have h := run_copy_sized (P := P) (w := W) 22 22 ty 29 g 2 6 6 ⟨g, 0, none⟩ 2 8 (rep8 (fl x) 2).toArray 29 (List.replicate 2 (fl x)) 1 2 hu hsz hg rfl rfl (fun j v hv => ?_) (by simp [rep8]) (fun v hv => ?_)
    · exact h
    · rw [show (⟨g, 0, none⟩ : Addr).add j = ⟨g, j, none⟩ by unfold Addr.add; split <;> simp_all]
      exact blk_cell hg (rep8_at _ hv)
    · simp at hv
      obtain ⟨-, rfl⟩ := hv; rfl
  · exact setRow_heap W g _ _ 29 _ hg
theorem repeatF_step4 (x : Nat) {P : Program} (hu : P.underlying 22 = some (.slice 29)) (hsz : (P.info? 29).map (·.size) = some 1) (g : Nat) (w0 : World) (hg0 : w0.heap.size ≤ g) (W : World) (hb : Ext w0 W) (hg : W.heap[g]? = some (.cells (rep8 (fl x) 4).toArray 29 (0, 0))) :
    ∃ w1, (∀ ty, (Builtin.copy_ #[22, 22] ty #[.slice (some ⟨g, 4, none⟩) 4 4, .slice (some ⟨g, 0, none⟩) 4 8]).run P W = .ok (.int .i64 4) w1) ∧ Hid (w1.heap[g]? = some (.cells (rep8 (fl x) 8).toArray 29 (0, 0))) ∧ Ext w0 w1 := by
  refine ⟨W.setRow g (rep8 (fl x) 8).toArray, fun ty => ?_, ?_, below_setRow hb hg0 _⟩
  · have h := run_copy_sized (P := P) (w := W) 22 22 ty 29 g 4 4 4 ⟨g, 0, none⟩ 4 8 (rep8 (fl x) 4).toArray 29 (List.replicate 4 (fl x)) 1 4 hu hsz hg rfl rfl (fun j v hv => ?_) (by simp [rep8]) (fun v hv => ?_)
    · exact h
    · rw [show (⟨g, 0, none⟩ : Addr).add j = ⟨g, j, none⟩ by unfold Addr.add; split <;> simp_all]
      exact blk_cell hg (rep8_at _ hv)
    · simp at hv
      obtain ⟨-, rfl⟩ := hv; rfl
  · exact setRow_heap W g _ _ 29 _ hg
set_option maxRecDepth 100000 in
set_option maxHeartbeats 1000000 in
theorem repeatF_any (A : Option Addr) (c : Nat) (a : Nat) (w : World) (h : Rd w A [fl a]) :
    Calls Try.prog 192 #[.slice A 1 c, .int .i64 8] w fun e w' => (∃ v, e = .returned v ∧ OF w' w.heap.size v (List.replicate 8 a)) ∧ Ext w w' := by
  obtain ⟨i0, hi, hz0, hz1, hz2⟩ := info_parts info_f32
  have hmk : ∀ W, (Instr.makeSlice 22 (.int .i64 8) (.int .i64 8)).run Try.prog W = .ok (.slice (some ⟨W.heap.size, 0, none⟩) 8 8) (W.alloc (.cells (rep8 (fl 0) 0).toArray 29)) := fun W => by
    have := run_make (P := Try.prog) W 22 29 i0 _ Try.underlying22 hi hz0 .i64 .i64 8 8 (by omega) (by omega) (by rw [hz2]; omega) (by omega)
    rw [hz1] at this
    rw [← rep8_start]
    exact this
  rcases h with h | ⟨b, off, rfl, hbw, hc⟩
  · cases h
  have HC : Hid (∀ W, Ext w W → ∀ j v, ([fl a] : List Value)[j]? = some v → W.cell? ((⟨b, off, none⟩ : Addr).add j) = some v) := Lib.hid (fun W hW j v hv => by
    have e1 : (⟨b, off, none⟩ : Addr).add j = ⟨b, off + j, none⟩ := by unfold Addr.add; split <;> simp_all
    rw [e1]
    have hr : Rd W (some ⟨b, off, none⟩) [fl a] := Rd.ext (.inr ⟨b, off, rfl, hbw, hc⟩) hW
    rcases hr with hr | ⟨b2, off2, he, -, hc2⟩
    · cases hr
    · cases he; exact hc2 j v hv)
  clear hc hi hz0 hz1 hz2
  go_enter Try.func192, Try.ntmps192
  go_wp2_with fail
  refine (mul8_any _ _ rfl (.inl rfl) _).mono ?_
  rintro e w1 ⟨rfl, rfl⟩
  have hal : Ext w (w.alloc (.cells (rep8 (fl 0) 0).toArray 29)) := (Ext.refl _).alloc _
  have hblk := heap_alloc_new w (.cells (rep8 (fl 0) 0).toArray 29)
  go_wp2_with (refine wpList_copy_sized rfl (.tmp 31) (.tmp 32) 22 22 rfl 29 1 1 Try.underlying22 (by kernel_rfl) w.heap.size 0 ⟨b, off, none⟩ 8 8 1 c rfl rfl (rep8 (fl 0) 0) 29 hblk [fl a] rfl rfl (HC.out _ hal) (by simp [rep8]) (by intro v hv; simp at hv; rcases hv with rfl <;> rfl) w.heap.size w hal (Nat.le_refl _) ?_; intro w2 HG2 hB2)
  rw [rep8_first] at HG2
  clear hal hblk HC hmk
  go_loopw [8] (fun n wr => ∃ (k : Nat), (k = 1 ∨ k = 2 ∨ k = 4 ∨ k = 8) ∧ n = .int .i64 k ∧ Hid (wr.heap[w.heap.size]? = some (.cells (rep8 (fl a) k).toArray 29 (0, 0))) ∧ Ext w wr) (fun n _ => 8 - (intOf n).toNat)
  case atStart => exact ⟨1, .inl rfl, rfl, HG2, hB2⟩
  case round =>
    obtain ⟨k, hk, rfl, HK, hbr⟩ := hrel
    clear HG2 hB2
    rcases hk with rfl | rfl | rfl | rfl
    · have hx : Ext wr wr.drew := by (repeat (first | exact Below.refl _ _ | assumption | refine below_drewN ?_ _ | refine Below.drew ?_ | refine Below.alloc ?_ (by first | exact Nat.le_refl _ | (simp; done) | (simp; omega)) _ | refine Below.setCell ?_ (by first | exact Nat.le_refl _ | (simp; done) | (simp; omega)) _))
      obtain ⟨w3, hcp, HG3, hB3⟩ := repeatF_step1 a Try.underlying22 (by kernel_rfl) w.heap.size w (Nat.le_refl _) wr.drew (hbr.trans hx) (blk_ext HK.out hx)
      clear hx
      go_wp2_with fail
      go_region_law (fail)
      all_goals simp only [Act.put, List.setIfInBounds_toArray, List.set_cons_succ, List.set_cons_zero]
      all_goals go_roundw
      case rel => (repeat apply Exists.intro); exact ⟨⟨2, .inr (.inl rfl), rfl, HG3, hB3⟩, rfl⟩
      case measure => simp [intOf]; decide
    · have hx : Ext wr wr.drew := by (repeat (first | exact Below.refl _ _ | assumption | refine below_drewN ?_ _ | refine Below.drew ?_ | refine Below.alloc ?_ (by first | exact Nat.le_refl _ | (simp; done) | (simp; omega)) _ | refine Below.setCell ?_ (by first | exact Nat.le_refl _ | (simp; done) | (simp; omega)) _))
      obtain ⟨w3, hcp, HG3, hB3⟩ := repeatF_step2 a Try.underlying22 (by kernel_rfl) w.heap.size w (Nat.le_refl _) wr.drew (hbr.trans hx) (blk_ext HK.out hx)
      clear hx
      go_wp2_with fail
      go_region_law (fail)
      all_goals simp only [Act.put, List.setIfInBounds_toArray, List.set_cons_succ, List.set_cons_zero]
      all_goals go_roundw
      case rel => (repeat apply Exists.intro); exact ⟨⟨4, .inr (.inr (.inl rfl)), rfl, HG3, hB3⟩, rfl⟩
      case measure => simp [intOf]; decide
    · have hx : Ext wr wr.drew := by (repeat (first | exact Below.refl _ _ | assumption | refine below_drewN ?_ _ | refine Below.drew ?_ | refine Below.alloc ?_ (by first | exact Nat.le_refl _ | (simp; done) | (simp; omega)) _ | refine Below.setCell ?_ (by first | exact Nat.le_refl _ | (simp; done) | (simp; omega)) _))
      obtain ⟨w3, hcp, HG3, hB3⟩ := repeatF_step4 a Try.underlying22 (by kernel_rfl) w.heap.size w (Nat.le_refl _) wr.drew (hbr.trans hx) (blk_ext HK.out hx)
      clear hx
      go_wp2_with fail
      go_region_law (fail)
      all_goals simp only [Act.put, List.setIfInBounds_toArray, List.set_cons_succ, List.set_cons_zero]
      all_goals go_roundw
      case rel => (repeat apply Exists.intro); exact ⟨⟨8, .inr (.inr (.inr (rfl))), rfl, HG3, hB3⟩, rfl⟩
      case measure => simp [intOf]; decide
    · go_wp2_with fail
      go_ret
      refine ⟨⟨.slice (some ⟨w.heap.size, 0, none⟩) 8 8, rfl, ?_⟩, hbr⟩
      exact own_row HK.out (Nat.le_refl _) rfl (by unfold maxLen; omega)
theorem repeatC_step1 (d : Cel) {P : Program} (hu : P.underlying 43 = some (.slice 90)) (hsz : (P.info? 90).map (·.size) = some 2) (g : Nat) (w0 : World) (hg0 : w0.heap.size ≤ g) (W : World) (hb : Ext w0 W) (hg : W.heap[g]? = some (.cells (rep4 (c1 d) (c2 d) 1).toArray 90 (0, 0))) :
    ∃ w1, (∀ ty, (Builtin.copy_ #[43, 43] ty #[.slice (some ⟨g, 2, none⟩) 3 3, .slice (some ⟨g, 0, none⟩) 1 4]).run P W = .ok (.int .i64 1) w1) ∧ Hid (w1.heap[g]? = some (.cells (rep4 (c1 d) (c2 d) 2).toArray 90 (0, 0))) ∧ Ext w0 w1 := by
  refine ⟨W.setRow g (rep4 (c1 d) (c2 d) 2).toArray, fun ty => ?_, ?_, below_setRow hb hg0 _⟩
  · have h := run_copy_sized (P := P) (w := W) 43 43 ty 90 g 2 3 3 ⟨g, 0, none⟩ 1 4 (rep4 (c1 d) (c2 d) 1).toArray 90 ((List.replicate 1 [c1 d, c2 d]).flatten) 2 1 hu hsz hg rfl rfl (fun j v hv => ?_) (by simp [rep4]) (fun v hv => ?_)
    · exact h
    · rw [show (⟨g, 0, none⟩ : Addr).add j = ⟨g, j, none⟩ by unfold Addr.add; split <;> simp_all]
      exact blk_cell hg (rep4_at _ _ hv)
    · simp at hv
      first | (rcases hv with rfl | rfl <;> rfl) | (rcases hv with rfl | rfl | rfl | rfl <;> rfl)
  · exact setRow_heap W g _ _ 90 _ hg
theorem repeatC_step2 (d : Cel) {P : Program} (hu : P.underlying 43 = some (.slice 90)) (hsz : (P.info? 90).map (·.size) = some 2) (g : Nat) (w0 : World) (hg0 : w0.heap.size ≤ g) (W : World) (hb : Ext w0 W) (hg : W.heap[g]? = some (.cells (rep4 (c1 d) (c2 d) 2).toArray 90 (0, 0))) :
    ∃ w1, (∀ ty, (Builtin.copy_ #[43, 43] ty #[.slice (some ⟨g, 4, none⟩) 2 2, .slice (some ⟨g, 0, none⟩) 2 4]).run P W = .ok (.int .i64 2) w1) ∧ Hid (w1.heap[g]? = some (.cells (rep4 (c1 d) (c2 d) 4).toArray 90 (0, 0))) ∧ Ext w0 w1 := by
  refine ⟨W.setRow g (rep4 (c1 d) (c2 d) 4).toArray, fun ty => ?_, ?_, below_setRow hb hg0 _⟩
  · have h := run_copy_sized (P := P) (w := W) 43 43 ty 90 g 4 2 2 ⟨g, 0, none⟩ 2 4 (rep4 (c1 d) (c2 d) 2).toArray 90 ((List.replicate 2 [c1 d, c2 d]).flatten) 2 2 hu hsz hg rfl rfl (fun j v hv => ?_) (by simp [rep4]) (fun v hv => ?_)
    · exact h
    · rw [show (⟨g, 0, none⟩ : Addr).add j = ⟨g, j, none⟩ by unfold Addr.add; split <;> simp_all]
      exact blk_cell hg (rep4_at _ _ hv)
    · simp at hv
      first | (rcases hv with rfl | rfl <;> rfl) | (rcases hv with rfl | rfl | rfl | rfl <;> rfl)
  · exact setRow_heap W g _ _ 90 _ hg
set_option maxRecDepth 100000 in
set_option maxHeartbeats 1000000 in
theorem repeatC_any (A : Option Addr) (c : Nat) (d : Cel) (w : World) (h : Rd w A [c1 d, c2 d]) :
    Calls Try.prog 193 #[.slice A 1 c, .int .i64 4] w fun e w' => (∃ v, e = .returned v ∧ OC w' w.heap.size v (List.replicate 4 d)) ∧ Ext w w' := by
  obtain ⟨i0, hi, hz0, hz1, hz2⟩ := info_parts info_cell
  have hmk : ∀ W, (Instr.makeSlice 43 (.int .i64 4) (.int .i64 4)).run Try.prog W = .ok (.slice (some ⟨W.heap.size, 0, none⟩) 4 4) (W.alloc (.cells (rep4 zc1 zc2 0).toArray 90)) := fun W => by
    have := run_make (P := Try.prog) W 43 90 i0 _ Try.underlying43 hi hz0 .i64 .i64 4 4 (by omega) (by omega) (by rw [hz2]; omega) (by omega)
    rw [hz1] at this
    rw [← rep4_start]
    exact this
  rcases h with h | ⟨b, off, rfl, hbw, hc⟩
  · cases h
  have HC : Hid (∀ W, Ext w W → ∀ j v, ([c1 d, c2 d] : List Value)[j]? = some v → W.cell? ((⟨b, off, none⟩ : Addr).add j) = some v) := Lib.hid (fun W hW j v hv => by
    have e1 : (⟨b, off, none⟩ : Addr).add j = ⟨b, off + j, none⟩ := by unfold Addr.add; split <;> simp_all
    rw [e1]
    have hr : Rd W (some ⟨b, off, none⟩) [c1 d, c2 d] := Rd.ext (.inr ⟨b, off, rfl, hbw, hc⟩) hW
    rcases hr with hr | ⟨b2, off2, he, -, hc2⟩
    · cases hr
    · cases he; exact hc2 j v hv)
  clear hc hi hz0 hz1 hz2
  go_enter Try.func193, Try.ntmps193
  go_wp2_with fail
  refine (mul8_any _ _ rfl (.inr rfl) _).mono ?_
  rintro e w1 ⟨rfl, rfl⟩
  have hal : Ext w (w.alloc (.cells (rep4 zc1 zc2 0).toArray 90)) := (Ext.refl _).alloc _
  have hblk := heap_alloc_new w (.cells (rep4 zc1 zc2 0).toArray 90)
  go_wp2_with (refine wpList_copy_sized rfl (.tmp 31) (.tmp 32) 43 43 rfl 90 2 1 Try.underlying43 (by kernel_rfl) w.heap.size 0 ⟨b, off, none⟩ 4 4 1 c rfl rfl (rep4 zc1 zc2 0) 90 hblk [c1 d, c2 d] rfl rfl (HC.out _ hal) (by simp [rep4]) (by intro v hv; simp at hv; rcases hv with rfl | rfl <;> rfl) w.heap.size w hal (Nat.le_refl _) ?_; intro w2 HG2 hB2)
  rw [rep4_first] at HG2
  clear hal hblk HC hmk
  go_loopw [8] (fun n wr => ∃ (k : Nat), (k = 1 ∨ k = 2 ∨ k = 4) ∧ n = .int .i64 k ∧ Hid (wr.heap[w.heap.size]? = some (.cells (rep4 (c1 d) (c2 d) k).toArray 90 (0, 0))) ∧ Ext w wr) (fun n _ => 4 - (intOf n).toNat)
  case atStart => exact ⟨1, .inl rfl, rfl, HG2, hB2⟩
  case round =>
    obtain ⟨k, hk, rfl, HK, hbr⟩ := hrel
    clear HG2 hB2
    rcases hk with rfl | rfl | rfl
    · have hx : Ext wr wr.drew := by (repeat (first | exact Below.refl _ _ | assumption | refine below_drewN ?_ _ | refine Below.drew ?_ | refine Below.alloc ?_ (by first | exact Nat.le_refl _ | (simp; done) | (simp; omega)) _ | refine Below.setCell ?_ (by first | exact Nat.le_refl _ | (simp; done) | (simp; omega)) _))
      obtain ⟨w3, hcp, HG3, hB3⟩ := repeatC_step1 d Try.underlying43 (by kernel_rfl) w.heap.size w (Nat.le_refl _) wr.drew (hbr.trans hx) (blk_ext HK.out hx)
      clear hx
      go_wp2_with fail
      go_region_law (fail)
      all_goals simp only [Act.put, List.setIfInBounds_toArray, List.set_cons_succ, List.set_cons_zero]
      all_goals go_roundw
      case rel => (repeat apply Exists.intro); exact ⟨⟨2, .inr (.inl rfl), rfl, HG3, hB3⟩, rfl⟩
      case measure => simp [intOf]; decide
    · have hx : Ext wr wr.drew := by (repeat (first | exact Below.refl _ _ | assumption | refine below_drewN ?_ _ | refine Below.drew ?_ | refine Below.alloc ?_ (by first | exact Nat.le_refl _ | (simp; done) | (simp; omega)) _ | refine Below.setCell ?_ (by first | exact Nat.le_refl _ | (simp; done) | (simp; omega)) _))
      obtain ⟨w3, hcp, HG3, hB3⟩ := repeatC_step2 d Try.underlying43 (by kernel_rfl) w.heap.size w (Nat.le_refl _) wr.drew (hbr.trans hx) (blk_ext HK.out hx)
      clear hx
      go_wp2_with fail
      go_region_law (fail)
      all_goals simp only [Act.put, List.setIfInBounds_toArray, List.set_cons_succ, List.set_cons_zero]
      all_goals go_roundw
      case rel => (repeat apply Exists.intro); exact ⟨⟨4, .inr (.inr (rfl)), rfl, HG3, hB3⟩, rfl⟩
      case measure => simp [intOf]; decide
    · go_wp2_with fail
      go_ret
      refine ⟨⟨.slice (some ⟨w.heap.size, 0, none⟩) 4 4, rfl, ?_⟩, hbr⟩
      exact ⟨rfl, .inr ⟨w.heap.size, 4, _, rfl, Nat.le_refl _, HK.out, Nat.le_refl _, by unfold maxLen; omega, rfl, rfl⟩⟩
end Go.Proofs.Ytiddaabodkglmaa

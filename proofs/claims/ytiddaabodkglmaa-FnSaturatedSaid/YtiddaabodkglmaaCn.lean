import Derived.Test.YtiddaabodkglmaaK2
import Derived.Test.YtiddaabodkglmaaK1
import Derived.Laws.CopyOwn
import Derived.Laws.OwnMore
namespace Go.Fx
open Go.RowKit
theorem own_full {w : World} {base : Nat} {E : TypeId} {g n : Nat} {xs : List Value} (h : w.ownsRow base E 1 (.slice (some ⟨g, 0, none⟩) n n) n xs) : w.heap[g]? = some (.cells xs.toArray E (0, 0)) := by
  rcases h.2 with ⟨h, _⟩ | ⟨g', cap, cur, hv, hb, hg, hn, hc, hs, ht⟩
  · cases h
  · cases hv
    rw [hg]
    congr 2
    rw [← ht]
    rw [List.take_of_length_le (by simp; omega)]
theorem own_row {w : World} {base : Nat} {E : TypeId} {g n : Nat} {xs : List Value} (h : w.heap[g]? = some (.cells xs.toArray E (0, 0))) (hb : base ≤ g) (hl : xs.length = n) (hm : n ≤ maxLen) : w.ownsRow base E 1 (.slice (some ⟨g, 0, none⟩) n n) n xs :=
  ⟨by omega, .inr ⟨g, n, xs.toArray, rfl, hb, h, Nat.le_refl _, hm, by simp [hl], by simp; rw [List.take_of_length_le (by omega)]⟩⟩
/-- samples that come later -/
def delayL (rs : List Nat) (n : Nat) : List Nat := (List.range rs.length).map fun i => if n ≤ i then rs.getD (i - n) 0 else 0
theorem delayL_len (rs : List Nat) (n : Nat) : (delayL rs n).length = rs.length := by simp [delayL]
theorem delayL_at {rs : List Nat} {n k : Nat} (h : k < rs.length) : (delayL rs n)[k]'(by rw [delayL_len]; exact h) = if n ≤ k then rs.getD (k - n) 0 else 0 := by simp [delayL]
theorem delay_splice {rs : List Nat} {n : Nat} (h : n < rs.length) : splice (List.replicate rs.length (fl 0)) n ((rs.take (rs.length - n)).map fl) = (delayL rs n).map fl := by
  unfold splice
  apply List.ext_getElem
  · simp [delayL_len]; omega
  · intro i h1 h2
    rw [List.length_map, delayL_len] at h2
    rw [List.getElem_map, delayL_at h2]
    by_cases hi : i < n
    · rw [List.getElem_append_left (by simp; omega)]
      simp [show ¬ n ≤ i by omega]
    · rw [List.getElem_append_right (by simp; omega), List.getElem_append_left (by simp; omega)]
      simp only [List.length_take, List.length_replicate, List.getElem_map, List.getElem_take]
      rw [if_pos (by omega), List.getD_eq_getElem?_getD, List.getElem?_eq_getElem (by omega)]
      simp only [Option.getD_some]
      congr 2
      omega
theorem delay_none {rs : List Nat} {n : Nat} (h : rs.length ≤ n) : (delayL rs n).map fl = List.replicate rs.length (fl 0) := by
  apply List.ext_getElem
  · simp [delayL_len]
  · intro i h1 h2
    rw [List.length_map, delayL_len] at h1
    rw [List.getElem_map, delayL_at h1, if_neg (by omega)]; simp
theorem copy_cells {w : World} {b off : Nat} {rs : List Nat} {n : Nat} (h : Rd w (some ⟨b, off, none⟩) (rs.map fl)) {j : Nat} {v : Value} (hv : ((rs.take n).map fl)[j]? = some v) : w.cell? ((⟨b, off, none⟩ : Addr).add j) = some v := by
  have hv2 : (rs.map fl)[j]? = some v := by
    rw [List.map_take, List.getElem?_take] at hv
    split at hv
    · exact hv
    · cases hv
  rcases h with h | ⟨b', off', hA, _, hc⟩
  · rw [h] at hv2; simp at hv2
  · cases hA
    have := hc j v hv2
    unfold Addr.add
    by_cases hj : j = 0
    · subst hj; simpa using this
    · simpa [hj] using this
theorem made_fl (n : Nat) : (madeCells (Value.float .f32 0).cells (n * 1)).toList = List.replicate n (fl 0) := by
  rw [Nat.mul_one]; exact toList_madeCells_one _ _
end Go.Fx
namespace Go.Proofs.Ytiddaabodkglmaa
open Go.RowKit Go.Fx
set_option linter.unusedVariables false
set_option linter.unusedSimpArgs false
def delayOk (cells : Int) : Bool := decide (0 ≤ cells) && decide (cells ≤ 64)
def delay (rs : List Nat) (cells : Int) : List Nat := if delayOk cells = true then delayL rs (4 * cells.toNat) else []
set_option maxRecDepth 100000 in
theorem iDelay_any (A : Option Addr) (c : Nat) (rs : List Nat) (cells : Int) (w : World) (h : Rd w A (rs.map fl)) (hA : A = none → rs.length = 0) (hn : rs.length ≤ 1048576) :
    Calls Try.prog 165 #[.slice A rs.length c, .int .i64 cells] w fun e w' => (∃ v, e = .returned (.tuple #[v, .bool (delayOk cells)]) ∧ OF w' w.heap.size v (delay rs cells)) ∧ Ext w w' := by
  obtain ⟨i0, hi, hz0, hz1, hz2⟩ := info_parts info_f32
  cases hd : delayOk cells
  · have hd2 : delay rs cells = [] := by unfold delay; rw [hd]; rfl
    rw [hd2]
    clear hd2
    unfold delayOk at hd
    go_enter Try.func165, Try.ntmps165
    go_wp2_with (go_at_call 137; refine (within_any _ _ _ _).mono ?_; rintro e w1 ⟨rfl, rfl⟩; rw [hd])
    go_ret2
    exact ⟨⟨_, rfl, World.ownsRow_nil _ _ _ _⟩, Ext.refl _⟩
  · have hd2 : delay rs cells = delayL rs (4 * cells.toNat) := by unfold delay; rw [hd]; rfl
    rw [hd2]
    clear hd2
    unfold delayOk at hd
    have hd' := hd
    simp only [Bool.and_eq_true, decide_eq_true_eq] at hd'
    obtain ⟨d1, d2⟩ := hd'
    obtain ⟨n, rfl⟩ : ∃ n : Nat, cells = n := ⟨cells.toNat, by omega⟩
    rw [Int.toNat_natCast]
    by_cases hlt : 4 * n < rs.length
    · have HS := Lib.hid (delay_splice hlt)
      obtain ⟨b, off, rfl, hbw, -⟩ := rf_at h (show 0 < rs.length by omega)
      go_enter Try.func165, Try.ntmps165
      go_wp2_with (first | (go_at_call 137; refine (within_any _ _ _ _).mono ?_; rintro e w1 ⟨rfl, rfl⟩; rw [hd]) | (at_make; refine wpList_make_full _ rfl _ _ 22 rfl w.heap.size 29 i0 _ 1 Try.underlying22 hi hz0 hz1 _ _ _ _ rs.length rfl rfl rfl rfl (by rw [hz2]; omega) (by unfold maxLen; omega) (Nat.le_refl _) ?_; intro w1 hown hg; rw [made_fl] at hown) | (refine wpList_copy_splice rfl (.tmp 22) (.tmp 23) 22 22 rfl 29 Try.underlying22 (by kernel_rfl) (some ⟨w.heap.size, 4 * n, none⟩) (some ⟨b, off, none⟩) (rs.length - 4 * n) (rs.length - 4 * n) rs.length c rfl rfl w.heap.size (4 * n) (List.replicate rs.length (fl 0)) 29 (own_full hown) ((rs.take (rs.length - 4 * n)).map fl) (by show _ = min _ _; rw [List.length_map, List.length_take]; omega) (fun _ => ⟨rfl, _, rfl, fun j v hv => copy_cells (h.ext (grown_none hg)) hv⟩) (by rw [List.length_map, List.length_take, List.length_replicate]; omega) oneCell_fl w.heap.size w (grown_none hg) (Nat.le_refl _) ?_; intro w2 HG2 hB2))
      go_ret2
      refine ⟨⟨.slice (some ⟨w.heap.size, 0, none⟩) rs.length rs.length, rfl, ?_⟩, hB2⟩
      unfold OF
      rw [delayL_len, ← HS.out]
      exact own_row HG2.out (Nat.le_refl _) (by rw [HS.out]; simp [delayL_len]) (by unfold maxLen; omega)
    · have HS := Lib.hid (delay_none (rs := rs) (n := 4 * n) (by omega))
      go_enter Try.func165, Try.ntmps165
      go_wp2_with (first | (go_at_call 137; refine (within_any _ _ _ _).mono ?_; rintro e w1 ⟨rfl, rfl⟩; rw [hd]) | (at_make; refine wpList_make_full _ rfl _ _ 22 rfl w.heap.size 29 i0 _ 1 Try.underlying22 hi hz0 hz1 _ _ _ _ rs.length rfl rfl rfl rfl (by rw [hz2]; omega) (by unfold maxLen; omega) (Nat.le_refl _) ?_; intro w1 hown hg))
      go_ret2
      refine ⟨⟨.slice (some ⟨w.heap.size, 0, none⟩) rs.length rs.length, rfl, ?_⟩, grown_none hg⟩
      unfold OF
      rw [delayL_len, HS.out, ← made_fl]
      exact hown

theorem snoc_fl {ss : List Nat} {k x : Nat} (hk : k < ss.length) (hx : x = ss[k]) : (ss.take k).map fl ++ [fl x] = (ss.take (k + 1)).map fl := by
  rw [take_snoc hk, hx, List.map_append]; rfl
set_option maxRecDepth 100000 in
set_option maxHeartbeats 1000000 in
theorem sDelay_any (A : Option Addr) (c : Nat) (rs : List Nat) (cells : Int) (w : World) (h : Rd w A (rs.map fl)) (hA : A = none → rs.length = 0) (hn : rs.length ≤ 1048576) :
    Calls Try.prog 164 #[.slice A rs.length c, .int .i64 cells] w fun e w' => (∃ v, e = .returned (.tuple #[v, .bool (delayOk cells)]) ∧ OF w' w.heap.size v (delay rs cells)) ∧ Ext w w' := by
  cases hd : delayOk cells
  · have hd2 : delay rs cells = [] := by unfold delay; rw [hd]; rfl
    rw [hd2]
    clear hd2
    unfold delayOk at hd
    go_enter Try.func164, Try.ntmps164
    go_wp2_with (go_at_call 135; refine (sIn_any _ _ _ _).mono ?_; rintro e w1 ⟨rfl, rfl⟩; rw [hd])
    go_ret2
    exact ⟨⟨_, rfl, own_new w _ _ 1 (Nat.le_refl _)⟩, by (repeat (first | exact Below.refl _ _ | assumption | refine below_drewN ?_ _ | refine Below.drew ?_ | refine Below.alloc ?_ (by first | exact Nat.le_refl _ | (simp; done) | (simp; omega)) _ | refine Below.setCell ?_ (by first | exact Nat.le_refl _ | (simp; done) | (simp; omega)) _))⟩
  · have hd2 : delay rs cells = delayL rs (4 * cells.toNat) := by unfold delay; rw [hd]; rfl
    rw [hd2]
    clear hd2
    unfold delayOk at hd
    have hd' := hd
    simp only [Bool.and_eq_true, decide_eq_true_eq] at hd'
    obtain ⟨d1, d2⟩ := hd'
    obtain ⟨n, rfl⟩ : ∃ n : Nat, cells = n := ⟨cells.toNat, by omega⟩
    rw [Int.toNat_natCast]
    go_enter Try.func164, Try.ntmps164
    go_wp2_with (go_at_call 135; refine (sIn_any _ _ _ _).mono ?_; rintro e w1 ⟨rfl, rfl⟩; rw [hd])
    go_loopw [6, 7, 8] (fun v i u wr => ∃ (k : Nat), k ≤ rs.length ∧ i = .int .i64 k ∧ wr.ownsRow w.heap.size 29 1 v k (((delayL rs (4 * n)).take k).map fl) ∧ Ext w wr) (fun _ i _ _ => rs.length - (intOf i).toNat)
    case atStart => exact ⟨0, by omega, rfl, own_new w _ _ 1 (Nat.le_refl _), (Ext.refl _).alloc _⟩
    case round =>
      obtain ⟨k, hk, rfl, ho, hb⟩ := hrel
      obtain ⟨A1, c1, rfl, -, -⟩ := own_slice ho
      by_cases hlt : k < rs.length
      · by_cases hge : 4 * n ≤ k
        · have HX : Hid (rs[k - 4 * n] = (delayL rs (4 * n))[k]'(by rw [delayL_len]; exact hlt)) := Lib.hid (by rw [delayL_at hlt, if_pos hge, List.getD_eq_getElem?_getD, List.getElem?_eq_getElem (by omega)]; rfl)
          obtain ⟨b0, off, rfl, hbw, hcell⟩ := rf_at (h.ext hb) (show k - 4 * n < rs.length by omega)
          go_wp2_with (at_builtin; refine wpList_app rfl _ _ 22 rfl w.heap.size 29 _ 1 4 Try.underlying22 info_f32 rfl (by omega) (.slice A1 k c1) k (((delayL rs (4 * n)).take k).map fl) rfl (own_ext ho (by (repeat (first | exact Below.refl _ _ | assumption | refine below_drewN ?_ _ | refine Below.drew ?_ | refine Below.alloc ?_ (by first | exact Nat.le_refl _ | (simp; done) | (simp; omega)) _ | refine Below.setCell ?_ (by first | exact Nat.le_refl _ | (simp; done) | (simp; omega)) _)))) _ 1 1 _ rfl (rd_new _ _ _ _) rfl (fun h => by cases h) (by intro u hu; simp at hu; rcases hu with rfl; rfl) (by unfold maxLen; omega) (by omega) (by have := hb.size; simp; omega) ?_; intro v1 w2 hown hg hat)
          all_goals trace_state
          go_roundw
          case rel => exact ⟨k + 1, hlt, by go_num, by rw [← snoc_fl (by rw [delayL_len]; exact hlt) HX.out]; exact hown, ext_grow (base := w.heap.size) (hb.alloc _) (own_ext ho (by (repeat (first | exact Below.refl _ _ | assumption | refine below_drewN ?_ _ | refine Below.drew ?_ | refine Below.alloc ?_ (by first | exact Nat.le_refl _ | (simp; done) | (simp; omega)) _ | refine Below.setCell ?_ (by first | exact Nat.le_refl _ | (simp; done) | (simp; omega)) _)))) (Nat.le_refl _) hg⟩
          case measure => simp [intOf]; omega
        · have HX : Hid (0 = (delayL rs (4 * n))[k]'(by rw [delayL_len]; exact hlt)) := Lib.hid (by rw [delayL_at hlt, if_neg hge])
          go_wp2_with (at_builtin; refine wpList_app rfl _ _ 22 rfl w.heap.size 29 _ 1 4 Try.underlying22 info_f32 rfl (by omega) (.slice A1 k c1) k (((delayL rs (4 * n)).take k).map fl) rfl (own_ext ho (by (repeat (first | exact Below.refl _ _ | assumption | refine below_drewN ?_ _ | refine Below.drew ?_ | refine Below.alloc ?_ (by first | exact Nat.le_refl _ | (simp; done) | (simp; omega)) _ | refine Below.setCell ?_ (by first | exact Nat.le_refl _ | (simp; done) | (simp; omega)) _)))) _ 1 1 _ rfl (rd_new _ _ _ _) rfl (fun h => by cases h) (by intro u hu; simp at hu; rcases hu with rfl; rfl) (by unfold maxLen; omega) (by omega) (by have := hb.size; simp; omega) ?_; intro v1 w2 hown hg hat)
          go_roundw
          case rel => exact ⟨k + 1, hlt, by go_num, by rw [← snoc_fl (by rw [delayL_len]; exact hlt) HX.out]; exact hown, ext_grow (base := w.heap.size) (hb.alloc _) (own_ext ho (by (repeat (first | exact Below.refl _ _ | assumption | refine below_drewN ?_ _ | refine Below.drew ?_ | refine Below.alloc ?_ (by first | exact Nat.le_refl _ | (simp; done) | (simp; omega)) _ | refine Below.setCell ?_ (by first | exact Nat.le_refl _ | (simp; done) | (simp; omega)) _)))) (Nat.le_refl _) hg⟩
          case measure => simp [intOf]; omega
      · obtain rfl : k = rs.length := by omega
        go_wp2
        go_ret2
        refine ⟨⟨.slice A1 rs.length c1, rfl, ?_⟩, hb⟩
        unfold OF
        rw [delayL_len]
        rw [List.take_of_length_le (by rw [delayL_len]; exact Nat.le_refl _)] at ho
        exact ho
end Go.Proofs.Ytiddaabodkglmaa

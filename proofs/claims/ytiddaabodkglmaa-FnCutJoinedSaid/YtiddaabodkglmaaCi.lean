import Derived.Test.YtiddaabodkglmaaK2
import Derived.Test.YtiddaabodkglmaaK1
namespace Go.Proofs.Ytiddaabodkglmaa
open Go.RowKit Go.Fx
set_option linter.unusedVariables false
set_option linter.unusedSimpArgs false

theorem info_run : (Try.prog.info? 105).map (fun i => (i.zero, i.size, i.bytes)) = some (some (.agg #[.int .i64 0, .int .i64 0]), 2, 16) := by kernel_rfl
abbrev OR (w : World) (base : Nat) (v : Value) (rs : List (Int × Int)) : Prop := w.ownsRow base 105 2 v rs.length (rcells rs)

set_option maxRecDepth 100000 in
set_option maxHeartbeats 1000000 in
theorem iLows_any (A : Option Addr) (c : Nat) (rs : List Nat) (x : Nat) (w : World) (h : Rd w A (rs.map fl)) (hn : rs.length ≤ maxLen) :
    Calls Try.prog 61 #[.slice A rs.length c, .float .f32 x] w fun e w' => (∃ v, e = .returned v ∧ OR w' w.heap.size v (lows rs x)) ∧ Ext w w' := by
  unfold maxLen at hn
  by_cases hbig : 20000 < rs.length
  · have HL : lows rs x = [] := by unfold lows; rw [if_pos hbig]
    rw [HL]
    clear HL
    go_enter Try.func61, Try.ntmps61
    go_wp2
    go_ret
    exact ⟨⟨_, rfl, World.ownsRow_nil _ _ _ _⟩, by (repeat (first | exact Below.refl _ _ | assumption | refine below_drewN ?_ _ | refine Below.drew ?_ | refine Below.alloc ?_ (by first | exact Nat.le_refl _ | (simp; done) | (simp; omega)) _ | refine Below.setCell ?_ (by first | exact Nat.le_refl _ | (simp; done) | (simp; omega)) _))⟩
  · have HL := Lib.hid (show lows rs x = lowsFrom (fun y => fle .f32 y x) 0 0 rs by unfold lows; rw [if_neg hbig])
    go_enter Try.func61, Try.ntmps61
    go_wp2
    go_loopw [5, 6, 7] (fun v m i wr => ∃ (acc : List (Int × Int)) (k m' : Nat), acc.length ≤ k ∧ k ≤ rs.length + 1 ∧ m' ≤ k ∧ i = .int .i64 k ∧ m = .int .i64 m' ∧ wr.ownsRow w.heap.size 105 2 v acc.length (rcells acc) ∧ LowsAt (fun y => fle .f32 y x) rs k m' acc (lows rs x) ∧ Ext w wr) (fun _ _ i _ => rs.length + 1 - (intOf i).toNat)
    case atStart => exact ⟨[], 0, 0, Nat.zero_le _, by omega, Nat.le_refl _, rfl, rfl, World.ownsRow_nil _ _ _ _, .inl ⟨Nat.zero_le _, HL.out⟩, by (repeat (first | exact Below.refl _ _ | assumption | refine below_drewN ?_ _ | refine Below.drew ?_ | refine Below.alloc ?_ (by first | exact Nat.le_refl _ | (simp; done) | (simp; omega)) _ | refine Below.setCell ?_ (by first | exact Nat.le_refl _ | (simp; done) | (simp; omega)) _))⟩
    case round =>
      obtain ⟨acc, k, m', hac, hk, hmk, rfl, rfl, ho, hla, hb⟩ := hrel
      by_cases hend : k = rs.length + 1
      · have hF := Lib.hid (hla.finish hend)
        subst hend
        clear hla
        go_wp2
        go_ret
        exact ⟨⟨_, rfl, by rw [hF.out]; exact ho⟩, hb⟩
      · have hLA := Lib.hid hla
        clear hla
        obtain ⟨A1, c1, rfl, -, -⟩ := own_slice ho
        by_cases hlt : k < rs.length
        · obtain ⟨b, off, rfl, hbw, hc⟩ := rf_at (h.ext hb) hlt
          cases hle : fle .f32 rs[k] x
          · by_cases h5 : 5 ≤ m'
            · have hX := Lib.hid (hLA.out.step_out hlt hle h5)
              go_wp2_with (at_builtin; refine wpList_app rfl _ _ 60 rfl w.heap.size 105 _ 2 16 Try.underlying60 info_run rfl (by omega) (.slice A1 acc.length c1) acc.length (rcells acc) rfl (own_ext ho (by (repeat (first | exact Below.refl _ _ | assumption | refine below_drewN ?_ _ | refine Below.drew ?_ | refine Below.alloc ?_ (by first | exact Nat.le_refl _ | (simp; done) | (simp; omega)) _ | refine Below.setCell ?_ (by first | exact Nat.le_refl _ | (simp; done) | (simp; omega)) _)))) _ 1 1 _ rfl (rd_new _ _ _ _) rfl (fun h => by cases h) (by intro u hu; simp at hu; rcases hu with rfl | rfl <;> rfl) (by unfold maxLen; omega) (by omega) (by have := hb.size; simp; omega) ?_; intro v1 w1 hown hg hat)
              go_roundw
              case rel => exact ⟨acc ++ [((k : Int) - m', (m' : Int))], k + 1, 0, by simp; omega, by omega, Nat.zero_le _, by go_num, rfl, by rw [rcells, snoc2]; simpa using hown, hX.out, ext_grow (base := w.heap.size) (hb.alloc _) (own_ext ho ((Ext.refl _).alloc _)) (Nat.le_refl _) hg⟩
              case measure => simp [intOf]; omega
            · have hX := Lib.hid (hLA.out.step_low hlt hle h5)
              go_wp2
              go_roundw
              case rel => exact ⟨acc, k + 1, 0, by omega, by omega, Nat.zero_le _, by go_num, rfl, ho, hX.out, by (repeat (first | exact Below.refl _ _ | assumption | refine below_drewN ?_ _ | refine Below.drew ?_ | refine Below.alloc ?_ (by first | exact Nat.le_refl _ | (simp; done) | (simp; omega)) _ | refine Below.setCell ?_ (by first | exact Nat.le_refl _ | (simp; done) | (simp; omega)) _))⟩
              case measure => simp [intOf]; omega
          · have hX := Lib.hid (hLA.out.step_in hlt hle)
            go_wp2
            go_roundw
            case rel => exact ⟨acc, k + 1, m' + 1, by omega, by omega, by omega, by go_num, by go_num, ho, hX.out, by (repeat (first | exact Below.refl _ _ | assumption | refine below_drewN ?_ _ | refine Below.drew ?_ | refine Below.alloc ?_ (by first | exact Nat.le_refl _ | (simp; done) | (simp; omega)) _ | refine Below.setCell ?_ (by first | exact Nat.le_refl _ | (simp; done) | (simp; omega)) _))⟩
            case measure => simp [intOf]; omega
        · obtain rfl : k = rs.length := by omega
          by_cases h5 : 5 ≤ m'
          · have hX := Lib.hid (hLA.out.end_out h5)
            go_wp2_with (at_builtin; refine wpList_app rfl _ _ 60 rfl w.heap.size 105 _ 2 16 Try.underlying60 info_run rfl (by omega) (.slice A1 acc.length c1) acc.length (rcells acc) rfl (own_ext ho (by (repeat (first | exact Below.refl _ _ | assumption | refine below_drewN ?_ _ | refine Below.drew ?_ | refine Below.alloc ?_ (by first | exact Nat.le_refl _ | (simp; done) | (simp; omega)) _ | refine Below.setCell ?_ (by first | exact Nat.le_refl _ | (simp; done) | (simp; omega)) _)))) _ 1 1 _ rfl (rd_new _ _ _ _) rfl (fun h => by cases h) (by intro u hu; simp at hu; rcases hu with rfl | rfl <;> rfl) (by unfold maxLen; omega) (by omega) (by have := hb.size; simp; omega) ?_; intro v1 w1 hown hg hat)
            go_roundw
            case rel => exact ⟨acc ++ [((rs.length : Int) - m', (m' : Int))], rs.length + 1, 0, by simp; omega, by omega, Nat.zero_le _, by go_num, rfl, by rw [rcells, snoc2]; simpa using hown, hX.out, ext_grow (base := w.heap.size) (hb.alloc _) (own_ext ho ((Ext.refl _).alloc _)) (Nat.le_refl _) hg⟩
            case measure => simp [intOf]
          · have hX := Lib.hid (hLA.out.end_low h5)
            go_wp2
            go_roundw
            case rel => exact ⟨acc, rs.length + 1, 0, by omega, by omega, Nat.zero_le _, by go_num, rfl, ho, hX.out, by (repeat (first | exact Below.refl _ _ | assumption | refine below_drewN ?_ _ | refine Below.drew ?_ | refine Below.alloc ?_ (by first | exact Nat.le_refl _ | (simp; done) | (simp; omega)) _ | refine Below.setCell ?_ (by first | exact Nat.le_refl _ | (simp; done) | (simp; omega)) _))⟩
            case measure => simp [intOf]

set_option maxRecDepth 100000 in
set_option maxHeartbeats 1000000 in
theorem sLows_any (A : Option Addr) (c : Nat) (rs : List Nat) (x : Nat) (w : World) (h : Rd w A (rs.map fl)) (hn : rs.length ≤ maxLen) :
    Calls Try.prog 60 #[.slice A rs.length c, .float .f32 x] w fun e w' => (∃ v, e = .returned v ∧ OR w' w.heap.size v (lows rs x)) ∧ Ext w w' := by
  unfold maxLen at hn
  by_cases hbig : 20000 < rs.length
  · have HL : lows rs x = [] := by unfold lows; rw [if_pos hbig]
    rw [HL]
    clear HL
    go_enter Try.func60, Try.ntmps60
    go_wp2
    go_ret
    exact ⟨⟨_, rfl, own_new w _ _ 2 (Nat.le_refl _)⟩, by (repeat (first | exact Below.refl _ _ | assumption | refine below_drewN ?_ _ | refine Below.drew ?_ | refine Below.alloc ?_ (by first | exact Nat.le_refl _ | (simp; done) | (simp; omega)) _ | refine Below.setCell ?_ (by first | exact Nat.le_refl _ | (simp; done) | (simp; omega)) _))⟩
  · have HL := Lib.hid (show lows rs x = lowsFrom (fun y => fle .f32 y x) 0 0 rs by unfold lows; rw [if_neg hbig])
    go_enter Try.func60, Try.ntmps60
    go_wp2
    go_loopw [5, 6, 7] (fun v m i wr => ∃ (acc : List (Int × Int)) (k m' : Nat), acc.length ≤ k ∧ k ≤ rs.length + 1 ∧ m' ≤ k ∧ i = .int .i64 k ∧ m = .int .i64 m' ∧ wr.ownsRow w.heap.size 105 2 v acc.length (rcells acc) ∧ LowsAt (fun y => fle .f32 y x) rs k m' acc (lows rs x) ∧ Ext w wr) (fun _ _ i _ => rs.length + 1 - (intOf i).toNat)
    case atStart => exact ⟨[], 0, 0, Nat.zero_le _, by omega, Nat.le_refl _, rfl, rfl, own_new w _ _ 2 (Nat.le_refl _), .inl ⟨Nat.zero_le _, HL.out⟩, by (repeat (first | exact Below.refl _ _ | assumption | refine below_drewN ?_ _ | refine Below.drew ?_ | refine Below.alloc ?_ (by first | exact Nat.le_refl _ | (simp; done) | (simp; omega)) _ | refine Below.setCell ?_ (by first | exact Nat.le_refl _ | (simp; done) | (simp; omega)) _))⟩
    case round =>
      obtain ⟨acc, k, m', hac, hk, hmk, rfl, rfl, ho, hla, hb⟩ := hrel
      by_cases hend : k = rs.length + 1
      · have hF := Lib.hid (hla.finish hend)
        subst hend
        clear hla
        go_wp2
        go_ret
        exact ⟨⟨_, rfl, by rw [hF.out]; exact ho⟩, hb⟩
      · have hLA := Lib.hid hla
        clear hla
        obtain ⟨A1, c1, rfl, -, -⟩ := own_slice ho
        by_cases hlt : k < rs.length
        · obtain ⟨b, off, rfl, hbw, hc⟩ := rf_at (h.ext hb) hlt
          cases hle : fle .f32 rs[k] x
          · by_cases h5 : 5 ≤ m'
            · have hX := Lib.hid (hLA.out.step_out hlt hle h5)
              go_wp2_with (at_builtin; refine wpList_app rfl _ _ 60 rfl w.heap.size 105 _ 2 16 Try.underlying60 info_run rfl (by omega) (.slice A1 acc.length c1) acc.length (rcells acc) rfl (own_ext ho (by (repeat (first | exact Below.refl _ _ | assumption | refine below_drewN ?_ _ | refine Below.drew ?_ | refine Below.alloc ?_ (by first | exact Nat.le_refl _ | (simp; done) | (simp; omega)) _ | refine Below.setCell ?_ (by first | exact Nat.le_refl _ | (simp; done) | (simp; omega)) _)))) _ 1 1 _ rfl (rd_new _ _ _ _) rfl (fun h => by cases h) (by intro u hu; simp at hu; rcases hu with rfl | rfl <;> rfl) (by unfold maxLen; omega) (by omega) (by have := hb.size; simp; omega) ?_; intro v1 w1 hown hg hat)
              go_roundw
              case rel => exact ⟨acc ++ [((k : Int) - m', (m' : Int))], k + 1, 0, by simp; omega, by omega, Nat.zero_le _, by go_num, rfl, by rw [rcells, snoc2]; simpa using hown, hX.out, ext_grow (base := w.heap.size) (hb.alloc _) (own_ext ho ((Ext.refl _).alloc _)) (Nat.le_refl _) hg⟩
              case measure => simp [intOf]; omega
            · have hX := Lib.hid (hLA.out.step_low hlt hle h5)
              go_wp2
              go_roundw
              case rel => exact ⟨acc, k + 1, 0, by omega, by omega, Nat.zero_le _, by go_num, rfl, ho, hX.out, by (repeat (first | exact Below.refl _ _ | assumption | refine below_drewN ?_ _ | refine Below.drew ?_ | refine Below.alloc ?_ (by first | exact Nat.le_refl _ | (simp; done) | (simp; omega)) _ | refine Below.setCell ?_ (by first | exact Nat.le_refl _ | (simp; done) | (simp; omega)) _))⟩
              case measure => simp [intOf]; omega
          · have hX := Lib.hid (hLA.out.step_in hlt hle)
            go_wp2
            go_roundw
            case rel => exact ⟨acc, k + 1, m' + 1, by omega, by omega, by omega, by go_num, by go_num, ho, hX.out, by (repeat (first | exact Below.refl _ _ | assumption | refine below_drewN ?_ _ | refine Below.drew ?_ | refine Below.alloc ?_ (by first | exact Nat.le_refl _ | (simp; done) | (simp; omega)) _ | refine Below.setCell ?_ (by first | exact Nat.le_refl _ | (simp; done) | (simp; omega)) _))⟩
            case measure => simp [intOf]; omega
        · obtain rfl : k = rs.length := by omega
          by_cases h5 : 5 ≤ m'
          · have hX := Lib.hid (hLA.out.end_out h5)
            go_wp2_with (at_builtin; refine wpList_app rfl _ _ 60 rfl w.heap.size 105 _ 2 16 Try.underlying60 info_run rfl (by omega) (.slice A1 acc.length c1) acc.length (rcells acc) rfl (own_ext ho (by (repeat (first | exact Below.refl _ _ | assumption | refine below_drewN ?_ _ | refine Below.drew ?_ | refine Below.alloc ?_ (by first | exact Nat.le_refl _ | (simp; done) | (simp; omega)) _ | refine Below.setCell ?_ (by first | exact Nat.le_refl _ | (simp; done) | (simp; omega)) _)))) _ 1 1 _ rfl (rd_new _ _ _ _) rfl (fun h => by cases h) (by intro u hu; simp at hu; rcases hu with rfl | rfl <;> rfl) (by unfold maxLen; omega) (by omega) (by have := hb.size; simp; omega) ?_; intro v1 w1 hown hg hat)
            go_roundw
            case rel => exact ⟨acc ++ [((rs.length : Int) - m', (m' : Int))], rs.length + 1, 0, by simp; omega, by omega, Nat.zero_le _, by go_num, rfl, by rw [rcells, snoc2]; simpa using hown, hX.out, ext_grow (base := w.heap.size) (hb.alloc _) (own_ext ho ((Ext.refl _).alloc _)) (Nat.le_refl _) hg⟩
            case measure => simp [intOf]
          · have hX := Lib.hid (hLA.out.end_low h5)
            go_wp2
            go_roundw
            case rel => exact ⟨acc, rs.length + 1, 0, by omega, by omega, Nat.zero_le _, by go_num, rfl, ho, hX.out, by (repeat (first | exact Below.refl _ _ | assumption | refine below_drewN ?_ _ | refine Below.drew ?_ | refine Below.alloc ?_ (by first | exact Nat.le_refl _ | (simp; done) | (simp; omega)) _ | refine Below.setCell ?_ (by first | exact Nat.le_refl _ | (simp; done) | (simp; omega)) _))⟩
            case measure => simp [intOf]
end Go.Proofs.Ytiddaabodkglmaa

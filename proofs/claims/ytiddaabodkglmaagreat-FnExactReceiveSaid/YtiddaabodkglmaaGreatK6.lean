import Derived.Test.YtiddaabodkglmaaGreatK2
import Derived.Test.YtiddaabodkglmaaGreatK1
import Derived.Test.YtiddaabodkglmaaGreatK4
section
namespace Go.Proofs.YtiddaabodkglmaaGreat
open Go.RowKit Go.Fx
set_option linter.unusedVariables false
set_option linter.unusedSimpArgs false

theorem info_run : (Tryz.prog.info? 64).map (fun i => (i.zero, i.size, i.bytes)) = some (some (.agg #[.int .i64 0, .int .i64 0]), 2, 16) := by kernel_rfl
abbrev OR (w : World) (base : Nat) (v : Value) (rs : List (Int × Int)) : Prop := w.ownsRow base 64 2 v rs.length (rcells rs)

set_option maxRecDepth 100000 in
set_option maxHeartbeats 1000000 in
theorem iLows_any (A : Option Addr) (c : Nat) (rs : List Nat) (x : Nat) (w : World) (h : Rd w A (rs.map fl)) (hn : rs.length ≤ maxLen) :
    Calls Tryz.prog 54 #[.slice A rs.length c, .float .f32 x] w fun e w' => (∃ v, e = .returned v ∧ OR w' w.heap.size v (lows rs x)) ∧ Ext w w' := by
  unfold maxLen at hn
  by_cases hbig : 20000 < rs.length
  · have HL : lows rs x = [] := by unfold lows; rw [if_pos hbig]
    rw [HL]
    clear HL
    go_enter Tryz.func54, Tryz.ntmps54
    go_wp2
    go_ret
    exact ⟨⟨_, rfl, World.ownsRow_nil _ _ _ _⟩, by (repeat (first | exact Below.refl _ _ | assumption | refine below_drewN ?_ _ | refine Below.drew ?_ | refine Below.alloc ?_ (by first | exact Nat.le_refl _ | (simp; done) | (simp; omega)) _ | refine Below.setCell ?_ (by first | exact Nat.le_refl _ | (simp; done) | (simp; omega)) _))⟩
  · have HL := Lib.hid (show lows rs x = lowsFrom (fun y => fle .f32 y x) 0 0 rs by unfold lows; rw [if_neg hbig])
    go_enter Tryz.func54, Tryz.ntmps54
    go_wp2
    go_loopw [5, 6, 7] (fun v m i wr => ∃ (acc : List (Int × Int)) (k m' : Nat), acc.length ≤ k ∧ k ≤ rs.length + 1 ∧ m' ≤ k ∧ i = .int .i64 k ∧ m = .int .i64 m' ∧ wr.ownsRow w.heap.size 64 2 v acc.length (rcells acc) ∧ LowsAt (fun y => fle .f32 y x) rs k m' acc (lows rs x) ∧ Ext w wr) (fun _ _ i _ => rs.length + 1 - (intOf i).toNat)
    case atStart => exact ⟨[], 0, 0, Nat.zero_le _, by omega, Nat.le_refl _, rfl, rfl, World.ownsRow_nil _ _ _ _, .inl ⟨Nat.zero_le _, HL.out⟩, by (repeat (first | exact Below.refl _ _ | assumption | refine below_drewN ?_ _ | refine Below.drew ?_ | refine Below.alloc ?_ (by first | exact Nat.le_refl _ | (simp; done) | (simp; omega)) _ | refine Below.setCell ?_ (by first | exact Nat.le_refl _ | (simp; done) | (simp; omega)) _))⟩
    case round =>
      obtain ⟨acc, k, m', hac, hk, hmk, rfl, rfl, ho, hla, hb⟩ := hrel
      by_cases hend : k = rs.length + 1
      · have hF := Lib.hid (hla.finish hend)
        subst hend
        clear hla
        go_wp2
        go_ret
        exact ⟨⟨_, rfl, by rw [hF.out]; exact ho⟩, hb⟩
      · have hLA := Lib.hid hla
        clear hla
        obtain ⟨A1, c1, rfl, -, -⟩ := own_slice ho
        by_cases hlt : k < rs.length
        · obtain ⟨b, off, rfl, hbw, hc⟩ := rf_at (h.ext hb) hlt
          cases hle : fle .f32 rs[k] x
          · by_cases h5 : 5 ≤ m'
            · have hX := Lib.hid (hLA.out.step_out hlt hle h5)
              go_wp2_with (at_builtin; refine wpList_app rfl _ _ 61 rfl w.heap.size 64 _ 2 16 Tryz.underlying61 info_run rfl (by omega) (.slice A1 acc.length c1) acc.length (rcells acc) rfl (own_ext ho (by (repeat (first | exact Below.refl _ _ | assumption | refine below_drewN ?_ _ | refine Below.drew ?_ | refine Below.alloc ?_ (by first | exact Nat.le_refl _ | (simp; done) | (simp; omega)) _ | refine Below.setCell ?_ (by first | exact Nat.le_refl _ | (simp; done) | (simp; omega)) _)))) _ 1 1 _ rfl (rd_new _ _ _ _) rfl (fun h => by cases h) (by intro u hu; simp at hu; rcases hu with rfl | rfl <;> rfl) (by unfold maxLen; omega) (by omega) (by have := hb.size; simp; omega) ?_; intro v1 w1 hown hg hat)
              go_roundw
              case rel => exact ⟨acc ++ [((k : Int) - m', (m' : Int))], k + 1, 0, by simp; omega, by omega, Nat.zero_le _, by go_num, rfl, by rw [rcells, snoc2]; simpa using hown, hX.out, ext_grow (base := w.heap.size) (hb.alloc _) (own_ext ho ((Ext.refl _).alloc _)) (Nat.le_refl _) hg⟩
              case measure => simp [intOf]; omega
            · have hX := Lib.hid (hLA.out.step_low hlt hle h5)
              go_wp2
              go_roundw
              case rel => exact ⟨acc, k + 1, 0, by omega, by omega, Nat.zero_le _, by go_num, rfl, ho, hX.out, by (repeat (first | exact Below.refl _ _ | assumption | refine below_drewN ?_ _ | refine Below.drew ?_ | refine Below.alloc ?_ (by first | exact Nat.le_refl _ | (simp; done) | (simp; omega)) _ | refine Below.setCell ?_ (by first | exact Nat.le_refl _ | (simp; done) | (simp; omega)) _))⟩
              case measure => simp [intOf]; omega
          · have hX := Lib.hid (hLA.out.step_in hlt hle)
            go_wp2
            go_roundw
            case rel => exact ⟨acc, k + 1, m' + 1, by omega, by omega, by omega, by go_num, by go_num, ho, hX.out, by (repeat (first | exact Below.refl _ _ | assumption | refine below_drewN ?_ _ | refine Below.drew ?_ | refine Below.alloc ?_ (by first | exact Nat.le_refl _ | (simp; done) | (simp; omega)) _ | refine Below.setCell ?_ (by first | exact Nat.le_refl _ | (simp; done) | (simp; omega)) _))⟩
            case measure => simp [intOf]; omega
        · obtain rfl : k = rs.length := by omega
          by_cases h5 : 5 ≤ m'
          · have hX := Lib.hid (hLA.out.end_out h5)
            go_wp2_with (at_builtin; refine wpList_app rfl _ _ 61 rfl w.heap.size 64 _ 2 16 Tryz.underlying61 info_run rfl (by omega) (.slice A1 acc.length c1) acc.length (rcells acc) rfl (own_ext ho (by (repeat (first | exact Below.refl _ _ | assumption | refine below_drewN ?_ _ | refine Below.drew ?_ | refine Below.alloc ?_ (by first | exact Nat.le_refl _ | (simp; done) | (simp; omega)) _ | refine Below.setCell ?_ (by first | exact Nat.le_refl _ | (simp; done) | (simp; omega)) _)))) _ 1 1 _ rfl (rd_new _ _ _ _) rfl (fun h => by cases h) (by intro u hu; simp at hu; rcases hu with rfl | rfl <;> rfl) (by unfold maxLen; omega) (by omega) (by have := hb.size; simp; omega) ?_; intro v1 w1 hown hg hat)
            go_roundw
            case rel => exact ⟨acc ++ [((rs.length : Int) - m', (m' : Int))], rs.length + 1, 0, by simp; omega, by omega, Nat.zero_le _, by go_num, rfl, by rw [rcells, snoc2]; simpa using hown, hX.out, ext_grow (base := w.heap.size) (hb.alloc _) (own_ext ho ((Ext.refl _).alloc _)) (Nat.le_refl _) hg⟩
            case measure => simp [intOf]
          · have hX := Lib.hid (hLA.out.end_low h5)
            go_wp2
            go_roundw
            case rel => exact ⟨acc, rs.length + 1, 0, by omega, by omega, Nat.zero_le _, by go_num, rfl, ho, hX.out, by (repeat (first | exact Below.refl _ _ | assumption | refine below_drewN ?_ _ | refine Below.drew ?_ | refine Below.alloc ?_ (by first | exact Nat.le_refl _ | (simp; done) | (simp; omega)) _ | refine Below.setCell ?_ (by first | exact Nat.le_refl _ | (simp; done) | (simp; omega)) _))⟩
            case measure => simp [intOf]

set_option maxRecDepth 100000 in
set_option maxHeartbeats 1000000 in
theorem sLows_any (A : Option Addr) (c : Nat) (rs : List Nat) (x : Nat) (w : World) (h : Rd w A (rs.map fl)) (hn : rs.length ≤ maxLen) :
    Calls Tryz.prog 39 #[.slice A rs.length c, .float .f32 x] w fun e w' => (∃ v, e = .returned v ∧ OR w' w.heap.size v (lows rs x)) ∧ Ext w w' := by
  unfold maxLen at hn
  by_cases hbig : 20000 < rs.length
  · have HL : lows rs x = [] := by unfold lows; rw [if_pos hbig]
    rw [HL]
    clear HL
    go_enter Tryz.func39, Tryz.ntmps39
    go_wp2
    go_ret
    exact ⟨⟨_, rfl, own_new w _ _ 2 (Nat.le_refl _)⟩, by (repeat (first | exact Below.refl _ _ | assumption | refine below_drewN ?_ _ | refine Below.drew ?_ | refine Below.alloc ?_ (by first | exact Nat.le_refl _ | (simp; done) | (simp; omega)) _ | refine Below.setCell ?_ (by first | exact Nat.le_refl _ | (simp; done) | (simp; omega)) _))⟩
  · have HL := Lib.hid (show lows rs x = lowsFrom (fun y => fle .f32 y x) 0 0 rs by unfold lows; rw [if_neg hbig])
    go_enter Tryz.func39, Tryz.ntmps39
    go_wp2
    go_loopw [5, 6, 7] (fun v m i wr => ∃ (acc : List (Int × Int)) (k m' : Nat), acc.length ≤ k ∧ k ≤ rs.length + 1 ∧ m' ≤ k ∧ i = .int .i64 k ∧ m = .int .i64 m' ∧ wr.ownsRow w.heap.size 64 2 v acc.length (rcells acc) ∧ LowsAt (fun y => fle .f32 y x) rs k m' acc (lows rs x) ∧ Ext w wr) (fun _ _ i _ => rs.length + 1 - (intOf i).toNat)
    case atStart => exact ⟨[], 0, 0, Nat.zero_le _, by omega, Nat.le_refl _, rfl, rfl, own_new w _ _ 2 (Nat.le_refl _), .inl ⟨Nat.zero_le _, HL.out⟩, by (repeat (first | exact Below.refl _ _ | assumption | refine below_drewN ?_ _ | refine Below.drew ?_ | refine Below.alloc ?_ (by first | exact Nat.le_refl _ | (simp; done) | (simp; omega)) _ | refine Below.setCell ?_ (by first | exact Nat.le_refl _ | (simp; done) | (simp; omega)) _))⟩
    case round =>
      obtain ⟨acc, k, m', hac, hk, hmk, rfl, rfl, ho, hla, hb⟩ := hrel
      by_cases hend : k = rs.length + 1
      · have hF := Lib.hid (hla.finish hend)
        subst hend
        clear hla
        go_wp2
        go_ret
        exact ⟨⟨_, rfl, by rw [hF.out]; exact ho⟩, hb⟩
      · have hLA := Lib.hid hla
        clear hla
        obtain ⟨A1, c1, rfl, -, -⟩ := own_slice ho
        by_cases hlt : k < rs.length
        · obtain ⟨b, off, rfl, hbw, hc⟩ := rf_at (h.ext hb) hlt
          cases hle : fle .f32 rs[k] x
          · by_cases h5 : 5 ≤ m'
            · have hX := Lib.hid (hLA.out.step_out hlt hle h5)
              go_wp2_with (at_builtin; refine wpList_app rfl _ _ 61 rfl w.heap.size 64 _ 2 16 Tryz.underlying61 info_run rfl (by omega) (.slice A1 acc.length c1) acc.length (rcells acc) rfl (own_ext ho (by (repeat (first | exact Below.refl _ _ | assumption | refine below_drewN ?_ _ | refine Below.drew ?_ | refine Below.alloc ?_ (by first | exact Nat.le_refl _ | (simp; done) | (simp; omega)) _ | refine Below.setCell ?_ (by first | exact Nat.le_refl _ | (simp; done) | (simp; omega)) _)))) _ 1 1 _ rfl (rd_new _ _ _ _) rfl (fun h => by cases h) (by intro u hu; simp at hu; rcases hu with rfl | rfl <;> rfl) (by unfold maxLen; omega) (by omega) (by have := hb.size; simp; omega) ?_; intro v1 w1 hown hg hat)
              go_roundw
              case rel => exact ⟨acc ++ [((k : Int) - m', (m' : Int))], k + 1, 0, by simp; omega, by omega, Nat.zero_le _, by go_num, rfl, by rw [rcells, snoc2]; simpa using hown, hX.out, ext_grow (base := w.heap.size) (hb.alloc _) (own_ext ho ((Ext.refl _).alloc _)) (Nat.le_refl _) hg⟩
              case measure => simp [intOf]; omega
            · have hX := Lib.hid (hLA.out.step_low hlt hle h5)
              go_wp2
              go_roundw
              case rel => exact ⟨acc, k + 1, 0, by omega, by omega, Nat.zero_le _, by go_num, rfl, ho, hX.out, by (repeat (first | exact Below.refl _ _ | assumption | refine below_drewN ?_ _ | refine Below.drew ?_ | refine Below.alloc ?_ (by first | exact Nat.le_refl _ | (simp; done) | (simp; omega)) _ | refine Below.setCell ?_ (by first | exact Nat.le_refl _ | (simp; done) | (simp; omega)) _))⟩
              case measure => simp [intOf]; omega
          · have hX := Lib.hid (hLA.out.step_in hlt hle)
            go_wp2
            go_roundw
            case rel => exact ⟨acc, k + 1, m' + 1, by omega, by omega, by omega, by go_num, by go_num, ho, hX.out, by (repeat (first | exact Below.refl _ _ | assumption | refine below_drewN ?_ _ | refine Below.drew ?_ | refine Below.alloc ?_ (by first | exact Nat.le_refl _ | (simp; done) | (simp; omega)) _ | refine Below.setCell ?_ (by first | exact Nat.le_refl _ | (simp; done) | (simp; omega)) _))⟩
            case measure => simp [intOf]; omega
        · obtain rfl : k = rs.length := by omega
          by_cases h5 : 5 ≤ m'
          · have hX := Lib.hid (hLA.out.end_out h5)
            go_wp2_with (at_builtin; refine wpList_app rfl _ _ 61 rfl w.heap.size 64 _ 2 16 Tryz.underlying61 info_run rfl (by omega) (.slice A1 acc.length c1) acc.length (rcells acc) rfl (own_ext ho (by (repeat (first | exact Below.refl _ _ | assumption | refine below_drewN ?_ _ | refine Below.drew ?_ | refine Below.alloc ?_ (by first | exact Nat.le_refl _ | (simp; done) | (simp; omega)) _ | refine Below.setCell ?_ (by first | exact Nat.le_refl _ | (simp; done) | (simp; omega)) _)))) _ 1 1 _ rfl (rd_new _ _ _ _) rfl (fun h => by cases h) (by intro u hu; simp at hu; rcases hu with rfl | rfl <;> rfl) (by unfold maxLen; omega) (by omega) (by have := hb.size; simp; omega) ?_; intro v1 w1 hown hg hat)
            go_roundw
            case rel => exact ⟨acc ++ [((rs.length : Int) - m', (m' : Int))], rs.length + 1, 0, by simp; omega, by omega, Nat.zero_le _, by go_num, rfl, by rw [rcells, snoc2]; simpa using hown, hX.out, ext_grow (base := w.heap.size) (hb.alloc _) (own_ext ho ((Ext.refl _).alloc _)) (Nat.le_refl _) hg⟩
            case measure => simp [intOf]
          · have hX := Lib.hid (hLA.out.end_low h5)
            go_wp2
            go_roundw
            case rel => exact ⟨acc, rs.length + 1, 0, by omega, by omega, Nat.zero_le _, by go_num, rfl, ho, hX.out, by (repeat (first | exact Below.refl _ _ | assumption | refine below_drewN ?_ _ | refine Below.drew ?_ | refine Below.alloc ?_ (by first | exact Nat.le_refl _ | (simp; done) | (simp; omega)) _ | refine Below.setCell ?_ (by first | exact Nat.le_refl _ | (simp; done) | (simp; omega)) _))⟩
            case measure => simp [intOf]
end Go.Proofs.YtiddaabodkglmaaGreat
end
section
namespace Go.Proofs.YtiddaabodkglmaaGreat
open Go.RowKit Go.Fx
set_option linter.unusedVariables false
set_option linter.unusedSimpArgs false
theorem near_any (a l p : Int) (b : Nat) (w : World) (h : w.cell? ⟨b, 0, none⟩ = some (.int .i64 p)) (hb : b < w.heap.size) (h1 : -1000000 ≤ p) (h2 : p ≤ 1000000) :
    Calls Tryz.prog 56 #[.agg #[.int .i64 a, .int .i64 l], .pointer (some ⟨b, 0, none⟩)] w fun e w' => e = .returned (.bool (near p (a, l))) ∧ Ext w w' := by
  have hne : b ≠ w.heap.size := by omega
  go_enter Tryz.func56, Tryz.ntmps56
  go_wp2_with (go_at_call 50; refine (within_any _ _ _ _).mono ?_; rintro e w1 ⟨rfl, rfl⟩)
  go_ret
  exact ⟨rfl, by (repeat (first | exact Below.refl _ _ | assumption | refine below_drewN ?_ _ | refine Below.drew ?_ | refine Below.alloc ?_ (by first | exact Nat.le_refl _ | (simp; done) | (simp; omega)) _ | refine Below.setCell ?_ (by first | exact Nat.le_refl _ | (simp; done) | (simp; omega)) _))⟩
set_option maxRecDepth 100000 in
theorem idxRun_any (A : Option Addr) (c : Nat) (rs : List (Int × Int)) (p : Int) (b : Nat) (w : World) (h : Rd w A (rcells rs)) (hn : rs.length ≤ maxLen) (hcp : w.cell? ⟨b, 0, none⟩ = some (.int .i64 p)) (hb : b < w.heap.size) (h1 : -1000000 ≤ p) (h2 : p ≤ 1000000) :
    Calls Tryz.prog 55 #[.slice A rs.length c, .func (.func 56) #[] #[.pointer (some ⟨b, 0, none⟩)]] w fun e w' => (∃ k : Int, e = .returned (.int .i64 k) ∧ ((k = -1 ∧ rs.find? (near p) = none) ∨ ∃ (i : Nat) (hi : i < rs.length), k = i ∧ rs.find? (near p) = some rs[i])) ∧ Ext w w' := by
  unfold maxLen at hn
  go_enter Tryz.func55, Tryz.ntmps55
  go_wp2
  go_loopw [8] (fun i wr => ∃ (k : Nat), k ≤ rs.length ∧ i = .int .i64 k ∧ Hid (rs.find? (near p) = (rs.drop k).find? (near p)) ∧ Ext w wr) (fun i _ => rs.length - (intOf i).toNat)
  case atStart => exact ⟨0, Nat.zero_le _, rfl, Lib.hid rfl, Ext.refl _⟩
  case round =>
    obtain ⟨k, hk, rfl, H, hbx⟩ := hrel
    by_cases hlt : k < rs.length
    · obtain ⟨b0, off, rfl, hbw, hc, hc1⟩ := rr_at (h.ext hbx) hlt
      have hcp2 : wr.cell? ⟨b, 0, none⟩ = some (.int .i64 p) := by rw [hbx.cell (p := ⟨b, 0, none⟩) hb]; exact hcp
      cases hnr : near p rs[k]
      · have H' : Hid (rs.find? (near p) = (rs.drop (k + 1)).find? (near p)) := Lib.hid (by rw [H.out, List.drop_eq_getElem_cons hlt, List.find?_cons, hnr])
        go_wp2_with (go_at_call 56; refine (near_any _ _ _ _ _ hcp2 (by have := hbx.size; omega) h1 h2).mono ?_; rintro e w1 ⟨rfl, hb1⟩; rw [show near p (rs[k].1, rs[k].2) = false from hnr])
        go_roundw
        case rel => exact ⟨k + 1, by omega, by go_num, H', hbx.trans hb1⟩
        case measure => simp [intOf]; omega
      · have H' : Hid (rs.find? (near p) = some rs[k]) := Lib.hid (by rw [H.out, List.drop_eq_getElem_cons hlt, List.find?_cons, hnr])
        go_wp2_with (go_at_call 56; refine (near_any _ _ _ _ _ hcp2 (by have := hbx.size; omega) h1 h2).mono ?_; rintro e w1 ⟨rfl, hb1⟩; rw [show near p (rs[k].1, rs[k].2) = true from hnr])
        go_ret
        exact ⟨⟨_, rfl, .inr ⟨k, hlt, rfl, H'.out⟩⟩, hbx.trans hb1⟩
    · go_wp2
      go_ret
      obtain rfl : k = rs.length := by omega
      exact ⟨⟨_, rfl, .inl ⟨rfl, by rw [H.out, List.drop_length]; rfl⟩⟩, hbx⟩
end Go.Proofs.YtiddaabodkglmaaGreat
end
section
namespace Go.Proofs.YtiddaabodkglmaaGreat
open Go.RowKit Go.Fx
set_option linter.unusedVariables false
set_option linter.unusedSimpArgs false
theorem own_ne {v v1 : Value} {b n : Nat} (hat : v1.ownBlock = v.ownBlock ∨ v1.ownBlock = some n) (h : v.ownBlock ≠ some b) (hn : n ≠ b) : v1.ownBlock ≠ some b := by
  rcases hat with e | e
  · rw [e]; exact h
  · rw [e]; simpa using hn
/-- a fresh row of ints -/
abbrev OI' (w : World) (base : Nat) (v : Value) (rs : List Int) : Prop := w.ownsRow base 3 1 v rs.length (rs.map it)
set_option maxRecDepth 100000 in
set_option maxHeartbeats 4000000 in
theorem sStarts_any (A : Option Addr) (c : Nat) (rs : List Nat) (x : Nat) (length gap : Int) (w : World) (h : Rd w A (rs.map fl)) (hn : rs.length ≤ 1048576) :
    Calls Tryz.prog 20 #[.slice A rs.length c, .float .f32 x, .int .i64 length, .int .i64 gap] w fun e w' => (∃ v, e = .returned v ∧ OI' w' w.heap.size v (starts (lows rs x) rs.length length gap)) ∧ Ext w w' := by
  have H := Lib.hid h
  clear h
  have ha : Ext w (w.alloc (.cells #[] 3)) := (Ext.refl _).alloc _
  have hnew := own_new w w.heap.size 3 1 (Nat.le_refl _)
  have hbeg := lows_begin rs x
  have hll := lows_len rs x
  have hL := sLows_any A c rs x (w.alloc (.cells #[] 3)) (H.out.ext ha) (by unfold maxLen; omega)
  generalize lows rs x = runs at hbeg hll hL
  cases hok : startsOk runs rs.length length gap
  · have HS : Hid (starts runs rs.length length gap = []) := Lib.hid (by unfold starts; rw [hok]; rfl)
    cases hruns : runs with
    | nil =>
      subst hruns
      go_enter Tryz.func20, Tryz.ntmps20
      go_wp2_with (first | (go_at_call 39; refine hL.mono ?_; rintro e w1 ⟨⟨v, rfl, ho⟩, hb1⟩; obtain ⟨A1, c1, rfl, hr1, -⟩ := own_slice ho) | (go_at_call 37; refine (sIn_any _ _ _ _).mono ?_; rintro e w1 ⟨rfl, rfl⟩))
      go_ret
      exact ⟨⟨_, rfl, by rw [HS.out]; exact own_ext hnew hb1⟩, ha.trans hb1⟩
    | cons r rest =>
      subst hruns
      obtain ⟨r1, r2⟩ := r
      have hb := hbeg (r1, r2) (by simp)
      simp only [] at hb
      simp only [List.length_cons] at hll
      cases hl : (decide (28 ≤ length) && decide (length ≤ 280))
      · go_enter Tryz.func20, Tryz.ntmps20
        go_wp2_with (first | (go_at_call 39; refine hL.mono ?_; rintro e w1 ⟨⟨v, rfl, ho⟩, hb1⟩; obtain ⟨A1, c1, rfl, hr1, -⟩ := own_slice ho; obtain ⟨b0, off, rfl, hbw, hc0, hc1⟩ := rr_at hr1 (i := 0) (by simp); rw [Nat.zero_mul, Nat.add_zero] at hc0 hc1; simp only [List.getElem_cons_zero] at hc0 hc1) | (go_at_call 37; refine (sIn_any _ _ _ _).mono ?_; rintro e w1 ⟨rfl, rfl⟩; first | rw [hl] | rw [hg]))
        go_ret
        exact ⟨⟨_, rfl, by rw [HS.out]; exact own_ext hnew hb1⟩, ha.trans hb1⟩
      · cases hg : (decide (0 ≤ gap) && decide (gap ≤ 10))
        · go_enter Tryz.func20, Tryz.ntmps20
          go_wp2_with (first | (go_at_call 39; refine hL.mono ?_; rintro e w1 ⟨⟨v, rfl, ho⟩, hb1⟩; obtain ⟨A1, c1, rfl, hr1, -⟩ := own_slice ho; obtain ⟨b0, off, rfl, hbw, hc0, hc1⟩ := rr_at hr1 (i := 0) (by simp); rw [Nat.zero_mul, Nat.add_zero] at hc0 hc1; simp only [List.getElem_cons_zero] at hc0 hc1) | (go_at_call 37; refine (sIn_any _ _ _ _).mono ?_; rintro e w1 ⟨rfl, rfl⟩; first | rw [hl] | rw [hg]))
          go_ret
          exact ⟨⟨_, rfl, by rw [HS.out]; exact own_ext hnew hb1⟩, ha.trans hb1⟩
        · have hp : (rs.length : Int) < r1 + length := by
            unfold startsOk at hok
            simp only [] at hok
            rw [hl, hg] at hok
            simpa using hok
          have hl2 := hl
          simp only [Bool.and_eq_true, decide_eq_true_eq] at hl2
          go_enter Tryz.func20, Tryz.ntmps20
          go_wp2_with (first | (go_at_call 39; refine hL.mono ?_; rintro e w1 ⟨⟨v, rfl, ho⟩, hb1⟩; obtain ⟨A1, c1, rfl, hr1, -⟩ := own_slice ho; obtain ⟨b0, off, rfl, hbw, hc0, hc1⟩ := rr_at hr1 (i := 0) (by simp); rw [Nat.zero_mul, Nat.add_zero] at hc0 hc1; simp only [List.getElem_cons_zero] at hc0 hc1) | (go_at_call 37; refine (sIn_any _ _ _ _).mono ?_; rintro e w1 ⟨rfl, rfl⟩; first | rw [hl] | rw [hg]))
          go_ret
          exact ⟨⟨_, rfl, by rw [HS.out]; exact own_ext hnew hb1⟩, ha.trans hb1⟩
  · cases hruns : runs with
    | nil => subst hruns; unfold startsOk at hok; cases hok
    | cons r rest =>
      subst hruns
      obtain ⟨r1, r2⟩ := r
      have hb := hbeg (r1, r2) (by simp)
      simp only [] at hb
      have HS : Hid (starts ((r1, r2) :: rest) rs.length length gap = r1 :: startsGo ((r1, r2) :: rest) rs.length length gap (rs.length + 1) r1 0) := Lib.hid (by unfold starts; rw [if_pos hok]; rfl)
      have hl : (decide (28 ≤ length) && decide (length ≤ 280)) = true := by unfold startsOk at hok; simp only [Bool.and_eq_true] at hok ⊢; exact hok.1.1
      have hg : (decide (0 ≤ gap) && decide (gap ≤ 10)) = true := by unfold startsOk at hok; simp only [Bool.and_eq_true] at hok ⊢; exact hok.1.2
      have hp : r1 + length ≤ (rs.length : Int) := by unfold startsOk at hok; simp only [Bool.and_eq_true, decide_eq_true_eq] at hok; exact hok.2
      have hl2 := hl
      have hg3 := hg
      simp only [Bool.and_eq_true, decide_eq_true_eq] at hl2 hg3
      have hz : (((rest.length : Int) + 1) == 0) = false := by rw [beq_eq_false_iff_ne]; omega
      have hp2 : ¬ (rs.length : Int) < r1 + length := by omega
      simp only [List.length_cons] at hll
      clear hok
      go_enter Tryz.func20, Tryz.ntmps20
      go_wp2_with (first | (go_at_call 39; refine hL.mono ?_; rintro e w1 ⟨⟨v, rfl, ho⟩, hb1⟩; have hi1 := own_in ho; have hnew1 := own_ext hnew hb1; obtain ⟨A1, c1, rfl, hr1, -⟩ := own_slice ho; obtain ⟨b0, off, rfl, hbw, hc0, hc1⟩ := rr_at hr1 (i := 0) (by simp); rw [Nat.zero_mul, Nat.add_zero] at hc0 hc1; simp only [List.getElem_cons_zero] at hc0 hc1) | (go_at_call 37; refine (sIn_any _ _ _ _).mono ?_; rintro e w1 ⟨rfl, rfl⟩; first | rw [hl] | rw [hg]) | (at_builtin; refine wpList_app rfl _ _ 46 rfl w.heap.size 3 _ 1 8 Tryz.underlying46 info_int rfl (by omega) (.slice (some ⟨w.heap.size, 0, none⟩) 0 0) 0 [] rfl (own_ext hnew1 ((Ext.refl _).alloc _)) _ 1 1 _ rfl (rd_new _ _ _ _) rfl (fun h => by cases h) (by intro u hu; simp at hu; rcases hu with rfl; rfl) (by unfold maxLen; omega) (by omega) (by have := hb1.size; simp at this ⊢; omega) ?_; intro v1 w2 hown hg2 hat))
      have hgt : w.heap.size < b0 := by have := (hi1 b0 rfl).1; simp at this; omega
      have hown' : w2.ownsRow w.heap.size 3 1 v1 ([r1] : List Int).length (([r1] : List Int).map it) := by simpa using hown
      have hr2 : Rd w2 (some ⟨b0, off, none⟩) (rcells ((r1, r2) :: rest)) := Rd.grown (hr1.ext ((Ext.refl _).alloc _)) hg2 (fun ad h _ => by cases h; simp [Value.ownBlock]; omega)
      have hne : v1.ownBlock ≠ some b0 := by
        intro he
        rcases hat with h | h
        · rw [h] at he; simp [Value.ownBlock] at he; omega
        · rw [h] at he; simp at he; omega
      have hbz : b0 < w2.heap.size := by have := hg2.size; simp at this; omega
      have hb2 : Ext w w2 := ext_grow (base := w.heap.size) ((ha.trans hb1).alloc _) (own_ext hnew1 ((Ext.refl _).alloc _)) (Nat.le_refl _) hg2
      clear hL hnew hnew1 ho hi1 hr1 hc0 hc1 hown hat hg2 hb1 ha hbw
      go_loopw [9, 11, 12] (fun v a m wr => ∃ (acc : List Int) (at_ missed : Int) (f : Nat), a = .int .i64 at_ ∧ m = .int .i64 missed ∧ wr.ownsRow w.heap.size 3 1 v acc.length (acc.map it) ∧ Rd wr (some ⟨b0, off, none⟩) (rcells ((r1, r2) :: rest)) ∧ v.ownBlock ≠ some b0 ∧ b0 < wr.heap.size ∧ Hid (starts ((r1, r2) :: rest) rs.length length gap = acc ++ startsGo ((r1, r2) :: rest) rs.length length gap f at_ missed) ∧ (rs.length : Int) - at_ < f ∧ 0 ≤ at_ ∧ at_ ≤ rs.length ∧ (acc.length : Int) ≤ at_ + 1 ∧ 0 ≤ missed ∧ missed ≤ gap ∧ Ext w wr) (fun _ a _ _ => ((rs.length : Int) + 1 - intOf a).toNat)
      case atStart => exact ⟨[r1], r1, 0, rs.length + 1, rfl, rfl, hown', hr2, hne, hbz, Lib.hid HS.out, by omega, by omega, by omega, by simp; omega, by omega, by omega, hb2⟩
      case round =>
        obtain ⟨acc, at_, missed, f, rfl, rfl, ho, hrd, hnb, hbs, HF, hf, hat0, hat1, hac, hm0, hm1, hbx⟩ := hrel
        clear hown' hr2 hne hbz hb2
        obtain ⟨A2, c2, rfl, -, -⟩ := own_slice ho
        obtain ⟨f, rfl⟩ : ∃ g, f = g + 1 := ⟨f - 1, by omega⟩
        by_cases hcont : (rs.length : Int) < at_ + 2 * length
        · go_wp2
          go_ret
          exact ⟨⟨.slice A2 acc.length c2, rfl, by rw [HF.out, startsGo, if_pos (by omega), List.append_nil]; exact ho⟩, hbx⟩
        · go_wp2
          go_loop [11, 14] (fun a i => ∃ (k : Nat) (b : Int), k ≤ rest.length + 1 ∧ i = .int .i64 k ∧ a = .int .i64 b ∧ Hid ((b = -1 ∧ ((r1, r2) :: rest).find? (near (at_ + length)) = (((r1, r2) :: rest).drop k).find? (near (at_ + length))) ∨ (∃ r ∈ (r1, r2) :: rest, r.1 = b ∧ near (at_ + length) r = true ∧ ((r1, r2) :: rest).find? (near (at_ + length)) = some r))) (fun _ i => rest.length + 1 - (intOf i).toNat)
          case atStart => exact ⟨0, -1, by omega, rfl, rfl, Lib.hid (.inl ⟨rfl, rfl⟩)⟩
          case round =>
            obtain ⟨k, b, hk, rfl, rfl, HI⟩ := hrel
            by_cases hneg : b < 0
            · have HJ : Hid (((r1, r2) :: rest).find? (near (at_ + length)) = (((r1, r2) :: rest).drop k).find? (near (at_ + length))) := by
                rcases HI.out with h | ⟨r, hr, h1, h2, h3⟩
                · exact Lib.hid h.2
                · have := hbeg r hr; omega
              obtain rfl : b = -1 := by
                rcases HI.out with h | ⟨r, hr, h1, h2, h3⟩
                · exact h.1
                · have := hbeg r hr; omega
              by_cases hlt : k < rest.length + 1
              · have hlt' : k < ((r1, r2) :: rest).length := by simpa using hlt
                obtain ⟨bx, ox, hbo, hbw2, hq0, hq1⟩ := rr_at hrd hlt'
                cases hbo
                have hqb := hbeg _ (List.getElem_mem hlt')
                have hmem := List.getElem_mem hlt'
                have hdr := List.drop_eq_getElem_cons hlt'
                generalize ((r1, r2) :: rest)[k] = q at hq0 hq1 hqb hmem hdr
                obtain ⟨q0, q1⟩ := q
                have hin : (decide (-3 ≤ q0 - (at_ + length)) && decide (q0 - (at_ + length) ≤ 3)) = near (at_ + length) (q0, q1) := by
                  rw [Bool.eq_iff_iff]; simp [near]; omega
                simp only [] at hq0 hq1 hqb
                cases hnr : near (at_ + length) (q0, q1)
                · rw [hnr] at hin
                  have HK := Lib.hid (show ((r1, r2) :: rest).find? (near (at_ + length)) = (((r1, r2) :: rest).drop (k + 1)).find? (near (at_ + length)) by rw [HJ.out, hdr, List.find?_cons, hnr])
                  clear hmem hdr hnr HJ HI
                  go_wp2_with (go_at_call 37; refine (sIn_any _ _ _ _).mono ?_; rintro e w1 ⟨rfl, rfl⟩; rw [hin])
                  go_round
                  case rel => exact ⟨k + 1, -1, by omega, by go_num, rfl, Lib.hid (.inl ⟨rfl, HK.out⟩)⟩
                  case measure => simp [intOf]; omega
                · rw [hnr] at hin
                  have HK := Lib.hid (show ((r1, r2) :: rest).find? (near (at_ + length)) = some (q0, q1) by rw [HJ.out, hdr, List.find?_cons, hnr])
                  have HM := Lib.hid hmem
                  have HR := Lib.hid hnr
                  clear hmem hdr hnr HJ HI
                  go_wp2_with (go_at_call 37; refine (sIn_any _ _ _ _).mono ?_; rintro e w1 ⟨rfl, rfl⟩; rw [hin])
                  go_round
                  case rel => exact ⟨k + 1, q0, by omega, by go_num, rfl, Lib.hid (.inr ⟨(q0, q1), HM.out, rfl, HR.out, HK.out⟩)⟩
                  case measure => simp [intOf]; omega
              · have hnone : ((r1, r2) :: rest).find? (near (at_ + length)) = none := by rw [HJ.out, List.drop_of_length_le (by simp; omega)]; rfl
                clear HJ HI
                by_cases hgap : gap < missed + 1
                · have HG : Hid (startsGo ((r1, r2) :: rest) rs.length length gap (f + 1) at_ missed = []) := Lib.hid (by rw [startsGo, if_neg (by omega), hnone]; simp only []; rw [if_pos hgap])
                  clear hnone
                  go_wp2
                  go_ret
                  exact ⟨⟨.slice A2 acc.length c2, rfl, by rw [HF.out, HG.out, List.append_nil]; exact ho⟩, hbx⟩
                · have HG : Hid (startsGo ((r1, r2) :: rest) rs.length length gap (f + 1) at_ missed = (at_ + length) :: startsGo ((r1, r2) :: rest) rs.length length gap f (at_ + length) (missed + 1)) := Lib.hid (by rw [startsGo, if_neg (by omega), hnone]; simp only []; rw [if_neg hgap])
                  clear hnone
                  go_wp2_with (at_builtin; refine wpList_app rfl _ _ 46 rfl w.heap.size 3 _ 1 8 Tryz.underlying46 info_int rfl (by omega) (.slice A2 acc.length c2) acc.length (acc.map it) rfl (own_ext ho ((Ext.refl _).alloc _)) _ 1 1 _ rfl (rd_new _ _ _ _) rfl (fun h => by cases h) (by intro u hu; simp at hu; rcases hu with rfl; rfl) (by unfold maxLen; omega) (by omega) (by have := hbx.size; simp; omega) ?_; intro v1 w2 hown hg2 hat)
                  go_roundw
                  case rel => exact ⟨acc ++ [(at_ + length)], (at_ + length), (missed + 1), f, by go_num, by go_num, by rw [List.map_append, List.length_append]; exact hown, Rd.grown (hrd.ext ((Ext.refl _).alloc _)) hg2 (fun ad h _ => by cases h; exact hnb.symm), own_ne hat hnb (by simp; omega), by have := hg2.size; simp at this; omega, Lib.hid (by rw [HF.out, HG.out, List.append_assoc]; rfl), by omega, by omega, by omega, by simp; omega, by omega, by omega, ext_grow (base := w.heap.size) (hbx.alloc _) (own_ext ho ((Ext.refl _).alloc _)) (Nat.le_refl _) hg2⟩
                  case measure => simp [intOf]; omega
            · obtain ⟨q, hq, hq1, hq2, hq3⟩ : ∃ r ∈ (r1, r2) :: rest, r.1 = b ∧ near (at_ + length) r = true ∧ ((r1, r2) :: rest).find? (near (at_ + length)) = some r := by
                rcases HI.out with h | h
                · omega
                · exact h
              have hqb := hbeg q hq
              have hnr : at_ + length - 3 ≤ b ∧ b ≤ at_ + length + 3 := by rw [← hq1]; simpa [near] using hq2
              rw [hq1] at hqb
              have HG : Hid (startsGo ((r1, r2) :: rest) rs.length length gap (f + 1) at_ missed = b :: startsGo ((r1, r2) :: rest) rs.length length gap f b 0) := Lib.hid (by rw [startsGo, if_neg (by omega), hq3]; simp only []; rw [hq1])
              clear hq hq1 hq2 hq3 HI
              go_wp2_with (at_builtin; refine wpList_app rfl _ _ 46 rfl w.heap.size 3 _ 1 8 Tryz.underlying46 info_int rfl (by omega) (.slice A2 acc.length c2) acc.length (acc.map it) rfl (own_ext ho ((Ext.refl _).alloc _)) _ 1 1 _ rfl (rd_new _ _ _ _) rfl (fun h => by cases h) (by intro u hu; simp at hu; rcases hu with rfl; rfl) (by unfold maxLen; omega) (by omega) (by have := hbx.size; simp; omega) ?_; intro v1 w2 hown hg2 hat)
              all_goals go_roundw
              all_goals first | exact ⟨acc ++ [b], b, 0, f, by go_num, by go_num, by rw [List.map_append, List.length_append]; exact hown, Rd.grown (hrd.ext ((Ext.refl _).alloc _)) hg2 (fun ad h _ => by cases h; exact hnb.symm), own_ne hat hnb (by simp; omega), by have := hg2.size; simp at this; omega, Lib.hid (by rw [HF.out, HG.out, List.append_assoc]; rfl), by omega, by omega, by omega, by simp; omega, by omega, by omega, ext_grow (base := w.heap.size) (hbx.alloc _) (own_ext ho ((Ext.refl _).alloc _)) (Nat.le_refl _) hg2⟩ | (simp [intOf]; omega)
end Go.Proofs.YtiddaabodkglmaaGreat
end
section
namespace Go.Fx
def slLen : Value → Nat
  | .slice _ n _ => n
  | _ => 0
theorem rd_new_set (w : World) (p : Addr) (v : Value) (cs : Array Value) (E : TypeId) (m : Nat × Nat) : Rd ((w.setCell p v).alloc (.cells cs E m)) (some ⟨w.heap.size, 0, none⟩) cs.toList := by
  have h := rd_new (w.setCell p v) cs E m
  have e : (w.setCell p v).heap.size = w.heap.size := by simp [World.setCell]
  rw [e] at h
  exact h
theorem startsGo_len (runs : List (Int × Int)) (n length gap : Int) : ∀ (f : Nat) (at_ m : Int), (startsGo runs n length gap f at_ m).length ≤ f
  | 0, _, _ => by simp [startsGo]
  | f + 1, at_, m => by
    unfold startsGo
    split
    · simp
    · split
      · rename_i r _
        have := startsGo_len runs n length gap f r.1 0
        simp; omega
      · split
        · simp
        · have := startsGo_len runs n length gap f (at_ + length) (m + 1)
          simp; omega
theorem starts_len {runs : List (Int × Int)} {n : Nat} {length gap : Int} : (starts runs n length gap).length ≤ n + 2 := by
  unfold starts
  split
  · cases runs with
    | nil => simp
    | cons r t =>
      have := startsGo_len (r :: t) n length gap ((n : Int).toNat + 1) r.1 0
      simp at this ⊢; omega
  · simp
theorem lows_short {rs : List Nat} {x : Nat} (h : lows rs x ≠ []) : rs.length ≤ 20000 := by
  unfold lows at h
  split at h
  · exact absurd rfl h
  · omega
end Go.Fx
namespace Go.Proofs.YtiddaabodkglmaaGreat
open Go.RowKit Go.Fx
set_option linter.unusedVariables false
set_option linter.unusedSimpArgs false
theorem snoc_it {w : World} {base : Nat} {v : Value} {k : Nat} {m : Int} {gs : List Int} {E : TypeId} (h : w.ownsRow base E 1 v (k + 1) (gs.map it ++ #[Value.int .i64 m].toList)) (hg : gs.length = k := by simp) : w.ownsRow base E 1 v (gs.length + 1) ((gs ++ [m]).map it) := by
  subst hg
  rw [List.map_append]; exact h
set_option maxRecDepth 100000 in
set_option maxHeartbeats 4000000 in
theorem iStarts_any (A : Option Addr) (c : Nat) (rs : List Nat) (x : Nat) (length gap : Int) (w : World) (h : Rd w A (rs.map fl)) (hn : rs.length ≤ 1048576) :
    Calls Tryz.prog 27 #[.slice A rs.length c, .float .f32 x, .int .i64 length, .int .i64 gap] w fun e w' => (∃ v, e = .returned v ∧ OI' w' w.heap.size v (starts (lows rs x) rs.length length gap)) ∧ Ext w w' := by
  have H := Lib.hid h
  clear h
  have hbeg := lows_begin rs x
  have hll := lows_len rs x
  have hsh := lows_short (rs := rs) (x := x)
  have hL := iLows_any A c rs x w H.out (by unfold maxLen; omega)
  generalize lows rs x = runs at hbeg hll hL hsh
  cases hok : startsOk runs rs.length length gap
  · have HS : Hid (starts runs rs.length length gap = []) := Lib.hid (by unfold starts; rw [hok]; rfl)
    cases hruns : runs with
    | nil =>
      subst hruns
      go_enter Tryz.func27, Tryz.ntmps27
      go_wp2_with (go_at_call 54; refine hL.mono ?_; rintro e w1 ⟨⟨v, rfl, ho⟩, hb1⟩; obtain ⟨A1, c1, rfl, hr1, -⟩ := own_slice ho)
      go_ret
      exact ⟨⟨_, rfl, by rw [HS.out]; exact World.ownsRow_nil _ _ _ _⟩, hb1⟩
    | cons r rest =>
      subst hruns
      obtain ⟨r1, r2⟩ := r
      have hb := hbeg (r1, r2) (by simp)
      simp only [] at hb
      simp only [List.length_cons] at hll
      cases hl : (decide (28 ≤ length) && decide (length ≤ 280))
      · go_enter Tryz.func27, Tryz.ntmps27
        go_wp2_with (first | (go_at_call 54; refine hL.mono ?_; rintro e w1 ⟨⟨v, rfl, ho⟩, hb1⟩; have hi1 := own_in ho; obtain ⟨A1, c1, rfl, hr1, -⟩ := own_slice ho; obtain ⟨b0, off, rfl, hbw, hc0, hc1⟩ := rr_at hr1 (i := 0) (by simp); rw [Nat.zero_mul, Nat.add_zero] at hc0 hc1; simp only [List.getElem_cons_zero] at hc0 hc1) | (go_at_call 52; refine (lengthOk_any _ _).mono ?_; rintro e w1 ⟨rfl, rfl⟩; rw [hl]) | (go_at_call 50; refine (within_any _ _ _ _).mono ?_; rintro e w1 ⟨rfl, rfl⟩; rw [hg]))
        go_ret
        exact ⟨⟨_, rfl, by rw [HS.out]; exact World.ownsRow_nil _ _ _ _⟩, hb1⟩
      · cases hg : (decide (0 ≤ gap) && decide (gap ≤ 10))
        · go_enter Tryz.func27, Tryz.ntmps27
          go_wp2_with (first | (go_at_call 54; refine hL.mono ?_; rintro e w1 ⟨⟨v, rfl, ho⟩, hb1⟩; have hi1 := own_in ho; obtain ⟨A1, c1, rfl, hr1, -⟩ := own_slice ho; obtain ⟨b0, off, rfl, hbw, hc0, hc1⟩ := rr_at hr1 (i := 0) (by simp); rw [Nat.zero_mul, Nat.add_zero] at hc0 hc1; simp only [List.getElem_cons_zero] at hc0 hc1) | (go_at_call 52; refine (lengthOk_any _ _).mono ?_; rintro e w1 ⟨rfl, rfl⟩; rw [hl]) | (go_at_call 50; refine (within_any _ _ _ _).mono ?_; rintro e w1 ⟨rfl, rfl⟩; rw [hg]))
          go_ret
          exact ⟨⟨_, rfl, by rw [HS.out]; exact World.ownsRow_nil _ _ _ _⟩, hb1⟩
        · have hp : (rs.length : Int) < r1 + length := by
            unfold startsOk at hok
            simp only [] at hok
            rw [hl, hg] at hok
            simpa using hok
          have hl2 := hl
          simp only [Bool.and_eq_true, decide_eq_true_eq] at hl2
          go_enter Tryz.func27, Tryz.ntmps27
          go_wp2_with (first | (go_at_call 54; refine hL.mono ?_; rintro e w1 ⟨⟨v, rfl, ho⟩, hb1⟩; have hi1 := own_in ho; obtain ⟨A1, c1, rfl, hr1, -⟩ := own_slice ho; obtain ⟨b0, off, rfl, hbw, hc0, hc1⟩ := rr_at hr1 (i := 0) (by simp); rw [Nat.zero_mul, Nat.add_zero] at hc0 hc1; simp only [List.getElem_cons_zero] at hc0 hc1) | (go_at_call 52; refine (lengthOk_any _ _).mono ?_; rintro e w1 ⟨rfl, rfl⟩; rw [hl]) | (go_at_call 50; refine (within_any _ _ _ _).mono ?_; rintro e w1 ⟨rfl, rfl⟩; rw [hg]))
          go_ret
          exact ⟨⟨_, rfl, by rw [HS.out]; exact World.ownsRow_nil _ _ _ _⟩, hb1⟩
  · cases hruns : runs with
    | nil => subst hruns; unfold startsOk at hok; cases hok
    | cons r rest =>
      subst hruns
      obtain ⟨r1, r2⟩ := r
      have hb := hbeg (r1, r2) (by simp)
      simp only [] at hb
      replace hsh := hsh (by simp)
      have HS : Hid (starts ((r1, r2) :: rest) rs.length length gap = r1 :: startsGo ((r1, r2) :: rest) rs.length length gap (rs.length + 1) r1 0) := Lib.hid (by unfold starts; rw [if_pos hok]; rfl)
      have hl : (decide (28 ≤ length) && decide (length ≤ 280)) = true := by unfold startsOk at hok; simp only [Bool.and_eq_true] at hok ⊢; exact hok.1.1
      have hg : (decide (0 ≤ gap) && decide (gap ≤ 10)) = true := by unfold startsOk at hok; simp only [Bool.and_eq_true] at hok ⊢; exact hok.1.2
      have hp : r1 + length ≤ (rs.length : Int) := by unfold startsOk at hok; simp only [Bool.and_eq_true, decide_eq_true_eq] at hok; exact hok.2
      have hl2 := hl
      have hg3 := hg
      simp only [Bool.and_eq_true, decide_eq_true_eq] at hl2 hg3
      have hz : (((rest.length : Int) + 1) == 0) = false := by rw [beq_eq_false_iff_ne]; omega
      have hp2 : ¬ (rs.length : Int) < r1 + length := by omega
      simp only [List.length_cons] at hll
      clear hok
      go_enter Tryz.func27, Tryz.ntmps27
      go_wp2_with (first | (go_at_call 54; refine hL.mono ?_; rintro e w1 ⟨⟨v, rfl, ho⟩, hb1⟩; have hi1 := own_in ho; obtain ⟨A1, c1, rfl, hr1, -⟩ := own_slice ho; obtain ⟨b0, off, rfl, hbw, hc0, hc1⟩ := rr_at hr1 (i := 0) (by simp); rw [Nat.zero_mul, Nat.add_zero] at hc0 hc1; simp only [List.getElem_cons_zero] at hc0 hc1) | (go_at_call 52; refine (lengthOk_any _ _).mono ?_; rintro e w1 ⟨rfl, rfl⟩; rw [hl]) | (go_at_call 50; refine (within_any _ _ _ _).mono ?_; rintro e w1 ⟨rfl, rfl⟩; rw [hg]))
      have hgt : w.heap.size ≤ b0 := (hi1 b0 rfl).1
      have hown' : (w1.alloc (.cells #[.int .i64 r1] 3)).ownsRow w.heap.size 3 1 (.slice (some ⟨w1.heap.size, 0, none⟩) 1 1) 1 (([r1] : List Int).map it) := own_row (heap_alloc_new w1 _) hb1.size rfl (by unfold maxLen; omega)
      go_loopw [10, 11] (fun v m wr => ∃ (acc : List Int) (at_ missed : Int) (f : Nat), m = .int .i64 missed ∧ wr.ownsRow w.heap.size 3 1 v (acc.length + 1) ((acc ++ [at_]).map it) ∧ Rd wr (some ⟨b0, off, none⟩) (rcells ((r1, r2) :: rest)) ∧ v.ownBlock ≠ some b0 ∧ b0 < wr.heap.size ∧ Hid (starts ((r1, r2) :: rest) rs.length length gap = (acc ++ [at_]) ++ startsGo ((r1, r2) :: rest) rs.length length gap f at_ missed) ∧ (rs.length : Int) - at_ < f ∧ 0 ≤ at_ ∧ at_ ≤ rs.length ∧ (acc.length : Int) ≤ at_ ∧ 0 ≤ missed ∧ missed ≤ gap ∧ Ext w wr) (fun v _ _ => rs.length + 2 - slLen v)
      case atStart => exact ⟨[], r1, 0, rs.length + 1, rfl, hown', hr1.ext ((Ext.refl _).alloc _), by simp [Value.ownBlock]; omega, by simp; omega, Lib.hid HS.out, by omega, by omega, by omega, by simp; omega, by omega, by omega, hb1.alloc _⟩
      case round =>
        obtain ⟨acc, at_, missed, f, rfl, ho, hrd, hnb, hbs, HF, hf, hat0, hat1, hac, hm0, hm1, hbx⟩ := hrel
        clear hown' hr1
        obtain ⟨A2, c2, rfl, -, -⟩ := own_slice ho
        obtain ⟨g, rfl, hg1, hg2⟩ := own_at ho (by omega)
        obtain ⟨f, rfl⟩ : ∃ g, f = g + 1 := ⟨f - 1, by omega⟩
        have hlast := own_cell ho (j := acc.length) (u := it at_) (by simp)
        by_cases hcont : (rs.length : Int) < at_ + length + length
        · go_wp2
          go_ret
          refine ⟨⟨.slice (some ⟨g, 0, none⟩) (acc.length + 1) c2, rfl, ?_⟩, hbx.alloc _⟩
          rw [HF.out, startsGo, if_pos (by omega), List.append_nil]
          have : (acc ++ [at_]).length = acc.length + 1 := by simp
          unfold OI'
          rw [this]
          exact own_ext ho ((Ext.refl _).alloc _)
        · go_wp2_with fail
          have hml : ((r1, r2) :: rest).length ≤ maxLen := by unfold maxLen; rw [List.length_cons]; omega
          have hix := idxRun_any (some ⟨b0, off, none⟩) c1 ((r1, r2) :: rest) (at_ + length) wr.heap.size (wr.alloc (.cells #[.int .i64 (at_ + length)] 3)) (hrd.ext ((Ext.refl _).alloc _)) hml (blk_cell (heap_alloc_new _ _) rfl) (by simp) (by omega) (by omega)
          refine Calls.mono hix ?_
          rintro e w2 ⟨⟨k, rfl, hk⟩, hb2⟩
          have kb : w2.heap[wr.heap.size]? = some (.cells #[.int .i64 (at_ + length)] 3 (0, 0)) := blk_ext (heap_alloc_new _ _) hb2
          obtain ⟨ac0, af⟩ := blk1 kb
          have hal : Ext wr (wr.alloc (.cells #[.int .i64 (at_ + length)] 3)) := (Ext.refl _).alloc _
          have ho2 := own_ext (own_ext ho hal) hb2
          have hrd2 := Rd.ext (Rd.ext hrd hal) hb2
          have hbx2 : Ext w w2 := (hbx.trans hal).trans hb2
          have hsz : wr.heap.size < w2.heap.size := (Array.getElem?_eq_some_iff.1 kb).1
          clear hix ho hrd hlast kb hb2 hal
          rcases hk with ⟨rfl, hnone⟩ | ⟨i, hi, rfl, hsome⟩
          · have HO := Lib.hid ho2
            have HB := Lib.hid hbx2
            have HR := Lib.hid hrd2
            have HZ : Hid (b0 < w2.heap.size) := Lib.hid (by omega)
            by_cases hgap : gap < missed + 1
            · have HG : Hid (startsGo ((r1, r2) :: rest) rs.length length gap (f + 1) at_ missed = []) := Lib.hid (by rw [startsGo, if_neg (by omega), hnone]; simp only []; rw [if_pos hgap])
              clear hnone ho2 hbx2 hrd2
              go_wp2
              go_ret
              refine ⟨⟨.slice (some ⟨g, 0, none⟩) (acc.length + 1) c2, rfl, ?_⟩, HB.out⟩
              rw [HF.out, HG.out, List.append_nil]
              have : (acc ++ [at_]).length = acc.length + 1 := by simp
              unfold OI'
              rw [this]
              exact HO.out
            · have HG : Hid (startsGo ((r1, r2) :: rest) rs.length length gap (f + 1) at_ missed = (at_ + length) :: startsGo ((r1, r2) :: rest) rs.length length gap f (at_ + length) (missed + 1)) := Lib.hid (by rw [startsGo, if_neg (by omega), hnone]; simp only []; rw [if_neg hgap])
              clear hnone ho2 hbx2 hrd2
              go_wp2_with (at_builtin; refine wpList_app rfl _ _ 46 rfl w.heap.size 3 _ 1 8 Tryz.underlying46 info_int rfl (by omega) (.slice (some ⟨g, 0, none⟩) (acc.length + 1) c2) (acc.length + 1) ((acc ++ [at_]).map it) rfl (own_ext HO.out ((Ext.refl _).alloc _)) _ 1 1 _ rfl (rd_new _ _ _ _) rfl (fun h => by cases h) (by intro u hu; simp at hu; rcases hu with rfl; rfl) (by unfold maxLen; omega) (by omega) (Ext.alloc HB.out _).size ?_; intro v1 w3 hown hgr hat)
              go_roundw
              case rel => exact ⟨acc ++ [at_], (at_ + length), (missed + 1), f, rfl, snoc_it hown, Rd.grown (Rd.ext HR.out ((Ext.refl _).alloc _)) hgr (fun ad h _ => by cases h; exact hnb.symm), own_ne hat hnb (by have := HZ.out; simp; omega), by have h1 := hgr.size; have h2 := HZ.out; simp at h1; omega, Lib.hid (by rw [HF.out, HG.out]; simp), by omega, by omega, by omega, by simp; omega, by omega, by omega, ext_grow (base := w.heap.size) (HB.out.alloc _) (own_ext HO.out ((Ext.refl _).alloc _)) (Nat.le_refl _) hgr⟩
              case measure => (obtain ⟨_, _, rfl, -, -⟩ := own_slice hown; simp [slLen]; omega)
          · have hlt' : i < ((r1, r2) :: rest).length := hi
            obtain ⟨bx, ox, hbo, hbw2, hq0, hq1⟩ := rr_at hrd2 hlt'
            cases hbo
            have hqb := hbeg _ (List.getElem_mem hlt')
            have hnr := List.find?_some hsome
            generalize ((r1, r2) :: rest)[i] = q at hq0 hq1 hqb hsome hnr
            obtain ⟨q0, q1⟩ := q
            simp only [] at hq0 hq1 hqb
            have hnr2 : at_ + length - 3 ≤ q0 ∧ q0 ≤ at_ + length + 3 := by simpa [near] using hnr
            have hi' : i < rest.length + 1 := by simpa using hi
            have hwz : w.heap.size ≤ wr.heap.size := hbx.size
            have HO := Lib.hid (own_other (p := ⟨wr.heap.size, 0, none⟩) ho2 (fun b hb => by cases hb; show g ≠ wr.heap.size; omega) (it q0))
            have HB : Hid (Ext w (w2.setCell ⟨wr.heap.size, 0, none⟩ (it q0))) := Lib.hid (Below.setCell hbx2 hwz _)
            have HR : Hid (Rd (w2.setCell ⟨wr.heap.size, 0, none⟩ (it q0)) (some ⟨b0, off, none⟩) (rcells ((r1, r2) :: rest))) := Lib.hid (Rd.grown hrd2 (grown_set (p := ⟨wr.heap.size, 0, none⟩) (grown_refl w2 (some wr.heap.size)) (.inl rfl) _) (fun ad h _ => by cases h; simp; omega))
            have HZ : Hid (b0 < (w2.setCell ⟨wr.heap.size, 0, none⟩ (it q0)).heap.size) := Lib.hid (by simp [World.setCell]; omega)
            have HG : Hid (startsGo ((r1, r2) :: rest) rs.length length gap (f + 1) at_ missed = q0 :: startsGo ((r1, r2) :: rest) rs.length length gap f q0 0) := Lib.hid (by rw [startsGo, if_neg (by omega), hsome])
            clear hsome hnr ho2 hbx2 hrd2 hi hlt'
            go_wp2_with (at_builtin; refine wpList_app rfl _ _ 46 rfl w.heap.size 3 _ 1 8 Tryz.underlying46 info_int rfl (by omega) (.slice (some ⟨g, 0, none⟩) (acc.length + 1) c2) (acc.length + 1) ((acc ++ [at_]).map it) rfl (own_ext HO.out ((Ext.refl _).alloc _)) _ 1 1 _ rfl (rd_new_set _ _ _ _ _ _) rfl (fun h => by cases h) (by intro u hu; simp at hu; rcases hu with rfl; rfl) (by unfold maxLen; omega) (by omega) (Ext.alloc HB.out _).size ?_; intro v1 w3 hown hgr hat)
            go_roundw
            case rel => exact ⟨acc ++ [at_], q0, 0, f, rfl, (snoc_it (gs := acc ++ [at_]) (k := acc.length + 1) (m := q0) hown (by simp)), Rd.grown (Rd.ext HR.out ((Ext.refl _).alloc _)) hgr (fun ad h _ => by cases h; exact hnb.symm), own_ne hat hnb (by have := HZ.out; simp [World.setCell] at this ⊢; omega), by have h1 := hgr.size; have h2 := HZ.out; simp [World.setCell] at h1 h2; omega, Lib.hid (by rw [HF.out, HG.out]; simp), by omega, by omega, by omega, by simp; omega, by omega, by omega, ext_grow (base := w.heap.size) (HB.out.alloc _) (own_ext HO.out ((Ext.refl _).alloc _)) (Nat.le_refl _) hgr⟩
            case measure => (obtain ⟨_, _, rfl, -, -⟩ := own_slice hown; simp [slLen]; omega)
end Go.Proofs.YtiddaabodkglmaaGreat
end
section
namespace Go.Proofs.YtiddaabodkglmaaGreat
open Go.RowKit Go.Fx
set_option linter.unusedVariables false
set_option linter.unusedSimpArgs false
/-! rows of rows of singles -/
end Go.Proofs.YtiddaabodkglmaaGreat
end
section
namespace Go.Proofs.YtiddaabodkglmaaGreat
open Go.RowKit Go.Fx
set_option linter.unusedVariables false
set_option linter.unusedSimpArgs false
theorem info_sl : (Tryz.prog.info? 26).map (fun i => (i.zero, i.size, i.bytes)) = some (some (.slice none 0 0), 1, 24) := by kernel_rfl
/-- fresh rows of singles -/
abbrev OG (w : World) (base : Nat) (v : Value) (us : List Value) (rss : List (List Nat)) : Prop := Rows2 w base 26 22 1 v us (rowsF rss)
theorem cut_some {rs : List Nat} {length a : Int} (h : (decide (0 ≤ a) && decide (a ≤ (rs.length : Int) - length)) = true) : cut1 rs length a = some (cutF rs a.toNat length.toNat) := by
  unfold cut1; rw [if_pos (by simpa using h)]
theorem cut_none {rs : List Nat} {length a : Int} (h : (decide (0 ≤ a) && decide (a ≤ (rs.length : Int) - length)) = false) : cut1 rs length a = none := by
  unfold cut1; rw [if_neg (by intro hc; simp [hc] at h)]
theorem rowsF_snoc (rss : List (List Nat)) (rs : List Nat) : rowsF rss ++ [(rs.length, rs.map fl)] = rowsF (rss ++ [rs]) := by simp
set_option maxRecDepth 100000 in
set_option maxHeartbeats 4000000 in
theorem iCutLines_any (A S : Option Addr) (c d : Nat) (rs : List Nat) (starts : List Int) (length : Int) (w : World) (h : Rd w A (rs.map fl)) (hs : Rd w S (starts.map it)) (hn : rs.length ≤ 1048576) (hm : starts.length ≤ 1048576) (hc : rs.length ≤ c) :
    Calls Tryz.prog 26 #[.slice A rs.length c, .slice S starts.length d, .int .i64 length] w fun e w' => (∃ v us, e = .returned v ∧ OG w' w.heap.size v us (cutLines rs starts length)) ∧ Ext w w' := by
  have H := Lib.hid h
  have HS := Lib.hid hs
  clear h hs
  cases hl : (decide (28 ≤ length) && decide (length ≤ 280))
  · have HE : Hid (cutLines rs starts length = []) := Lib.hid (by unfold cutLines; rw [if_neg]; intro hx; simp [hx.1, hx.2.1] at hl)
    go_enter Tryz.func26, Tryz.ntmps26
    go_wp2_with (go_at_call 52; refine (lengthOk_any _ _).mono ?_; rintro e w1 ⟨rfl, rfl⟩; rw [hl])
    go_ret
    exact ⟨⟨_, [], rfl, by rw [HE.out]; exact Rows2.nil _ _ _ _ _⟩, Ext.refl _⟩
  · have hl2 := hl
    simp only [Bool.and_eq_true, decide_eq_true_eq] at hl2
    by_cases hbig : 20000 < rs.length
    · have HE : Hid (cutLines rs starts length = []) := Lib.hid (by unfold cutLines; rw [if_neg]; intro hx; omega)
      go_enter Tryz.func26, Tryz.ntmps26
      go_wp2_with (go_at_call 52; refine (lengthOk_any _ _).mono ?_; rintro e w1 ⟨rfl, rfl⟩; rw [hl])
      go_ret
      exact ⟨⟨_, [], rfl, by rw [HE.out]; exact Rows2.nil _ _ _ _ _⟩, Ext.refl _⟩
    · have HE : Hid (cutLines rs starts length = starts.filterMap (cut1 rs length)) := Lib.hid (by unfold cutLines; rw [if_pos]; omega)
      go_enter Tryz.func26, Tryz.ntmps26
      go_wp2_with (go_at_call 52; refine (lengthOk_any _ _).mono ?_; rintro e w1 ⟨rfl, rfl⟩; rw [hl])
      go_loopw [7, 9, 20] (fun v u i wr => ∃ (k : Nat) (us : List Value), k ≤ starts.length ∧ i = .int .i64 k ∧ Hid (OG wr w.heap.size v us ((starts.take k).filterMap (cut1 rs length))) ∧ Ext w wr) (fun _ _ i _ => starts.length - (intOf i).toNat)
      case atStart => exact ⟨0, [], by omega, rfl, Lib.hid (Rows2.nil _ _ _ _ _), Ext.refl _⟩
      case round =>
        obtain ⟨k, us, hk, rfl, ho, hb⟩ := hrel
        by_cases hlt : k < starts.length
        · have hst := ri_at (HS.out.ext hb) hlt
          obtain ⟨b0, off, rfl, hbw, hcell⟩ := hst
          have HK := Lib.hid (cutLines_step (rs := rs) (length := length) hlt)
          generalize starts[k] = a at hcell HK
          obtain ⟨A2, c2, rfl, hou⟩ := ho.out.form
          have hul : us.length ≤ k := by
            have h1 := ho.out.len
            have h2 := List.length_filterMap_le (cut1 rs length) (starts.take k)
            simp at h1 h2
            omega
          cases hin : (decide (0 ≤ a) && decide (a ≤ (rs.length : Int) - length))
          · have HN := Lib.hid (cut_none hin)
            go_wp2_with (go_at_call 50; refine (within_any _ _ _ _).mono ?_; rintro e w1 ⟨rfl, rfl⟩; rw [hin])
            go_roundw
            case rel => exact ⟨k + 1, us, by omega, by go_num, Lib.hid (by rw [HK.out, HN.out]; simpa using ho.out), hb⟩
            case measure => simp [intOf]; omega
          · have HN := Lib.hid (cut_some hin)
            have hin2 := hin
            simp only [Bool.and_eq_true, decide_eq_true_eq] at hin2
            obtain ⟨p, rfl⟩ : ∃ p : Nat, a = p := ⟨a.toNat, by omega⟩
            obtain ⟨q, rfl⟩ : ∃ q : Nat, length = q := ⟨length.toNat, by omega⟩
            have hcl : (cutF rs p q).length = q := cutF_len (by omega)
            obtain ⟨b1, off1, rfl, hb1⟩ := rd_some H.out (by intro e; have := List.map_eq_nil_iff.1 e; subst this; simp at hin2; omega)
            have hclone := cloneF_any (some ⟨b1, off1 + p, none⟩) (c - p) (cutF rs p q) wr (rd_cut (H.out.ext hb) p q) (fun h => by cases h) (by rw [hcl]; omega)
            rw [hcl] at hclone
            go_wp2_with (first | (go_at_call 50; refine (within_any _ _ _ _).mono ?_; rintro e w1 ⟨rfl, rfl⟩; rw [hin]) | (go_at_call 53; refine hclone.mono ?_; rintro e w2 ⟨⟨u1, rfl, hu1⟩, hb2⟩; unfold OF at hu1; rw [hcl] at hu1; have hnew := fun b hb => (hu1.lt b hb).1; obtain ⟨A3, c3, rfl, -, -⟩ := own_slice hu1) | (at_builtin; refine wpList_app rfl _ _ 44 rfl w.heap.size 26 _ 1 24 Tryz.underlying44 info_sl rfl (by omega) (.slice A2 us.length c2) us.length us rfl (own_ext (own_ext hou hb2) ((Ext.refl _).alloc _)) _ 1 1 _ rfl (rd_new _ _ _ _) rfl (fun h => by cases h) (by intro u hu; simp at hu; rcases hu with rfl; rfl) (by unfold maxLen; omega) (by omega) (by have := hb.size; have := hb2.size; simp; omega) ?_; intro v1 w3 hown hg hat))
            go_roundw
            case rel =>
              have hR : Hid (OG w3 w.heap.size v1 (us ++ [.slice A3 q c3]) ((starts.take (k + 1)).filterMap (cut1 rs q))) := Lib.hid (by
                unfold OG
                rw [HK.out, HN.out]
                simp only [Option.toList_some, Int.toNat_natCast]
                rw [← rowsF_snoc, hcl]
                exact ((ho.out.ext hb2).ext ((Ext.refl _).alloc _)).snoc hown (own_base (own_ext hu1 ((Ext.refl _).alloc _)) hb.size) hg hat (Nat.le_refl _) ho.out.inR hnew)
              exact ⟨k + 1, _, by omega, by go_num, hR, ext_grow (base := w.heap.size) ((hb.trans hb2).alloc _) (own_ext (own_ext hou hb2) ((Ext.refl _).alloc _)) (Nat.le_refl _) hg⟩
            case measure => simp [intOf]; omega
        · go_wp2
          go_ret
          obtain rfl : k = starts.length := by omega
          exact ⟨⟨_, us, rfl, by rw [HE.out]; simpa using ho.out⟩, hb⟩
set_option maxRecDepth 100000 in
set_option maxHeartbeats 4000000 in
theorem sCutLines_any (A S : Option Addr) (c d : Nat) (rs : List Nat) (starts : List Int) (length : Int) (w : World) (h : Rd w A (rs.map fl)) (hs : Rd w S (starts.map it)) (hn : rs.length ≤ 1048576) (hm : starts.length ≤ 1048576) (hc : rs.length ≤ c) :
    Calls Tryz.prog 19 #[.slice A rs.length c, .slice S starts.length d, .int .i64 length] w fun e w' => (∃ v us, e = .returned v ∧ OG w' w.heap.size v us (cutLines rs starts length)) ∧ Ext w w' := by
  have H := Lib.hid h
  have HS := Lib.hid hs
  clear h hs
  have ha : Ext w (w.alloc (.cells #[] 26)) := (Ext.refl _).alloc _
  have hnew := Rows2.new w w.heap.size 26 22 1 (Nat.le_refl _)
  cases hl : (decide (28 ≤ length) && decide (length ≤ 280))
  · have HE : Hid (cutLines rs starts length = []) := Lib.hid (by unfold cutLines; rw [if_neg]; intro hx; simp [hx.1, hx.2.1] at hl)
    go_enter Tryz.func19, Tryz.ntmps19
    go_wp2_with (go_at_call 37; refine (sIn_any _ _ _ _).mono ?_; rintro e w1 ⟨rfl, rfl⟩; rw [hl])
    go_ret
    exact ⟨⟨_, [], rfl, by rw [HE.out]; exact hnew⟩, ha⟩
  · have hl2 := hl
    simp only [Bool.and_eq_true, decide_eq_true_eq] at hl2
    by_cases hbig : 20000 < rs.length
    · have HE : Hid (cutLines rs starts length = []) := Lib.hid (by unfold cutLines; rw [if_neg]; intro hx; omega)
      go_enter Tryz.func19, Tryz.ntmps19
      go_wp2_with (go_at_call 37; refine (sIn_any _ _ _ _).mono ?_; rintro e w1 ⟨rfl, rfl⟩; rw [hl])
      go_ret
      exact ⟨⟨_, [], rfl, by rw [HE.out]; exact hnew⟩, ha⟩
    · have HE : Hid (cutLines rs starts length = starts.filterMap (cut1 rs length)) := Lib.hid (by unfold cutLines; rw [if_pos]; omega)
      go_enter Tryz.func19, Tryz.ntmps19
      go_wp2_with (go_at_call 37; refine (sIn_any _ _ _ _).mono ?_; rintro e w1 ⟨rfl, rfl⟩; rw [hl])
      go_loopw [7, 8] (fun v i wr => ∃ (k : Nat) (us : List Value), k ≤ starts.length ∧ i = .int .i64 k ∧ Hid (OG wr w.heap.size v us ((starts.take k).filterMap (cut1 rs length))) ∧ Ext w wr) (fun _ i _ => starts.length - (intOf i).toNat)
      case atStart => exact ⟨0, [], by omega, rfl, Lib.hid hnew, ha⟩
      case round =>
        obtain ⟨k, us, hk, rfl, ho, hb⟩ := hrel
        clear hnew ha
        by_cases hlt : k < starts.length
        · have hst := ri_at (HS.out.ext hb) hlt
          obtain ⟨b0, off, rfl, hbw, hcell⟩ := hst
          have HK := Lib.hid (cutLines_step (rs := rs) (length := length) hlt)
          generalize starts[k] = a at hcell HK
          obtain ⟨A2, c2, rfl, hou⟩ := ho.out.form
          have hul : us.length ≤ k := by
            have h1 := ho.out.len
            have h2 := List.length_filterMap_le (cut1 rs length) (starts.take k)
            simp at h1 h2
            omega
          cases hin : (decide (0 ≤ a) && decide (a ≤ (rs.length : Int) - length))
          · have HN := Lib.hid (cut_none hin)
            go_wp2_with (go_at_call 37; refine (sIn_any _ _ _ _).mono ?_; rintro e w1 ⟨rfl, rfl⟩; rw [hin])
            go_roundw
            case rel => exact ⟨k + 1, us, by omega, by go_num, Lib.hid (by rw [HK.out, HN.out]; simpa using ho.out), hb⟩
            case measure => simp [intOf]; omega
          · have HN := Lib.hid (cut_some hin)
            have hin2 := hin
            simp only [Bool.and_eq_true, decide_eq_true_eq] at hin2
            obtain ⟨p, rfl⟩ : ∃ p : Nat, a = p := ⟨a.toNat, by omega⟩
            obtain ⟨q, rfl⟩ : ∃ q : Nat, length = q := ⟨length.toNat, by omega⟩
            have hcl : (cutF rs p q).length = q := cutF_len (by omega)
            obtain ⟨b1, off1, rfl, hb1⟩ := rd_some H.out (by intro e; have := List.map_eq_nil_iff.1 e; subst this; simp at hin2; omega)
            have hrc := Lib.hid (rd_cut (H.out.ext hb) p q)
            have hpq : p + q ≤ c := by omega
            have hcp : ¬ c = p := by omega
            have hw0 : IntKind.i64.wrap ((p : Int) + (q : Int)) = (p : Int) + (q : Int) := by rw [IntKind.wrap_i64]; omega
            have hw1 : (0 : Int) ≤ (p : Int) + (q : Int) := by omega
            have hw2 : (p : Int) + (q : Int) ≤ (c : Int) := by omega
            have hw3 : ((p : Int) + (q : Int)).toNat = p + q := by omega
            go_wp2_with (go_at_call 37; refine (sIn_any _ _ _ _).mono ?_; rintro e w1 ⟨rfl, rfl⟩; rw [hin])
            go_region_law (first | (refine step_app rfl _ _ 26 rfl wr.heap.size 22 _ 1 4 Tryz.underlying26 info_f32 rfl (by omega) (.slice (some ⟨wr.heap.size, 0, none⟩) 0 0) 0 [] rfl (own_ext (own_new wr _ _ 1 (Nat.le_refl _)) (by (repeat (first | exact Below.refl _ _ | assumption | refine below_drewN ?_ _ | refine Below.drew ?_ | refine Below.alloc ?_ (by first | exact Nat.le_refl _ | (simp; done) | (simp; omega)) _ | refine Below.setCell ?_ (by first | exact Nat.le_refl _ | (simp; done) | (simp; omega)) _)))) (some ⟨b1, off1 + p, none⟩) q _ ((cutF rs p q).map fl) rfl (hrc.out.ext (by (repeat (first | exact Below.refl _ _ | assumption | refine below_drewN ?_ _ | refine Below.drew ?_ | refine Below.alloc ?_ (by first | exact Nat.le_refl _ | (simp; done) | (simp; omega)) _ | refine Below.setCell ?_ (by first | exact Nat.le_refl _ | (simp; done) | (simp; omega)) _)))) (by rw [List.length_map, hcl, Nat.mul_one]) (fun h => by cases h) oneCell_fl (by unfold maxLen; omega) (by omega) (by simp) ?_; intro u1 w2 hu1 hg2 hat2; have hx2 : Ext wr w2 := ext_grow (by (repeat (first | exact Below.refl _ _ | assumption | refine below_drewN ?_ _ | refine Below.drew ?_ | refine Below.alloc ?_ (by first | exact Nat.le_refl _ | (simp; done) | (simp; omega)) _ | refine Below.setCell ?_ (by first | exact Nat.le_refl _ | (simp; done) | (simp; omega)) _))) (own_ext (own_new wr wr.heap.size 22 1 (Nat.le_refl _)) (by (repeat (first | exact Below.refl _ _ | assumption | refine below_drewN ?_ _ | refine Below.drew ?_ | refine Below.alloc ?_ (by first | exact Nat.le_refl _ | (simp; done) | (simp; omega)) _ | refine Below.setCell ?_ (by first | exact Nat.le_refl _ | (simp; done) | (simp; omega)) _)))) (Nat.le_refl _) hg2; rw [Nat.zero_add, List.nil_append] at hu1; have hnew := fun b hb => (hu1.lt b hb).1; obtain ⟨A3, c3, rfl, -, -⟩ := own_slice hu1) | (refine step_app rfl _ _ 44 rfl w.heap.size 26 _ 1 24 Tryz.underlying44 info_sl rfl (by omega) (.slice A2 us.length c2) us.length us rfl (own_ext (own_ext hou hx2) (by (repeat (first | exact Below.refl _ _ | assumption | refine below_drewN ?_ _ | refine Below.drew ?_ | refine Below.alloc ?_ (by first | exact Nat.le_refl _ | (simp; done) | (simp; omega)) _ | refine Below.setCell ?_ (by first | exact Nat.le_refl _ | (simp; done) | (simp; omega)) _)))) _ 1 1 _ rfl (rd_new _ _ _ _) rfl (fun h => by cases h) (by intro u hu; simp at hu; rcases hu with rfl; rfl) (by unfold maxLen; omega) (by omega) (by have := hb.size; have := hx2.size; simp; omega) ?_; intro v1 w3 hown hg hat))
            all_goals go_wp2
            all_goals go_roundw
            all_goals first | (simp [intOf]; done) | (simp [intOf]; omega) | skip
            all_goals (
              refine ⟨k + 1, us ++ [.slice A3 q c3], by omega, by go_num, ?_, ext_grow (base := w.heap.size) ((hb.trans hx2).trans (by (repeat (first | exact Below.refl _ _ | assumption | refine below_drewN ?_ _ | refine Below.drew ?_ | refine Below.alloc ?_ (by first | exact Nat.le_refl _ | (simp; done) | (simp; omega)) _ | refine Below.setCell ?_ (by first | exact Nat.le_refl _ | (simp; done) | (simp; omega)) _)))) (own_ext (own_ext hou hx2) (by (repeat (first | exact Below.refl _ _ | assumption | refine below_drewN ?_ _ | refine Below.drew ?_ | refine Below.alloc ?_ (by first | exact Nat.le_refl _ | (simp; done) | (simp; omega)) _ | refine Below.setCell ?_ (by first | exact Nat.le_refl _ | (simp; done) | (simp; omega)) _)))) (Nat.le_refl _) hg⟩
              refine Lib.hid ?_
              unfold OG
              rw [HK.out, HN.out]
              simp only [Option.toList_some, Int.toNat_natCast]
              rw [← rowsF_snoc, hcl]
              exact ((ho.out.ext hx2).ext (by (repeat (first | exact Below.refl _ _ | assumption | refine below_drewN ?_ _ | refine Below.drew ?_ | refine Below.alloc ?_ (by first | exact Nat.le_refl _ | (simp; done) | (simp; omega)) _ | refine Below.setCell ?_ (by first | exact Nat.le_refl _ | (simp; done) | (simp; omega)) _)))).snoc hown (own_base (own_ext hu1 (by (repeat (first | exact Below.refl _ _ | assumption | refine below_drewN ?_ _ | refine Below.drew ?_ | refine Below.alloc ?_ (by first | exact Nat.le_refl _ | (simp; done) | (simp; omega)) _ | refine Below.setCell ?_ (by first | exact Nat.le_refl _ | (simp; done) | (simp; omega)) _)))) hb.size) hg hat (Nat.le_refl _) ho.out.inR hnew)
        · go_wp2
          go_ret
          obtain rfl : k = starts.length := by omega
          exact ⟨⟨_, us, rfl, by rw [HE.out]; simpa using ho.out⟩, hb⟩
end Go.Proofs.YtiddaabodkglmaaGreat
end

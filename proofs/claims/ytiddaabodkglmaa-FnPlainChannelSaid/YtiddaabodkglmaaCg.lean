import Derived.Test.YtiddaabodkglmaaCf
import Derived.Test.YtiddaabodkglmaaMa
namespace Go.Proofs.Ytiddaabodkglmaa
open Go.RowKit Go.Fx
set_option linter.unusedVariables false
set_option linter.unusedSimpArgs false

@[go_sem] theorem eql_nil_f32 (w : World) (a : Option Addr) (n c : Nat) : (binOp .eql 22 (.slice a n c) (.slice none 0 0)).run Try.prog w = .ok (.bool a.isNone) w := Lib.run_eql_slice_nil w _ _ a n c 0 0 Try.underlying22

set_option maxRecDepth 100000 in
theorem cloneF_any (A : Option Addr) (c : Nat) (rs : List Nat) (w : World) (h : Rd w A (rs.map fl)) (hA : A = none → rs.length = 0) (hn : rs.length ≤ 1048576) :
    Calls Try.prog 148 #[.slice A rs.length c] w fun e w' => (∃ v, e = .returned v ∧ OF w' w.heap.size v rs) ∧ Ext w w' := by
  cases A with
  | none =>
    have h0 := List.eq_nil_of_length_eq_zero (hA rfl)
    subst h0
    go_enter Try.func148, Try.ntmps148
    go_wp2
    go_ret
    exact ⟨⟨_, rfl, World.ownsRow_nil _ _ _ _⟩, Ext.refl _⟩
  | some ad =>
    go_enter Try.func148, Try.ntmps148
    go_wp2_with (at_builtin; refine wpList_app rfl _ _ 22 rfl w.heap.size 29 _ 1 4 Try.underlying22 info_f32 rfl (by omega) (.slice (some ⟨w.heap.size, 0, none⟩) 0 0) 0 [] rfl (own_new w _ _ 1 (Nat.le_refl _)) (some ad) rs.length c (rs.map fl) rfl (h.ext (by (repeat (first | exact Below.refl _ _ | assumption | refine below_drewN ?_ _ | refine Below.drew ?_ | refine Below.alloc ?_ (by first | exact Nat.le_refl _ | (simp; done) | (simp; omega)) _ | refine Below.setCell ?_ (by first | exact Nat.le_refl _ | (simp; done) | (simp; omega)) _)))) (by simp) (fun h => by cases h) oneCell_fl (by unfold maxLen; omega) (by omega) (by simp) ?_; intro v1 w1 hown hg hat)
    go_ret
    refine ⟨⟨_, rfl, by simpa using hown⟩, ext_grow (E := 29) (size := 1) (base := w.heap.size) (by (repeat (first | exact Below.refl _ _ | assumption | refine below_drewN ?_ _ | refine Below.drew ?_ | refine Below.alloc ?_ (by first | exact Nat.le_refl _ | (simp; done) | (simp; omega)) _ | refine Below.setCell ?_ (by first | exact Nat.le_refl _ | (simp; done) | (simp; omega)) _))) (own_new w _ _ 1 (Nat.le_refl _)) (Nat.le_refl _) hg⟩

set_option maxRecDepth 100000 in
theorem sErase_any (A : Option Addr) (c : Nat) (rs : List Nat) (at_ n : Int) (w : World) (h : Rd w A (rs.map fl)) (hA : A = none → rs.length = 0) (hn : rs.length ≤ 1048576) (hat1 : -9223372036854775808 ≤ at_) (hat2 : at_ ≤ 9223372036854775807) :
    Calls Try.prog 46 #[.slice A rs.length c, .int .i64 at_, .int .i64 n] w fun e w' => (∃ v, e = .returned v ∧ OF w' w.heap.size v (erase rs at_ n)) ∧ Ext w w' := by
  by_cases hN : 0 ≤ n ∧ n ≤ 280
  · obtain ⟨hN1, hN2⟩ := hN
    go_enter Try.func46, Try.ntmps46
    go_wp2_with (at_builtin; refine wpList_app rfl _ _ 22 rfl w.heap.size 29 _ 1 4 Try.underlying22 info_f32 rfl (by omega) (.slice (some ⟨w.heap.size, 0, none⟩) 0 0) 0 [] rfl (own_new w _ _ 1 (Nat.le_refl _)) A rs.length c (rs.map fl) rfl (h.ext (by (repeat (first | exact Below.refl _ _ | assumption | refine below_drewN ?_ _ | refine Below.drew ?_ | refine Below.alloc ?_ (by first | exact Nat.le_refl _ | (simp; done) | (simp; omega)) _ | refine Below.setCell ?_ (by first | exact Nat.le_refl _ | (simp; done) | (simp; omega)) _)))) (by simp) (by simpa using hA) oneCell_fl (by unfold maxLen; omega) (by omega) (by simp) ?_; intro v1 w1 hown hg hat)
    have hb1 := ext_grow (E := 29) (size := 1) (base := w.heap.size) (w0 := w) (by (repeat (first | exact Below.refl _ _ | assumption | refine below_drewN ?_ _ | refine Below.drew ?_ | refine Below.alloc ?_ (by first | exact Nat.le_refl _ | (simp; done) | (simp; omega)) _ | refine Below.setCell ?_ (by first | exact Nat.le_refl _ | (simp; done) | (simp; omega)) _))) (own_new w _ _ 1 (Nat.le_refl _)) (Nat.le_refl _) hg
    simp only [Nat.zero_add, List.nil_append] at hown
    clear hg hat
    obtain ⟨A1, c1, rfl, _, _⟩ := own_slice hown
    have HN := Lib.hid (show 0 ≤ n ∧ n ≤ 280 from ⟨hN1, hN2⟩)
    have hls : (((erase rs at_ n).map fl)).length = (rs.map fl).length := by simp [erase_len]
    go_loopw [8] (fun i wr => ∃ (k : Nat) (ys : List Value), k ≤ rs.length ∧ i = .int .i64 k ∧ Mix k ys ((erase rs at_ n).map fl) (rs.map fl) ∧ wr.ownsRow w.heap.size 29 1 (.slice A1 rs.length c1) rs.length ys ∧ Ext w wr) (fun i _ => rs.length - (intOf i).toNat)
    case atStart => exact ⟨0, _, Nat.zero_le _, rfl, Mix.start 0 hls (fun j hj => by omega), hown, hb1⟩
    case round =>
      obtain ⟨k, ys, hk, rfl, hu, ho, hb⟩ := hrel
      clear hls hown
      by_cases hlt : k < rs.length
      · obtain ⟨g, rfl, hbw, hgs⟩ := own_at ho (by omega)
        have hf := own_frozen ho k
        have hl : k < ys.length := by have := hu.len; simp at this; omega
        have hcell : ∃ u, wr.cell? ⟨g, k, none⟩ = some u := ⟨_, own_cell ho (List.getElem?_eq_getElem hl)⟩
        obtain ⟨u0, hcell⟩ := hcell
        have HE := Lib.hid (erase_at (at_ := at_) HN.out hlt)
        by_cases hin : at_ ≤ k ∧ k < at_ + n
        · obtain ⟨hi1, hi2⟩ := hin
          have HE' := HE.out
          rw [if_pos ⟨hi1, hi2⟩] at HE'
          have HM := Lib.hid (hu.set HE')
          clear HE'
          go_wp2_with (first | (go_at_call 135; refine (sIn_any _ _ _ _).mono ?_; rintro e w1 ⟨rfl, rfl⟩))
          go_roundw
          case rel => exact ⟨k + 1, _, by omega, by go_num, HM.out, own_set ho _, by (repeat (first | exact Below.refl _ _ | assumption | refine below_drewN ?_ _ | refine Below.drew ?_ | refine Below.alloc ?_ (by first | exact Nat.le_refl _ | (simp; done) | (simp; omega)) _ | refine Below.setCell ?_ (by first | exact Nat.le_refl _ | (simp; done) | (simp; omega)) _))⟩
          case measure => simp [intOf]; omega
        · have HE' := HE.out
          rw [if_neg hin] at HE'
          have HM := Lib.hid (hu.keep (by rw [HE']; simp [hlt]))
          clear HE'
          by_cases hi1 : at_ ≤ k
          · have hi2 : ¬ (k : Int) < at_ + n := fun h => hin ⟨hi1, h⟩
            clear hin
            go_wp2_with (first | (go_at_call 135; refine (sIn_any _ _ _ _).mono ?_; rintro e w1 ⟨rfl, rfl⟩))
            go_roundw
            case rel => exact ⟨k + 1, _, by omega, by go_num, HM.out, ho, by (repeat (first | exact Below.refl _ _ | assumption | refine below_drewN ?_ _ | refine Below.drew ?_ | refine Below.alloc ?_ (by first | exact Nat.le_refl _ | (simp; done) | (simp; omega)) _ | refine Below.setCell ?_ (by first | exact Nat.le_refl _ | (simp; done) | (simp; omega)) _))⟩
            case measure => simp [intOf]; omega
          · clear hin
            go_wp2_with (first | (go_at_call 135; refine (sIn_any _ _ _ _).mono ?_; rintro e w1 ⟨rfl, rfl⟩))
            go_roundw
            case rel => exact ⟨k + 1, _, by omega, by go_num, HM.out, ho, by (repeat (first | exact Below.refl _ _ | assumption | refine below_drewN ?_ _ | refine Below.drew ?_ | refine Below.alloc ?_ (by first | exact Nat.le_refl _ | (simp; done) | (simp; omega)) _ | refine Below.setCell ?_ (by first | exact Nat.le_refl _ | (simp; done) | (simp; omega)) _))⟩
            case measure => simp [intOf]; omega
      · go_wp2_with (first | (go_at_call 135; refine (sIn_any _ _ _ _).mono ?_; rintro e w1 ⟨rfl, rfl⟩))
        go_ret
        obtain rfl : k = rs.length := by omega
        have hd := hu.done (fun j hj => by rw [List.getElem?_eq_none (by simp [erase_len]; omega), List.getElem?_eq_none (by simp; omega)])
        subst hd
        refine ⟨⟨.slice A1 rs.length c1, rfl, ?_⟩, hb⟩
        unfold OF
        rw [erase_len]
        exact ho
  · rw [erase_none hN]
    have hN' : (decide (0 ≤ n) && decide (n ≤ 280)) = false := by
      rw [← Bool.decide_and]; simpa using hN
    clear hN
    go_enter Try.func46, Try.ntmps46
    go_wp2_with (at_builtin; refine wpList_app rfl _ _ 22 rfl w.heap.size 29 _ 1 4 Try.underlying22 info_f32 rfl (by omega) (.slice (some ⟨w.heap.size, 0, none⟩) 0 0) 0 [] rfl (own_new w _ _ 1 (Nat.le_refl _)) A rs.length c (rs.map fl) rfl (h.ext (by (repeat (first | exact Below.refl _ _ | assumption | refine below_drewN ?_ _ | refine Below.drew ?_ | refine Below.alloc ?_ (by first | exact Nat.le_refl _ | (simp; done) | (simp; omega)) _ | refine Below.setCell ?_ (by first | exact Nat.le_refl _ | (simp; done) | (simp; omega)) _)))) (by simp) (by simpa using hA) oneCell_fl (by unfold maxLen; omega) (by omega) (by simp) ?_; intro v1 w1 hown hg hat)
    have hb1 := ext_grow (E := 29) (size := 1) (base := w.heap.size) (w0 := w) (by (repeat (first | exact Below.refl _ _ | assumption | refine below_drewN ?_ _ | refine Below.drew ?_ | refine Below.alloc ?_ (by first | exact Nat.le_refl _ | (simp; done) | (simp; omega)) _ | refine Below.setCell ?_ (by first | exact Nat.le_refl _ | (simp; done) | (simp; omega)) _))) (own_new w _ _ 1 (Nat.le_refl _)) (Nat.le_refl _) hg
    simp only [Nat.zero_add, List.nil_append] at hown
    clear hg hat
    obtain ⟨A1, c1, rfl, _, _⟩ := own_slice hown
    go_loopw [8] (fun i wr => i = .int .i64 0 ∧ wr.ownsRow w.heap.size 29 1 (.slice A1 rs.length c1) rs.length (rs.map fl) ∧ Ext w wr) (fun i _ => 0)
    case atStart => exact ⟨rfl, hown, hb1⟩
    case round =>
      obtain ⟨rfl, ho, hb⟩ := hrel
      clear hown
      by_cases hz : 0 < rs.length
      · go_wp2_with (first | (go_at_call 135; refine (sIn_any _ _ _ _).mono ?_; rintro e w1 ⟨rfl, rfl⟩))
        go_ret
        exact ⟨⟨_, rfl, ho⟩, hb⟩
      · go_wp2_with fail
        go_ret
        exact ⟨⟨_, rfl, ho⟩, hb⟩
end Go.Proofs.Ytiddaabodkglmaa

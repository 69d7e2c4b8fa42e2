import Derived.Test.YtiddaabodkglmaaK2
import Derived.Test.YtiddaabodkglmaaK1
namespace Go.Proofs.Ytiddaabodkglmaa
open Go.RowKit Go.Fx
set_option linter.unusedVariables false
set_option linter.unusedSimpArgs false

set_option maxRecDepth 100000 in
theorem iErase_any (A : Option Addr) (c : Nat) (rs : List Nat) (at_ n : Int) (w : World) (h : Rd w A (rs.map fl)) (hA : A = none → rs.length = 0) (hn : rs.length ≤ 1048576) (hat1 : -9223372036854775808 ≤ at_) (hat2 : at_ ≤ 9223372036854775807) :
    Calls Try.prog 47 #[.slice A rs.length c, .int .i64 at_, .int .i64 n] w fun e w' => (∃ v, e = .returned v ∧ OF w' w.heap.size v (erase rs at_ n)) ∧ Ext w w' := by
  by_cases hN : 0 ≤ n ∧ n ≤ 280
  · obtain ⟨hN1, hN2⟩ := hN
    by_cases hpast : (rs.length : Int) ≤ at_
    · rw [erase_past hpast]
      go_enter Try.func47, Try.ntmps47
      go_wp2_with (first | (go_at_call 148; refine (cloneF_any A c rs _ h hA hn).mono ?_; rintro e w1 ⟨⟨v1, rfl, hown⟩, hb1⟩) | (go_at_call 137; refine (within_any _ _ _ _).mono ?_; rintro e w2 ⟨rfl, rfl⟩))
      go_ret
      exact ⟨⟨_, rfl, hown⟩, hb1⟩
    · have HN := Lib.hid (show 0 ≤ n ∧ n ≤ 280 from ⟨hN1, hN2⟩)
      have hls : (((erase rs at_ n).map fl)).length = (rs.map fl).length := by simp [erase_len]
      go_enter Try.func47, Try.ntmps47
      go_wp2_with (first | (go_at_call 148; refine (cloneF_any A c rs _ h hA hn).mono ?_; rintro e w1 ⟨⟨v1, rfl, hown⟩, hb1⟩; obtain ⟨A1, c1, rfl, _, _⟩ := own_slice hown) | (go_at_call 137; refine (within_any _ _ _ _).mono ?_; rintro e w2 ⟨rfl, rfl⟩))
      all_goals (
        have hst : at_.toNat ≤ rs.length := by omega
        go_loopw [8] (fun i wr => ∃ (k : Nat) (ys : List Value), k ≤ rs.length ∧ at_.toNat ≤ k ∧ i = .int .i64 k ∧ Mix k ys ((erase rs at_ n).map fl) (rs.map fl) ∧ wr.ownsRow w.heap.size 29 1 (.slice A1 rs.length c1) rs.length ys ∧ Ext w wr) (fun i _ => rs.length - (intOf i).toNat)
        case atStart =>
          refine ⟨at_.toNat, _, hst, Nat.le_refl _, by first | (congr 1; omega) | (simp; omega), Mix.start _ hls (fun j hj => ?_), hown, hb1⟩
          rw [erase_at HN.out (by omega), if_neg (by omega)]
          simp [show j < rs.length by omega]
        case round =>
          obtain ⟨k, ys, hk, hk0, rfl, hu, ho, hb⟩ := hrel
          clear hls hown
          by_cases hlt : k < rs.length
          · by_cases hin : (k : Int) < at_ + n
            · obtain ⟨g, rfl, hbw, hgs⟩ := own_at ho (by omega)
              have hf := own_frozen ho k
              have hl : k < ys.length := by have := hu.len; simp at this; omega
              have hcell : ∃ u, wr.cell? ⟨g, k, none⟩ = some u := ⟨_, own_cell ho (List.getElem?_eq_getElem hl)⟩
              obtain ⟨u0, hcell⟩ := hcell
              have HE' := erase_at (at_ := at_) HN.out hlt
              rw [if_pos ⟨by omega, hin⟩] at HE'
              have HM := Lib.hid (hu.set HE')
              clear HE'
              go_wp2_with fail
              go_roundw
              case rel => exact ⟨k + 1, _, by omega, by omega, by go_num, HM.out, own_set ho _, by (repeat (first | exact Below.refl _ _ | assumption | refine below_drewN ?_ _ | refine Below.drew ?_ | refine Below.alloc ?_ (by first | exact Nat.le_refl _ | (simp; done) | (simp; omega)) _ | refine Below.setCell ?_ (by first | exact Nat.le_refl _ | (simp; done) | (simp; omega)) _))⟩
              case measure => simp [intOf]; omega
            · go_wp2_with fail
              go_ret
              have hd := hu.done (fun j hj => by
                by_cases hjl : j < rs.length
                · rw [erase_at HN.out hjl, if_neg (by omega)]; simp [hjl]
                · rw [List.getElem?_eq_none (by simp [erase_len]; omega), List.getElem?_eq_none (by simp; omega)])
              subst hd
              refine ⟨⟨.slice A1 rs.length c1, rfl, ?_⟩, hb⟩
              unfold OF
              rw [erase_len]
              exact ho
          · go_wp2_with fail
            all_goals go_ret
            all_goals have hd := hu.done (fun j hj => by rw [List.getElem?_eq_none (by simp [erase_len]; omega), List.getElem?_eq_none (by simp; omega)])
            all_goals subst hd
            all_goals refine ⟨⟨.slice A1 rs.length c1, rfl, ?_⟩, hb⟩
            all_goals unfold OF
            all_goals rw [erase_len]
            all_goals exact ho)
  · rw [erase_none hN]
    have hN' : (decide (0 ≤ n) && decide (n ≤ 280)) = false := by
      rw [← Bool.decide_and]; simpa using hN
    clear hN
    go_enter Try.func47, Try.ntmps47
    go_wp2_with (first | (go_at_call 148; refine (cloneF_any A c rs _ h hA hn).mono ?_; rintro e w1 ⟨⟨v1, rfl, hown⟩, hb1⟩) | (go_at_call 137; refine (within_any _ _ _ _).mono ?_; rintro e w2 ⟨rfl, rfl⟩))
    go_ret
    exact ⟨⟨_, rfl, hown⟩, hb1⟩
end Go.Proofs.Ytiddaabodkglmaa

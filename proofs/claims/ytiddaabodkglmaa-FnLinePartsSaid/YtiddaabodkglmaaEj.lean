import Derived.Test.YtiddaabodkglmaaEr
import Derived.Test.YtiddaabodkglmaaEf
import Derived.Test.YtiddaabodkglmaaDe
namespace Go.Proofs.Ytiddaabodkglmaa
open Go.RowKit Go.Fx
set_option linter.unusedVariables false
set_option linter.unusedSimpArgs false
set_option maxRecDepth 100000 in
set_option maxHeartbeats 4000000 in
theorem drawLineOk_any (A : Option Addr) (c : Nat) (bs : List Int) (w : World) (h : Rd w A (bs.map by8)) (hn : bs.length ≤ 1048576) (hb : ∀ x ∈ bs, 0 ≤ x ∧ x ≤ 255) :
    Calls Try.prog 106 #[.slice A bs.length c] w fun e w' => (∃ (A : Option Addr) (c : Nat) (gs : List Nat), e = .returned (.slice A gs.length c) ∧ Rd w' A (gs.map fl) ∧ (A = none → gs.length = 0) ∧ gs.length ≤ c ∧ gs.length ≤ 300) ∧ Ext w w' := by
  go_enter Try.func106, Try.ntmps106
  go_wp2_with fail
  refine (new_any A c bs _ h hn hb).mono ?_
  rintro e w1 ⟨⟨bk, rfl, hbk, hbz, hcu⟩, hb1⟩
  go_wp2_with fail
  refine (line_any bk _ hcu).mono ?_
  rintro e w2 ⟨⟨A2, c2, gs, rfl, hd, hl⟩, hc2⟩
  go_wp2_with fail
  go_ret
  exact ⟨⟨A2, c2, gs, rfl, hd.1, hd.2.1, hd.2.2.1, hl⟩, ext_turn hb1 hc2.2 hbk⟩
set_option maxRecDepth 100000 in
theorem iCellsNot_any (A : Option Addr) (c : Nat) (rs : List Nat) (w : World) (h : Rd w A (rs.map fl)) (hn : rs.length ≤ maxLen) (hl : lineOk rs = false) :
    Calls Try.prog 109 #[.slice A rs.length c] w fun e w' => e = .returned (.slice none 0 0) ∧ w = w' := by
  have H := Lib.hid h
  clear h
  have hp : Calls Try.prog 190 #[.slice A rs.length c, .int .i64 24, .int .i64 rs.length] w fun e w' => e = .returned (.slice none 0 0) ∧ w = w' := by
    go_enter Try.func190, Try.ntmps190
    go_wp2_with (first | (go_at_call 161; refine (iLineOk_any _ _ _ _ H.out hn).mono ?_; rintro e w1 ⟨rfl, rfl⟩))
    go_ret
    exact ⟨rfl, rfl⟩
  unfold maxLen at hn
  go_enter Try.func109, Try.ntmps109
  go_wp2_with (go_at_call 190; refine hp.mono ?_; rintro e w1 ⟨rfl, rfl⟩)
  go_ret
  exact ⟨rfl, rfl⟩
set_option maxRecDepth 100000 in
set_option maxHeartbeats 4000000 in
theorem lineParts_walk (A0 : Option Addr) (c0 : Nat) (code : List Int) (w : World) (h0 : Rd w A0 (code.map by8)) (hm0 : code.length ≤ maxLen) (hb0 : ∀ x ∈ code, 0 ≤ x ∧ x ≤ 255) :
    Calls Try.prog 23 #[.slice A0 code.length c0] w fun e w' => e = .returned (.bool true) ∧ Ext w w' := by
  have hM0 := hm0
  unfold maxLen at hM0
  have H0 := Lib.hid h0
  have HB0 := Lib.hid hb0
  clear h0 hb0
  by_cases hbig : 1048576 < code.length
  · go_enter Try.func23, Try.ntmps23
    go_wp2_with (go_at_call 39; refine (big_any _ _ _ _ hM0).mono ?_; rintro e w1 ⟨rfl, rfl⟩)
    go_ret
    exact ⟨rfl, Ext.refl _⟩
  have hn0 : code.length ≤ 1048576 := by omega
  go_enter Try.func23, Try.ntmps23
  go_wp2_with (go_at_call 39; refine (big_any _ _ _ _ hM0).mono ?_; rintro e w1 ⟨rfl, rfl⟩)
  refine (drawLineOk_any A0 c0 code _ H0.out hn0 HB0.out).mono ?_
  rintro e w1 ⟨⟨A, c, gs, rfl, hr, hA, hcp, hl⟩, hb1⟩
  have hm : gs.length ≤ maxLen := by unfold maxLen; omega
  go_wp2_with fail
  refine (iPulseOf_any A c gs _ hr hm hcp).mono ?_
  rintro e w2 ⟨⟨v2, rfl, ho2⟩, hb2⟩
  replace hr := hr.ext hb2
  replace hb2 := hb1.trans hb2
  cases hok : lineOk gs
  · have e1 : pulseOf gs = [] := by unfold pulseOf; rw [hok]; rfl
    have e2 : burstOf gs = [] := by unfold burstOf; rw [hok]; rfl
    unfold OF at ho2
    rw [e1] at ho2
    obtain ⟨A2, c2, rfl, -, z2⟩ := own_slice ho2
    go_wp2_with fail
    refine (iBurstOf_any A c gs _ hr hm hcp).mono ?_
    rintro e w3 ⟨⟨v3, rfl, ho3⟩, hb3⟩
    replace hr := hr.ext hb3
    replace hb3 := hb2.trans hb3
    unfold OF at ho3
    rw [e2] at ho3
    obtain ⟨A3, c3, rfl, -, z3⟩ := own_slice ho3
    go_wp2_with fail
    refine (iCellsNot_any A c gs _ hr hm hok).mono ?_
    rintro e w4 ⟨rfl, rfl⟩
    have hs := sLineOk_any A c gs _ hr hm
    rw [hok] at hs
    go_wp2_with (go_at_call 110; refine Calls.mono hs ?_; rintro e w5 ⟨rfl, rfl⟩)
    go_ret
    exact ⟨rfl, hb3⟩
  · have hll := lineOk_len hok
    have e1 : pulseOf gs = cutF gs 0 8 := by unfold pulseOf; rw [hok]; rfl
    have e2 : burstOf gs = cutF gs 8 16 := by unfold burstOf; rw [hok]; rfl
    have hl1 : (cutF gs 0 8).length = 8 := cutF_len (by omega)
    have hl2 : (cutF gs 8 16).length = 16 := cutF_len (by omega)
    have hl3 : (cutF gs 24 (gs.length - 24)).length = gs.length - 24 := cutF_len (by omega)
    have hall : (cutF gs 0 8 ++ cutF gs 8 16) ++ cutF gs 24 (gs.length - 24) = gs := by
      apply List.ext_getElem
      · rw [List.length_append, List.length_append, hl1, hl2, hl3]; omega
      · intro k h1 h2
        by_cases hk1 : k < 8
        · rw [List.getElem_append_left (by rw [List.length_append, hl1, hl2]; omega), List.getElem_append_left (by rw [hl1]; omega)]
          simp [cutF]
        · by_cases hk2 : k < 24
          · rw [List.getElem_append_left (by rw [List.length_append, hl1, hl2]; omega), List.getElem_append_right (by rw [hl1]; omega)]
            simp only [cutF, List.getElem_take, List.getElem_drop, hl1]
            congr 1
            simp at hl1 ⊢; omega
          · rw [List.getElem_append_right (by rw [List.length_append, hl1, hl2]; omega)]
            simp only [cutF, List.getElem_take, List.getElem_drop]
            congr 1
            rw [List.length_append]
            have h81 := hl1
            have h82 := hl2
            unfold cutF at h81 h82
            rw [h81, h82]; omega
    unfold OF at ho2
    rw [e1, hl1] at ho2
    obtain ⟨A2, c2, rfl, -, z2⟩ := own_slice ho2
    go_wp2_with fail
    refine (iBurstOf_any A c gs _ hr hm hcp).mono ?_
    rintro e w3 ⟨⟨v3, rfl, ho3⟩, hb3⟩
    replace hr := hr.ext hb3
    have hr2 := (own_rd ho2).ext hb3
    replace hb3 := hb2.trans hb3
    unfold OF at ho3
    rw [e2, hl2] at ho3
    obtain ⟨A3, c3, rfl, hr3, z3⟩ := own_slice ho3
    go_wp2_with fail
    refine (iCellsOf_any A c gs _ hr hm hcp hok).mono ?_
    rintro e w4 ⟨⟨v4, rfl, ho4⟩, hb4⟩
    replace hr := hr.ext hb4
    replace hr2 := hr2.ext hb4
    replace hr3 := hr3.ext hb4
    replace hb4 := hb3.trans hb4
    unfold OF at ho4
    rw [hl3] at ho4
    obtain ⟨m, hm4⟩ : ∃ m, gs.length - 24 = m := ⟨_, rfl⟩
    rw [hm4] at ho4 hl3 hall
    obtain ⟨A4, c4, rfl, hr4, z4⟩ := own_slice ho4
    have hs := sLineOk_any A c gs _ hr hm
    rw [hok] at hs
    have ha : Ext w4 (w4.alloc (.cells #[] 29)) := (Ext.refl _).alloc _
    have hnew := own_new w4 w4.heap.size 29 1 (Nat.le_refl _)
    generalize cutF gs 0 8 = p1 at hr2 hl1 hall
    generalize cutF gs 8 16 = p2 at hr3 hl2 hall
    generalize cutF gs 24 m = p3 at hr4 hl3 hall
    have hgl : gs.length = 24 + m := by omega
    have hm5 : m ≤ 276 := by omega
    have hm6 : 4 ≤ m := by omega
    have HL1 := Lib.hid hl1
    have HL2 := Lib.hid hl2
    have HL3 := Lib.hid hl3
    have HG := Lib.hid hgl
    have HALL := Lib.hid hall
    rw [hgl] at hs hm
    have hrr := Lib.hid hr
    clear ho2 ho3 ho4 hb2 hb3 hb1 hl1 hl2 hl3 hall e1 e2 hok hll hm4 hl
    rw [hgl]
    clear hgl hcp hA
    go_wp2_with fail
    refine Calls.mono hs ?_
    rintro e w5 ⟨rfl, rfl⟩
    clear hs
    go_wp2_with (first
      | (at_builtin; refine wpList_app rfl _ _ 22 rfl w4.heap.size 29 _ 1 4 Try.underlying22 info_f32 rfl (by omega) (.slice (some ⟨w4.heap.size, 0, none⟩) 0 0) 0 [] rfl hnew A2 8 c2 (p1.map fl) rfl (hr2.ext ha) (by rw [List.length_map, HL1.out]) z2 oneCell_fl (by unfold maxLen; omega) (by omega) ha.size ?_; intro v5 w5 hown5 hg5 hat5; have hx5 := ext_grow (base := w4.heap.size) ha hnew (Nat.le_refl _) hg5)
      | (at_builtin; refine wpList_app rfl _ _ 22 rfl w4.heap.size 29 _ 1 4 Try.underlying22 info_f32 rfl (by omega) v5 (0 + 8) ([] ++ p1.map fl) rfl hown5 A3 16 c3 (p2.map fl) rfl (hr3.ext hx5) (by rw [List.length_map, HL2.out]) z3 oneCell_fl (by unfold maxLen; omega) (by omega) hx5.size ?_; intro v6 w6 hown6 hg6 hat6; have hx6 := ext_grow (base := w4.heap.size) hx5 hown5 (Nat.le_refl _) hg6)
      | (at_builtin; refine wpList_app rfl _ _ 22 rfl w4.heap.size 29 _ 1 4 Try.underlying22 info_f32 rfl (by omega) v6 (0 + 8 + 16) (([] ++ p1.map fl) ++ p2.map fl) rfl hown6 A4 m c4 (p3.map fl) rfl (hr4.ext hx6) (by rw [List.length_map, HL3.out, Nat.mul_one]) z4 oneCell_fl (by unfold maxLen; omega) (by omega) hx6.size ?_; intro v7 w7 hown7 hg7 hat7; have hx7 := ext_grow (base := w4.heap.size) hx6 hown6 (Nat.le_refl _) hg7))
    have hown : w7.ownsRow w4.heap.size 29 1 v7 (24 + m) (gs.map fl) := by
      have e1 : (([] : List Value) ++ p1.map fl) ++ p2.map fl ++ p3.map fl = gs.map fl := by rw [← HALL.out]; simp
      rw [e1] at hown7
      have e2 : 0 + 8 + 16 + m = 24 + m := by omega
      rw [e2] at hown7
      exact hown7
    obtain ⟨A7, c7, rfl, -, -⟩ := own_slice hown
    have hss := sameS_any A7 A c7 c gs gs w7 (own_rd hown) (hrr.out.ext hx7) (by rw [HG.out]; exact hm) rfl
    rw [HG.out] at hss
    clear hown7 hown6 hown5 hown hnew hg5 hg6 hg7 hat5 hat6 hat7 ha hx5 hx6
    refine Calls.mono hss ?_
    rintro e w8 ⟨rfl, n8, rfl⟩
    have h4 : decide ((4 : Int) ≤ (m : Int)) = true := decide_eq_true (by omega)
    go_wp2_with fail
    go_ret
    exact ⟨rfl, hb4.trans (hx7.trans (Ext.drewN _ _))⟩
end Go.Proofs.Ytiddaabodkglmaa

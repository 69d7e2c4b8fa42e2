import Derived.Test.YtiddaabodkglmaaCv
import Derived.Test.YtiddaabodkglmaaK2
namespace Go.Proofs.Ytiddaabodkglmaa
open Go.RowKit Go.Fx
set_option linter.unusedVariables false
set_option linter.unusedSimpArgs false
theorem own_ne {v v1 : Value} {b n : Nat} (hat : v1.ownBlock = v.ownBlock ∨ v1.ownBlock = some n) (h : v.ownBlock ≠ some b) (hn : n ≠ b) : v1.ownBlock ≠ some b := by
  rcases hat with e | e
  · rw [e]; exact h
  · rw [e]; simpa using hn
/-- a fresh row of ints -/
abbrev OI' (w : World) (base : Nat) (v : Value) (rs : List Int) : Prop := w.ownsRow base 3 1 v rs.length (rs.map it)
set_option maxRecDepth 100000 in
set_option maxHeartbeats 4000000 in
theorem sStarts_any (A : Option Addr) (c : Nat) (rs : List Nat) (x : Nat) (length gap : Int) (w : World) (h : Rd w A (rs.map fl)) (hn : rs.length ≤ 1048576) :
    Calls Try.prog 91 #[.slice A rs.length c, .float .f32 x, .int .i64 length, .int .i64 gap] w fun e w' => (∃ v, e = .returned v ∧ OI' w' w.heap.size v (starts (lows rs x) rs.length length gap)) ∧ Ext w w' := by
  have H := Lib.hid h
  clear h
  have ha : Ext w (w.alloc (.cells #[] 3)) := (Ext.refl _).alloc _
  have hnew := own_new w w.heap.size 3 1 (Nat.le_refl _)
  have hbeg := lows_begin rs x
  have hll := lows_len rs x
  have hL := sLows_any A c rs x (w.alloc (.cells #[] 3)) (H.out.ext ha) (by unfold maxLen; omega)
  generalize lows rs x = runs at hbeg hll hL
  cases hok : startsOk runs rs.length length gap
  · have HS : Hid (starts runs rs.length length gap = []) := Lib.hid (by unfold starts; rw [hok]; rfl)
    cases hruns : runs with
    | nil =>
      subst hruns
      go_enter Try.func91, Try.ntmps91
      go_wp2_with (first | (go_at_call 60; refine hL.mono ?_; rintro e w1 ⟨⟨v, rfl, ho⟩, hb1⟩; obtain ⟨A1, c1, rfl, hr1, -⟩ := own_slice ho) | (go_at_call 135; refine (sIn_any _ _ _ _).mono ?_; rintro e w1 ⟨rfl, rfl⟩))
      go_ret
      exact ⟨⟨_, rfl, by rw [HS.out]; exact own_ext hnew hb1⟩, ha.trans hb1⟩
    | cons r rest =>
      subst hruns
      obtain ⟨r1, r2⟩ := r
      have hb := hbeg (r1, r2) (by simp)
      simp only [] at hb
      simp only [List.length_cons] at hll
      cases hl : (decide (28 ≤ length) && decide (length ≤ 280))
      · go_enter Try.func91, Try.ntmps91
        go_wp2_with (first | (go_at_call 60; refine hL.mono ?_; rintro e w1 ⟨⟨v, rfl, ho⟩, hb1⟩; obtain ⟨A1, c1, rfl, hr1, -⟩ := own_slice ho; obtain ⟨b0, off, rfl, hbw, hc0, hc1⟩ := rr_at hr1 (i := 0) (by simp); rw [Nat.zero_mul, Nat.add_zero] at hc0 hc1; simp only [List.getElem_cons_zero] at hc0 hc1) | (go_at_call 135; refine (sIn_any _ _ _ _).mono ?_; rintro e w1 ⟨rfl, rfl⟩; first | rw [hl] | rw [hg]))
        go_ret
        exact ⟨⟨_, rfl, by rw [HS.out]; exact own_ext hnew hb1⟩, ha.trans hb1⟩
      · cases hg : (decide (0 ≤ gap) && decide (gap ≤ 10))
        · go_enter Try.func91, Try.ntmps91
          go_wp2_with (first | (go_at_call 60; refine hL.mono ?_; rintro e w1 ⟨⟨v, rfl, ho⟩, hb1⟩; obtain ⟨A1, c1, rfl, hr1, -⟩ := own_slice ho; obtain ⟨b0, off, rfl, hbw, hc0, hc1⟩ := rr_at hr1 (i := 0) (by simp); rw [Nat.zero_mul, Nat.add_zero] at hc0 hc1; simp only [List.getElem_cons_zero] at hc0 hc1) | (go_at_call 135; refine (sIn_any _ _ _ _).mono ?_; rintro e w1 ⟨rfl, rfl⟩; first | rw [hl] | rw [hg]))
          go_ret
          exact ⟨⟨_, rfl, by rw [HS.out]; exact own_ext hnew hb1⟩, ha.trans hb1⟩
        · have hp : (rs.length : Int) < r1 + length := by
            unfold startsOk at hok
            simp only [] at hok
            rw [hl, hg] at hok
            simpa using hok
          have hl2 := hl
          simp only [Bool.and_eq_true, decide_eq_true_eq] at hl2
          go_enter Try.func91, Try.ntmps91
          go_wp2_with (first | (go_at_call 60; refine hL.mono ?_; rintro e w1 ⟨⟨v, rfl, ho⟩, hb1⟩; obtain ⟨A1, c1, rfl, hr1, -⟩ := own_slice ho; obtain ⟨b0, off, rfl, hbw, hc0, hc1⟩ := rr_at hr1 (i := 0) (by simp); rw [Nat.zero_mul, Nat.add_zero] at hc0 hc1; simp only [List.getElem_cons_zero] at hc0 hc1) | (go_at_call 135; refine (sIn_any _ _ _ _).mono ?_; rintro e w1 ⟨rfl, rfl⟩; first | rw [hl] | rw [hg]))
          go_ret
          exact ⟨⟨_, rfl, by rw [HS.out]; exact own_ext hnew hb1⟩, ha.trans hb1⟩
  · cases hruns : runs with
    | nil => subst hruns; unfold startsOk at hok; cases hok
    | cons r rest =>
      subst hruns
      obtain ⟨r1, r2⟩ := r
      have hb := hbeg (r1, r2) (by simp)
      simp only [] at hb
      have HS : Hid (starts ((r1, r2) :: rest) rs.length length gap = r1 :: startsGo ((r1, r2) :: rest) rs.length length gap (rs.length + 1) r1 0) := Lib.hid (by unfold starts; rw [if_pos hok]; rfl)
      have hl : (decide (28 ≤ length) && decide (length ≤ 280)) = true := by unfold startsOk at hok; simp only [Bool.and_eq_true] at hok ⊢; exact hok.1.1
      have hg : (decide (0 ≤ gap) && decide (gap ≤ 10)) = true := by unfold startsOk at hok; simp only [Bool.and_eq_true] at hok ⊢; exact hok.1.2
      have hp : r1 + length ≤ (rs.length : Int) := by unfold startsOk at hok; simp only [Bool.and_eq_true, decide_eq_true_eq] at hok; exact hok.2
      have hl2 := hl
      have hg3 := hg
      simp only [Bool.and_eq_true, decide_eq_true_eq] at hl2 hg3
      have hz : (((rest.length : Int) + 1) == 0) = false := by rw [beq_eq_false_iff_ne]; omega
      have hp2 : ¬ (rs.length : Int) < r1 + length := by omega
      simp only [List.length_cons] at hll
      clear hok
      go_enter Try.func91, Try.ntmps91
      go_wp2_with (first | (go_at_call 60; refine hL.mono ?_; rintro e w1 ⟨⟨v, rfl, ho⟩, hb1⟩; have hi1 := own_in ho; have hnew1 := own_ext hnew hb1; obtain ⟨A1, c1, rfl, hr1, -⟩ := own_slice ho; obtain ⟨b0, off, rfl, hbw, hc0, hc1⟩ := rr_at hr1 (i := 0) (by simp); rw [Nat.zero_mul, Nat.add_zero] at hc0 hc1; simp only [List.getElem_cons_zero] at hc0 hc1) | (go_at_call 135; refine (sIn_any _ _ _ _).mono ?_; rintro e w1 ⟨rfl, rfl⟩; first | rw [hl] | rw [hg]) | (at_builtin; refine wpList_app rfl _ _ 69 rfl w.heap.size 3 _ 1 8 Try.underlying69 info_int rfl (by omega) (.slice (some ⟨w.heap.size, 0, none⟩) 0 0) 0 [] rfl (own_ext hnew1 ((Ext.refl _).alloc _)) _ 1 1 _ rfl (rd_new _ _ _ _) rfl (fun h => by cases h) (by intro u hu; simp at hu; rcases hu with rfl; rfl) (by unfold maxLen; omega) (by omega) (by have := hb1.size; simp at this ⊢; omega) ?_; intro v1 w2 hown hg2 hat))
      have hgt : w.heap.size < b0 := by have := (hi1 b0 rfl).1; simp at this; omega
      have hown' : w2.ownsRow w.heap.size 3 1 v1 ([r1] : List Int).length (([r1] : List Int).map it) := by simpa using hown
      have hr2 : Rd w2 (some ⟨b0, off, none⟩) (rcells ((r1, r2) :: rest)) := Rd.grown (hr1.ext ((Ext.refl _).alloc _)) hg2 (fun ad h _ => by cases h; simp [Value.ownBlock]; omega)
      have hne : v1.ownBlock ≠ some b0 := by
        intro he
        rcases hat with h | h
        · rw [h] at he; simp [Value.ownBlock] at he; omega
        · rw [h] at he; simp at he; omega
      have hbz : b0 < w2.heap.size := by have := hg2.size; simp at this; omega
      have hb2 : Ext w w2 := ext_grow (base := w.heap.size) ((ha.trans hb1).alloc _) (own_ext hnew1 ((Ext.refl _).alloc _)) (Nat.le_refl _) hg2
      clear hL hnew hnew1 ho hi1 hr1 hc0 hc1 hown hat hg2 hb1 ha hbw
      go_loopw [9, 11, 12] (fun v a m wr => ∃ (acc : List Int) (at_ missed : Int) (f : Nat), a = .int .i64 at_ ∧ m = .int .i64 missed ∧ wr.ownsRow w.heap.size 3 1 v acc.length (acc.map it) ∧ Rd wr (some ⟨b0, off, none⟩) (rcells ((r1, r2) :: rest)) ∧ v.ownBlock ≠ some b0 ∧ b0 < wr.heap.size ∧ Hid (starts ((r1, r2) :: rest) rs.length length gap = acc ++ startsGo ((r1, r2) :: rest) rs.length length gap f at_ missed) ∧ (rs.length : Int) - at_ < f ∧ 0 ≤ at_ ∧ at_ ≤ rs.length ∧ (acc.length : Int) ≤ at_ + 1 ∧ 0 ≤ missed ∧ missed ≤ gap ∧ Ext w wr) (fun _ a _ _ => ((rs.length : Int) + 1 - intOf a).toNat)
      case atStart => exact ⟨[r1], r1, 0, rs.length + 1, rfl, rfl, hown', hr2, hne, hbz, Lib.hid HS.out, by omega, by omega, by omega, by simp; omega, by omega, by omega, hb2⟩
      case round =>
        obtain ⟨acc, at_, missed, f, rfl, rfl, ho, hrd, hnb, hbs, HF, hf, hat0, hat1, hac, hm0, hm1, hbx⟩ := hrel
        clear hown' hr2 hne hbz hb2
        obtain ⟨A2, c2, rfl, -, -⟩ := own_slice ho
        obtain ⟨f, rfl⟩ : ∃ g, f = g + 1 := ⟨f - 1, by omega⟩
        by_cases hcont : (rs.length : Int) < at_ + 2 * length
        · go_wp2
          go_ret
          exact ⟨⟨.slice A2 acc.length c2, rfl, by rw [HF.out, startsGo, if_pos (by omega), List.append_nil]; exact ho⟩, hbx⟩
        · go_wp2
          go_loop [11, 14] (fun a i => ∃ (k : Nat) (b : Int), k ≤ rest.length + 1 ∧ i = .int .i64 k ∧ a = .int .i64 b ∧ Hid ((b = -1 ∧ ((r1, r2) :: rest).find? (near (at_ + length)) = (((r1, r2) :: rest).drop k).find? (near (at_ + length))) ∨ (∃ r ∈ (r1, r2) :: rest, r.1 = b ∧ near (at_ + length) r = true ∧ ((r1, r2) :: rest).find? (near (at_ + length)) = some r))) (fun _ i => rest.length + 1 - (intOf i).toNat)
          case atStart => exact ⟨0, -1, by omega, rfl, rfl, Lib.hid (.inl ⟨rfl, rfl⟩)⟩
          case round =>
            obtain ⟨k, b, hk, rfl, rfl, HI⟩ := hrel
            by_cases hneg : b < 0
            · have HJ : Hid (((r1, r2) :: rest).find? (near (at_ + length)) = (((r1, r2) :: rest).drop k).find? (near (at_ + length))) := by
                rcases HI.out with h | ⟨r, hr, h1, h2, h3⟩
                · exact Lib.hid h.2
                · have := hbeg r hr; omega
              obtain rfl : b = -1 := by
                rcases HI.out with h | ⟨r, hr, h1, h2, h3⟩
                · exact h.1
                · have := hbeg r hr; omega
              by_cases hlt : k < rest.length + 1
              · have hlt' : k < ((r1, r2) :: rest).length := by simpa using hlt
                obtain ⟨bx, ox, hbo, hbw2, hq0, hq1⟩ := rr_at hrd hlt'
                cases hbo
                have hqb := hbeg _ (List.getElem_mem hlt')
                have hmem := List.getElem_mem hlt'
                have hdr := List.drop_eq_getElem_cons hlt'
                generalize ((r1, r2) :: rest)[k] = q at hq0 hq1 hqb hmem hdr
                obtain ⟨q0, q1⟩ := q
                have hin : (decide (-3 ≤ q0 - (at_ + length)) && decide (q0 - (at_ + length) ≤ 3)) = near (at_ + length) (q0, q1) := by
                  rw [Bool.eq_iff_iff]; simp [near]; omega
                simp only [] at hq0 hq1 hqb
                cases hnr : near (at_ + length) (q0, q1)
                · rw [hnr] at hin
                  have HK := Lib.hid (show ((r1, r2) :: rest).find? (near (at_ + length)) = (((r1, r2) :: rest).drop (k + 1)).find? (near (at_ + length)) by rw [HJ.out, hdr, List.find?_cons, hnr])
                  clear hmem hdr hnr HJ HI
                  go_wp2_with (go_at_call 135; refine (sIn_any _ _ _ _).mono ?_; rintro e w1 ⟨rfl, rfl⟩; rw [hin])
                  go_round
                  case rel => exact ⟨k + 1, -1, by omega, by go_num, rfl, Lib.hid (.inl ⟨rfl, HK.out⟩)⟩
                  case measure => simp [intOf]; omega
                · rw [hnr] at hin
                  have HK := Lib.hid (show ((r1, r2) :: rest).find? (near (at_ + length)) = some (q0, q1) by rw [HJ.out, hdr, List.find?_cons, hnr])
                  have HM := Lib.hid hmem
                  have HR := Lib.hid hnr
                  clear hmem hdr hnr HJ HI
                  go_wp2_with (go_at_call 135; refine (sIn_any _ _ _ _).mono ?_; rintro e w1 ⟨rfl, rfl⟩; rw [hin])
                  go_round
                  case rel => exact ⟨k + 1, q0, by omega, by go_num, rfl, Lib.hid (.inr ⟨(q0, q1), HM.out, rfl, HR.out, HK.out⟩)⟩
                  case measure => simp [intOf]; omega
              · have hnone : ((r1, r2) :: rest).find? (near (at_ + length)) = none := by rw [HJ.out, List.drop_of_length_le (by simp; omega)]; rfl
                clear HJ HI
                by_cases hgap : gap < missed + 1
                · have HG : Hid (startsGo ((r1, r2) :: rest) rs.length length gap (f + 1) at_ missed = []) := Lib.hid (by rw [startsGo, if_neg (by omega), hnone]; simp only []; rw [if_pos hgap])
                  clear hnone
                  go_wp2
                  go_ret
                  exact ⟨⟨.slice A2 acc.length c2, rfl, by rw [HF.out, HG.out, List.append_nil]; exact ho⟩, hbx⟩
                · have HG : Hid (startsGo ((r1, r2) :: rest) rs.length length gap (f + 1) at_ missed = (at_ + length) :: startsGo ((r1, r2) :: rest) rs.length length gap f (at_ + length) (missed + 1)) := Lib.hid (by rw [startsGo, if_neg (by omega), hnone]; simp only []; rw [if_neg hgap])
                  clear hnone
                  go_wp2_with (at_builtin; refine wpList_app rfl _ _ 69 rfl w.heap.size 3 _ 1 8 Try.underlying69 info_int rfl (by omega) (.slice A2 acc.length c2) acc.length (acc.map it) rfl (own_ext ho ((Ext.refl _).alloc _)) _ 1 1 _ rfl (rd_new _ _ _ _) rfl (fun h => by cases h) (by intro u hu; simp at hu; rcases hu with rfl; rfl) (by unfold maxLen; omega) (by omega) (by have := hbx.size; simp; omega) ?_; intro v1 w2 hown hg2 hat)
                  go_roundw
                  case rel => exact ⟨acc ++ [(at_ + length)], (at_ + length), (missed + 1), f, by go_num, by go_num, by rw [List.map_append, List.length_append]; exact hown, Rd.grown (hrd.ext ((Ext.refl _).alloc _)) hg2 (fun ad h _ => by cases h; exact hnb.symm), own_ne hat hnb (by simp; omega), by have := hg2.size; simp at this; omega, Lib.hid (by rw [HF.out, HG.out, List.append_assoc]; rfl), by omega, by omega, by omega, by simp; omega, by omega, by omega, ext_grow (base := w.heap.size) (hbx.alloc _) (own_ext ho ((Ext.refl _).alloc _)) (Nat.le_refl _) hg2⟩
                  case measure => simp [intOf]; omega
            · obtain ⟨q, hq, hq1, hq2, hq3⟩ : ∃ r ∈ (r1, r2) :: rest, r.1 = b ∧ near (at_ + length) r = true ∧ ((r1, r2) :: rest).find? (near (at_ + length)) = some r := by
                rcases HI.out with h | h
                · omega
                · exact h
              have hqb := hbeg q hq
              have hnr : at_ + length - 3 ≤ b ∧ b ≤ at_ + length + 3 := by rw [← hq1]; simpa [near] using hq2
              rw [hq1] at hqb
              have HG : Hid (startsGo ((r1, r2) :: rest) rs.length length gap (f + 1) at_ missed = b :: startsGo ((r1, r2) :: rest) rs.length length gap f b 0) := Lib.hid (by rw [startsGo, if_neg (by omega), hq3]; simp only []; rw [hq1])
              clear hq hq1 hq2 hq3 HI
              go_wp2_with (at_builtin; refine wpList_app rfl _ _ 69 rfl w.heap.size 3 _ 1 8 Try.underlying69 info_int rfl (by omega) (.slice A2 acc.length c2) acc.length (acc.map it) rfl (own_ext ho ((Ext.refl _).alloc _)) _ 1 1 _ rfl (rd_new _ _ _ _) rfl (fun h => by cases h) (by intro u hu; simp at hu; rcases hu with rfl; rfl) (by unfold maxLen; omega) (by omega) (by have := hbx.size; simp; omega) ?_; intro v1 w2 hown hg2 hat)
              all_goals go_roundw
              all_goals first | exact ⟨acc ++ [b], b, 0, f, by go_num, by go_num, by rw [List.map_append, List.length_append]; exact hown, Rd.grown (hrd.ext ((Ext.refl _).alloc _)) hg2 (fun ad h _ => by cases h; exact hnb.symm), own_ne hat hnb (by simp; omega), by have := hg2.size; simp at this; omega, Lib.hid (by rw [HF.out, HG.out, List.append_assoc]; rfl), by omega, by omega, by omega, by simp; omega, by omega, by omega, ext_grow (base := w.heap.size) (hbx.alloc _) (own_ext ho ((Ext.refl _).alloc _)) (Nat.le_refl _) hg2⟩ | (simp [intOf]; omega)
end Go.Proofs.Ytiddaabodkglmaa

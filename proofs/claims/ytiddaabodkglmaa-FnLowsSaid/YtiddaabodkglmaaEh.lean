import Derived.Test.YtiddaabodkglmaaEg
namespace Go.Proofs.Ytiddaabodkglmaa
open Go.RowKit Go.Fx
set_option linter.unusedVariables false
set_option linter.unusedSimpArgs false
set_option maxRecDepth 100000 in
set_option maxHeartbeats 4000000 in
theorem lowsP_walk (A0 : Option Addr) (c0 : Nat) (code : List Int) (w : World) (h0 : Rd w A0 (code.map by8)) (hm0 : code.length ≤ maxLen) (hb0 : ∀ x ∈ code, 0 ≤ x ∧ x ≤ 255) :
    Calls Try.prog 19 #[.slice A0 code.length c0] w fun e w' => e = .returned (.bool true) ∧ Ext w w' := by
  have hM0 := hm0
  unfold maxLen at hM0
  have H0 := Lib.hid h0
  have HB0 := Lib.hid hb0
  clear h0 hb0
  by_cases hbig : 1048576 < code.length
  · go_enter Try.func19, Try.ntmps19
    go_wp2_with (go_at_call 39; refine (big_any _ _ _ _ hM0).mono ?_; rintro e w1 ⟨rfl, rfl⟩)
    go_ret
    exact ⟨rfl, Ext.refl _⟩
  have hn0 : code.length ≤ 1048576 := by omega
  go_enter Try.func19, Try.ntmps19
  go_wp2_with (go_at_call 39; refine (big_any _ _ _ _ hM0).mono ?_; rintro e w1 ⟨rfl, rfl⟩)
  refine (drawLows_any A0 c0 code _ H0.out hn0 HB0.out).mono ?_
  rintro e w1 ⟨⟨A, c, gs, x, rfl, hr, hA, hcp, hl⟩, hb1⟩
  go_wp2_with fail
  refine (iLows_any A c gs x _ hr (by unfold maxLen; omega)).mono ?_
  rintro e w2 ⟨⟨v2, rfl, ho2⟩, hb2⟩
  replace hr := Rd.ext hr hb2
  have hB := hb1.trans hb2
  have hgood := good_lows gs x
  have hll := lows_len gs x
  generalize lows gs x = runs at ho2 hgood hll
  obtain ⟨A2, c2, rfl, hrr, -⟩ := own_slice ho2
  have HG := Lib.hid hgood
  have HR := Lib.hid hr
  have HRR := Lib.hid hrr
  clear hb1 hb2 hgood ho2 hr hrr
  go_wp2_with fail
  go_loopw [6, 7, 8, 9] (fun en i z1 z2 wr => ∃ (k : Nat) (e1 : Int), k ≤ runs.length ∧ i = .int .i64 k ∧ en = .int .i64 e1 ∧ Hid (RunsGood (fun y => fle .f32 y x) gs e1 (runs.drop k)) ∧ Ext w2 wr) (fun _ i _ _ _ => runs.length - (intOf i).toNat)
  case atStart => exact ⟨0, -1, by omega, rfl, rfl, Lib.hid HG.out, Ext.refl _⟩
  case round =>
    rename World => wo
    obtain ⟨k, e1, hk, rfl, rfl, HK, hbr⟩ := hrel
    by_cases hlt : k < runs.length
    · obtain ⟨b, off, rfl, hbw, hc0, hc1⟩ := rr_at (HRR.out.ext hbr) hlt
      have hk2 := HK.out
      rw [List.drop_eq_getElem_cons hlt] at hk2
      generalize runs[k] = r at hc0 hc1 hk2
      obtain ⟨r1, r2⟩ := r
      obtain ⟨g1, g2, g3⟩ := hk2
      obtain ⟨p1, p2, p3, p4, p5, p6⟩ := g2
      simp only [] at g1 g3 p1 p2 p3 p4 p5 p6 hc0 hc1
      obtain ⟨b1, rfl⟩ : ∃ m : Nat, r1 = m := ⟨r1.toNat, by omega⟩
      obtain ⟨m2, rfl⟩ : ∃ m : Nat, r2 = m := ⟨r2.toNat, by omega⟩
      have G3 := Lib.hid g3
      have P4 := Lib.hid p4
      have P5 := Lib.hid p5
      have P6 := Lib.hid p6
      have n1 : ¬ (b1 : Int) ≤ e1 := by omega
      have n2 : ¬ (m2 : Int) < 5 := by omega
      have n3 : ¬ (gs.length : Int) < (b1 : Int) + (m2 : Int) := by omega
      clear g3 p4 p5 p6 HK
      go_wp2_with fail
      go_loop [9] (fun i => ∃ (j : Nat), b1 ≤ j ∧ j ≤ b1 + m2 ∧ i = .int .i64 j) (fun i => b1 + m2 - (intOf i).toNat)
      case atStart => exact ⟨b1, by omega, by omega, rfl⟩
      case round =>
        obtain ⟨j, hj1, hj2, rfl⟩ := hrel
        by_cases hlj : j < b1 + m2
        · have hjg : j < gs.length := by omega
          obtain ⟨b3, off3, rfl, hbw3, hc3⟩ := rf_at (HR.out.ext (hbr.alloc (.cells #[.int .i64 b1, .int .i64 m2] 105))) hjg
          have hlow := P4.out j hjg (by omega) (by omega)
          generalize gs[j] = y at hc3 hlow
          go_wp2_with fail
          go_round
          case rel => exact ⟨j + 1, by omega, by omega, by go_num⟩
          case measure => simp [intOf]; omega
        · obtain rfl : j = b1 + m2 := by omega
          have hsum : IntKind.i64.wrap ((b1 : Int) + m2) = (b1 : Int) + m2 := by rw [IntKind.wrap_i64]; omega
          rcases Nat.eq_zero_or_pos b1 with hz0 | hz2
          · have hz : ((0 : Int) < (b1 : Int)) = False := eq_false (by omega)
            have hz3 : (0 < b1) = False := eq_false (by omega)
            clear hz0
            by_cases hm : b1 + m2 < gs.length
            · obtain ⟨b3, off3, rfl, hbw3, hc3⟩ := rf_at (HR.out.ext (hbr.alloc (.cells #[.int .i64 b1, .int .i64 m2] 105))) hm
              have hlow := P6.out (b1 + m2) hm (by omega)
              generalize gs[b1 + m2] = y at hc3 hlow
              go_wp2_with fail
              go_roundw
              case rel => exact ⟨k + 1, (b1 : Int) + m2, by omega, by go_num, by go_num, Lib.hid G3.out, hbr.alloc _⟩
              case measure => simp [intOf]; omega
            · go_wp2_with fail
              go_roundw
              case rel => exact ⟨k + 1, (b1 : Int) + m2, by omega, by go_num, by go_num, Lib.hid G3.out, hbr.alloc _⟩
              case measure => simp [intOf]; omega
          · obtain ⟨b3, off3, rfl, hbw3, hc3⟩ := rf_at (HR.out.ext (hbr.alloc (.cells #[.int .i64 b1, .int .i64 m2] 105))) (i := b1 - 1) (by omega)
            have hlow := P5.out (b1 - 1) (by omega) (by omega)
            have he : ((b1 : Int) - 1).toNat = b1 - 1 := by omega
            generalize gs[b1 - 1] = y at hc3 hlow
            by_cases hm : b1 + m2 < gs.length
            · obtain ⟨b4, off4, e4, hbw4, hc4⟩ := rf_at (HR.out.ext (hbr.alloc (.cells #[.int .i64 b1, .int .i64 m2] 105))) hm
              cases e4
              have hlow2 := P6.out (b1 + m2) hm (by omega)
              generalize gs[b1 + m2] = y2 at hc4 hlow2
              go_wp2_with fail
              go_roundw
              case rel => exact ⟨k + 1, (b1 : Int) + m2, by omega, by go_num, by go_num, Lib.hid G3.out, hbr.alloc _⟩
              case measure => simp [intOf]; omega
            · go_wp2_with fail
              go_roundw
              case rel => exact ⟨k + 1, (b1 : Int) + m2, by omega, by go_num, by go_num, Lib.hid G3.out, hbr.alloc _⟩
              case measure => simp [intOf]; omega
    · have hal : Ext wo (wo.alloc (.cells #[.float .f32 3239051264, .float .f32 3239051264, .float .f32 3239051264, .float .f32 3239051264, .float .f32 3239051264] 29)) := (Ext.refl _).alloc _
      have hlw := iLows_any (some ⟨wo.heap.size, 0, none⟩) 5 [3239051264, 3239051264, 3239051264, 3239051264, 3239051264] 3231711232 _ (rd_new wo #[.float .f32 3239051264, .float .f32 3239051264, .float .f32 3239051264, .float .f32 3239051264, .float .f32 3239051264] 29 (0, 0)) (by unfold maxLen; simp)
      have h1 : (lows [3239051264, 3239051264, 3239051264, 3239051264, 3239051264] 3231711232).length = 1 := by decide +kernel
      generalize lows [3239051264, 3239051264, 3239051264, 3239051264, 3239051264] 3231711232 = one at hlw h1
      go_wp2_with fail
      refine Calls.mono hlw ?_
      rintro e w6 ⟨⟨v6, rfl, ho6⟩, hb6⟩
      unfold OR at ho6
      rw [h1] at ho6
      obtain ⟨A6, c6, rfl, -, -⟩ := own_slice ho6
      go_wp2_with fail
      go_ret
      exact ⟨rfl, hB.trans (hbr.trans (hal.trans hb6))⟩
end Go.Proofs.Ytiddaabodkglmaa

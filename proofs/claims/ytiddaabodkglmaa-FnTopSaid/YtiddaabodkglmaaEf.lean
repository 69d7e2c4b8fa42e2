import Derived.Test.YtiddaabodkglmaaEe
namespace Go.Fx
open Go.RowKit
set_option linter.unusedVariables false
set_option linter.unusedSimpArgs false
theorem erase_get {rs : List Nat} {at_ n : Int} {k : Nat} (hk : k < rs.length) : ∃ h : k < (erase rs at_ n).length, (erase rs at_ n)[k] = if 0 ≤ n ∧ n ≤ 280 ∧ at_ ≤ k ∧ (k : Int) < at_ + n then 0 else rs[k] := by
  refine ⟨by rw [erase_len]; exact hk, ?_⟩
  by_cases h : 0 ≤ n ∧ n ≤ 280
  · simp only [erase, if_pos h, List.getElem_mapIdx, eraseF]
    by_cases h2 : at_ ≤ k ∧ (k : Int) < at_ + n
    · rw [if_pos h2, if_pos ⟨h.1, h.2, h2.1, h2.2⟩]
    · rw [if_neg h2, if_neg (fun hc => h2 ⟨hc.2.2.1, hc.2.2.2⟩)]
  · simp only [erase, if_neg h]
    rw [if_neg (fun hc => h ⟨hc.1, hc.2.1⟩)]
theorem erase_twice (rs : List Nat) (at_ n : Int) : erase (erase rs at_ n) at_ n = erase rs at_ n := by
  apply List.ext_getElem (by rw [erase_len])
  intro k h1 h2
  rw [erase_len] at h2
  obtain ⟨h3, e3⟩ := erase_get (rs := rs) (at_ := at_) (n := n) h2
  obtain ⟨h4, e4⟩ := erase_get (rs := erase rs at_ n) (at_ := at_) (n := n) h3
  rw [e4, e3]
  split <;> rfl
end Go.Fx
namespace Go.Proofs.Ytiddaabodkglmaa
open Go.RowKit Go.Fx
set_option linter.unusedVariables false
set_option linter.unusedSimpArgs false
theorem big_any (A : Option Addr) (n c : Nat) (w : World) (hn : n ≤ 9223372036854775807) :
    Calls Try.prog 39 #[.slice A n c] w fun e w' => e = .returned (.bool (decide (1048576 < (n : Int)))) ∧ w = w' := by
  go_enter Try.func39, Try.ntmps39
  go_wp2
  go_ret
  exact ⟨rfl, rfl⟩
set_option maxRecDepth 100000 in
set_option maxHeartbeats 4000000 in
theorem drawErase_any (A : Option Addr) (c : Nat) (bs : List Int) (w : World) (h : Rd w A (bs.map by8)) (hn : bs.length ≤ 1048576) (hb : ∀ x ∈ bs, 0 ≤ x ∧ x ≤ 255) :
    Calls Try.prog 97 #[.slice A bs.length c] w fun e w' => (∃ (A : Option Addr) (c : Nat) (gs : List Nat) (at_ n : Int), e = .returned (.tuple #[.slice A gs.length c, .int .i64 at_, .int .i64 n]) ∧ Rd w' A (gs.map fl) ∧ (A = none → gs.length = 0) ∧ gs.length ≤ c ∧ gs.length ≤ 2000 ∧ -9223372036854775808 ≤ at_ ∧ at_ ≤ 9223372036854775807 ∧ -1 ≤ n ∧ n ≤ 281) ∧ Ext w w' := by
  go_enter Try.func97, Try.ntmps97
  go_wp2_with fail
  refine (new_any A c bs _ h hn hb).mono ?_
  rintro e w1 ⟨⟨bk, rfl, hbk, hbz, hcu⟩, hb1⟩
  go_wp2_with fail
  refine (stream_any bk _ hcu).mono ?_
  rintro e w2 ⟨⟨A2, c2, gs, n2, rfl, hd, hl, -, -⟩, hc2⟩
  go_wp2_with fail
  refine (below_any bk (gs.length + 3) _ hc2.1 (by omega)).mono ?_
  rintro e w3 ⟨⟨x, rfl, hx0, hx1, -⟩, hc3⟩
  have hx2 := hx1 (by omega)
  clear hx1
  replace hd := hd.up hc3.2
  have hc := hc2.trans hc3
  clear hc2 hc3
  go_wp2_with fail
  refine (once_any bk 10 _ hc.1 (by omega)).mono ?_
  rintro e w4 ⟨⟨q, rfl⟩, hc4⟩
  replace hd := hd.up hc4.2
  replace hc := hc.trans hc4
  clear hc4
  have hz4 := hc.1.size
  cases q
  · go_wp2_with fail
    refine (once_any bk 12 _ hc.1 (by omega)).mono ?_
    rintro e w5 ⟨⟨q, rfl⟩, hc5⟩
    replace hd := hd.up hc5.2
    replace hc := hc.trans hc5
    clear hc5
    have hz5 := hc.1.size
    cases q
    · go_wp2_with fail
      refine (below_any bk 12 _ hc.1 (by omega)).mono ?_
      rintro e w6 ⟨⟨y, rfl, hy0, hy1, -⟩, hc6⟩
      have hy2 := hy1 (by omega)
      replace hd := hd.up hc6.2
      replace hc := hc.trans hc6
      go_wp2_with fail
      go_ret3
      exact ⟨⟨A2, c2, gs, x - 2, y, rfl, hd.1, hd.2.1, hd.2.2.1, hl, by omega, by omega, by omega, by omega⟩, ext_turn hb1 hc.2 hbk⟩
    · go_wp2_with fail
      refine (pick_any bk (some ⟨w5.heap.size, 0, none⟩) 2 [9223372036854775807, -9223372036854775808] _ (hc.1.ext ((Ext.refl _).alloc _)) (rd_new _ _ _ _) (fun a ha => by cases ha; exact hz5) (by simp) (by simp)).mono ?_
      rintro e w6 ⟨⟨y, hy, rfl⟩, hc6⟩
      have hy2 : -9223372036854775808 ≤ y ∧ y ≤ 9223372036854775807 := by simp at hy; omega
      replace hd := (hd.ext ((Ext.refl _).alloc _)).up hc6.2
      replace hc := (hc.ext ((Ext.refl _).alloc _)).trans hc6
      go_wp2_with fail
      refine (below_any bk 12 _ hc.1 (by omega)).mono ?_
      rintro e w7 ⟨⟨z, rfl, hz0, hz1, -⟩, hc7⟩
      have hz2 := hz1 (by omega)
      replace hd := hd.up hc7.2
      replace hc := hc.trans hc7
      go_wp2_with fail
      go_ret3
      exact ⟨⟨A2, c2, gs, y, z, rfl, hd.1, hd.2.1, hd.2.2.1, hl, by omega, by omega, by omega, by omega⟩, ext_turn hb1 hc.2 hbk⟩
  · go_wp2_with fail
    refine (pick_any bk (some ⟨w4.heap.size, 0, none⟩) 3 [-1, 280, 281] _ (hc.1.ext ((Ext.refl _).alloc _)) (rd_new _ _ _ _) (fun a ha => by cases ha; exact hz4) (by simp) (by simp)).mono ?_
    rintro e w6 ⟨⟨y, hy, rfl⟩, hc6⟩
    have hy2 : -1 ≤ y ∧ y ≤ 281 := by simp at hy; omega
    replace hd := (hd.ext ((Ext.refl _).alloc _)).up hc6.2
    replace hc := (hc.ext ((Ext.refl _).alloc _)).trans hc6
    go_wp2_with fail
    go_ret3
    exact ⟨⟨A2, c2, gs, x - 2, y, rfl, hd.1, hd.2.1, hd.2.2.1, hl, by omega, by omega, by omega, by omega⟩, ext_turn hb1 hc.2 hbk⟩
set_option maxRecDepth 100000 in
set_option maxHeartbeats 4000000 in
theorem sameS_any (A B : Option Addr) (c d : Nat) (rs ss : List Nat) (w : World) (h : Rd w A (rs.map fl)) (h' : Rd w B (ss.map fl)) (hn : rs.length ≤ maxLen) (he : cns rs = cns ss) :
    Calls Try.prog 98 #[.slice A rs.length c, .slice B ss.length d] w fun e w' => e = .returned (.bool true) ∧ ∃ n, w' = w.drewN n := by
  have hl : rs.length = ss.length := by simpa using congrArg List.length he
  have HE := Lib.hid he
  unfold maxLen at hn
  rw [← hl]
  have HL := Lib.hid hl
  clear he hl
  go_enter Try.func98, Try.ntmps98
  go_wp2
  go_loopw [5] (fun i wr => ∃ (k : Nat), k ≤ rs.length ∧ i = .int .i64 k ∧ ∃ n, wr = w.drewN n) (fun i _ => rs.length - (intOf i).toNat)
  case atStart => exact ⟨0, Nat.zero_le _, rfl, 0, rfl⟩
  case round =>
    obtain ⟨k, hk, rfl, n, rfl⟩ := hrel
    by_cases hlt : k < rs.length
    · obtain ⟨b, off, rfl, hbw, hc⟩ := rf_at h hlt
      obtain ⟨b', off', rfl, hbw', hc'⟩ := rf_at h' (by rw [← HL.out]; exact hlt)
      have hlt' : k < ss.length := by rw [← HL.out]; exact hlt
      have HK := Lib.hid (cns_at HE.out hlt hlt')
      go_wp2_with fail
      go_region_with (go_at_call 99; refine (same32_any _ _ HK.out _).mono ?_; rintro e w1 ⟨rfl, n1, rfl⟩)
      all_goals go_wp2
      all_goals go_roundw
      all_goals first | exact ⟨k + 1, by omega, by go_num, _, rfl⟩ | (simp [intOf]; omega)
    · go_wp2
      go_ret
      exact ⟨rfl, n, rfl⟩

set_option maxRecDepth 100000 in
set_option maxHeartbeats 4000000 in
theorem erased_walk (A0 : Option Addr) (c0 : Nat) (code : List Int) (w : World) (h0 : Rd w A0 (code.map by8)) (hm0 : code.length ≤ maxLen) (hb0 : ∀ x ∈ code, 0 ≤ x ∧ x ≤ 255) :
    Calls Try.prog 20 #[.slice A0 code.length c0] w fun e w' => e = .returned (.bool true) ∧ Ext w w' := by
  have hM0 := hm0
  unfold maxLen at hM0
  have H0 := Lib.hid h0
  have HB0 := Lib.hid hb0
  clear h0 hb0
  by_cases hbig : 1048576 < code.length
  · go_enter Try.func20, Try.ntmps20
    go_wp2_with (go_at_call 39; refine (big_any _ _ _ _ hM0).mono ?_; rintro e w1 ⟨rfl, rfl⟩)
    go_ret
    exact ⟨rfl, Ext.refl _⟩
  have hn0 : code.length ≤ 1048576 := by omega
  go_enter Try.func20, Try.ntmps20
  go_wp2_with (go_at_call 39; refine (big_any _ _ _ _ hM0).mono ?_; rintro e w1 ⟨rfl, rfl⟩)
  refine (drawErase_any A0 c0 code _ H0.out hn0 HB0.out).mono ?_
  rintro e w1 ⟨⟨A, c, gs, at_, n, rfl, hr, hA, hcp, hl, ha1, ha2, hn1, hn2⟩, hb1⟩
  go_wp2_with fail
  refine (iErase_any A c gs at_ n _ hr hA (by omega) ha1 ha2).mono ?_
  rintro e w2 ⟨⟨v2, rfl, ho2⟩, hb2⟩
  replace hr := Rd.ext hr hb2
  have hE := Lib.hid (fun (k : Nat) (hk : k < gs.length) => erase_get (at_ := at_) (n := n) hk)
  have hT := Lib.hid (erase_twice gs at_ n)
  have hlx : (erase gs at_ n).length = gs.length := erase_len _ _ _
  generalize erase gs at_ n = xs at ho2 hE hT hlx
  unfold OF at ho2
  rw [hlx] at ho2
  obtain ⟨A2, c2, rfl, -, z2⟩ := own_slice ho2
  have hB := hb1.trans hb2
  clear hb1 hb2
  have hx2 := iErase_any A2 c2 xs at_ n w2 (own_rd ho2) (by rw [hlx]; exact z2) (by omega) ha1 ha2
  rw [hT.out, hlx] at hx2
  go_wp2_with fail
  refine Calls.mono hx2 ?_
  rintro e w3 ⟨⟨v3, rfl, ho3⟩, hb3⟩
  unfold OF at ho3
  rw [hlx] at ho3
  obtain ⟨A3, c3, rfl, -, -⟩ := own_slice ho3
  replace ho2 := own_ext ho2 hb3
  replace hr := Rd.ext hr hb3
  replace hB := hB.trans hb3
  have hs := sameS_any A3 A2 c3 c2 xs xs w3 (own_rd ho3) (own_rd ho2) (by unfold maxLen; omega) rfl
  rw [hlx] at hs
  go_wp2_with fail
  refine Calls.mono hs ?_
  rintro e w4 ⟨rfl, n4, hw4⟩
  have hb4 : Ext w3 w4 := hw4 ▸ Ext.drewN _ _
  replace ho2 := own_ext ho2 hb4
  replace hr := Rd.ext hr hb4
  replace hB := hB.trans hb4
  clear hx2 hs hb3 hb4 hw4 ho3
  go_wp2_with fail
  go_loopw [7, 8] (fun i z wr => ∃ (k : Nat), k ≤ gs.length ∧ i = .int .i64 k ∧ Ext w4 wr) (fun i _ _ => gs.length - (intOf i).toNat)
  case atStart => exact ⟨0, by omega, rfl, Ext.refl _⟩
  case round =>
    obtain ⟨k, hk, rfl, hbr⟩ := hrel
    by_cases hlt : k < gs.length
    · obtain ⟨b, off, rfl, hbw, hc1⟩ := rf_at (hr.ext hbr) hlt
      obtain ⟨b2, off2, rfl, hbw2, hc2⟩ := rf_at ((own_rd ho2).ext hbr) (i := k) (by omega)
      obtain ⟨h3, e3⟩ := hE.out k hlt
      rw [e3] at hc2
      by_cases hin : 0 ≤ n ∧ n ≤ 280 ∧ at_ ≤ k ∧ (k : Int) < at_ + n
      · rw [if_pos hin] at hc2
        obtain ⟨i1, i2, i3, i4⟩ := hin
        have hz : feq .f32 0 0 = true := by decide +kernel
        have hi5 : (k : Int) - n < at_ := by omega
        clear e3
        go_wp2_with fail
        go_quiet (fail)
        all_goals go_wp2_with fail
        all_goals go_roundw
        all_goals first | (simp [intOf]; done) | (simp [intOf]; omega) | skip
        all_goals exact ⟨k + 1, by omega, by go_num, hbr.trans (by (repeat (first | exact Below.refl _ _ | assumption | refine below_drewN ?_ _ | refine Below.drew ?_ | refine Below.alloc ?_ (by first | exact Nat.le_refl _ | (simp; done) | (simp; omega)) _ | refine Below.setCell ?_ (by first | exact Nat.le_refl _ | (simp; done) | (simp; omega)) _)))⟩
      · rw [if_neg hin] at hc2
        clear e3
        generalize gs[k] = y at hc1 hc2
        have hcs : n < 0 ∨ (0 ≤ n ∧ 280 < n) ∨ (0 ≤ n ∧ n ≤ 280 ∧ (k : Int) < at_) ∨ (0 ≤ n ∧ n ≤ 280 ∧ at_ ≤ k ∧ at_ ≤ (k : Int) - n) := by omega
        clear hin
        rcases hcs with h1 | ⟨h0, h1⟩ | ⟨h0, h1, h2⟩ | ⟨h0, h1, h2, h3⟩
        rotate_left 3
        have h4 : decide ((k : Int) - n < at_) = false := decide_eq_false (by omega)
        all_goals (
          go_wp2_with fail
          go_quiet (exact Calls.quiet_of (same32_any _ _ rfl _))
          all_goals go_wp2_with fail
          all_goals go_roundw
          all_goals first | (simp [intOf]; done) | (simp [intOf]; omega) | skip
          all_goals exact ⟨k + 1, by omega, by go_num, hbr.trans (by (repeat (first | exact Below.refl _ _ | assumption | refine below_drewN ?_ _ | refine Below.drew ?_ | refine Below.alloc ?_ (by first | exact Nat.le_refl _ | (simp; done) | (simp; omega)) _ | refine Below.setCell ?_ (by first | exact Nat.le_refl _ | (simp; done) | (simp; omega)) _)))⟩)
    · go_wp2_with fail
      have hal : Ext wr (wr.alloc (.cells #[.float .f32 1065353216] 29)) := (Ext.refl _).alloc _
      have he := iErase_any (some ⟨wr.heap.size, 0, none⟩) 1 [1065353216] 0 0 _ (rd_new wr #[.float .f32 1065353216] 29 (0, 0)) (fun h => by cases h) (by simp) (by omega) (by omega)
      refine Calls.mono he ?_
      rintro e w6 ⟨⟨v6, rfl, ho6⟩, hb6⟩
      unfold OF at ho6
      rw [erase_len] at ho6
      obtain ⟨A6, c6, rfl, -, -⟩ := own_slice ho6
      go_wp2_with fail
      go_ret
      exact ⟨rfl, hB.trans (hbr.trans (hal.trans hb6))⟩
end Go.Proofs.Ytiddaabodkglmaa

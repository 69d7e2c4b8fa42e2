import Derived.Test.YtfmghfghhipmhaaDoorTc
namespace Go.Fx
open Go.Lib
theorem byte_le (c : UInt8) : c.toNat ≤ 255 := by have := c.toNat_lt; omega
theorem isDig_iff {c : UInt8} : isDig c = true ↔ 48 ≤ c.toNat ∧ c.toNat ≤ 57 := by unfold isDig; simp
theorem uint_no {l : Txt} (h : uintOk l = false) : uint l = 0 := by unfold uint; rw [h]; rfl
theorem uint_yes {l : Txt} (h : uintOk l = true) : uint l = val l := by unfold uint; rw [h]; rfl
theorem uint_end2 {l : Txt} (h2 : l.length ≤ 10) (h : l.all isDig = true) : uintOk l = (decide (val l ≤ 1000000000) && decide (decDigits (val l) = l)) := by
  by_cases h1 : 1 ≤ l.length
  · exact uint_end h1 h2 h
  · have : l = [] := List.length_eq_zero_iff.1 (by omega)
    subst this
    rw [decide_eq_false (dec_ne _)]; rfl
theorem str_ne {B s : ByteArray} (h : B ≠ s) : (B.toList == s.toList) = false := by
  rw [beq_eq_false_iff_ne, Lib.toList_data, Lib.toList_data]
  intro e
  exact h (by rw [← ba_self B, ← ba_self s, e])
end Go.Fx
namespace Go.Proofs.YtfmghfghhipmhaaDoor
open Go.RowKit Go.Fx Go.Sort
open Go.Lib (decDigits)
set_option linter.unusedVariables false
set_option linter.unusedSimpArgs false
set_option maxRecDepth 100000 in
set_option maxHeartbeats 1000000 in
theorem iParseUint_any (s : ByteArray) (w : World) (E : Env w) (hs : s.size ≤ maxLen) :
    Calls Tryd.prog 84 #[.string s] w fun e w' => e = .returned (.tuple #[.int .i64 (uint s.data.toList), .bool (uintOk s.data.toList)]) ∧ Ext w w' := by
  have HE := Lib.hid E
  clear E
  unfold maxLen at hs
  have HL := Lib.hid (Lib.size_eq s)
  by_cases h0 : s.size = 0
  · have HN : Hid (uintOk s.data.toList = false ∧ uint s.data.toList = 0) := Lib.hid (by
      have e : s.data.toList = [] := List.length_eq_zero_iff.1 (by rw [← HL.out]; exact h0)
      rw [e]; exact ⟨rfl, rfl⟩)
    have hq : ((s.size : Int) == 0) = true := by rw [beq_iff_eq]; omega
    go_enter Tryd.func84, Tryd.ntmps84
    go_wp2
    go_ret2
    exact ⟨by rw [HN.out.1, HN.out.2]; rfl, Ext.refl _⟩
  have hq : ((s.size : Int) == 0) = false := by rw [beq_eq_false_iff_ne]; omega
  by_cases h10 : 10 < s.size
  · have HN := Lib.hid (uint_long (l := s.data.toList) (by rw [← HL.out]; exact h10))
    have hq2 : decide ((10 : Int) < (s.size : Int)) = true := by rw [decide_eq_true]; omega
    go_enter Tryd.func84, Tryd.ntmps84
    go_wp2
    go_ret2
    exact ⟨by rw [HN.out, uint_no HN.out]; rfl, Ext.refl _⟩
  have hq2 : decide ((10 : Int) < (s.size : Int)) = false := by rw [decide_eq_false_iff_not]; omega
  have H0 := Lib.hid h0
  clear h0
  go_enter Tryd.func84, Tryd.ntmps84
  go_wp2
  go_loop [4, 5] (fun n i => ∃ (k v : Nat), k ≤ s.size ∧ i = .int .i64 k ∧ n = .int .i64 v ∧ v < 10000000000 ∧ Hid (v = val (s.data.toList.take k) ∧ (s.data.toList.take k).all isDig = true)) (fun _ i => s.size - (intOf i).toNat)
  case atStart => exact ⟨0, 0, Nat.zero_le _, rfl, rfl, by omega, Lib.hid ⟨rfl, rfl⟩⟩
  case round =>
    obtain ⟨k, v, hk, rfl, rfl, hv, HD⟩ := hrel
    by_cases hlt : k < s.size
    · have hll : k < s.data.toList.length := by rw [← HL.out]; exact hlt
      have hcb := byte_le s[k]
      by_cases hd : isDig s[k] = true
      · obtain ⟨d1, d2⟩ := isDig_iff.1 hd
        have HV : Hid (10 * v + (s[k].toNat - 48) = val (s.data.toList.take (k + 1)) ∧ (s.data.toList.take (k + 1)).all isDig = true) := Lib.hid (by
          rw [HD.out.1, val_take_snoc hll]
          exact ⟨rfl, all_take_snoc hll HD.out.2 hd⟩)
        have hvn : 10 * v + (s[k].toNat - 48) < 10000000000 := by
          have h := val_le (k := 10) HV.out.2 (by rw [List.length_take, ← HL.out]; omega)
          rw [← HV.out.1] at h; exact h
        have d3 : ¬ (s[k].toNat : Int) < 48 := by omega
        have d4 : ¬ (57 : Int) < (s[k].toNat : Int) := by omega
        clear hd
        go_wp2
        go_round
        case rel => exact ⟨k + 1, 10 * v + (s[k].toNat - 48), by omega, by go_num, by go_num, hvn, HV⟩
        case measure => simp [intOf]; omega
      · have HN := Lib.hid (uint_bad hll (Bool.eq_false_iff.2 hd))
        have hd2 : s[k].toNat < 48 ∨ 57 < s[k].toNat := by
          by_cases h : 48 ≤ s[k].toNat
          · right
            rcases Nat.lt_or_ge 57 s[k].toNat with h2 | h2
            · exact h2
            · exact absurd (isDig_iff.2 ⟨h, h2⟩) hd
          · omega
        clear hd
        rcases hd2 with hd2 | hd2
        · have hd3 : (s[k].toNat : Int) < 48 := by omega
          go_wp2
          go_ret2
          exact ⟨by rw [HN.out, uint_no HN.out]; rfl, Ext.refl _⟩
        · have hd3 : ¬ (s[k].toNat : Int) < 48 := by omega
          have hd4 : (57 : Int) < (s[k].toNat : Int) := by omega
          go_wp2
          go_ret2
          exact ⟨by rw [HN.out, uint_no HN.out]; rfl, Ext.refl _⟩
    · obtain rfl : k = s.size := by omega
      have hall : s.data.toList.take s.size = s.data.toList := List.take_of_length_le (by rw [← HL.out]; exact Nat.le_refl _)
      have HD2 := HD.out
      rw [hall] at HD2
      have HU := Lib.hid (uint_end (l := s.data.toList) (by rw [← HL.out]; have := H0.out; omega) (by rw [← HL.out]; omega) HD2.2)
      have HV := Lib.hid HD2.1
      clear HD HD2 hall
      by_cases hbig : v ≤ 1000000000
      · have F := iFormatInt_any v (by omega) w HE.out
        have hds := dec_len (k := 10) (u := v) (by omega)
        have hbI : decide ((1000000000 : Int) < (v : Int)) = false := by rw [decide_eq_false_iff_not]; omega
        by_cases heq : decDigits v = s.data.toList
        · have HY : Hid (uintOk s.data.toList = true) := Lib.hid (by rw [HU.out, ← HV.out, decide_eq_true hbig, decide_eq_true heq]; rfl)
          rw [heq, ba_self] at F
          have HF := Lib.hid F
          clear F heq
          go_wp2_with (go_at_call 43; refine (HF.out).mono ?_; rintro e w1 ⟨rfl, hb1⟩)
          go_ret2
          exact ⟨by rw [HY.out, uint_yes HY.out, ← HV.out]; rfl, hb1⟩
        · have HN : Hid (uintOk s.data.toList = false) := Lib.hid (by rw [HU.out, ← HV.out, decide_eq_true hbig, decide_eq_false heq]; rfl)
          have hne : ((ba (decDigits v)).toList == s.toList) = false := str_ne (fun e => heq (ba_inj (e.trans (ba_self s).symm)))
          generalize ba (decDigits v) = B at *
          have HF := Lib.hid F
          clear F heq hds
          go_wp2_with (go_at_call 43; refine (HF.out).mono ?_; rintro e w1 ⟨rfl, hb1⟩)
          go_ret2
          exact ⟨by rw [HN.out, uint_no HN.out]; rfl, hb1⟩
      · have HN : Hid (uintOk s.data.toList = false) := Lib.hid (by rw [HU.out, ← HV.out, decide_eq_false hbig]; rfl)
        have hb : decide ((1000000000 : Int) < (v : Int)) = true := by rw [decide_eq_true]; omega
        go_wp2
        go_ret2
        exact ⟨by rw [HN.out, uint_no HN.out]; rfl, Ext.refl _⟩
set_option maxRecDepth 100000 in
set_option maxHeartbeats 1000000 in
theorem sParseUint_any (s : ByteArray) (w : World) (hs : s.size ≤ maxLen) :
    Calls Tryd.prog 81 #[.string s] w fun e w' => e = .returned (.tuple #[.int .i64 (uint s.data.toList), .bool (uintOk s.data.toList)]) ∧ Ext w w' := by
  unfold maxLen at hs
  have HL := Lib.hid (Lib.size_eq s)
  by_cases h10 : 10 < s.size
  · have HN := Lib.hid (uint_long (l := s.data.toList) (by rw [← HL.out]; exact h10))
    have hq2 : decide ((10 : Int) < (s.size : Int)) = true := by rw [decide_eq_true]; omega
    go_enter Tryd.func81, Tryd.ntmps81
    go_wp2
    go_ret2
    exact ⟨by rw [HN.out, uint_no HN.out]; rfl, Ext.refl _⟩
  have hq2 : decide ((10 : Int) < (s.size : Int)) = false := by rw [decide_eq_false_iff_not]; omega
  go_enter Tryd.func81, Tryd.ntmps81
  go_wp2
  go_loop [4, 5] (fun n i => ∃ (k v : Nat), k ≤ s.size ∧ i = .int .i64 k ∧ n = .int .i64 v ∧ v < 10000000000 ∧ Hid (v = val (s.data.toList.take k) ∧ (s.data.toList.take k).all isDig = true)) (fun _ i => s.size - (intOf i).toNat)
  case atStart => exact ⟨0, 0, Nat.zero_le _, rfl, rfl, by omega, Lib.hid ⟨rfl, rfl⟩⟩
  case round =>
    obtain ⟨k, v, hk, rfl, rfl, hv, HD⟩ := hrel
    by_cases hlt : k < s.size
    · have hll : k < s.data.toList.length := by rw [← HL.out]; exact hlt
      have hcb := byte_le s[k]
      by_cases hd : isDig s[k] = true
      · obtain ⟨d1, d2⟩ := isDig_iff.1 hd
        have HV : Hid (10 * v + (s[k].toNat - 48) = val (s.data.toList.take (k + 1)) ∧ (s.data.toList.take (k + 1)).all isDig = true) := Lib.hid (by
          rw [HD.out.1, val_take_snoc hll]
          exact ⟨rfl, all_take_snoc hll HD.out.2 hd⟩)
        have hvn : 10 * v + (s[k].toNat - 48) < 10000000000 := by
          have h := val_le (k := 10) HV.out.2 (by rw [List.length_take, ← HL.out]; omega)
          rw [← HV.out.1] at h; exact h
        have d3 : ¬ (s[k].toNat : Int) < 48 := by omega
        have d4 : ¬ (57 : Int) < (s[k].toNat : Int) := by omega
        clear hd
        go_wp2
        go_round
        case rel => exact ⟨k + 1, 10 * v + (s[k].toNat - 48), by omega, by go_num, by go_num, hvn, HV⟩
        case measure => simp [intOf]; omega
      · have HN := Lib.hid (uint_bad hll (Bool.eq_false_iff.2 hd))
        have hd2 : s[k].toNat < 48 ∨ 57 < s[k].toNat := by
          by_cases h : 48 ≤ s[k].toNat
          · right
            rcases Nat.lt_or_ge 57 s[k].toNat with h2 | h2
            · exact h2
            · exact absurd (isDig_iff.2 ⟨h, h2⟩) hd
          · omega
        clear hd
        rcases hd2 with hd2 | hd2
        · have hd3 : (s[k].toNat : Int) < 48 := by omega
          go_wp2
          go_ret2
          exact ⟨by rw [HN.out, uint_no HN.out]; rfl, Ext.refl _⟩
        · have hd3 : ¬ (s[k].toNat : Int) < 48 := by omega
          have hd4 : (57 : Int) < (s[k].toNat : Int) := by omega
          go_wp2
          go_ret2
          exact ⟨by rw [HN.out, uint_no HN.out]; rfl, Ext.refl _⟩
    · obtain rfl : k = s.size := by omega
      have hall : s.data.toList.take s.size = s.data.toList := List.take_of_length_le (by rw [← HL.out]; exact Nat.le_refl _)
      have HD2 := HD.out
      rw [hall] at HD2
      have HU := Lib.hid (uint_end2 (l := s.data.toList) (by rw [← HL.out]; omega) HD2.2)
      have HV := Lib.hid HD2.1
      clear HD HD2 hall
      by_cases hbig : v ≤ 1000000000
      · have F := sFormatInt_any v (by omega) w
        have hds := dec_len (k := 10) (u := v) (by omega)
        have hbI : decide ((1000000000 : Int) < (v : Int)) = false := by rw [decide_eq_false_iff_not]; omega
        by_cases heq : decDigits v = s.data.toList
        · have HY : Hid (uintOk s.data.toList = true) := Lib.hid (by rw [HU.out, ← HV.out, decide_eq_true hbig, decide_eq_true heq]; rfl)
          rw [heq, ba_self] at F
          have HF := Lib.hid F
          clear F heq
          go_wp2_with (go_at_call 41; refine (HF.out).mono ?_; rintro e w1 ⟨rfl, hb1⟩)
          go_ret2
          exact ⟨by rw [HY.out, uint_yes HY.out, ← HV.out]; rfl, hb1⟩
        · have HN : Hid (uintOk s.data.toList = false) := Lib.hid (by rw [HU.out, ← HV.out, decide_eq_true hbig, decide_eq_false heq]; rfl)
          have hne : ((ba (decDigits v)).toList == s.toList) = false := str_ne (fun e => heq (ba_inj (e.trans (ba_self s).symm)))
          generalize ba (decDigits v) = B at *
          have HF := Lib.hid F
          clear F heq hds
          go_wp2_with (go_at_call 41; refine (HF.out).mono ?_; rintro e w1 ⟨rfl, hb1⟩)
          go_ret2
          exact ⟨by rw [HN.out, uint_no HN.out]; rfl, hb1⟩
      · have HN : Hid (uintOk s.data.toList = false) := Lib.hid (by rw [HU.out, ← HV.out, decide_eq_false hbig]; rfl)
        have hb : decide ((1000000000 : Int) < (v : Int)) = true := by rw [decide_eq_true]; omega
        go_wp2
        go_ret2
        exact ⟨by rw [HN.out, uint_no HN.out]; rfl, Ext.refl _⟩
end Go.Proofs.YtfmghfghhipmhaaDoor

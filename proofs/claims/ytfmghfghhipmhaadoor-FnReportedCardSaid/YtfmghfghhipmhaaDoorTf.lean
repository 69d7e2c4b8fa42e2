import Derived.Test.YtfmghfghhipmhaaDoorTe
namespace Go.Proofs.YtfmghfghhipmhaaDoor
open Go.RowKit Go.Fx Go.Sort
open Go.Lib (decDigits)
set_option linter.unusedVariables false
set_option linter.unusedSimpArgs false
set_option maxRecDepth 100000 in
set_option maxHeartbeats 2000000 in
theorem sParseFixed_any (s : ByteArray) (w : World) (hs : s.size ≤ 1048576) :
    Calls Tryd.prog 82 #[.string s] w fun e w' => e = .returned (.tuple #[.int .i64 (pfix s.data.toList), .bool (pfixOk s.data.toList)]) ∧ Ext w w' := by
  have HL := Lib.hid (Lib.size_eq s)
  by_cases h0 : s.size = 0
  · have hnil : s.data.toList = [] := List.length_eq_zero_iff.1 (by rw [← HL.out]; exact h0)
    obtain rfl : s = ⟨#[]⟩ := by rw [← ba_self s, hnil]
    go_enter Tryd.func82, Tryd.ntmps82
    go_wp2
    go_ret2
    exact ⟨by rw [show pfixOk ([] : Txt) = false from pfix_nil, show pfix ([] : Txt) = 0 from pfix_no pfix_nil]; rfl, Ext.refl _⟩
  have hpos : 0 < s.size := by omega
  have hposI : decide ((0 : Int) < (s.size : Int)) = true := by rw [decide_eq_true]; omega
  have HLN : Hid (s.data.toList ≠ []) := Lib.hid (by rw [← Lib.toList_data]; exact tos_ne hpos)
  have HH0 : Hid (0 < s.data.toList.length) := Lib.hid (by rw [← HL.out]; exact hpos)
  by_cases hmin : s[0].toNat = 45
  · have HMIN : Hid (minus s.data.toList = true) := Lib.hid (minus_of (by
      rw [List.getElem?_eq_getElem HH0.out]
      exact congrArg some (UInt8.toNat_inj.1 hmin)))
    have h45 : ((s[0].toNat : Int) == 45) = true := by rw [beq_iff_eq]; omega
    have hsl : (1 : Int) ≤ (s.size : Int) := by omega
    clear hmin
    obtain ⟨t, ht⟩ : ∃ t, s.extract 1 s.size = t := ⟨_, rfl⟩
    have HTD := Lib.hid ht
    have htsz : t.size + 1 = s.size := by
      have e1 := Lib.size_eq (s.extract 1 s.size)
      rw [Lib.extract_to_end, List.length_drop, ht] at e1
      have e2 := Lib.size_eq s
      omega
    have HTS := Lib.hid htsz
    have htl : t.size < s.size := by omega
    clear htsz
    go_enter Tryd.func82, Tryd.ntmps82
    have HT : Hid (t.size = t.data.toList.length) := Lib.hid (Lib.size_eq t)
    have HST : Hid (t.data.toList = strip s.data.toList) := Lib.hid (by rw [← HTD.out, Lib.extract_to_end, strip_sub HMIN.out])
    have HUX : Hid (∀ v : Nat, unabs t.data.toList = v → -(v : Int) = unfix s.data.toList) := Lib.hid (fun v hv => by
      unfold unfix
      rw [HMIN.out, ← HST.out, hv]; rfl)
    have HPX := Lib.hid (fun h : pfixOk s.data.toList = true => pfix_at h)
    have HNO : Hid (¬ (∃ i : Nat, 1 ≤ i ∧ i ≤ 7 ∧ t.size = i + 4 ∧ t.data.toList[i]? = some 46) → pfixOk s.data.toList = false) := Lib.hid (fun hn => by
      cases hx : pfixOk s.data.toList
      · rfl
      · obtain ⟨i, e1, e2, e3, e4, -⟩ := HPX.out hx
        rw [← HST.out] at e3 e4
        exact absurd ⟨i, e1, e2, by rw [HT.out]; exact e3, e4⟩ hn)
    by_cases hx1 : t.size < 5
    · have HN := Lib.hid (HNO.out (fun ⟨i, a, b, c, _⟩ => by omega))
      have hq : decide ((t.size : Int) < 5) = true := by rw [decide_eq_true]; omega
      go_wp2
      go_ret2
      exact ⟨by rw [HN.out, pfix_no HN.out]; rfl, Ext.refl _⟩
    have hq : decide ((t.size : Int) < 5) = false := by rw [decide_eq_false_iff_not]; omega
    by_cases hx2 : 12 < t.size
    · have HN := Lib.hid (HNO.out (fun ⟨i, a, b, c, _⟩ => by omega))
      have hq2 : decide ((12 : Int) < (t.size : Int)) = true := by rw [decide_eq_true]; omega
      go_wp2
      go_ret2
      exact ⟨by rw [HN.out, pfix_no HN.out]; rfl, Ext.refl _⟩
    have hq2 : decide ((12 : Int) < (t.size : Int)) = false := by rw [decide_eq_false_iff_not]; omega
    obtain ⟨i, hi⟩ : ∃ i : Nat, t.size = i + 4 := ⟨t.size - 4, by omega⟩
    have hi4 : (t.size : Int) - 4 = (i : Int) := by omega
    have hilt : i < t.size := by omega
    have hiltI : (i : Int) < (t.size : Int) := by omega
    have hi0 : (0 : Int) ≤ (i : Int) := by omega
    have HI := Lib.hid hi
    have hi18 : 1 ≤ i ∧ i ≤ 8 := by omega
    have hts : t.size ≤ 12 := by omega
    clear hi hx1 hx2
    have HIL : Hid (i < t.data.toList.length) := Lib.hid (by rw [← HT.out]; exact hilt)
    by_cases hdot : t[i].toNat = 46
    rotate_left
    · have HN := Lib.hid (HNO.out (fun ⟨j, a, b, c, d⟩ => by
        have hji : j = i := by have := HI.out; omega
        subst hji
        rw [List.getElem?_eq_getElem HIL.out] at d
        injection d with d
        exact hdot (by have e2 : t[j] = 46 := d; rw [e2]; rfl)))
      have hq3 : ((t[i].toNat : Int) != 46) = true := by rw [bne_iff_ne]; omega
      go_wp2
      go_ret2
      exact ⟨by rw [HN.out, pfix_no HN.out]; rfl, Ext.refl _⟩
    have HI46 : Hid (t.data.toList[i]? = some 46) := Lib.hid (by
      rw [List.getElem?_eq_getElem HIL.out]
      exact congrArg some (UInt8.toNat_inj.1 hdot))
    have hq3 : ((t[i].toNat : Int) != 46) = false := by rw [bne_eq_false_iff_eq]; omega
    clear hdot
    have HDG : Hid (∀ k (hk : k < t.data.toList.length), k ≠ i → isDig t.data.toList[k] = false → pfixOk s.data.toList = false) := Lib.hid (fun k hk hne hd => by
      cases hx : pfixOk s.data.toList
      · rfl
      · obtain ⟨j, -, -, e3, -, e5⟩ := HPX.out hx
        have hji : j = i := by
          rw [← HST.out, ← HT.out] at e3
          have := HI.out; omega
        have hk2 : k < (strip s.data.toList).length := by rw [← HST.out]; exact hk
        have h6 := e5 k hk2 (by omega)
        have e7 : (strip s.data.toList)[k]? = t.data.toList[k]? := congrArg (fun x : Txt => x[k]?) HST.out.symm
        rw [List.getElem?_eq_getElem hk2, List.getElem?_eq_getElem hk] at e7
        injection e7 with e7
        rw [e7, hd] at h6; cases h6)
    go_wp2
    go_loop [5, 6] (fun n kk => ∃ (k v : Nat), k ≤ t.size ∧ kk = .int .i64 k ∧ n = .int .i64 v ∧ v < 1000000000000 ∧ Hid (v = val ((t.data.toList.take k).eraseIdx i) ∧ ((t.data.toList.take k).eraseIdx i).all isDig = true)) (fun _ kk => t.size - (intOf kk).toNat)
    case atStart => exact ⟨0, 0, Nat.zero_le _, rfl, rfl, by omega, Lib.hid ⟨by simp [val, valF], by simp⟩⟩
    case round =>
      obtain ⟨k, v, hk, rfl, rfl, hv, HD⟩ := hrel
      by_cases hlt : k < t.size
      · have hll : k < t.data.toList.length := by rw [← HT.out]; exact hlt
        by_cases hki : k = i
        · have hq4 : ((k : Int) == (i : Int)) = true := by rw [beq_iff_eq]; omega
          have HS : Hid (v = val ((t.data.toList.take (k + 1)).eraseIdx i) ∧ ((t.data.toList.take (k + 1)).eraseIdx i).all isDig = true) := Lib.hid (by
            have h := HD.out
            rw [hki] at h hll ⊢
            rw [er_skip hll]; exact h)
          clear hki
          go_wp2
          go_round
          case rel => exact ⟨k + 1, v, by omega, by go_num, rfl, hv, HS⟩
          case measure => simp [intOf]; omega
        · have hq4 : ((k : Int) == (i : Int)) = false := by rw [beq_eq_false_iff_ne]; omega
          have hcb := byte_le t[k]
          by_cases hd : isDig t[k] = true
          · obtain ⟨d1, d2⟩ := isDig_iff.1 hd
            have HV : Hid (10 * v + (t[k].toNat - 48) = val ((t.data.toList.take (k + 1)).eraseIdx i) ∧ ((t.data.toList.take (k + 1)).eraseIdx i).all isDig = true) := Lib.hid (by
              rw [er_step hll hki, val_snoc, ← HD.out.1, List.all_append, HD.out.2]
              exact ⟨rfl, by simp only [List.all_cons, List.all_nil, Bool.and_true, Bool.true_and]; exact hd⟩)
            have hvn : 10 * v + (t[k].toNat - 48) < 1000000000000 := by
              have h := val_le (k := 12) HV.out.2 (Nat.le_trans (er_len _ _ _) (by rw [← HT.out]; exact hts))
              rw [← HV.out.1] at h; exact h
            have d3 : ¬ (t[k].toNat : Int) < 48 := by omega
            have d4 : ¬ (57 : Int) < (t[k].toNat : Int) := by omega
            clear hd hki
            go_wp2
            go_round
            case rel => exact ⟨k + 1, 10 * v + (t[k].toNat - 48), by omega, by go_num, by go_num, hvn, HV⟩
            case measure => simp [intOf]; omega
          · have HN := Lib.hid (HDG.out k hll hki (Bool.eq_false_iff.2 hd))
            have hd2 : t[k].toNat < 48 ∨ 57 < t[k].toNat := by
              by_cases h : 48 ≤ t[k].toNat
              · right
                rcases Nat.lt_or_ge 57 t[k].toNat with h2 | h2
                · exact h2
                · exact absurd (isDig_iff.2 ⟨h, h2⟩) hd
              · omega
            clear hd hki
            rcases hd2 with hd2 | hd2
            · have hd3 : (t[k].toNat : Int) < 48 := by omega
              go_wp2
              go_ret2
              exact ⟨by rw [HN.out, pfix_no HN.out]; rfl, Ext.refl _⟩
            · have hd3 : ¬ (t[k].toNat : Int) < 48 := by omega
              have hd4 : (57 : Int) < (t[k].toNat : Int) := by omega
              go_wp2
              go_ret2
              exact ⟨by rw [HN.out, pfix_no HN.out]; rfl, Ext.refl _⟩
      · obtain rfl : k = t.size := by omega
        have hall : t.data.toList.take t.size = t.data.toList := List.take_of_length_le (by rw [← HT.out]; exact Nat.le_refl _)
        have HD2 := HD.out
        rw [hall] at HD2
        have hun := HUX.out v (by rw [fix_end HI46.out HD2.2]; exact HD2.1.symm)
        have hen := pfix_end HLN.out hun
        have F := sFormatFixed_any (-(v : Int)) (by omega) (by omega) w
        have HEN := Lib.hid hen
        clear HD HD2 hall hun hen
        have hsh : decide ((t.size : Int) < (s.size : Int)) = true := by rw [decide_eq_true]; omega
        by_cases heq : fmtFixed (-(v : Int)) = s.data.toList
        · have HY : Hid (pfixOk s.data.toList = true) := Lib.hid (by rw [HEN.out.1, decide_eq_true heq])
          have HZ := Lib.hid (HEN.out.2 heq)
          rw [heq, ba_self] at F
          have HF := Lib.hid F
          clear F heq
          go_wp2_with (go_at_call 68; refine (HF.out).mono ?_; rintro e w1 ⟨rfl, hb1⟩)
          go_ret2
          exact ⟨by rw [HY.out, HZ.out]; rfl, hb1⟩
        · have HN : Hid (pfixOk s.data.toList = false) := Lib.hid (by rw [HEN.out.1, decide_eq_false heq])
          have hne3 : ((ba (fmtFixed (-(v : Int)))).toList == s.toList) = false := str_ne (fun e => heq (ba_inj (e.trans (ba_self s).symm)))
          generalize ba (fmtFixed (-(v : Int))) = B at *
          have HF := Lib.hid F
          clear F heq
          go_wp2_with (go_at_call 68; refine (HF.out).mono ?_; rintro e w1 ⟨rfl, hb1⟩)
          go_ret2
          exact ⟨by rw [HN.out, pfix_no HN.out]; rfl, hb1⟩
  · have HMIN : Hid (minus s.data.toList = false) := Lib.hid (minus_not (by
      rw [List.getElem?_eq_getElem HH0.out]
      intro e; injection e with e
      exact hmin (by have e2 : s[0] = 45 := e; rw [e2]; rfl)))
    have h45 : ((s[0].toNat : Int) == 45) = false := by rw [beq_eq_false_iff_ne]; omega
    clear hmin
    go_enter Tryd.func82, Tryd.ntmps82
    have HT : Hid (s.size = s.data.toList.length) := Lib.hid (Lib.size_eq s)
    have HST : Hid (s.data.toList = strip s.data.toList) := Lib.hid (by rw [strip_plain HMIN.out])
    have HUX : Hid (∀ v : Nat, unabs s.data.toList = v → (v : Int) = unfix s.data.toList) := Lib.hid (fun v hv => by
      unfold unfix
      rw [HMIN.out, ← HST.out, hv]; rfl)
    have HPX := Lib.hid (fun h : pfixOk s.data.toList = true => pfix_at h)
    have HNO : Hid (¬ (∃ i : Nat, 1 ≤ i ∧ i ≤ 7 ∧ s.size = i + 4 ∧ s.data.toList[i]? = some 46) → pfixOk s.data.toList = false) := Lib.hid (fun hn => by
      cases hx : pfixOk s.data.toList
      · rfl
      · obtain ⟨i, e1, e2, e3, e4, -⟩ := HPX.out hx
        rw [← HST.out] at e3 e4
        exact absurd ⟨i, e1, e2, by rw [HT.out]; exact e3, e4⟩ hn)
    by_cases hx1 : s.size < 5
    · have HN := Lib.hid (HNO.out (fun ⟨i, a, b, c, _⟩ => by omega))
      have hq : decide ((s.size : Int) < 5) = true := by rw [decide_eq_true]; omega
      go_wp2
      go_ret2
      exact ⟨by rw [HN.out, pfix_no HN.out]; rfl, Ext.refl _⟩
    have hq : decide ((s.size : Int) < 5) = false := by rw [decide_eq_false_iff_not]; omega
    by_cases hx2 : 12 < s.size
    · have HN := Lib.hid (HNO.out (fun ⟨i, a, b, c, _⟩ => by omega))
      have hq2 : decide ((12 : Int) < (s.size : Int)) = true := by rw [decide_eq_true]; omega
      go_wp2
      go_ret2
      exact ⟨by rw [HN.out, pfix_no HN.out]; rfl, Ext.refl _⟩
    have hq2 : decide ((12 : Int) < (s.size : Int)) = false := by rw [decide_eq_false_iff_not]; omega
    obtain ⟨i, hi⟩ : ∃ i : Nat, s.size = i + 4 := ⟨s.size - 4, by omega⟩
    have hi4 : (s.size : Int) - 4 = (i : Int) := by omega
    have hilt : i < s.size := by omega
    have hiltI : (i : Int) < (s.size : Int) := by omega
    have hi0 : (0 : Int) ≤ (i : Int) := by omega
    have HI := Lib.hid hi
    have hi18 : 1 ≤ i ∧ i ≤ 8 := by omega
    have hts : s.size ≤ 12 := by omega
    clear hi hx1 hx2
    have HIL : Hid (i < s.data.toList.length) := Lib.hid (by rw [← HT.out]; exact hilt)
    by_cases hdot : s[i].toNat = 46
    rotate_left
    · have HN := Lib.hid (HNO.out (fun ⟨j, a, b, c, d⟩ => by
        have hji : j = i := by have := HI.out; omega
        subst hji
        rw [List.getElem?_eq_getElem HIL.out] at d
        injection d with d
        exact hdot (by have e2 : s[j] = 46 := d; rw [e2]; rfl)))
      have hq3 : ((s[i].toNat : Int) != 46) = true := by rw [bne_iff_ne]; omega
      go_wp2
      go_ret2
      exact ⟨by rw [HN.out, pfix_no HN.out]; rfl, Ext.refl _⟩
    have HI46 : Hid (s.data.toList[i]? = some 46) := Lib.hid (by
      rw [List.getElem?_eq_getElem HIL.out]
      exact congrArg some (UInt8.toNat_inj.1 hdot))
    have hq3 : ((s[i].toNat : Int) != 46) = false := by rw [bne_eq_false_iff_eq]; omega
    clear hdot
    have HDG : Hid (∀ k (hk : k < s.data.toList.length), k ≠ i → isDig s.data.toList[k] = false → pfixOk s.data.toList = false) := Lib.hid (fun k hk hne hd => by
      cases hx : pfixOk s.data.toList
      · rfl
      · obtain ⟨j, -, -, e3, -, e5⟩ := HPX.out hx
        have hji : j = i := by
          rw [← HST.out, ← HT.out] at e3
          have := HI.out; omega
        have hk2 : k < (strip s.data.toList).length := by rw [← HST.out]; exact hk
        have h6 := e5 k hk2 (by omega)
        have e7 : (strip s.data.toList)[k]? = s.data.toList[k]? := congrArg (fun x : Txt => x[k]?) HST.out.symm
        rw [List.getElem?_eq_getElem hk2, List.getElem?_eq_getElem hk] at e7
        injection e7 with e7
        rw [e7, hd] at h6; cases h6)
    go_wp2
    go_loop [5, 6] (fun n kk => ∃ (k v : Nat), k ≤ s.size ∧ kk = .int .i64 k ∧ n = .int .i64 v ∧ v < 1000000000000 ∧ Hid (v = val ((s.data.toList.take k).eraseIdx i) ∧ ((s.data.toList.take k).eraseIdx i).all isDig = true)) (fun _ kk => s.size - (intOf kk).toNat)
    case atStart => exact ⟨0, 0, Nat.zero_le _, rfl, rfl, by omega, Lib.hid ⟨by simp [val, valF], by simp⟩⟩
    case round =>
      obtain ⟨k, v, hk, rfl, rfl, hv, HD⟩ := hrel
      by_cases hlt : k < s.size
      · have hll : k < s.data.toList.length := by rw [← HT.out]; exact hlt
        by_cases hki : k = i
        · have hq4 : ((k : Int) == (i : Int)) = true := by rw [beq_iff_eq]; omega
          have HS : Hid (v = val ((s.data.toList.take (k + 1)).eraseIdx i) ∧ ((s.data.toList.take (k + 1)).eraseIdx i).all isDig = true) := Lib.hid (by
            have h := HD.out
            rw [hki] at h hll ⊢
            rw [er_skip hll]; exact h)
          clear hki
          go_wp2
          go_round
          case rel => exact ⟨k + 1, v, by omega, by go_num, rfl, hv, HS⟩
          case measure => simp [intOf]; omega
        · have hq4 : ((k : Int) == (i : Int)) = false := by rw [beq_eq_false_iff_ne]; omega
          have hcb := byte_le s[k]
          by_cases hd : isDig s[k] = true
          · obtain ⟨d1, d2⟩ := isDig_iff.1 hd
            have HV : Hid (10 * v + (s[k].toNat - 48) = val ((s.data.toList.take (k + 1)).eraseIdx i) ∧ ((s.data.toList.take (k + 1)).eraseIdx i).all isDig = true) := Lib.hid (by
              rw [er_step hll hki, val_snoc, ← HD.out.1, List.all_append, HD.out.2]
              exact ⟨rfl, by simp only [List.all_cons, List.all_nil, Bool.and_true, Bool.true_and]; exact hd⟩)
            have hvn : 10 * v + (s[k].toNat - 48) < 1000000000000 := by
              have h := val_le (k := 12) HV.out.2 (Nat.le_trans (er_len _ _ _) (by rw [← HT.out]; exact hts))
              rw [← HV.out.1] at h; exact h
            have d3 : ¬ (s[k].toNat : Int) < 48 := by omega
            have d4 : ¬ (57 : Int) < (s[k].toNat : Int) := by omega
            clear hd hki
            go_wp2
            go_round
            case rel => exact ⟨k + 1, 10 * v + (s[k].toNat - 48), by omega, by go_num, by go_num, hvn, HV⟩
            case measure => simp [intOf]; omega
          · have HN := Lib.hid (HDG.out k hll hki (Bool.eq_false_iff.2 hd))
            have hd2 : s[k].toNat < 48 ∨ 57 < s[k].toNat := by
              by_cases h : 48 ≤ s[k].toNat
              · right
                rcases Nat.lt_or_ge 57 s[k].toNat with h2 | h2
                · exact h2
                · exact absurd (isDig_iff.2 ⟨h, h2⟩) hd
              · omega
            clear hd hki
            rcases hd2 with hd2 | hd2
            · have hd3 : (s[k].toNat : Int) < 48 := by omega
              go_wp2
              go_ret2
              exact ⟨by rw [HN.out, pfix_no HN.out]; rfl, Ext.refl _⟩
            · have hd3 : ¬ (s[k].toNat : Int) < 48 := by omega
              have hd4 : (57 : Int) < (s[k].toNat : Int) := by omega
              go_wp2
              go_ret2
              exact ⟨by rw [HN.out, pfix_no HN.out]; rfl, Ext.refl _⟩
      · obtain rfl : k = s.size := by omega
        have hall : s.data.toList.take s.size = s.data.toList := List.take_of_length_le (by rw [← HT.out]; exact Nat.le_refl _)
        have HD2 := HD.out
        rw [hall] at HD2
        have hun := HUX.out v (by rw [fix_end HI46.out HD2.2]; exact HD2.1.symm)
        have hen := pfix_end HLN.out hun
        have F := sFormatFixed_any ((v : Int)) (by omega) (by omega) w
        have HEN := Lib.hid hen
        clear HD HD2 hall hun hen
        have hsh : decide ((s.size : Int) < (s.size : Int)) = false := by rw [decide_eq_false_iff_not]; omega
        by_cases heq : fmtFixed ((v : Int)) = s.data.toList
        · have HY : Hid (pfixOk s.data.toList = true) := Lib.hid (by rw [HEN.out.1, decide_eq_true heq])
          have HZ := Lib.hid (HEN.out.2 heq)
          rw [heq, ba_self] at F
          have HF := Lib.hid F
          clear F heq
          go_wp2_with (go_at_call 68; refine (HF.out).mono ?_; rintro e w1 ⟨rfl, hb1⟩)
          go_ret2
          exact ⟨by rw [HY.out, HZ.out]; rfl, hb1⟩
        · have HN : Hid (pfixOk s.data.toList = false) := Lib.hid (by rw [HEN.out.1, decide_eq_false heq])
          have hne3 : ((ba (fmtFixed ((v : Int)))).toList == s.toList) = false := str_ne (fun e => heq (ba_inj (e.trans (ba_self s).symm)))
          generalize ba (fmtFixed ((v : Int))) = B at *
          have HF := Lib.hid F
          clear F heq
          go_wp2_with (go_at_call 68; refine (HF.out).mono ?_; rintro e w1 ⟨rfl, hb1⟩)
          go_ret2
          exact ⟨by rw [HN.out, pfix_no HN.out]; rfl, hb1⟩
end Go.Proofs.YtfmghfghhipmhaaDoor

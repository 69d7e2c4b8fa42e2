import Derived.Test.YtfmghfghhipmhaaDoorTd
import Derived.Deep.QuietTactic
import Derived.BigQuiet
namespace Go.Fx
open Go.Lib
set_option linter.unusedVariables false
set_option linter.unusedSimpArgs false
theorem er_step {T : Txt} {i k : Nat} (hk : k < T.length) (h : k ≠ i) : (T.take (k + 1)).eraseIdx i = (T.take k).eraseIdx i ++ [T[k]] := by
  rw [List.take_succ_eq_append_getElem hk]
  by_cases hi : i < k
  · rw [List.eraseIdx_append_of_lt_length (by rw [List.length_take]; omega)]
  · have hl : (T.take k).length = k := by rw [List.length_take]; omega
    rw [List.eraseIdx_append_of_length_le (by rw [hl]; omega), hl, List.eraseIdx_of_length_le (l := T.take k) (by rw [hl]; omega), List.eraseIdx_of_length_le (l := [T[k]]) (by simp; omega)]
theorem er_skip {T : Txt} {i : Nat} (hk : i < T.length) : (T.take (i + 1)).eraseIdx i = (T.take i).eraseIdx i := by
  rw [List.take_succ_eq_append_getElem hk]
  rw [List.eraseIdx_append_of_length_le (by rw [List.length_take]; omega), List.eraseIdx_of_length_le (l := T.take i) (by rw [List.length_take]; omega), List.length_take, show i - min i T.length = 0 by omega]
  simp
theorem er_len (T : Txt) (i k : Nat) : ((T.take k).eraseIdx i).length ≤ T.length := by
  have h1 := List.length_eraseIdx_le (l := T.take k) (i := i)
  rw [List.length_take] at h1
  omega
theorem fix_end {T : Txt} {i : Nat} (hi : T[i]? = some 46) (hd : (T.eraseIdx i).all isDig = true) : unabs T = val (T.eraseIdx i) := by
  have hlt : i < T.length := by
    rcases Nat.lt_or_ge i T.length with h | h
    · exact h
    · rw [List.getElem?_eq_none h] at hi; cases hi
  have hti : T[i] = 46 := by rw [List.getElem?_eq_getElem hlt] at hi; injection hi
  have e : T = T.take i ++ 46 :: T.drop (i + 1) := by
    rw [← hti, List.getElem_cons_drop, List.take_append_drop]
  have e2 : T.eraseIdx i = T.take i ++ T.drop (i + 1) := by rw [List.eraseIdx_eq_take_drop_succ]
  rw [e2, List.all_append, Bool.and_eq_true] at hd
  unfold unabs
  conv => lhs; rw [e]
  rw [List.filter_append, filter_digs hd.1, List.filter_cons, if_neg (by decide), filter_digs hd.2, e2]
theorem idx_first : ∀ (T : Txt) (i : Nat), T[i]? = some 46 → (∀ k (hk : k < T.length), k ≠ i → isDig T[k] = true) → indexByte T 46 = (i : Int)
  | [], i, h, _ => by simp at h
  | c :: T, 0, h, _ => by
    have hc : c = 46 := by simpa using h
    subst hc; rfl
  | c :: T, i + 1, h, hd => by
    have hc := hd 0 (by simp) (by omega)
    have hne : (c == 46) = false := by
      rw [beq_eq_false_iff_ne]; intro e; simp only [List.getElem_cons_zero] at hc; rw [e] at hc; exact absurd hc (by decide)
    have ih := idx_first T i (by simpa using h) (fun k hk hn => by have := hd (k + 1) (by simpa using hk) (by omega); simpa using this)
    have hi : ((i : Int) == -1) = false := by rw [beq_eq_false_iff_ne]; omega
    unfold indexByte
    rw [hne, ih, hi]
    simp
theorem pfix_idx {l : Txt} (h : pfixOk l = true) : ∃ i : Nat, indexByte (strip l) 46 = (i : Int) ∧ 1 ≤ i ∧ i ≤ 7 ∧ (strip l).length = i + 4 ∧ ∀ k (hk : k < (strip l).length), k ≠ i → isDig (strip l)[k] = true := by
  obtain ⟨i, h1, h2, h3, h4, h5⟩ := pfix_at h
  exact ⟨i, idx_first _ _ h4 h5, h1, h2, h3, h5⟩
theorem idx_is {T : Txt} : ∀ {i : Nat}, indexByte T 46 = (i : Int) → T[i]? = some 46 := by
  induction T with
  | nil => intro i h; unfold indexByte at h; omega
  | cons c T ih =>
    intro i h
    unfold indexByte at h
    split at h
    · rename_i hc
      have : i = 0 := by omega
      subst this
      simpa using hc
    · split at h
      · omega
      · rename_i h2
        have hge := indexByte_ge T 46
        have hne : indexByte T 46 ≠ -1 := fun e => h2 (by rw [e]; rfl)
        obtain ⟨j, rfl⟩ : ∃ j, i = j + 1 := ⟨i - 1, by omega⟩
        simpa using ih (i := j) (by omega)
theorem pfix_no {l : Txt} (h : pfixOk l = false) : pfix l = 0 := by unfold pfix; rw [h]; rfl
/-- what comes of the end: the number n stands for the text -/
theorem pfix_end {l : Txt} {n : Int} (hl : l ≠ []) (hn : n = unfix l) : pfixOk l = decide (fmtFixed n = l) ∧ (fmtFixed n = l → pfix l = n) := by
  subst hn
  by_cases h : fmtFixed (unfix l) = l
  · have hf : fixOk (unfix l) = true := by
      cases hx : fixOk (unfix l)
      · unfold fmtFixed at h; rw [hx] at h; exact absurd h.symm hl
      · rfl
    have h' := h
    unfold fmtFixed at h'
    rw [if_pos hf] at h'
    have hy := pfix_yes hf h'
    exact ⟨by rw [hy.1, decide_eq_true h], fun _ => hy.2⟩
  · refine ⟨?_, fun e => absurd e h⟩
    rw [decide_eq_false h]
    cases hx : pfixOk l
    · rfl
    · obtain ⟨a, b⟩ := pfix_fmt hx
      exact absurd (by unfold fmtFixed; rw [if_pos b]; exact a) h
theorem pfix_nil : pfixOk [] = false := by
  cases h : pfixOk []
  · rfl
  · obtain ⟨i, -, h1, -, h2, -⟩ := pfix_idx h
    simp [strip] at h2
theorem strip_sub {l : Txt} (h : minus l = true) : strip l = l.drop 1 := by
  have := strip_minus h
  conv => rhs; rw [this]
  rfl
theorem minus_of {l : Txt} (h : l[0]? = some 45) : minus l = true := by
  cases l with
  | nil => simp at h
  | cons c l =>
    have : c = 45 := by simpa using h
    subst this; rfl
theorem minus_not {l : Txt} (h : l[0]? ≠ some 45) : minus l = false := by
  cases l with
  | nil => rfl
  | cons c l =>
    unfold minus
    split
    · rename_i e; injection e with e1 e2; subst e1; exact absurd rfl h
    · rfl
end Go.Fx
namespace Go.Proofs.YtfmghfghhipmhaaDoor
open Go.RowKit Go.Fx Go.Sort
open Go.Lib (decDigits)
set_option linter.unusedVariables false
set_option linter.unusedSimpArgs false
theorem idx_any (s : ByteArray) (w : World) : Calls Tryd.prog 98 #[.string s, .int .u8 46] w fun e w' => e = .returned (.int .i64 (Lib.indexByte s.data.toList 46)) ∧ w = w' :=
  (Tryd.strings_IndexByte s 46 w).mono fun e w' ⟨a, b⟩ => ⟨a, b.symm⟩
theorem tos_ne {s : ByteArray} (h : 0 < s.size) : s.toList ≠ [] := by
  rw [Lib.toList_data]; intro e
  have h2 := Lib.size_eq s
  rw [e] at h2
  have h3 : s.size = 0 := h2
  omega
set_option maxRecDepth 100000 in
set_option maxHeartbeats 2000000 in
theorem iParseFixed_any (s : ByteArray) (w : World) (E : Env w) (hs : s.size ≤ 1048576) :
    Calls Tryd.prog 85 #[.string s] w fun e w' => e = .returned (.tuple #[.int .i64 (pfix s.data.toList), .bool (pfixOk s.data.toList)]) ∧ Ext w w' := by
  have HE := Lib.hid E
  clear E

  have HL := Lib.hid (Lib.size_eq s)
  by_cases h0 : s.size = 0
  · have hnil : s.data.toList = [] := List.length_eq_zero_iff.1 (by rw [← HL.out]; exact h0)
    obtain rfl : s = ⟨#[]⟩ := by rw [← ba_self s, hnil]
    have hi : Lib.indexByte ([] : Txt) 46 = -1 := rfl
    have HI := Lib.hid (idx_any ⟨#[]⟩)
    go_enter Tryd.func85, Tryd.ntmps85
    go_wp2_with fail
    refine (HI.out _).mono ?_
    rintro e w1 ⟨rfl, rfl⟩
    go_wp2
    go_ret2
    exact ⟨by rw [show pfixOk ([] : Txt) = false from pfix_nil, show pfix ([] : Txt) = 0 from pfix_no pfix_nil]; rfl, Ext.refl _⟩
  have hpos : 0 < s.size := by omega
  have hne := tos_ne hpos
  have hne2 : s.toList.isEmpty = false := by simpa using hne
  have HLN : Hid (s.data.toList ≠ []) := Lib.hid (by rw [← Lib.toList_data]; exact hne)
  have HH0 : Hid (0 < s.data.toList.length) := Lib.hid (by rw [← HL.out]; exact hpos)
  by_cases hmin : s[0].toNat = 45
  · have HMIN : Hid (minus s.data.toList = true) := Lib.hid (minus_of (by
      rw [List.getElem?_eq_getElem HH0.out]
      exact congrArg some (UInt8.toNat_inj.1 hmin)))
    have h45 : ((s[0].toNat : Int) == 45) = true := by rw [beq_iff_eq]; omega
    have hsl : (1 : Int) ≤ (s.size : Int) := by omega
    clear hmin
    obtain ⟨t, ht⟩ : ∃ t, s.extract 1 s.size = t := ⟨_, rfl⟩
    have HTD := Lib.hid ht
    have htsz : t.size ≤ s.size := by
      have e1 := Lib.size_eq (s.extract 1 s.size)
      rw [Lib.extract_to_end, List.length_drop, ht] at e1
      have e2 := Lib.size_eq s
      omega
    go_enter Tryd.func85, Tryd.ntmps85
    go_wp2_with fail
    go_quiet (fail)
    go_wp2_with fail
    have hxq : Ext w (w.drewN nq) := Ext.drewN _ _
    generalize w.drewN nq = wq at *
    refine (idx_any t _).mono ?_
    rintro e w9 ⟨rfl, rfl⟩
    clear ht
    have HT : Hid (t.size = t.data.toList.length) := Lib.hid (Lib.size_eq t)
    have HST : Hid (t.data.toList = strip s.data.toList) := Lib.hid (by rw [← HTD.out, Lib.extract_to_end, strip_sub HMIN.out])
    have HUX : Hid (∀ v : Nat, unabs t.data.toList = v → -(v : Int) = unfix s.data.toList) := Lib.hid (fun v hv => by
      unfold unfix
      rw [HMIN.out, ← HST.out, hv]; rfl)
    have HPX := Lib.hid (fun h : pfixOk s.data.toList = true => pfix_idx h)
    have hge := Lib.indexByte_ge t.data.toList 46
    have HXI := Lib.hid (fun i : Nat => idx_is (T := t.data.toList) (i := i))
    generalize hX : Lib.indexByte t.data.toList 46 = X at *
    have HX := Lib.hid hX
    clear hX
    have HNO : Hid (¬ (∃ i : Nat, X = (i : Int) ∧ 1 ≤ i ∧ i ≤ 7 ∧ t.size = i + 4) → pfixOk s.data.toList = false) := Lib.hid (fun hn => by
      cases hx : pfixOk s.data.toList
      · rfl
      · obtain ⟨i, e1, e2, e3, e4, -⟩ := HPX.out hx
        rw [← HST.out] at e1 e4
        exact absurd ⟨i, HX.out.symm.trans e1, e2, e3, by rw [HT.out]; exact e4⟩ hn)
    by_cases hx1 : X < 1
    · have HN := Lib.hid (HNO.out (fun ⟨i, a, b, _⟩ => by omega))
      go_wp2
      go_ret2
      exact ⟨by rw [HN.out, pfix_no HN.out]; rfl, hxq⟩
    obtain ⟨i, rfl⟩ : ∃ i : Nat, X = (i : Int) := ⟨X.toNat, by omega⟩
    have hi1 : 1 ≤ i := by omega
    have hilt : i < t.size := by
      have h := HXI.out i rfl
      rcases Nat.lt_or_ge i t.data.toList.length with h2 | h2
      · rw [HT.out]; exact h2
      · rw [List.getElem?_eq_none h2] at h; cases h
    by_cases hx2 : t.size = i + 4
    rotate_left
    · have HN := Lib.hid (HNO.out (fun ⟨j, a, b, c, d⟩ => hx2 (by omega)))
      have hq : ((t.size : Int) != (i : Int) + 4) = true := by rw [bne_iff_ne]; omega
      go_wp2
      go_ret2
      exact ⟨by rw [HN.out, pfix_no HN.out]; rfl, hxq⟩
    have hq : ((t.size : Int) != (i : Int) + 4) = false := by rw [bne_eq_false_iff_eq]; omega
    by_cases hx3 : i ≤ 7
    rotate_left
    · have HN := Lib.hid (HNO.out (fun ⟨j, a, b, c, d⟩ => hx3 (by omega)))
      have hq3 : decide ((7 : Int) < (i : Int)) = true := by rw [decide_eq_true]; omega
      go_wp2
      go_ret2
      exact ⟨by rw [HN.out, pfix_no HN.out]; rfl, hxq⟩
    have hq3 : decide ((7 : Int) < (i : Int)) = false := by rw [decide_eq_false_iff_not]; omega
    have HI46 := Lib.hid (HXI.out i rfl)
    clear hx1 hge
    have HDG : Hid (∀ k (hk : k < t.data.toList.length), k ≠ i → isDig t.data.toList[k] = false → pfixOk s.data.toList = false) := Lib.hid (fun k hk hne hd => by
      cases hx : pfixOk s.data.toList
      · rfl
      · obtain ⟨j, e1, -, -, -, e5⟩ := HPX.out hx
        rw [← HST.out] at e1
        have hji : j = i := by have := HX.out.symm.trans e1; omega
        have hk2 : k < (strip s.data.toList).length := by rw [← HST.out]; exact hk
        have h6 := e5 k hk2 (by omega)
        have e7 : (strip s.data.toList)[k]? = t.data.toList[k]? := congrArg (fun x : Txt => x[k]?) HST.out.symm
        rw [List.getElem?_eq_getElem hk2, List.getElem?_eq_getElem hk] at e7
        injection e7 with e7
        rw [e7, hd] at h6; cases h6)
    go_wp2
    go_loop [7, 8] (fun n kk => ∃ (k v : Nat), k ≤ t.size ∧ kk = .int .i64 k ∧ n = .int .i64 v ∧ v < 100000000000 ∧ Hid (v = val ((t.data.toList.take k).eraseIdx i) ∧ ((t.data.toList.take k).eraseIdx i).all isDig = true)) (fun _ kk => t.size - (intOf kk).toNat)
    case atStart => exact ⟨0, 0, Nat.zero_le _, rfl, rfl, by omega, Lib.hid ⟨by simp [val, valF], by simp⟩⟩
    case round =>
      obtain ⟨k, v, hk, rfl, rfl, hv, HD⟩ := hrel
      by_cases hlt : k < t.size
      · have hll : k < t.data.toList.length := by rw [← HT.out]; exact hlt
        by_cases hki : k = i
        · have hq4 : ((k : Int) == (i : Int)) = true := by rw [beq_iff_eq]; omega
          have HS : Hid (v = val ((t.data.toList.take (k + 1)).eraseIdx i) ∧ ((t.data.toList.take (k + 1)).eraseIdx i).all isDig = true) := Lib.hid (by
            have h := HD.out
            rw [hki] at h hll ⊢
            rw [er_skip hll]; exact h)
          clear hki
          go_wp2
          go_round
          case rel => exact ⟨k + 1, v, by omega, by go_num, rfl, hv, HS⟩
          case measure => simp [intOf]; omega
        · have hq4 : ((k : Int) == (i : Int)) = false := by rw [beq_eq_false_iff_ne]; omega
          have hcb := byte_le t[k]
          by_cases hd : isDig t[k] = true
          · obtain ⟨d1, d2⟩ := isDig_iff.1 hd
            have HV : Hid (10 * v + (t[k].toNat - 48) = val ((t.data.toList.take (k + 1)).eraseIdx i) ∧ ((t.data.toList.take (k + 1)).eraseIdx i).all isDig = true) := Lib.hid (by
              rw [er_step hll hki, val_snoc, ← HD.out.1, List.all_append, HD.out.2]
              exact ⟨rfl, by simp only [List.all_cons, List.all_nil, Bool.and_true, Bool.true_and]; exact hd⟩)
            have hvn : 10 * v + (t[k].toNat - 48) < 100000000000 := by
              have h := val_le (k := 11) HV.out.2 (Nat.le_trans (er_len _ _ _) (by rw [← HT.out]; omega))
              rw [← HV.out.1] at h; exact h
            have d3 : ¬ (t[k].toNat : Int) < 48 := by omega
            have d4 : ¬ (57 : Int) < (t[k].toNat : Int) := by omega
            clear hd hki
            go_wp2
            go_round
            case rel => exact ⟨k + 1, 10 * v + (t[k].toNat - 48), by omega, by go_num, by go_num, hvn, HV⟩
            case measure => simp [intOf]; omega
          · have HN := Lib.hid (HDG.out k hll hki (Bool.eq_false_iff.2 hd))
            have hd2 : t[k].toNat < 48 ∨ 57 < t[k].toNat := by
              by_cases h : 48 ≤ t[k].toNat
              · right
                rcases Nat.lt_or_ge 57 t[k].toNat with h2 | h2
                · exact h2
                · exact absurd (isDig_iff.2 ⟨h, h2⟩) hd
              · omega
            clear hd hki
            rcases hd2 with hd2 | hd2
            · have hd3 : (t[k].toNat : Int) < 48 := by omega
              go_wp2
              go_ret2
              exact ⟨by rw [HN.out, pfix_no HN.out]; rfl, hxq⟩
            · have hd3 : ¬ (t[k].toNat : Int) < 48 := by omega
              have hd4 : (57 : Int) < (t[k].toNat : Int) := by omega
              go_wp2
              go_ret2
              exact ⟨by rw [HN.out, pfix_no HN.out]; rfl, hxq⟩
      · obtain rfl : k = t.size := by omega
        have hall : t.data.toList.take t.size = t.data.toList := List.take_of_length_le (by rw [← HT.out]; exact Nat.le_refl _)
        have HD2 := HD.out
        rw [hall] at HD2
        have hun := HUX.out v (by rw [fix_end HI46.out HD2.2]; exact HD2.1.symm)
        have hen := pfix_end HLN.out hun
        have F := iFormatFixed_any (-(v : Int)) (by omega) (by omega) wq (HE.out.ext hxq)
        have HEN := Lib.hid hen
        clear HD HD2 hall hun hen
        by_cases heq : fmtFixed (-(v : Int)) = s.data.toList
        · have HY : Hid (pfixOk s.data.toList = true) := Lib.hid (by rw [HEN.out.1, decide_eq_true heq])
          have HZ := Lib.hid (HEN.out.2 heq)
          rw [heq, ba_self] at F
          have HF := Lib.hid F
          clear F heq
          go_wp2_with (go_at_call 45; refine (HF.out).mono ?_; rintro e w1 ⟨rfl, hb1⟩)
          go_ret2
          exact ⟨by rw [HY.out, HZ.out]; rfl, (hxq).trans hb1⟩
        · have HN : Hid (pfixOk s.data.toList = false) := Lib.hid (by rw [HEN.out.1, decide_eq_false heq])
          have hne3 : ((ba (fmtFixed (-(v : Int)))).toList == s.toList) = false := str_ne (fun e => heq (ba_inj (e.trans (ba_self s).symm)))
          generalize ba (fmtFixed (-(v : Int))) = B at *
          have HF := Lib.hid F
          clear F heq
          go_wp2_with (go_at_call 45; refine (HF.out).mono ?_; rintro e w1 ⟨rfl, hb1⟩)
          go_ret2
          exact ⟨by rw [HN.out, pfix_no HN.out]; rfl, (hxq).trans hb1⟩
  · have HMIN : Hid (minus s.data.toList = false) := Lib.hid (minus_not (by
      rw [List.getElem?_eq_getElem HH0.out]
      intro e; injection e with e
      exact hmin (by have e2 : s[0] = 45 := e; rw [e2]; rfl)))
    have h45 : ((s[0].toNat : Int) == 45) = false := by rw [beq_eq_false_iff_ne]; omega
    clear hmin
    go_enter Tryd.func85, Tryd.ntmps85
    go_wp2_with fail
    refine (idx_any s _).mono ?_
    rintro e w9 ⟨rfl, rfl⟩
    have HT : Hid (s.size = s.data.toList.length) := Lib.hid (Lib.size_eq s)
    have HST : Hid (s.data.toList = strip s.data.toList) := Lib.hid (by rw [strip_plain HMIN.out])
    have HUX : Hid (∀ v : Nat, unabs s.data.toList = v → (v : Int) = unfix s.data.toList) := Lib.hid (fun v hv => by
      unfold unfix
      rw [HMIN.out, ← HST.out, hv]; rfl)
    have HPX := Lib.hid (fun h : pfixOk s.data.toList = true => pfix_idx h)
    have hge := Lib.indexByte_ge s.data.toList 46
    have HXI := Lib.hid (fun i : Nat => idx_is (T := s.data.toList) (i := i))
    generalize hX : Lib.indexByte s.data.toList 46 = X at *
    have HX := Lib.hid hX
    clear hX
    have HNO : Hid (¬ (∃ i : Nat, X = (i : Int) ∧ 1 ≤ i ∧ i ≤ 7 ∧ s.size = i + 4) → pfixOk s.data.toList = false) := Lib.hid (fun hn => by
      cases hx : pfixOk s.data.toList
      · rfl
      · obtain ⟨i, e1, e2, e3, e4, -⟩ := HPX.out hx
        rw [← HST.out] at e1 e4
        exact absurd ⟨i, HX.out.symm.trans e1, e2, e3, by rw [HT.out]; exact e4⟩ hn)
    by_cases hx1 : X < 1
    · have HN := Lib.hid (HNO.out (fun ⟨i, a, b, _⟩ => by omega))
      go_wp2
      go_ret2
      exact ⟨by rw [HN.out, pfix_no HN.out]; rfl, (Ext.refl _)⟩
    obtain ⟨i, rfl⟩ : ∃ i : Nat, X = (i : Int) := ⟨X.toNat, by omega⟩
    have hi1 : 1 ≤ i := by omega
    have hilt : i < s.size := by
      have h := HXI.out i rfl
      rcases Nat.lt_or_ge i s.data.toList.length with h2 | h2
      · rw [HT.out]; exact h2
      · rw [List.getElem?_eq_none h2] at h; cases h
    by_cases hx2 : s.size = i + 4
    rotate_left
    · have HN := Lib.hid (HNO.out (fun ⟨j, a, b, c, d⟩ => hx2 (by omega)))
      have hq : ((s.size : Int) != (i : Int) + 4) = true := by rw [bne_iff_ne]; omega
      go_wp2
      go_ret2
      exact ⟨by rw [HN.out, pfix_no HN.out]; rfl, (Ext.refl _)⟩
    have hq : ((s.size : Int) != (i : Int) + 4) = false := by rw [bne_eq_false_iff_eq]; omega
    by_cases hx3 : i ≤ 7
    rotate_left
    · have HN := Lib.hid (HNO.out (fun ⟨j, a, b, c, d⟩ => hx3 (by omega)))
      have hq3 : decide ((7 : Int) < (i : Int)) = true := by rw [decide_eq_true]; omega
      go_wp2
      go_ret2
      exact ⟨by rw [HN.out, pfix_no HN.out]; rfl, (Ext.refl _)⟩
    have hq3 : decide ((7 : Int) < (i : Int)) = false := by rw [decide_eq_false_iff_not]; omega
    have HI46 := Lib.hid (HXI.out i rfl)
    clear hx1 hge
    have HDG : Hid (∀ k (hk : k < s.data.toList.length), k ≠ i → isDig s.data.toList[k] = false → pfixOk s.data.toList = false) := Lib.hid (fun k hk hne hd => by
      cases hx : pfixOk s.data.toList
      · rfl
      · obtain ⟨j, e1, -, -, -, e5⟩ := HPX.out hx
        rw [← HST.out] at e1
        have hji : j = i := by have := HX.out.symm.trans e1; omega
        have hk2 : k < (strip s.data.toList).length := by rw [← HST.out]; exact hk
        have h6 := e5 k hk2 (by omega)
        have e7 : (strip s.data.toList)[k]? = s.data.toList[k]? := congrArg (fun x : Txt => x[k]?) HST.out.symm
        rw [List.getElem?_eq_getElem hk2, List.getElem?_eq_getElem hk] at e7
        injection e7 with e7
        rw [e7, hd] at h6; cases h6)
    go_wp2
    go_loop [7, 8] (fun n kk => ∃ (k v : Nat), k ≤ s.size ∧ kk = .int .i64 k ∧ n = .int .i64 v ∧ v < 100000000000 ∧ Hid (v = val ((s.data.toList.take k).eraseIdx i) ∧ ((s.data.toList.take k).eraseIdx i).all isDig = true)) (fun _ kk => s.size - (intOf kk).toNat)
    case atStart => exact ⟨0, 0, Nat.zero_le _, rfl, rfl, by omega, Lib.hid ⟨by simp [val, valF], by simp⟩⟩
    case round =>
      obtain ⟨k, v, hk, rfl, rfl, hv, HD⟩ := hrel
      by_cases hlt : k < s.size
      · have hll : k < s.data.toList.length := by rw [← HT.out]; exact hlt
        by_cases hki : k = i
        · have hq4 : ((k : Int) == (i : Int)) = true := by rw [beq_iff_eq]; omega
          have HS : Hid (v = val ((s.data.toList.take (k + 1)).eraseIdx i) ∧ ((s.data.toList.take (k + 1)).eraseIdx i).all isDig = true) := Lib.hid (by
            have h := HD.out
            rw [hki] at h hll ⊢
            rw [er_skip hll]; exact h)
          clear hki
          go_wp2
          go_round
          case rel => exact ⟨k + 1, v, by omega, by go_num, rfl, hv, HS⟩
          case measure => simp [intOf]; omega
        · have hq4 : ((k : Int) == (i : Int)) = false := by rw [beq_eq_false_iff_ne]; omega
          have hcb := byte_le s[k]
          by_cases hd : isDig s[k] = true
          · obtain ⟨d1, d2⟩ := isDig_iff.1 hd
            have HV : Hid (10 * v + (s[k].toNat - 48) = val ((s.data.toList.take (k + 1)).eraseIdx i) ∧ ((s.data.toList.take (k + 1)).eraseIdx i).all isDig = true) := Lib.hid (by
              rw [er_step hll hki, val_snoc, ← HD.out.1, List.all_append, HD.out.2]
              exact ⟨rfl, by simp only [List.all_cons, List.all_nil, Bool.and_true, Bool.true_and]; exact hd⟩)
            have hvn : 10 * v + (s[k].toNat - 48) < 100000000000 := by
              have h := val_le (k := 11) HV.out.2 (Nat.le_trans (er_len _ _ _) (by rw [← HT.out]; omega))
              rw [← HV.out.1] at h; exact h
            have d3 : ¬ (s[k].toNat : Int) < 48 := by omega
            have d4 : ¬ (57 : Int) < (s[k].toNat : Int) := by omega
            clear hd hki
            go_wp2
            go_round
            case rel => exact ⟨k + 1, 10 * v + (s[k].toNat - 48), by omega, by go_num, by go_num, hvn, HV⟩
            case measure => simp [intOf]; omega
          · have HN := Lib.hid (HDG.out k hll hki (Bool.eq_false_iff.2 hd))
            have hd2 : s[k].toNat < 48 ∨ 57 < s[k].toNat := by
              by_cases h : 48 ≤ s[k].toNat
              · right
                rcases Nat.lt_or_ge 57 s[k].toNat with h2 | h2
                · exact h2
                · exact absurd (isDig_iff.2 ⟨h, h2⟩) hd
              · omega
            clear hd hki
            rcases hd2 with hd2 | hd2
            · have hd3 : (s[k].toNat : Int) < 48 := by omega
              go_wp2
              go_ret2
              exact ⟨by rw [HN.out, pfix_no HN.out]; rfl, (Ext.refl _)⟩
            · have hd3 : ¬ (s[k].toNat : Int) < 48 := by omega
              have hd4 : (57 : Int) < (s[k].toNat : Int) := by omega
              go_wp2
              go_ret2
              exact ⟨by rw [HN.out, pfix_no HN.out]; rfl, (Ext.refl _)⟩
      · obtain rfl : k = s.size := by omega
        have hall : s.data.toList.take s.size = s.data.toList := List.take_of_length_le (by rw [← HT.out]; exact Nat.le_refl _)
        have HD2 := HD.out
        rw [hall] at HD2
        have hun := HUX.out v (by rw [fix_end HI46.out HD2.2]; exact HD2.1.symm)
        have hen := pfix_end HLN.out hun
        have F := iFormatFixed_any ((v : Int)) (by omega) (by omega) w (HE.out.ext (Ext.refl _))
        have HEN := Lib.hid hen
        clear HD HD2 hall hun hen
        by_cases heq : fmtFixed ((v : Int)) = s.data.toList
        · have HY : Hid (pfixOk s.data.toList = true) := Lib.hid (by rw [HEN.out.1, decide_eq_true heq])
          have HZ := Lib.hid (HEN.out.2 heq)
          rw [heq, ba_self] at F
          have HF := Lib.hid F
          clear F heq
          go_wp2_with (go_at_call 45; refine (HF.out).mono ?_; rintro e w1 ⟨rfl, hb1⟩)
          go_ret2
          exact ⟨by rw [HY.out, HZ.out]; rfl, hb1⟩
        · have HN : Hid (pfixOk s.data.toList = false) := Lib.hid (by rw [HEN.out.1, decide_eq_false heq])
          have hne3 : ((ba (fmtFixed ((v : Int)))).toList == s.toList) = false := str_ne (fun e => heq (ba_inj (e.trans (ba_self s).symm)))
          generalize ba (fmtFixed ((v : Int))) = B at *
          have HF := Lib.hid F
          clear F heq
          go_wp2_with (go_at_call 45; refine (HF.out).mono ?_; rintro e w1 ⟨rfl, hb1⟩)
          go_ret2
          exact ⟨by rw [HN.out, pfix_no HN.out]; rfl, hb1⟩
end Go.Proofs.YtfmghfghhipmhaaDoor

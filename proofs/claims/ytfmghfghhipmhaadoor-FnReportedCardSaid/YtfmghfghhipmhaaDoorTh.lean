import Derived.Test.YtfmghfghhipmhaaDoorTg
namespace Go.Fx
open Go.Lib
set_option linter.unusedVariables false
set_option linter.unusedSimpArgs false
/-- where the cutting stands: k bytes are read, the field under way begins at b -/
def At (l : Txt) (k b : Nat) (d : List Txt) : Prop :=
  if k ≤ l.length then flds [] l = d ++ flds ((l.drop b).take (k - b)) (l.drop k) ∧ (l.take k).all plainC = true ∧ b ≤ k
  else flds [] l = d ∧ l.all plainC = true
theorem At.start (l : Txt) : At l 0 0 [] := by unfold At; rw [if_pos (Nat.zero_le _)]; simp
theorem cur_snoc {l : Txt} {k b : Nat} (hk : k < l.length) (hb : b ≤ k) : (l.drop b).take (k + 1 - b) = (l.drop b).take (k - b) ++ [l[k]] := by
  have h1 : k - b < (l.drop b).length := by rw [List.length_drop]; omega
  rw [show k + 1 - b = k - b + 1 by omega, List.take_succ_eq_append_getElem h1, List.getElem_drop]
  congr 3; omega
theorem At.le {l : Txt} {k b : Nat} {d : List Txt} (h : At l k b d) (hk : k ≤ l.length) : b ≤ k := by unfold At at h; rw [if_pos hk] at h; exact h.2.2
theorem At.go {l : Txt} {k b : Nat} {d : List Txt} (h : At l k b d) (hk : k < l.length) (hc : l[k] ≠ 32) (hp : plainC l[k] = true) : At l (k + 1) b d := by
  unfold At at h ⊢
  rw [if_pos (by omega)] at h
  rw [if_pos (by omega)]
  obtain ⟨h1, h2, h3⟩ := h
  refine ⟨?_, all_take_snoc hk h2 hp, by omega⟩
  rw [h1, List.drop_eq_getElem_cons hk, flds, if_neg hc, cur_snoc hk h3]
theorem At.cut {l : Txt} {k b : Nat} {d : List Txt} (h : At l k b d) (hk : k < l.length) (hc : l[k] = 32) (hb : b < k) : At l (k + 1) (k + 1) (d ++ [(l.drop b).take (k - b)]) := by
  unfold At at h ⊢
  rw [if_pos (by omega)] at h
  rw [if_pos (by omega)]
  obtain ⟨h1, h2, h3⟩ := h
  refine ⟨?_, all_take_snoc hk h2 (by rw [hc]; rfl), by omega⟩
  have hne : ((l.drop b).take (k - b)).isEmpty = false := by
    rw [List.isEmpty_eq_false_iff]
    intro e
    have := congrArg List.length e
    rw [List.length_take, List.length_drop] at this
    simp at this; omega
  rw [h1, List.drop_eq_getElem_cons hk, flds, if_pos hc, hne]
  simp
theorem At.skip {l : Txt} {k : Nat} {d : List Txt} (h : At l k k d) (hk : k < l.length) (hc : l[k] = 32) : At l (k + 1) (k + 1) d := by
  unfold At at h ⊢
  rw [if_pos (by omega)] at h
  rw [if_pos (by omega)]
  obtain ⟨h1, h2, h3⟩ := h
  refine ⟨?_, all_take_snoc hk h2 (by rw [hc]; rfl), by omega⟩
  rw [h1, List.drop_eq_getElem_cons hk, flds, if_pos hc]
  simp
theorem At.last {l : Txt} {b : Nat} {d : List Txt} (h : At l l.length b d) (hb : b < l.length) (c : Nat) : At l (l.length + 1) c (d ++ [(l.drop b).take (l.length - b)]) := by
  unfold At at h ⊢
  rw [if_pos (Nat.le_refl _)] at h
  rw [if_neg (by omega)]
  obtain ⟨h1, h2, h3⟩ := h
  rw [List.take_of_length_le (Nat.le_refl _)] at h2
  refine ⟨?_, h2⟩
  have hne : ((l.drop b).take (l.length - b)).isEmpty = false := by
    rw [List.isEmpty_eq_false_iff]
    intro e
    have := congrArg List.length e
    rw [List.length_take, List.length_drop] at this
    simp at this; omega
  rw [h1, List.drop_of_length_le (Nat.le_refl _), flds, hne]
  simp
theorem At.none {l : Txt} {d : List Txt} (h : At l l.length l.length d) (c : Nat) : At l (l.length + 1) c d := by
  unfold At at h ⊢
  rw [if_pos (Nat.le_refl _)] at h
  rw [if_neg (by omega)]
  obtain ⟨h1, h2, h3⟩ := h
  rw [List.take_of_length_le (Nat.le_refl _)] at h2
  refine ⟨?_, h2⟩
  rw [h1, List.drop_of_length_le (Nat.le_refl _), flds]
  simp
theorem At.end {l : Txt} {b : Nat} {d : List Txt} (h : At l (l.length + 1) b d) : flds [] l = d ∧ l.all plainC = true := by
  unfold At at h
  rw [if_neg (by omega)] at h
  exact h
theorem ba_cut (s : ByteArray) (b k : Nat) : s.extract b k = ba ((s.data.toList.drop b).take (k - b)) := by
  rw [← ba_self (s.extract b k), Lib.extract_data]
end Go.Fx
namespace Go.Proofs.YtfmghfghhipmhaaDoor
open Go.RowKit Go.Fx Go.Sort
set_option linter.unusedVariables false
set_option linter.unusedSimpArgs false
set_option maxRecDepth 100000 in
set_option maxHeartbeats 4000000 in
theorem sSplitFields_any (s : ByteArray) (w : World) (hs : s.size ≤ maxLen) :
    Calls Tryd.prog 56 #[.string s] w fun e w' => (∃ v, e = .returned (.tuple #[v, .bool (fieldsOk s.data.toList)]) ∧ OT w' w.heap.size v (fields s.data.toList)) ∧ Ext w w' := by
  unfold maxLen at hs
  have HL := Lib.hid (Lib.size_eq s)
  have HNEW : Hid (∀ W, Ext w W → OT (W.alloc (.cells #[] 9)) w.heap.size (.slice (some ⟨W.heap.size, 0, none⟩) 0 0) []) := Lib.hid (fun W hW => own_new W w.heap.size _ 1 hW.size)
  have ha : Ext w (w.alloc (.cells #[] 9)) := (Ext.refl _).alloc _
  have hnew := HNEW.out w (Ext.refl w)
  by_cases h6 : 600 < s.size
  · have HN := Lib.hid (fields_long (l := s.data.toList) (by rw [← HL.out]; exact h6))
    have hq : decide ((600 : Int) < (s.size : Int)) = true := by rw [decide_eq_true]; omega
    have HA := Lib.hid hnew
    clear hnew
    go_enter Tryd.func56, Tryd.ntmps56
    go_wp2
    go_ret2
    exact ⟨⟨_, by rw [HN.out]; rfl, by rw [fields_no HN.out]; exact HA.out⟩, ha⟩
  have hq : decide ((600 : Int) < (s.size : Int)) = false := by rw [decide_eq_false_iff_not]; omega
  have HA := Lib.hid hnew
  clear hnew
  go_enter Tryd.func56, Tryd.ntmps56
  go_wp2
  go_loopw [4, 5, 6] (fun v bv i wr => ∃ (k b n : Nat) (d : List Txt), k ≤ s.size + 1 ∧ i = .int .i64 k ∧ bv = .int .i64 b ∧ b ≤ s.size + 1 ∧ n ≤ k ∧ Hid (At s.data.toList k b d ∧ d.length = n ∧ wr.ownsRow w.heap.size 9 1 v n ((d.map ba).map st)) ∧ Ext w wr) (fun _ _ i _ => s.size + 1 - (intOf i).toNat)
  case atStart => exact ⟨0, 0, 0, [], by omega, rfl, rfl, by omega, by omega, Lib.hid ⟨At.start _, rfl, HA.out⟩, ha⟩
  case round =>
    clear ha
    rename World => wo
    obtain ⟨k, b, n, d, hk, rfl, rfl, hbs, hnk, HO, hbr⟩ := hrel
    obtain ⟨A2, c2, rfl, -, -⟩ := own_slice HO.out.2.2
    by_cases hlt : k < s.size
    · have hll : k < s.data.toList.length := by rw [← HL.out]; exact hlt
      have hcb := byte_le s[k]
      have hbk := HO.out.1.le (by omega)
      have hkI : (k : Int) ≤ (s.size : Int) := by omega
      have hkJ : (k : Int) < (s.size : Int) := by omega
      by_cases hd : plainC s[k] = true
      · obtain ⟨d1, d2⟩ := plainC_iff.1 hd
        have d3 : ¬ (s[k].toNat : Int) < 32 := by omega
        have d4 : ¬ (126 : Int) < (s[k].toNat : Int) := by omega
        by_cases h32 : s[k].toNat = 32
        · have hc : s.data.toList[k] = 32 := UInt8.toNat_inj.1 h32
          have hq2 : ((s[k].toNat : Int) != 32) = false := by rw [bne_eq_false_iff_eq]; omega
          by_cases hb : b < k
          · have HN := Lib.hid (HO.out.1.cut hll hc hb)
            have hq3 : (b : Int) < (k : Int) := by omega
            obtain ⟨B, hB⟩ : ∃ B, s.extract b k = B := ⟨_, rfl⟩
            have HB := Lib.hid hB
            clear hd hc h32
            go_wp2_with (at_builtin; refine wpList_app rfl _ _ 23 rfl w.heap.size 9 _ 1 16 Tryd.underlying23 info_str rfl (by omega) (.slice A2 n c2) n _ rfl (own_ext HO.out.2.2 ((Ext.refl _).alloc _)) _ 1 1 [.string B] rfl (rd_new _ _ _ _) rfl (fun h => by cases h) (by intro u hu; simp at hu; subst hu; rfl) (by unfold maxLen; omega) (by omega) (by have := hbr.size; simp; omega) ?_; intro v2 w3 hown hg hat)
            go_roundw
            case rel =>
              refine ⟨k + 1, k + 1, n + 1, _, by omega, by go_num, by go_num, by omega, by omega, Lib.hid ⟨HN.out, by rw [List.length_append, HO.out.2.1]; rfl, ?_⟩, ext_grow (base := w.heap.size) (hbr.alloc _) (own_ext HO.out.2.2 ((Ext.refl _).alloc _)) (Nat.le_refl _) hg⟩
              rw [List.map_append, List.map_append, show List.map st (List.map ba [(s.data.toList.drop b).take (k - b)]) = [.string B] by rw [← HB.out, ba_cut]; rfl]
              exact hown
            case measure => simp [intOf]; omega
          · obtain rfl : b = k := by omega
            have HN := Lib.hid (HO.out.1.skip hll hc)
            clear hd hc h32
            go_wp2
            go_roundw
            case rel => exact ⟨b + 1, b + 1, n, d, by omega, by go_num, by go_num, by omega, by omega, Lib.hid ⟨HN.out, HO.out.2.1, HO.out.2.2⟩, hbr⟩
            case measure => simp [intOf]; omega
        · have hc : s.data.toList[k] ≠ 32 := fun e => h32 (by have e2 : s[k] = 32 := e; rw [e2]; rfl)
          have hq2 : ((s[k].toNat : Int) != 32) = true := by rw [bne_iff_ne]; omega
          have HN := Lib.hid (HO.out.1.go hll hc hd)
          clear hd hc h32
          go_wp2
          go_roundw
          case rel => exact ⟨k + 1, b, n, d, by omega, by go_num, rfl, by omega, by omega, Lib.hid ⟨HN.out, HO.out.2.1, HO.out.2.2⟩, hbr⟩
          case measure => simp [intOf]; omega
      · have HN := Lib.hid (fields_bad hll (Bool.eq_false_iff.2 hd))
        have HW := Lib.hid (HNEW.out wo hbr)
        have hd2 : s[k].toNat < 32 ∨ 126 < s[k].toNat := by
          by_cases h : 32 ≤ s[k].toNat
          · right
            rcases Nat.lt_or_ge 126 s[k].toNat with h2 | h2
            · exact h2
            · exact absurd (plainC_iff.2 ⟨h, h2⟩) hd
          · omega
        clear hd
        rcases hd2 with hd2 | hd2
        · have hd3 : (s[k].toNat : Int) < 32 := by omega
          go_wp2
          go_ret2
          exact ⟨⟨_, by rw [HN.out]; rfl, by rw [fields_no HN.out]; exact HW.out⟩, hbr.alloc _⟩
        · have hd3 : ¬ (s[k].toNat : Int) < 32 := by omega
          have hd4 : (126 : Int) < (s[k].toNat : Int) := by omega
          go_wp2
          go_ret2
          exact ⟨⟨_, by rw [HN.out]; rfl, by rw [fields_no HN.out]; exact HW.out⟩, hbr.alloc _⟩
    · by_cases hke : k = s.size
      · subst hke
        have hbk := HO.out.1.le (by rw [← HL.out]; exact Nat.le_refl _)
        have HAT : Hid (At s.data.toList s.data.toList.length b d) := Lib.hid (by rw [← HL.out]; exact HO.out.1)
        by_cases hb : b < s.size
        · have HN : Hid (At s.data.toList (s.size + 1) (s.size + 1) (d ++ [(s.data.toList.drop b).take (s.size - b)])) := Lib.hid (by
            have := HAT.out.last (by rw [← HL.out]; exact hb) (s.size + 1)
            rw [← HL.out] at this; exact this)
          have hq3 : (b : Int) < (s.size : Int) := by omega
          obtain ⟨B, hB⟩ : ∃ B, s.extract b s.size = B := ⟨_, rfl⟩
          have HB := Lib.hid hB
          go_wp2_with (at_builtin; refine wpList_app rfl _ _ 23 rfl w.heap.size 9 _ 1 16 Tryd.underlying23 info_str rfl (by omega) (.slice A2 n c2) n _ rfl (own_ext HO.out.2.2 ((Ext.refl _).alloc _)) _ 1 1 [.string B] rfl (rd_new _ _ _ _) rfl (fun h => by cases h) (by intro u hu; simp at hu; subst hu; rfl) (by unfold maxLen; omega) (by omega) (by have := hbr.size; simp; omega) ?_; intro v2 w3 hown hg hat)
          go_roundw
          case rel =>
            refine ⟨s.size + 1, s.size + 1, n + 1, _, by omega, by go_num, by go_num, by omega, by omega, Lib.hid ⟨HN.out, by rw [List.length_append, HO.out.2.1]; rfl, ?_⟩, ext_grow (base := w.heap.size) (hbr.alloc _) (own_ext HO.out.2.2 ((Ext.refl _).alloc _)) (Nat.le_refl _) hg⟩
            rw [List.map_append, List.map_append, show List.map st (List.map ba [(s.data.toList.drop b).take (s.size - b)]) = [.string B] by rw [← HB.out, ba_cut]; rfl]
            exact hown
          case measure => simp [intOf]
        · obtain rfl : b = s.size := by omega
          have HN : Hid (At s.data.toList (s.size + 1) (s.size + 1) d) := Lib.hid (by
            have h := HO.out.1
            rw [HL.out] at h
            have := h.none (s.size + 1)
            rw [← HL.out] at this; exact this)
          go_wp2
          go_roundw
          case rel => exact ⟨s.size + 1, s.size + 1, n, d, by omega, by go_num, by go_num, by omega, by omega, Lib.hid ⟨HN.out, HO.out.2.1, HO.out.2.2⟩, hbr⟩
          case measure => simp [intOf]
      · obtain rfl : k = s.size + 1 := by omega
        have HE := Lib.hid (show flds [] s.data.toList = d ∧ s.data.toList.all plainC = true from by
          have h := HO.out.1
          rw [HL.out] at h
          exact h.end)
        have HF := Lib.hid (fields_all (l := s.data.toList) (by rw [← HL.out]; omega) HE.out.2)
        have HW := Lib.hid (HNEW.out wo hbr)
        have hgo : ¬ ((s.size + 1 : Nat) : Int) ≤ (s.size : Int) := by omega
        by_cases h24 : n ≤ 24
        · have HY : Hid (fieldsOk s.data.toList = true) := Lib.hid (by rw [HF.out, HE.out.1, HO.out.2.1, decide_eq_true h24])
          have hq2 : decide ((24 : Int) < (n : Int)) = false := by rw [decide_eq_false_iff_not]; omega
          go_wp2
          go_ret2
          refine ⟨⟨_, by rw [HY.out]; rfl, ?_⟩, hbr⟩
          rw [fields_yes HY.out, HE.out.1]
          have h := HO.out.2.2
          unfold OT OS
          rw [List.length_map, HO.out.2.1]
          exact h
        · have HN : Hid (fieldsOk s.data.toList = false) := Lib.hid (by rw [HF.out, HE.out.1, HO.out.2.1, decide_eq_false h24])
          have hq2 : decide ((24 : Int) < (n : Int)) = true := by rw [decide_eq_true]; omega
          go_wp2
          go_ret2
          exact ⟨⟨_, by rw [HN.out]; rfl, by rw [fields_no HN.out]; exact HW.out⟩, hbr.alloc _⟩
end Go.Proofs.YtfmghfghhipmhaaDoor

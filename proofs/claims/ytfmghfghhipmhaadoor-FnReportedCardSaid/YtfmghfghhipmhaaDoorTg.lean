import Derived.Test.YtfmghfghhipmhaaDoorTf
namespace Go.Fx
open Go.Lib
set_option linter.unusedVariables false
set_option linter.unusedSimpArgs false
theorem fields_long {l : Txt} (h : 600 < l.length) : fieldsOk l = false := by unfold fieldsOk; rw [decide_eq_false (show ¬ l.length ≤ 600 by omega)]; simp
theorem fields_bad {l : Txt} {k : Nat} (hk : k < l.length) (h : plainC l[k] = false) : fieldsOk l = false := by
  have : l.all plainC = false := by rw [List.all_eq_false]; exact ⟨_, List.getElem_mem hk, by rw [h]; simp⟩
  unfold fieldsOk; rw [this]; simp
theorem fields_all {l : Txt} (h1 : l.length ≤ 600) (h2 : l.all plainC = true) : fieldsOk l = decide ((flds [] l).length ≤ 24) := by
  unfold fieldsOk; rw [h2, decide_eq_true h1]; simp
theorem fields_no {l : Txt} (h : fieldsOk l = false) : fields l = [] := by unfold fields; rw [h]; rfl
theorem fields_yes {l : Txt} (h : fieldsOk l = true) : fields l = flds [] l := by unfold fields; rw [h]; rfl
theorem plainC_iff {c : UInt8} : plainC c = true ↔ 32 ≤ c.toNat ∧ c.toNat ≤ 126 := by unfold plainC; simp
def full (t : Txt) : Bool := !t.isEmpty
theorem full_step {P : List Txt} {k : Nat} (hk : k < P.length) : (P.take (k + 1)).filter full = if full P[k] then (P.take k).filter full ++ [P[k]] else (P.take k).filter full := by
  rw [List.take_succ_eq_append_getElem hk, List.filter_append]
  cases h : full P[k] <;> simp [h]
theorem full_pieces (l : Txt) : (pieces [] l).filter full = flds [] l := flds_pieces l []
theorem pieces_split (l : Txt) : (splitB ⟨#[32]⟩ 0 (countB (ba l) ⟨#[32]⟩) (ba l)) = (pieces [] l).map ba := by
  have h := splitB_data ⟨#[32]⟩ 0 (countB (ba l) ⟨#[32]⟩) (ba l)
  have e := split_pieces _ l (Nat.le_refl _)
  unfold split at e
  have e2 : splitK [32] 0 (count l [32]) l = pieces [] l := e
  have e3 : (splitB ⟨#[32]⟩ 0 (countB (ba l) ⟨#[32]⟩) (ba l)).map (·.data.toList) = pieces [] l := by
    rw [h]
    simpa [countB] using e2
  rw [← e3, List.map_map]
  conv => lhs; rw [← List.map_id (splitB ⟨#[32]⟩ 0 (countB (ba l) ⟨#[32]⟩) (ba l))]
  refine List.map_congr_left fun b _ => ?_
  show b = ba b.data.toList
  exact (ba_self b).symm
theorem splitB_len (sep : ByteArray) : ∀ (k : Nat) (s : ByteArray), k ≤ countB s sep → 1 ≤ sep.size → (splitB sep 0 k s).length = k + 1 := by
  intro k
  induction k with
  | zero => intro s _ _; rfl
  | succ k ih =>
    intro s hk hs
    by_cases h : indexB s sep = -1
    · have := countB_miss s sep h; omega
    · obtain ⟨i, hi⟩ : ∃ i : Nat, indexB s sep = (i : Int) := ⟨(indexB s sep).toNat, by have := index_ge s.data.toList sep.data.toList; have e : indexB s sep = index s.data.toList sep.data.toList := rfl; omega⟩
      rw [splitB_hit sep 0 k s i hi, List.length_cons, ih _ (by rw [countB_hit s sep i hs hi] at hk; omega) hs]
theorem pieces_len (l : Txt) : countB (ba l) ⟨#[32]⟩ + 1 = (pieces [] l).length := by
  have h := splitB_len ⟨#[32]⟩ (countB (ba l) ⟨#[32]⟩) (ba l) (Nat.le_refl _) (by decide)
  rw [pieces_split] at h
  simpa using h.symm
theorem full_len (P : List Txt) (k : Nat) : ((P.take k).filter full).length ≤ k := Nat.le_trans (List.length_filter_le _ _) (by rw [List.length_take]; omega)
end Go.Fx
namespace Go.Proofs.YtfmghfghhipmhaaDoor
open Go.RowKit Go.Fx Go.Sort
set_option linter.unusedVariables false
set_option linter.unusedSimpArgs false
theorem split_any (s : ByteArray) (w : World) (E : Env w) (hs : s.size ≤ 600) :
    Calls Tryd.prog 63 #[.string s, .string ⟨#[32]⟩] w fun e w' => e = .returned (.slice (some ⟨w.heap.size, 0, none⟩) (pieces [] s.data.toList).length (pieces [] s.data.toList).length) ∧ Ext w w' ∧ w'.heap.size = w.heap.size + 1 ∧ ∀ (j : Nat) (p : Txt), (pieces [] s.data.toList)[j]? = some p → w'.cell? ⟨w.heap.size, j, none⟩ = some (.string (ba p)) := by
  obtain ⟨m, hm⟩ := E.max
  refine (Tryd.strings_Split s ⟨#[32]⟩ m w (by omega) hm (by decide)).mono fun e w' ⟨h1, h2⟩ => ?_
  have e1 := pieces_len s.data.toList
  have e2 := pieces_split s.data.toList
  rw [ba_self] at e1 e2
  rw [e1] at h1
  rw [e2] at h2
  subst h2
  exact ⟨h1, (Ext.refl _).alloc _, by simp, fun j p h => by simp [h]⟩
/-- what SplitFields hands back -/
abbrev OT (w : World) (base : Nat) (v : Value) (fs : List Txt) : Prop := OS w base v (fs.map ba)
set_option maxRecDepth 100000 in
set_option maxHeartbeats 2000000 in
theorem iSplitFields_any (s : ByteArray) (w : World) (E : Env w) (hs : s.size ≤ maxLen) :
    Calls Tryd.prog 31 #[.string s] w fun e w' => (∃ v, e = .returned (.tuple #[v, .bool (fieldsOk s.data.toList)]) ∧ OT w' w.heap.size v (fields s.data.toList)) ∧ Ext w w' := by
  have HE := Lib.hid E
  clear E
  unfold maxLen at hs
  have HL := Lib.hid (Lib.size_eq s)
  have hnil : ∀ W, OT W w.heap.size (.slice none 0 0) [] := fun W => World.ownsRow_nil _ _ _ _
  by_cases h6 : 600 < s.size
  · have HN := Lib.hid (fields_long (l := s.data.toList) (by rw [← HL.out]; exact h6))
    have hq : decide ((600 : Int) < (s.size : Int)) = true := by rw [decide_eq_true]; omega
    go_enter Tryd.func31, Tryd.ntmps31
    go_wp2
    go_ret2
    exact ⟨⟨_, by rw [HN.out]; rfl, by rw [fields_no HN.out]; exact hnil _⟩, Ext.refl _⟩
  have hq : decide ((600 : Int) < (s.size : Int)) = false := by rw [decide_eq_false_iff_not]; omega
  go_enter Tryd.func31, Tryd.ntmps31
  go_wp2
  go_loop [4] (fun i => ∃ (k : Nat), k ≤ s.size ∧ i = .int .i64 k ∧ Hid ((s.data.toList.take k).all plainC = true)) (fun i => s.size - (intOf i).toNat)
  case atStart => exact ⟨0, Nat.zero_le _, rfl, Lib.hid rfl⟩
  case round =>
    obtain ⟨k, hk, rfl, HD⟩ := hrel
    by_cases hlt : k < s.size
    · have hll : k < s.data.toList.length := by rw [← HL.out]; exact hlt
      have hcb := byte_le s[k]
      by_cases hd : plainC s[k] = true
      · obtain ⟨d1, d2⟩ := plainC_iff.1 hd
        have HV : Hid ((s.data.toList.take (k + 1)).all plainC = true) := Lib.hid (all_take_snoc hll HD.out hd)
        have d3 : ¬ (s[k].toNat : Int) < 32 := by omega
        have d4 : ¬ (126 : Int) < (s[k].toNat : Int) := by omega
        clear hd
        go_wp2
        go_round
        case rel => exact ⟨k + 1, by omega, by go_num, HV⟩
        case measure => simp [intOf]; omega
      · have HN := Lib.hid (fields_bad hll (Bool.eq_false_iff.2 hd))
        have hd2 : s[k].toNat < 32 ∨ 126 < s[k].toNat := by
          by_cases h : 32 ≤ s[k].toNat
          · right
            rcases Nat.lt_or_ge 126 s[k].toNat with h2 | h2
            · exact h2
            · exact absurd (plainC_iff.2 ⟨h, h2⟩) hd
          · omega
        clear hd
        rcases hd2 with hd2 | hd2
        · have hd3 : (s[k].toNat : Int) < 32 := by omega
          go_wp2
          go_ret2
          exact ⟨⟨_, by rw [HN.out]; rfl, by rw [fields_no HN.out]; exact hnil _⟩, Ext.refl _⟩
        · have hd3 : ¬ (s[k].toNat : Int) < 32 := by omega
          have hd4 : (126 : Int) < (s[k].toNat : Int) := by omega
          go_wp2
          go_ret2
          exact ⟨⟨_, by rw [HN.out]; rfl, by rw [fields_no HN.out]; exact hnil _⟩, Ext.refl _⟩
    · obtain rfl : k = s.size := by omega
      have hall : s.data.toList.take s.size = s.data.toList := List.take_of_length_le (by rw [← HL.out]; exact Nat.le_refl _)
      have HD2 := HD.out
      rw [hall] at HD2
      have HF := Lib.hid (fields_all (by rw [← HL.out]; omega) HD2)
      have HSP := Lib.hid (split_any s w HE.out (by omega))
      have HFP := Lib.hid (full_pieces s.data.toList)
      have hpl := pieces_count s.data.toList []
      rw [← HL.out] at hpl
      clear HD HD2 hall
      generalize hP : pieces [] s.data.toList = P at *
      have HP := Lib.hid hP
      obtain ⟨np, hnp⟩ : ∃ np, P.length = np := ⟨_, rfl⟩
      have HNP := Lib.hid hnp
      have hnpI : np ≤ 601 := by omega
      clear hP hpl
      rw [hnp] at HSP
      clear hnp
      go_wp2_with fail
      refine HSP.out.mono ?_
      rintro e w1 ⟨rfl, hx1, hz1, hc1⟩
      have HC : Hid (∀ W, Ext w1 W → ∀ j (h : j < P.length), W.cell? ⟨w.heap.size, j, none⟩ = some (.string (ba P[j]))) := Lib.hid (fun W hW j h => by
        rw [Below.cell hW (p := ⟨w.heap.size, j, none⟩) (by rw [hz1]; exact Nat.lt_succ_self _)]
        exact hc1 j _ (List.getElem?_eq_getElem h))
      have HZ1 := Lib.hid hz1
      clear hc1 hz1
      go_wp2_with fail
      go_loopw [5, 30] (fun v i wr => ∃ (k : Nat) (n : Nat), k ≤ np ∧ i = .int .i64 k ∧ n ≤ k ∧ Hid (((P.take k).filter full).length = n ∧ wr.ownsRow w1.heap.size 9 1 v n ((((P.take k).filter full).map ba).map st)) ∧ Ext w1 wr) (fun _ i _ => np - (intOf i).toNat)
      case atStart => exact ⟨0, 0, Nat.zero_le _, rfl, Nat.le_refl _, Lib.hid ⟨by simp, by simpa using World.ownsRow_nil _ _ _ _⟩, Ext.refl _⟩
      case round =>
        rename World => wo
        obtain ⟨k, n, hk, rfl, hnk, HO, hbr⟩ := hrel
        obtain ⟨A2, c2, rfl, -, -⟩ := own_slice HO.out.2
        by_cases hlt : k < np
        · have hll : k < P.length := by rw [HNP.out]; exact hlt
          have hc := HC.out _ hbr k hll
          have HST := Lib.hid (full_step hll)
          by_cases hf : full P[k] = true
          · have hfe : (ba P[k]).toList ≠ [] := by
              rw [Lib.toList_data, ba_data]; intro e
              unfold full at hf; rw [e] at hf; simp at hf
            have hfe2 : (ba P[k]).toList.isEmpty = false := by simpa using hfe
            have HST2 : Hid ((P.take (k + 1)).filter full = (P.take k).filter full ++ [P[k]]) := Lib.hid (by rw [HST.out, if_pos hf])
            generalize P[k] = p at *
            generalize hb : ba p = b at *
            have HB := Lib.hid hb
            clear hf hb
            go_wp2_with (at_builtin; refine wpList_app rfl _ _ 23 rfl w1.heap.size 9 _ 1 16 Tryd.underlying23 info_str rfl (by omega) (.slice A2 n c2) n _ rfl (own_ext HO.out.2 ((Ext.refl _).alloc _)) _ 1 1 [.string b] rfl (rd_new _ _ _ _) rfl (fun h => by cases h) (by intro u hu; simp at hu; subst hu; rfl) (by unfold maxLen; omega) (by omega) (by have := hbr.size; simp; omega) ?_; intro v2 w3 hown hg hat)
            go_roundw
            case rel =>
              refine ⟨k + 1, n + 1, by omega, by go_num, by omega, Lib.hid ⟨?_, ?_⟩, ext_grow (base := w1.heap.size) (hbr.alloc _) (own_ext HO.out.2 ((Ext.refl _).alloc _)) (Nat.le_refl _) hg⟩
              · rw [HST2.out, List.length_append, HO.out.1]; rfl
              · rw [HST2.out, List.map_append, List.map_append, show List.map st (List.map ba [p]) = [.string b] by rw [← HB.out]; rfl]; exact hown
            case measure => simp [intOf]; omega
          · have HST2 : Hid ((P.take (k + 1)).filter full = (P.take k).filter full) := Lib.hid (by rw [HST.out, if_neg hf])
            have hfe : (ba P[k]).toList = [] := by
              rw [Lib.toList_data, ba_data]
              cases hx : P[k] with
              | nil => rfl
              | cons c t => exact absurd (by unfold full; rw [hx]; rfl) hf
            have hfe2 : (ba P[k]).toList.isEmpty = true := by rw [hfe]; rfl
            generalize P[k] = p at *
            generalize ba p = b at *
            clear hf
            go_wp2
            go_roundw
            case rel => exact ⟨k + 1, n, by omega, by go_num, by omega, Lib.hid ⟨by rw [HST2.out]; exact HO.out.1, by rw [HST2.out]; exact HO.out.2⟩, hbr⟩
            case measure => simp [intOf]; omega
        · obtain rfl : k = np := by omega
          have hall : P.take k = P := List.take_of_length_le (by rw [HNP.out]; exact Nat.le_refl _)
          have HO2 := HO.out
          rw [hall, HFP.out] at HO2
          have HO3 := Lib.hid HO2
          clear HO HO2 hall
          by_cases h24 : n ≤ 24
          · have HY : Hid (fieldsOk s.data.toList = true) := Lib.hid (by rw [HF.out, HO3.out.1, decide_eq_true h24])
            have hq2 : decide ((24 : Int) < (n : Int)) = false := by rw [decide_eq_false_iff_not]; omega
            go_wp2
            go_ret2
            refine ⟨⟨_, by rw [HY.out]; rfl, ?_⟩, hx1.trans hbr⟩
            rw [fields_yes HY.out]
            have h := own_base HO3.out.2 (hx1.size)
            unfold OT OS
            rw [List.length_map, HO3.out.1]
            exact h
          · have HN : Hid (fieldsOk s.data.toList = false) := Lib.hid (by rw [HF.out, HO3.out.1, decide_eq_false h24])
            have hq2 : decide ((24 : Int) < (n : Int)) = true := by rw [decide_eq_true]; omega
            go_wp2
            go_ret2
            exact ⟨⟨_, by rw [HN.out]; rfl, by rw [fields_no HN.out]; exact hnil _⟩, hx1.trans hbr⟩
end Go.Proofs.YtfmghfghhipmhaaDoor

import Derived.Test.YtiddaabodkglmaaDl
namespace Go.Fx
open Go.RowKit
set_option linter.unusedSimpArgs false
theorem grey_next {row : List Cel} {j : Nat} (h : j < row.length) : (ccells ((row.take j).map grey1 ++ row.drop j)).set (j * 2 + 1) (.complex .f32 0 0) = ccells ((row.take (j + 1)).map grey1 ++ row.drop (j + 1)) := by
  have hl : ((row.take j).map grey1).length = j := by simp; omega
  rw [set_colour hl h, take_snoc h, List.map_append]
  rfl
theorem grey_here {row : List Cel} {j : Nat} (h : j < row.length) : (ccells ((row.take j).map grey1 ++ row.drop j)).length = row.length * 2 ∧ j * 2 + 1 < (ccells ((row.take j).map grey1 ++ row.drop j)).length := by
  have : (ccells ((row.take j).map grey1 ++ row.drop j)).length = row.length * 2 := by
    rw [ccells_len]; simp; omega
  omega
theorem rowsC_snoc' (rss : List (List Cel)) (r : List Cel) : rowsC rss ++ [(r.length, ccells r)] = rowsC (rss ++ [r]) := by simp
end Go.Fx
namespace Go.Proofs.Ytiddaabodkglmaa
open Go.RowKit Go.Fx
set_option linter.unusedVariables false
set_option linter.unusedSimpArgs false
set_option maxRecDepth 100000 in
set_option maxHeartbeats 4000000 in
theorem iGreyed_any (A : Option Addr) (c : Nat) (us : List Value) (rss : List (List Cel)) (w : World) (h : RdRows w A us (rowsC rss)) (hn : rss.length ≤ 1048576) (he : ∀ r ∈ rss, r.length ≤ 64) :
    Calls Try.prog 130 #[.slice A rss.length c] w fun e w' => (∃ v us', e = .returned v ∧ OCC w' w.heap.size v us' (rss.map (fun r => r.map grey1))) ∧ Ext w w' := by
  have H := Lib.hid h
  have HE := Lib.hid he
  clear h he
  go_enter Try.func130, Try.ntmps130
  go_wp2
  go_loopw [3, 9] (fun v i wr => ∃ (k : Nat) (us' : List Value), k ≤ rss.length ∧ i = .int .i64 k ∧ Hid (OCC wr w.heap.size v us' ((rss.take k).map (fun r => r.map grey1))) ∧ Ext w wr) (fun _ i _ => rss.length - (intOf i).toNat)
  case atStart => exact ⟨0, [], by omega, rfl, Lib.hid (Rows2.nil _ _ _ _ _), Ext.refl _⟩
  case round =>
    rename World => wo
    obtain ⟨k, us', hk, rfl, ho, hbr⟩ := hrel
    by_cases hlt : k < rss.length
    · obtain ⟨b, off, B, d, rfl, hbw, -, hcell, hrow, hnil, -⟩ := (H.out.ext hbr).atC hlt
      have hlr := HE.out _ (List.getElem_mem hlt)
      obtain ⟨A2, c2, rfl, hou⟩ := ho.out.form
      have hul : us'.length = k := by
        have h1 := ho.out.len
        simp at h1
        omega
      rw [hul] at hou
      have hof : Hid (OCC wo w.heap.size (.slice A2 k c2) us' ((rss.take k).map (fun r => r.map grey1))) := Lib.hid (by have := ho.out; rw [hul] at this; exact this)
      have HT : Hid ((rss.take (k + 1)).map (fun r => r.map grey1) = (rss.take k).map (fun r => r.map grey1) ++ [rss[k].map grey1]) := Lib.hid (by rw [take_snoc hlt, List.map_append]; rfl)
      generalize rss[k] = row at *
      go_wp2_with (go_at_call 211; refine (cloneC_any B d row _ hrow hnil (by omega)).mono ?_; rintro e w1 ⟨⟨v1, rfl, ho1⟩, hb1⟩; have hnew := fun b hb => (ho1.lt b hb).1; unfold OC at ho1; obtain ⟨A3, c3, rfl, -, -⟩ := own_slice ho1)
      go_loopw [17] (fun i wr => ∃ (j : Nat), j ≤ row.length ∧ i = .int .i64 j ∧ wr.ownsRow wo.heap.size 90 2 (.slice A3 row.length c3) row.length (ccells ((row.take j).map grey1 ++ row.drop j)) ∧ Ext wo wr) (fun i _ => row.length - (intOf i).toNat)
      case atStart => exact ⟨0, by omega, rfl, by simpa using ho1, hb1⟩
      case round =>
        obtain ⟨j, hj, rfl, hoj, hbj⟩ := hrel
        clear ho1
        by_cases hlj : j < row.length
        · obtain ⟨g1, rfl, hg1, hs1⟩ := own_at hoj (by omega)
          have hfp := own_frozen hoj (j * 2 + 1)
          obtain ⟨u1, hu1⟩ : ∃ u, wr.cell? ⟨g1, j * 2 + 1, none⟩ = some u := ⟨_, own_cell hoj (List.getElem?_eq_getElem (grey_here hlj).2)⟩
          have hnext : Hid ((wr.setCell ⟨g1, j * 2 + 1, none⟩ (.complex .f32 0 0)).ownsRow wo.heap.size 90 2 (.slice (some ⟨g1, 0, none⟩) row.length c3) row.length (ccells ((row.take (j + 1)).map grey1 ++ row.drop (j + 1)))) := Lib.hid (by
            rw [← grey_next hlj]; exact own_set hoj _)
          go_wp2
          go_roundw
          case rel => exact ⟨j + 1, by omega, by go_num, hnext.out, Below.setCell (p := ⟨g1, j * 2 + 1, none⟩) hbj hg1 _⟩
          case measure => simp [intOf]; omega
        · obtain rfl : j = row.length := by omega
          rw [List.take_of_length_le (Nat.le_refl _), List.drop_of_length_le (Nat.le_refl _), List.append_nil] at hoj
          have hnew := fun b hb => (hoj.lt b hb).1
          go_wp2_with (at_builtin; refine wpList_app rfl _ _ 28 rfl w.heap.size 43 _ 1 24 Try.underlying28 info_sc rfl (by omega) (.slice A2 k c2) k us' rfl (own_ext (own_ext hou hbj) ((Ext.refl _).alloc _)) _ 1 1 _ rfl (rd_new _ _ _ _) rfl (fun h => by cases h) (by intro u hu; simp at hu; rcases hu with rfl; rfl) (by unfold maxLen; omega) (by omega) (by have := hbr.size; have := hbj.size; simp; omega) ?_; intro v2 w3 hown hg hat)
          go_roundw
          case rel =>
            have hR : Hid (OCC w3 w.heap.size v2 (us' ++ [.slice A3 row.length c3]) ((rss.take (k + 1)).map (fun r => r.map grey1))) := Lib.hid (by
              rw [HT.out]
              unfold OCC
              rw [← rowsC_snoc', List.length_map]
              exact ((hof.out.ext hbj).ext ((Ext.refl _).alloc _)).snoc (by rw [hul]; exact hown) (own_base (own_ext hoj ((Ext.refl _).alloc _)) hbr.size) hg hat (Nat.le_refl _) hof.out.inR hnew)
            exact ⟨k + 1, _, by omega, by go_num, hR, ext_grow (base := w.heap.size) ((hbr.trans hbj).alloc _) (own_ext (own_ext hou hbj) ((Ext.refl _).alloc _)) (Nat.le_refl _) hg⟩
          case measure => simp [intOf]; omega
    · go_wp2
      go_ret
      obtain rfl : k = rss.length := by omega
      have h1 := ho.out
      rw [List.take_of_length_le (Nat.le_refl _)] at h1
      exact ⟨⟨_, us', rfl, h1⟩, hbr⟩
set_option maxRecDepth 100000 in
set_option maxHeartbeats 4000000 in
theorem sGreyed_any (A : Option Addr) (c : Nat) (us : List Value) (rss : List (List Cel)) (w : World) (h : RdRows w A us (rowsC rss)) (hn : rss.length ≤ 1048576) (he : ∀ r ∈ rss, r.length ≤ 64) :
    Calls Try.prog 212 #[.slice A rss.length c] w fun e w' => (∃ v us', e = .returned v ∧ OCC w' w.heap.size v us' (rss.map (fun r => r.map grey1))) ∧ Ext w w' := by
  have H := Lib.hid h
  have HE := Lib.hid he
  clear h he
  have ha : Ext w (w.alloc (.cells #[] 43)) := (Ext.refl _).alloc _
  have hnew0 := Rows2.new w w.heap.size 43 90 2 (Nat.le_refl _)
  go_enter Try.func212, Try.ntmps212
  go_wp2
  go_loopw [3, 4] (fun v i wr => ∃ (k : Nat) (us' : List Value), k ≤ rss.length ∧ i = .int .i64 k ∧ Hid (OCC wr w.heap.size v us' ((rss.take k).map (fun r => r.map grey1))) ∧ Ext w wr) (fun _ i _ => rss.length - (intOf i).toNat)
  case atStart => exact ⟨0, [], by omega, rfl, Lib.hid hnew0, ha⟩
  case round =>
    clear hnew0 ha
    rename World => wo
    obtain ⟨k, us', hk, rfl, ho, hbr⟩ := hrel
    by_cases hlt : k < rss.length
    · obtain ⟨b, off, B, d, rfl, hbw, -, hcell, hrow, hnil, -⟩ := (H.out.ext hbr).atC hlt
      have hlr := HE.out _ (List.getElem_mem hlt)
      obtain ⟨A2, c2, rfl, hou⟩ := ho.out.form
      have hul : us'.length = k := by
        have h1 := ho.out.len
        simp at h1
        omega
      rw [hul] at hou
      have hof : Hid (OCC wo w.heap.size (.slice A2 k c2) us' ((rss.take k).map (fun r => r.map grey1))) := Lib.hid (by have := ho.out; rw [hul] at this; exact this)
      have HT : Hid ((rss.take (k + 1)).map (fun r => r.map grey1) = (rss.take k).map (fun r => r.map grey1) ++ [rss[k].map grey1]) := Lib.hid (by rw [take_snoc hlt, List.map_append]; rfl)
      generalize rss[k] = row at *
      go_wp2_with (go_at_call 237; refine (sRow_any B d row _ hrow hnil (by omega)).mono ?_; rintro e w1 ⟨⟨v1, rfl, ho1⟩, hb1⟩; have hnew := fun b hb => (ho1.lt b hb).1; unfold OC at ho1; obtain ⟨A3, c3, rfl, -, -⟩ := own_slice ho1)
      go_loopw [6] (fun i wr => ∃ (j : Nat), j ≤ row.length ∧ i = .int .i64 j ∧ wr.ownsRow wo.heap.size 90 2 (.slice A3 row.length c3) row.length (ccells ((row.take j).map grey1 ++ row.drop j)) ∧ Ext wo wr) (fun i _ => row.length - (intOf i).toNat)
      case atStart => exact ⟨0, by omega, rfl, by simpa using ho1, hb1⟩
      case round =>
        obtain ⟨j, hj, rfl, hoj, hbj⟩ := hrel
        clear ho1
        by_cases hlj : j < row.length
        · obtain ⟨g1, rfl, hg1, hs1⟩ := own_at hoj (by omega)
          have hfp := own_frozen hoj (j * 2 + 1)
          obtain ⟨u1, hu1⟩ : ∃ u, wr.cell? ⟨g1, j * 2 + 1, none⟩ = some u := ⟨_, own_cell hoj (List.getElem?_eq_getElem (grey_here hlj).2)⟩
          have hnext : Hid ((wr.setCell ⟨g1, j * 2 + 1, none⟩ (.complex .f32 0 0)).ownsRow wo.heap.size 90 2 (.slice (some ⟨g1, 0, none⟩) row.length c3) row.length (ccells ((row.take (j + 1)).map grey1 ++ row.drop (j + 1)))) := Lib.hid (by
            rw [← grey_next hlj]; exact own_set hoj _)
          go_wp2
          go_roundw
          case rel => exact ⟨j + 1, by omega, by go_num, hnext.out, Below.setCell (p := ⟨g1, j * 2 + 1, none⟩) hbj hg1 _⟩
          case measure => simp [intOf]; omega
        · obtain rfl : j = row.length := by omega
          rw [List.take_of_length_le (Nat.le_refl _), List.drop_of_length_le (Nat.le_refl _), List.append_nil] at hoj
          have hnew := fun b hb => (hoj.lt b hb).1
          go_wp2_with (at_builtin; refine wpList_app rfl _ _ 28 rfl w.heap.size 43 _ 1 24 Try.underlying28 info_sc rfl (by omega) (.slice A2 k c2) k us' rfl (own_ext (own_ext hou hbj) ((Ext.refl _).alloc _)) _ 1 1 _ rfl (rd_new _ _ _ _) rfl (fun h => by cases h) (by intro u hu; simp at hu; rcases hu with rfl; rfl) (by unfold maxLen; omega) (by omega) (by have := hbr.size; have := hbj.size; simp; omega) ?_; intro v2 w3 hown hg hat)
          go_roundw
          case rel =>
            have hR : Hid (OCC w3 w.heap.size v2 (us' ++ [.slice A3 row.length c3]) ((rss.take (k + 1)).map (fun r => r.map grey1))) := Lib.hid (by
              rw [HT.out]
              unfold OCC
              rw [← rowsC_snoc', List.length_map]
              exact ((hof.out.ext hbj).ext ((Ext.refl _).alloc _)).snoc (by rw [hul]; exact hown) (own_base (own_ext hoj ((Ext.refl _).alloc _)) hbr.size) hg hat (Nat.le_refl _) hof.out.inR hnew)
            exact ⟨k + 1, _, by omega, by go_num, hR, ext_grow (base := w.heap.size) ((hbr.trans hbj).alloc _) (own_ext (own_ext hou hbj) ((Ext.refl _).alloc _)) (Nat.le_refl _) hg⟩
          case measure => simp [intOf]; omega
    · go_wp2
      go_ret
      obtain rfl : k = rss.length := by omega
      have h1 := ho.out
      rw [List.take_of_length_le (Nat.le_refl _)] at h1
      exact ⟨⟨_, us', rfl, h1⟩, hbr⟩
end Go.Proofs.Ytiddaabodkglmaa

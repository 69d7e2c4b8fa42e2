import Derived.Test.YtiddaabodkglmaaEi
import Derived.Deep.CutRange
namespace Go.Proofs.Ytiddaabodkglmaa
open Go.RowKit Go.Fx
set_option linter.unusedVariables false
set_option linter.unusedSimpArgs false
set_option maxRecDepth 100000 in
set_option maxHeartbeats 4000000 in
theorem line_any (bk : Nat) (w : World) (h : Cu w bk) :
    Calls Try.prog 189 #[.pointer (some ⟨bk, 0, none⟩)] w fun e w' => (∃ (A : Option Addr) (c : Nat) (gs : List Nat), e = .returned (.slice A gs.length c) ∧ Drawn bk w' A c gs ∧ gs.length ≤ 300) ∧ CuT bk w w' := by
  have hz := h.size
  go_enter Try.func189, Try.ntmps189
  go_wp2_with fail
  refine (any_any bk _ h).mono ?_
  rintro e w1 ⟨⟨v1, row, rfl, ho1, hl1⟩, hc1⟩
  go_wp2_with fail
  refine (once_any bk 2 _ hc1.1 (by omega)).mono ?_
  rintro e w2 ⟨⟨q, rfl⟩, hc2⟩
  replace ho1 := own_up ho1 hc2.2 hz
  have hc := hc1.trans hc2
  clear hc1 hc2
  obtain ⟨A1, c1, rfl, -, -⟩ := own_slice ho1
  go_wp2_with fail
  refine (sMakeLine_any A1 c1 row q _ (own_rd ho1) (by omega)).mono ?_
  rintro e w3 ⟨⟨v3, g3, rfl, ho3, hg3⟩, hb3⟩
  have hl3 : g3.length ≤ 280 := by
    have := congrArg List.length hg3
    rw [List.length_map] at this
    rw [this]
    exact lineR_len _ _
  unfold OF at ho3
  generalize hgn3 : g3.length = m3 at ho3 hl3
  replace ho3 := own_base ho3 hc.size
  replace hc := hc.ext hb3
  obtain ⟨A3, c3, rfl, -, z3⟩ := own_slice ho3
  clear hg3 hb3 ho1 hl1 h
  go_upto_region 2 with fail
  go_cut [15] from 9 (fun s15 wr => ∃ q : Bool, s15 = .bool q ∧ (q = true → 0 < m3) ∧ wr.ownsRow w.heap.size 29 1 (.slice A3 m3 c3) m3 (g3.map fl) ∧ CuT bk w wr)
  case first =>
    by_cases hpos : 0 < m3
    · have hpi : (0 : Int) < (m3 : Int) := by omega
      go_wp2_with fail
      refine (once_any bk 3 _ hc.1 (by omega)).mono ?_
      rintro e w4 ⟨⟨q, rfl⟩, hc4⟩
      go_wp2_with fail
      go_meet
      exact ⟨q, rfl, fun _ => hpos, own_up ho3 hc4.2 hz, hc.trans hc4⟩
    · obtain rfl : m3 = 0 := by omega
      go_wp2_with fail
      go_meet
      exact ⟨false, rfl, (fun h => by cases h), ho3, hc⟩
  case rest =>
  clear ho3 hc
  obtain ⟨q, rfl, hq, ho4, hc4⟩ := hcut
  rename World => w4
  go_upto_if 15 with fail
  go_cut [] from 16 (fun wr => ∃ g : List Nat, g.length = m3 ∧ wr.ownsRow w.heap.size 29 1 (.slice A3 m3 c3) m3 (g.map fl) ∧ CuT bk w wr)
  case first =>
    cases q
    · go_wp2_with fail
      go_meet
      exact ⟨g3, hgn3, ho4, hc4⟩
    · have hpos := hq rfl
      clear hq
      obtain ⟨g1, rfl, hg1, hg2⟩ := own_at ho4 hpos
      have hpi : (0 : Int) < (m3 : Int) := by omega
      go_wp2_with fail
      refine (below_any bk m3 _ hc4.1 (by omega)).mono ?_
      rintro e w5 ⟨⟨x, rfl, hx0, hx1, -⟩, hc5⟩
      have hx2 := hx1 hpi
      clear hx1
      obtain ⟨p, rfl⟩ : ∃ p : Nat, x = p := ⟨x.toNat, by omega⟩
      replace ho4 := own_up ho4 hc5.2 hz
      replace hc4 := hc4.trans hc5
      clear hc5
      go_wp2_with fail
      refine (level_any bk _ hc4.1).mono ?_
      rintro e w6 ⟨⟨z, rfl⟩, hc6⟩
      replace ho4 := own_up ho4 hc6.2 hz
      replace hc4 := hc4.trans hc6
      clear hc6
      have hf := own_frozen ho4 p
      have hpl : p < (g3.map fl).length := by rw [List.length_map, hgn3]; omega
      have hcell : ∃ u, w6.cell? ⟨g1, p, none⟩ = some u := ⟨_, own_cell ho4 (List.getElem?_eq_getElem hpl)⟩
      obtain ⟨u0, hcell⟩ := hcell
      have HO5 : Hid ((w6.setCell ⟨g1, p, none⟩ (.float .f32 z)).ownsRow w.heap.size 29 1 (.slice (some ⟨g1, 0, none⟩) m3 c3) m3 ((g3.set p z).map fl)) := Lib.hid (by
        have := own_set ho4 (j := p) (.float .f32 z)
        rwa [show (g3.map fl).set p (.float .f32 z) = (g3.set p z).map fl by rw [List.map_set]] at this)
      have hgn5 : (g3.set p z).length = m3 := by rw [List.length_set, hgn3]
      have HC5 := Lib.hid (CuT.below hc4 (Below.setCell (p := ⟨g1, p, none⟩) (Below.refl w.heap.size w6) hg1 (.float .f32 z)) hz)
      generalize g3.set p z = g5 at HO5 hgn5
      clear ho4 hc4
      go_wp2_with fail
      go_meet
      exact ⟨g5, hgn5, HO5.out, HC5.out⟩
  case rest =>
  clear ho4 hc4 hgn3 hq
  obtain ⟨g5, hgn, ho5, hc5⟩ := hcut
  clear g3
  go_wp2_with fail
  refine (below_any bk 24 _ hc5.1 (by omega)).mono ?_
  rintro e w6 ⟨⟨y, rfl, hy0, -, -⟩, hc6⟩
  have ho6 := own_up ho5 hc6.2 hz
  have hcc := hc5.trans hc6
  clear hc6 ho5 hc5
  rcases (by omega : y = 0 ∨ y = 1 ∨ y = 2 ∨ 2 < y) with rfl | rfl | rfl | hy
  · go_wp2_with (at_builtin; refine wpList_app rfl _ _ 22 rfl w.heap.size 29 _ 1 4 Try.underlying22 info_f32 rfl (by omega) (.slice A3 m3 c3) m3 (g5.map fl) rfl (own_ext ho6 ((Ext.refl _).alloc _)) _ 1 1 _ rfl (rd_new _ _ _ _) rfl (fun h => by cases h) (by intro u hu; simp at hu; rcases hu with rfl <;> rfl) (by unfold maxLen; omega) (by omega) (hcc.ext ((Ext.refl _).alloc _)).size ?_; intro v7 w7 hown hg hat)
    obtain ⟨A7, c7, rfl, -, -⟩ := own_slice hown
    go_ret
    have hd7 : w7.ownsRow w.heap.size 29 1 (.slice A7 (m3 + 1) c7) (m3 + 1) ((g5 ++ [1065353216]).map fl) := by simpa using hown
    have hl7 : (g5 ++ [1065353216]).length = m3 + 1 := by rw [List.length_append, hgn]; rfl
    exact ⟨⟨A7, c7, g5 ++ [1065353216], by rw [hl7]; rfl, drawn_own hd7 hz, by rw [hl7]; omega⟩, CuT.grow (hcc.ext ((Ext.refl _).alloc _)) (own_ext ho6 ((Ext.refl _).alloc _)) (Nat.le_refl _) hg hz⟩
  · go_wp2_with fail
    refine (below_any bk (m3 + 1) _ hcc.1 (by omega)).mono ?_
    rintro e w7 ⟨⟨y2, rfl, h70, h71, -⟩, hc7⟩
    have h72 := h71 (by omega)
    clear h71
    obtain ⟨p, rfl⟩ : ∃ p : Nat, y2 = p := ⟨y2.toNat, by omega⟩
    have ho7 := own_up ho6 hc7.2 hz
    have hcp := own_cap ho7
    have hpl : (g5.take p).length = p := by rw [List.length_take, hgn]; omega
    have hD := Lib.hid (drawn_take (p := p) (drawn_own ho7 hz))
    have hcf := hcc.trans hc7
    clear hcc hc7
    go_wp2_with fail
    go_ret
    exact ⟨⟨A3, c3, g5.take p, by rw [hpl]; rfl, hD.out, by rw [hpl]; omega⟩, hcf⟩
  · go_wp2_with (at_builtin; refine wpList_app rfl _ _ 22 rfl w.heap.size 29 _ 1 4 Try.underlying22 info_f32 rfl (by omega) (.slice A3 m3 c3) m3 (g5.map fl) rfl (own_ext ho6 ((Ext.refl _).alloc _)) _ 4 4 _ rfl (rd_new _ _ _ _) rfl (fun h => by cases h) (by intro u hu; simp at hu; rcases hu with rfl | rfl | rfl | rfl <;> rfl) (by unfold maxLen; omega) (by omega) (hcc.ext ((Ext.refl _).alloc _)).size ?_; intro v7 w7 hown hg hat)
    obtain ⟨A7, c7, rfl, -, -⟩ := own_slice hown
    go_ret
    have hd7 : w7.ownsRow w.heap.size 29 1 (.slice A7 (m3 + 4) c7) (m3 + 4) ((g5 ++ [1149239296, 3296722944, 1149247488, 0]).map fl) := by simpa using hown
    have hl7 : (g5 ++ [1149239296, 3296722944, 1149247488, 0]).length = m3 + 4 := by rw [List.length_append, hgn]; rfl
    exact ⟨⟨A7, c7, g5 ++ [1149239296, 3296722944, 1149247488, 0], by rw [hl7]; rfl, drawn_own hd7 hz, by rw [hl7]; omega⟩, CuT.grow (hcc.ext ((Ext.refl _).alloc _)) (own_ext ho6 ((Ext.refl _).alloc _)) (Nat.le_refl _) hg hz⟩
  · have hy4 : (y == 0) = false := by rw [beq_eq_false_iff_ne]; omega
    have hy5 : (y == 1) = false := by rw [beq_eq_false_iff_ne]; omega
    have hy6 : (y == 2) = false := by rw [beq_eq_false_iff_ne]; omega
    go_wp2_with fail
    go_ret
    exact ⟨⟨A3, c3, g5, by rw [hgn]; rfl, drawn_own ho6 hz, by omega⟩, hcc⟩
end Go.Proofs.Ytiddaabodkglmaa

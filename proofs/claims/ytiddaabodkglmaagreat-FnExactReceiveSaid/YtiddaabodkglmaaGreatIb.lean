import Derived.Test.YtiddaabodkglmaaGreatIa
import Derived.Test.YtiddaabodkglmaaGreatK8
import Derived.BigQuiet
namespace Go.Fx
open Go.RowKit
set_option linter.unusedVariables false
set_option linter.unusedSimpArgs false
theorem weave_big {a b : List (List Cel)} (hl : a.length = b.length) (h : ¬ a.length ≤ 64) : weaveOk a b = false ∧ weaveR a b = [] := by
  have e : weaveOk a b = false := by
    unfold weaveOk pictureOk
    rw [weave_len hl, decide_eq_false (show ¬ 2 * a.length ≤ 64 by omega)]; simp
  exact ⟨e, by unfold weaveR; rw [e]; rfl⟩
end Go.Fx
namespace Go.Proofs.YtiddaabodkglmaaGreat
open Go.RowKit Go.Fx
set_option linter.unusedVariables false
set_option linter.unusedSimpArgs false
set_option maxRecDepth 100000 in
set_option maxHeartbeats 4000000 in
theorem sWeave_any (A B : Option Addr) (c d : Nat) (us vs : List Value) (rss sss : List (List Cel)) (w : World) (h : RdRows w A us (rowsC rss)) (h' : RdRows w B vs (rowsC sss)) (hn : rss.length ≤ 1048576) (hn' : sss.length ≤ 1048576) (he : ∀ r ∈ rss, r.length ≤ 1048576) (he' : ∀ r ∈ sss, r.length ≤ 1048576) :
    Calls Tryz.prog 23 #[.slice A rss.length c, .slice B sss.length d] w fun e w' => (∃ v us', e = .returned (.tuple #[v, .bool (weaveOk rss sss)]) ∧ OCC w' w.heap.size v us' (weaveR rss sss)) ∧ Ext w w' := by
  have H := Lib.hid h
  have H' := Lib.hid h'
  have HE := Lib.hid he
  have HE' := Lib.hid he'
  clear h h' he he'
  have ha : Ext w (w.alloc (.cells #[] 54)) := (Ext.refl _).alloc _
  have hnew1 := Lib.hid (Rows2.new w w.heap.size 54 83 2 (Nat.le_refl _))
  by_cases hl : rss.length = sss.length
  rotate_left
  · have HN := Lib.hid (weave_not hl)
    go_enter Tryz.func23, Tryz.ntmps23
    go_wp2_with fail
    go_ret2
    exact ⟨⟨_, [], by rw [HN.out.1]; rfl, by rw [HN.out.2]; exact hnew1.out⟩, ha⟩
  by_cases h64 : rss.length ≤ 64
  rotate_left
  · have HN := Lib.hid (weave_big hl h64)
    rw [← hl]
    clear hl
    go_enter Tryz.func23, Tryz.ntmps23
    go_wp2_with fail
    go_ret2
    exact ⟨⟨_, [], by rw [HN.out.1]; rfl, by rw [HN.out.2]; exact hnew1.out⟩, ha⟩
  · have HN := Lib.hid (weave_is hl)
    rw [← hl]
    have HL := Lib.hid hl
    clear hl
    go_enter Tryz.func23, Tryz.ntmps23
    go_wp2_with fail
    go_loopw [6, 7] (fun v i wr => ∃ (k : Nat) (us' : List Value), k ≤ rss.length ∧ i = .int .i64 k ∧ Hid (OCC wr w.heap.size v us' (weave (rss.take k) (sss.take k))) ∧ Ext w wr) (fun _ i _ => rss.length - (intOf i).toNat)
    case atStart => exact ⟨0, [], by omega, rfl, Lib.hid (by simp only [List.take_zero, weave]; exact hnew1.out), ha⟩
    case round =>
      clear ha hnew1
      rename World => wo
      obtain ⟨k, us', hk, rfl, ho, hbr⟩ := hrel
      obtain ⟨A2, c2, rfl, hou⟩ := ho.out.form
      have hul : us'.length = 2 * k := by
        have h1 := ho.out.len
        simp only [List.length_map] at h1
        rw [weave_len (by simp [HL.out])] at h1
        rw [h1, List.length_take]; omega
      by_cases hlt : k < rss.length
      · have hlt' : k < sss.length := by have := HL.out; omega
        obtain ⟨b1, o1, B1, d1, rfl, hw1, -, hc1, hr1, hn1, -⟩ := H.out.atC hlt
        obtain ⟨b2, o2, B2, d2, rfl, hw2, -, hc2, hr2, hn2, -⟩ := H'.out.atC hlt'
        have hs1 := HE.out _ (List.getElem_mem hlt)
        have hs2 := HE'.out _ (List.getElem_mem hlt')
        have HT := Lib.hid (weave_snoc hlt hlt')
        have ho2 := ho
        have hub : us'.length ≤ 2097152 := by omega
        clear ho hul
        generalize rss[k] = ra at *
        generalize sss[k] = rb at *
        have hltI : (k : Int) < (rss.length : Int) := by omega
        have hltJ : (k : Int) < (sss.length : Int) := by omega
        have HC1 : Hid (∀ W, Ext w W → Calls Tryz.prog 48 #[.slice B1 ra.length d1] W fun e w' => (∃ v, e = .returned v ∧ OC w' W.heap.size v ra) ∧ Ext W w') := Lib.hid (fun W hW => sRow_any B1 d1 ra W (hr1.ext hW) hn1 hs1)
        have HC2 : Hid (∀ W, Ext w W → Calls Tryz.prog 48 #[.slice B2 rb.length d2] W fun e w' => (∃ v, e = .returned v ∧ OC w' W.heap.size v rb) ∧ Ext W w') := Lib.hid (fun W hW => sRow_any B2 d2 rb W (hr2.ext hW) hn2 hs2)
        have KS : Hid (∀ W, Ext w W → W.cell? ⟨b1, o1 + k, none⟩ = some (.slice B1 ra.length d1) ∧ W.cell? ⟨b2, o2 + k, none⟩ = some (.slice B2 rb.length d2)) := Lib.hid (fun W hh => ⟨by rw [Below.cell hh (p := ⟨b1, o1 + k, none⟩) hw1]; exact hc1, by rw [Below.cell hh (p := ⟨b2, o2 + k, none⟩) hw2]; exact hc2⟩)
        clear hr1 hr2 hc1 hc2
        obtain ⟨k1, k2⟩ := KS.out _ hbr
        go_wp2_with fail
        go_region_held3 (fun W => W.cell? ⟨b1, o1 + k, none⟩ = some (.slice B1 ra.length d1) ∧ W.cell? ⟨b2, o2 + k, none⟩ = some (.slice B2 rb.length d2))
          (first | exact KS.out _ hb3 | exact KS.out _ (Ext.alloc hb2 _) | exact KS.out _ (by (repeat (first | exact Below.refl _ _ | assumption | refine below_drewN ?_ _ | refine Below.drew ?_ | refine Below.alloc ?_ (by first | exact Nat.le_refl _ | (simp; done) | (simp; omega)) _ | refine Below.setCell ?_ (by first | exact Nat.le_refl _ | (simp; done) | (simp; omega)) _))))
          (first
            | (go_at_call 48; refine (HC1.out _ (by (repeat (first | exact Below.refl _ _ | assumption | refine below_drewN ?_ _ | refine Below.drew ?_ | refine Below.alloc ?_ (by first | exact Nat.le_refl _ | (simp; done) | (simp; omega)) _ | refine Below.setCell ?_ (by first | exact Nat.le_refl _ | (simp; done) | (simp; omega)) _)))).mono ?_; rintro e w1 ⟨⟨v1, rfl, ho1⟩, hb1⟩; unfold OC at ho1; obtain ⟨A3, c3, rfl, -, -⟩ := own_slice ho1; replace hb1 := Ext.trans (a := wo) (by (repeat (first | exact Below.refl _ _ | assumption | refine below_drewN ?_ _ | refine Below.drew ?_ | refine Below.alloc ?_ (by first | exact Nat.le_refl _ | (simp; done) | (simp; omega)) _ | refine Below.setCell ?_ (by first | exact Nat.le_refl _ | (simp; done) | (simp; omega)) _))) hb1; have hx1 := hb1; replace hb1 := Ext.trans hbr hb1)
            | (go_at_call 48; refine (HC2.out _ (by (repeat (first | exact Below.refl _ _ | assumption | refine below_drewN ?_ _ | refine Below.drew ?_ | refine Below.alloc ?_ (by first | exact Nat.le_refl _ | (simp; done) | (simp; omega)) _ | refine Below.setCell ?_ (by first | exact Nat.le_refl _ | (simp; done) | (simp; omega)) _)))).mono ?_; rintro e w2 ⟨⟨v2, rfl, hoB⟩, hb2⟩; have hbB := hb2; unfold OC at hoB; obtain ⟨A4, c4, rfl, -, -⟩ := own_slice hoB; replace hb2 := Ext.trans (a := w) (by (repeat (first | exact Below.refl _ _ | assumption | refine below_drewN ?_ _ | refine Below.drew ?_ | refine Below.alloc ?_ (by first | exact Nat.le_refl _ | (simp; done) | (simp; omega)) _ | refine Below.setCell ?_ (by first | exact Nat.le_refl _ | (simp; done) | (simp; omega)) _))) hb2)
            | (refine step_app rfl _ _ 28 rfl w.heap.size 54 _ 1 24 Tryz.underlying28 info_sc rfl (by omega) (.slice A2 us'.length c2) us'.length us' rfl (own_ext (own_ext (own_ext hou hx1) hbB) ((Ext.refl _).alloc _)) _ 2 2 _ rfl (rd_new _ _ _ _) rfl (fun h => by cases h) (by intro u hu; simp at hu; rcases hu with rfl | rfl <;> rfl) (by unfold maxLen; omega) (by omega) (by have := hb2.size; simp; omega) ?_; intro v3 w3 hown hg hat; have hb3 : Ext w w3 := ext_grow (base := w.heap.size) (Ext.alloc hb2 _) (own_ext (own_ext (own_ext hou hx1) hbB) ((Ext.refl _).alloc _)) (Nat.le_refl _) hg))
        go_wp2_with fail
        go_roundw
        case rel =>
          have hR : Hid (OCC w3 w.heap.size v3 (us' ++ [.slice A3 ra.length c3, .slice A4 rb.length c4]) (weave (rss.take (k + 1)) (sss.take (k + 1)))) := Lib.hid (by
            have hzb := hbr.size
            have ho1' : w1.ownsRow wo.heap.size 83 2 (.slice A3 ra.length c3) ra.length (ccells ra) := ho1
            have hap : Apart (.slice A3 ra.length c3) (.slice A4 rb.length c4) := fun b hb e => by
              have h1 := (ho1.lt b hb).2
              have h2 := (hoB.lt b e).1
              omega
            have hz1 : wo.heap.size ≤ w1.heap.size := hx1.size
            have h2 := Rows2.two (Eo := 54) (r := (ra.length, ccells ra)) (s := (rb.length, ccells rb)) (own_ext ho1' hbB) (own_base hoB hz1) hap (Nat.le_trans hz1 hbB.size)
            rw [HT.out]
            unfold OCC
            rw [← rowsC_two]
            exact Rows2.join (((ho2.out.ext hx1).ext hbB).ext ((Ext.refl _).alloc _)) h2 hown hg hat (Nat.le_refl _) ho2.out.inR (Nat.le_refl _) hzb)
          exact ⟨k + 1, _, by omega, by go_num, hR, hb3⟩
        case measure => simp [intOf]; omega
      · obtain rfl : k = rss.length := by omega
        have hL := HL.out
        have ho3 : Hid (OCC wo w.heap.size (.slice A2 us'.length c2) us' (weave rss sss)) := Lib.hid (by
          have := ho.out
          rw [List.take_of_length_le (Nat.le_refl _), List.take_of_length_le (by omega)] at this
          exact this)
        have hlen : (weave rss sss).length = us'.length := by have := ho3.out.len; simpa using this.symm
        have HQ := sPictureOk_any A2 c2 us' (weave rss sss) wo ho3.out.rd.1 (by rw [hlen]; unfold maxLen; omega) (fun r hr => by
          rcases weave_mem hr with h | h
          · exact Nat.le_trans (HE.out r h) (by unfold maxLen; omega)
          · exact Nat.le_trans (HE'.out r h) (by unfold maxLen; omega))
        rw [hlen] at HQ
        have HX := Lib.hid HQ
        clear HQ hlen hul hL ho
        cases hp : pictureOk (weave rss sss)
        · rw [hp] at HX
          have HP := Lib.hid hp
          clear hp
          go_wp2_with (go_at_call 49; refine HX.out.mono ?_; rintro e w1 ⟨rfl, hb1⟩)
          go_ret2
          have hz : w.heap.size ≤ w1.heap.size := (hbr.trans hb1).size
          exact ⟨⟨_, [], by rw [HN.out.1, HP.out]; rfl, by rw [HN.out.2, HP.out]; exact Rows2.new w1 w.heap.size _ _ _ hz⟩, (hbr.trans hb1).alloc _⟩
        · rw [hp] at HX
          have HP := Lib.hid hp
          clear hp
          go_wp2_with (go_at_call 49; refine HX.out.mono ?_; rintro e w1 ⟨rfl, hb1⟩)
          go_ret2
          exact ⟨⟨_, us', by rw [HN.out.1, HP.out]; rfl, by rw [HN.out.2, HP.out]; exact ho3.out.ext hb1⟩, hbr.trans hb1⟩
end Go.Proofs.YtiddaabodkglmaaGreat

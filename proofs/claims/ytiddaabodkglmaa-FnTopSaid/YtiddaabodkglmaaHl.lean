import Derived.Test.YtiddaabodkglmaaHk
import Derived.BigQuiet
namespace Go.Fx
open Go.RowKit
theorem rowsC_set (rss : List (List Cel)) (k n : Nat) (r : List Cel) (h : r.length = n) : (rowsC rss).set k (n, ccells r) = rowsC (rss.set k r) := by
  subst h
  show (rss.map _).set k _ = (rss.set k r).map _
  rw [List.map_set]
theorem set2_cell {W : World} {g bb k : Nat} {v x y : Value} (hne : g ≠ bb) (h : W.cell? ⟨g, k, none⟩ = some v) : ((W.setCell ⟨bb, 0, none⟩ x).setCell ⟨bb, 1, none⟩ y).cell? ⟨g, k, none⟩ = some v := by
  rw [World.cell?_of_block (w := W.setCell ⟨bb, 0, none⟩ x) (a := ⟨g, k, none⟩) (Below.heap_setCell _ ⟨bb, 1, none⟩ y g hne), World.cell?_of_block (w := W) (a := ⟨g, k, none⟩) (Below.heap_setCell _ ⟨bb, 0, none⟩ x g hne)]
  exact h
end Go.Fx
namespace Go.Proofs.Ytiddaabodkglmaa
open Go.RowKit Go.Fx
set_option linter.unusedVariables false
set_option linter.unusedSimpArgs false
set_option maxRecDepth 100000 in
set_option maxHeartbeats 2000000 in
theorem picture_any (bk : Nat) (w : World) (h : Cu w bk) :
    Calls Try.prog 235 #[.pointer (some ⟨bk, 0, none⟩)] w fun e w' => (∃ A n c us rss, e = .returned (.slice A n c) ∧ DrawnR bk w' A n c us rss) ∧ CuT bk w w' := by
  have hz := h.size
  go_enter Try.func235, Try.ntmps235
  go_wp2_with fail
  refine (paired_any bk _ h).mono ?_
  rintro e w1 ⟨⟨v, us, rss, W0, rfl, ho, hp, hw1, hw4, hrl⟩, hc1⟩
  have hul : us.length = rss.length := by simpa using ho.len
  obtain ⟨A1, c1, rfl, hown⟩ := ho.form
  have hcap := own_cap hown
  obtain ⟨g, rfl, hgb, hgw⟩ := own_at hown (by omega)
  rw [hul] at ho hown hcap ⊢
  have HW : Hid (∀ r ∈ rss, r.length = W0) := Lib.hid hp.wide
  have hsm : Hid (∀ r ∈ rss, r.length ≤ 64) := Lib.hid (fun r hr => by have := hp.wide r hr; omega)
  generalize hnn : rss.length = n at ho hown hcap hul hrl ⊢
  have HN := Lib.hid hnn
  have HU := Lib.hid hul
  have hn8 : 4 ≤ n ∧ n ≤ 8 := by omega
  have HO := Lib.hid ho
  clear hp ho hown hul hnn hrl
  go_wp2_with fail
  refine (below_any bk n _ hc1.1 (by omega)).mono ?_
  rintro e w2 ⟨⟨x, rfl, hx0, hx1, -⟩, hc2⟩
  have hx2 := hx1 (by omega)
  obtain ⟨k, rfl⟩ : ∃ k : Nat, x = k := ⟨x.toNat, by omega⟩
  have HO2 := Lib.hid (HO.out.turn hc2.2 HO.out.inR (.inr (by omega)))
  have hcc := hc1.trans hc2
  clear hc1 hc2 hx1 HO
  go_wp2_with fail
  refine (below_any bk 14 _ hcc.1 (by omega)).mono ?_
  rintro e w3 ⟨⟨y, rfl, hy0, hy1, -⟩, hc3⟩
  have HO3 := Lib.hid (HO2.out.turn hc3.2 HO2.out.inR (.inr (by omega)))
  have HCC := Lib.hid (hcc.trans hc3)
  clear hcc hc3 hy1 HO2
  have hgz : g < w3.heap.size := (HO3.out.inR.1 g rfl).2
  have HON : Hid (w3.ownsRow w.heap.size 43 1 (.slice (some ⟨g, 0, none⟩) n c1) n us) := Lib.hid (by have := HO3.out.own; rwa [List.length_map, HN.out] at this)
  have hkn : k < n := by omega
  have hkI : (k : Int) < (n : Int) := by omega
  rcases (by omega : y = 0 ∨ y = 1 ∨ y = 2 ∨ y = 3 ∨ y = 4 ∨ 4 < y) with rfl | rfl | rfl | rfl | rfl | hy
  · have hc1 : ¬ c1 = 1 := by omega
    go_wp2_with fail
    go_ret
    obtain ⟨h1, h2, h3⟩ := HO3.out.rd
    obtain ⟨h4, h5⟩ := HO3.out.above hz
    have hcut := h1.cut 1 (n - 1)
    have e1 : ((rowsC rss).drop 1).take (n - 1) = rowsC (rss.drop 1) := by rw [← List.map_drop]; exact List.take_of_length_le (by simp [HN.out])
    have e2 : (us.drop 1).take (n - 1) = us.drop 1 := List.take_of_length_le (by simp [HU.out])
    rw [e1, e2] at hcut
    exact ⟨⟨_, _, _, _, rss.drop 1, rfl, hcut, by simp [HN.out], by omega, (fun h => by cases h), fun a ha => by cases ha; exact h4 ⟨g, 0, none⟩ rfl, fun B m d hm => h5 B m d (List.mem_of_mem_drop hm), fun r hr => hsm.out r (List.mem_of_mem_drop hr), by omega⟩, HCC.out⟩
  · have hkr : k < rss.length := by rw [HN.out]; exact hkn
    obtain ⟨b, of, B, d, e1, -, hu, hcell, hrow, hnil, hcp⟩ := HO3.out.rd.1.atC hkr
    have hwl := HW.out _ (List.getElem_mem hkr)
    rw [hwl] at hcell hu hcp hnil
    injection e1 with e1
    injection e1 with e1 e2
    subst e1 e2
    rw [Nat.zero_add] at hcell
    obtain ⟨bb, oo, rfl, hbb, hcb⟩ : ∃ bb oo, B = some ⟨bb, oo, none⟩ ∧ bb < w3.heap.size ∧ True := by
      rcases hrow with h0 | ⟨bb, oo, h1, h2, -⟩
      · have := congrArg List.length h0
        rw [cells2_len, hwl] at this
        simp at this; omega
      · exact ⟨bb, oo, h1, h2, trivial⟩
    have hfr : ∀ j, w3.frozen? ⟨g, j, none⟩ = false := fun j => own_frozen HON.out j
    have hkus : us[k]? = some (.slice (some ⟨bb, oo, none⟩) W0 d) := hu
    have hrk : (rowsC rss)[k]? = some (W0, ccells rss[k]) := by simp [hkr, hwl]
    have hcrow := hrow.cut 2 (2 * (W0 - 1))
    have hlc : (ccells rss[k]).length = rss[k].length * 2 := cells2_len _ _ _
    rw [ccells_drop _ 1, List.take_of_length_le (by rw [cells2_len, List.length_drop, hwl]; omega)] at hcrow
    have HP0 : Hid (∀ oo', (Rd w3 (some ⟨bb, oo', none⟩) (ccells (rss[k].drop 1))) → ∀ d', W0 - 1 ≤ d' → DrawnR bk (w3.setCell ⟨g, k, none⟩ (.slice (some ⟨bb, oo', none⟩) (W0 - 1) d')) (some ⟨g, 0, none⟩) n c1 (us.set k (.slice (some ⟨bb, oo', none⟩) (W0 - 1) d')) (rss.set k (rss[k].drop 1))) := Lib.hid (fun oo' hr' d' hd' => by
      obtain ⟨h4, h5⟩ := HO3.out.above hz
      have hp := Rows2.part HO3.out hkus hrk (B' := some ⟨bb, oo', none⟩) (fun a ha => by cases ha; exact ⟨bb, oo', rfl, _, rfl, rfl⟩) hr' (W0 - 1) (fun h => by cases h) hd'
      have e3 : (rowsC rss).set k (W0 - 1, ccells (rss[k].drop 1)) = rowsC (rss.set k (rss[k].drop 1)) := rowsC_set _ _ _ _ (by rw [List.length_drop, hwl])
      rw [e3] at hp
      refine ⟨hp, by rw [List.length_set, HN.out], hcap, (fun h => by cases h), h4, fun B m d'' hm a ha => ?_, fun r hr => ?_, by omega⟩
      · rcases List.mem_or_eq_of_mem_set hm with h6 | h6
        · exact h5 _ _ _ h6 a ha
        · injection h6 with h7
          subst h7
          cases ha
          exact h5 _ _ _ (List.mem_of_getElem? hkus) ⟨bb, oo, none⟩ rfl
      · rcases List.mem_or_eq_of_mem_set hr with h6 | h6
        · exact hsm.out r h6
        · subst h6; rw [List.length_drop, hwl]; omega)
    have HFIN : Hid (∀ v, CuT bk w (w3.setCell ⟨g, k, none⟩ v)) := Lib.hid (fun v => HCC.out.below (Below.setCell (p := ⟨g, k, none⟩) (Below.refl _ _) hgb _) hz)
    by_cases hd1 : d = 1
    · subst hd1
      obtain rfl : W0 = 1 := by omega
      have HE : Hid (Rd w3 (some ⟨bb, oo, none⟩) (ccells (rss[k].drop 1))) := Lib.hid (.inl (by rw [List.drop_of_length_le (by omega)]; rfl))
      clear hrow hcrow hlc hrk hkus hu
      go_wp2_with fail
      go_ret
      exact ⟨⟨_, _, _, _, _, rfl, HP0.out oo HE.out 0 (by omega)⟩, HFIN.out _⟩
    · have HE : Hid (Rd w3 (some ⟨bb, oo + 2, none⟩) (ccells (rss[k].drop 1))) := Lib.hid hcrow
      clear hrow hcrow hlc hrk hkus hu
      go_wp2_with fail
      go_ret
      exact ⟨⟨_, _, _, _, _, rfl, HP0.out (oo + 2) HE.out (d - 1) (by omega)⟩, HFIN.out _⟩
  · have hkr : k < rss.length := by rw [HN.out]; exact hkn
    obtain ⟨b, of, B, d, e1, -, hu, -, -, -, -⟩ := HO3.out.rd.1.atC hkr
    have hwl := HW.out _ (List.getElem_mem hkr)
    rw [hwl] at hu
    injection e1 with e1
    injection e1 with e1 e2
    subst e1 e2
    have hkus : us[k]? = some (.slice B W0 d) := hu
    have hrk : (rowsC rss)[k]? = some (W0, ccells rss[k]) := by simp [hkr, hwl]
    have hro := HO3.out.row k _ _ hkus hrk
    obtain ⟨bb, rfl, hbb1, hbb2⟩ := own_at hro (by show 0 < W0; omega)
    have hr0 : 0 < rss[k].length := by omega
    obtain ⟨c00, hcc⟩ : ∃ c, rss[k][0] = c := ⟨_, rfl⟩
    have HC00 := Lib.hid hcc
    clear hcc
    have hgb2 : g ≠ bb := fun e => by subst e; exact HO3.out.out _ (List.mem_of_getElem? hkus) _ rfl rfl
    have KS : Hid (∀ W, CuT bk w3 W → W.cell? ⟨g, k, none⟩ = some (.slice (some ⟨bb, 0, none⟩) W0 d) ∧ W.cell? ⟨bb, 0, none⟩ = some (.float .f32 c00.y) ∧ W.cell? ⟨bb, 1, none⟩ = some (.complex .f32 c00.re c00.im) ∧ W.frozen? ⟨bb, 0, none⟩ = false ∧ W.frozen? ⟨bb, 1, none⟩ = false ∧ CuT bk w3 W) := Lib.hid (fun W hW => by
      have h1 := HO3.out.turn hW.2 HO3.out.inR (.inr (by omega))
      have h2 := h1.row k _ _ hkus hrk
      have h3 := h1.own
      rw [List.length_map, HN.out] at h3
      obtain ⟨k1, k2⟩ := cells2_at Fx.c1 Fx.c2 rss[k] hr0
      rw [HC00.out] at k1 k2
      exact ⟨own_cell h3 hkus, own_cell h2 k1, own_cell h2 k2, own_frozen h2 0, own_frozen h2 1, hW⟩)
    have HF : Hid (∀ W (dd : Cel), CuT bk w3 W → DrawnR bk ((W.setCell ⟨bb, 0, none⟩ (.float .f32 dd.y)).setCell ⟨bb, 1, none⟩ (.complex .f32 dd.re dd.im)) (some ⟨g, 0, none⟩) n c1 us (rss.set k (rss[k].set 0 dd)) ∧ CuT bk w ((W.setCell ⟨bb, 0, none⟩ (.float .f32 dd.y)).setCell ⟨bb, 1, none⟩ (.complex .f32 dd.re dd.im))) := Lib.hid (fun W dd hW => by
      have h1 := HO3.out.turn hW.2 HO3.out.inR (.inr (by omega))
      have h2 := h1.row k _ _ hkus hrk
      have h3 := own_set (own_set h2 (j := 0) (.float .f32 dd.y)) (j := 1) (.complex .f32 dd.re dd.im)
      have hgr : W.grownBy ((W.setCell ⟨bb, 0, none⟩ (.float .f32 dd.y)).setCell ⟨bb, 1, none⟩ (.complex .f32 dd.re dd.im)) (some bb) := grown_set (p := ⟨bb, 1, none⟩) (grown_set (p := ⟨bb, 0, none⟩) (grown_refl W (some bb)) (.inl rfl) _) (.inl rfl) _
      have h4 := Rows2.setRow h1 (r' := (W0, ((ccells rss[k]).set 0 (.float .f32 dd.y)).set 1 (.complex .f32 dd.re dd.im))) hkus h3 hgr
      have e4 : ((ccells rss[k]).set 0 (.float .f32 dd.y)).set 1 (.complex .f32 dd.re dd.im) = ccells (rss[k].set 0 dd) := by
        cases hx : rss[k] with
        | nil => rw [hx] at hwl; simp at hwl; omega
        | cons c r => rfl
      have e5 : (rowsC rss).set k (W0, ccells (rss[k].set 0 dd)) = rowsC (rss.set k (rss[k].set 0 dd)) := rowsC_set _ _ _ _ (by rw [List.length_set, hwl])
      rw [e4, e5] at h4
      exact ⟨drawnR_own h4 hz (fun r hr => by
        rcases List.mem_or_eq_of_mem_set hr with h6 | h6
        · exact hsm.out r h6
        · subst h6; rw [List.length_set, hwl]; omega) (by omega), (HCC.out.trans hW).below (Below.setCell (p := ⟨bb, 1, none⟩) (Below.setCell (p := ⟨bb, 0, none⟩) (Below.refl _ _) hbb1 _) hbb1 _) hz⟩)
    have hc0 := CuT.refl HCC.out.1
    have hWI : (0 : Int) < (W0 : Int) := by omega
    have hWN : 0 < W0 := by omega
    clear hkus hrk hro
    go_wp2_with fail
    obtain ⟨f1, f2, f3, f4, f5, -⟩ := KS.out _ hc0
    go_region_held3 (fun W => W.cell? ⟨g, k, none⟩ = some (.slice (some ⟨bb, 0, none⟩) W0 d))
      (first | exact set2_cell hgb2 (KS.out _ hc4).1 | exact (KS.out _ (CuT.ext hc4 (by (repeat (first | exact Below.refl _ _ | assumption | refine below_drewN ?_ _ | refine Below.drew ?_ | refine Below.alloc ?_ (by first | exact Nat.le_refl _ | (simp; done) | (simp; omega)) _ | refine Below.setCell ?_ (by first | exact Nat.le_refl _ | (simp; done) | (simp; omega)) _))))).1 | exact (KS.out _ (CuT.ext hc0 (by (repeat (first | exact Below.refl _ _ | assumption | refine below_drewN ?_ _ | refine Below.drew ?_ | refine Below.alloc ?_ (by first | exact Nat.le_refl _ | (simp; done) | (simp; omega)) _ | refine Below.setCell ?_ (by first | exact Nat.le_refl _ | (simp; done) | (simp; omega)) _))))).1)
      (first
        | (go_at_call 167; refine (cell_any bk _ (CuT.ext hc0 (by (repeat (first | exact Below.refl _ _ | assumption | refine below_drewN ?_ _ | refine Below.drew ?_ | refine Below.alloc ?_ (by first | exact Nat.le_refl _ | (simp; done) | (simp; omega)) _ | refine Below.setCell ?_ (by first | exact Nat.le_refl _ | (simp; done) | (simp; omega)) _)))).1).mono ?_; rintro e w4 ⟨⟨dd, rfl⟩, hc4⟩; replace hc4 := CuT.trans (CuT.ext hc0 (by (repeat (first | exact Below.refl _ _ | assumption | refine below_drewN ?_ _ | refine Below.drew ?_ | refine Below.alloc ?_ (by first | exact Nat.le_refl _ | (simp; done) | (simp; omega)) _ | refine Below.setCell ?_ (by first | exact Nat.le_refl _ | (simp; done) | (simp; omega)) _)))) hc4; obtain ⟨g1, g2, g3, g4, g5, -⟩ := KS.out _ hc4))
    go_wp2_with fail
    go_ret
    exact ⟨⟨_, _, _, _, _, rfl, (HF.out _ dd hc4).1⟩, (HF.out _ dd hc4).2⟩
  · have hr3 := Lib.hid (own_rd HON.out)
    go_wp2_with (at_builtin; refine wpList_app rfl _ _ 28 rfl w.heap.size 43 _ 1 24 Try.underlying28 info_sc rfl (by omega) (.slice (some ⟨g, 0, none⟩) n c1) n us rfl HON.out (some ⟨g, 0, none⟩) n c1 us rfl hr3.out (by rw [HU.out, Nat.mul_one]) (fun h => by cases h) (by intro u hu; obtain ⟨r, -, ho⟩ := HO3.out.mem hu; obtain ⟨B, e, rfl, -, -⟩ := own_slice ho; rfl) (by unfold maxLen; omega) (by omega) (by have := HCC.out.2.size; omega) ?_; intro v1 w4 hown hg hat)
    go_ret
    rw [← HU.out] at hown
    obtain ⟨A', c', rfl, k1, k2, k3, k4⟩ := Rows2.twice HO3.out hown hg
    have e6 : rowsC rss ++ rowsC rss = rowsC (rss ++ rss) := by show rss.map _ ++ rss.map _ = (rss ++ rss).map _; rw [List.map_append]
    rw [e6] at k3
    obtain ⟨h4, h5⟩ := HO3.out.above hz
    exact ⟨⟨_, _, _, _, _, rfl, k3, by rw [List.length_append, HN.out, HU.out], k1, k2, fun a ha => by have := k4 a ha; omega, fun B m d hm => h5 B m d (by rcases List.mem_append.1 hm with h | h <;> exact h), fun r hr => hsm.out r (by rcases List.mem_append.1 hr with h | h <;> exact h), by rw [HU.out]; omega⟩, CuT.grow HCC.out HON.out (Nat.le_refl _) hg hz⟩
  · go_wp2_with fail
    go_ret
    have hne := Rows2.new w3 w.heap.size 43 90 2 HCC.out.2.size
    exact ⟨⟨_, _, _, _, [], rfl, drawnR_own hne hz (fun r hr => by cases hr) (by omega)⟩, CuT.ext HCC.out ((Ext.refl _).alloc _)⟩
  · go_wp2_with fail
    go_ret
    exact ⟨⟨_, _, _, us, rss, rfl, drawnR_own HO3.out hz hsm.out (by omega)⟩, HCC.out⟩
end Go.Proofs.Ytiddaabodkglmaa

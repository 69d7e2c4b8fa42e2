import Derived.Test.YtiddaabodkglmaaHm
import Derived.Test.YtiddaabodkglmaaHk
import Derived.Outline
import Derived.BigQuiet
namespace Go.Fx
open Go.RowKit Ieee
set_option linter.unusedVariables false
set_option linter.unusedSimpArgs false
/-! the picture that a link can carry -/
def LinkCel (c : Cel) : Prop := ∃ a : I3, CV 4 c a ∧ 0 ≤ a.1 ∧ a.1 ≤ 960 ∧ a.2.1.natAbs ≤ 32 ∧ a.2.2.natAbs ≤ 32
def cel (rss : List (List Cel)) (r i : Nat) : Cel := (rss.getD r []).getD i ⟨0, 0, 0⟩
structure PicAt (W k m : Nat) (rss : List (List Cel)) : Prop where
  wide : ∀ r ∈ rss, r.length = W
  cells : ∀ r i, r < rss.length → i < W → (r < k ∨ (r = k ∧ i < m)) → LinkCel (cel rss r i) ∧ (2 ≤ r % 4 → clr (cel rss r i) = clr (cel rss (r - 2) i))
theorem cel_set {W k m r i : Nat} {rss : List (List Cel)} {d : Cel} (hw : ∀ r ∈ rss, r.length = W) (hk : k < rss.length) (hm : m < W) (hr : r < rss.length) (hi : i < W) : cel (rss.set k ((rss.getD k []).set m d)) r i = if r = k ∧ i = m then d else cel rss r i := by
  have e1 : rss.getD k [] = rss[k] := by rw [List.getD_eq_getElem?_getD, List.getElem?_eq_getElem hk]; rfl
  have hwk := hw _ (List.getElem_mem hk)
  unfold cel
  by_cases h : r = k
  · subst h
    rw [e1]
    have e2 : (rss.set r (rss[r].set m d)).getD r [] = rss[r].set m d := by rw [List.getD_eq_getElem?_getD, List.getElem?_set_self hr]; rfl
    rw [e2]
    by_cases h2 : i = m
    · subst h2
      rw [if_pos ⟨rfl, rfl⟩, List.getD_eq_getElem?_getD, List.getElem?_set_self (by omega)]; rfl
    · rw [if_neg (fun h => h2 h.2), List.getD_eq_getElem?_getD, List.getElem?_set_ne (by omega), ← List.getD_eq_getElem?_getD]
  · rw [if_neg (fun h' => h h'.1)]
    have e2 : (rss.set k ((rss.getD k []).set m d)).getD r [] = rss.getD r [] := by rw [List.getD_eq_getElem?_getD, List.getElem?_set_ne (by omega), ← List.getD_eq_getElem?_getD]
    rw [e2]
theorem PicAt.set {W k m : Nat} {rss : List (List Cel)} {d : Cel} (h : PicAt W k m rss) (hk : k < rss.length) (hm : m < W) (hd : LinkCel d) (hc : 2 ≤ k % 4 → clr d = clr (cel rss (k - 2) m)) : PicAt W k (m + 1) (rss.set k ((rss.getD k []).set m d)) := by
  have e1 : rss.getD k [] = rss[k] := by rw [List.getD_eq_getElem?_getD, List.getElem?_eq_getElem hk]; rfl
  refine ⟨fun r hr => ?_, fun r i hr hi hx => ?_⟩
  · rcases List.mem_or_eq_of_mem_set hr with h1 | h1
    · exact h.wide r h1
    · subst h1; rw [List.length_set, e1]; exact h.wide _ (List.getElem_mem hk)
  · rw [List.length_set] at hr
    rw [cel_set h.wide hk hm hr hi]
    by_cases hkm : r = k ∧ i = m
    · obtain ⟨rfl, rfl⟩ := hkm
      rw [if_pos ⟨rfl, rfl⟩]
      refine ⟨hd, fun h2 => ?_⟩
      rw [cel_set h.wide hk hm (by omega) hi, if_neg (by omega)]
      exact hc h2
    · rw [if_neg hkm]
      obtain ⟨q1, q2⟩ := h.cells r i hr hi (by omega)
      refine ⟨q1, fun h2 => ?_⟩
      rw [cel_set h.wide hk hm (by omega) hi, if_neg (by omega)]
      exact q2 h2
theorem PicAt.next {W k : Nat} {rss : List (List Cel)} (h : PicAt W k W rss) : PicAt W (k + 1) 0 rss := ⟨h.wide, fun r i hr hi hx => h.cells r i hr hi (by omega)⟩
theorem PicAt.start {W : Nat} {rss : List (List Cel)} (h : ∀ r ∈ rss, r.length = W) : PicAt W 0 0 rss := ⟨h, fun r i hr hi hx => by omega⟩
theorem linkRow_of : ∀ {row : List Cel}, (∀ c ∈ row, LinkCel c) → ∃ ys, LinkRow row ys
  | [], _ => ⟨[], trivial, fun a h => by cases h⟩
  | c :: l, h => by
    obtain ⟨a, h1, h2⟩ := h c (List.mem_cons_self ..)
    obtain ⟨ys, h3, h4⟩ := linkRow_of (row := l) (fun x hx => h x (List.mem_cons_of_mem _ hx))
    refine ⟨a :: ys, ⟨h1, h3⟩, fun b hb => ?_⟩
    rcases List.mem_cons.1 hb with rfl | hb
    · exact h2
    · exact h4 b hb
/-- rows of width W, each a row that a link can carry; pairs share their colours -/
structure Pic (W : Nat) (rss : List (List Cel)) : Prop where
  wide : ∀ r ∈ rss, r.length = W
  link : ∀ r ∈ rss, ∃ ys, LinkRow r ys
  pair : ∀ i, i < rss.length → 2 ≤ i % 4 → (rss.getD i []).map clr = (rss.getD (i - 2) []).map clr
theorem cel_at {rss : List (List Cel)} {r i : Nat} (hr : r < rss.length) (hi : i < rss[r].length) : cel rss r i = rss[r][i] := by
  unfold cel
  have e1 : rss.getD r [] = rss[r] := by rw [List.getD_eq_getElem?_getD, List.getElem?_eq_getElem hr]; rfl
  rw [e1, List.getD_eq_getElem?_getD, List.getElem?_eq_getElem hi]; rfl
theorem PicAt.pic {W : Nat} {rss : List (List Cel)} (h : PicAt W rss.length 0 rss) : Pic W rss := by
  refine ⟨h.wide, fun r hr => linkRow_of fun c hc => ?_, fun i hi h2 => ?_⟩
  · obtain ⟨k, hk, rfl⟩ := List.getElem_of_mem hr
    obtain ⟨j, hj, rfl⟩ := List.getElem_of_mem hc
    have := (h.cells k j hk (by rw [← h.wide _ (List.getElem_mem hk)]; exact hj) (.inl hk)).1
    rwa [cel_at hk hj] at this
  · have e1 : rss.getD i [] = rss[i] := by rw [List.getD_eq_getElem?_getD, List.getElem?_eq_getElem hi]; rfl
    have hi2 : i - 2 < rss.length := by omega
    have e2 : rss.getD (i - 2) [] = rss[i - 2] := by rw [List.getD_eq_getElem?_getD, List.getElem?_eq_getElem hi2]; rfl
    rw [e1, e2]
    have w1 := h.wide _ (List.getElem_mem hi)
    have w2 := h.wide _ (List.getElem_mem hi2)
    apply List.ext_getElem (by rw [List.length_map, List.length_map, w1, w2])
    intro j h3 h4
    rw [List.getElem_map, List.getElem_map]
    have hj1 : j < rss[i].length := by simpa using h3
    have hj2 : j < rss[i - 2].length := by simpa using h4
    have := (h.cells i j hi (by omega) (.inl hi)).2 h2
    rwa [cel_at hi hj1, cel_at hi2 hj2] at this
theorem linkCel_of {x u v : Nat} {a b c : Int} (hx : V x a 4) (hu : V u b 4) (hv : V v c 4) (ha : 0 ≤ a ∧ a ≤ 960) (hb : b.natAbs ≤ 32) (hc : c.natAbs ≤ 32) : LinkCel ⟨x, u, v⟩ := ⟨(a, b, c), ⟨hx, hu, hv⟩, ha.1, ha.2, hb, hc⟩
theorem six_V {b : Nat} {x : Int} {n : Nat} (hb : cn .f32 b = fop .quo .f32 (cn .f32 (floatOfInt .f32 x)) (cn .f32 1098907648)) (hx : x.natAbs ≤ n) (hn : n ≤ 16384) : V b x 4 := by
  show IsV _ _ _ _
  rw [← isV_cn (k := .f32), hb]
  have h1 : IsV FloatKind.f32.format (cn .f32 (floatOfInt .f32 x)) x 0 := isV_cn.2 (isV_int (k := .f32) (Nat.le_trans hx (Nat.le_trans hn (by decide))))
  have h2 := fop_quo (k := .f32) (e := 0) false 23 (-19) h1 (y := cn .f32 1098907648) (by decide +kernel) 4 (by decide) (by decide) (Nat.le_trans hx (Nat.le_trans hn (by decide)))
  simpa [sg] using h2
theorem rowsC_set' (rss : List (List Cel)) (k n : Nat) (r : List Cel) (h : r.length = n) : (rowsC rss).set k (n, ccells r) = rowsC (rss.set k r) := by
  subst h
  show (rss.map _).set k _ = (rss.set k r).map _
  rw [List.map_set]
theorem set_cell {row : List Cel} {k : Nat} (hk : k < row.length) (d : Cel) : ((ccells row).set (k * 2) (.float .f32 d.y)).set (k * 2 + 1) (.complex .f32 d.re d.im) = ccells (row.set k d) := by
  induction row generalizing k with
  | nil => simp at hk
  | cons c r ih =>
    cases k with
    | zero => rfl
    | succ k =>
      have hk' : k < r.length := by simpa using hk
      have e1 : (k + 1) * 2 = k * 2 + 1 + 1 := by omega
      have e2 : ccells (c :: r) = c1 c :: c2 c :: ccells r := rfl
      rw [e1, e2, List.set_cons_succ, List.set_cons_succ, List.set_cons_succ, List.set_cons_succ, ih hk']; rfl
theorem set_col {row : List Cel} {k : Nat} (hk : k < row.length) (p q : Nat) : (ccells row).set (k * 2 + 1) (.complex .f32 p q) = ccells (row.set k ⟨row[k].y, p, q⟩) := by
  have h := set_cell hk ⟨row[k].y, p, q⟩
  obtain ⟨h1, -⟩ := cells2_at c1 c2 row hk
  have e : (ccells row).set (k * 2) (.float .f32 row[k].y) = ccells row := by
    apply List.ext_getElem?
    intro j
    by_cases hj : k * 2 = j
    · subst hj
      rw [List.getElem?_set_self (List.getElem?_eq_some_iff.1 h1).1, h1]
    · rw [List.getElem?_set_ne hj]
  rw [e] at h
  exact h
theorem set1_cell {W : World} {g bb k j : Nat} {v x : Value} (hne : g ≠ bb) (h : W.cell? ⟨g, k, none⟩ = some v) : (W.setCell ⟨bb, j, none⟩ x).cell? ⟨g, k, none⟩ = some v := by
  rw [World.cell?_of_block (w := W) (a := ⟨g, k, none⟩) (Below.heap_setCell _ ⟨bb, j, none⟩ x g hne)]
  exact h
end Go.Fx
namespace Go.Proofs.Ytiddaabodkglmaa
open Go.RowKit Go.Fx
set_option linter.unusedVariables false
set_option linter.unusedSimpArgs false
set_option maxRecDepth 100000 in
set_option maxHeartbeats 2000000 in
theorem pic08_any (bk : Nat) (w : World) (h : Cu w bk) :
    Calls Try.prog 140 #[.pointer (some ⟨bk, 0, none⟩)] w fun e w' => (∃ A n c us rss W, e = .returned (.slice A n c) ∧ OCC w' w.heap.size (.slice A n c) us rss ∧ rss.length = n ∧ Pic W rss ∧ 1 ≤ W ∧ W ≤ 4 ∧ (n = 4 ∨ n = 8)) ∧ CuT bk w w' := by
  have hz := h.size
  go_enter Try.func140, Try.ntmps140
  go_wp2_with fail
  refine (paired_any bk _ h).mono ?_
  rintro e w1 ⟨⟨v, us, rss0, W0, rfl, ho, hp, hw1, hw4, hrl⟩, hc1⟩
  have hul : us.length = rss0.length := by simpa using ho.len
  obtain ⟨A1, c1, rfl, hown⟩ := ho.form
  obtain ⟨g, rfl, hgb, hgw⟩ := own_at hown (by omega)
  rw [hul] at ho hown ⊢
  have HP0 := Lib.hid (PicAt.start hp.wide)
  generalize hnn : rss0.length = n at ho hown hul hrl ⊢
  have HN0 := Lib.hid hnn
  have HU := Lib.hid hul
  have HRL := Lib.hid hrl
  have hn8 : 4 ≤ n ∧ n ≤ 8 := by omega
  have HO0 := Lib.hid ho
  clear hp ho hown hul hnn hrl
  go_wp2_with fail
  go_loopw [4, 5, 6, 7, 8] (fun r z1 z2 z3 z4 wr => ∃ (k : Nat) (rss : List (List Cel)), k ≤ n ∧ r = .int .i64 k ∧ Hid (OCC wr w.heap.size (.slice (some ⟨g, 0, none⟩) n c1) us rss) ∧ Hid (rss.length = n) ∧ Hid (PicAt W0 k 0 rss) ∧ CuT bk w wr) (fun r _ _ _ _ _ => n - (intOf r).toNat)
  case atStart => exact ⟨0, rss0, by omega, rfl, HO0, HN0, HP0, hc1⟩
  case round =>
    rename World => wo
    clear HO0 HP0 HN0 hc1
    obtain ⟨k, rss, hk, rfl, HO, HN, HP, hcr⟩ := hrel
    by_cases hlt : k < n
    · have hltI : (k : Int) < (n : Int) := by omega
      go_wp2_with fail
      go_loopw [5, 6, 7, 8] (fun i z2 z3 z4 wr => ∃ (m : Nat) (rss : List (List Cel)), m ≤ W0 ∧ i = .int .i64 m ∧ Hid (OCC wr w.heap.size (.slice (some ⟨g, 0, none⟩) n c1) us rss) ∧ Hid (rss.length = n) ∧ Hid (PicAt W0 k m rss) ∧ CuT bk w wr) (fun i _ _ _ _ => W0 - (intOf i).toNat)
      case atStart => exact ⟨0, rss, by omega, rfl, HO, HN, HP, hcr⟩
      case round =>
        clear HO HN HP hcr
        obtain ⟨m, rss, hm, rfl, HO, HN, HP, hcr⟩ := hrel
        have hkr : k < rss.length := by rw [HN.out]; exact hlt
        have hwl := HP.out.wide _ (List.getElem_mem hkr)
        obtain ⟨b, of, B, d, e1, -, hu, hcell, -, -, -⟩ := HO.out.rd.1.atC hkr
        rw [hwl] at hu hcell
        injection e1 with e1
        injection e1 with e1 e2
        subst e1 e2
        rw [Nat.zero_add] at hcell
        have hkus : us[k]? = some (.slice B W0 d) := hu
        have hrk : (rowsC rss)[k]? = some (W0, ccells rss[k]) := by simp [hkr, hwl]
        have hro := HO.out.row k _ _ hkus hrk
        obtain ⟨bb, rfl, hbb1, hbb2⟩ := own_at hro (by show 0 < W0; omega)
        by_cases hlm : m < W0
        · have hlmI : (m : Int) < (W0 : Int) := by omega
          go_wp2_with fail
          refine (below_any bk 961 _ hcr.1 (by omega)).mono ?_
          rintro e w3 ⟨⟨x, rfl, hx0, hx1, -⟩, hc3⟩
          have hx2 := hx1 (by omega)
          clear hx1
          go_wp2_with ((with_reducible refine upon_quo ?_; intro xb n1 ex))
          refine (below_any bk 65 _ (hc3.1.ext (Ext.drewN _ _)) (by omega)).mono ?_
          rintro e w4 ⟨⟨u, rfl, hu0, hu1, -⟩, hc4⟩
          have hu2 := hu1 (by omega)
          replace hc4 := (hc3.ext (Ext.drewN _ _)).trans hc4
          clear hu1 hc3
          go_wp2_with ((with_reducible refine upon_quo ?_; intro ub n2 eu))
          refine (below_any bk 65 _ (hc4.1.ext (Ext.drewN _ _)) (by omega)).mono ?_
          rintro e w5 ⟨⟨v, rfl, hv0, hv1, -⟩, hc5⟩
          have hv2 := hv1 (by omega)
          replace hc5 := (hc4.ext (Ext.drewN _ _)).trans hc5
          clear hv1 hc4
          have h5 := HO.out.turn hc5.2 HO.out.inR (.inr (by omega))
          have h5o := h5.own
          rw [List.length_map, HN.out] at h5o
          have h5r := h5.row k _ _ hkus hrk
          have hml : m < rss[k].length := by omega
          obtain ⟨q1, q2⟩ := cells2_at Fx.c1 Fx.c2 rss[k] hml
          have f1 := own_cell h5o hkus
          have f2 := own_cell h5r q1
          have f3 := own_cell h5r q2
          have f4 := own_frozen h5r (m * 2)
          have f5 := own_frozen h5r (m * 2 + 1)
          have hbz : bb < w5.heap.size := Nat.lt_of_lt_of_le hbb2 hc5.2.size
          have eg : rss.getD k [] = rss[k] := by rw [List.getD_eq_getElem?_getD, List.getElem?_eq_getElem hkr]; rfl
          have hgbb : g ≠ bb := fun e => by subst e; exact HO.out.out _ (List.mem_of_getElem? hkus) _ rfl rfl
          have STEP : Hid (∀ (dd : Cel) (n3 : Nat), OCC (((w5.drewN n3).setCell ⟨bb, m * 2, none⟩ (.float .f32 dd.y)).setCell ⟨bb, m * 2 + 1, none⟩ (.complex .f32 dd.re dd.im)) w.heap.size (.slice (some ⟨g, 0, none⟩) n c1) us (rss.set k ((rss.getD k []).set m dd)) ∧ CuT bk w (((w5.drewN n3).setCell ⟨bb, m * 2, none⟩ (.float .f32 dd.y)).setCell ⟨bb, m * 2 + 1, none⟩ (.complex .f32 dd.re dd.im))) := Lib.hid (fun dd n3 => by
            have g1 := h5.ext (Ext.drewN w5 n3)
            have g2 := g1.row k _ _ hkus hrk
            have g3 := own_set (own_set g2 (j := m * 2) (.float .f32 dd.y)) (j := m * 2 + 1) (.complex .f32 dd.re dd.im)
            have g4 : (w5.drewN n3).grownBy (((w5.drewN n3).setCell ⟨bb, m * 2, none⟩ (.float .f32 dd.y)).setCell ⟨bb, m * 2 + 1, none⟩ (.complex .f32 dd.re dd.im)) (some bb) := grown_set (p := ⟨bb, m * 2 + 1, none⟩) (grown_set (p := ⟨bb, m * 2, none⟩) (grown_refl _ (some bb)) (.inl rfl) _) (.inl rfl) _
            have g5 := Rows2.setRow g1 (r' := (W0, ((ccells rss[k]).set (m * 2) (.float .f32 dd.y)).set (m * 2 + 1) (.complex .f32 dd.re dd.im))) hkus g3 g4
            rw [set_cell hml, rowsC_set' _ _ _ _ (by rw [List.length_set, hwl])] at g5
            rw [eg]
            exact ⟨g5, (hcr.trans (hc5.ext (Ext.drewN _ _))).below (Below.setCell (p := ⟨bb, m * 2 + 1, none⟩) (Below.setCell (p := ⟨bb, m * 2, none⟩) (Below.refl _ _) hbb1 _) hbb1 _) hz⟩)
          have HLC : Hid (∀ xb ub vb, cn .f32 xb = fop .quo .f32 (cn .f32 (floatOfInt .f32 x)) (cn .f32 1098907648) → cn .f32 ub = fop .quo .f32 (cn .f32 (floatOfInt .f32 (u - 32))) (cn .f32 1098907648) → cn .f32 vb = fop .quo .f32 (cn .f32 (floatOfInt .f32 (v - 32))) (cn .f32 1098907648) → LinkCel ⟨xb, ub, vb⟩) := Lib.hid (fun xb ub vb h1 h2 h3 => linkCel_of (six_V (n := 960) h1 (by omega) (by omega)) (six_V (n := 32) h2 (by omega) (by omega)) (six_V (n := 32) h3 (by omega) (by omega)) ⟨by omega, by omega⟩ (by omega) (by omega))
          have EX := Lib.hid ex
          have EU := Lib.hid eu
          have H5 := Lib.hid h5
          have HKUS := Lib.hid hkus
          generalize rss[k][m] = old at f2 f3
          clear q1 q2 h5r h5o h5 hcell hro ex eu eg hkus hrk hu
          by_cases hk2 : 2 ≤ k % 4
          · have hkI : (2 : Int) ≤ ((k : Nat) : Int) % 4 := by omega
            go_wp2_with ((with_reducible refine upon_quo ?_; intro vb n3 ev))
            have S1 := STEP.out ⟨xb, ub, vb⟩ n3
            generalize ((w5.drewN n3).setCell ⟨bb, m * 2, none⟩ (.float .f32 xb)).setCell ⟨bb, m * 2 + 1, none⟩ (.complex .f32 ub vb) = wS at S1 ⊢
            obtain ⟨hOS, hCS⟩ := S1
            have hLC := HLC.out xb ub vb EX.out EU.out ev
            have eg : rss.getD k [] = rss[k] := by rw [List.getD_eq_getElem?_getD, List.getElem?_eq_getElem hkr]; rfl
            rw [eg] at hOS
            obtain ⟨j, hj⟩ : ∃ j, k = j + 2 := ⟨k - 2, by omega⟩
            have hjr : j < rss.length := by omega
            have hjr2 : j < (rss.set k (rss[k].set m ⟨xb, ub, vb⟩)).length := by rw [List.length_set]; exact hjr
            have ej : (rss.set k (rss[k].set m ⟨xb, ub, vb⟩))[j] = rss[j] := by rw [List.getElem_set_ne (by omega)]
            have hwj := HP.out.wide _ (List.getElem_mem hjr)
            obtain ⟨b, of, B', d', e1, -, huj, hcj, -, -, -⟩ := hOS.rd.1.atC hjr2
            rw [ej, hwj] at huj hcj
            injection e1 with e1
            injection e1 with e1 e2
            subst e1 e2
            rw [Nat.zero_add] at hcj
            have hrj : (rowsC (rss.set k (rss[k].set m ⟨xb, ub, vb⟩)))[j]? = some (W0, ccells rss[j]) := by
              rw [List.getElem?_map, List.getElem?_eq_getElem hjr2, ej]; simp [hwj]
            have hroj := hOS.row j _ _ huj hrj
            obtain ⟨bb', rfl, hbj1, hbj2⟩ := own_at hroj (by show 0 < W0; omega)
            have hmj : m < rss[j].length := by omega
            obtain ⟨q1, q2⟩ := cells2_at Fx.c1 Fx.c2 rss[j] hmj
            have hbne : bb' ≠ bb := fun e => by
              subst e
              have h1 := List.pairwise_iff_getElem.1 HO.out.sep j k (by rw [HU.out]; omega) (by rw [HU.out]; omega) (by omega)
              obtain ⟨i1, e3⟩ := List.getElem?_eq_some_iff.1 huj
              obtain ⟨i2, e4⟩ := List.getElem?_eq_some_iff.1 HKUS.out
              rw [e3, e4] at h1
              exact h1 bb' rfl rfl
            have hrk2 : (rowsC (rss.set k (rss[k].set m ⟨xb, ub, vb⟩)))[k]? = some (W0, ccells (rss[k].set m ⟨xb, ub, vb⟩)) := by
              rw [List.getElem?_map, List.getElem?_set_self hkr]; simp [hwl]
            have hrok := hOS.row k _ _ HKUS.out hrk2
            have hmk : m < (rss[k].set m ⟨xb, ub, vb⟩).length := by rw [List.length_set]; exact hml
            obtain ⟨q3, q4⟩ := cells2_at Fx.c1 Fx.c2 (rss[k].set m ⟨xb, ub, vb⟩) hmk
            have hoo := hOS.own
            rw [List.length_map, List.length_set, HN.out] at hoo
            have g1 := own_cell hoo HKUS.out
            have g2 := own_cell hoo huj
            have g3 := own_cell hroj q2
            have g4 := own_cell hrok q4
            have g5 := own_frozen hrok (m * 2 + 1)
            have hcelj : cel rss j m = rss[j][m] := cel_at hjr hmj
            have hLJ := (HP.out.cells j m hjr hlm (.inl (by omega))).1
            rw [hcelj] at hLJ
            have ey : (rss[k].set m ⟨xb, ub, vb⟩)[m].y = xb := by simp
            have FIN : Hid (∀ W, Ext wS W → OCC (W.setCell ⟨bb, m * 2 + 1, none⟩ (.complex .f32 rss[j][m].re rss[j][m].im)) w.heap.size (.slice (some ⟨g, 0, none⟩) n c1) us (rss.set k ((rss.getD k []).set m ⟨xb, rss[j][m].re, rss[j][m].im⟩)) ∧ PicAt W0 k (m + 1) (rss.set k ((rss.getD k []).set m ⟨xb, rss[j][m].re, rss[j][m].im⟩)) ∧ CuT bk w (W.setCell ⟨bb, m * 2 + 1, none⟩ (.complex .f32 rss[j][m].re rss[j][m].im))) := Lib.hid (fun W hW => by
              have k1 := hOS.ext hW
              have k2 := k1.row k _ _ HKUS.out hrk2
              have k3 := own_set k2 (j := m * 2 + 1) (.complex .f32 rss[j][m].re rss[j][m].im)
              have k4 : W.grownBy (W.setCell ⟨bb, m * 2 + 1, none⟩ (.complex .f32 rss[j][m].re rss[j][m].im)) (some bb) := grown_set (p := ⟨bb, m * 2 + 1, none⟩) (grown_refl _ (some bb)) (.inl rfl) _
              have k5 := Rows2.setRow k1 (r' := (W0, (ccells (rss[k].set m ⟨xb, ub, vb⟩)).set (m * 2 + 1) (.complex .f32 rss[j][m].re rss[j][m].im))) HKUS.out k3 k4
              rw [set_col hmk, ey, List.set_set, rowsC_set' _ _ _ _ (by rw [List.length_set, hwl]), List.set_set] at k5
              obtain ⟨a1, ⟨v1, v2, v3⟩, v4, v5, v6, v7⟩ := hLC
              obtain ⟨a2, ⟨w1, w2, w3⟩, w4, w5, w6, w7⟩ := hLJ
              refine ⟨by rw [eg]; exact k5, HP.out.set hkr hlm ⟨(a1.1, a2.2.1, a2.2.2), ⟨v1, w2, w3⟩, v4, v5, w6, w7⟩ (fun _ => ?_), (hCS.ext hW).below (Below.setCell (p := ⟨bb, m * 2 + 1, none⟩) (Below.refl _ _) hbb1 _) hz⟩
              rw [show k - 2 = j by omega, hcelj]; rfl)
            have hlj : (j : Int) < (n : Int) := by omega
            have hj0 : (0 : Int) ≤ (j : Int) := by omega
            have hjI : IntKind.i64.wrap ((k : Int) - 2) = (j : Int) := by rw [IntKind.wrap_i64]; omega
            have hjJ : (k : Int) - 2 = (j : Int) := by omega
            have hjW : IntKind.i64.wrap (j : Int) = (j : Int) := by rw [IntKind.wrap_i64]; omega
            clear hjI
            generalize rss[j][m] = old2 at g3 FIN
            clear huj hcj hrj hroj q1 q2 q3 q4 hrk2 hrok hoo ej hOS hCS hLC hcelj hLJ ey eg hj
            go_region_held3 (fun W => W.cell? ⟨g, k, none⟩ = some (.slice (some ⟨bb, 0, none⟩) W0 d) ∧ W.cell? ⟨g, j, none⟩ = some (.slice (some ⟨bb', 0, none⟩) W0 d') ∧ W.cell? ⟨bb', m * 2 + 1, none⟩ = some (.complex .f32 old2.re old2.im))
              (first | exact ⟨set1_cell hgbb g1, set1_cell hgbb g2, set1_cell hbne g3⟩ | exact ⟨g1, g2, g3⟩)
              (fail)
            go_wp2_with fail
            go_roundw
            case rel =>
              have hF := FIN.out wS.drew (Below.drew (Below.refl _ _))
              exact ⟨m + 1, _, by omega, by go_num, Lib.hid hF.1, Lib.hid (by rw [List.length_set]; exact HN.out), Lib.hid hF.2.1, hF.2.2⟩
            case measure => simp [intOf]; omega
          · have hkI : ¬ (2 : Int) ≤ ((k : Nat) : Int) % 4 := by omega
            go_wp2_with ((with_reducible refine upon_quo ?_; intro vb n3 ev))
            go_roundw
            case rel =>
              have hLC := HLC.out xb ub vb EX.out EU.out ev
              obtain ⟨hOS, hCS⟩ := STEP.out ⟨xb, ub, vb⟩ n3
              exact ⟨m + 1, _, by omega, by go_num, Lib.hid hOS, Lib.hid (by rw [List.length_set]; exact HN.out), Lib.hid (HP.out.set hkr hlm hLC (fun h => absurd h hk2)), hCS⟩
            case measure => simp [intOf]; omega
        · go_wp2_with fail
          go_roundw
          case rel =>
            obtain rfl : m = W0 := by omega
            exact ⟨k + 1, rss, by omega, by go_num, HO, HN, Lib.hid HP.out.next, hcr⟩
          case measure => simp [intOf]; omega
    · obtain rfl : k = n := by omega
      go_wp2_with fail
      go_ret
      have hpic : Pic W0 rss := PicAt.pic (by rw [HN.out]; exact HP.out)
      exact ⟨⟨_, _, _, us, rss, W0, rfl, HO.out, HN.out, hpic, hw1, hw4, HRL.out⟩, hcr⟩
set_option maxRecDepth 100000 in
set_option maxHeartbeats 2000000 in
theorem drawLink_any (A0 : Option Addr) (c0 : Nat) (bs : List Int) (w : World) (h : Rd w A0 (bs.map by8)) (hn : bs.length ≤ 1048576) (hb : ∀ x ∈ bs, 0 ≤ x ∧ x ≤ 255) :
    Calls Try.prog 40 #[.slice A0 bs.length c0] w fun e w' => (∃ (A : Option Addr) (m c : Nat) (us : List Value) (rss : List (List Cel)) (W : Nat) (ch : Chn) (j : Nat) (O X Y : Int), e = .returned (.tuple #[.slice A m c, .agg #[.float .f32 ch.a, .float .f32 ch.off, .complex .f32 ch.re ch.im]]) ∧ OCC w' w.heap.size (.slice A m c) us rss ∧ rss.length = m ∧ Pic W rss ∧ 1 ≤ W ∧ W ≤ 4 ∧ (m = 4 ∨ m = 8) ∧ LinkCh ch j O X Y) ∧ Ext w w' := by
  have ha : Ext w (w.alloc (.cells #[.float .f32 0, .float .f32 0, .complex .f32 0 0] 32)) := (Ext.refl _).alloc _
  have hk := heap_alloc_new w (.cells #[.float .f32 0, .float .f32 0, .complex .f32 0 0] 32)
  go_enter Try.func40, Try.ntmps40
  go_wp2_with fail
  refine (new_any A0 c0 bs _ (h.ext ha) hn hb).mono ?_
  rintro e w1 ⟨⟨bk, rfl, hbk, hbz, hcu⟩, hb1⟩
  have kb := blk_ext hk hb1
  replace hb1 := ha.trans hb1
  have hbk2 : w.heap.size < bk := by simp at hbk; omega
  go_wp2_with fail
  refine (pic08_any bk _ hcu).mono ?_
  rintro e w2 ⟨⟨A, m, c, us, rss, W, rfl, ho, hl, hp, hw1, hw4, hm⟩, hc2⟩
  have hz1 : bk < w1.heap.size := hbz
  go_wp2_with fail
  refine (chan08_any bk _ hc2.1).mono ?_
  rintro e w3 ⟨⟨ch, j, O, X, Y, rfl, hch⟩, hc3⟩
  have hO3 := ho.turn hc3.2 ho.inR (.inr (by omega))
  have hcc := hc2.trans hc3
  have kc : w3.heap[w.heap.size]? = some (.cells #[.float .f32 0, .float .f32 0, .complex .f32 0 0] 32 (0, 0)) := by
    have hlt : w.heap.size < w1.heap.size := (Array.getElem?_eq_some_iff.1 kb).1
    rw [hcc.2.block _ hlt (.inl hbk2)]; exact kb
  have hx := Lib.hid (ext_turn hb1 hcc.2 (by omega))
  have hws : w.heap.size < w3.heap.size := (Array.getElem?_eq_some_iff.1 kc).1
  have hw1s : w.heap.size < w1.heap.size := by omega
  have HO := Lib.hid (hO3.turn (turn_set (p := ⟨w.heap.size, 2, none⟩) (turn_set (p := ⟨w.heap.size, 1, none⟩) (turn_set (p := ⟨w.heap.size, 0, none⟩) (Turn.refl w.heap.size (w.heap.size + 1) w3) (Nat.le_refl _) (Nat.lt_succ_self _) (.float .f32 ch.a)) (Nat.le_refl _) (Nat.lt_succ_self _) (.float .f32 ch.off)) (Nat.le_refl _) (Nat.lt_succ_self _) (.complex .f32 ch.re ch.im)) hO3.inR (.inr hw1s))
  have HP := Lib.hid hp
  have HL := Lib.hid hl
  have HM := Lib.hid hm
  have HCH := Lib.hid hch
  obtain ⟨kkc0, kkc1, kkc2, kkf⟩ := blk3 kc
  clear kb kc hk hcc hc2 hc3 ho hO3 hp hl hm hch ha hb1
  go_wp2_with fail
  exact bodyPost_ret (v := .tuple #[.slice A m c, .agg #[.float .f32 ch.a, .float .f32 ch.off, .complex .f32 ch.re ch.im]]) (by simp [results, Try.results40, go_sem, *]) rfl ⟨⟨A, m, c, us, rss, W, ch, j, O, X, Y, rfl, HO.out.weak (by omega), HL.out, HP.out, hw1, hw4, HM.out, HCH.out⟩, Below.setCell (p := ⟨w.heap.size, 2, none⟩) (Below.setCell (p := ⟨w.heap.size, 1, none⟩) (Below.setCell (p := ⟨w.heap.size, 0, none⟩) hx.out (Nat.le_refl _) _) (Nat.le_refl _) _) (Nat.le_refl _) _⟩
end Go.Proofs.Ytiddaabodkglmaa

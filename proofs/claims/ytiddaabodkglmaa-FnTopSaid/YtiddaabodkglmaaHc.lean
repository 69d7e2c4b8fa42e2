import Derived.Test.YtiddaabodkglmaaBb
import Derived.Test.YtiddaabodkglmaaK5
import Derived.Test.YtiddaabodkglmaaFe
namespace Go.Fx
open Ieee Go.Proofs.Ytiddaabodkglmaa
set_option linter.unusedVariables false
set_option linter.unusedSimpArgs false
/-! rows that are scaled by 0 and by 1 -/
theorem cell_vals {c : Cel} (h : cellOk c = true) : ∃ y r i, Val .f32 c.y y ∧ Val .f32 c.re r ∧ Val .f32 c.im i := by
  obtain ⟨⟨y, hy, -⟩, ⟨r, hr, -⟩, ⟨i, hi, -⟩⟩ := cell_ble h
  exact ⟨y, r, i, hy, hr, hi⟩
theorem mul_nil {b : Nat} {B : Int} (hb : Val .f32 b B) : fk .f32 (mul32 (cn .f32 b) (cn .f32 0)) = some 0 := by
  show fk .f32 (fop .mul .f32 _ _) = _
  rw [fop_cn_l, fop_cn_r]; exact fk_mul_zero hb val_zero
theorem mul_same {b : Nat} {B : Int} (hb : Val .f32 b B) : fk .f32 (mul32 (cn .f32 b) (cn .f32 1065353216)) = some B := by
  show fk .f32 (fop .mul .f32 _ _) = _
  rw [fop_cn_l, fop_cn_r]; exact fk_mul_one hb read_one
theorem scaleOk_of {k : Nat} (hk : ∀ c, cellOk c = true → cellOk (scale1 k c.cn) = true) (row : List Cel) : scaleOk k (cnC row) = rowOk row := by
  unfold scaleOk
  rw [rowOk_cnC]
  cases h : rowOk row
  · rfl
  · have hr := h
    simp only [rowOk, Bool.and_eq_true, decide_eq_true_eq] at hr
    rw [Bool.true_and]
    unfold rowOk
    rw [List.length_map, List.length_map, decide_eq_true hr.1.1, decide_eq_true hr.1.2]
    simp only [Bool.true_and, Bool.and_true, List.all_map]
    rw [List.all_eq_true]
    intro c hc
    exact hk c (row_cell h c hc)
theorem within_zero : within32 0 1132462080 = true := by decide +kernel
theorem cell_zero {c : Cel} (h : cellOk c = true) : cellOk (scale1 (cn .f32 0) c.cn) = true := by
  obtain ⟨y, r, i, hy, hr, hi⟩ := cell_vals h
  unfold cellOk at h
  simp only [Bool.and_eq_true] at h
  unfold cellOk scale1
  simp only [Cel.cn_y, Cel.cn_re, Cel.cn_im, within32_cn]
  rw [h.1.1, within_fk (x := mul32 (cn .f32 c.re) (cn .f32 0)) (y := 0) (by rw [mul_nil hr, fk_zero]), within_fk (x := mul32 (cn .f32 c.im) (cn .f32 0)) (y := 0) (by rw [mul_nil hi, fk_zero]), within_zero]; rfl
theorem cell_one {c : Cel} (h : cellOk c = true) : cellOk (scale1 (cn .f32 1065353216) c.cn) = true := by
  obtain ⟨y, r, i, hy, hr, hi⟩ := cell_vals h
  unfold cellOk at h
  simp only [Bool.and_eq_true] at h
  unfold cellOk scale1
  simp only [Cel.cn_y, Cel.cn_re, Cel.cn_im, within32_cn]
  rw [h.1.1, within_fk (x := mul32 (cn .f32 c.re) (cn .f32 1065353216)) (y := c.re) (by rw [mul_same hr, hr.fk]), within_fk (x := mul32 (cn .f32 c.im) (cn .f32 1065353216)) (y := c.im) (by rw [mul_same hi, hi.fk]), h.1.2, h.2]; rfl
theorem satOk_of {k : Nat} (hk : ∀ c, cellOk c = true → cellOk (scale1 k c.cn) = true) (rss : List (List Cel)) : satOk k (rss.map cnC) = rss.all rowOk := by
  unfold satOk
  rw [List.all_map]
  congr 1
  funext row
  exact scaleOk_of hk row
theorem eqAll_of {k : Nat} {g : Cel → Cel} (hg : ∀ c d, cellOk c = true → d.cn = scale1 k c.cn → eqCel d (g c) = true) {out rss : List (List Cel)} (h : out.map cnC = (rss.map cnC).map (fun r => r.map (scale1 k))) (hok : rss.all rowOk = true) : EqAll out (rss.map (fun r => r.map g)) := by
  have hl : out.length = rss.length := by simpa using congrArg List.length h
  refine ⟨by simp [hl], fun i h1 h2 => ?_⟩
  have hi : i < rss.length := by omega
  have hrow : rowOk rss[i] = true := List.all_eq_true.1 hok _ (List.getElem_mem hi)
  have e := congrArg (fun l => l[i]?) h
  simp only [List.getElem?_map, List.getElem?_eq_getElem h1, List.getElem?_eq_getElem hi, Option.map_some, Option.some.injEq] at e
  have hl2 : out[i].length = rss[i].length := by simpa using congrArg List.length e
  refine ⟨by rw [List.getElem_map, List.length_map]; exact hl2, fun j k1 k2 => ?_⟩
  have hj : j < rss[i].length := by omega
  have e2 := congrArg (fun l => l[j]?) e
  simp only [cnC, List.getElem?_map, List.getElem?_eq_getElem k1, List.getElem?_eq_getElem hj, Option.map_some, Option.some.injEq] at e2
  have := hg rss[i][j] out[i][j] (row_cell hrow _ (List.getElem_mem hj)) e2
  simpa using this
theorem feq_of_fk {x y : Nat} {a : Int} (h : fk .f32 (cn .f32 x) = some a) (k : fk .f32 y = some a) : feq .f32 x y = true := by
  rw [← feq_cn_l, feq_fk h k]; exact decide_eq_true rfl
/-- without saturation rows are grey -/
theorem sat_zero {out rss : List (List Cel)} (h : out.map cnC = sat (cn .f32 0) (rss.map cnC)) (hok : rss.all rowOk = true) : EqAll out (rss.map (fun r => r.map grey1)) := by
  unfold sat at h
  rw [satOk_of (fun c => cell_zero), hok, if_pos rfl] at h
  refine eqAll_of (fun c d hc hd => ?_) h hok
  obtain ⟨y, r, i, hy, hr, hi⟩ := cell_vals hc
  have e1 : cn .f32 d.y = cn .f32 c.y := congrArg Cel.y hd
  have e2 : cn .f32 d.re = mul32 (cn .f32 c.re) (cn .f32 0) := congrArg Cel.re hd
  have e3 : cn .f32 d.im = mul32 (cn .f32 c.im) (cn .f32 0) := congrArg Cel.im hd
  unfold eqCel grey1
  simp only []
  rw [feq_of_fk (by rw [e1, fk_cn]; exact hy.fk) hy.fk, feq_of_fk (by rw [e2]; exact mul_nil hr) fk_zero, feq_of_fk (by rw [e3]; exact mul_nil hi) fk_zero]; rfl
/-- with saturation 1 they stay as they are -/
theorem sat_one {out rss : List (List Cel)} (h : out.map cnC = sat (cn .f32 1065353216) (rss.map cnC)) (hok : rss.all rowOk = true) : EqAll out rss := by
  unfold sat at h
  rw [satOk_of (fun c => cell_one), hok, if_pos rfl] at h
  have := eqAll_of (g := fun c => c) (fun c d hc hd => ?_) h hok
  · simpa using this
  obtain ⟨y, r, i, hy, hr, hi⟩ := cell_vals hc
  have e1 : cn .f32 d.y = cn .f32 c.y := congrArg Cel.y hd
  have e2 : cn .f32 d.re = mul32 (cn .f32 c.re) (cn .f32 1065353216) := congrArg Cel.re hd
  have e3 : cn .f32 d.im = mul32 (cn .f32 c.im) (cn .f32 1065353216) := congrArg Cel.im hd
  unfold eqCel
  rw [feq_of_fk (by rw [e1, fk_cn]; exact hy.fk) hy.fk, feq_of_fk (by rw [e2]; exact mul_same hr) hr.fk, feq_of_fk (by rw [e3]; exact mul_same hi) hi.fk]; rfl
theorem size_one (R : List (List Cel)) : sizeOk (cn .f32 1065353216) R = satOk (cn .f32 1065353216) R ∧ size (cn .f32 1065353216) R = sat (cn .f32 1065353216) R := by
  have e1 : feq .f32 (cn .f32 1065353216) 0 = false := by decide +kernel
  have e2 : quo32 1065353216 (cn .f32 1065353216) = cn .f32 1065353216 := by decide +kernel
  unfold sizeOk size
  rw [e1, e2]
  exact ⟨rfl, rfl⟩
end Go.Fx

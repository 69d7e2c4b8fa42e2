import Derived.Test.YtiddaabodkglmaaK1
import Derived.Test.YtiddaabodkglmaaK4
namespace Go.Proofs.Ytiddaabodkglmaa
open Go.RowKit Go.Fx Ieee
set_option exponentiation.threshold 400
set_option linter.unusedVariables false
set_option linter.unusedSimpArgs false
/-! an echo of nothing; an echo of no delay -/
theorem fine_val {rs : List Nat} (h : fine rs = true) (i : Nat) : Ble .f32 160 (cn .f32 (rs.getD i 0)) := by
  rw [ble_cn, List.getD_eq_getElem?_getD]
  cases e : rs[i]?
  · exact ⟨0, val_zero, by simp⟩
  · unfold fine at h
    exact ble_within fk_c1024 (List.all_eq_true.1 h _ (List.mem_of_getElem? e)) (by decide +kernel) (by decide +kernel) (by omega)
theorem samplesOk_fine {rs : List Nat} (h : samplesOk rs = true) : fine rs = true := by
  unfold samplesOk at h
  exact (Bool.and_eq_true _ _ ▸ h).2
theorem delay_val {rs : List Nat} (h : fine rs = true) (cells : Int) (i : Nat) : Ble .f32 160 (cn .f32 ((delay rs cells).getD i 0)) := by
  have hz : Ble .f32 160 (cn .f32 0) := by rw [ble_cn]; exact ⟨0, val_zero, by simp⟩
  rw [List.getD_eq_getElem?_getD]
  cases e : (delay rs cells)[i]?
  · exact hz
  · rename_i x
    show Ble .f32 160 (cn .f32 x)
    have hm := List.mem_of_getElem? e
    unfold delay at hm
    split at hm
    · unfold delayL at hm
      obtain ⟨j, -, rfl⟩ := List.mem_map.1 hm
      split
      · exact fine_val h _
      · exact hz
    · cases hm
theorem within_fk {x y c : Nat} (h : fk .f32 x = fk .f32 y) : within32 x c = within32 y c := by
  unfold within32 fge fle
  rw [order_fk, order_fk, order_fk, order_fk, h]
theorem echo_nothing {rs : List Nat} {cells : Int} (h : samplesOk rs = true) (hd : delayOk cells = true) :
    echoOk rs cells 0 = true ∧ ∀ (i : Nat) (hi : i < rs.length), fk .f32 ((echoAll rs cells 0).getD i 0) = fk .f32 (cn .f32 rs[i]) := by
  have hf := samplesOk_fine h
  have each : ∀ (i : Nat), fk .f32 (add32 (cn .f32 (rs.getD i 0)) (mul32 (cn .f32 0) (cn .f32 ((delay rs cells).getD i 0)))) = fk .f32 (cn .f32 (rs.getD i 0)) := by
    intro i
    obtain ⟨a, ha, -⟩ := fine_val hf i
    obtain ⟨d, hd, -⟩ := delay_val hf cells i
    have hz : Val .f32 (mul32 (cn .f32 0) (cn .f32 ((delay rs cells).getD i 0))) 0 := by
      refine val_of_lt ?_ (by decide)
      show fk .f32 (fop .mul .f32 _ _) = _
      rw [fop_mulc]
      exact fk_mul_zero hd (val_cn.2 val_zero)
    rw [ha.fk]
    exact fk_add_zero ha hz
  constructor
  · have hs : samplesOk (echoAll rs cells 0) = true := by
      unfold samplesOk at h ⊢
      rw [echoAll_len]
      rw [Bool.and_eq_true] at h ⊢
      refine ⟨h.1, ?_⟩
      unfold fine
      rw [List.all_eq_true]
      intro x hx
      unfold echoAll at hx
      obtain ⟨i, hi, rfl⟩ := List.mem_map.1 hx
      have hi' : i < rs.length := by simpa using hi
      rw [within_fk (each i), within32_cn]
      have e1 : rs.getD i 0 = rs[i] := by rw [List.getD_eq_getElem?_getD, List.getElem?_eq_getElem hi']; rfl
      rw [e1]
      exact List.all_eq_true.1 h.2 _ (List.getElem_mem hi')
    unfold echoOk
    rw [h, hd, hs]; rfl
  · intro i hi
    have hl : i < (echoAll rs cells 0).length := by rw [echoAll_len]; exact hi
    rw [List.getD_eq_getElem?_getD, List.getElem?_eq_getElem hl, Option.getD_some]
    have e0 : (echoAll rs cells 0)[i] = add32 (cn .f32 (rs.getD i 0)) (mul32 (cn .f32 0) (cn .f32 ((delay rs cells).getD i 0))) := by simp [echoAll]
    rw [e0, each i]
    have e1 : rs.getD i 0 = rs[i] := by rw [List.getD_eq_getElem?_getD, List.getElem?_eq_getElem hi]; rfl
    rw [e1]
theorem read_one : FloatKind.f32.format.read 1065353216 = .number false (2 ^ 23) (-((23 : Nat) : Int)) := by decide +kernel
theorem echo_double {rs : List Nat} (h : samplesOk rs = true) : ∀ (i : Nat) (hi : i < rs.length), isN .f32 (add32 (cn .f32 rs[i]) (cn .f32 rs[i])) = false ∧ fk .f32 ((echoAll rs 0 1065353216).getD i 0) = fk .f32 (add32 (cn .f32 rs[i]) (cn .f32 rs[i])) := by
  have hf := samplesOk_fine h
  intro i hi
  have e1 : rs.getD i 0 = rs[i] := by rw [List.getD_eq_getElem?_getD, List.getElem?_eq_getElem hi]; rfl
  have hb := fine_val hf i
  rw [e1] at hb
  have h2 := ble_add hb hb (by decide) (by decide)
  obtain ⟨a, ha, -⟩ := hb
  refine ⟨h2.not, ?_⟩
  have hl : i < (echoAll rs 0 1065353216).length := by rw [echoAll_len]; exact hi
  rw [List.getD_eq_getElem?_getD, List.getElem?_eq_getElem hl, Option.getD_some]
  have hd0 : (delay rs 0).getD i 0 = rs[i] := by
    have e2 : delay rs 0 = delayL rs 0 := by unfold delay; rw [if_pos (by decide)]; rfl
    rw [e2, List.getD_eq_getElem?_getD, List.getElem?_eq_getElem (by rw [delayL_len]; exact hi), Option.getD_some, delayL_at hi, if_pos (Nat.zero_le _), Nat.sub_zero, e1]
  have e0 : (echoAll rs 0 1065353216)[i] = add32 (cn .f32 rs[i]) (mul32 (cn .f32 1065353216) (cn .f32 rs[i])) := by
    have : (echoAll rs 0 1065353216)[i] = add32 (cn .f32 (rs.getD i 0)) (mul32 (cn .f32 1065353216) (cn .f32 ((delay rs 0).getD i 0))) := by simp [echoAll]
    rw [this, e1, hd0]
  have hm : Val .f32 (mul32 (cn .f32 1065353216) (cn .f32 rs[i])) a := by
    refine val_fk ha ?_
    show fk .f32 (fop .mul .f32 _ _) = _
    rw [fop_mulc, fop_cn_r]
    exact fk_mul_one ha read_one
  rw [e0]
  show fk .f32 (fop .add .f32 _ _) = fk .f32 (fop .add .f32 _ _)
  rw [fk_add_val ha hm, fk_add_val ha ha]
end Go.Proofs.Ytiddaabodkglmaa

import Derived.Test.YtfmghfghhipmhaaDoorTj
import Derived.Test.YtfmghfghhipmhaaDoorK1
namespace Go.Fx
open Go.Lib Go.RowKit
set_option linter.unusedVariables false
set_option linter.unusedSimpArgs false
theorem blk_put {w : World} {b : Nat} {cs : Array Value} {E : TypeId} (h : w.heap[b]? = some (.cells cs E (0, 0))) (j : Nat) (v : Value) : (w.setCell ⟨b, j, none⟩ v).heap[b]? = some (.cells (cs.setIfInBounds j v) E (0, 0)) := by
  simp [World.setCell, Array.getElem?_modify, h]
theorem turn_put {lo hi : Nat} {w w' : World} (h : Turn lo hi w w') {p : Addr} (h1 : lo ≤ p.block) (h2 : p.block < hi) (v : Value) : Turn lo hi w (w'.setCell p v) :=
  ⟨h.os, h.tape, h.output, by simpa [World.setCell] using h.size, fun k hk ho => by
    rw [Below.heap_setCell w' p v k (fun e => by subst e; omega)]
    exact h.block k hk ho⟩
theorem blk_past_turn {w w' : World} {b c d : Nat} {o : Obj} (h : w.heap[b]? = some o) (ht : Turn c d w w') (hb : b < c ∨ d ≤ b) : w'.heap[b]? = some o := by
  rw [ht.block b (Array.getElem?_eq_some_iff.1 h).1 hb]; exact h
theorem turn_cell {b : Nat} {w w' : World} (h : Turn b (b + 1) w w') (j : Nat) (v : Value) : Turn b (b + 1) w (w'.setCell ⟨b, j, none⟩ v) := turn_put h (Nat.le_refl _) (Nat.lt_succ_self _) v
theorem lit_ne {a m : Txt} (h : a ≠ m) : ((ba a).toList == m) = false := by
  rw [Lib.toList_data, ba_data]; exact beq_eq_false_iff_ne.2 h
/-- the block of a set -/
abbrev SetBlk (E : TypeId) (w : World) (b : Nat) (s : TS) (v : Value) : Prop := w.heap[b]? = some (.cells #[.int .i64 s.cells, .int .i64 s.rows, .float .f32 s.slice, .float .f32 s.least, .float .f32 s.sat, v] E (0, 0))
theorem did_len {s : TS} {fs : List Txt} (h2 : fs.length ≠ 2) (h3 : fs.length ≠ 3) : did s fs = none := by
  unfold did
  split
  · simp at h3
  · simp at h2
  · rfl
theorem did_size {s : TS} {a b c : Txt} (h : a ≠ tSize) : did s [a, b, c] = none := by
  unfold did
  simp only
  rw [if_neg (fun e => h e.1)]
end Go.Fx
namespace Go.Proofs.YtfmghfghhipmhaaDoor
open Go.RowKit Go.Fx Go.Sort
set_option linter.unusedVariables false
set_option linter.unusedSimpArgs false
set_option maxRecDepth 100000 in
set_option maxHeartbeats 4000000 in
theorem iTuned_any (s : TS) (v6 : Value) (b : Nat) (F : Option Addr) (D : Nat) (fs : List Txt) (w : World) (E : Env w) (hF : Rd w F ((fs.map ba).map st)) (hn : fs.length ≤ 24) (hsz : ∀ f ∈ fs, f.length ≤ 1048576) (hb : SetBlk 28 w b s v6) :
    Calls Tryd.prog 59 #[.pointer (some ⟨b, 0, none⟩), .slice F fs.length D] w fun e w' => e = .returned (.bool (did s fs).isSome) ∧ Turn b (b + 1) w w' ∧ ∃ t : TS, SetBlk 28 w' b t v6 ∧ ∀ u, did s fs = some u → t = { u with log := t.log } := by
  have HE := Lib.hid E
  have HB := Lib.hid hb
  clear E
  by_cases h3 : fs.length = 3
  · obtain ⟨x, y, z, rfl⟩ : ∃ x y z, fs = [x, y, z] := by
      match fs, h3 with
      | [x, y, z], _ => exact ⟨x, y, z, rfl⟩
    rcases hF with hF | ⟨g, off, rfl, hgw, hc⟩
    · cases hF
    have c0 := hc 0 _ rfl
    have c1 := hc 1 _ rfl
    have c2 := hc 2 _ rfl
    rw [Nat.add_zero] at c0
    clear hc h3
    have hx := hsz x (by simp)
    have hy := hsz y (by simp)
    have hz := hsz z (by simp)
    clear hsz hn
    by_cases he : x = tSize
    · have HEX : Hid (did s [x, y, z] = if uintOk y = true ∧ uintOk z = true then some { s with cells := uint y, rows := uint z } else none) := Lib.hid (by subst he; unfold did; simp)
      subst he
      obtain ⟨Y, hY⟩ : ∃ Y, ba y = Y := ⟨_, rfl⟩
      obtain ⟨Z, hZ⟩ : ∃ Z, ba z = Z := ⟨_, rfl⟩
      simp only [hY, hZ] at c1 c2
      have HU : Hid (∀ W, Env W → Calls Tryd.prog 84 #[.string Y] W fun e w' => e = .returned (.tuple #[.int .i64 (uint y), .bool (uintOk y)]) ∧ Ext W w') := Lib.hid (fun W hW => by have h := iParseUint_any (ba y) W hW (by rw [ba_size]; unfold maxLen; omega); rw [ba_data] at h; rw [← hY]; exact h)
      have HV : Hid (∀ W, Env W → Calls Tryd.prog 84 #[.string Z] W fun e w' => e = .returned (.tuple #[.int .i64 (uint z), .bool (uintOk z)]) ∧ Ext W w') := Lib.hid (fun W hW => by have h := iParseUint_any (ba z) W hW (by rw [ba_size]; unfold maxLen; omega); rw [ba_data] at h; rw [← hZ]; exact h)
      clear hY hZ hx hy hz hb
      cases huy : uintOk y
      all_goals
        have HUY := Lib.hid huy
        rw [huy] at HU
        clear huy
        go_enter Tryd.func59, Tryd.ntmps59
        go_wp2_with fail
        refine (HU.out _ HE.out).mono ?_
        rintro e w1 ⟨rfl, hb1⟩
        have c2' : w1.cell? ⟨g, off + 2, none⟩ = some (st Z) := by rw [Below.cell hb1 (p := ⟨g, off + 2, none⟩) hgw]; exact c2
        have HE1 := Lib.hid (HE.out.ext hb1)
        clear c0 c1 c2
        go_wp2_with fail
        refine (HV.out _ HE1.out).mono ?_
        rintro e w2 ⟨rfl, hb2⟩
        clear c2'
        have HB2 := Lib.hid (Ext.trans hb1 hb2)
        clear hb1 hb2
        have k1 := blk_ext HB.out HB2.out
        obtain ⟨ac0, ac1, ac2, ac3, ac4, ac5, af⟩ := blk6 k1
        have HK1 := Lib.hid k1
        clear k1
        go_wp2_with fail
        go_ret
        refine ⟨?_, turn_cell (turn_cell (turn_ext _ _ HB2.out) _ _) _ _, { s with cells := uint y, rows := uint z }, blk_put (blk_put HK1.out 0 _) 1 _, ?_⟩
        · rw [HEX.out, HUY.out]; cases uintOk z <;> rfl
        · intro u hu
          rw [HEX.out] at hu
          split at hu
          · injection hu with hu; subst hu; rfl
          · cases hu
    · have HEX : Hid (did s [x, y, z] = none) := Lib.hid (did_size he)
      have hne : ((ba x).toList == [115, 105, 122, 101]) = false := lit_ne he
      generalize ba x = X at *
      clear he hx hy hz hb
      go_enter Tryd.func59, Tryd.ntmps59
      go_wp2_with fail
      go_ret
      refine ⟨by rw [HEX.out]; rfl, Turn.refl _ _ _, s, HB.out, fun u hu => by rw [HEX.out] at hu; cases hu⟩
  · by_cases h2 : fs.length = 2
    · obtain ⟨x, y, rfl⟩ : ∃ x y, fs = [x, y] := by
        match fs, h2 with
        | [x, y], _ => exact ⟨x, y, rfl⟩
      rcases hF with hF | ⟨g, off, rfl, hgw, hc⟩
      · cases hF
      have c0 := hc 0 _ rfl
      have c1 := hc 1 _ rfl
      rw [Nat.add_zero] at c0
      clear hc h3 h2
      have hx := hsz x (by simp)
      have hy := hsz y (by simp)
      clear hsz hn
      obtain ⟨Y, hY⟩ : ∃ Y, ba y = Y := ⟨_, rfl⟩
      simp only [hY] at c1
      have HU : Hid (∀ W, Env W → Calls Tryd.prog 85 #[.string Y] W fun e w' => e = .returned (.tuple #[.int .i64 (pfix y), .bool (pfixOk y)]) ∧ Ext W w') := Lib.hid (fun W hW => by have h := iParseFixed_any (ba y) W hW (by rw [ba_size]; omega); rw [ba_data] at h; rw [← hY]; exact h)
      have HP : Hid (fixOk (pfix y) = true) := Lib.hid (fixOk_iff.2 (pfix_bound y))
      obtain ⟨p, hp⟩ : ∃ p, pfix y = p := ⟨_, rfl⟩
      rw [hp] at HU HP
      have HPY := Lib.hid hp
      clear hp hY hx hy hb
      by_cases he0 : x = tSlice
      · have HEX : Hid (did s [x, y] = if pfixOk y = true then some { s with slice := thou (pfix y) } else none) := Lib.hid (by
          subst he0; unfold did; simp only
          rw [if_pos trivial])
        subst he0
        go_enter Tryd.func59, Tryd.ntmps59
        go_wp2_with fail
        refine (HU.out _ HE.out).mono ?_
        rintro e w1 ⟨rfl, hb1⟩
        have c0' : w1.cell? ⟨g, off, none⟩ = some (st (ba tSlice)) := by rw [Below.cell hb1 (p := ⟨g, off, none⟩) hgw]; exact c0
        clear c0 c1
        obtain ⟨q, hq, hF⟩ := iFromFixed_any p HP.out w1
        have HQ := Lib.hid hq
        have HF := Lib.hid hF
        clear hq hF
        have HB2 := Lib.hid hb1
        clear hb1
        have k1 := blk_ext HB.out HB2.out
        obtain ⟨ac0, ac1, ac2, ac3, ac4, ac5, af⟩ := blk6 k1
        have HK1 := Lib.hid k1
        clear k1
        go_wp2_with fail
        refine HF.out.mono ?_
        rintro e w2 ⟨rfl, rfl⟩
        go_wp2_with (rw [run_convert_float_float w1 63 22 .f64 .f32 q _ (by kernel_rfl) (by kernel_rfl) HQ.out])
        go_ret
        refine ⟨?_, turn_cell (turn_ext _ _ HB2.out) _ _, { s with slice := thou p }, blk_put HK1.out 2 _, ?_⟩
        · rw [HEX.out]; cases pfixOk y <;> rfl
        · intro u hu
          rw [HEX.out, HPY.out] at hu
          split at hu
          · injection hu with hu; subst hu; rfl
          · cases hu
      by_cases he1 : x = tKiller
      · have HEX : Hid (did s [x, y] = if pfixOk y = true then some { s with least := thou (pfix y) } else none) := Lib.hid (by
          subst he1; unfold did; simp only
          rw [if_neg (show ¬ (tKiller = tSlice) by decide)]
          rw [if_pos trivial])
        subst he1
        clear he0
        go_enter Tryd.func59, Tryd.ntmps59
        go_wp2_with fail
        refine (HU.out _ HE.out).mono ?_
        rintro e w1 ⟨rfl, hb1⟩
        have c0' : w1.cell? ⟨g, off, none⟩ = some (st (ba tKiller)) := by rw [Below.cell hb1 (p := ⟨g, off, none⟩) hgw]; exact c0
        clear c0 c1
        obtain ⟨q, hq, hF⟩ := iFromFixed_any p HP.out w1
        have HQ := Lib.hid hq
        have HF := Lib.hid hF
        clear hq hF
        have HB2 := Lib.hid hb1
        clear hb1
        have k1 := blk_ext HB.out HB2.out
        obtain ⟨ac0, ac1, ac2, ac3, ac4, ac5, af⟩ := blk6 k1
        have HK1 := Lib.hid k1
        clear k1
        go_wp2_with fail
        refine HF.out.mono ?_
        rintro e w2 ⟨rfl, rfl⟩
        go_wp2_with (rw [run_convert_float_float w1 63 22 .f64 .f32 q _ (by kernel_rfl) (by kernel_rfl) HQ.out])
        go_ret
        refine ⟨?_, turn_cell (turn_ext _ _ HB2.out) _ _, { s with least := thou p }, blk_put HK1.out 3 _, ?_⟩
        · rw [HEX.out]; cases pfixOk y <;> rfl
        · intro u hu
          rw [HEX.out, HPY.out] at hu
          split at hu
          · injection hu with hu; subst hu; rfl
          · cases hu
      by_cases he2 : x = tSat
      · have HEX : Hid (did s [x, y] = if pfixOk y = true then some { s with sat := thou (pfix y) } else none) := Lib.hid (by
          subst he2; unfold did; simp only
          rw [if_neg (show ¬ (tSat = tSlice) by decide)]
          rw [if_neg (show ¬ (tSat = tKiller) by decide)]
          rw [if_pos trivial])
        subst he2
        clear he0 he1
        go_enter Tryd.func59, Tryd.ntmps59
        go_wp2_with fail
        refine (HU.out _ HE.out).mono ?_
        rintro e w1 ⟨rfl, hb1⟩
        have c0' : w1.cell? ⟨g, off, none⟩ = some (st (ba tSat)) := by rw [Below.cell hb1 (p := ⟨g, off, none⟩) hgw]; exact c0
        clear c0 c1
        obtain ⟨q, hq, hF⟩ := iFromFixed_any p HP.out w1
        have HQ := Lib.hid hq
        have HF := Lib.hid hF
        clear hq hF
        have HB2 := Lib.hid hb1
        clear hb1
        have k1 := blk_ext HB.out HB2.out
        obtain ⟨ac0, ac1, ac2, ac3, ac4, ac5, af⟩ := blk6 k1
        have HK1 := Lib.hid k1
        clear k1
        go_wp2_with fail
        refine HF.out.mono ?_
        rintro e w2 ⟨rfl, rfl⟩
        go_wp2_with (rw [run_convert_float_float w1 63 22 .f64 .f32 q _ (by kernel_rfl) (by kernel_rfl) HQ.out])
        go_ret
        refine ⟨?_, turn_cell (turn_ext _ _ HB2.out) _ _, { s with sat := thou p }, blk_put HK1.out 4 _, ?_⟩
        · rw [HEX.out]; cases pfixOk y <;> rfl
        · intro u hu
          rw [HEX.out, HPY.out] at hu
          split at hu
          · injection hu with hu; subst hu; rfl
          · cases hu
      have HEX : Hid (did s [x, y] = none) := Lib.hid (by unfold did; simp only; rw [if_neg he0, if_neg he1, if_neg he2]; simp)
      have hne0 : ((ba x).toList == [115, 108, 105, 99, 101]) = false := lit_ne he0
      have hne1 : ((ba x).toList == [107, 105, 108, 108, 101, 114]) = false := lit_ne he1
      have hne2 : ((ba x).toList == [115, 97, 116, 117, 114, 97, 116, 105, 111, 110]) = false := lit_ne he2
      generalize ba x = X at *
      clear he0 he1 he2
      go_enter Tryd.func59, Tryd.ntmps59
      go_wp2_with fail
      refine (HU.out _ HE.out).mono ?_
      rintro e w1 ⟨rfl, hb1⟩
      have c0' : w1.cell? ⟨g, off, none⟩ = some (st X) := by rw [Below.cell hb1 (p := ⟨g, off, none⟩) hgw]; exact c0
      clear c0 c1
      obtain ⟨q, hq, hF⟩ := iFromFixed_any p HP.out w1
      have HQ := Lib.hid hq
      have HF := Lib.hid hF
      clear hq hF
      have HB2 := Lib.hid hb1
      clear hb1
      have k1 := blk_ext HB.out HB2.out
      obtain ⟨ac0, ac1, ac2, ac3, ac4, ac5, af⟩ := blk6 k1
      have HK1 := Lib.hid k1
      clear k1
      go_wp2_with fail
      refine HF.out.mono ?_
      rintro e w2 ⟨rfl, rfl⟩
      go_wp2_with (rw [run_convert_float_float w1 63 22 .f64 .f32 q _ (by kernel_rfl) (by kernel_rfl) HQ.out])
      go_ret
      exact ⟨by rw [HEX.out]; rfl, turn_ext _ _ HB2.out, s, HK1.out, fun u hu => by rw [HEX.out] at hu; cases hu⟩
    · have HEX : Hid (did s fs = none) := Lib.hid (did_len h2 h3)
      have h2' : ((fs.length : Int) != 2) = true := by rw [bne_iff_ne]; omega
      have h3' : ((fs.length : Int) == 3) = false := by rw [beq_eq_false_iff_ne]; omega
      clear hF hsz hb h2 h3
      go_enter Tryd.func59, Tryd.ntmps59
      go_wp2_with fail
      go_ret
      exact ⟨by rw [HEX.out]; rfl, Turn.refl _ _ _, s, HB.out, fun u hu => by rw [HEX.out] at hu; cases hu⟩
end Go.Proofs.YtfmghfghhipmhaaDoor

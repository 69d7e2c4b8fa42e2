import Derived.Test.YtfmghfghhipmhaaDoorTk
namespace Go.Proofs.YtfmghfghhipmhaaDoor
open Go.RowKit Go.Fx Go.Sort
set_option linter.unusedVariables false
set_option linter.unusedSimpArgs false
/-- a set, with what stands in the place of its log -/
abbrev setT (s : TS) (v : Value) : Value := setV s.cells s.rows s.slice s.least s.sat v
set_option maxRecDepth 100000 in
set_option maxHeartbeats 8000000 in
theorem sDone_any (s : TS) (A : Option Addr) (m c : Nat) (F : Option Addr) (D : Nat) (fs : List Txt) (w : World) (hF : Rd w F ((fs.map ba).map st)) (hn : fs.length ≤ 24) (hsz : ∀ f ∈ fs, f.length ≤ 1048576) :
    Calls Tryd.prog 58 #[setT s (.slice A m c), .slice F fs.length D] w fun e w' => (∃ t : TS, e = .returned (.tuple #[setT t (.slice A m c), .bool (did s fs).isSome]) ∧ ∀ u, did s fs = some u → t = { u with log := t.log }) ∧ Ext w w' := by
  obtain ⟨v6, hv6⟩ : ∃ v6, Value.slice A m c = v6 := ⟨_, rfl⟩
  have HS6 := Lib.hid hv6
  clear hv6
  by_cases h3 : fs.length = 3
  · obtain ⟨x, y, z, rfl⟩ : ∃ x y z, fs = [x, y, z] := by
      match fs, h3 with
      | [x, y, z], _ => exact ⟨x, y, z, rfl⟩
    rcases hF with hF | ⟨g, off, rfl, hgw, hc⟩
    · cases hF
    have c0 := hc 0 _ rfl
    have c1 := hc 1 _ rfl
    have c2 := hc 2 _ rfl
    rw [Nat.add_zero] at c0
    clear hc h3
    have hx := hsz x (by simp)
    have hy := hsz y (by simp)
    have hz := hsz z (by simp)
    clear hsz hn
    by_cases he : x = tSize
    · have HEX : Hid (did s [x, y, z] = if uintOk y = true ∧ uintOk z = true then some { s with cells := uint y, rows := uint z } else none) := Lib.hid (by subst he; unfold did; simp)
      subst he
      obtain ⟨Y, hY⟩ : ∃ Y, ba y = Y := ⟨_, rfl⟩
      obtain ⟨Z, hZ⟩ : ∃ Z, ba z = Z := ⟨_, rfl⟩
      simp only [hY, hZ] at c1 c2
      have HU : Hid (∀ W, Calls Tryd.prog 81 #[.string Y] W fun e w' => e = .returned (.tuple #[.int .i64 (uint y), .bool (uintOk y)]) ∧ Ext W w') := Lib.hid (fun W => by have h := sParseUint_any (ba y) W (by rw [ba_size]; unfold maxLen; omega); rw [ba_data] at h; rw [← hY]; exact h)
      have HV : Hid (∀ W, Calls Tryd.prog 81 #[.string Z] W fun e w' => e = .returned (.tuple #[.int .i64 (uint z), .bool (uintOk z)]) ∧ Ext W w') := Lib.hid (fun W => by have h := sParseUint_any (ba z) W (by rw [ba_size]; unfold maxLen; omega); rw [ba_data] at h; rw [← hZ]; exact h)
      clear hY hZ hx hy hz
      cases huy : uintOk y
      all_goals
        have HUY := Lib.hid huy
        rw [huy] at HU
        clear huy
        go_enter Tryd.func58, Tryd.ntmps58
        go_wp2_with fail
        refine (HU.out _).mono ?_
        rintro e w1 ⟨rfl, hb1⟩
        have c2' : w1.cell? ⟨g, off + 2, none⟩ = some (st Z) := by rw [Below.cell hb1 (p := ⟨g, off + 2, none⟩) (by simp; omega)]; rw [Below.cell (((Ext.refl w).alloc _).alloc _) (p := ⟨g, off + 2, none⟩) hgw]; exact c2
        clear c0 c1 c2
        go_wp2_with fail
        refine (HV.out _).mono ?_
        rintro e w2 ⟨rfl, hb2⟩
        clear c2'
        have hb12 := Ext.trans hb1 hb2
        clear hb1 hb2
        have k1 : w2.heap[w.heap.size]? = some (.cells #[.int .i64 s.cells, .int .i64 s.rows, .float .f32 s.slice, .float .f32 s.least, .float .f32 s.sat, .slice A m c] 28 (0, 0)) := blk_ext (blk_alloc (heap_alloc_new _ _)) hb12
        have k2 : w2.heap[w.heap.size + 1]? = some (.cells #[.int .i64 0, .int .i64 0, .float .f32 0, .float .f32 0, .float .f32 0, .slice none 0 0] 28 (0, 0)) := blk_ext (by rw [show w.heap.size + 1 = (w.alloc _).heap.size by simp]; exact heap_alloc_new _ _) hb12
        obtain ⟨ac0, ac1, ac2, ac3, ac4, ac5, af⟩ := blk6 k1
        obtain ⟨bc0, bc1, bc2, bc3, bc4, bc5, bf⟩ := blk6 k2
        have hbW : Ext w w2 := Ext.trans (((Ext.refl _).alloc _).alloc _) hb12
        clear k1 k2
        clear hb12
        go_wp2_with fail
        refine bodyPost_ret (v := .tuple #[setT { s with cells := uint y, rows := uint z } (.slice A m c), .bool (did s [tSize, y, z]).isSome]) (by rw [HEX.out, HUY.out]; cases uintOk z <;> simp [results, Tryd.results58, go_sem, *]) rfl ⟨⟨{ s with cells := uint y, rows := uint z }, rfl, ?_⟩, ?_⟩
        · intro u hu
          rw [HEX.out] at hu
          split at hu
          · injection hu with hu; subst hu; rfl
          · cases hu
        · have s1 : w.heap.size ≤ w.heap.size := Nat.le_refl _
          have s2 : w.heap.size ≤ w.heap.size + 1 := Nat.le_succ _
          repeat (first | refine Below.setCell ?_ s1 _ | refine Below.setCell ?_ s2 _)
          first | exact hbW | exact ((Ext.refl _).alloc _).alloc _
    · have HEX : Hid (did s [x, y, z] = none) := Lib.hid (did_size he)
      have hne : ((ba x).toList == [115, 105, 122, 101]) = false := lit_ne he
      generalize ba x = X at *
      clear he hx hy hz
      have k1 : ((w.alloc (.cells #[.int .i64 s.cells, .int .i64 s.rows, .float .f32 s.slice, .float .f32 s.least, .float .f32 s.sat, .slice A m c] 28 (0, 0))).alloc (.cells #[.int .i64 0, .int .i64 0, .float .f32 0, .float .f32 0, .float .f32 0, .slice none 0 0] 28 (0, 0))).heap[w.heap.size]? = some (.cells #[.int .i64 s.cells, .int .i64 s.rows, .float .f32 s.slice, .float .f32 s.least, .float .f32 s.sat, .slice A m c] 28 (0, 0)) := blk_alloc (heap_alloc_new _ _)
      have k2 : ((w.alloc (.cells #[.int .i64 s.cells, .int .i64 s.rows, .float .f32 s.slice, .float .f32 s.least, .float .f32 s.sat, .slice A m c] 28 (0, 0))).alloc (.cells #[.int .i64 0, .int .i64 0, .float .f32 0, .float .f32 0, .float .f32 0, .slice none 0 0] 28 (0, 0))).heap[w.heap.size + 1]? = some (.cells #[.int .i64 0, .int .i64 0, .float .f32 0, .float .f32 0, .float .f32 0, .slice none 0 0] 28 (0, 0)) := by rw [show w.heap.size + 1 = (w.alloc _).heap.size by simp]; exact heap_alloc_new _ _
      have hbW : Ext w ((w.alloc (.cells #[.int .i64 s.cells, .int .i64 s.rows, .float .f32 s.slice, .float .f32 s.least, .float .f32 s.sat, .slice A m c] 28 (0, 0))).alloc (.cells #[.int .i64 0, .int .i64 0, .float .f32 0, .float .f32 0, .float .f32 0, .slice none 0 0] 28 (0, 0))) := ((Ext.refl _).alloc _).alloc _
      obtain ⟨ac0, ac1, ac2, ac3, ac4, ac5, af⟩ := blk6 k1
      obtain ⟨bc0, bc1, bc2, bc3, bc4, bc5, bf⟩ := blk6 k2
      clear k1 k2
      go_enter Tryd.func58, Tryd.ntmps58
      go_wp2_with fail
      refine bodyPost_ret (v := .tuple #[setT s (.slice A m c), .bool (did s [x, y, z]).isSome]) (by rw [HEX.out]; simp [results, Tryd.results58, go_sem, *]) rfl ⟨⟨s, rfl, fun u hu => by rw [HEX.out] at hu; cases hu⟩, ?_⟩
      · have s1 : w.heap.size ≤ w.heap.size := Nat.le_refl _
        have s2 : w.heap.size ≤ w.heap.size + 1 := Nat.le_succ _
        repeat (first | refine Below.setCell ?_ s1 _ | refine Below.setCell ?_ s2 _)
        first | exact hbW | exact ((Ext.refl _).alloc _).alloc _
  · by_cases h2 : fs.length = 2
    · obtain ⟨x, y, rfl⟩ : ∃ x y, fs = [x, y] := by
        match fs, h2 with
        | [x, y], _ => exact ⟨x, y, rfl⟩
      rcases hF with hF | ⟨g, off, rfl, hgw, hc⟩
      · cases hF
      have c0 := hc 0 _ rfl
      have c1 := hc 1 _ rfl
      rw [Nat.add_zero] at c0
      clear hc h3 h2
      have hx := hsz x (by simp)
      have hy := hsz y (by simp)
      clear hsz hn
      obtain ⟨Y, hY⟩ : ∃ Y, ba y = Y := ⟨_, rfl⟩
      simp only [hY] at c1
      have HU : Hid (∀ W, Calls Tryd.prog 82 #[.string Y] W fun e w' => e = .returned (.tuple #[.int .i64 (pfix y), .bool (pfixOk y)]) ∧ Ext W w') := Lib.hid (fun W => by have h := sParseFixed_any (ba y) W (by rw [ba_size]; omega); rw [ba_data] at h; rw [← hY]; exact h)
      have HP : Hid (fixOk (pfix y) = true) := Lib.hid (fixOk_iff.2 (pfix_bound y))
      obtain ⟨p, hp⟩ : ∃ p, pfix y = p := ⟨_, rfl⟩
      rw [hp] at HU HP
      have HPY := Lib.hid hp
      clear hp hY hx hy
      by_cases he0 : x = tSlice
      · have HEX : Hid (did s [x, y] = if pfixOk y = true then some { s with slice := thou (pfix y) } else none) := Lib.hid (by
          subst he0; unfold did; simp only
          rw [if_pos trivial])
        subst he0
        go_enter Tryd.func58, Tryd.ntmps58
        go_wp2_with fail
        refine (HU.out _).mono ?_
        rintro e w1 ⟨rfl, hb1⟩
        have c0' : w1.cell? ⟨g, off, none⟩ = some (st (ba tSlice)) := by rw [Below.cell hb1 (p := ⟨g, off, none⟩) (by simp; omega)]; rw [Below.cell (((Ext.refl w).alloc _).alloc _) (p := ⟨g, off, none⟩) hgw]; exact c0
        clear c0 c1
        obtain ⟨q, hq, hF⟩ := sFromFixed_any p HP.out w1
        have HQ := Lib.hid hq
        have HF := Lib.hid hF
        clear hq hF
        have k1 : w1.heap[w.heap.size]? = some (.cells #[.int .i64 s.cells, .int .i64 s.rows, .float .f32 s.slice, .float .f32 s.least, .float .f32 s.sat, .slice A m c] 28 (0, 0)) := blk_ext (blk_alloc (heap_alloc_new _ _)) hb1
        have k2 : w1.heap[w.heap.size + 1]? = some (.cells #[.int .i64 0, .int .i64 0, .float .f32 0, .float .f32 0, .float .f32 0, .slice none 0 0] 28 (0, 0)) := blk_ext (by rw [show w.heap.size + 1 = (w.alloc _).heap.size by simp]; exact heap_alloc_new _ _) hb1
        obtain ⟨ac0, ac1, ac2, ac3, ac4, ac5, af⟩ := blk6 k1
        obtain ⟨bc0, bc1, bc2, bc3, bc4, bc5, bf⟩ := blk6 k2
        have hbW : Ext w w1 := Ext.trans (((Ext.refl _).alloc _).alloc _) hb1
        clear k1 k2
        clear hb1
        go_wp2_with fail
        refine HF.out.mono ?_
        rintro e w2 ⟨rfl, rfl⟩
        go_wp2_with (rw [run_convert_float_float w1 63 22 .f64 .f32 q _ (by kernel_rfl) (by kernel_rfl) HQ.out])
        refine bodyPost_ret (v := .tuple #[setT { s with slice := thou p } (.slice A m c), .bool (did s [tSlice, y]).isSome]) (by rw [HEX.out]; cases pfixOk y <;> simp [results, Tryd.results58, go_sem, *]) rfl ⟨⟨{ s with slice := thou p }, rfl, ?_⟩, ?_⟩
        · intro u hu
          rw [HEX.out, HPY.out] at hu
          split at hu
          · injection hu with hu; subst hu; rfl
          · cases hu
        · have s1 : w.heap.size ≤ w.heap.size := Nat.le_refl _
          have s2 : w.heap.size ≤ w.heap.size + 1 := Nat.le_succ _
          repeat (first | refine Below.setCell ?_ s1 _ | refine Below.setCell ?_ s2 _)
          first | exact hbW | exact ((Ext.refl _).alloc _).alloc _
      by_cases he1 : x = tKiller
      · have HEX : Hid (did s [x, y] = if pfixOk y = true then some { s with least := thou (pfix y) } else none) := Lib.hid (by
          subst he1; unfold did; simp only
          rw [if_neg (show ¬ (tKiller = tSlice) by decide)]
          rw [if_pos trivial])
        subst he1
        clear he0
        go_enter Tryd.func58, Tryd.ntmps58
        go_wp2_with fail
        refine (HU.out _).mono ?_
        rintro e w1 ⟨rfl, hb1⟩
        have c0' : w1.cell? ⟨g, off, none⟩ = some (st (ba tKiller)) := by rw [Below.cell hb1 (p := ⟨g, off, none⟩) (by simp; omega)]; rw [Below.cell (((Ext.refl w).alloc _).alloc _) (p := ⟨g, off, none⟩) hgw]; exact c0
        clear c0 c1
        obtain ⟨q, hq, hF⟩ := sFromFixed_any p HP.out w1
        have HQ := Lib.hid hq
        have HF := Lib.hid hF
        clear hq hF
        have k1 : w1.heap[w.heap.size]? = some (.cells #[.int .i64 s.cells, .int .i64 s.rows, .float .f32 s.slice, .float .f32 s.least, .float .f32 s.sat, .slice A m c] 28 (0, 0)) := blk_ext (blk_alloc (heap_alloc_new _ _)) hb1
        have k2 : w1.heap[w.heap.size + 1]? = some (.cells #[.int .i64 0, .int .i64 0, .float .f32 0, .float .f32 0, .float .f32 0, .slice none 0 0] 28 (0, 0)) := blk_ext (by rw [show w.heap.size + 1 = (w.alloc _).heap.size by simp]; exact heap_alloc_new _ _) hb1
        obtain ⟨ac0, ac1, ac2, ac3, ac4, ac5, af⟩ := blk6 k1
        obtain ⟨bc0, bc1, bc2, bc3, bc4, bc5, bf⟩ := blk6 k2
        have hbW : Ext w w1 := Ext.trans (((Ext.refl _).alloc _).alloc _) hb1
        clear k1 k2
        clear hb1
        go_wp2_with fail
        refine HF.out.mono ?_
        rintro e w2 ⟨rfl, rfl⟩
        go_wp2_with (rw [run_convert_float_float w1 63 22 .f64 .f32 q _ (by kernel_rfl) (by kernel_rfl) HQ.out])
        refine bodyPost_ret (v := .tuple #[setT { s with least := thou p } (.slice A m c), .bool (did s [tKiller, y]).isSome]) (by rw [HEX.out]; cases pfixOk y <;> simp [results, Tryd.results58, go_sem, *]) rfl ⟨⟨{ s with least := thou p }, rfl, ?_⟩, ?_⟩
        · intro u hu
          rw [HEX.out, HPY.out] at hu
          split at hu
          · injection hu with hu; subst hu; rfl
          · cases hu
        · have s1 : w.heap.size ≤ w.heap.size := Nat.le_refl _
          have s2 : w.heap.size ≤ w.heap.size + 1 := Nat.le_succ _
          repeat (first | refine Below.setCell ?_ s1 _ | refine Below.setCell ?_ s2 _)
          first | exact hbW | exact ((Ext.refl _).alloc _).alloc _
      by_cases he2 : x = tSat
      · have HEX : Hid (did s [x, y] = if pfixOk y = true then some { s with sat := thou (pfix y) } else none) := Lib.hid (by
          subst he2; unfold did; simp only
          rw [if_neg (show ¬ (tSat = tSlice) by decide)]
          rw [if_neg (show ¬ (tSat = tKiller) by decide)]
          rw [if_pos trivial])
        subst he2
        clear he0 he1
        go_enter Tryd.func58, Tryd.ntmps58
        go_wp2_with fail
        refine (HU.out _).mono ?_
        rintro e w1 ⟨rfl, hb1⟩
        have c0' : w1.cell? ⟨g, off, none⟩ = some (st (ba tSat)) := by rw [Below.cell hb1 (p := ⟨g, off, none⟩) (by simp; omega)]; rw [Below.cell (((Ext.refl w).alloc _).alloc _) (p := ⟨g, off, none⟩) hgw]; exact c0
        clear c0 c1
        obtain ⟨q, hq, hF⟩ := sFromFixed_any p HP.out w1
        have HQ := Lib.hid hq
        have HF := Lib.hid hF
        clear hq hF
        have k1 : w1.heap[w.heap.size]? = some (.cells #[.int .i64 s.cells, .int .i64 s.rows, .float .f32 s.slice, .float .f32 s.least, .float .f32 s.sat, .slice A m c] 28 (0, 0)) := blk_ext (blk_alloc (heap_alloc_new _ _)) hb1
        have k2 : w1.heap[w.heap.size + 1]? = some (.cells #[.int .i64 0, .int .i64 0, .float .f32 0, .float .f32 0, .float .f32 0, .slice none 0 0] 28 (0, 0)) := blk_ext (by rw [show w.heap.size + 1 = (w.alloc _).heap.size by simp]; exact heap_alloc_new _ _) hb1
        obtain ⟨ac0, ac1, ac2, ac3, ac4, ac5, af⟩ := blk6 k1
        obtain ⟨bc0, bc1, bc2, bc3, bc4, bc5, bf⟩ := blk6 k2
        have hbW : Ext w w1 := Ext.trans (((Ext.refl _).alloc _).alloc _) hb1
        clear k1 k2
        clear hb1
        go_wp2_with fail
        refine HF.out.mono ?_
        rintro e w2 ⟨rfl, rfl⟩
        go_wp2_with (rw [run_convert_float_float w1 63 22 .f64 .f32 q _ (by kernel_rfl) (by kernel_rfl) HQ.out])
        refine bodyPost_ret (v := .tuple #[setT { s with sat := thou p } (.slice A m c), .bool (did s [tSat, y]).isSome]) (by rw [HEX.out]; cases pfixOk y <;> simp [results, Tryd.results58, go_sem, *]) rfl ⟨⟨{ s with sat := thou p }, rfl, ?_⟩, ?_⟩
        · intro u hu
          rw [HEX.out, HPY.out] at hu
          split at hu
          · injection hu with hu; subst hu; rfl
          · cases hu
        · have s1 : w.heap.size ≤ w.heap.size := Nat.le_refl _
          have s2 : w.heap.size ≤ w.heap.size + 1 := Nat.le_succ _
          repeat (first | refine Below.setCell ?_ s1 _ | refine Below.setCell ?_ s2 _)
          first | exact hbW | exact ((Ext.refl _).alloc _).alloc _
      have HEX : Hid (did s [x, y] = none) := Lib.hid (by unfold did; simp only; rw [if_neg he0, if_neg he1, if_neg he2]; simp)
      have hne0 : ((ba x).toList == [115, 108, 105, 99, 101]) = false := lit_ne he0
      have hne1 : ((ba x).toList == [107, 105, 108, 108, 101, 114]) = false := lit_ne he1
      have hne2 : ((ba x).toList == [115, 97, 116, 117, 114, 97, 116, 105, 111, 110]) = false := lit_ne he2
      generalize ba x = X at *
      clear he0 he1 he2
      go_enter Tryd.func58, Tryd.ntmps58
      go_wp2_with fail
      refine (HU.out _).mono ?_
      rintro e w1 ⟨rfl, hb1⟩
      have c0' : w1.cell? ⟨g, off, none⟩ = some (st X) := by rw [Below.cell hb1 (p := ⟨g, off, none⟩) (by simp; omega)]; rw [Below.cell (((Ext.refl w).alloc _).alloc _) (p := ⟨g, off, none⟩) hgw]; exact c0
      clear c0 c1
      obtain ⟨q, hq, hF⟩ := sFromFixed_any p HP.out w1
      have HQ := Lib.hid hq
      have HF := Lib.hid hF
      clear hq hF
      have k1 : w1.heap[w.heap.size]? = some (.cells #[.int .i64 s.cells, .int .i64 s.rows, .float .f32 s.slice, .float .f32 s.least, .float .f32 s.sat, .slice A m c] 28 (0, 0)) := blk_ext (blk_alloc (heap_alloc_new _ _)) hb1
      have k2 : w1.heap[w.heap.size + 1]? = some (.cells #[.int .i64 0, .int .i64 0, .float .f32 0, .float .f32 0, .float .f32 0, .slice none 0 0] 28 (0, 0)) := blk_ext (by rw [show w.heap.size + 1 = (w.alloc _).heap.size by simp]; exact heap_alloc_new _ _) hb1
      obtain ⟨ac0, ac1, ac2, ac3, ac4, ac5, af⟩ := blk6 k1
      obtain ⟨bc0, bc1, bc2, bc3, bc4, bc5, bf⟩ := blk6 k2
      have hbW : Ext w w1 := Ext.trans (((Ext.refl _).alloc _).alloc _) hb1
      clear k1 k2
      clear hb1
      go_wp2_with fail
      refine HF.out.mono ?_
      rintro e w2 ⟨rfl, rfl⟩
      go_wp2_with (rw [run_convert_float_float w1 63 22 .f64 .f32 q _ (by kernel_rfl) (by kernel_rfl) HQ.out])
      refine bodyPost_ret (v := .tuple #[setT s (.slice A m c), .bool (did s [x, y]).isSome]) (by rw [HEX.out]; simp [results, Tryd.results58, go_sem, *]) rfl ⟨⟨s, rfl, fun u hu => by rw [HEX.out] at hu; cases hu⟩, ?_⟩
      · have s1 : w.heap.size ≤ w.heap.size := Nat.le_refl _
        have s2 : w.heap.size ≤ w.heap.size + 1 := Nat.le_succ _
        repeat (first | refine Below.setCell ?_ s1 _ | refine Below.setCell ?_ s2 _)
        first | exact hbW | exact ((Ext.refl _).alloc _).alloc _
    · have HEX : Hid (did s fs = none) := Lib.hid (did_len h2 h3)
      have h2' : ((fs.length : Int) != 2) = true := by rw [bne_iff_ne]; omega
      have h3' : ((fs.length : Int) == 3) = false := by rw [beq_eq_false_iff_ne]; omega
      clear hF hsz h2 h3
      have k1 : ((w.alloc (.cells #[.int .i64 s.cells, .int .i64 s.rows, .float .f32 s.slice, .float .f32 s.least, .float .f32 s.sat, .slice A m c] 28 (0, 0))).alloc (.cells #[.int .i64 0, .int .i64 0, .float .f32 0, .float .f32 0, .float .f32 0, .slice none 0 0] 28 (0, 0))).heap[w.heap.size]? = some (.cells #[.int .i64 s.cells, .int .i64 s.rows, .float .f32 s.slice, .float .f32 s.least, .float .f32 s.sat, .slice A m c] 28 (0, 0)) := blk_alloc (heap_alloc_new _ _)
      have k2 : ((w.alloc (.cells #[.int .i64 s.cells, .int .i64 s.rows, .float .f32 s.slice, .float .f32 s.least, .float .f32 s.sat, .slice A m c] 28 (0, 0))).alloc (.cells #[.int .i64 0, .int .i64 0, .float .f32 0, .float .f32 0, .float .f32 0, .slice none 0 0] 28 (0, 0))).heap[w.heap.size + 1]? = some (.cells #[.int .i64 0, .int .i64 0, .float .f32 0, .float .f32 0, .float .f32 0, .slice none 0 0] 28 (0, 0)) := by rw [show w.heap.size + 1 = (w.alloc _).heap.size by simp]; exact heap_alloc_new _ _
      have hbW : Ext w ((w.alloc (.cells #[.int .i64 s.cells, .int .i64 s.rows, .float .f32 s.slice, .float .f32 s.least, .float .f32 s.sat, .slice A m c] 28 (0, 0))).alloc (.cells #[.int .i64 0, .int .i64 0, .float .f32 0, .float .f32 0, .float .f32 0, .slice none 0 0] 28 (0, 0))) := ((Ext.refl _).alloc _).alloc _
      obtain ⟨ac0, ac1, ac2, ac3, ac4, ac5, af⟩ := blk6 k1
      obtain ⟨bc0, bc1, bc2, bc3, bc4, bc5, bf⟩ := blk6 k2
      clear k1 k2
      go_enter Tryd.func58, Tryd.ntmps58
      go_wp2_with fail
      refine bodyPost_ret (v := .tuple #[setT s (.slice A m c), .bool (did s fs).isSome]) (by rw [HEX.out]; simp [results, Tryd.results58, go_sem, *]) rfl ⟨⟨s, rfl, fun u hu => by rw [HEX.out] at hu; cases hu⟩, ?_⟩
      · have s1 : w.heap.size ≤ w.heap.size := Nat.le_refl _
        have s2 : w.heap.size ≤ w.heap.size + 1 := Nat.le_succ _
        repeat (first | refine Below.setCell ?_ s1 _ | refine Below.setCell ?_ s2 _)
        first | exact hbW | exact ((Ext.refl _).alloc _).alloc _
end Go.Proofs.YtfmghfghhipmhaaDoor

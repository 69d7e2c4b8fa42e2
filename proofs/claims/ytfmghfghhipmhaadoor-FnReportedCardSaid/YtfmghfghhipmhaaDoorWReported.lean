import Derived.Test.YtfmghfghhipmhaaDoorUg
import Derived.Deep.RegionLaw
import Derived.Deep.CutRange
namespace Go.Proofs.YtfmghfghhipmhaaDoor
open Go.RowKit Go.Fx Go.Sort
set_option linter.unusedVariables false
set_option linter.unusedSimpArgs false
set_option maxRecDepth 100000 in
set_option maxHeartbeats 8000000 in
theorem reported_walk (A0 : Option Addr) (c0 : Nat) (code : List Int) (w : World) (E : Env w) (h0 : Rd w A0 (code.map by8)) (hm0 : code.length ≤ maxLen) (hb0 : ∀ x ∈ code, 0 ≤ x ∧ x ≤ 255) :
    Calls Tryd.prog 9 #[.slice A0 code.length c0] w fun e w' => e = .returned (.bool true) ∧ Ext w w' := by
  have HE := Lib.hid E
  have HR := Lib.hid h0
  have HB := Lib.hid hb0
  unfold maxLen at hm0
  clear E h0 hb0
  by_cases hbig : 1048576 < code.length
  · have hbI : (1048576 : Int) < (code.length : Int) := by omega
    go_enter Tryd.func9, Tryd.ntmps9
    go_wp2_with fail
    refine (bigD_any A0 code.length c0 _).mono ?_
    rintro e w1 ⟨rfl, rfl⟩
    go_wp2_with fail
    go_ret
    exact ⟨rfl, Ext.refl _⟩
  have hm1 : code.length ≤ 1048576 := by omega
  have hbI : ¬ (1048576 : Int) < (code.length : Int) := by omega
  clear hbig
  go_enter Tryd.func9, Tryd.ntmps9
  go_wp2_with fail
  refine (bigD_any A0 code.length c0 _).mono ?_
  rintro e w1 ⟨rfl, rfl⟩
  go_wp2_with fail
  refine (drawReport_any A0 c0 code _ HR.out hm1 HB.out).mono ?_
  rintro e w2 ⟨⟨S, v2, rfl, ho2, hl101⟩, hb2⟩
  obtain ⟨A, c, rfl, -, -⟩ := own_slice ho2
  obtain ⟨b3, hb3⟩ : ∃ b, b = w2.heap.size := ⟨_, rfl⟩
  have HX3 : Hid (Ext w (w2.alloc (.cells #[.int .i64 S.cells, .int .i64 S.rows, .float .f32 S.slice, .float .f32 S.least, .float .f32 S.sat, .slice A S.log.length c] 28)) ∧ SetBlk 28 (w2.alloc (.cells #[.int .i64 S.cells, .int .i64 S.rows, .float .f32 S.slice, .float .f32 S.least, .float .f32 S.sat, .slice A S.log.length c] 28)) b3 S (.slice A S.log.length c)) := Lib.hid ⟨hb2.alloc _, by rw [hb3]; exact heap_alloc_new _ _⟩
  go_upto_region 4 with fail
  rw [← hb3]
  generalize w2.alloc (.cells #[.int .i64 S.cells, .int .i64 S.rows, .float .f32 S.slice, .float .f32 S.least, .float .f32 S.sat, .slice A S.log.length c] 28) = w3 at *
  clear hb3 ho2 hb2
  have kk := HX3.out.2
  obtain ⟨ac0, ac1, ac2, ac3, ac4, ac5, af⟩ := blk6 kk
  clear kk
  go_wp2_with fail
  refine (iReport_any S A c (by omega) w3 (HE.out.ext HX3.out.1)).mono ?_
  rintro e w4 ⟨rfl, hb4⟩
  have HO : Hid (∀ W, Calls Tryd.prog 38 #[setT S (.slice A S.log.length c)] W fun e w' => e = .returned (.bool S.ok) ∧ Ext W w') := Lib.hid (fun W => sSetOk_any S.cells S.rows S.slice S.least S.sat A S.log.length c (by omega) W)
  clear ac0 ac1 ac2 ac3 ac4 ac5 af
  have kk := blk_ext HX3.out.2 hb4
  obtain ⟨ac0, ac1, ac2, ac3, ac4, ac5, af⟩ := blk6 kk
  clear kk
  have HREP : Hid (S.ok = false → report S = []) := Lib.hid (fun h => by unfold report; rw [h]; rfl)
  have HRF := Lib.hid (@report_fields S)
  have HRA := Lib.hid (@report_again S)
  have HRL : Hid (S.ok = true → (report S).length ≤ 600) := Lib.hid (fun h => by
    have h9 := (report_fields h).1
    unfold fieldsOk at h9
    simp only [Bool.and_eq_true, decide_eq_true_eq] at h9
    exact h9.1.1)
  cases hok : S.ok
  · have hr := HREP.out hok
    rw [hr]
    rw [hok] at HO
    clear HREP HRF HRA HRL hr hok
    go_wp2_with fail
    refine (HO.out _).mono ?_
    rintro e w5 ⟨rfl, hb5⟩
    go_wp2_with fail
    go_ret
    exact ⟨rfl, (HX3.out.1.trans hb4).trans hb5⟩
  · rw [hok] at HO
    have p := ok_parts.1 hok
    have hfr := HRF.out hok
    have hra := HRA.out hok
    have hrl := HRL.out hok
    have hnw := ok_parts.2 (new_ok p)
    have hf12 := rep_fld p
    obtain ⟨F2, hF2⟩ : ∃ F, ba (fmtF (toFix S.slice)) = F := ⟨_, rfl⟩
    obtain ⟨F3, hF3⟩ : ∃ F, ba (fmtF (toFix S.least)) = F := ⟨_, rfl⟩
    obtain ⟨F4, hF4⟩ : ∃ F, ba (fmtF (toFix S.sat)) = F := ⟨_, rfl⟩
    have hs2 : F2.size ≤ 12 := by rw [← hF2, ba_size]; exact (hf12 _ (by simp [repF])).len
    have hs3 : F3.size ≤ 12 := by rw [← hF3, ba_size]; exact (hf12 _ (by simp [repF])).len
    have hs4 : F4.size ≤ 12 := by rw [← hF4, ba_size]; exact (hf12 _ (by simp [repF])).len
    have HSP : Hid (∀ W, Ext w3 W → Calls Tryd.prog 31 #[.string (ba (report S))] W fun e w' => (∃ v, e = .returned (.tuple #[v, .bool true]) ∧ w'.ownsRow W.heap.size 9 1 v 5 (((repF S).map ba).map st)) ∧ Ext W w') := Lib.hid (fun W hW => by
      have h9 := iSplitFields_any (ba (report S)) W (HE.out.ext (HX3.out.1.trans hW)) (by rw [ba_size]; unfold maxLen; omega)
      rw [ba_data, hfr.1, fields_yes hfr.1, hfr.2] at h9
      exact h9)
    have HNW : Hid (∀ W, Calls Tryd.prog 39 #[.int .i64 S.cells, .int .i64 S.rows] W fun e w' => e = .returned (.tuple #[setT (newT S.cells S.rows) (.slice none 0 0), .bool true]) ∧ Ext W w') := Lib.hid (fun W => by
      have h9 := iNewSet_any S.cells S.rows W
      rw [newSet_T, show setOk S.cells S.rows 3250585600 1040187392 1065353216 0 = true from hnw] at h9
      unfold newTS at h9
      rw [if_pos hnw] at h9
      exact h9)
    have HLS : Hid (([(⟨#[115, 108, 105, 99, 101, 32]⟩ : ByteArray) ++ F2, (⟨#[107, 105, 108, 108, 101, 114, 32]⟩ : ByteArray) ++ F3, (⟨#[115, 97, 116, 117, 114, 97, 116, 105, 111, 110, 32]⟩ : ByteArray) ++ F4] : List ByteArray).map (·.data.toList) = repL S) := Lib.hid (by
      unfold repL tSlice tKiller tSat
      rw [← hF2, ← hF3, ← hF4]
      simp [ByteArray.data_append])
    have HTA : Hid (∀ (F : Option Addr) (D : Nat) W, Ext w3 W → Rd W F (([(⟨#[115, 108, 105, 99, 101, 32]⟩ : ByteArray) ++ F2, (⟨#[107, 105, 108, 108, 101, 114, 32]⟩ : ByteArray) ++ F3, (⟨#[115, 97, 116, 117, 114, 97, 116, 105, 111, 110, 32]⟩ : ByteArray) ++ F4] : List ByteArray).map st) → Calls Tryd.prog 17 #[setT (newT S.cells S.rows) (.slice none 0 0), .slice F 3 D] W fun e w' => (∃ v f, e = .returned (.tuple #[setT (tuneAll (newT S.cells S.rows) (repL S)) v, f]) ∧ OS w' W.heap.size v (tuneAll (newT S.cells S.rows) (repL S)).log ∧ w'.ownsRow W.heap.size 4 1 f 3 ([true, true, true].map bo)) ∧ Ext W w') := Lib.hid (fun F D W hW hF => by
      have h9 := iTuneAll_any (newT S.cells S.rows) none 0 F D [(⟨#[115, 108, 105, 99, 101, 32]⟩ : ByteArray) ++ F2, (⟨#[107, 105, 108, 108, 101, 114, 32]⟩ : ByteArray) ++ F3, (⟨#[115, 97, 116, 117, 114, 97, 116, 105, 111, 110, 32]⟩ : ByteArray) ++ F4] W (HE.out.ext (HX3.out.1.trans hW)) (.inl rfl) (fun _ => rfl) (Nat.zero_le _) hF (by show 3 ≤ 1048576; omega) (fun x hx => by
        rcases List.mem_cons.1 hx with rfl | hx
        · rw [ByteArray.size_append]; show 6 + F2.size ≤ _; omega
        rcases List.mem_cons.1 hx with rfl | hx
        · rw [ByteArray.size_append]; show 7 + F3.size ≤ _; omega
        rcases List.mem_cons.1 hx with rfl | hx
        · rw [ByteArray.size_append]; show 11 + F4.size ≤ _; omega
        cases hx)
      rw [HLS.out, hra.1] at h9
      refine h9.mono ?_
      rintro e w' ⟨⟨v, f, h1, h2, h3, -⟩, h4⟩
      exact ⟨⟨v, f, h1, h2, h3⟩, h4⟩)
    have HTM : (tuneAll (newT S.cells S.rows) (repL S)).log.length ≤ 100 := by
      have h9 := tuneAll_max (repL S) (newT S.cells S.rows)
      have h8 : (newT S.cells S.rows).log.length = 0 := rfl
      omega
    have HRO : Hid (ba (report (tuneAll (newT S.cells S.rows) (repL S))) = ba (report S)) := Lib.hid (by rw [hra.2.2])
    have hNL : (newT S.cells S.rows).log.length = 0 := rfl
    have HR3 : Hid (((repF S).map ba)[2]? = some F2 ∧ ((repF S).map ba)[3]? = some F3 ∧ ((repF S).map ba)[4]? = some F4) := Lib.hid (by rw [← hF2, ← hF3, ← hF4]; exact ⟨rfl, rfl, rfl⟩)
    generalize tuneAll (newT S.cells S.rows) (repL S) = T at *
    generalize newT S.cells S.rows = N at *
    clear HREP HRF HRA HRL hok p hfr hra hrl hnw hf12 hF2 hF3 hF4 HLS hNL
    generalize ba (report S) = O at *
    go_wp2_with fail
    refine (HO.out _).mono ?_
    rintro e w5 ⟨rfl, hb5⟩
    have hB5 := hb4.trans hb5
    clear ac0 ac1 ac2 ac3 ac4 ac5 af hb4 hb5 HO
    go_wp2_with fail
    refine (HSP.out _ hB5).mono ?_
    rintro e w6 ⟨⟨v6, rfl, ho6⟩, hb6⟩
    obtain ⟨A6, c6, rfl, hr6, -⟩ := own_slice ho6
    have hB6 := hB5.trans hb6
    have kk := blk_ext HX3.out.2 hB6
    obtain ⟨ac0, ac1, ac2, ac3, ac4, ac5, af⟩ := blk6 kk
    clear kk
    go_wp2_with fail
    refine (HNW.out _).mono ?_
    rintro e w7 ⟨rfl, hb7⟩
    have hB7 := hB6.trans hb7
    have hr7 := hr6.ext hb7
    clear ac0 ac1 ac2 ac3 ac4 ac5 af hr6 ho6 hb6 hb7 hB5 hB6 HSP HNW
    go_upto_region 11 with fail
    obtain ⟨b7, hb7⟩ : ∃ b, b = w7.heap.size := ⟨_, rfl⟩
    have HX8 : Hid (Ext w3 (w7.alloc (.cells #[.int .i64 N.cells, .int .i64 N.rows, .float .f32 N.slice, .float .f32 N.least, .float .f32 N.sat, .slice none 0 0] 28)) ∧ SetBlk 28 (w7.alloc (.cells #[.int .i64 N.cells, .int .i64 N.rows, .float .f32 N.slice, .float .f32 N.least, .float .f32 N.sat, .slice none 0 0] 28)) b7 N (.slice none 0 0) ∧ Rd (w7.alloc (.cells #[.int .i64 N.cells, .int .i64 N.rows, .float .f32 N.slice, .float .f32 N.least, .float .f32 N.sat, .slice none 0 0] 28)) A6 (((repF S).map ba).map st)) := Lib.hid ⟨hB7.alloc _, by rw [hb7]; exact heap_alloc_new _ _, hr7.ext ((Ext.refl _).alloc _)⟩
    rw [← hb7]
    have hb37 : w3.heap.size ≤ b7 := by rw [hb7]; exact hB7.size
    generalize w7.alloc (.cells #[.int .i64 N.cells, .int .i64 N.rows, .float .f32 N.slice, .float .f32 N.least, .float .f32 N.sat, .slice none 0 0] 28) = w8 at *
    clear hb7 hB7 hr7
    obtain ⟨g, off, rfl, hgw, hcell⟩ : ∃ g off, A6 = some ⟨g, off, none⟩ ∧ g < w8.heap.size ∧ ∀ j u, (((repF S).map ba).map st)[j]? = some u → w8.cell? ⟨g, off + j, none⟩ = some u := by
      rcases HX8.out.2.2 with h | ⟨b, o, h1, h2, h3⟩
      · have h9 := congrArg List.length h
        simp [repF] at h9
      · exact ⟨b, o, h1, h2, h3⟩
    have KS : Hid (∀ W, Ext w8 W → W.cell? ⟨g, off + 2, none⟩ = some (.string F2) ∧ W.cell? ⟨g, off + 3, none⟩ = some (.string F3) ∧ W.cell? ⟨g, off + 4, none⟩ = some (.string F4) ∧ W.cell? ⟨b7, 0, none⟩ = some (.int .i64 N.cells) ∧ W.cell? ⟨b7, 1, none⟩ = some (.int .i64 N.rows) ∧ W.cell? ⟨b7, 2, none⟩ = some (.float .f32 N.slice) ∧ W.cell? ⟨b7, 3, none⟩ = some (.float .f32 N.least) ∧ W.cell? ⟨b7, 4, none⟩ = some (.float .f32 N.sat) ∧ W.cell? ⟨b7, 5, none⟩ = some (.slice none 0 0) ∧ ∀ j, W.frozen? ⟨b7, j, none⟩ = false) := Lib.hid (fun W hW => by
      have f1 := blk_ext HX8.out.2.1 hW
      obtain ⟨ac0, ac1, ac2, ac3, ac4, ac5, af⟩ := blk6 f1
      refine ⟨?_, ?_, ?_, ac0, ac1, ac2, ac3, ac4, ac5, af⟩
      · rw [Below.cell hW (p := ⟨g, off + 2, none⟩) hgw]; exact hcell 2 _ (by rw [List.getElem?_map, HR3.out.1]; rfl)
      · rw [Below.cell hW (p := ⟨g, off + 3, none⟩) hgw]; exact hcell 3 _ (by rw [List.getElem?_map, HR3.out.2.1]; rfl)
      · rw [Below.cell hW (p := ⟨g, off + 4, none⟩) hgw]; exact hcell 4 _ (by rw [List.getElem?_map, HR3.out.2.2]; rfl))
    clear hcell HR3
    obtain ⟨r0, r1, r2, r3, r4, r5, r6, r7, r8, r9⟩ := KS.out _ (Ext.refl _)
    obtain ⟨p0, p1, p2, p3, p4, p5, p6, p7, p8, p9⟩ := KS.out (w8.alloc (.cells #[.string ((⟨#[115, 108, 105, 99, 101, 32]⟩ : ByteArray) ++ F2), .string ((⟨#[107, 105, 108, 108, 101, 114, 32]⟩ : ByteArray) ++ F3), .string ((⟨#[115, 97, 116, 117, 114, 97, 116, 105, 111, 110, 32]⟩ : ByteArray) ++ F4)] 9)) ((Ext.refl _).alloc _)
    have n1 : ¬ 9223372036854775807 < 6 + F2.size := by omega
    have n2 : ¬ 9223372036854775807 < 7 + F3.size := by omega
    have n3 : ¬ 9223372036854775807 < 11 + F4.size := by omega
    go_cut [9] from 41 (fun s9 wr => ∃ (A9 : Option Addr) (c9 : Nat) (B9 : Option Addr) (d9 : Nat), s9 = .slice B9 3 d9 ∧ Hid (Ext w3 wr ∧ SetBlk 28 wr b7 T (.slice A9 T.log.length c9) ∧ Rd wr A9 (T.log.map st) ∧ Rd wr B9 ([true, true, true].map bo)))
    case first =>
      have HPP : Hid (∀ (w9 : World) (A9 : Option Addr) (c9 : Nat) (B9 : Option Addr) (d9 : Nat) (base : Nat), Ext w8 w9 → OS w9 w8.heap.size (.slice A9 T.log.length c9) T.log → w9.ownsRow w8.heap.size 4 1 (.slice B9 3 d9) 3 ([true, true, true].map bo) → Ext w3 (put6 w9 b7 T (.slice A9 T.log.length c9)) ∧ SetBlk 28 (put6 w9 b7 T (.slice A9 T.log.length c9)) b7 T (.slice A9 T.log.length c9) ∧ Rd (put6 w9 b7 T (.slice A9 T.log.length c9)) A9 (T.log.map st) ∧ Rd (put6 w9 b7 T (.slice A9 T.log.length c9)) B9 ([true, true, true].map bo)) := Lib.hid (fun w9 A9 c9 B9 d9 base hb9 ho9 hof9 => by
        have hz8 : b7 < w8.heap.size := (Array.getElem?_eq_some_iff.1 HX8.out.2.1).1
        exact ⟨put6_ext (HX8.out.1.trans hb9) (by omega) _ _, put6_blk (blk_ext HX8.out.2.1 hb9) _ _, own_rd (put6_own ho9 (fun d hd => by have := (own_in ho9 d hd).1; omega) _ _), own_rd (put6_own hof9 (fun d hd => by have := (own_in hof9 d hd).1; omega) _ _)⟩)
      have hz8 : b7 < w8.heap.size := (Array.getElem?_eq_some_iff.1 HX8.out.2.1).1
      go_region_law
        (first
          | (go_simp
             go_at_call 17
             refine (HTA.out _ _ _ (HX8.out.1.trans (by (repeat (first | exact Below.refl _ _ | assumption | refine below_drewN ?_ _ | refine Below.drew ?_ | refine Below.alloc ?_ (by first | exact Nat.le_refl _ | (simp; done) | (simp; omega)) _ | refine Below.setCell ?_ (by first | exact Nat.le_refl _ | (simp; done) | (simp; omega)) _)))) ((rd_new w8 _ _ _).ext (by (repeat (first | exact Below.refl _ _ | assumption | refine below_drewN ?_ _ | refine Below.drew ?_ | refine Below.alloc ?_ (by first | exact Nat.le_refl _ | (simp; done) | (simp; omega)) _ | refine Below.setCell ?_ (by first | exact Nat.le_refl _ | (simp; done) | (simp; omega)) _))))).mono ?_
             rintro e w9 ⟨⟨v9, f9, rfl, ho9, hof9⟩, hb9⟩
             replace hb9 := Ext.trans (a := w8) (by (repeat (first | exact Below.refl _ _ | assumption | refine below_drewN ?_ _ | refine Below.drew ?_ | refine Below.alloc ?_ (by first | exact Nat.le_refl _ | (simp; done) | (simp; omega)) _ | refine Below.setCell ?_ (by first | exact Nat.le_refl _ | (simp; done) | (simp; omega)) _))) hb9
             have hi9 := own_in ho9
             obtain ⟨A9, c9, rfl, -, -⟩ := own_slice ho9
             obtain ⟨B9, d9, rfl, -, -⟩ := own_slice hof9
             have HP : Hid (Ext w3 (put6 w9 b7 T (.slice A9 T.log.length c9)) ∧ SetBlk 28 (put6 w9 b7 T (.slice A9 T.log.length c9)) b7 T (.slice A9 T.log.length c9) ∧ Rd (put6 w9 b7 T (.slice A9 T.log.length c9)) A9 (T.log.map st) ∧ Rd (put6 w9 b7 T (.slice A9 T.log.length c9)) B9 ([true, true, true].map bo)) := HPP.out w9 _ _ _ _ 0 hb9 (own_base ho9 (by simp)) (own_base hof9 (by simp))
             obtain ⟨z0, z1, z2, z3, z4, z5, z6, z7, z8, z9⟩ := KS.out _ hb9
             clear ho9 hof9 hi9 hb9))
      all_goals
        simp only [Act.put, List.getElem_toArray, List.getElem_cons_succ, List.getElem_cons_zero, List.setIfInBounds_toArray, List.set_cons_succ, List.set_cons_zero]
        go_step
        go_step
        go_meet
        case rel => exact ⟨A9, c9, B9, d9, rfl, HP⟩
    case rest =>
      rename World => wn
      obtain ⟨A9, c9, B9, d9, rfl, HP⟩ := hcut
      clear KS HTA r0 r1 r2 r3 r4 r5 r6 r7 r8 r9 p0 p1 p2 p3 p4 p5 p6 p7 p8 p9
      have HSB : Hid (Calls Tryd.prog 40 #[.slice B9 3 d9, .slice (some ⟨wn.heap.size, 0, none⟩) 3 3] (wn.alloc (.cells #[.bool true, .bool true, .bool true] 4)) fun e w' => e = .returned (.bool true) ∧ ∃ n, w' = (wn.alloc (.cells #[.bool true, .bool true, .bool true] 4)).drewN n) := Lib.hid (sameBools_any B9 (some ⟨wn.heap.size, 0, none⟩) d9 3 [true, true, true] _ (HP.out.2.2.2.ext ((Ext.refl _).alloc _)) (rd_new _ _ _ _) (by unfold maxLen; show 3 ≤ _; omega))
      have HRX : Hid (∀ W, Ext wn W → Calls Tryd.prog 13 #[setT T (.slice A9 T.log.length c9)] W fun e w' => e = .returned (.string O) ∧ Ext W w') := Lib.hid (fun W hW => by
        have h9 := iReport_any T A9 c9 (by omega) W (HE.out.ext (HX3.out.1.trans (HP.out.1.trans hW)))
        rw [HRO.out] at h9; exact h9)
      have kk := blk_alloc (p := .cells #[.bool true, .bool true, .bool true] 4 (0, 0)) HP.out.2.1
      obtain ⟨ac0, ac1, ac2, ac3, ac4, ac5, af⟩ := blk6 kk
      clear kk
      go_wp2_with fail
      refine HSB.out.mono ?_
      rintro e w10 ⟨rfl, n10, rfl⟩
      go_wp2_with fail
      refine (HRX.out _ (by (repeat (first | exact Below.refl _ _ | assumption | refine below_drewN ?_ _ | refine Below.drew ?_ | refine Below.alloc ?_ (by first | exact Nat.le_refl _ | (simp; done) | (simp; omega)) _ | refine Below.setCell ?_ (by first | exact Nat.le_refl _ | (simp; done) | (simp; omega)) _)))).mono ?_
      rintro e w11 ⟨rfl, hb11⟩
      go_wp2_with fail
      go_ret
      exact ⟨rfl, (HX3.out.1.trans HP.out.1).trans (Ext.trans (by (repeat (first | exact Below.refl _ _ | assumption | refine below_drewN ?_ _ | refine Below.drew ?_ | refine Below.alloc ?_ (by first | exact Nat.le_refl _ | (simp; done) | (simp; omega)) _ | refine Below.setCell ?_ (by first | exact Nat.le_refl _ | (simp; done) | (simp; omega)) _))) hb11)⟩
end Go.Proofs.YtfmghfghhipmhaaDoor

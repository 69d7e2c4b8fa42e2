import Derived.Test.YtfmghfghhipmhaaDoorUe
import Derived.Deep.RegionLaw
namespace Go.Proofs.YtfmghfghhipmhaaDoor
open Go.RowKit Go.Fx Go.Sort
set_option linter.unusedVariables false
set_option linter.unusedSimpArgs false
set_option maxRecDepth 100000 in
set_option maxHeartbeats 4000000 in
theorem drawReport_any (A0 : Option Addr) (c0 : Nat) (code : List Int) (w : World) (h0 : Rd w A0 (code.map by8)) (hm0 : code.length ≤ 1048576) (hb0 : ∀ x ∈ code, 0 ≤ x ∧ x ≤ 255) :
    Calls Tryd.prog 37 #[.slice A0 code.length c0] w fun e w' => (∃ (S : TS) (v : Value), e = .returned (setT S v) ∧ OS w' w.heap.size v S.log ∧ S.log.length ≤ 101) ∧ Ext w w' := by
  have HR := Lib.hid h0
  have HB := Lib.hid hb0
  clear h0 hb0
  go_enter Tryd.func37, Tryd.ntmps37
  go_wp2_with fail
  have hal : Ext w (w.alloc (.cells #[.int .i64 0, .int .i64 0, .float .f32 0, .float .f32 0, .float .f32 0, .slice none 0 0] 28)) := (Ext.refl _).alloc _
  refine (new_any A0 c0 code _ (HR.out.ext hal) hm0 HB.out).mono ?_
  rintro e w1 ⟨⟨b, rfl, hbl, hbw, hcu⟩, hb1⟩
  have hbl2 : w.heap.size + 1 ≤ b := by rw [size_alloc1] at hbl; exact hbl
  have HX1 : Hid (Ext w w1 ∧ w1.heap[w.heap.size]? = some (.cells #[.int .i64 0, .int .i64 0, .float .f32 0, .float .f32 0, .float .f32 0, .slice none 0 0] 28 (0, 0))) := Lib.hid ⟨hal.trans hb1, blk_ext (heap_alloc_new _ _) hb1⟩
  clear hbl hb1 hal
  go_wp2_with fail
  refine (set_any b _ hcu).mono ?_
  rintro e w2 ⟨⟨S, v, rfl, ho, hl⟩, hc2⟩
  obtain ⟨A2, c2, rfl, -, -⟩ := own_slice ho
  have HX2 : Hid (Ext w w2 ∧ w2.heap[w.heap.size]? = some (.cells #[.int .i64 0, .int .i64 0, .float .f32 0, .float .f32 0, .float .f32 0, .slice none 0 0] 28 (0, 0)) ∧ OS w2 (w.heap.size + 1) (.slice A2 S.log.length c2) S.log) := Lib.hid ⟨ext_turn HX1.out.1 hc2.2 (by omega), blk_past_turn HX1.out.2 hc2.2 (.inl (by omega)), own_base ho (by omega)⟩
  clear ho hc2 hcu HX1
  have kk := HX2.out.2.1
  obtain ⟨ac0, ac1, ac2, ac3, ac4, ac5, af⟩ := blk6 kk
  clear kk
  go_wp2_with fail
  refine bodyPost_ret (v := setT S (.slice A2 S.log.length c2)) (by simp [results, Tryd.results37, go_sem, *]) rfl ⟨⟨S, (.slice A2 S.log.length c2), rfl, ?_, hl⟩, ?_⟩
  · exact put6_own (own_base HX2.out.2.2 (by omega)) (fun d hd => by have := (own_in HX2.out.2.2 d hd).1; omega) S (.slice A2 S.log.length c2)
  · exact put6_ext HX2.out.1 (Nat.le_refl _) S (.slice A2 S.log.length c2)
set_option maxRecDepth 100000 in
set_option maxHeartbeats 4000000 in
theorem drawTune_any (A0 : Option Addr) (c0 : Nat) (code : List Int) (w : World) (h0 : Rd w A0 (code.map by8)) (hm0 : code.length ≤ 1048576) (hb0 : ∀ x ∈ code, 0 ≤ x ∧ x ≤ 255) :
    Calls Tryd.prog 30 #[.slice A0 code.length c0] w fun e w' => (∃ (S : TS) (v : Value) (l : ByteArray), e = .returned (.tuple #[setT S v, .string l]) ∧ OS w' w.heap.size v S.log ∧ S.log.length ≤ 101 ∧ l.size ≤ 64) ∧ Ext w w' := by
  have HR := Lib.hid h0
  have HB := Lib.hid hb0
  clear h0 hb0
  go_enter Tryd.func30, Tryd.ntmps30
  go_wp2_with fail
  have hal : Ext w (w.alloc (.cells #[.int .i64 0, .int .i64 0, .float .f32 0, .float .f32 0, .float .f32 0, .slice none 0 0] 28)) := (Ext.refl _).alloc _
  refine (new_any A0 c0 code _ (HR.out.ext hal) hm0 HB.out).mono ?_
  rintro e w1 ⟨⟨b, rfl, hbl, hbw, hcu⟩, hb1⟩
  have hbl2 : w.heap.size + 1 ≤ b := by rw [size_alloc1] at hbl; exact hbl
  have HX1 : Hid (Ext w w1 ∧ w1.heap[w.heap.size]? = some (.cells #[.int .i64 0, .int .i64 0, .float .f32 0, .float .f32 0, .float .f32 0, .slice none 0 0] 28 (0, 0))) := Lib.hid ⟨hal.trans hb1, blk_ext (heap_alloc_new _ _) hb1⟩
  clear hbl hb1 hal
  go_wp2_with fail
  refine (set_any b _ hcu).mono ?_
  rintro e w2 ⟨⟨S, v, rfl, ho, hl⟩, hc2⟩
  obtain ⟨A2, c2, rfl, -, -⟩ := own_slice ho
  have HX2 : Hid (Ext w w2 ∧ w2.heap[w.heap.size]? = some (.cells #[.int .i64 0, .int .i64 0, .float .f32 0, .float .f32 0, .float .f32 0, .slice none 0 0] 28 (0, 0)) ∧ OS w2 (b + 1) (.slice A2 S.log.length c2) S.log ∧ Cu w2 b) := Lib.hid ⟨ext_turn HX1.out.1 hc2.2 (by omega), blk_past_turn HX1.out.2 hc2.2 (.inl (by omega)), own_base ho (by omega), hc2.1⟩
  have hz2 : b < w2.heap.size := Cu.lt hc2.1
  clear ho hc2 hcu HX1
  go_upto_region 3 with fail
  obtain ⟨bs, hbs⟩ : ∃ bs, bs = w2.heap.size := ⟨_, rfl⟩
  have HX3 : Hid (Ext w (w2.alloc (.cells #[.int .i64 S.cells, .int .i64 S.rows, .float .f32 S.slice, .float .f32 S.least, .float .f32 S.sat, .slice A2 S.log.length c2] 28)) ∧ (w2.alloc (.cells #[.int .i64 S.cells, .int .i64 S.rows, .float .f32 S.slice, .float .f32 S.least, .float .f32 S.sat, .slice A2 S.log.length c2] 28)).heap[w.heap.size]? = some (.cells #[.int .i64 0, .int .i64 0, .float .f32 0, .float .f32 0, .float .f32 0, .slice none 0 0] 28 (0, 0)) ∧ OS (w2.alloc (.cells #[.int .i64 S.cells, .int .i64 S.rows, .float .f32 S.slice, .float .f32 S.least, .float .f32 S.sat, .slice A2 S.log.length c2] 28)) (b + 1) (.slice A2 S.log.length c2) S.log ∧ Cu (w2.alloc (.cells #[.int .i64 S.cells, .int .i64 S.rows, .float .f32 S.slice, .float .f32 S.least, .float .f32 S.sat, .slice A2 S.log.length c2] 28)) b ∧ SetBlk 28 (w2.alloc (.cells #[.int .i64 S.cells, .int .i64 S.rows, .float .f32 S.slice, .float .f32 S.least, .float .f32 S.sat, .slice A2 S.log.length c2] 28)) bs S (.slice A2 S.log.length c2)) := Lib.hid ⟨HX2.out.1.alloc _, blk_alloc HX2.out.2.1, own_ext HX2.out.2.2.1 ((Ext.refl _).alloc _), HX2.out.2.2.2.ext ((Ext.refl _).alloc _), by rw [hbs]; exact heap_alloc_new _ _⟩
  rw [← hbs]
  have hbb : b < bs := by omega
  generalize w2.alloc (.cells #[.int .i64 S.cells, .int .i64 S.rows, .float .f32 S.slice, .float .f32 S.least, .float .f32 S.sat, .slice A2 S.log.length c2] 28) = w3 at *
  clear HX2 hbs hz2
  have KS : Hid (∀ W, CuT b w3 W → W.heap[w.heap.size]? = some (.cells #[.int .i64 0, .int .i64 0, .float .f32 0, .float .f32 0, .float .f32 0, .slice none 0 0] 28 (0, 0)) ∧ SetBlk 28 W bs S (.slice A2 S.log.length c2)) := Lib.hid (fun W hW => ⟨blk_past_turn HX3.out.2.1 hW.2 (.inl (by omega)), blk_past_turn HX3.out.2.2.2.2 hW.2 (.inr (by omega))⟩)
  have hcw : CuT b w3 w3 := CuT.refl HX3.out.2.2.2.1
  have kk := (KS.out _ hcw).1
  obtain ⟨zc0, zc1, zc2, zc3, zc4, zc5, zf⟩ := blk6 kk
  have kk := (KS.out _ hcw).2
  obtain ⟨ac0, ac1, ac2, ac3, ac4, ac5, af⟩ := blk6 kk
  clear kk
  go_region_law
    (first
      | (go_simp
         go_at_call 51
         refine (line_any b _ (hcw.1.ext (by (repeat (first | exact Below.refl _ _ | assumption | refine below_drewN ?_ _ | refine Below.drew ?_ | refine Below.alloc ?_ (by first | exact Nat.le_refl _ | (simp; done) | (simp; omega)) _ | refine Below.setCell ?_ (by first | exact Nat.le_refl _ | (simp; done) | (simp; omega)) _))))).mono ?_
         rintro e w4 ⟨⟨l, rfl, hl4⟩, hc4⟩
         replace hc4 := CuT.trans (hcw.ext (by (repeat (first | exact Below.refl _ _ | assumption | refine below_drewN ?_ _ | refine Below.drew ?_ | refine Below.alloc ?_ (by first | exact Nat.le_refl _ | (simp; done) | (simp; omega)) _ | refine Below.setCell ?_ (by first | exact Nat.le_refl _ | (simp; done) | (simp; omega)) _)))) hc4
         have kk := (KS.out _ hc4).1
         obtain ⟨yc0, yc1, yc2, yc3, yc4, yc5, yf⟩ := blk6 kk
         have kk := (KS.out _ hc4).2
         obtain ⟨xc0, xc1, xc2, xc3, xc4, xc5, xf⟩ := blk6 kk
         clear kk))
  all_goals
    simp only [Act.put, List.getElem_toArray, List.getElem_cons_succ, List.getElem_cons_zero, List.setIfInBounds_toArray, List.set_cons_succ, List.set_cons_zero]
    have HE4 : Hid (Ext w w4 ∧ OS w4 (w.heap.size + 1) (.slice A2 S.log.length c2) S.log) := Lib.hid ⟨ext_turn HX3.out.1 hc4.2 (by omega), own_base (own_up HX3.out.2.2.1 hc4.2 (by omega)) (by omega)⟩
    clear hc4 KS HX3 hcw
    go_step
    go_wp2_with fail
    refine bodyPost_ret (v := .tuple #[setT S (.slice A2 S.log.length c2), .string l]) (by simp [results, Tryd.results30, go_sem, *]) rfl ⟨⟨S, (.slice A2 S.log.length c2), l, rfl, ?_, hl, hl4⟩, ?_⟩
    · exact put6_own (own_base HE4.out.2 (by omega)) (fun d hd => by have := (own_in HE4.out.2 d hd).1; omega) S (.slice A2 S.log.length c2)
    · exact put6_ext HE4.out.1 (Nat.le_refl _) S (.slice A2 S.log.length c2)
end Go.Proofs.YtfmghfghhipmhaaDoor

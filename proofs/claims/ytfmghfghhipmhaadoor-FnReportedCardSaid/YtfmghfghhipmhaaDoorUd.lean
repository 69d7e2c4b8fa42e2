import Derived.Test.YtfmghfghhipmhaaDoorUc
namespace Go.Proofs.YtfmghfghhipmhaaDoor
open Go.RowKit Go.Fx Go.Sort
set_option linter.unusedVariables false
set_option linter.unusedSimpArgs false
set_option maxRecDepth 100000 in
set_option maxHeartbeats 4000000 in
theorem drawTuneAll_any (A0 : Option Addr) (c0 : Nat) (code : List Int) (w : World) (h0 : Rd w A0 (code.map by8)) (hm0 : code.length ≤ 1048576) (hb0 : ∀ x ∈ code, 0 ≤ x ∧ x ≤ 255) :
    Calls Tryd.prog 16 #[.slice A0 code.length c0] w fun e w' => (∃ (a b : Int) (ls : List ByteArray) (v : Value), e = .returned (.tuple #[setT (newTS a b) (.slice none 0 0), v]) ∧ OS w' w.heap.size v ls ∧ ls.length ≤ 5 ∧ ∀ x ∈ ls, x.size ≤ 64) ∧ Ext w w' := by
  have HR := Lib.hid h0
  have HB := Lib.hid hb0
  clear h0 hb0
  go_enter Tryd.func16, Tryd.ntmps16
  go_wp2_with fail
  have hal : Ext w (w.alloc (.cells #[.int .i64 0, .int .i64 0, .float .f32 0, .float .f32 0, .float .f32 0, .slice none 0 0] 28)) := (Ext.refl _).alloc _
  refine (new_any A0 c0 code _ (HR.out.ext hal) hm0 HB.out).mono ?_
  rintro e w1 ⟨⟨b, rfl, hbl, hbw, hcu⟩, hb1⟩
  have hbl2 : w.heap.size + 1 ≤ b := by rw [size_alloc1] at hbl; exact hbl
  have HX1 : Hid (Ext w w1 ∧ w1.heap[w.heap.size]? = some (.cells #[.int .i64 0, .int .i64 0, .float .f32 0, .float .f32 0, .float .f32 0, .slice none 0 0] 28 (0, 0))) := Lib.hid ⟨hal.trans hb1, blk_ext (heap_alloc_new _ _) hb1⟩
  clear hbl hb1 hal
  go_wp2_with fail
  refine (below_any b 5 _ hcu (by omega)).mono ?_
  rintro e w2 ⟨⟨y, rfl, hy0, hy1, hy2⟩, hc2⟩
  have hy := hy1 (by omega)
  clear hy1 hy2 hcu
  go_wp2_with fail
  refine (below_any b 5 _ hc2.1 (by omega)).mono ?_
  rintro e w3 ⟨⟨z, rfl, hz0, hz1, hz2⟩, hc3⟩
  have hz := hz1 (by omega)
  have hcc := hc2.trans hc3
  clear hz1 hz2 hc2 hc3
  go_wp2_with fail
  refine (sNewSet_any _ _ _).mono ?_
  rintro e w4 ⟨rfl, hb4⟩
  replace hcc := hcc.ext hb4
  rw [newSet_T]
  obtain ⟨q0, hq0⟩ : ∃ q, setOk (1 + y) (4 * z) 3250585600 1040187392 1065353216 0 = q := ⟨_, rfl⟩
  rw [hq0]
  generalize hS : newTS (1 + y) (4 * z) = S0
  have HS := Lib.hid hS
  obtain ⟨bs, hbs⟩ : ∃ bs, bs = w4.heap.size := ⟨_, rfl⟩
  have hbbs : b < bs := by rw [hbs]; exact Nat.lt_of_lt_of_le hbw hcc.2.size
  have HC5 : Hid (CuT b w1 (w4.alloc (.cells #[.int .i64 S0.cells, .int .i64 S0.rows, .float .f32 S0.slice, .float .f32 S0.least, .float .f32 S0.sat, .slice none 0 0] 28)) ∧ SetBlk 28 (w4.alloc (.cells #[.int .i64 S0.cells, .int .i64 S0.rows, .float .f32 S0.slice, .float .f32 S0.least, .float .f32 S0.sat, .slice none 0 0] 28)) bs S0 (.slice none 0 0)) := Lib.hid ⟨hcc.ext ((Ext.refl _).alloc _), by rw [hbs]; exact heap_alloc_new _ _⟩
  have hsz5 : (w4.alloc (.cells #[.int .i64 S0.cells, .int .i64 S0.rows, .float .f32 S0.slice, .float .f32 S0.least, .float .f32 S0.sat, .slice none 0 0] 28)).heap.size = bs + 1 := by rw [size_alloc1, hbs]
  clear hS hq0 hb4 hcc
  go_upto_region 3 with fail
  rw [← hbs]
  clear hbs
  generalize w4.alloc (.cells #[.int .i64 S0.cells, .int .i64 S0.rows, .float .f32 S0.slice, .float .f32 S0.least, .float .f32 S0.sat, .slice none 0 0] 28) = w5 at *
  have ho5 := own_new w5 (bs + 1) 9 1 (by omega)
  rw [hsz5] at ho5
  have HO5 := Lib.hid ho5
  have hc5 : CuT b w5 (w5.alloc (.cells #[] 9)) := (CuT.refl HC5.out.1.1).ext ((Ext.refl _).alloc _)
  clear ho5
  go_wp2_with fail
  refine (below_any b 6 _ hc5.1 (by omega)).mono ?_
  rintro e w6 ⟨⟨n, rfl, hn0, hn1, hn2⟩, hc6⟩
  have hn := hn1 (by omega)
  have HC6 : Hid (CuT b w5 w6 ∧ OS w6 (bs + 1) (.slice (some ⟨bs + 1, 0, none⟩) 0 0) []) := Lib.hid ⟨hc5.trans hc6, own_up HO5.out hc6.2 (by omega)⟩
  clear hn1 hn2 hc5 hc6 HO5
  go_wp2_with fail
  go_loopw [7, 8] (fun v i wr => ∃ (n : Int) (k : Nat) (A2 : Option Addr) (c2 : Nat) (ls : List ByteArray), 0 ≤ n ∧ k + n ≤ 5 ∧ i = .int .i64 n ∧ v = .slice A2 k c2 ∧ Hid (ls.length = k ∧ CuT b w5 wr ∧ OS wr (bs + 1) (.slice A2 ls.length c2) ls ∧ ∀ x ∈ ls, x.size ≤ 64)) (fun _ i _ => (intOf i).toNat)
  case atStart => exact ⟨n, 0, some ⟨bs + 1, 0, none⟩, 0, [], hn0, by omega, rfl, rfl, Lib.hid ⟨rfl, HC6.out.1, HC6.out.2, fun x hx => by cases hx⟩⟩
  case round =>
    rename World => wo
    obtain ⟨m, k, A2, c2, ls, hm, hkm, rfl, rfl, HX⟩ := hrel
    clear HC6
    by_cases hlt : 0 < m
    · go_wp2_with fail
      refine (line_any b _ HX.out.2.1.1).mono ?_
      rintro e w7 ⟨⟨l, rfl, hl⟩, hc7⟩
      have HO7 : Hid (w7.ownsRow (bs + 1) 9 1 (.slice A2 k c2) k (ls.map st)) := Lib.hid (by
        have h9 := own_up HX.out.2.2.1 hc7.2 (by omega)
        rw [HX.out.1] at h9; exact h9)
      have HC7 := Lib.hid (HX.out.2.1.trans hc7)
      have hlen := HX.out.1
      have HLS := Lib.hid HX.out.2.2.2
      have hsz7 := HC7.out.2.size
      have HLEN := Lib.hid hlen
      clear HX hc7 hlen
      go_wp2_with
        (at_builtin
         refine wpList_app rfl _ _ 23 rfl (bs + 1) 9 _ 1 16 Tryd.underlying23 info_str rfl (by omega) (.slice A2 k c2) k (ls.map st) rfl (own_ext HO7.out ((Ext.refl _).alloc _)) _ 1 1 _ rfl (rd_new _ _ _ _) rfl (fun h => by cases h) (by intro u hu; simp at hu; rcases hu with rfl; rfl) (by unfold maxLen; omega) (by omega) (by simp; omega) ?_
         intro v9 w9 ho9 hg9 hat)
      obtain ⟨A9, c9, rfl, -, -⟩ := own_slice ho9
      go_roundw
      case measure => simp [intOf]; omega
      case rel =>
        refine ⟨m - 1, k + 1, A9, c9, ls ++ [l], by omega, by omega, by go_num, rfl, Lib.hid ⟨by rw [List.length_append, HLEN.out]; rfl, CuT.grow (HC7.out.ext ((Ext.refl _).alloc _)) (own_ext HO7.out ((Ext.refl _).alloc _)) (by omega) hg9 (by omega), ?_, fun x hx => ?_⟩⟩
        · unfold OS
          rw [List.length_append, HLEN.out, List.map_append]
          exact ho9
        · rcases List.mem_append.1 hx with hx | hx
          · exact HLS.out x hx
          · simp at hx; subst hx; exact hl
    · obtain rfl : m = 0 := by omega
      have HB5 : Hid (SetBlk 28 wo bs S0 (.slice none 0 0) ∧ wo.heap[w.heap.size]? = some (.cells #[.int .i64 0, .int .i64 0, .float .f32 0, .float .f32 0, .float .f32 0, .slice none 0 0] 28 (0, 0)) ∧ Ext w wo) := Lib.hid (by
        have e1 := ext_turn HX1.out.1 HC5.out.1.2 (by omega)
        have r1 := blk_past_turn HX1.out.2 HC5.out.1.2 (.inl (by omega))
        exact ⟨blk_past_turn HC5.out.2 HX.out.2.1.2 (.inr (by omega)), blk_past_turn r1 HX.out.2.1.2 (.inl (by omega)), ext_turn e1 HX.out.2.1.2 (by omega)⟩)
      have kk := HB5.out.1
      obtain ⟨ac0, ac1, ac2, ac3, ac4, ac5, af⟩ := blk6 kk
      clear kk
      have kk := HB5.out.2.1
      obtain ⟨zc0, zc1, zc2, zc3, zc4, zc5, zf⟩ := blk6 kk
      clear kk
      have hk := HX.out.1
      subst hk
      go_wp2_with fail
      refine bodyPost_ret (v := .tuple #[setT S0 (.slice none 0 0), .slice A2 ls.length c2]) (by simp [results, Tryd.results16, go_sem, *]) rfl ⟨⟨1 + y, 4 * z, ls, .slice A2 ls.length c2, by rw [HS.out], ?_, by omega, HX.out.2.2.2⟩, ?_⟩
      · exact put6_own (own_base HX.out.2.2.1 (by omega)) (fun b hb => by have := (own_in HX.out.2.2.1 b hb).1; omega) S0 (.slice none 0 0)
      · exact put6_ext HB5.out.2.2 (Nat.le_refl _) S0 (.slice none 0 0)
end Go.Proofs.YtfmghfghhipmhaaDoor

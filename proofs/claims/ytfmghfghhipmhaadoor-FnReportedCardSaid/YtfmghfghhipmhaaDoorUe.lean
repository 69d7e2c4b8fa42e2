import Derived.Test.YtfmghfghhipmhaaDoorUd
import Derived.Deep.RegionHeld3
namespace Go.Proofs.YtfmghfghhipmhaaDoor
open Go.RowKit Go.Fx Go.Sort
set_option linter.unusedVariables false
set_option linter.unusedSimpArgs false
/-- the worlds of l08Set, behind the making of its set -/
structure LSt (w : World) (b bs : Nat) (W : World) (S : TS) (v : Value) : Prop where
  cu : CuT b w W
  box : SetBlk 28 W bs S v
  res : W.heap[w.heap.size]? = some (.cells #[.int .i64 0, .int .i64 0, .float .f32 0, .float .f32 0, .float .f32 0, .slice none 0 0] 28 (0, 0))
  log : OS W (w.heap.size + 1) v S.log
  nb : ∀ d, v.ownBlock = some d → d ≠ bs
  len : S.log.length ≤ 101
  hb : b < w.heap.size
  up : w.heap.size < bs
theorem LSt.turn {w W W' : World} {b bs : Nat} {S : TS} {v : Value} (h : LSt w b bs W S v) (c : CuT b W W') : LSt w b bs W' S v :=
  ⟨h.cu.trans c, blk_past_turn h.box c.2 (.inr (by have := h.hb; have := h.up; omega)), blk_past_turn h.res c.2 (.inr (by have := h.hb; omega)), own_up h.log c.2 (by have := h.hb; omega), h.nb, h.len, h.hb, h.up⟩
theorem LSt.ext {w W W' : World} {b bs : Nat} {S : TS} {v : Value} (h : LSt w b bs W S v) (c : Ext W W') : LSt w b bs W' S v :=
  ⟨h.cu.ext c, blk_ext h.box c, blk_ext h.res c, own_ext h.log c, h.nb, h.len, h.hb, h.up⟩
theorem LSt.cell {w W : World} {b bs : Nat} {S : TS} {v : Value} (h : LSt w b bs W S v) (j : Nat) (u : Value) : CuT b w (W.setCell ⟨bs, j, none⟩ u) ∧ (W.setCell ⟨bs, j, none⟩ u).heap[w.heap.size]? = some (.cells #[.int .i64 0, .int .i64 0, .float .f32 0, .float .f32 0, .float .f32 0, .slice none 0 0] 28 (0, 0)) ∧ OS (W.setCell ⟨bs, j, none⟩ u) (w.heap.size + 1) v S.log := by
  have hup := h.up
  refine ⟨h.cu.step (Below.setCell (Below.refl _ _) (by show w.heap.size ≤ bs; omega) _) h.hb, ?_, own_other h.log h.nb _⟩
  rw [Below.heap_setCell _ _ _ _ (by show w.heap.size ≠ bs; omega)]; exact h.res
theorem LSt.set0 {w W : World} {b bs : Nat} {S : TS} {v : Value} (h : LSt w b bs W S v) (x : Int) : LSt w b bs (W.setCell ⟨bs, 0, none⟩ (.int .i64 x)) { S with cells := x } v :=
  ⟨(h.cell 0 _).1, blk_put h.box 0 _, (h.cell 0 _).2.1, (h.cell 0 _).2.2, h.nb, h.len, h.hb, h.up⟩
theorem LSt.set1 {w W : World} {b bs : Nat} {S : TS} {v : Value} (h : LSt w b bs W S v) (x : Int) : LSt w b bs (W.setCell ⟨bs, 1, none⟩ (.int .i64 x)) { S with rows := x } v :=
  ⟨(h.cell 1 _).1, blk_put h.box 1 _, (h.cell 1 _).2.1, (h.cell 1 _).2.2, h.nb, h.len, h.hb, h.up⟩
theorem LSt.set2 {w W : World} {b bs : Nat} {S : TS} {v : Value} (h : LSt w b bs W S v) (x : Nat) : LSt w b bs (W.setCell ⟨bs, 2, none⟩ (.float .f32 x)) { S with slice := x } v :=
  ⟨(h.cell 2 _).1, blk_put h.box 2 _, (h.cell 2 _).2.1, (h.cell 2 _).2.2, h.nb, h.len, h.hb, h.up⟩
theorem LSt.set4 {w W : World} {b bs : Nat} {S : TS} {v : Value} (h : LSt w b bs W S v) (x : Nat) : LSt w b bs (W.setCell ⟨bs, 4, none⟩ (.float .f32 x)) { S with sat := x } v :=
  ⟨(h.cell 4 _).1, blk_put h.box 4 _, (h.cell 4 _).2.1, (h.cell 4 _).2.2, h.nb, h.len, h.hb, h.up⟩
theorem LSt.put {w W : World} {b bs : Nat} {S S' : TS} {v v' : Value} (h : LSt w b bs W S v) (ho : OS W (w.heap.size + 1) v' S'.log) (hn : ∀ d, v'.ownBlock = some d → d ≠ bs) (hl : S'.log.length ≤ 101) : LSt w b bs (put6 W bs S' v') S' v' := by
  have hup := h.up
  have hB : Below w.heap.size W (put6 W bs S' v') := by
    have s1 : w.heap.size ≤ bs := by omega
    unfold put6
    repeat refine Below.setCell ?_ s1 _
    exact Below.refl _ _
  refine ⟨h.cu.step hB h.hb, put6_blk h.box _ _, ?_, put6_own ho hn _ _, hn, hl, h.hb, h.up⟩
  rw [put6_heap (by omega)]; exact h.res
theorem LSt.grow {w W w9 : World} {b bs : Nat} {S : TS} {A : Option Addr} {c : Nat} {v9 : Value} {l : ByteArray} (h : LSt w b bs W S (.slice A S.log.length c)) {o : Obj} (hg : (W.alloc o).grownBy w9 (Value.slice A S.log.length c).ownBlock) (ho : w9.ownsRow (w.heap.size + 1) 9 1 v9 (S.log.length + 1) (S.log.map st ++ [.string l]))
    (hat : v9.ownBlock = (Value.slice A S.log.length c).ownBlock ∨ v9.ownBlock = some (W.alloc o).heap.size) (hl : S.log.length < 101) : LSt w b bs (w9.setCell ⟨bs, 5, none⟩ v9) { S with log := S.log ++ [l] } v9 := by
  have hup := h.up
  have hbz := (Array.getElem?_eq_some_iff.1 h.box).1
  have hn9 : ∀ d, v9.ownBlock = some d → d ≠ bs := fun d hd => by
    rcases hat with hat | hat
    · rw [hat] at hd; exact h.nb d hd
    · rw [hat] at hd
      injection hd with hd
      simp at hd
      omega
  have ho2 : OS w9 (w.heap.size + 1) v9 (S.log ++ [l]) := by
    unfold OS
    rw [List.length_append, List.map_append]; exact ho
  have hc : CuT b w w9 := CuT.grow (h.cu.ext ((Ext.refl _).alloc o)) (own_ext h.log ((Ext.refl _).alloc o)) (by omega) hg h.hb
  refine ⟨hc.step (Below.setCell (Below.refl _ _) (by show w.heap.size ≤ bs; omega) _) h.hb, blk_put (blk_past (blk_alloc h.box) hg (fun e => h.nb _ e.symm rfl)) 5 _, ?_, own_other ho2 hn9 _, hn9, ?_, h.hb, h.up⟩
  · rw [Below.heap_setCell _ _ _ _ (by show w.heap.size ≠ bs; omega)]
    exact blk_past (blk_alloc h.res) hg (fun e => by have := (own_in h.log _ e.symm).1; omega)
  · show (S.log ++ [l]).length ≤ 101
    rw [List.length_append, List.length_cons, List.length_nil]; omega
theorem put6_below {w W : World} (S : TS) (v : Value) : Below w.heap.size W (put6 W w.heap.size S v) := by
  have s1 : w.heap.size ≤ w.heap.size := Nat.le_refl _
  unfold put6
  repeat refine Below.setCell ?_ s1 _
  exact Below.refl _ _
def logLeft (w : World) (bs : Nat) : Nat := match w.cell? ⟨bs, 5, none⟩ with
  | some (.slice _ n _) => 101 - n
  | _ => 0
set_option maxRecDepth 100000 in
set_option maxHeartbeats 8000000 in
theorem set_any (b : Nat) (w : World) (h : Cu w b) :
    Calls Tryd.prog 62 #[.pointer (some ⟨b, 0, none⟩)] w fun e w' => (∃ (S : TS) (v : Value), e = .returned (setT S v) ∧ OS w' w.heap.size v S.log ∧ S.log.length ≤ 101) ∧ CuT b w w' := by
  have hbw := Cu.lt h
  go_enter Tryd.func62, Tryd.ntmps62
  go_wp2_with fail
  have hc1 : CuT b w (w.alloc (.cells #[.int .i64 0, .int .i64 0, .float .f32 0, .float .f32 0, .float .f32 0, .slice none 0 0] 28)) := (CuT.refl h).ext ((Ext.refl _).alloc _)
  have HR1 : Hid ((w.alloc (.cells #[.int .i64 0, .int .i64 0, .float .f32 0, .float .f32 0, .float .f32 0, .slice none 0 0] 28)).heap[w.heap.size]? = some (.cells #[.int .i64 0, .int .i64 0, .float .f32 0, .float .f32 0, .float .f32 0, .slice none 0 0] 28 (0, 0))) := Lib.hid (heap_alloc_new _ _)
  generalize w.alloc (.cells #[.int .i64 0, .int .i64 0, .float .f32 0, .float .f32 0, .float .f32 0, .slice none 0 0] 28) = w1 at *
  refine (below_any b 4 _ hc1.1 (by omega)).mono ?_
  rintro e w2 ⟨⟨y, rfl, hy0, hy1, hy2⟩, hc2⟩
  have hy := hy1 (by omega)
  clear hy1 hy2
  go_wp2_with fail
  refine (below_any b 2 _ hc2.1 (by omega)).mono ?_
  rintro e w3 ⟨⟨z, rfl, hz0, hz1, hz2⟩, hc3⟩
  have hz := hz1 (by omega)
  clear hz1 hz2
  go_wp2_with fail
  refine (sNewSet_any _ _ _).mono ?_
  rintro e w4 ⟨rfl, hb4⟩
  rw [newSet_T]
  obtain ⟨q0, hq0⟩ : ∃ q, setOk (1 + y) (4 * (1 + z)) 3250585600 1040187392 1065353216 0 = q := ⟨_, rfl⟩
  rw [hq0]
  have hlog : (newTS (1 + y) (4 * (1 + z))).log = [] := by unfold newTS; split <;> rfl
  generalize newTS (1 + y) (4 * (1 + z)) = S0 at *
  obtain ⟨bs, hbs⟩ : ∃ bs, bs = w4.heap.size := ⟨_, rfl⟩
  have hcc := ((hc1.trans hc2).trans hc3).ext hb4
  have hbbs : w.heap.size < bs := by
    rw [hbs]
    have h1 := (Array.getElem?_eq_some_iff.1 HR1.out).1
    have h2 := hc2.2.size
    have h3 := hc3.2.size
    have h4 := hb4.size
    omega
  have HL5 : Hid (LSt w b bs (w4.alloc (.cells #[.int .i64 S0.cells, .int .i64 S0.rows, .float .f32 S0.slice, .float .f32 S0.least, .float .f32 S0.sat, .slice none 0 0] 28)) S0 (.slice none 0 0)) := Lib.hid ⟨hcc.ext ((Ext.refl _).alloc _), by rw [hbs]; exact heap_alloc_new _ _, blk_alloc (blk_ext (blk_past_turn (blk_past_turn HR1.out hc2.2 (.inr (by omega))) hc3.2 (.inr (by omega))) hb4), by unfold OS; rw [hlog]; exact World.ownsRow_nil _ _ _ _, (fun d hd => by cases hd), by rw [hlog]; exact Nat.zero_le _, hbw, hbbs⟩
  have hsz5 : (w4.alloc (.cells #[.int .i64 S0.cells, .int .i64 S0.rows, .float .f32 S0.slice, .float .f32 S0.least, .float .f32 S0.sat, .slice none 0 0] 28)).heap.size = bs + 1 := by rw [size_alloc1, hbs]
  have HLOG := Lib.hid hlog
  clear hq0 hb4 hcc hc1 hc2 hc3 HR1 hlog
  go_upto_region 2 with fail
  rw [← hbs]
  clear hbs
  generalize w4.alloc (.cells #[.int .i64 S0.cells, .int .i64 S0.rows, .float .f32 S0.slice, .float .f32 S0.least, .float .f32 S0.sat, .slice none 0 0] 28) = w5 at *
  have ho5 := own_new w5 (bs + 1) 9 1 (by omega)
  rw [hsz5] at ho5
  have HO5 := Lib.hid ho5
  have hc5 : CuT b w5 (w5.alloc (.cells #[] 9)) := (CuT.refl HL5.out.cu.1).ext ((Ext.refl _).alloc _)
  clear ho5
  go_wp2_with fail
  refine (below_any b 4 _ hc5.1 (by omega)).mono ?_
  rintro e w6 ⟨⟨n, rfl, hn0, hn1, hn2⟩, hc6⟩
  have hn := hn1 (by omega)
  have HC6 : Hid (CuT b w5 w6 ∧ OS w6 (bs + 1) (.slice (some ⟨bs + 1, 0, none⟩) 0 0) []) := Lib.hid ⟨hc5.trans hc6, own_up HO5.out hc6.2 (by omega)⟩
  clear hn1 hn2 hc5 hc6 HO5
  go_wp2_with fail
  go_loopw [5, 6] (fun v i wr => ∃ (n : Int) (k : Nat) (A2 : Option Addr) (c2 : Nat) (ls : List ByteArray), 0 ≤ n ∧ k + n ≤ 3 ∧ i = .int .i64 n ∧ v = .slice A2 k c2 ∧ Hid (ls.length = k ∧ CuT b w5 wr ∧ OS wr (bs + 1) (.slice A2 ls.length c2) ls ∧ ∀ x ∈ ls, x.size ≤ 64)) (fun _ i _ => (intOf i).toNat)
  case atStart => exact ⟨n, 0, some ⟨bs + 1, 0, none⟩, 0, [], hn0, by omega, rfl, rfl, Lib.hid ⟨rfl, HC6.out.1, HC6.out.2, fun x hx => by cases hx⟩⟩
  case round =>
    rename World => wo
    obtain ⟨m, k, A2, c2, ls, hm, hkm, rfl, rfl, HX⟩ := hrel
    clear HC6
    have hbbs' : b < bs := by omega
    by_cases hlt : 0 < m
    · go_wp2_with fail
      refine (line_any b _ HX.out.2.1.1).mono ?_
      rintro e w7 ⟨⟨l, rfl, hl⟩, hc7⟩
      have HO7 : Hid (w7.ownsRow (bs + 1) 9 1 (.slice A2 k c2) k (ls.map st)) := Lib.hid (by
        have h9 := own_up HX.out.2.2.1 hc7.2 (by omega)
        rw [HX.out.1] at h9; exact h9)
      have HC7 := Lib.hid (HX.out.2.1.trans hc7)
      have hlen := HX.out.1
      have HLS := Lib.hid HX.out.2.2.2
      have hsz7 := HC7.out.2.size
      have HLEN := Lib.hid hlen
      clear HX hc7 hlen
      go_wp2_with
        (at_builtin
         refine wpList_app rfl _ _ 23 rfl (bs + 1) 9 _ 1 16 Tryd.underlying23 info_str rfl (by omega) (.slice A2 k c2) k (ls.map st) rfl (own_ext HO7.out ((Ext.refl _).alloc _)) _ 1 1 _ rfl (rd_new _ _ _ _) rfl (fun h => by cases h) (by intro u hu; simp at hu; rcases hu with rfl; rfl) (by unfold maxLen; omega) (by omega) (by simp; omega) ?_
         intro v9 w9 ho9 hg9 hat)
      obtain ⟨A9, c9, rfl, -, -⟩ := own_slice ho9
      go_roundw
      case measure => simp [intOf]; omega
      case rel =>
        refine ⟨m - 1, k + 1, A9, c9, ls ++ [l], by omega, by omega, by go_num, rfl, Lib.hid ⟨by rw [List.length_append, HLEN.out]; rfl, CuT.grow (HC7.out.ext ((Ext.refl _).alloc _)) (own_ext HO7.out ((Ext.refl _).alloc _)) (by omega) hg9 (by omega), ?_, fun x hx => ?_⟩⟩
        · unfold OS
          rw [List.length_append, HLEN.out, List.map_append]
          exact ho9
        · rcases List.mem_append.1 hx with hx | hx
          · exact HLS.out x hx
          · simp at hx; subst hx; exact hl
    · obtain rfl : m = 0 := by omega
      have hk := HX.out.1
      subst hk
      have HL6 := Lib.hid (HL5.out.turn HX.out.2.1)
      have hl0 : S0.log.length = 0 := by rw [HLOG.out]; rfl
      have hTA := sTuneAll_any S0 none 0 A2 c2 ls wo (.inl (by rw [HLOG.out]; rfl)) (fun _ => hl0) (by omega) (own_rd HX.out.2.2.1) (by omega) (fun x hx => by have := HX.out.2.2.2 x hx; omega)
      have hmx := tuneAll_max (ls.map (·.data.toList)) S0
      generalize tuneAll S0 (ls.map (·.data.toList)) = T at *
      generalize tuneFlags S0 (ls.map (·.data.toList)) = fl at *
      rw [hl0] at hTA hmx
      have HTA := Lib.hid hTA
      have hT100 : T.log.length ≤ 100 := by omega
      have hsz6 : bs < wo.heap.size := (Array.getElem?_eq_some_iff.1 HL6.out.box).1
      clear hTA hl0 HX HL5 hmx
      have kk := HL6.out.box
      obtain ⟨ac0, ac1, ac2, ac3, ac4, ac5, af⟩ := blk6 kk
      clear kk
      go_wp2_with fail
      refine HTA.out.mono ?_
      rintro e w8 ⟨⟨v8, f8, rfl, ho8, -, -⟩, hb8⟩
      obtain ⟨A8, c8, rfl, -, -⟩ := own_slice ho8
      have HL8 := Lib.hid (HL6.out.ext hb8)
      have HO8 : Hid (OS w8 (w.heap.size + 1) (.slice A8 T.log.length c8) T.log ∧ ∀ d, (Value.slice A8 T.log.length c8).ownBlock = some d → d ≠ bs) := Lib.hid ⟨own_base ho8 (by omega), fun d hd => by have := (own_in ho8 d hd).1; omega⟩
      clear ac0 ac1 ac2 ac3 ac4 ac5 af ho8 hb8 HTA HL6
      have kk := HL8.out.box
      obtain ⟨ac0, ac1, ac2, ac3, ac4, ac5, af⟩ := blk6 kk
      clear kk
      obtain ⟨W9, hW9⟩ : ∃ W9, W9 = put6 w8 bs T (.slice A8 T.log.length c8) := ⟨_, rfl⟩
      have HL9 : Hid (LSt w b bs W9 T (.slice A8 T.log.length c8)) := Lib.hid (by rw [hW9]; exact HL8.out.put HO8.out.1 HO8.out.2 (by omega))
      unfold put6 at hW9
      go_upto_region 8 with fail
      rw [← hW9]
      clear hW9 ac0 ac1 ac2 ac3 ac4 ac5 af HL8 HO8
      go_wp2_with fail
      refine (below_any b 20 _ HL9.out.cu.1 (by omega)).mono ?_
      rintro e w10 ⟨⟨x, rfl, hx0, hx1, hx2⟩, hc10⟩
      have HL10 := Lib.hid (HL9.out.turn hc10)
      clear hx1 hx2 hc10 HL9
      by_cases h0 : x = 0
      · subst h0
        go_wp2_with fail
        refine (number_any b _ HL10.out.cu.1).mono ?_
        rintro e w11 ⟨⟨u, rfl⟩, hc11⟩
        have HL11 := Lib.hid (HL10.out.turn hc11)
        clear hc11 HL10
        have kk := HL11.out.box
        obtain ⟨ac0, ac1, ac2, ac3, ac4, ac5, af⟩ := blk6 kk
        clear kk
        go_upto_region 20 with fail
        have HF := Lib.hid (HL11.out.set0 (wrap64 (u - 1)))
        generalize w11.setCell ⟨bs, 0, none⟩ (.int .i64 (wrap64 (u - 1))) = wf at HF ⊢
        generalize ({ T with cells := wrap64 (u - 1) } : TS) = S9 at HF
        clear ac0 ac1 ac2 ac3 ac4 ac5 af HL11
        have kk := HF.out.box
        obtain ⟨fc0, fc1, fc2, fc3, fc4, fc5, ff⟩ := blk6 kk
        clear kk
        have kk := HF.out.res
        obtain ⟨gc0, gc1, gc2, gc3, gc4, gc5, gf⟩ := blk6 kk
        clear kk
        go_wp2_with fail
        refine bodyPost_ret (v := setT S9 (.slice A8 T.log.length c8)) (by simp [results, Tryd.results62, go_sem, *]) rfl ⟨⟨S9, (.slice A8 T.log.length c8), rfl, ?_, HF.out.len⟩, ?_⟩
        · exact put6_own (own_base HF.out.log (by omega)) (fun d hd => by have := (own_in HF.out.log d hd).1; omega) S9 (.slice A8 T.log.length c8)
        · exact HF.out.cu.step (put6_below S9 (.slice A8 T.log.length c8)) HF.out.hb
      by_cases h1 : x = 1
      · subst h1
        go_wp2_with fail
        refine (number_any b _ HL10.out.cu.1).mono ?_
        rintro e w11 ⟨⟨u, rfl⟩, hc11⟩
        have HL11 := Lib.hid (HL10.out.turn hc11)
        clear hc11 HL10
        have kk := HL11.out.box
        obtain ⟨ac0, ac1, ac2, ac3, ac4, ac5, af⟩ := blk6 kk
        clear kk
        go_upto_region 20 with fail
        have HF := Lib.hid (HL11.out.set1 (wrap64 (u - 1)))
        generalize w11.setCell ⟨bs, 1, none⟩ (.int .i64 (wrap64 (u - 1))) = wf at HF ⊢
        generalize ({ T with rows := wrap64 (u - 1) } : TS) = S9 at HF
        clear ac0 ac1 ac2 ac3 ac4 ac5 af HL11
        have kk := HF.out.box
        obtain ⟨fc0, fc1, fc2, fc3, fc4, fc5, ff⟩ := blk6 kk
        clear kk
        have kk := HF.out.res
        obtain ⟨gc0, gc1, gc2, gc3, gc4, gc5, gf⟩ := blk6 kk
        clear kk
        go_wp2_with fail
        refine bodyPost_ret (v := setT S9 (.slice A8 T.log.length c8)) (by simp [results, Tryd.results62, go_sem, *]) rfl ⟨⟨S9, (.slice A8 T.log.length c8), rfl, ?_, HF.out.len⟩, ?_⟩
        · exact put6_own (own_base HF.out.log (by omega)) (fun d hd => by have := (own_in HF.out.log d hd).1; omega) S9 (.slice A8 T.log.length c8)
        · exact HF.out.cu.step (put6_below S9 (.slice A8 T.log.length c8)) HF.out.hb
      by_cases h2 : x = 2
      · subst h2
        go_wp2_with fail
        refine (odd_any b _ HL10.out.cu.1).mono ?_
        rintro e w11 ⟨⟨u, rfl⟩, hc11⟩
        have HL11 := Lib.hid (HL10.out.turn hc11)
        clear hc11 HL10
        have kk := HL11.out.box
        obtain ⟨ac0, ac1, ac2, ac3, ac4, ac5, af⟩ := blk6 kk
        clear kk
        go_upto_region 20 with (with_reducible refine upon_narrow Tryd.underlying63 Tryd.underlying22 ?_; intro fb fn hfb)
        have HF := Lib.hid ((HL11.out.ext (Ext.drewN _ fn)).set2 fb)
        generalize (w11.drewN fn).setCell ⟨bs, 2, none⟩ (.float .f32 fb) = wf at HF ⊢
        generalize ({ T with slice := fb } : TS) = S9 at HF
        clear hfb
        clear ac0 ac1 ac2 ac3 ac4 ac5 af HL11
        have kk := HF.out.box
        obtain ⟨fc0, fc1, fc2, fc3, fc4, fc5, ff⟩ := blk6 kk
        clear kk
        have kk := HF.out.res
        obtain ⟨gc0, gc1, gc2, gc3, gc4, gc5, gf⟩ := blk6 kk
        clear kk
        go_wp2_with fail
        refine bodyPost_ret (v := setT S9 (.slice A8 T.log.length c8)) (by simp [results, Tryd.results62, go_sem, *]) rfl ⟨⟨S9, (.slice A8 T.log.length c8), rfl, ?_, HF.out.len⟩, ?_⟩
        · exact put6_own (own_base HF.out.log (by omega)) (fun d hd => by have := (own_in HF.out.log d hd).1; omega) S9 (.slice A8 T.log.length c8)
        · exact HF.out.cu.step (put6_below S9 (.slice A8 T.log.length c8)) HF.out.hb
      by_cases h3 : x = 3
      · subst h3
        go_wp2_with fail
        refine (real_any b 20 _ HL10.out.cu.1 (by omega) (by omega)).mono ?_
        rintro e w11 ⟨⟨u, rfl⟩, hc11⟩
        have HL11 := Lib.hid (HL10.out.turn hc11)
        clear hc11 HL10
        have kk := HL11.out.box
        obtain ⟨ac0, ac1, ac2, ac3, ac4, ac5, af⟩ := blk6 kk
        clear kk
        go_upto_region 20 with (with_reducible refine upon_narrow Tryd.underlying63 Tryd.underlying22 ?_; intro fb fn hfb)
        have HF := Lib.hid ((HL11.out.ext (Ext.drewN _ fn)).set4 fb)
        generalize (w11.drewN fn).setCell ⟨bs, 4, none⟩ (.float .f32 fb) = wf at HF ⊢
        generalize ({ T with sat := fb } : TS) = S9 at HF
        clear hfb
        clear ac0 ac1 ac2 ac3 ac4 ac5 af HL11
        have kk := HF.out.box
        obtain ⟨fc0, fc1, fc2, fc3, fc4, fc5, ff⟩ := blk6 kk
        clear kk
        have kk := HF.out.res
        obtain ⟨gc0, gc1, gc2, gc3, gc4, gc5, gf⟩ := blk6 kk
        clear kk
        go_wp2_with fail
        refine bodyPost_ret (v := setT S9 (.slice A8 T.log.length c8)) (by simp [results, Tryd.results62, go_sem, *]) rfl ⟨⟨S9, (.slice A8 T.log.length c8), rfl, ?_, HF.out.len⟩, ?_⟩
        · exact put6_own (own_base HF.out.log (by omega)) (fun d hd => by have := (own_in HF.out.log d hd).1; omega) S9 (.slice A8 T.log.length c8)
        · exact HF.out.cu.step (put6_below S9 (.slice A8 T.log.length c8)) HF.out.hb
      by_cases h4 : x = 4
      · subst h4
        have hT64 : (T.log.length : Int) ≤ 100 := by omega
        go_wp2_with fail
        go_loopw [] (fun wr => ∃ (S' : TS) (A9 : Option Addr) (c9 : Nat), Hid (LSt w b bs wr S' (.slice A9 S'.log.length c9))) (fun wr => logLeft wr bs)
        case atStart => exact ⟨T, A8, c8, HL10⟩
        case round =>
          obtain ⟨S', A9, c9, HQ⟩ := hrel
          clear HL10
          have hq1 := HQ.out.len
          have hq2 : (S'.log.length : Int) ≤ 101 := by omega
          have KS : Hid (∀ W, CuT b wr W → W.cell? ⟨bs, 5, none⟩ = some (.slice A9 S'.log.length c9)) := Lib.hid (fun W hW => blk_cell (HQ.out.turn hW).box rfl)
          have hcw : CuT b wr wr := CuT.refl HQ.out.cu.1
          have k5 := KS.out _ hcw
          have HMS : Hid (logLeft wr bs = 101 - S'.log.length) := Lib.hid (by unfold logLeft; rw [k5])
          go_wp2_with fail
          go_region_held3 (fun W => W.cell? ⟨bs, 5, none⟩ = some (.slice A9 S'.log.length c9))
            (first | exact KS.out _ hc12 | exact KS.out _ (hcw.ext (by (repeat (first | exact Below.refl _ _ | assumption | refine below_drewN ?_ _ | refine Below.drew ?_ | refine Below.alloc ?_ (by first | exact Nat.le_refl _ | (simp; done) | (simp; omega)) _ | refine Below.setCell ?_ (by first | exact Nat.le_refl _ | (simp; done) | (simp; omega)) _)))))
            (first | (go_at_call 50; refine (below_any b 2 _ (HQ.out.cu.1.ext (by (repeat (first | exact Below.refl _ _ | assumption | refine below_drewN ?_ _ | refine Below.drew ?_ | refine Below.alloc ?_ (by first | exact Nat.le_refl _ | (simp; done) | (simp; omega)) _ | refine Below.setCell ?_ (by first | exact Nat.le_refl _ | (simp; done) | (simp; omega)) _)))) (by omega)).mono ?_; rintro e w12 ⟨⟨t, rfl, ht0, ht1, ht2⟩, hc12⟩; have ht := ht1 (by omega); replace hc12 := CuT.trans (hcw.ext (by (repeat (first | exact Below.refl _ _ | assumption | refine below_drewN ?_ _ | refine Below.drew ?_ | refine Below.alloc ?_ (by first | exact Nat.le_refl _ | (simp; done) | (simp; omega)) _ | refine Below.setCell ?_ (by first | exact Nat.le_refl _ | (simp; done) | (simp; omega)) _)))) hc12))
          have hwr : IntKind.i64.wrap (100 + t) = 100 + t := by rw [IntKind.wrap_i64]; omega
          rw [hwr]
          clear ht1 ht2 hwr
          have HQ12 := Lib.hid (HQ.out.turn hc12)
          clear KS HQ hc12 hcw k5
          by_cases hlt : (S'.log.length : Int) < 100 + t
          · have hq3 : S'.log.length < 101 := by omega
            have kk := HQ12.out.box
            obtain ⟨ac0, ac1, ac2, ac3, ac4, ac5, af⟩ := blk6 kk
            clear kk
            have hz12 := (Array.getElem?_eq_some_iff.1 HQ12.out.box).1
            go_wp2_with
              (at_builtin
               refine wpList_app rfl _ _ 23 rfl (w.heap.size + 1) 9 _ 1 16 Tryd.underlying23 info_str rfl (by omega) (.slice A9 S'.log.length c9) S'.log.length (S'.log.map st) rfl (own_ext HQ12.out.log ((Ext.refl _).alloc _)) _ 1 1 _ rfl (rd_new _ _ _ _) rfl (fun h => by cases h) (by intro u hu; simp at hu; rcases hu with rfl; rfl) (by unfold maxLen; omega) (by omega) (by simp; omega) ?_
               intro v9 w9 ho9 hg9 hat
               obtain ⟨Ax, cx, rfl, -, -⟩ := own_slice ho9
               have kk := blk_past (blk_alloc (o := _) HQ12.out.box) hg9 (fun e => HQ12.out.nb _ e.symm rfl)
               clear ac0 ac1 ac2 ac3 ac4 ac5 af
               obtain ⟨ac0, ac1, ac2, ac3, ac4, ac5, af⟩ := blk6 kk
               clear kk)
            have HG := Lib.hid (HQ12.out.grow hg9 ho9 hat hq3)
            obtain ⟨S2, hS2⟩ : ∃ S2 : TS, { S' with log := S'.log ++ [⟨#[115, 108, 105, 99, 101, 32, 48, 46, 48, 48, 48]⟩] } = S2 := ⟨_, rfl⟩
            have e2 : S2.log.length = S'.log.length + 1 := by rw [← hS2]; simp
            rw [hS2, ← e2] at HG
            rw [← e2]
            have HD : Hid (logLeft (w9.setCell ⟨bs, 5, none⟩ (.slice Ax S2.log.length cx)) bs < logLeft wr bs) := Lib.hid (by
              have e5 : logLeft (w9.setCell ⟨bs, 5, none⟩ (.slice Ax S2.log.length cx)) bs = 101 - S2.log.length := by
                have h5 : (w9.setCell ⟨bs, 5, none⟩ (.slice Ax S2.log.length cx)).cell? ⟨bs, 5, none⟩ = some (.slice Ax S2.log.length cx) := blk_cell HG.out.box rfl
                unfold logLeft
                rw [h5]
              rw [HMS.out, e5]; omega)
            clear hS2 e2 hat hg9 ho9
            generalize w9.setCell ⟨bs, 5, none⟩ (.slice Ax S2.log.length cx) = wz at *
            exact ⟨⟨S2, Ax, cx, HG⟩, HD.out⟩
          · have hbs0 := HQ12.out.up

            go_upto_region 20 with fail
            have HF := HQ12
            have kk := HF.out.box
            obtain ⟨fc0, fc1, fc2, fc3, fc4, fc5, ff⟩ := blk6 kk
            clear kk
            have kk := HF.out.res
            obtain ⟨gc0, gc1, gc2, gc3, gc4, gc5, gf⟩ := blk6 kk
            clear kk
            go_wp2_with fail
            refine bodyPost_ret (v := setT S' (.slice A9 S'.log.length c9)) (by simp [results, Tryd.results62, go_sem, *]) rfl ⟨⟨S', (.slice A9 S'.log.length c9), rfl, ?_, HF.out.len⟩, ?_⟩
            · exact put6_own (own_base HF.out.log (by omega)) (fun d hd => by have := (own_in HF.out.log d hd).1; omega) S' (.slice A9 S'.log.length c9)
            · exact HF.out.cu.step (put6_below S' (.slice A9 S'.log.length c9)) HF.out.hb
      have HF := HL10
      go_upto_region 20 with fail
      have kk := HF.out.box
      obtain ⟨fc0, fc1, fc2, fc3, fc4, fc5, ff⟩ := blk6 kk
      clear kk
      have kk := HF.out.res
      obtain ⟨gc0, gc1, gc2, gc3, gc4, gc5, gf⟩ := blk6 kk
      clear kk
      go_wp2_with fail
      refine bodyPost_ret (v := setT T (.slice A8 T.log.length c8)) (by simp [results, Tryd.results62, go_sem, *]) rfl ⟨⟨T, (.slice A8 T.log.length c8), rfl, ?_, HF.out.len⟩, ?_⟩
      · exact put6_own (own_base HF.out.log (by omega)) (fun d hd => by have := (own_in HF.out.log d hd).1; omega) T (.slice A8 T.log.length c8)
      · exact HF.out.cu.step (put6_below T (.slice A8 T.log.length c8)) HF.out.hb
end Go.Proofs.YtfmghfghhipmhaaDoor

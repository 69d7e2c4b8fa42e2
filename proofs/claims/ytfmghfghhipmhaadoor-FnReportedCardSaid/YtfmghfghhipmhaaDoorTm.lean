import Derived.Test.YtfmghfghhipmhaaDoorTl
import Derived.Test.YtfmghfghhipmhaaDoorK2
import Derived.Deep.RegionHeld3
import Derived.Deep.RegionLaw
namespace Go.Fx
open Go.Lib Go.RowKit
set_option linter.unusedVariables false
set_option linter.unusedSimpArgs false
/-- a world in which the set's box and the place of the answer stand -/
structure TuneAt (E : TypeId) (w W : World) (s : TS) (V : Value) : Prop where
  ext : Ext w W
  box : SetBlk E W w.heap.size s V
  res : W.heap[w.heap.size + 1]? = some (.cells #[.int .i64 0, .int .i64 0, .float .f32 0, .float .f32 0, .float .f32 0, .slice none 0 0] E (0, 0))
theorem TuneAt.start (E : TypeId) (w : World) (s : TS) (V : Value) : TuneAt E w ((w.alloc (.cells #[.int .i64 s.cells, .int .i64 s.rows, .float .f32 s.slice, .float .f32 s.least, .float .f32 s.sat, V] E (0, 0))).alloc (.cells #[.int .i64 0, .int .i64 0, .float .f32 0, .float .f32 0, .float .f32 0, .slice none 0 0] E (0, 0))) s V :=
  ⟨((Ext.refl _).alloc _).alloc _, blk_alloc (heap_alloc_new _ _), by rw [show w.heap.size + 1 = (w.alloc _).heap.size by simp]; exact heap_alloc_new _ _⟩
theorem TuneAt.later {E : TypeId} {w W W' : World} {s : TS} {V : Value} (h : TuneAt E w W s V) (e : Ext W W') : TuneAt E w W' s V :=
  ⟨h.ext.trans e, blk_ext h.box e, blk_ext h.res e⟩
theorem TuneAt.size {E : TypeId} {w W : World} {s : TS} {V : Value} (h : TuneAt E w W s V) : w.heap.size + 2 ≤ W.heap.size := (Array.getElem?_eq_some_iff.1 h.res).1
theorem TuneAt.turn {E : TypeId} {w W W' : World} {s : TS} {V : Value} {b : Nat} (h : TuneAt E w W s V) (ht : Turn b (b + 1) W W') (hb : w.heap.size + 2 ≤ b) : TuneAt E w W' s V :=
  ⟨ext_turn h.ext ht (by omega), blk_past_turn h.box ht (.inl (by omega)), blk_past_turn h.res ht (.inl (by omega))⟩
theorem alloc_set6 (w : World) (E : TypeId) (u0 u1 u2 u3 u4 u5 c0 c1 c2 c3 c4 c5 : Value) :
    ((((((((w.alloc (.cells #[u0, u1, u2, u3, u4, u5] E (0, 0))).setCell ⟨w.heap.size, 0, none⟩ c0).setCell ⟨w.heap.size, 1, none⟩ c1).setCell ⟨w.heap.size, 2, none⟩ c2).setCell ⟨w.heap.size, 3, none⟩ c3).setCell ⟨w.heap.size, 4, none⟩ c4).setCell ⟨w.heap.size, 5, none⟩ c5)).heap[w.heap.size]? = some (.cells #[c0, c1, c2, c3, c4, c5] E (0, 0)) :=
  blk_put (blk_put (blk_put (blk_put (blk_put (blk_put (heap_alloc_new _ _) 0 c0) 1 c1) 2 c2) 3 c3) 4 c4) 5 c5
theorem alloc_ext6 (w : World) (E : TypeId) (u0 u1 u2 u3 u4 u5 c0 c1 c2 c3 c4 c5 : Value) :
    Ext w ((((((((w.alloc (.cells #[u0, u1, u2, u3, u4, u5] E (0, 0))).setCell ⟨w.heap.size, 0, none⟩ c0).setCell ⟨w.heap.size, 1, none⟩ c1).setCell ⟨w.heap.size, 2, none⟩ c2).setCell ⟨w.heap.size, 3, none⟩ c3).setCell ⟨w.heap.size, 4, none⟩ c4).setCell ⟨w.heap.size, 5, none⟩ c5)) := by
  have s1 : w.heap.size ≤ w.heap.size := Nat.le_refl _
  repeat refine Below.setCell ?_ s1 _
  exact (Ext.refl _).alloc _
theorem rd_past_turn {w w' : World} {A : Option Addr} {cs : List Value} {lo hi : Nat} (h : Rd w A cs) (ht : Turn lo hi w w') (hA : ∀ a, A = some a → a.block < lo ∨ hi ≤ a.block) : Rd w' A cs := by
  rcases h with h | ⟨b, off, hAd, hb, hc⟩
  · exact .inl h
  · refine .inr ⟨b, off, hAd, Nat.lt_of_lt_of_le hb ht.size, fun j u hu => ?_⟩
    rw [World.cell?_of_block (w := w) (a := ⟨b, off + j, none⟩) (ht.block b hb (hA _ hAd))]
    exact hc j u hu
theorem mem_unw : ∀ {fs : List Txt} {f : Txt}, f ∈ fs → f.length ≤ (unw fs).length
  | [x], f, h => by
    simp at h; subst h
    unfold unw joinTail; simp
  | x :: y :: r, f, h => by
    rw [unw_two]
    rcases List.mem_cons.1 h with rfl | h
    · simp
    · have := mem_unw (fs := y :: r) h
      simp only [List.length_append, List.length_cons]; omega
theorem fields_few {l : Txt} (h : fieldsOk l = true) : (flds [] l).length ≤ 24 ∧ ∀ f ∈ flds [] l, f.length ≤ 600 := by
  have h1 := unw_len l []
  unfold fieldsOk at h
  simp only [Bool.and_eq_true, decide_eq_true_eq] at h
  refine ⟨h.2, fun f hf => ?_⟩
  have := mem_unw hf
  have := h.1.1
  simp only [List.length_nil] at h1; omega
theorem tune_fail {s : TS} {l : Txt} (h : tuneOk s l = false) : tune s l = s ∧ tuneOk s l = false := ⟨tune_no h, h⟩
end Go.Fx
namespace Go.Proofs.YtfmghfghhipmhaaDoor
open Go.RowKit Go.Fx Go.Sort
set_option linter.unusedVariables false
set_option linter.unusedSimpArgs false
theorem join_any (F : Option Addr) (D : Nat) (fs : List Txt) (w : World) (hF : Rd w F ((fs.map ba).map st)) (hcap : fs.length ≤ D) (hn : fs.length ≤ 24) (hlen : (unw fs).length ≤ 1048576) :
    Calls Tryd.prog 46 #[.slice F fs.length D, .string ⟨#[32]⟩] w fun e w' => e = .returned (.string (ba (unw fs))) ∧ Ext w w' := by
  rcases hF with hF | ⟨b, off, rfl, hb, hc⟩
  · have h0 : fs = [] := by simpa using hF
    subst h0
    refine (Tryd.strings_Join_none F D ⟨#[32]⟩ w).mono ?_
    rintro e w1 ⟨rfl, rfl⟩
    exact ⟨rfl, Ext.refl _⟩
  · have e1 : (fs.map ba).map (·.data.toList) = fs := by simp [List.map_map, Function.comp_def]
    have h := Tryd.strings_Join b off D (fs.map ba) ⟨#[32]⟩ w (fun j x hx => hc j _ (by rw [List.getElem?_map, hx]; rfl)) hb (by rw [List.length_map]; omega) (by rw [List.length_map]; exact hcap) (by rw [e1, show Lib.join fs (⟨#[32]⟩ : ByteArray).data.toList = unw fs from unw_join fs]; omega)
    rw [e1, show Lib.join fs (⟨#[32]⟩ : ByteArray).data.toList = unw fs from unw_join fs, List.length_map] at h
    exact h
set_option maxRecDepth 100000 in
set_option maxHeartbeats 8000000 in
theorem iTune_any (s : TS) (A : Option Addr) (c : Nat) (l : ByteArray) (w : World) (E : Env w) (h : Rd w A (s.log.map st)) (hA : A = none → s.log.length = 0) (hn : s.log.length ≤ 1048576) (hl : l.size ≤ 1048576) :
    Calls Tryd.prog 22 #[setT s (.slice A s.log.length c), .string l] w fun e w' => (∃ v, e = .returned (.tuple #[setT (tune s l.data.toList) v, .bool (tuneOk s l.data.toList)]) ∧ OS w' w.heap.size v (tune s l.data.toList).log) ∧ Ext w w' := by
  have HE := Lib.hid E
  have HR := Lib.hid h
  clear E h
  go_enter Tryd.func22, Tryd.ntmps22
  have HT0 := Lib.hid (TuneAt.start 28 w s (.slice A s.log.length c))
  go_wp2_with fail
  refine (iCopySet_any _ _ _ _ _ A c s.log _ (HR.out.ext HT0.out.ext) hA hn).mono ?_
  rintro e w1 ⟨⟨v1, rfl, ho1⟩, hb1⟩
  obtain ⟨A1, c1, rfl, -, -⟩ := own_slice ho1
  have HT1 := Lib.hid (HT0.out.later hb1)
  have hz : ((w.alloc (.cells #[.int .i64 s.cells, .int .i64 s.rows, .float .f32 s.slice, .float .f32 s.least, .float .f32 s.sat, .slice A s.log.length c] 28 (0, 0))).alloc (.cells #[.int .i64 0, .int .i64 0, .float .f32 0, .float .f32 0, .float .f32 0, .slice none 0 0] 28 (0, 0))).heap.size = w.heap.size + 2 := by simp
  rw [hz] at ho1
  have HO1 := Lib.hid ho1
  clear ho1 hz HT0
  go_wp2_with fail
  have HT3 := Lib.hid (HT1.out.later ((Ext.refl _).alloc (.cells #[.int .i64 s.cells, .int .i64 s.rows, .float .f32 s.slice, .float .f32 s.least, .float .f32 s.sat, .slice A1 s.log.length c1] 28 (0, 0))))
  refine (iSplitFields_any l _ (HE.out.ext HT3.out.ext) (by unfold maxLen; omega)).mono ?_
  rintro e w4 ⟨⟨vf, rfl, hof⟩, hb4⟩
  obtain ⟨bs, hbs⟩ : ∃ bs, bs = w1.heap.size := ⟨_, rfl⟩
  have HB4 : Hid (SetBlk 28 w4 bs s (.slice A1 s.log.length c1)) := Lib.hid (by rw [hbs]; exact blk_ext (heap_alloc_new _ _) hb4)
  have HT4 := Lib.hid (HT3.out.later hb4)
  have HO4 := Lib.hid (own_ext (own_ext HO1.out ((Ext.refl _).alloc _)) hb4)
  have HI1 : Hid (In (.slice A1 s.log.length c1) (w.heap.size + 2) bs) := Lib.hid (by rw [hbs]; exact own_in HO1.out)
  have hbsz : w.heap.size + 2 ≤ bs := by rw [hbs]; exact HT1.out.size
  have HE4 := Lib.hid (HE.out.ext HT4.out.ext)
  have hfl : ((fields l.data.toList).map ba).length = (fields l.data.toList).length := List.length_map _
  unfold OT OS at hof
  rw [hfl] at hof
  have hcapf := fun F D (e : vf = .slice F (fields l.data.toList).length D) => own_cap (e ▸ hof)
  obtain ⟨F, D, rfl, hrf, -⟩ := own_slice hof
  have hcapf := hcapf F D rfl
  have HRF := Lib.hid hrf
  have HIF : Hid (∀ a, F = some a → bs + 1 ≤ a.block) := Lib.hid (fun a ha => by subst ha; have := (own_in hof a.block rfl).1; simp at this; omega)
  clear hrf hof hb4 HT3 HO1 HT1 hfl
  rw [← hbs]
  clear hbs
  have hokd : s.ok = setOk s.cells s.rows s.slice s.least s.sat s.log.length := rfl
  have HOKD := Lib.hid hokd
  clear hokd
  have kk := HT4.out.box
  obtain ⟨ac0, ac1, ac2, ac3, ac4, ac5, af⟩ := blk6 kk
  clear kk
  go_wp2_with fail
  refine (iSetOk_any _ _ _ _ _ _ _ _ (by omega) _).mono ?_
  rintro e w5 ⟨rfl, hb5⟩
  have HT5 := Lib.hid (HT4.out.later hb5)
  have HB5 := Lib.hid (blk_ext HB4.out hb5)
  have HO5 := Lib.hid (own_ext HO4.out hb5)
  have HE5 := Lib.hid (HE4.out.ext hb5)
  have HRF5 := Lib.hid (HRF.out.ext hb5)
  clear ac0 ac1 ac2 ac3 ac4 ac5 af HT4 HB4 HO4 HE4 HRF hb5
  rw [← HOKD.out]
  cases hok : s.ok
  · have HN := Lib.hid (tune_fail (s := s) (l := l.data.toList) (by unfold tuneOk; rw [hok]; rfl))
    clear hok
    
    have kk := HT5.out.box
    obtain ⟨pc0, pc1, pc2, pc3, pc4, pc5, pf⟩ := blk6 kk
    clear kk
    go_wp2_with fail
    refine (iCopySet_any _ _ _ _ _ A c s.log _ (HR.out.ext HT5.out.ext) hA hn).mono ?_
    rintro e w8 ⟨⟨v8, rfl, ho8⟩, hb8⟩
    obtain ⟨A8, c8, rfl, -, -⟩ := own_slice ho8
    have HT8 := Lib.hid (HT5.out.later hb8)
    have hin := own_in ho8
    have hsz8 := HT5.out.size
    have hlt8 : ∀ b, (Value.slice A8 s.log.length c8).ownBlock = some b → b ≠ w.heap.size + 1 := fun b hb => by have := (hin b hb).1; omega
    have ho8' : OS w8 w.heap.size (.slice A8 s.log.length c8) s.log := own_base ho8 (by omega)
    have kk := HT8.out.res
    obtain ⟨qc0, qc1, qc2, qc3, qc4, qc5, qf⟩ := blk6 kk
    clear kk ho8 hin hb8 hsz8
    go_wp2_with fail
    refine bodyPost_ret (v := .tuple #[setT s (.slice A8 s.log.length c8), .bool false]) (by simp [results, Tryd.results22, go_sem, *]) rfl ⟨⟨.slice A8 s.log.length c8, by rw [HN.out.1, HN.out.2], ?_⟩, ?_⟩
    · rw [HN.out.1]
      unfold OS at ho8' ⊢
      repeat (refine own_other ?_ hlt8 _)
      exact ho8'
    · have s1 : w.heap.size ≤ w.heap.size + 1 := Nat.le_succ _
      repeat refine Below.setCell ?_ s1 _
      exact HT8.out.ext
  have HOK := Lib.hid hok
  clear hok
  by_cases h100 : s.log.length < 100
  rotate_left
  · have HN := Lib.hid (tune_fail (s := s) (l := l.data.toList) (by unfold tuneOk; rw [HOK.out, decide_eq_false h100]; rfl))
    have hd100 : decide ((100 : Int) ≤ (s.log.length : Int)) = true := by rw [decide_eq_true]; omega
    clear h100
    
    have kk := HT5.out.box
    obtain ⟨pc0, pc1, pc2, pc3, pc4, pc5, pf⟩ := blk6 kk
    clear kk
    go_wp2_with fail
    refine (iCopySet_any _ _ _ _ _ A c s.log _ (HR.out.ext HT5.out.ext) hA hn).mono ?_
    rintro e w8 ⟨⟨v8, rfl, ho8⟩, hb8⟩
    obtain ⟨A8, c8, rfl, -, -⟩ := own_slice ho8
    have HT8 := Lib.hid (HT5.out.later hb8)
    have hin := own_in ho8
    have hsz8 := HT5.out.size
    have hlt8 : ∀ b, (Value.slice A8 s.log.length c8).ownBlock = some b → b ≠ w.heap.size + 1 := fun b hb => by have := (hin b hb).1; omega
    have ho8' : OS w8 w.heap.size (.slice A8 s.log.length c8) s.log := own_base ho8 (by omega)
    have kk := HT8.out.res
    obtain ⟨qc0, qc1, qc2, qc3, qc4, qc5, qf⟩ := blk6 kk
    clear kk ho8 hin hb8 hsz8
    go_wp2_with fail
    refine bodyPost_ret (v := .tuple #[setT s (.slice A8 s.log.length c8), .bool false]) (by simp [results, Tryd.results22, go_sem, *]) rfl ⟨⟨.slice A8 s.log.length c8, by rw [HN.out.1, HN.out.2], ?_⟩, ?_⟩
    · rw [HN.out.1]
      unfold OS at ho8' ⊢
      repeat (refine own_other ?_ hlt8 _)
      exact ho8'
    · have s1 : w.heap.size ≤ w.heap.size + 1 := Nat.le_succ _
      repeat refine Below.setCell ?_ s1 _
      exact HT8.out.ext
  have hd100 : decide ((100 : Int) ≤ (s.log.length : Int)) = false := by rw [decide_eq_false_iff_not]; omega
  cases hf : fieldsOk l.data.toList
  · have HN := Lib.hid (tune_fail (s := s) (l := l.data.toList) (by unfold tuneOk; rw [hf]; simp))
    clear hf
    
    have kk := HT5.out.box
    obtain ⟨pc0, pc1, pc2, pc3, pc4, pc5, pf⟩ := blk6 kk
    clear kk
    go_wp2_with fail
    refine (iCopySet_any _ _ _ _ _ A c s.log _ (HR.out.ext HT5.out.ext) hA hn).mono ?_
    rintro e w8 ⟨⟨v8, rfl, ho8⟩, hb8⟩
    obtain ⟨A8, c8, rfl, -, -⟩ := own_slice ho8
    have HT8 := Lib.hid (HT5.out.later hb8)
    have hin := own_in ho8
    have hsz8 := HT5.out.size
    have hlt8 : ∀ b, (Value.slice A8 s.log.length c8).ownBlock = some b → b ≠ w.heap.size + 1 := fun b hb => by have := (hin b hb).1; omega
    have ho8' : OS w8 w.heap.size (.slice A8 s.log.length c8) s.log := own_base ho8 (by omega)
    have kk := HT8.out.res
    obtain ⟨qc0, qc1, qc2, qc3, qc4, qc5, qf⟩ := blk6 kk
    clear kk ho8 hin hb8 hsz8
    go_wp2_with fail
    refine bodyPost_ret (v := .tuple #[setT s (.slice A8 s.log.length c8), .bool false]) (by simp [results, Tryd.results22, go_sem, *]) rfl ⟨⟨.slice A8 s.log.length c8, by rw [HN.out.1, HN.out.2], ?_⟩, ?_⟩
    · rw [HN.out.1]
      unfold OS at ho8' ⊢
      repeat (refine own_other ?_ hlt8 _)
      exact ho8'
    · have s1 : w.heap.size ≤ w.heap.size + 1 := Nat.le_succ _
      repeat refine Below.setCell ?_ s1 _
      exact HT8.out.ext
  have HF := Lib.hid hf
  clear hf
  rw [fields_yes HF.out] at *
  have hf24 := fields_few HF.out
  generalize hfs : flds [] l.data.toList = fs at *
  have HFS := Lib.hid hfs
  clear hfs
  have kk := HT5.out.box
  obtain ⟨ac0, ac1, ac2, ac3, ac4, ac5, af⟩ := blk6 kk
  clear kk
  go_wp2_with fail
  refine (iTuned_any s (.slice A1 s.log.length c1) bs F D fs _ HE5.out HRF5.out hf24.1 (fun f h => by have := hf24.2 f h; omega) HB5.out).mono ?_
  rintro e w6 ⟨rfl, ht6, ⟨t, hbt, hut⟩⟩
  have HT6 := Lib.hid (HT5.out.turn ht6 hbsz)
  have HO6 := Lib.hid (own_turn HO5.out ht6 HI1.out (.inl (Nat.le_refl _)))
  have HRF6 : Hid (Rd w6 F ((fs.map ba).map st)) := Lib.hid (rd_past_turn HRF5.out ht6 (fun a ha => .inr (HIF.out a ha)))
  have HBT := Lib.hid hbt
  have HUT := Lib.hid hut
  clear ac0 ac1 ac2 ac3 ac4 ac5 af HT5 HB5 HO5 HE5 HRF5 ht6 hbt hut
  cases hd : did s fs
  · have HN := Lib.hid (tune_fail (s := s) (l := l.data.toList) (by unfold tuneOk didOk; rw [HFS.out, hd]; simp))
    clear hd
    
    have kk := HT6.out.box
    obtain ⟨pc0, pc1, pc2, pc3, pc4, pc5, pf⟩ := blk6 kk
    clear kk
    go_wp2_with fail
    refine (iCopySet_any _ _ _ _ _ A c s.log _ (HR.out.ext HT6.out.ext) hA hn).mono ?_
    rintro e w8 ⟨⟨v8, rfl, ho8⟩, hb8⟩
    obtain ⟨A8, c8, rfl, -, -⟩ := own_slice ho8
    have HT8 := Lib.hid (HT6.out.later hb8)
    have hin := own_in ho8
    have hsz8 := HT6.out.size
    have hlt8 : ∀ b, (Value.slice A8 s.log.length c8).ownBlock = some b → b ≠ w.heap.size + 1 := fun b hb => by have := (hin b hb).1; omega
    have ho8' : OS w8 w.heap.size (.slice A8 s.log.length c8) s.log := own_base ho8 (by omega)
    have kk := HT8.out.res
    obtain ⟨qc0, qc1, qc2, qc3, qc4, qc5, qf⟩ := blk6 kk
    clear kk ho8 hin hb8 hsz8
    go_wp2_with fail
    refine bodyPost_ret (v := .tuple #[setT s (.slice A8 s.log.length c8), .bool false]) (by simp [results, Tryd.results22, go_sem, *]) rfl ⟨⟨.slice A8 s.log.length c8, by rw [HN.out.1, HN.out.2], ?_⟩, ?_⟩
    · rw [HN.out.1]
      unfold OS at ho8' ⊢
      repeat (refine own_other ?_ hlt8 _)
      exact ho8'
    · have s1 : w.heap.size ≤ w.heap.size + 1 := Nat.le_succ _
      repeat refine Below.setCell ?_ s1 _
      exact HT8.out.ext
  rename_i u
  have HD := Lib.hid hd
  have HLG := Lib.hid (did_log hd)
  have HBU : Hid (SetBlk 28 w6 bs u (.slice A1 s.log.length c1)) := Lib.hid (by have h1 := HBT.out; rw [HUT.out u hd] at h1; exact h1)
  clear hd HBT HUT
  have kk := HBU.out
  obtain ⟨ac0, ac1, ac2, ac3, ac4, ac5, af⟩ := blk6 kk
  clear kk
  go_wp2_with fail
  refine (iSetOk_any _ _ _ _ _ _ _ _ (by omega) _).mono ?_
  rintro e w7 ⟨rfl, hb7⟩
  have HT7 := Lib.hid (HT6.out.later hb7)
  have HB7 := Lib.hid (blk_ext HBU.out hb7)
  have HO7 := Lib.hid (own_ext HO6.out hb7)
  have HRF7 := Lib.hid (HRF6.out.ext hb7)
  clear ac0 ac1 ac2 ac3 ac4 ac5 af HT6 HBU HO6 HRF6 hb7
  have HUK : Hid (u.ok = setOk u.cells u.rows u.slice u.least u.sat s.log.length) := Lib.hid (by unfold TS.ok; rw [HLG.out])
  rw [← HUK.out]
  cases huk : u.ok
  · have HN := Lib.hid (tune_fail (s := s) (l := l.data.toList) (by unfold tuneOk didOk; rw [HFS.out, HD.out]; simp [huk]))
    clear huk
    
    have kk := HT7.out.box
    obtain ⟨pc0, pc1, pc2, pc3, pc4, pc5, pf⟩ := blk6 kk
    clear kk
    go_wp2_with fail
    refine (iCopySet_any _ _ _ _ _ A c s.log _ (HR.out.ext HT7.out.ext) hA hn).mono ?_
    rintro e w8 ⟨⟨v8, rfl, ho8⟩, hb8⟩
    obtain ⟨A8, c8, rfl, -, -⟩ := own_slice ho8
    have HT8 := Lib.hid (HT7.out.later hb8)
    have hin := own_in ho8
    have hsz8 := HT7.out.size
    have hlt8 : ∀ b, (Value.slice A8 s.log.length c8).ownBlock = some b → b ≠ w.heap.size + 1 := fun b hb => by have := (hin b hb).1; omega
    have ho8' : OS w8 w.heap.size (.slice A8 s.log.length c8) s.log := own_base ho8 (by omega)
    have kk := HT8.out.res
    obtain ⟨qc0, qc1, qc2, qc3, qc4, qc5, qf⟩ := blk6 kk
    clear kk ho8 hin hb8 hsz8
    go_wp2_with fail
    refine bodyPost_ret (v := .tuple #[setT s (.slice A8 s.log.length c8), .bool false]) (by simp [results, Tryd.results22, go_sem, *]) rfl ⟨⟨.slice A8 s.log.length c8, by rw [HN.out.1, HN.out.2], ?_⟩, ?_⟩
    · rw [HN.out.1]
      unfold OS at ho8' ⊢
      repeat (refine own_other ?_ hlt8 _)
      exact ho8'
    · have s1 : w.heap.size ≤ w.heap.size + 1 := Nat.le_succ _
      repeat refine Below.setCell ?_ s1 _
      exact HT8.out.ext
  have HY : Hid (tuneOk s l.data.toList = true) := Lib.hid (by unfold tuneOk didOk; rw [HFS.out, HD.out, HOK.out, HF.out, decide_eq_true h100]; simp [huk])
  clear huk
  have hlu := unw_len l.data.toList []
  rw [HFS.out] at hlu
  have hls := Lib.size_eq l
  have HJ : Hid (∀ W, Ext w7 W → Calls Tryd.prog 46 #[.slice F fs.length D, .string ⟨#[32]⟩] W fun e w' => e = .returned (.string (ba (unw fs))) ∧ Ext W w') := Lib.hid (fun W hW => join_any F D fs W (HRF7.out.ext hW) hcapf hf24.1 (by simp only [List.length_nil] at hlu; omega))
  have KS : Hid (∀ W, Ext w7 W → W.cell? ⟨bs, 5, none⟩ = some (.slice A1 s.log.length c1)) := Lib.hid (fun W hW => blk_cell (blk_ext HB7.out hW) rfl)
  have HTL : Hid (tune s l.data.toList = { u with log := s.log ++ [ba (unw fs)] }) := Lib.hid (by unfold tune; rw [if_pos HY.out, HFS.out, HD.out]; rfl)
  clear hlu hls hcapf hf24 HRF7
  generalize ba (unw fs) = J at *
  have k1 := KS.out _ (Ext.refl _)
  go_wp2_with fail
  go_region_law
    (first
      | (go_simp
         go_at_call 46
         refine (HJ.out _ (by (repeat (first | exact Below.refl _ _ | assumption | refine below_drewN ?_ _ | refine Below.drew ?_ | refine Below.alloc ?_ (by first | exact Nat.le_refl _ | (simp; done) | (simp; omega)) _ | refine Below.setCell ?_ (by first | exact Nat.le_refl _ | (simp; done) | (simp; omega)) _)))).mono ?_
         rintro e wJ ⟨rfl, hbJ⟩
         replace hbJ := Ext.trans (a := w7) (by (repeat (first | exact Below.refl _ _ | assumption | refine below_drewN ?_ _ | refine Below.drew ?_ | refine Below.alloc ?_ (by first | exact Nat.le_refl _ | (simp; done) | (simp; omega)) _ | refine Below.setCell ?_ (by first | exact Nat.le_refl _ | (simp; done) | (simp; omega)) _))) hbJ
         have kJ := KS.out _ hbJ
         have kJ2 := KS.out _ (hbJ.alloc (.cells #[.string J] 9 (0, 0))))
      | (refine step_app rfl _ _ 23 rfl (w.heap.size + 2) 9 _ 1 16 Tryd.underlying23 info_str rfl (by omega) (.slice A1 s.log.length c1) s.log.length (s.log.map st) rfl (own_ext (own_ext HO7.out hbJ) ((Ext.refl _).alloc _)) _ 1 1 _ rfl (rd_new _ _ _ _) rfl (fun h => by cases h) (by intro u hu; simp at hu; rcases hu with rfl; rfl) (by unfold maxLen; omega) (by omega) (by have := hbJ.size; have := HT7.out.size; simp; omega) ?_
         intro v9 w9 ho9 hg9 hat
         have hne9 : some bs ≠ (Value.slice A1 s.log.length c1).ownBlock := fun e => by have := (HI1.out bs e.symm).2; omega
         have kk9 := blk_past (blk_alloc (o := _) (blk_ext HB7.out hbJ)) hg9 hne9
         have kr9 := blk_past (blk_alloc (blk_ext HT7.out.res hbJ)) hg9 (fun e => by have := (HI1.out _ e.symm).1; omega)
         have hx9 : Ext w w9 := ext_grow ((HT7.out.ext.trans hbJ).alloc _) (own_ext (own_ext HO7.out hbJ) ((Ext.refl _).alloc _)) (by omega) hg9
         have hob9 : ∀ b, v9.ownBlock = some b → b ≠ bs := fun b hb e => by
           subst e
           rcases hat with hat | hat
           · exact hne9 (hb.symm.trans hat)
           · rw [hb] at hat; injection hat with hat; have := (Array.getElem?_eq_some_iff.1 (blk_ext HB7.out hbJ)).1; simp at hat; omega
         clear hg9 hat
         obtain ⟨A9, c9, rfl, -, -⟩ := own_slice ho9
         obtain ⟨dc0, dc1, dc2, dc3, dc4, dc5, df⟩ := blk6 kk9
         have HKR := Lib.hid kr9
         have HX9 := Lib.hid hx9
         have HO9 := Lib.hid ho9
         have HN9 := Lib.hid hob9
         clear kk9 kr9 hx9 ho9 hob9 hne9))
  all_goals
    have kq := HKR.out
    obtain ⟨qc0, qc1, qc2, qc3, qc4, qc5, qf⟩ := blk6 kq
    clear kq
    go_wp2_with fail
    refine bodyPost_ret (v := .tuple #[setT u (.slice A9 (s.log.length + 1) c9), .bool true]) (by simp [results, Tryd.results22, go_sem, *]) rfl ⟨⟨.slice A9 (s.log.length + 1) c9, by rw [HTL.out, HY.out], ?_⟩, ?_⟩
    · have h9 : OS w9 w.heap.size (.slice A9 (s.log.length + 1) c9) (s.log ++ [J]) := by
        have h := own_base HO9.out (base' := w.heap.size) (by omega)
        unfold OS; simpa using h
      rw [HTL.out]
      have hx : ∀ b, (Value.slice A9 (s.log.length + 1) c9).ownBlock = some b → b ≠ w.heap.size + 1 := fun b hb => by have := (own_in HO9.out b hb).1; omega
      unfold OS at h9 ⊢
      repeat (refine own_other ?_ hx _)
      refine own_other ?_ HN9.out _
      exact h9
    · have s1 : w.heap.size ≤ w.heap.size + 1 := Nat.le_succ _
      have s2 : w.heap.size ≤ bs := by omega
      repeat (first | refine Below.setCell ?_ s1 _ | refine Below.setCell ?_ s2 _)
      exact HX9.out
end Go.Proofs.YtfmghfghhipmhaaDoor

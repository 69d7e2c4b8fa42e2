import Derived.Test.YtfmghfghhipmhaaDoorTm
namespace Go.Fx
open Go.Lib Go.RowKit
set_option linter.unusedVariables false
set_option linter.unusedSimpArgs false
theorem unw_snoc : ∀ (xs : List Txt) (y : Txt), xs ≠ [] → unw (xs ++ [y]) = unw xs ++ 32 :: y
  | [], _, h => absurd rfl h
  | [x], y, _ => by
    rw [List.singleton_append, unw_two]
    unfold unw joinTail; simp
  | x :: z :: r, y, _ => by
    rw [List.cons_append, List.cons_append, unw_two, ← List.cons_append, unw_snoc (z :: r) y (by simp), unw_two]
    simp
theorem unw_one {fs : List Txt} (h : 0 < fs.length) : unw (fs.take 1) = fs[0] := by
  match fs, h with
  | x :: r, _ => simp [unw, joinTail]
theorem unw_step {fs : List Txt} {k : Nat} (h1 : 1 ≤ k) (hk : k < fs.length) : unw (fs.take (k + 1)) = unw (fs.take k) ++ 32 :: fs[k] := by
  rw [List.take_succ_eq_append_getElem hk]
  refine unw_snoc _ _ (fun e => ?_)
  have := congrArg List.length e
  rw [List.length_take, List.length_nil] at this; omega
end Go.Fx
namespace Go.Proofs.YtfmghfghhipmhaaDoor
open Go.RowKit Go.Fx Go.Sort
set_option linter.unusedVariables false
set_option linter.unusedSimpArgs false
set_option maxRecDepth 100000 in
set_option maxHeartbeats 8000000 in
theorem sTune_any (s : TS) (A : Option Addr) (c : Nat) (l : ByteArray) (w : World) (h : Rd w A (s.log.map st)) (hA : A = none → s.log.length = 0) (hn : s.log.length ≤ 1048576) (hl : l.size ≤ 1048576) :
    Calls Tryd.prog 21 #[setT s (.slice A s.log.length c), .string l] w fun e w' => (∃ v, e = .returned (.tuple #[setT (tune s l.data.toList) v, .bool (tuneOk s l.data.toList)]) ∧ OS w' w.heap.size v (tune s l.data.toList).log) ∧ Ext w w' := by
  have HR := Lib.hid h
  clear h
  go_enter Tryd.func21, Tryd.ntmps21
  have HT0 := Lib.hid (TuneAt.start 28 w s (.slice A s.log.length c))
  go_wp2_with fail
  refine (sSplitFields_any l _ (by unfold maxLen; omega)).mono ?_
  rintro e w1 ⟨⟨vf, rfl, hof⟩, hb1⟩
  have HT1 := Lib.hid (HT0.out.later hb1)
  have hfl : ((fields l.data.toList).map ba).length = (fields l.data.toList).length := List.length_map _
  unfold OT OS at hof
  rw [hfl] at hof
  obtain ⟨F, D, rfl, hrf, -⟩ := own_slice hof
  have HRF1 := Lib.hid hrf
  clear hrf hof hb1 HT0 hfl
  cases hf : fieldsOk l.data.toList
  · have HN := Lib.hid (tune_fail (s := s) (l := l.data.toList) (by unfold tuneOk; rw [hf]; simp))
    clear hf
    
    have kk := HT1.out.box
    obtain ⟨pc0, pc1, pc2, pc3, pc4, pc5, pf⟩ := blk6 kk
    clear kk
    go_wp2_with fail
    refine (sCopySet_any _ _ _ _ _ A c s.log _ (HR.out.ext HT1.out.ext) hA hn).mono ?_
    rintro e w8 ⟨⟨v8, rfl, ho8⟩, hb8⟩
    obtain ⟨A8, c8, rfl, -, -⟩ := own_slice ho8
    have HT8 := Lib.hid (HT1.out.later hb8)
    have hin := own_in ho8
    have hsz8 := HT1.out.size
    have hlt8 : ∀ b, (Value.slice A8 s.log.length c8).ownBlock = some b → b ≠ w.heap.size + 1 := fun b hb => by have := (hin b hb).1; omega
    have ho8' : OS w8 w.heap.size (.slice A8 s.log.length c8) s.log := own_base ho8 (by omega)
    have kk := HT8.out.res
    obtain ⟨qc0, qc1, qc2, qc3, qc4, qc5, qf⟩ := blk6 kk
    clear kk ho8 hin hb8 hsz8
    go_wp2_with fail
    refine bodyPost_ret (v := .tuple #[setT s (.slice A8 s.log.length c8), .bool false]) (by simp [results, Tryd.results21, go_sem, *]) rfl ⟨⟨.slice A8 s.log.length c8, by rw [HN.out.1, HN.out.2], ?_⟩, ?_⟩
    · rw [HN.out.1]
      unfold OS at ho8' ⊢
      repeat (refine own_other ?_ hlt8 _)
      exact ho8'
    · have s1 : w.heap.size ≤ w.heap.size + 1 := Nat.le_succ _
      repeat refine Below.setCell ?_ s1 _
      exact HT8.out.ext
  have HF := Lib.hid hf
  clear hf
  rw [fields_yes HF.out] at *
  have hf24 := fields_few HF.out
  generalize hfs : flds [] l.data.toList = fs at *
  have HFS := Lib.hid hfs
  clear hfs
  by_cases hz : fs.length = 0
  · have HN := Lib.hid (tune_fail (s := s) (l := l.data.toList) (by unfold tuneOk didOk; rw [HFS.out, did_len (by omega) (by omega)]; simp))
    have hzI : ((fs.length : Int) == 0) = true := by rw [beq_iff_eq]; omega
    clear hz
    
    have kk := HT1.out.box
    obtain ⟨pc0, pc1, pc2, pc3, pc4, pc5, pf⟩ := blk6 kk
    clear kk
    go_wp2_with fail
    refine (sCopySet_any _ _ _ _ _ A c s.log _ (HR.out.ext HT1.out.ext) hA hn).mono ?_
    rintro e w8 ⟨⟨v8, rfl, ho8⟩, hb8⟩
    obtain ⟨A8, c8, rfl, -, -⟩ := own_slice ho8
    have HT8 := Lib.hid (HT1.out.later hb8)
    have hin := own_in ho8
    have hsz8 := HT1.out.size
    have hlt8 : ∀ b, (Value.slice A8 s.log.length c8).ownBlock = some b → b ≠ w.heap.size + 1 := fun b hb => by have := (hin b hb).1; omega
    have ho8' : OS w8 w.heap.size (.slice A8 s.log.length c8) s.log := own_base ho8 (by omega)
    have kk := HT8.out.res
    obtain ⟨qc0, qc1, qc2, qc3, qc4, qc5, qf⟩ := blk6 kk
    clear kk ho8 hin hb8 hsz8
    go_wp2_with fail
    refine bodyPost_ret (v := .tuple #[setT s (.slice A8 s.log.length c8), .bool false]) (by simp [results, Tryd.results21, go_sem, *]) rfl ⟨⟨.slice A8 s.log.length c8, by rw [HN.out.1, HN.out.2], ?_⟩, ?_⟩
    · rw [HN.out.1]
      unfold OS at ho8' ⊢
      repeat (refine own_other ?_ hlt8 _)
      exact ho8'
    · have s1 : w.heap.size ≤ w.heap.size + 1 := Nat.le_succ _
      repeat refine Below.setCell ?_ s1 _
      exact HT8.out.ext
  have hzI : ((fs.length : Int) == 0) = false := by rw [beq_eq_false_iff_ne]; omega
  have HOKD : Hid (s.ok = setOk s.cells s.rows s.slice s.least s.sat s.log.length) := Lib.hid rfl
  have kk := HT1.out.box
  obtain ⟨ac0, ac1, ac2, ac3, ac4, ac5, af⟩ := blk6 kk
  clear kk
  go_wp2_with fail
  refine (sSetOk_any _ _ _ _ _ _ _ _ (by omega) _).mono ?_
  rintro e w2 ⟨rfl, hb2⟩
  have HT2 := Lib.hid (HT1.out.later hb2)
  have HRF2 := Lib.hid (HRF1.out.ext hb2)
  clear ac0 ac1 ac2 ac3 ac4 ac5 af HT1 HRF1 hb2
  rw [← HOKD.out]
  cases hok : s.ok
  · have HN := Lib.hid (tune_fail (s := s) (l := l.data.toList) (by unfold tuneOk; rw [hok]; rfl))
    clear hok
    
    have kk := HT2.out.box
    obtain ⟨pc0, pc1, pc2, pc3, pc4, pc5, pf⟩ := blk6 kk
    clear kk
    go_wp2_with fail
    refine (sCopySet_any _ _ _ _ _ A c s.log _ (HR.out.ext HT2.out.ext) hA hn).mono ?_
    rintro e w8 ⟨⟨v8, rfl, ho8⟩, hb8⟩
    obtain ⟨A8, c8, rfl, -, -⟩ := own_slice ho8
    have HT8 := Lib.hid (HT2.out.later hb8)
    have hin := own_in ho8
    have hsz8 := HT2.out.size
    have hlt8 : ∀ b, (Value.slice A8 s.log.length c8).ownBlock = some b → b ≠ w.heap.size + 1 := fun b hb => by have := (hin b hb).1; omega
    have ho8' : OS w8 w.heap.size (.slice A8 s.log.length c8) s.log := own_base ho8 (by omega)
    have kk := HT8.out.res
    obtain ⟨qc0, qc1, qc2, qc3, qc4, qc5, qf⟩ := blk6 kk
    clear kk ho8 hin hb8 hsz8
    go_wp2_with fail
    refine bodyPost_ret (v := .tuple #[setT s (.slice A8 s.log.length c8), .bool false]) (by simp [results, Tryd.results21, go_sem, *]) rfl ⟨⟨.slice A8 s.log.length c8, by rw [HN.out.1, HN.out.2], ?_⟩, ?_⟩
    · rw [HN.out.1]
      unfold OS at ho8' ⊢
      repeat (refine own_other ?_ hlt8 _)
      exact ho8'
    · have s1 : w.heap.size ≤ w.heap.size + 1 := Nat.le_succ _
      repeat refine Below.setCell ?_ s1 _
      exact HT8.out.ext
  have HOK := Lib.hid hok
  clear hok
  by_cases h100 : s.log.length < 100
  rotate_left
  · have HN := Lib.hid (tune_fail (s := s) (l := l.data.toList) (by unfold tuneOk; rw [HOK.out, decide_eq_false h100]; rfl))
    have hd100 : decide ((100 : Int) ≤ (s.log.length : Int)) = true := by rw [decide_eq_true]; omega
    clear h100
    
    have kk := HT2.out.box
    obtain ⟨pc0, pc1, pc2, pc3, pc4, pc5, pf⟩ := blk6 kk
    clear kk
    go_wp2_with fail
    refine (sCopySet_any _ _ _ _ _ A c s.log _ (HR.out.ext HT2.out.ext) hA hn).mono ?_
    rintro e w8 ⟨⟨v8, rfl, ho8⟩, hb8⟩
    obtain ⟨A8, c8, rfl, -, -⟩ := own_slice ho8
    have HT8 := Lib.hid (HT2.out.later hb8)
    have hin := own_in ho8
    have hsz8 := HT2.out.size
    have hlt8 : ∀ b, (Value.slice A8 s.log.length c8).ownBlock = some b → b ≠ w.heap.size + 1 := fun b hb => by have := (hin b hb).1; omega
    have ho8' : OS w8 w.heap.size (.slice A8 s.log.length c8) s.log := own_base ho8 (by omega)
    have kk := HT8.out.res
    obtain ⟨qc0, qc1, qc2, qc3, qc4, qc5, qf⟩ := blk6 kk
    clear kk ho8 hin hb8 hsz8
    go_wp2_with fail
    refine bodyPost_ret (v := .tuple #[setT s (.slice A8 s.log.length c8), .bool false]) (by simp [results, Tryd.results21, go_sem, *]) rfl ⟨⟨.slice A8 s.log.length c8, by rw [HN.out.1, HN.out.2], ?_⟩, ?_⟩
    · rw [HN.out.1]
      unfold OS at ho8' ⊢
      repeat (refine own_other ?_ hlt8 _)
      exact ho8'
    · have s1 : w.heap.size ≤ w.heap.size + 1 := Nat.le_succ _
      repeat refine Below.setCell ?_ s1 _
      exact HT8.out.ext
  have hd100 : decide ((100 : Int) ≤ (s.log.length : Int)) = false := by rw [decide_eq_false_iff_not]; omega
  have kk := HT2.out.box
  obtain ⟨ac0, ac1, ac2, ac3, ac4, ac5, af⟩ := blk6 kk
  clear kk
  go_wp2_with fail
  refine (sCopySet_any _ _ _ _ _ A c s.log _ (HR.out.ext HT2.out.ext) hA hn).mono ?_
  rintro e w3 ⟨⟨v1, rfl, ho3⟩, hb3⟩
  obtain ⟨A1, c1, rfl, -, -⟩ := own_slice ho3
  have HT3 := Lib.hid (HT2.out.later hb3)
  have HO3 := Lib.hid (own_base ho3 HT2.out.size)
  have HRF3 := Lib.hid (HRF2.out.ext hb3)
  clear ac0 ac1 ac2 ac3 ac4 ac5 af HT2 HRF2 hb3 ho3
  go_wp2_with fail
  refine (sDone_any s A1 s.log.length c1 F D fs _ HRF3.out hf24.1 (fun f h => by have := hf24.2 f h; omega)).mono ?_
  rintro e w4 ⟨⟨t, rfl, hut⟩, hb4⟩
  have HT4 := Lib.hid ((HT3.out.later hb4).later ((Ext.refl _).alloc (.cells #[.int .i64 t.cells, .int .i64 t.rows, .float .f32 t.slice, .float .f32 t.least, .float .f32 t.sat, .slice A1 s.log.length c1] 28 (0, 0))))
  have HO4 := Lib.hid (own_ext HO3.out hb4)
  have HRF4 := Lib.hid (HRF3.out.ext hb4)
  have HUT := Lib.hid hut
  have HI1 : Hid (In (.slice A1 s.log.length c1) (w.heap.size + 2) w4.heap.size) := Lib.hid (own_in HO4.out)
  have hz4 : w.heap.size + 2 ≤ w4.heap.size := (HT3.out.later hb4).size
  clear HT3 HO3 HRF3 hb4 hut
  cases hd : did s fs
  · have HN := Lib.hid (tune_fail (s := s) (l := l.data.toList) (by unfold tuneOk didOk; rw [HFS.out, hd]; simp))
    clear hd
    
    have kk := HT4.out.box
    obtain ⟨pc0, pc1, pc2, pc3, pc4, pc5, pf⟩ := blk6 kk
    clear kk
    go_wp2_with fail
    refine (sCopySet_any _ _ _ _ _ A c s.log _ (HR.out.ext HT4.out.ext) hA hn).mono ?_
    rintro e w8 ⟨⟨v8, rfl, ho8⟩, hb8⟩
    obtain ⟨A8, c8, rfl, -, -⟩ := own_slice ho8
    have HT8 := Lib.hid (HT4.out.later hb8)
    have hin := own_in ho8
    have hsz8 := HT4.out.size
    have hlt8 : ∀ b, (Value.slice A8 s.log.length c8).ownBlock = some b → b ≠ w.heap.size + 1 := fun b hb => by have := (hin b hb).1; omega
    have ho8' : OS w8 w.heap.size (.slice A8 s.log.length c8) s.log := own_base ho8 (by omega)
    have kk := HT8.out.res
    obtain ⟨qc0, qc1, qc2, qc3, qc4, qc5, qf⟩ := blk6 kk
    clear kk ho8 hin hb8 hsz8
    go_wp2_with fail
    refine bodyPost_ret (v := .tuple #[setT s (.slice A8 s.log.length c8), .bool false]) (by simp [results, Tryd.results21, go_sem, *]) rfl ⟨⟨.slice A8 s.log.length c8, by rw [HN.out.1, HN.out.2], ?_⟩, ?_⟩
    · rw [HN.out.1]
      unfold OS at ho8' ⊢
      repeat (refine own_other ?_ hlt8 _)
      exact ho8'
    · have s1 : w.heap.size ≤ w.heap.size + 1 := Nat.le_succ _
      repeat refine Below.setCell ?_ s1 _
      exact HT8.out.ext
  rename_i u
  have HD := Lib.hid hd
  have HLG := Lib.hid (did_log hd)
  obtain ⟨tl, htl⟩ : ∃ tl, t = { u with log := tl } := ⟨_, HUT.out u hd⟩
  clear hd HUT
  subst htl
  go_wp2_with fail
  refine (sSetOk_any _ _ _ _ _ _ _ _ (by omega) _).mono ?_
  rintro e w7 ⟨rfl, hb7⟩
  obtain ⟨bs, hbs⟩ : ∃ bs, bs = w4.heap.size := ⟨_, rfl⟩
  have HT7 := Lib.hid (HT4.out.later hb7)
  have HB7 : Hid (SetBlk 28 w7 bs u (.slice A1 s.log.length c1)) := Lib.hid (by rw [hbs]; exact blk_ext (heap_alloc_new _ _) hb7)
  have HO7 := Lib.hid (own_ext (own_ext HO4.out ((Ext.refl _).alloc _)) hb7)
  have HRF7 := Lib.hid ((HRF4.out.ext ((Ext.refl _).alloc _)).ext hb7)
  have HI2 : Hid (In (.slice A1 s.log.length c1) (w.heap.size + 2) bs) := Lib.hid (by rw [hbs]; exact HI1.out)
  replace hz4 : w.heap.size + 2 ≤ bs := by rw [hbs]; exact hz4
  clear HI1
  have HI1 := HI2
  clear HI2
  rw [← hbs]
  clear hbs HT4 HO4 HRF4 hb7
  have HUK : Hid (u.ok = setOk u.cells u.rows u.slice u.least u.sat s.log.length) := Lib.hid (by unfold TS.ok; rw [HLG.out])
  rw [← HUK.out]
  cases huk : u.ok
  · have HN := Lib.hid (tune_fail (s := s) (l := l.data.toList) (by unfold tuneOk didOk; rw [HFS.out, HD.out]; simp [huk]))
    clear huk
    
    have kk := HT7.out.box
    obtain ⟨pc0, pc1, pc2, pc3, pc4, pc5, pf⟩ := blk6 kk
    clear kk
    go_wp2_with fail
    refine (sCopySet_any _ _ _ _ _ A c s.log _ (HR.out.ext HT7.out.ext) hA hn).mono ?_
    rintro e w8 ⟨⟨v8, rfl, ho8⟩, hb8⟩
    obtain ⟨A8, c8, rfl, -, -⟩ := own_slice ho8
    have HT8 := Lib.hid (HT7.out.later hb8)
    have hin := own_in ho8
    have hsz8 := HT7.out.size
    have hlt8 : ∀ b, (Value.slice A8 s.log.length c8).ownBlock = some b → b ≠ w.heap.size + 1 := fun b hb => by have := (hin b hb).1; omega
    have ho8' : OS w8 w.heap.size (.slice A8 s.log.length c8) s.log := own_base ho8 (by omega)
    have kk := HT8.out.res
    obtain ⟨qc0, qc1, qc2, qc3, qc4, qc5, qf⟩ := blk6 kk
    clear kk ho8 hin hb8 hsz8
    go_wp2_with fail
    refine bodyPost_ret (v := .tuple #[setT s (.slice A8 s.log.length c8), .bool false]) (by simp [results, Tryd.results21, go_sem, *]) rfl ⟨⟨.slice A8 s.log.length c8, by rw [HN.out.1, HN.out.2], ?_⟩, ?_⟩
    · rw [HN.out.1]
      unfold OS at ho8' ⊢
      repeat (refine own_other ?_ hlt8 _)
      exact ho8'
    · have s1 : w.heap.size ≤ w.heap.size + 1 := Nat.le_succ _
      repeat refine Below.setCell ?_ s1 _
      exact HT8.out.ext
  have HY : Hid (tuneOk s l.data.toList = true) := Lib.hid (by unfold tuneOk didOk; rw [HFS.out, HD.out, HOK.out, HF.out, decide_eq_true h100]; simp [huk])
  have HTL : Hid (tune s l.data.toList = { u with log := s.log ++ [ba (unw fs)] }) := Lib.hid (by unfold tune; rw [if_pos HY.out, HFS.out, HD.out]; rfl)
  clear huk
  have hlu := unw_len l.data.toList []
  clear hlu
  rcases HRF7.out with hF | ⟨g, off, rfl, hgw, hc⟩
  · exact absurd (by simpa using hF : fs = []) (fun e => hz (by rw [e]; rfl))
  have HC : Hid (∀ k (hk : k < fs.length), w7.cell? ⟨g, off + k, none⟩ = some (.string (ba fs[k]))) := Lib.hid (fun k hk => hc k _ (by simp [hk]))
  have H24 := Lib.hid hf24
  have hpos : 0 < fs.length := by omega
  have hposI : (0 : Int) < (fs.length : Int) := by omega
  have hf24n := hf24.1
  obtain ⟨X0, hX0⟩ : ∃ X0, X0 = ba fs[0] := ⟨_, rfl⟩
  have hX0s : X0.size ≤ 601 := by rw [hX0, ba_size]; have := hf24.2 _ (List.getElem_mem hpos); omega
  have c0 := HC.out 0 hpos
  rw [← hX0, Nat.add_zero] at c0
  have HX0 : Hid (X0 = ba (unw (fs.take 1))) := Lib.hid (by
    rw [hX0, unw_one hpos])
  clear hX0 hc hf24 hz HRF7
  go_wp2_with fail
  go_loop [10, 11] (fun x i => ∃ (k : Nat) (X : ByteArray), 1 ≤ k ∧ k ≤ fs.length ∧ i = .int .i64 k ∧ x = .string X ∧ X.size ≤ 601 * k ∧ Hid (X = ba (unw (fs.take k)))) (fun _ i => fs.length - (intOf i).toNat)
  case atStart => exact ⟨1, X0, Nat.le_refl _, hpos, rfl, rfl, by omega, HX0⟩
  case round =>
    obtain ⟨k, X, hk1, hk, rfl, rfl, hXs, HX⟩ := hrel
    by_cases hlt : k < fs.length
    · have hltI : (k : Int) < (fs.length : Int) := by omega
      obtain ⟨Y, hY⟩ : ∃ Y, Y = ba fs[k] := ⟨_, rfl⟩
      have hYs : Y.size ≤ 600 := by rw [hY, ba_size]; exact H24.out.2 _ (List.getElem_mem hlt)
      have ck := HC.out k hlt
      rw [← hY] at ck
      have HY2 : Hid (X ++ ⟨#[32]⟩ ++ Y = ba (unw (fs.take (k + 1)))) := Lib.hid (by
        rw [HX.out, hY, show (⟨#[32]⟩ : ByteArray) = ba [32] from rfl, ba_append, ba_append, unw_step hk1 hlt]
        congr 1; simp)
      have n1 : ¬ 9223372036854775807 < X.size + 1 := by omega
      have n2 : ¬ 9223372036854775807 < X.size + 1 + Y.size := by omega
      clear hY
      go_wp2_with fail
      go_round
      case rel => exact ⟨k + 1, _, by omega, by omega, by go_num, rfl, by rw [ByteArray.size_append, ByteArray.size_append]; have : (⟨#[32]⟩ : ByteArray).size = 1 := rfl; omega, HY2⟩
      case measure => simp [intOf]; omega
    · obtain rfl : k = fs.length := by omega
      have HXE : Hid (X = ba (unw fs)) := Lib.hid (by rw [HX.out, List.take_of_length_le (Nat.le_refl _)])
      clear HX HC c0
      have kk := HB7.out
      obtain ⟨ac0, ac1, ac2, ac3, ac4, ac5, af⟩ := blk6 kk
      clear kk
      go_wp2_with
        (at_builtin
         refine wpList_app rfl _ _ 23 rfl (w.heap.size + 2) 9 _ 1 16 Tryd.underlying23 info_str rfl (by omega) (.slice A1 s.log.length c1) s.log.length (s.log.map st) rfl (own_ext HO7.out ((Ext.refl _).alloc _)) _ 1 1 _ rfl (rd_new _ _ _ _) rfl (fun h => by cases h) (by intro u hu; simp at hu; rcases hu with rfl; rfl) (by unfold maxLen; omega) (by omega) (by have := HT7.out.size; simp; omega) ?_
         intro v9 w9 ho9 hg9 hat
         have hne9 : some bs ≠ (Value.slice A1 s.log.length c1).ownBlock := fun e => by have := (HI1.out bs e.symm).2; omega
         have kk9 := blk_past (blk_alloc (o := _) HB7.out) hg9 hne9
         have kr9 := blk_past (blk_alloc HT7.out.res) hg9 (fun e => by have := (HI1.out _ e.symm).1; omega)
         have hx9 : Ext w w9 := ext_grow (HT7.out.ext.alloc _) (own_ext HO7.out ((Ext.refl _).alloc _)) (by omega) hg9
         have hob9 : ∀ b, v9.ownBlock = some b → b ≠ bs := fun b hb e => by
           subst e
           rcases hat with hat | hat
           · exact hne9 (hb.symm.trans hat)
           · rw [hb] at hat; injection hat with hat; have := (Array.getElem?_eq_some_iff.1 HB7.out).1; simp at hat; omega
         clear hg9 hat ac0 ac1 ac2 ac3 ac4 ac5 af
         obtain ⟨A9, c9, rfl, -, -⟩ := own_slice ho9
         obtain ⟨dc0, dc1, dc2, dc3, dc4, dc5, df⟩ := blk6 kk9
         have HKR := Lib.hid kr9
         have HX9 := Lib.hid hx9
         have HO9 := Lib.hid ho9
         have HN9 := Lib.hid hob9
         clear kk9 kr9 hx9 ho9 hob9 hne9
         have kq := HKR.out
         obtain ⟨qc0, qc1, qc2, qc3, qc4, qc5, qf⟩ := blk6 kq
         clear kq)
      refine bodyPost_ret (v := .tuple #[setT u (.slice A9 (s.log.length + 1) c9), .bool true]) (by simp [results, Tryd.results21, go_sem, *]) rfl ⟨⟨.slice A9 (s.log.length + 1) c9, by rw [HTL.out, HY.out], ?_⟩, ?_⟩
      · have h9 : OS w9 w.heap.size (.slice A9 (s.log.length + 1) c9) (s.log ++ [ba (unw fs)]) := by
          have h := own_base HO9.out (base' := w.heap.size) (by omega)
          rw [HXE.out] at h
          unfold OS; simpa using h
        rw [HTL.out]
        have hx : ∀ b, (Value.slice A9 (s.log.length + 1) c9).ownBlock = some b → b ≠ w.heap.size + 1 := fun b hb => by have := (own_in HO9.out b hb).1; omega
        unfold OS at h9 ⊢
        repeat (refine own_other ?_ hx _)
        refine own_other ?_ HN9.out _
        exact h9
      · have s1 : w.heap.size ≤ w.heap.size + 1 := Nat.le_succ _
        have s2 : w.heap.size ≤ bs := by omega
        repeat (first | refine Below.setCell ?_ s1 _ | refine Below.setCell ?_ s2 _)
        exact HX9.out
end Go.Proofs.YtfmghfghhipmhaaDoor

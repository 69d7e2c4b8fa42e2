import Derived.Test.YtfmghfghhipmhaaDoorTq
import Derived.Test.YtfmghfghhipmhaaDoorSk
namespace Go.Fx
open Go.RowKit
set_option linter.unusedVariables false
set_option linter.unusedSimpArgs false
def zeroT : TS := ⟨0, 0, 0, 0, 0, []⟩
def newTS (cells rows : Int) : TS := if (newT cells rows).ok = true then newT cells rows else zeroT
def retOk (cells rows : Int) (ls : List Txt) : Bool := (newT cells rows).ok && (tuneFlags (newT cells rows) ls).all id
def retT (cells rows : Int) (ls : List Txt) : TS := if retOk cells rows ls = true then tuneAll (newT cells rows) ls else zeroT
theorem flags_prefix : ∀ (ls : List Txt) (s : TS) (k : Nat), (tuneFlags s ls).all id = true → (tuneFlags s (ls.take k)).all id = true
  | [], s, k, _ => by simp [tuneFlags]
  | l :: ls, s, 0, _ => by simp [tuneFlags]
  | l :: ls, s, k + 1, h => by
    rw [List.take_succ_cons, tuneFlags, List.all_cons, Bool.and_eq_true] at *
    exact ⟨h.1, flags_prefix ls _ k h.2⟩
theorem ret_prefix {cells rows : Int} {ls : List Txt} {k : Nat} (h : retOk cells rows (ls.take k) = false) : retOk cells rows ls = false := by
  cases h1 : retOk cells rows ls
  · rfl
  · unfold retOk at h h1
    rw [Bool.and_eq_true] at h1
    rw [h1.1, flags_prefix ls _ k h1.2] at h
    cases h
theorem all_snoc (a : List Bool) (b : Bool) : (a ++ [b]).all id = (a.all id && b) := by simp
/-- the worlds of Retune's loop -/
structure RetAt (E : TypeId) (w W : World) (bs : Nat) (S : TS) (v : Value) : Prop where
  ext : Ext w W
  box : SetBlk E W bs S v
  res : W.heap[w.heap.size]? = some (.cells #[.int .i64 0, .int .i64 0, .float .f32 0, .float .f32 0, .float .f32 0, .slice none 0 0] E (0, 0))
  up : w.heap.size < bs
  nb : ∀ b, v.ownBlock = some b → b ≠ bs
end Go.Fx
namespace Go.Proofs.YtfmghfghhipmhaaDoor
open Go.RowKit Go.Fx Go.Sort
set_option linter.unusedVariables false
set_option linter.unusedSimpArgs false
theorem newSet_T (cells rows : Int) : newSet cells rows = setT (newTS cells rows) (.slice none 0 0) := by
  unfold newSet newTS
  have e : (newT cells rows).ok = setOk cells rows 3250585600 1040187392 1065353216 0 := rfl
  rw [e]
  split <;> rfl
set_option maxRecDepth 100000 in
set_option maxHeartbeats 8000000 in
theorem iRetune_any (cells rows : Int) (F : Option Addr) (D : Nat) (ls : List ByteArray) (w : World) (E : Env w) (hF : Rd w F (ls.map st)) (hl : ls.length ≤ 1048576) (hs : ∀ x ∈ ls, x.size ≤ 1048576) :
    Calls Tryd.prog 20 #[.int .i64 cells, .int .i64 rows, .slice F ls.length D] w fun e w' => (∃ v, e = .returned (.tuple #[setT (retT cells rows (ls.map (·.data.toList))) v, .bool (retOk cells rows (ls.map (·.data.toList)))]) ∧ OS w' w.heap.size v (retT cells rows (ls.map (·.data.toList))).log) ∧ Ext w w' := by
  have HE := Lib.hid E
  have HF := Lib.hid hF
  have HS := Lib.hid hs
  clear E hF hs
  go_enter Tryd.func20, Tryd.ntmps20
  go_wp2_with fail
  refine (iNewSet_any cells rows _).mono ?_
  rintro e w1 ⟨rfl, hb1⟩
  rw [newSet_T, show setOk cells rows 3250585600 1040187392 1065353216 0 = (newT cells rows).ok from rfl]
  obtain ⟨txs, htx⟩ : ∃ txs, ls.map (·.data.toList) = txs := ⟨_, rfl⟩
  have HTX := Lib.hid htx
  clear htx
  obtain ⟨bs, hbs⟩ : ∃ bs, bs = w1.heap.size := ⟨_, rfl⟩
  have hnlog : (newTS cells rows).log = [] := by unfold newTS; split <;> rfl
  have HNL := Lib.hid hnlog
  have HNS : Hid ((newT cells rows).ok = true → newTS cells rows = newT cells rows) := Lib.hid (fun h => by unfold newTS; rw [if_pos h])
  clear hnlog
  generalize hns : newTS cells rows = S0 at *
  have HX0 : Hid (RetAt 28 w (w1.alloc (.cells #[.int .i64 S0.cells, .int .i64 S0.rows, .float .f32 S0.slice, .float .f32 S0.least, .float .f32 S0.sat, .slice none 0 0] 28)) bs S0 (.slice none 0 0)) := Lib.hid (by
    have h1 := blk_ext (heap_alloc_new w (.cells #[.int .i64 0, .int .i64 0, .float .f32 0, .float .f32 0, .float .f32 0, .slice none 0 0] 28)) hb1
    refine ⟨(Ext.trans ((Ext.refl _).alloc _) hb1).alloc _, by rw [hbs]; exact heap_alloc_new _ _, blk_alloc h1, by rw [hbs]; exact (Array.getElem?_eq_some_iff.1 h1).1, fun b hb => by cases hb⟩)
  clear hns
  go_upto_region 2 with fail
  rw [← hbs]
  generalize w1.alloc (.cells #[.int .i64 S0.cells, .int .i64 S0.rows, .float .f32 S0.slice, .float .f32 S0.least, .float .f32 S0.sat, .slice none 0 0] 28) = W1 at HX0 ⊢
  clear hbs hb1
  generalize hq0 : (newT cells rows).ok = q0 at *
  have HQ0 := Lib.hid hq0
  clear hq0
  go_wp2_with fail
  go_loopw [9, 20] (fun o i wr => ∃ (k : Nat) (q : Bool) (S : TS) (A2 : Option Addr) (c2 : Nat), k ≤ ls.length ∧ i = .int .i64 k ∧ o = .bool q ∧ Hid (q = retOk cells rows (txs.take k) ∧ (q = true → S = tuneAll (newT cells rows) (txs.take k)) ∧ S.log.length ≤ 100 ∧ RetAt 28 w wr bs S (.slice A2 S.log.length c2) ∧ OS wr (w.heap.size + 1) (.slice A2 S.log.length c2) S.log)) (fun _ i _ => ls.length - (intOf i).toNat)
  case atStart =>
    refine ⟨0, q0, S0, none, 0, Nat.zero_le _, rfl, rfl, Lib.hid ⟨?_, ?_, ?_, ?_, ?_⟩⟩
    · unfold retOk
      rw [HQ0.out, List.take_zero]
      unfold tuneFlags; simp
    · intro h; rw [HNS.out h]; rfl
    · rw [HNL.out]; exact Nat.zero_le _
    · rw [HNL.out]; exact HX0.out
    · rw [HNL.out]; exact World.ownsRow_nil _ _ _ _
  case round =>
    rename World => wo
    obtain ⟨k, q, S, A2, c2, hk, rfl, rfl, HR⟩ := hrel
    clear HX0
    by_cases hlt : k < ls.length
    · have hx600 := HS.out _ (List.getElem_mem hlt)
      have hlk : k < txs.length := by rw [← HTX.out, List.length_map]; exact hlt
      have hL : txs[k] = ls[k].data.toList := by
        have h1 : txs[k]? = (ls.map (·.data.toList))[k]? := by rw [HTX.out]
        rw [List.getElem?_eq_getElem hlk, List.getElem?_map, List.getElem?_eq_getElem hlt] at h1
        injection h1
      have HSN : Hid (tuneAll (newT cells rows) (txs.take (k + 1)) = tune (tuneAll (newT cells rows) (txs.take k)) ls[k].data.toList ∧ retOk cells rows (txs.take (k + 1)) = (retOk cells rows (txs.take k) && tuneOk (tuneAll (newT cells rows) (txs.take k)) ls[k].data.toList)) := Lib.hid (by
        rw [List.take_succ_eq_append_getElem hlk, hL]
        obtain ⟨h1, h2⟩ := tuneAll_snoc (txs.take k) (newT cells rows) ls[k].data.toList
        refine ⟨h1, ?_⟩
        unfold retOk
        rw [h2, all_snoc, Bool.and_assoc])
      obtain ⟨g, off, rfl, hgw, hc⟩ : ∃ g off, F = some ⟨g, off, none⟩ ∧ g < w.heap.size ∧ w.cell? ⟨g, off + k, none⟩ = some (.string ls[k]) := rs_at HF.out hlt
      have hc' : wo.cell? ⟨g, off + k, none⟩ = some (.string ls[k]) := by rw [Below.cell HR.out.2.2.2.1.ext (p := ⟨g, off + k, none⟩) hgw]; exact hc
      have hltI : (k : Int) < (ls.length : Int) := by omega
      generalize ls[k] = L at *
      clear hc hlk hL
      cases q
      · go_wp2_with fail
        go_roundw
        case measure => simp [intOf]; omega
        case rel =>
          refine ⟨k + 1, false, S, A2, c2, by omega, by go_num, rfl, Lib.hid ⟨?_, (fun h => by cases h), HR.out.2.2.1, HR.out.2.2.2.1, HR.out.2.2.2.2⟩⟩
          rw [HSN.out.2, ← HR.out.1]; rfl
      · have HSE := Lib.hid (HR.out.2.1 rfl)
        obtain ⟨A2', c2', e2, hr2, hz2⟩ := own_slice HR.out.2.2.2.2
        injection e2 with e2 _ e3
        subst e2 e3
        have HT : Hid (∀ W, Ext wo W → Calls Tryd.prog 22 #[setT S (.slice A2 S.log.length c2), .string L] W fun e w' => (∃ v, e = .returned (.tuple #[setT (tune S L.data.toList) v, .bool (tuneOk S L.data.toList)]) ∧ OS w' W.heap.size v (tune S L.data.toList).log) ∧ Ext W w') := Lib.hid (fun W hW => iTune_any S A2 c2 L W (HE.out.ext (HR.out.2.2.2.1.ext.trans hW)) (hr2.ext hW) hz2 (by have := HR.out.2.2.1; omega) hx600)
        clear hr2 hz2 hx600
        have kk := HR.out.2.2.2.1.box
        obtain ⟨ac0, ac1, ac2, ac3, ac4, ac5, af⟩ := blk6 kk
        clear kk
        go_wp2_with fail
        refine (HT.out _ (Ext.refl _)).mono ?_
        rintro e w2 ⟨⟨v3, rfl, ho3⟩, hb2⟩
        have hlt3 := tune_len S L.data.toList
        have HTN : Hid (tune S L.data.toList = tuneAll (newT cells rows) (txs.take (k + 1))) := Lib.hid (by rw [HSN.out.1, HSE.out])
        have HTK : Hid (tuneOk S L.data.toList = retOk cells rows (txs.take (k + 1))) := Lib.hid (by rw [HSN.out.2, ← HR.out.1, HSE.out]; rfl)
        generalize tune S L.data.toList = T at *
        generalize tuneOk S L.data.toList = q2 at *
        obtain ⟨A3, c3, rfl, -, -⟩ := own_slice ho3
        have HO3 := Lib.hid ho3
        have HB2 : Hid (SetBlk 28 w2 bs S (.slice A2 S.log.length c2)) := Lib.hid (blk_ext HR.out.2.2.2.1.box hb2)
        clear ac0 ac1 ac2 ac3 ac4 ac5 af HT ho3
        have kk := HB2.out
        obtain ⟨ac0, ac1, ac2, ac3, ac4, ac5, af⟩ := blk6 kk
        clear kk
        obtain ⟨W3, hW3⟩ : ∃ W3, W3 = put6 w2 bs T (.slice A3 T.log.length c3) := ⟨_, rfl⟩
        have HM : Hid (RetAt 28 w W3 bs T (.slice A3 T.log.length c3) ∧ OS W3 (w.heap.size + 1) (.slice A3 T.log.length c3) T.log ∧ T.log.length ≤ 100) := Lib.hid (by
          rw [hW3]
          have hup := HR.out.2.2.2.1.up
          have hbz := (Array.getElem?_eq_some_iff.1 HR.out.2.2.2.1.box).1
          have h1 : ∀ b, (Value.slice A3 T.log.length c3).ownBlock = some b → b ≠ bs := fun b hb => by have := (own_in HO3.out b hb).1; omega
          refine ⟨⟨put6_ext (HR.out.2.2.2.1.ext.trans hb2) (by omega) _ _, put6_blk HB2.out _ _, ?_, hup, h1⟩, ?_, ?_⟩
          · rw [put6_heap (by omega)]; exact blk_ext HR.out.2.2.2.1.res hb2
          · exact put6_own (own_base HO3.out (by omega)) h1 _ _
          · have := HR.out.2.2.1; omega)
        unfold put6 at hW3
        clear HO3 HB2 hb2 hc' HR hlt3
        go_upto_region 7 with fail
        rw [← hW3]
        clear hW3 ac0 ac1 ac2 ac3 ac4 ac5 af
        go_wp2_with fail
        go_roundw
        case measure => simp [intOf]; omega
        case rel => exact ⟨k + 1, q2, T, A3, c3, by omega, by go_num, rfl, Lib.hid ⟨HTK.out, fun _ => HTN.out, HM.out.2.2, HM.out.1, HM.out.2.1⟩⟩
    · obtain rfl : k = ls.length := by omega
      have hall : txs.take ls.length = txs := List.take_of_length_le (by rw [← HTX.out, List.length_map]; exact Nat.le_refl _)
      have HR2 := HR.out
      rw [hall] at HR2
      have HRR := Lib.hid HR2
      clear HR hall HR2
      have kk := HRR.out.2.2.2.1.box
      obtain ⟨ac0, ac1, ac2, ac3, ac4, ac5, af⟩ := blk6 kk
      clear kk
      have kk := HRR.out.2.2.2.1.res
      obtain ⟨bc0, bc1, bc2, bc3, bc4, bc5, bf⟩ := blk6 kk
      clear kk
      cases q
      · go_wp2_with fail
        refine bodyPost_ret (v := .tuple #[setT zeroT (.slice none 0 0), .bool false]) (by simp [results, Tryd.results20, go_sem, zeroT, *]) rfl ⟨⟨.slice none 0 0, by rw [HTX.out]; unfold retT; rw [← HRR.out.1]; rfl, ?_⟩, ?_⟩
        · rw [HTX.out]; unfold retT; rw [← HRR.out.1]; exact World.ownsRow_nil _ _ _ _
        · exact put6_ext HRR.out.2.2.2.1.ext (Nat.le_refl _) zeroT (.slice none 0 0)
      · have HSE := Lib.hid (HRR.out.2.1 rfl)
        go_wp2_with fail
        refine bodyPost_ret (v := .tuple #[setT S (.slice A2 S.log.length c2), .bool true]) (by simp [results, Tryd.results20, go_sem, *]) rfl ⟨⟨.slice A2 S.log.length c2, by rw [HTX.out]; unfold retT; rw [← HRR.out.1, if_pos rfl, ← HSE.out], ?_⟩, ?_⟩
        · rw [HTX.out]; unfold retT; rw [← HRR.out.1, if_pos rfl, ← HSE.out]
          exact put6_own (own_base HRR.out.2.2.2.2 (by omega)) (fun b hb => by have := (own_in HRR.out.2.2.2.2 b hb).1; omega) S (.slice A2 S.log.length c2)
        · exact put6_ext HRR.out.2.2.2.1.ext (Nat.le_refl _) S (.slice A2 S.log.length c2)
end Go.Proofs.YtfmghfghhipmhaaDoor

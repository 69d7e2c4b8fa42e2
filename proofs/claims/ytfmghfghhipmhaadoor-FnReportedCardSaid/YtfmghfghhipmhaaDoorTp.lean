import Derived.Test.YtfmghfghhipmhaaDoorTo
import Derived.Deep.CutRange
namespace Go.Fx
open Go.RowKit
set_option linter.unusedVariables false
set_option linter.unusedSimpArgs false
/-- a set stored into its box -/
def put6 (w : World) (b : Nat) (s : TS) (v : Value) : World := (((((w.setCell ⟨b, 0, none⟩ (.int .i64 s.cells)).setCell ⟨b, 1, none⟩ (.int .i64 s.rows)).setCell ⟨b, 2, none⟩ (.float .f32 s.slice)).setCell ⟨b, 3, none⟩ (.float .f32 s.least)).setCell ⟨b, 4, none⟩ (.float .f32 s.sat)).setCell ⟨b, 5, none⟩ v
theorem put6_blk {w : World} {b : Nat} {u0 u1 u2 u3 u4 u5 : Value} {E : TypeId} (h : w.heap[b]? = some (.cells #[u0, u1, u2, u3, u4, u5] E (0, 0))) (s : TS) (v : Value) : SetBlk E (put6 w b s v) b s v :=
  blk_put (blk_put (blk_put (blk_put (blk_put (blk_put h 0 _) 1 _) 2 _) 3 _) 4 _) 5 _
theorem put6_ext {w W : World} {b : Nat} (h : Ext w W) (hb : w.heap.size ≤ b) (s : TS) (v : Value) : Ext w (put6 W b s v) := by
  unfold put6
  repeat refine Below.setCell ?_ hb _
  exact h
theorem put6_own {w : World} {b base : Nat} {E : TypeId} {size n : Nat} {u : Value} {xs : List Value} (h : w.ownsRow base E size u n xs) (hne : ∀ c, u.ownBlock = some c → c ≠ b) (s : TS) (v : Value) : (put6 w b s v).ownsRow base E size u n xs := by
  unfold put6
  repeat (refine own_other ?_ hne _)
  exact h
theorem put6_heap {w : World} {b c : Nat} (hne : c ≠ b) (s : TS) (v : Value) : (put6 w b s v).heap[c]? = w.heap[c]? := by
  unfold put6
  repeat rw [Below.heap_setCell _ _ _ _ (by simpa using hne)]
end Go.Fx
namespace Go.Proofs.YtfmghfghhipmhaaDoor
open Go.RowKit Go.Fx Go.Sort
set_option linter.unusedVariables false
set_option linter.unusedSimpArgs false
/-- the worlds of TuneAll's loop -/
structure AllAt (w W : World) (S : TS) (v f : Value) (bs : List Bool) : Prop where
  ext : Ext w W
  box : SetBlk 28 W w.heap.size S v
  res : W.heap[w.heap.size + 1]? = some (.cells #[.int .i64 0, .int .i64 0, .float .f32 0, .float .f32 0, .float .f32 0, .slice none 0 0] 28 (0, 0))
  log : OS W (w.heap.size + 2) v S.log
  flg : OBo W (w.heap.size + 2) f bs
  apart : ∀ b, v.ownBlock = some b → f.ownBlock ≠ some b
set_option maxRecDepth 100000 in
set_option maxHeartbeats 8000000 in
theorem iTuneAll_any (s : TS) (A : Option Addr) (c : Nat) (F : Option Addr) (D : Nat) (ls : List ByteArray) (w : World) (E : Env w) (h : Rd w A (s.log.map st)) (hA : A = none → s.log.length = 0) (hn : s.log.length ≤ 1048576) (hF : Rd w F (ls.map st)) (hl : ls.length ≤ 1048576) (hs : ∀ x ∈ ls, x.size ≤ 1048576) :
    Calls Tryd.prog 17 #[setT s (.slice A s.log.length c), .slice F ls.length D] w fun e w' => (∃ v f, e = .returned (.tuple #[setT (tuneAll s (ls.map (·.data.toList))) v, f]) ∧ OS w' w.heap.size v (tuneAll s (ls.map (·.data.toList))).log ∧ OBo w' w.heap.size f (tuneFlags s (ls.map (·.data.toList))) ∧ ∀ b, v.ownBlock = some b → f.ownBlock ≠ some b) ∧ Ext w w' := by
  have HE := Lib.hid E
  have HR := Lib.hid h
  have HF := Lib.hid hF
  have HS := Lib.hid hs
  clear E h hF hs
  go_enter Tryd.func17, Tryd.ntmps17
  have HT0 := Lib.hid (TuneAt.start 28 w s (.slice A s.log.length c))
  go_wp2_with fail
  refine (iCopySet_any _ _ _ _ _ A c s.log _ (HR.out.ext HT0.out.ext) hA hn).mono ?_
  rintro e w1 ⟨⟨v1, rfl, ho1⟩, hb1⟩
  obtain ⟨A1, c1, rfl, -, -⟩ := own_slice ho1
  have HT1 := Lib.hid (HT0.out.later hb1)
  have hz : ((w.alloc (.cells #[.int .i64 s.cells, .int .i64 s.rows, .float .f32 s.slice, .float .f32 s.least, .float .f32 s.sat, .slice A s.log.length c] 28 (0, 0))).alloc (.cells #[.int .i64 0, .int .i64 0, .float .f32 0, .float .f32 0, .float .f32 0, .slice none 0 0] 28 (0, 0))).heap.size = w.heap.size + 2 := by simp
  rw [hz] at ho1
  have HO1 := Lib.hid ho1
  clear ho1 hz HT0
  have kk := HT1.out.box
  obtain ⟨ac0, ac1, ac2, ac3, ac4, ac5, af⟩ := blk6 kk
  clear kk
  go_wp2_with fail
  clear ac0 ac1 ac2 ac3 ac4 ac5 af
  obtain ⟨txs, htx⟩ : ∃ txs, ls.map (·.data.toList) = txs := ⟨_, rfl⟩
  have HTX := Lib.hid htx
  clear htx
  go_loopw [6, 15] (fun f i wr => ∃ (k : Nat) (A2 : Option Addr) (c2 : Nat), k ≤ ls.length ∧ i = .int .i64 k ∧ Hid (AllAt w wr (tuneAll s (txs.take k)) (.slice A2 (tuneAll s (txs.take k)).log.length c2) f (tuneFlags s (txs.take k)))) (fun _ i _ => ls.length - (intOf i).toNat)
  case atStart =>
    refine ⟨0, A1, c1, Nat.zero_le _, rfl, Lib.hid ⟨?_, blk_put (blk_put (blk_put (blk_put (blk_put (blk_put HT1.out.box 0 _) 1 _) 2 _) 3 _) 4 _) 5 _, ?_, ?_, World.ownsRow_nil _ _ _ _, fun b _ e => by cases e⟩⟩
    · have s1 : w.heap.size ≤ w.heap.size := Nat.le_refl _
      repeat refine Below.setCell ?_ s1 _
      exact HT1.out.ext
    · have h := HT1.out.res
      repeat rw [Below.heap_setCell _ _ _ _ (by simp)]
      exact h
    · have h := HO1.out
      have hx : ∀ b, (Value.slice A1 s.log.length c1).ownBlock = some b → b ≠ w.heap.size := fun b hb => by have := (own_in h b hb).1; omega
      unfold OS at h ⊢
      repeat (refine own_other ?_ hx _)
      exact h
  case round =>
    rename World => wo
    obtain ⟨k, A2, c2, hk, rfl, HX⟩ := hrel
    clear HT1 HO1
    by_cases hlt : k < ls.length
    · have hx600 := HS.out _ (List.getElem_mem hlt)
      have hlk : k < txs.length := by rw [← HTX.out, List.length_map]; exact hlt
      have hL : txs[k] = ls[k].data.toList := by
        have h1 : txs[k]? = (ls.map (·.data.toList))[k]? := by rw [HTX.out]
        rw [List.getElem?_eq_getElem hlk, List.getElem?_map, List.getElem?_eq_getElem hlt] at h1
        injection h1
      have HSN : Hid (tuneAll s (txs.take (k + 1)) = tune (tuneAll s (txs.take k)) ls[k].data.toList ∧ tuneFlags s (txs.take (k + 1)) = tuneFlags s (txs.take k) ++ [tuneOk (tuneAll s (txs.take k)) ls[k].data.toList]) := Lib.hid (by
        rw [List.take_succ_eq_append_getElem hlk, hL]
        exact tuneAll_snoc _ _ _)
      have hfl : (tuneFlags s (txs.take k)).length = k := by rw [tuneFlags_len, List.length_take]; omega
      have hmx := tuneAll_max (txs.take k) s
      obtain ⟨g, off, rfl, hgw, hc⟩ : ∃ g off, F = some ⟨g, off, none⟩ ∧ g < w.heap.size ∧ w.cell? ⟨g, off + k, none⟩ = some (.string ls[k]) := rs_at HF.out hlt
      have hc' : wo.cell? ⟨g, off + k, none⟩ = some (.string ls[k]) := by rw [Below.cell HX.out.ext (p := ⟨g, off + k, none⟩) hgw]; exact hc
      have hltI : (k : Int) < (ls.length : Int) := by omega
      generalize tuneAll s (txs.take k) = S at *
      generalize tuneFlags s (txs.take k) = fl at *
      generalize ls[k] = L at *
      have hof := HX.out.flg
      unfold OBo at hof
      rw [hfl] at hof
      obtain ⟨B, d, rfl, -, -⟩ := own_slice hof
      have HOF := Lib.hid hof
      have ho2 := HX.out.log
      obtain ⟨A2', c2', e2, hr2, hz2⟩ := own_slice ho2
      injection e2 with e2 _ e3
      subst e2 e3
      have HT : Hid (∀ W, Ext wo W → Calls Tryd.prog 22 #[setT S (.slice A2 S.log.length c2), .string L] W fun e w' => (∃ v, e = .returned (.tuple #[setT (tune S L.data.toList) v, .bool (tuneOk S L.data.toList)]) ∧ OS w' W.heap.size v (tune S L.data.toList).log) ∧ Ext W w') := Lib.hid (fun W hW => iTune_any S A2 c2 L W (HE.out.ext (HX.out.ext.trans hW)) (hr2.ext hW) hz2 (by omega) hx600)
      have HFL := Lib.hid hfl
      clear hof ho2 hr2 hz2 hc hlk hL hmx hfl hx600
      have kk := HX.out.box
      obtain ⟨ac0, ac1, ac2, ac3, ac4, ac5, af⟩ := blk6 kk
      clear kk
      go_wp2_with fail
      refine (HT.out _ (Ext.refl _)).mono ?_
      rintro e w2 ⟨⟨v3, rfl, ho3⟩, hb2⟩
      have hlt3 := tune_len S L.data.toList
      generalize tune S L.data.toList = T at *
      generalize tuneOk S L.data.toList = q at *
      obtain ⟨A3, c3, rfl, -, -⟩ := own_slice ho3
      have HO3 := Lib.hid ho3
      have hsz := hb2.size
      have hres := (Array.getElem?_eq_some_iff.1 HX.out.res).1
      clear ac0 ac1 ac2 ac3 ac4 ac5 af HT ho3 hlt3
      have HB2 : Hid (SetBlk 28 (w2.alloc (.cells #[.int .i64 T.cells, .int .i64 T.rows, .float .f32 T.slice, .float .f32 T.least, .float .f32 T.sat, .slice A3 T.log.length c3] 28)) w.heap.size S (.slice A2 S.log.length c2)) := Lib.hid (blk_alloc (blk_ext HX.out.box hb2))
      have kk := HB2.out
      obtain ⟨ac0, ac1, ac2, ac3, ac4, ac5, af⟩ := blk6 kk
      clear kk
      obtain ⟨W3, hW3⟩ : ∃ W3, W3 = put6 (w2.alloc (.cells #[.int .i64 T.cells, .int .i64 T.rows, .float .f32 T.slice, .float .f32 T.least, .float .f32 T.sat, .slice A3 T.log.length c3] 28)) w.heap.size T (.slice A3 T.log.length c3) := ⟨_, rfl⟩
      have HM : Hid (AllAt w W3 T (.slice A3 T.log.length c3) (.slice B k d) fl) := Lib.hid (by
        rw [hW3]
        have h1 : ∀ b, (Value.slice A3 T.log.length c3).ownBlock = some b → wo.heap.size ≤ b := fun b hb => (own_in HO3.out b hb).1
        have h2 : ∀ b, (Value.slice B k d).ownBlock = some b → w.heap.size + 2 ≤ b ∧ b < wo.heap.size := fun b hb => own_in HOF.out b hb
        refine ⟨put6_ext ((HX.out.ext.trans hb2).alloc _) (Nat.le_refl _) _ _, put6_blk HB2.out _ _, ?_, ?_, ?_, ?_⟩
        · rw [put6_heap (by omega)]; exact blk_alloc (blk_ext HX.out.res hb2)
        · refine put6_own ?_ (fun b hb => by have := h1 b hb; omega) _ _
          exact own_ext (own_base HO3.out (by omega)) ((Ext.refl _).alloc _)
        · have h9 := put6_own (own_ext (own_ext HOF.out hb2) ((Ext.refl _).alloc (.cells #[.int .i64 T.cells, .int .i64 T.rows, .float .f32 T.slice, .float .f32 T.least, .float .f32 T.sat, .slice A3 T.log.length c3] 28))) (fun b hb => by have := h2 b hb; omega) T (.slice A3 T.log.length c3) (b := w.heap.size)
          unfold OBo
          rw [HFL.out]
          exact h9
        · intro b hb e
          have := h1 b hb
          have := h2 b e
          omega)
      unfold put6 at hW3
      clear HO3 HX HOF hsz hres hb2 hc' HB2
      go_upto_region 8 with fail
      rw [← hW3]
      clear hW3 ac0 ac1 ac2 ac3 ac4 ac5 af
      have hof := HM.out.flg
      unfold OBo at hof
      rw [HFL.out] at hof
      have HOF := Lib.hid hof
      clear hof
      go_wp2_with
        (at_builtin
         refine wpList_app rfl _ _ 36 rfl (w.heap.size + 2) 4 _ 1 1 Tryd.underlying36 info_bool rfl (by omega) (.slice B k d) k (fl.map bo) rfl (own_ext HOF.out ((Ext.refl _).alloc _)) _ 1 1 _ rfl (rd_new _ _ _ _) rfl (fun h => by cases h) (by intro u hu; simp at hu; rcases hu with rfl; rfl) (by unfold maxLen; omega) (by omega) (by have h9 := (Array.getElem?_eq_some_iff.1 HM.out.res).1; simp; omega) ?_
         intro v9 w9 ho9 hg9 hat)
      go_roundw
      case measure => simp [intOf]; omega
      case rel =>
        have h2 : ∀ b, (Value.slice B k d).ownBlock = some b → w.heap.size + 2 ≤ b ∧ b < W3.heap.size := fun b hb => own_in HOF.out b hb
        have h3 : ∀ b, (Value.slice A3 T.log.length c3).ownBlock = some b → w.heap.size + 2 ≤ b ∧ b < W3.heap.size := fun b hb => own_in HM.out.log b hb
        refine ⟨k + 1, A3, c3, by omega, by go_num, ?_⟩
        rw [HSN.out.1, HSN.out.2]
        refine Lib.hid ⟨ext_grow (HM.out.ext.alloc _) (own_ext HOF.out ((Ext.refl _).alloc _)) (by omega) hg9, blk_past (blk_alloc HM.out.box) hg9 (fun e => by have := h2 _ e.symm; omega), blk_past (blk_alloc HM.out.res) hg9 (fun e => by have := h2 _ e.symm; omega), own_apart (own_ext HM.out.log ((Ext.refl _).alloc _)) hg9 (fun b hb e => HM.out.apart b hb e.symm), ?_, ?_⟩
        · unfold OBo
          rw [List.length_append, HFL.out, List.map_append]
          exact ho9
        · intro b hb e
          rcases hat with hat | hat
          · rw [hat] at e; exact HM.out.apart b hb e
          · rw [hat] at e
            injection e with e
            have := h3 b hb
            simp at e
            omega
    · obtain rfl : k = ls.length := by omega
      have hall : txs.take ls.length = txs := List.take_of_length_le (by rw [← HTX.out, List.length_map]; exact Nat.le_refl _)
      have HX2 := HX.out
      rw [hall] at HX2
      clear HX hall
      generalize hS : tuneAll s txs = S at HX2
      generalize hfl : tuneFlags s txs = fl at HX2
      have HTS := Lib.hid hS
      have HTF := Lib.hid hfl
      have HXE := Lib.hid HX2
      clear hS hfl HX2
      have kk := HXE.out.box
      obtain ⟨ac0, ac1, ac2, ac3, ac4, ac5, af⟩ := blk6 kk
      clear kk
      have kk := HXE.out.res
      obtain ⟨bc0, bc1, bc2, bc3, bc4, bc5, bf⟩ := blk6 kk
      clear kk
      go_wp2_with fail
      refine bodyPost_ret (v := .tuple #[setT S (.slice A2 S.log.length c2), u6]) (by simp [results, Tryd.results17, go_sem, *]) rfl ⟨⟨.slice A2 S.log.length c2, u6, by rw [HTX.out, HTS.out], ?_, ?_, HXE.out.apart⟩, ?_⟩
      · rw [HTX.out, HTS.out]
        exact put6_own (own_base HXE.out.log (by omega)) (fun b hb => by have := (own_in HXE.out.log b hb).1; omega) S (.slice A2 S.log.length c2)
      · rw [HTX.out, HTF.out]
        exact put6_own (own_base HXE.out.flg (by omega)) (fun b hb => by have := (own_in HXE.out.flg b hb).1; omega) S (.slice A2 S.log.length c2)
      · exact put6_ext HXE.out.ext (by omega) S (.slice A2 S.log.length c2)
end Go.Proofs.YtfmghfghhipmhaaDoor

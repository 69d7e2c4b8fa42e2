import Derived.Test.YtfmghfghhipmhaaDoorTp
import Derived.Deep.RegionHeld3
namespace Go.Proofs.YtfmghfghhipmhaaDoor
open Go.RowKit Go.Fx Go.Sort
set_option linter.unusedVariables false
set_option linter.unusedSimpArgs false
/-- the worlds of the reference's loop -/
structure AllS (w W : World) (bs : Nat) (S : TS) (v f : Value) (fl : List Bool) : Prop where
  ext : Ext w W
  box : SetBlk 28 W bs S v
  res : W.heap[w.heap.size + 1]? = some (.cells #[.int .i64 0, .int .i64 0, .float .f32 0, .float .f32 0, .float .f32 0, .slice none 0 0] 28 (0, 0))
  log : OS W (w.heap.size + 2) v S.log
  flg : OBo W (w.heap.size + 2) f fl
  apart : ∀ b, v.ownBlock = some b → f.ownBlock ≠ some b
  nb1 : ∀ b, v.ownBlock = some b → b ≠ bs
  nb2 : ∀ b, f.ownBlock = some b → b ≠ bs
set_option maxRecDepth 100000 in
set_option maxHeartbeats 8000000 in
theorem sTuneAll_any (s : TS) (A : Option Addr) (c : Nat) (F : Option Addr) (D : Nat) (ls : List ByteArray) (w : World) (h : Rd w A (s.log.map st)) (hA : A = none → s.log.length = 0) (hn : s.log.length ≤ 1048576) (hF : Rd w F (ls.map st)) (hl : ls.length ≤ 1048576) (hs : ∀ x ∈ ls, x.size ≤ 1048576) :
    Calls Tryd.prog 33 #[setT s (.slice A s.log.length c), .slice F ls.length D] w fun e w' => (∃ v f, e = .returned (.tuple #[setT (tuneAll s (ls.map (·.data.toList))) v, f]) ∧ OS w' w.heap.size v (tuneAll s (ls.map (·.data.toList))).log ∧ OBo w' w.heap.size f (tuneFlags s (ls.map (·.data.toList))) ∧ ∀ b, v.ownBlock = some b → f.ownBlock ≠ some b) ∧ Ext w w' := by
  have HR := Lib.hid h
  have HF := Lib.hid hF
  have HS := Lib.hid hs
  clear h hF hs
  go_enter Tryd.func33, Tryd.ntmps33
  have HT0 := Lib.hid (TuneAt.start 28 w s (.slice A s.log.length c))
  have ho0 := own_new ((w.alloc (.cells #[.int .i64 s.cells, .int .i64 s.rows, .float .f32 s.slice, .float .f32 s.least, .float .f32 s.sat, .slice A s.log.length c] 28 (0, 0))).alloc (.cells #[.int .i64 0, .int .i64 0, .float .f32 0, .float .f32 0, .float .f32 0, .slice none 0 0] 28 (0, 0))) (w.heap.size + 2) 4 1 (by simp)
  rw [show ((w.alloc (.cells #[.int .i64 s.cells, .int .i64 s.rows, .float .f32 s.slice, .float .f32 s.least, .float .f32 s.sat, .slice A s.log.length c] 28 (0, 0))).alloc (.cells #[.int .i64 0, .int .i64 0, .float .f32 0, .float .f32 0, .float .f32 0, .slice none 0 0] 28 (0, 0))).heap.size = w.heap.size + 1 + 1 by simp] at ho0
  have HO0 := Lib.hid ho0
  clear ho0
  go_wp2_with fail
  have HT1 := Lib.hid (HT0.out.later ((Ext.refl _).alloc (.cells #[] 4 (0, 0))))
  refine (sCopySet_any _ _ _ _ _ A c s.log _ (HR.out.ext HT1.out.ext) hA hn).mono ?_
  rintro e w1 ⟨⟨v1, rfl, ho1⟩, hb1⟩
  obtain ⟨A1, c1, rfl, -, -⟩ := own_slice ho1
  have HT2 := Lib.hid (HT1.out.later hb1)
  have HO1 := Lib.hid (own_base (base' := w.heap.size + 2) ho1 (by simp))
  have HO2 := Lib.hid (own_ext HO0.out hb1)
  have HN1 : Hid (∀ b, (Value.slice A1 s.log.length c1).ownBlock = some b → ¬ b ≤ w.heap.size + 2) := Lib.hid (fun b hb h9 => by have := (own_in ho1 b hb).1; simp at this; omega)
  clear ho1 HO0 HT1 HT0 hb1
  obtain ⟨bs, hbs⟩ : ∃ bs, bs = w1.heap.size := ⟨_, rfl⟩
  obtain ⟨txs, htx⟩ : ∃ txs, ls.map (·.data.toList) = txs := ⟨_, rfl⟩
  have HTX := Lib.hid htx
  clear htx
  have hbw : w.heap.size + 2 < bs := by
    rw [hbs]; exact (own_in HO2.out _ rfl).2
  have HBS := Lib.hid hbs
  go_upto_region 3 with fail
  rw [← hbs]
  have HX0 : Hid (AllS w (w1.alloc (.cells #[.int .i64 s.cells, .int .i64 s.rows, .float .f32 s.slice, .float .f32 s.least, .float .f32 s.sat, .slice A1 s.log.length c1] 28)) bs s (.slice A1 s.log.length c1) (.slice (some ⟨w.heap.size + 1 + 1, 0, none⟩) 0 0) []) := Lib.hid (by
    have h1 : ∀ b, (Value.slice A1 s.log.length c1).ownBlock = some b → w.heap.size + 2 < b ∧ b < bs := fun b hb => by
      rw [hbs]; exact ⟨Nat.lt_of_not_le (fun h9 => HN1.out b hb h9), (own_in HO1.out b hb).2⟩
    refine ⟨HT2.out.ext.alloc _, by rw [hbs]; exact heap_alloc_new _ _, blk_alloc HT2.out.res, own_ext HO1.out ((Ext.refl _).alloc _), own_ext HO2.out ((Ext.refl _).alloc _), ?_, fun b hb => by have := h1 b hb; omega, ?_⟩
    · intro b hb e
      have := h1 b hb
      have e' : w.heap.size + 1 + 1 = b := Option.some.inj e
      omega
    · intro b hb
      have e' : w.heap.size + 1 + 1 = b := Option.some.inj hb
      omega)
  generalize w1.alloc (.cells #[.int .i64 s.cells, .int .i64 s.rows, .float .f32 s.slice, .float .f32 s.least, .float .f32 s.sat, .slice A1 s.log.length c1] 28) = W1 at HX0 ⊢
  clear HT2 HO1 HO2 hbs HBS HN1
  go_wp2_with fail
  go_loopw [6, 8] (fun f i wr => ∃ (k : Nat) (A2 : Option Addr) (c2 : Nat), k ≤ ls.length ∧ i = .int .i64 k ∧ Hid (AllS w wr bs (tuneAll s (txs.take k)) (.slice A2 (tuneAll s (txs.take k)).log.length c2) f (tuneFlags s (txs.take k)))) (fun _ i _ => ls.length - (intOf i).toNat)
  case atStart => exact ⟨0, A1, c1, Nat.zero_le _, rfl, HX0⟩
  case round =>
    rename World => wo
    obtain ⟨k, A2, c2, hk, rfl, HX⟩ := hrel
    clear HX0
    by_cases hlt : k < ls.length
    · have hx600 := HS.out _ (List.getElem_mem hlt)
      have hlk : k < txs.length := by rw [← HTX.out, List.length_map]; exact hlt
      have hL : txs[k] = ls[k].data.toList := by
        have h1 : txs[k]? = (ls.map (·.data.toList))[k]? := by rw [HTX.out]
        rw [List.getElem?_eq_getElem hlk, List.getElem?_map, List.getElem?_eq_getElem hlt] at h1
        injection h1
      have HSN : Hid (tuneAll s (txs.take (k + 1)) = tune (tuneAll s (txs.take k)) ls[k].data.toList ∧ tuneFlags s (txs.take (k + 1)) = tuneFlags s (txs.take k) ++ [tuneOk (tuneAll s (txs.take k)) ls[k].data.toList]) := Lib.hid (by
        rw [List.take_succ_eq_append_getElem hlk, hL]
        exact tuneAll_snoc _ _ _)
      have hfl : (tuneFlags s (txs.take k)).length = k := by rw [tuneFlags_len, List.length_take]; omega
      have hmx := tuneAll_max (txs.take k) s
      obtain ⟨g, off, rfl, hgw, hc⟩ : ∃ g off, F = some ⟨g, off, none⟩ ∧ g < w.heap.size ∧ w.cell? ⟨g, off + k, none⟩ = some (.string ls[k]) := rs_at HF.out hlt
      have hltI : (k : Int) < (ls.length : Int) := by omega
      generalize tuneAll s (txs.take k) = S at *
      generalize tuneFlags s (txs.take k) = fl at *
      generalize ls[k] = L at *
      have hof := HX.out.flg
      unfold OBo at hof
      rw [hfl] at hof
      obtain ⟨B, d, rfl, -, -⟩ := own_slice hof
      have HOF := Lib.hid hof
      have ho2 := HX.out.log
      obtain ⟨A2', c2', e2, hr2, hz2⟩ := own_slice ho2
      injection e2 with e2 _ e3
      subst e2 e3
      have HT : Hid (∀ W, Ext wo W → Calls Tryd.prog 21 #[setT S (.slice A2 S.log.length c2), .string L] W fun e w' => (∃ v, e = .returned (.tuple #[setT (tune S L.data.toList) v, .bool (tuneOk S L.data.toList)]) ∧ OS w' W.heap.size v (tune S L.data.toList).log) ∧ Ext W w') := Lib.hid (fun W hW => sTune_any S A2 c2 L W (hr2.ext hW) hz2 (by omega) hx600)
      have HFL := Lib.hid hfl
      have KS : Hid (∀ W, Ext wo W → W.cell? ⟨g, off + k, none⟩ = some (.string L) ∧ W.cell? ⟨bs, 0, none⟩ = some (.int .i64 S.cells) ∧ W.cell? ⟨bs, 1, none⟩ = some (.int .i64 S.rows) ∧ W.cell? ⟨bs, 2, none⟩ = some (.float .f32 S.slice) ∧ W.cell? ⟨bs, 3, none⟩ = some (.float .f32 S.least) ∧ W.cell? ⟨bs, 4, none⟩ = some (.float .f32 S.sat) ∧ W.cell? ⟨bs, 5, none⟩ = some (.slice A2 S.log.length c2)) := Lib.hid (fun W hW => by
        have f1 := blk_ext HX.out.box hW
        obtain ⟨ac0, ac1, ac2, ac3, ac4, ac5, af⟩ := blk6 f1
        exact ⟨by rw [Below.cell (HX.out.ext.trans hW) (p := ⟨g, off + k, none⟩) hgw]; exact hc, ac0, ac1, ac2, ac3, ac4, ac5⟩)
      clear hof ho2 hr2 hz2 hc hlk hL hmx hfl hx600
      generalize hT : tune S L.data.toList = T at *
      generalize hq : tuneOk S L.data.toList = q at *
      have hlt3 := tune_len S L.data.toList
      obtain ⟨r0, r1, r2, r3, r4, r5, r6⟩ := KS.out _ (Ext.refl _)
      go_upto_region 6 with fail
      go_cut [9, 10] from 14 to 33 (fun s9 s10 wr => ∃ (nb : Nat) (A3 : Option Addr) (c3 : Nat), s9 = .pointer (some ⟨nb, 0, none⟩) ∧ s10 = .bool q ∧ Hid (Ext wo wr ∧ SetBlk 28 wr nb T (.slice A3 T.log.length c3) ∧ OS wr wo.heap.size (.slice A3 T.log.length c3) T.log))
      case first =>
        obtain ⟨q0, q1, q2, q3, q4, q5, q6⟩ := KS.out (wo.alloc (.cells #[.int .i64 0, .int .i64 0, .float .f32 0, .float .f32 0, .float .f32 0, .slice none 0 0] 28 (0, 0))) (by (repeat (first | exact Below.refl _ _ | assumption | refine below_drewN ?_ _ | refine Below.drew ?_ | refine Below.alloc ?_ (by first | exact Nat.le_refl _ | (simp; done) | (simp; omega)) _ | refine Below.setCell ?_ (by first | exact Nat.le_refl _ | (simp; done) | (simp; omega)) _)))
        go_region_law
          (first
            | (go_simp
               go_at_call 21
               refine (HT.out _ (by (repeat (first | exact Below.refl _ _ | assumption | refine below_drewN ?_ _ | refine Below.drew ?_ | refine Below.alloc ?_ (by first | exact Nat.le_refl _ | (simp; done) | (simp; omega)) _ | refine Below.setCell ?_ (by first | exact Nat.le_refl _ | (simp; done) | (simp; omega)) _)))).mono ?_
               rintro e w2 ⟨⟨v3, rfl, ho3⟩, hb2⟩
               have hn3 := own_in ho3
               first
                 | (have kz : w2.heap[wo.heap.size]? = some (.cells #[.int .i64 0, .int .i64 0, .float .f32 0, .float .f32 0, .float .f32 0, .slice none 0 0] 28 (0, 0)) := by (refine blk_ext ?_ hb2; exact heap_alloc_new _ _)
                    obtain ⟨zc0, zc1, zc2, zc3, zc4, zc5, zf⟩ := blk6 kz)
                 | skip
               replace ho3 := own_base (base' := wo.heap.size) ho3 (by simp)
               replace hb2 := Ext.trans (a := wo) (by (repeat (first | exact Below.refl _ _ | assumption | refine below_drewN ?_ _ | refine Below.drew ?_ | refine Below.alloc ?_ (by first | exact Nat.le_refl _ | (simp; done) | (simp; omega)) _ | refine Below.setCell ?_ (by first | exact Nat.le_refl _ | (simp; done) | (simp; omega)) _))) hb2
               obtain ⟨A3, c3, rfl, -, -⟩ := own_slice ho3
               obtain ⟨r0, r1, r2, r3, r4, r5, r6⟩ := KS.out _ hb2))
        all_goals
          simp only [Act.put, List.getElem_toArray, List.getElem_cons_succ, List.getElem_cons_zero, List.setIfInBounds_toArray, List.set_cons_succ, List.set_cons_zero]
          go_step
          go_step
          go_meet
          case rel =>
            refine ⟨_, A3, c3, rfl, rfl, ?_⟩
            first
              | (have kz2 := kz
                 have hh3 : ∀ b, (Value.slice A3 T.log.length c3).ownBlock = some b → b ≠ wo.heap.size := fun b hb => by have h9 := (hn3 b hb).1; simp at h9; omega
                 exact Lib.hid ⟨put6_ext hb2 (Nat.le_refl _) T (.slice A3 T.log.length c3), put6_blk kz T (.slice A3 T.log.length c3), put6_own ho3 hh3 T (.slice A3 T.log.length c3)⟩)
              | exact Lib.hid ⟨hb2.alloc _, heap_alloc_new _ _, own_ext ho3 ((Ext.refl _).alloc _)⟩
      case rest =>
        rename World => wn
        obtain ⟨nb, A3, c3, rfl, rfl, HN⟩ := hcut
        clear KS HT r0 r1 r2 r3 r4 r5 r6
        have hbz : bs < wo.heap.size := (Array.getElem?_eq_some_iff.1 HX.out.box).1
        have HB2 : Hid (SetBlk 28 wn bs S (.slice A2 S.log.length c2)) := Lib.hid (blk_ext HX.out.box HN.out.1)
        have kk := HB2.out
        obtain ⟨ac0, ac1, ac2, ac3, ac4, ac5, af⟩ := blk6 kk
        have kk2 := HN.out.2.1
        obtain ⟨zc0, zc1, zc2, zc3, zc4, zc5, zf⟩ := blk6 kk2
        clear kk kk2
        obtain ⟨W3, hW3⟩ : ∃ W3, W3 = put6 wn bs T (.slice A3 T.log.length c3) := ⟨_, rfl⟩
        have HM : Hid (AllS w W3 bs T (.slice A3 T.log.length c3) (.slice B k d) fl) := Lib.hid (by
          rw [hW3]
          have h1 : ∀ b, (Value.slice A3 T.log.length c3).ownBlock = some b → wo.heap.size ≤ b := fun b hb => (own_in HN.out.2.2 b hb).1
          have h2 : ∀ b, (Value.slice B k d).ownBlock = some b → w.heap.size + 2 ≤ b ∧ b < wo.heap.size := fun b hb => own_in HOF.out b hb
          have hxx := HX.out.ext.size
          have hrr := (Array.getElem?_eq_some_iff.1 HX.out.res).1
          refine ⟨put6_ext (HX.out.ext.trans HN.out.1) (by omega) _ _, put6_blk HB2.out _ _, ?_, ?_, ?_, ?_, ?_, HX.out.nb2⟩
          · rw [put6_heap (by omega)]; exact blk_ext HX.out.res HN.out.1
          · refine put6_own ?_ (fun b hb => by have := h1 b hb; omega) _ _
            exact own_base HN.out.2.2 (by omega)
          · have h9 := put6_own (own_ext HOF.out HN.out.1) (fun b hb => HX.out.nb2 b hb) T (.slice A3 T.log.length c3) (b := bs)
            unfold OBo
            rw [HFL.out]
            exact h9
          · intro b hb e
            have := h1 b hb
            have := h2 b e
            omega
          · intro b hb
            have := h1 b hb
            omega)
        unfold put6 at hW3
        clear HX HOF HB2 HN hbz
        go_upto_region 8 with fail
        rw [← hW3]
        clear hW3 ac0 ac1 ac2 ac3 ac4 ac5 af zc0 zc1 zc2 zc3 zc4 zc5 zf
        have hof := HM.out.flg
        unfold OBo at hof
        rw [HFL.out] at hof
        have HOF := Lib.hid hof
        clear hof
        go_wp2_with
          (at_builtin
           refine wpList_app rfl _ _ 36 rfl (w.heap.size + 2) 4 _ 1 1 Tryd.underlying36 info_bool rfl (by omega) (.slice B k d) k (fl.map bo) rfl (own_ext HOF.out ((Ext.refl _).alloc _)) _ 1 1 _ rfl (rd_new _ _ _ _) rfl (fun h => by cases h) (by intro u hu; simp at hu; rcases hu with rfl; rfl) (by unfold maxLen; omega) (by omega) (by have h9 := (Array.getElem?_eq_some_iff.1 HM.out.res).1; simp; omega) ?_
           intro v9 w9 ho9 hg9 hat)
        go_roundw
        case measure => simp [intOf]; omega
        case rel =>
          have h2 : ∀ b, (Value.slice B k d).ownBlock = some b → w.heap.size + 2 ≤ b ∧ b < W3.heap.size := fun b hb => own_in HOF.out b hb
          have h3 : ∀ b, (Value.slice A3 T.log.length c3).ownBlock = some b → w.heap.size + 2 ≤ b ∧ b < W3.heap.size := fun b hb => own_in HM.out.log b hb
          have hbz := (Array.getElem?_eq_some_iff.1 HM.out.box).1
          refine ⟨k + 1, A3, c3, by omega, by go_num, ?_⟩
          rw [HSN.out.1, HSN.out.2]
          refine Lib.hid ⟨ext_grow (HM.out.ext.alloc _) (own_ext HOF.out ((Ext.refl _).alloc _)) (by omega) hg9, blk_past (blk_alloc HM.out.box) hg9 (fun e => HM.out.nb2 _ e.symm rfl), blk_past (blk_alloc HM.out.res) hg9 (fun e => by have := h2 _ e.symm; omega), own_apart (own_ext HM.out.log ((Ext.refl _).alloc _)) hg9 (fun b hb e => HM.out.apart b hb e.symm), ?_, ?_, HM.out.nb1, ?_⟩
          · unfold OBo
            rw [List.length_append, HFL.out, List.map_append]
            exact ho9
          · intro b hb e
            rcases hat with hat | hat
            · rw [hat] at e; exact HM.out.apart b hb e
            · rw [hat] at e
              injection e with e
              have := h3 b hb
              simp at e
              omega
          · intro b hb
            rcases hat with hat | hat
            · rw [hat] at hb; exact HM.out.nb2 b hb
            · rw [hat] at hb
              injection hb with hb
              simp at hb
              omega
    · obtain rfl : k = ls.length := by omega
      have hall : txs.take ls.length = txs := List.take_of_length_le (by rw [← HTX.out, List.length_map]; exact Nat.le_refl _)
      have HX2 := HX.out
      rw [hall] at HX2
      clear HX hall
      generalize hS : tuneAll s txs = S at HX2
      generalize hfl : tuneFlags s txs = fl at HX2
      have HTS := Lib.hid hS
      have HTF := Lib.hid hfl
      have HXE := Lib.hid HX2
      clear hS hfl HX2
      have kk := HXE.out.box
      obtain ⟨ac0, ac1, ac2, ac3, ac4, ac5, af⟩ := blk6 kk
      clear kk
      have kk := HXE.out.res
      obtain ⟨bc0, bc1, bc2, bc3, bc4, bc5, bf⟩ := blk6 kk
      clear kk
      go_wp2_with fail
      refine bodyPost_ret (v := .tuple #[setT S (.slice A2 S.log.length c2), u6]) (by simp [results, Tryd.results33, go_sem, *]) rfl ⟨⟨.slice A2 S.log.length c2, u6, by rw [HTX.out, HTS.out], ?_, ?_, HXE.out.apart⟩, ?_⟩
      · rw [HTX.out, HTS.out]
        exact put6_own (own_base HXE.out.log (by omega)) (fun b hb => by have := (own_in HXE.out.log b hb).1; omega) S (.slice A2 S.log.length c2)
      · rw [HTX.out, HTF.out]
        exact put6_own (own_base HXE.out.flg (by omega)) (fun b hb => by have := (own_in HXE.out.flg b hb).1; omega) S (.slice A2 S.log.length c2)
      · exact put6_ext HXE.out.ext (by omega) S (.slice A2 S.log.length c2)
end Go.Proofs.YtfmghfghhipmhaaDoor

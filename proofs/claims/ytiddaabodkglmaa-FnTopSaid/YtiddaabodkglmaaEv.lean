import Derived.Test.YtiddaabodkglmaaEt
import Derived.Test.YtiddaabodkglmaaK4
import Derived.Test.YtiddaabodkglmaaK3
namespace Go.Fx
theorem tr_snoc {ch : Chn} {rs : List Nat} {k : Nat} (h : k < (decode false (cns rs)).length) : ((decode false (cns rs)).take (k + 1)).flatMap (tr1 ch) = ((decode false (cns rs)).take k).flatMap (tr1 ch) ++ tr1 ch (decode false (cns rs))[k] := by
  rw [take_snoc h, List.flatMap_append]; simp
theorem tr1_E4 {ch : Chn} {d : Cel} {y re im m : Nat} (hm : cn .f32 m = mul32 (cn .f32 ch.a) (cn .f32 d.y)) (hy : cn .f32 y = add32 (cn .f32 m) (cn .f32 ch.off)) (hr : cn .f32 re = timesRe (cn .f32 d.re) (cn .f32 d.im) (cn .f32 ch.re) (cn .f32 ch.im)) (hi : cn .f32 im = timesIm (cn .f32 d.re) (cn .f32 d.im) (cn .f32 ch.re) (cn .f32 ch.im)) : E4 y re im = tr1 ch.cn d.cn := by
  unfold E4 tr1
  rw [hr, hi, hy, hm]; rfl
theorem trOk_ch {ch : Chn} {rs : List Nat} (h : chnOk ch = false) : trOk ch rs = false ∧ tr ch rs = [] := by
  have : trOk ch rs = false := by unfold trOk; rw [h]; rfl
  exact ⟨this, by unfold tr; rw [this]; rfl⟩
theorem trOk_rs {ch : Chn} {rs : List Nat} (h : samplesOk rs = false) : trOk ch rs = false ∧ tr ch rs = [] := by
  have : trOk ch rs = false := by unfold trOk; rw [h, Bool.and_false]; rfl
  exact ⟨this, by unfold tr; rw [this]; rfl⟩
theorem trOk_is {ch : Chn} {rs gs : List Nat} (h : chnOk ch = true) (h2 : samplesOk rs = true) (hg : cns gs = trAll ch rs) : trOk ch rs = samplesOk gs ∧ (samplesOk gs = true → tr ch rs = trAll ch rs) ∧ (samplesOk gs = false → tr ch rs = []) := by
  have e : trOk ch rs = samplesOk gs := by unfold trOk; rw [h, h2, samplesOk_of hg]; rfl
  refine ⟨e, fun hs => ?_, fun hs => ?_⟩
  · unfold tr; rw [e, hs]; rfl
  · unfold tr; rw [e, hs]; rfl
theorem samplesOk_len {rs : List Nat} (h : samplesOk rs = true) : 4 ≤ rs.length ∧ rs.length ≤ 4096 ∧ rs.length % 4 = 0 := by
  unfold samplesOk at h
  simp only [Bool.and_eq_true, decide_eq_true_eq] at h
  exact ⟨h.1.1.1, h.1.1.2, h.1.2⟩
end Go.Fx
namespace Go.Proofs.Ytiddaabodkglmaa
open Go.RowKit Go.Fx
set_option linter.unusedVariables false
set_option linter.unusedSimpArgs false
set_option maxRecDepth 100000 in
set_option maxHeartbeats 4000000 in
theorem iTransmit_any (ch : Chn) (A : Option Addr) (c : Nat) (rs : List Nat) (w : World) (h : Rd w A (rs.map fl)) (hn : rs.length ≤ maxLen) (hc : rs.length ≤ c) :
    Calls Try.prog 89 #[.agg #[.float .f32 ch.a, .float .f32 ch.off, .complex .f32 ch.re ch.im], .slice A rs.length c] w fun e w' => (∃ v gs, e = .returned (.tuple #[v, .bool (trOk ch rs)]) ∧ OF w' w.heap.size v gs ∧ cns gs = tr ch rs) ∧ Ext w w' := by
  have H := Lib.hid h
  clear h
  have hal : Ext w (w.alloc (.cells #[.float .f32 ch.a, .float .f32 ch.off, .complex .f32 ch.re ch.im] 32)) := (Ext.refl _).alloc _
  have hblk := heap_alloc_new w (.cells #[.float .f32 ch.a, .float .f32 ch.off, .complex .f32 ch.re ch.im] 32)
  cases hco : chnOk ch
  · have HN := Lib.hid (trOk_ch (rs := rs) hco)
    go_enter Try.func89, Try.ntmps89
    go_wp2_with fail
    refine (iChannelOk_any _ _ _ _ _).mono ?_
    rintro e w1 ⟨rfl, hb1⟩
    rw [hco]
    go_wp2_with fail
    go_ret2
    exact ⟨⟨_, [], by rw [HN.out.1]; rfl, World.ownsRow_nil _ _ _ _, by rw [HN.out.2]; rfl⟩, hal.trans hb1⟩
  · have HO := Lib.hid hco
    cases hso : samplesOk rs
    · have HN := Lib.hid (trOk_rs (ch := ch) hso)
      go_enter Try.func89, Try.ntmps89
      go_wp2_with fail
      refine (iChannelOk_any _ _ _ _ _).mono ?_
      rintro e w1 ⟨rfl, hb1⟩
      rw [hco]
      replace hb1 := hal.trans hb1
      go_wp2_with fail
      refine (iSamplesOk_any A c rs _ (H.out.ext hb1) hn).mono ?_
      rintro e w2 ⟨rfl, rfl⟩
      rw [hso]
      go_wp2_with fail
      go_ret2
      exact ⟨⟨_, [], by rw [HN.out.1]; rfl, World.ownsRow_nil _ _ _ _, by rw [HN.out.2]; rfl⟩, hb1⟩
    · have HS := Lib.hid hso
      have hsl := samplesOk_len hso
      go_enter Try.func89, Try.ntmps89
      go_wp2_with fail
      refine (iChannelOk_any _ _ _ _ _).mono ?_
      rintro e w1 ⟨rfl, hb1⟩
      rw [hco]
      have HK1 := Lib.hid (blk_ext hblk hb1)
      replace hb1 := hal.trans hb1
      go_wp2_with fail
      refine (iSamplesOk_any A c rs _ (H.out.ext hb1) hn).mono ?_
      rintro e w2 ⟨rfl, rfl⟩
      rw [hso]
      clear hco hso hal hblk
      go_wp2_with fail
      go_loopw [6, 7, 8, 9, 10, 11] (fun v i p y d n wr => ∃ (k m : Nat) (gs : List Nat), 4 * k ≤ rs.length ∧ Hid (m = 4 * k) ∧ gs.length = m ∧ i = .int .i64 (4 * (k : Int)) ∧ wr.ownsRow (w.heap.size + 1) 29 1 v m (gs.map fl) ∧ Hid (cns gs = ((Fx.decode false (cns rs)).take k).flatMap (tr1 ch.cn)) ∧ Hid (wr.heap[w.heap.size]? = some (.cells #[.float .f32 ch.a, .float .f32 ch.off, .complex .f32 ch.re ch.im] 32 (0, 0))) ∧ Ext w wr) (fun _ i _ _ _ _ _ => rs.length - (intOf i).toNat)
      case atStart => exact ⟨0, 0, [], by omega, Lib.hid rfl, rfl, rfl, World.ownsRow_nil _ _ _ _, Lib.hid (by simp), HK1, hb1⟩
      case round =>
        obtain ⟨k, m, gs, hk, hm4, hgl, rfl, ho, HM, HK, hbr⟩ := hrel
        clear HK1 hb1
        rename World => wo
        obtain ⟨A1, c1, rfl, -, -⟩ := own_slice ho
        have hml : m ≤ 4096 := by have := hm4.out; omega
        by_cases hlt : 4 * k < rs.length
        · have hx : 4 * k + 3 < rs.length := by omega
          obtain ⟨b, off, rfl, hbw, h0⟩ := rf_at (H.out.ext hbr) (i := 4 * k) (by omega)
          obtain ⟨_, _, e1, _, h1⟩ := rf_at (H.out.ext hbr) (i := 4 * k + 1) (by omega)
          cases e1
          obtain ⟨_, _, e1, _, h2⟩ := rf_at (H.out.ext hbr) (i := 4 * k + 2) (by omega)
          cases e1
          obtain ⟨_, _, e1, _, h3⟩ := rf_at (H.out.ext hbr) (i := 4 * k + 3) (by omega)
          cases e1
          rw [← Nat.add_assoc] at h1 h2 h3
          obtain ⟨hkd, hdk⟩ := dec1_at false (k := k) hx
          have HD := Lib.hid hdk
          have HT := Lib.hid (tr_snoc (ch := ch.cn) hkd)
          clear hdk
          generalize rs[4 * k] = s0 at *
          generalize rs[4 * k + 1] = s1 at *
          generalize rs[4 * k + 2] = s2 at *
          generalize rs[4 * k + 3] = s3 at *
          go_wp2_with fail
          refine (decoded_any b (off + 4 * k) (c - 4 * k) s0 s1 s2 s3 false _ hbw h0 h1 h2 h3).mono ?_
          rintro e w1 ⟨⟨d, rfl, hd⟩, hb1⟩
          have kb := blk_ext HK.out hb1
          have hws : w.heap.size < w1.heap.size := (Array.getElem?_eq_some_iff.1 kb).1
          have HD2 := Lib.hid hd
          clear hd h0 h1 h2 h3
          replace ho := own_ext ho hb1
          replace hbr := hbr.trans hb1
          have HKB := Lib.hid kb
          obtain ⟨kkc0, kkc1, kkc2, kkf⟩ := blk3 kb
          clear kb
          go_wp2_with (with_reducible first | (refine upon_mul ?_; intro p np hp) | (refine upon_add ?_; intro q nq hq))
          refine (iTimes_any _ _ _ _ _).mono ?_
          rintro e w3 ⟨⟨re, im, rfl, hre, him⟩, n3, rfl⟩
          have HE := Lib.hid (tr1_E4 hp hq hre him)
          clear hp hq hre him
          go_wp2_with fail
          go_loopw [6, 11] (fun v n wr => ∃ (j : Nat) (ms : List Nat), j ≤ 4 ∧ n = .int .i64 j ∧ wr.ownsRow (w.heap.size + 1) 29 1 v (m + j) ((gs ++ ms).map fl) ∧ Hid (cns ms = (E4 q re im).take j) ∧ Hid (wr.heap[w.heap.size]? = some (.cells #[.float .f32 ch.a, .float .f32 ch.off, .complex .f32 ch.re ch.im] 32 (0, 0))) ∧ Ext w wr) (fun _ n _ => 4 - (intOf n).toNat)
          case atStart => exact ⟨0, [], by omega, rfl, by simpa using own_ext ho (by (repeat (first | exact Below.refl _ _ | assumption | refine below_drewN ?_ _ | refine Below.drew ?_ | refine Below.alloc ?_ (by first | exact Nat.le_refl _ | (simp; done) | (simp; omega)) _ | refine Below.setCell ?_ (by first | exact Nat.le_refl _ | (simp; done) | (simp; omega)) _))), Lib.hid (by simp), Lib.hid (blk_ext HKB.out (by (repeat (first | exact Below.refl _ _ | assumption | refine below_drewN ?_ _ | refine Below.drew ?_ | refine Below.alloc ?_ (by first | exact Nat.le_refl _ | (simp; done) | (simp; omega)) _ | refine Below.setCell ?_ (by first | exact Nat.le_refl _ | (simp; done) | (simp; omega)) _)))), hbr.trans (by (repeat (first | exact Below.refl _ _ | assumption | refine below_drewN ?_ _ | refine Below.drew ?_ | refine Below.alloc ?_ (by first | exact Nat.le_refl _ | (simp; done) | (simp; omega)) _ | refine Below.setCell ?_ (by first | exact Nat.le_refl _ | (simp; done) | (simp; omega)) _)))⟩
          case round =>
            obtain ⟨j, ms, hj, rfl, ho2, HMS, HK2, hbr2⟩ := hrel
            clear ho hbr
            obtain ⟨A2, c2, rfl, -, -⟩ := own_slice ho2
            by_cases hlj : j < 4
            · obtain ⟨hE, eE⟩ := E4_at q re im j hlj
              have EE := Lib.hid eE
              clear eE
              have hws2 : w.heap.size < wr.heap.size := (Array.getElem?_eq_some_iff.1 HK2.out).1
              go_wp2_with (first | (go_at_call 176; refine (iCarried_any re im j (by omega) (by omega) _).mono ?_; rintro e w1 ⟨rfl, rfl⟩) | (with_reducible first | (refine upon_add ?_; intro b n hb) | (refine upon_sub ?_; intro b n hb) | (refine upon_mul ?_; intro b n hb) | (refine upon_quo ?_; intro b n hb)) | (at_builtin; refine wpList_app rfl _ _ 22 rfl (w.heap.size + 1) 29 _ 1 4 Try.underlying22 info_f32 rfl (by omega) (.slice A2 (m + j) c2) (m + j) ((gs ++ ms).map fl) rfl (own_ext ho2 (by (repeat (first | exact Below.refl _ _ | assumption | refine below_drewN ?_ _ | refine Below.drew ?_ | refine Below.alloc ?_ (by first | exact Nat.le_refl _ | (simp; done) | (simp; omega)) _ | refine Below.setCell ?_ (by first | exact Nat.le_refl _ | (simp; done) | (simp; omega)) _)))) _ 1 1 _ rfl (rd_new _ _ _ _) rfl (fun h => by cases h) (by intro u hu; simp at hu; rcases hu with rfl; rfl) (by unfold maxLen; omega) (by omega) (by simp; omega) ?_; intro v1 w2 hown hg hat))
              go_roundw
              case rel => exact ⟨j + 1, ms ++ [b], by omega, by go_num, by rw [← List.append_assoc, ← Nat.add_assoc]; exact snoc_flx hown, Lib.hid (cns_snoc HMS.out hE (by rw [EE.out, hb])), Lib.hid (blk_past (blk_ext HK2.out (by (repeat (first | exact Below.refl _ _ | assumption | refine below_drewN ?_ _ | refine Below.drew ?_ | refine Below.alloc ?_ (by first | exact Nat.le_refl _ | (simp; done) | (simp; omega)) _ | refine Below.setCell ?_ (by first | exact Nat.le_refl _ | (simp; done) | (simp; omega)) _)))) hg (fun e => by have := (ho2.lt _ e.symm).1; omega)), ext_grow (base := w.heap.size + 1) (hbr2.trans (by (repeat (first | exact Below.refl _ _ | assumption | refine below_drewN ?_ _ | refine Below.drew ?_ | refine Below.alloc ?_ (by first | exact Nat.le_refl _ | (simp; done) | (simp; omega)) _ | refine Below.setCell ?_ (by first | exact Nat.le_refl _ | (simp; done) | (simp; omega)) _)))) (own_ext ho2 (by (repeat (first | exact Below.refl _ _ | assumption | refine below_drewN ?_ _ | refine Below.drew ?_ | refine Below.alloc ?_ (by first | exact Nat.le_refl _ | (simp; done) | (simp; omega)) _ | refine Below.setCell ?_ (by first | exact Nat.le_refl _ | (simp; done) | (simp; omega)) _)))) (Nat.le_succ _) hg⟩
              case measure => simp [intOf]; omega
            · obtain rfl : j = 4 := by omega
              go_wp2_with fail
              go_roundw
              case rel => exact ⟨k + 1, m + 4, gs ++ ms, by omega, Lib.hid (by have := hm4.out; omega), by have := congrArg List.length HMS.out; simp [E4] at this; simp [hgl, this], by go_num, ho2, Lib.hid (by rw [HT.out, HD.out, ← HD2.out, ← HE.out, cns_app, HM.out, HMS.out]; rfl), HK2, hbr2⟩
              case measure => simp [intOf]; omega
        · have hcn2 : cns gs = trAll ch rs := by
            rw [HM.out]; unfold trAll
            rw [List.take_of_length_le (by rw [decode_len, List.length_map]; omega)]
          have HI := Lib.hid (trOk_is HO.out HS.out hcn2)
          have HC := Lib.hid hcn2
          clear hcn2
          have hlo := iSamplesOk_any A1 c1 gs wo (own_rd (by rw [← hgl] at ho; exact ho)) (by unfold maxLen; omega)
          rw [hgl] at hlo
          go_wp2_with fail
          refine hlo.mono ?_
          rintro e w4 ⟨rfl, rfl⟩
          cases hlg : samplesOk gs
          · have HG := Lib.hid hlg
            go_wp2_with fail
            go_ret2
            exact ⟨⟨_, [], by rw [HI.out.1, HG.out]; rfl, World.ownsRow_nil _ _ _ _, by rw [HI.out.2.2 HG.out]; rfl⟩, hbr⟩
          · have HG := Lib.hid hlg
            go_wp2_with fail
            go_ret2
            refine ⟨⟨.slice A1 m c1, gs, by rw [HI.out.1, HG.out]; rfl, ?_, by rw [HI.out.2.1 HG.out, HC.out]⟩, hbr⟩
            unfold OF
            rw [hgl]
            exact own_base ho (Nat.le_succ _)
end Go.Proofs.Ytiddaabodkglmaa

import Derived.Test.YtiddaabodkglmaaEv
import Derived.Test.YtiddaabodkglmaaK4
namespace Go.Proofs.Ytiddaabodkglmaa
open Go.RowKit Go.Fx
set_option linter.unusedVariables false
set_option linter.unusedSimpArgs false
set_option maxRecDepth 100000 in
set_option maxHeartbeats 4000000 in
theorem sTransmit_any (ch : Chn) (A : Option Addr) (c : Nat) (rs : List Nat) (w : World) (h : Rd w A (rs.map fl)) (hn : rs.length ≤ 1048576) :
    Calls Try.prog 244 #[.agg #[.float .f32 ch.a, .float .f32 ch.off, .complex .f32 ch.re ch.im], .slice A rs.length c] w fun e w' => (∃ v gs, e = .returned (.tuple #[v, .bool (trOk ch rs)]) ∧ OF w' w.heap.size v gs ∧ cns gs = tr ch rs) ∧ Ext w w' := by
  have H := Lib.hid h
  clear h
  have hm : rs.length ≤ maxLen := by unfold maxLen; omega
  have HA : Hid (Ext w ((w.alloc (.cells #[.float .f32 ch.a, .float .f32 ch.off, .complex .f32 ch.re ch.im] 32)).alloc (.cells #[] 29))) := Lib.hid (((Ext.refl _).alloc _).alloc _)
  have HK0 : Hid ((w.alloc (.cells #[.float .f32 ch.a, .float .f32 ch.off, .complex .f32 ch.re ch.im] 32)).heap[w.heap.size]? = some (.cells #[.float .f32 ch.a, .float .f32 ch.off, .complex .f32 ch.re ch.im] 32 (0, 0))) := Lib.hid (heap_alloc_new w (.cells #[.float .f32 ch.a, .float .f32 ch.off, .complex .f32 ch.re ch.im] 32))
  have HN0 := Lib.hid (own_new (w.alloc (.cells #[.float .f32 ch.a, .float .f32 ch.off, .complex .f32 ch.re ch.im] 32)) (w.heap.size + 1) 29 1 (by simp))
  have HW1 : Hid (Ext (w.alloc (.cells #[.float .f32 ch.a, .float .f32 ch.off, .complex .f32 ch.re ch.im] 32)) ((w.alloc (.cells #[.float .f32 ch.a, .float .f32 ch.off, .complex .f32 ch.re ch.im] 32)).alloc (.cells #[] 29))) := Lib.hid ((Ext.refl _).alloc _)
  have hsz0 : (w.alloc (.cells #[.float .f32 ch.a, .float .f32 ch.off, .complex .f32 ch.re ch.im] 32)).heap.size = w.heap.size + 1 := by simp
  rw [hsz0] at HN0
  cases hco : chnOk ch
  · have HN := Lib.hid (trOk_ch (rs := rs) hco)
    go_enter Try.func244, Try.ntmps244
    go_wp2_with fail
    refine (sChannelOk_any _ _ _ _ _).mono ?_
    rintro e w1 ⟨rfl, hb1⟩
    rw [hco]
    go_wp2_with fail
    go_ret2
    exact ⟨⟨_, [], by rw [HN.out.1]; rfl, own_base (own_ext HN0.out hb1) (Nat.le_succ _), by rw [HN.out.2]; rfl⟩, HA.out.trans hb1⟩
  · have HO := Lib.hid hco
    cases hso : samplesOk rs
    · have HN := Lib.hid (trOk_rs (ch := ch) hso)
      go_enter Try.func244, Try.ntmps244
      go_wp2_with fail
      refine (sChannelOk_any _ _ _ _ _).mono ?_
      rintro e w1 ⟨rfl, hb1⟩
      rw [hco]
      go_wp2_with fail
      refine (sSamplesOk_any A c rs _ (H.out.ext (HA.out.trans hb1)) hm).mono ?_
      rintro e w2 ⟨rfl, rfl⟩
      rw [hso]
      go_wp2_with fail
      go_ret2
      exact ⟨⟨_, [], by rw [HN.out.1]; rfl, own_base (own_ext HN0.out hb1) (Nat.le_succ _), by rw [HN.out.2]; rfl⟩, HA.out.trans hb1⟩
    · have HS := Lib.hid hso
      have hsl := samplesOk_len hso
      go_enter Try.func244, Try.ntmps244
      go_wp2_with fail
      refine (sChannelOk_any _ _ _ _ _).mono ?_
      rintro e w1 ⟨rfl, hb1⟩
      rw [hco]
      go_wp2_with fail
      refine (sSamplesOk_any A c rs _ (H.out.ext (HA.out.trans hb1)) hm).mono ?_
      rintro e w2 ⟨rfl, rfl⟩
      rw [hso]
      have hnew := own_ext HN0.out hb1
      replace hb1 := HW1.out.trans hb1
      clear hco hso HN0 HA HW1
      have HE0 : Hid (Ext w (w.alloc (.cells #[.float .f32 ch.a, .float .f32 ch.off, .complex .f32 ch.re ch.im] 32))) := Lib.hid ((Ext.refl _).alloc _)
      generalize hw0 : w.alloc (.cells #[.float .f32 ch.a, .float .f32 ch.off, .complex .f32 ch.re ch.im] 32) = w0 at *
      clear hw0
      go_wp2_with fail
      go_loopw [6, 7, 8, 9] (fun v i p y wr => ∃ (k m : Nat) (gs : List Nat), 4 * k ≤ rs.length ∧ Hid (m = 4 * k) ∧ gs.length = m ∧ i = .int .i64 (4 * (k : Int)) ∧ wr.ownsRow (w.heap.size + 1) 29 1 v m (gs.map fl) ∧ Hid (cns gs = ((Fx.decode false (cns rs)).take k).flatMap (tr1 ch.cn)) ∧ Ext w0 wr) (fun _ i _ _ _ => rs.length - (intOf i).toNat)
      case atStart => exact ⟨0, 0, [], by omega, Lib.hid rfl, rfl, rfl, hnew, Lib.hid (by simp), hb1⟩
      case round =>
        obtain ⟨k, m, gs, hk, hm4, hgl, rfl, ho, HM, hbr⟩ := hrel
        clear hnew hb1
        obtain ⟨A1, c1, rfl, -, -⟩ := own_slice ho
        have hml : m ≤ 4096 := by have := hm4.out; omega
        by_cases hlt : 4 * k < rs.length
        · have hx : 4 * k + 3 < rs.length := by omega
          have htk := sTake_any A c rs (4 * k) wr (H.out.ext (HE0.out.trans hbr)) hx hn
          rw [show ((4 * k : Nat) : Int) = 4 * (k : Int) by omega] at htk
          obtain ⟨hkd, hdk⟩ := dec1_at false (k := k) hx
          have HD := Lib.hid hdk
          have HT := Lib.hid (tr_snoc (ch := ch.cn) hkd)
          clear hdk
          generalize rs[4 * k] = s0 at *
          generalize rs[4 * k + 1] = s1 at *
          generalize rs[4 * k + 2] = s2 at *
          generalize rs[4 * k + 3] = s3 at *
          go_wp2_with fail
          refine htk.mono ?_
          rintro e w3 ⟨⟨d, rfl, hd⟩, hb3⟩
          have HD2 := Lib.hid hd
          replace ho := own_ext ho hb3
          replace hbr := hbr.trans hb3
          have kb := blk_ext (blk_ext HK0.out hbr) ((Ext.refl w3).alloc (.cells #[.float .f32 d.y, .complex .f32 d.re d.im] 90))
          have hws : w.heap.size < w3.heap.size := (Array.getElem?_eq_some_iff.1 (blk_ext HK0.out hbr)).1
          obtain ⟨kkc0, kkc1, kkc2, kkf⟩ := blk3 kb
          clear kb hd htk
          go_wp2_with (with_reducible first | (refine upon_mul ?_; intro p np hp) | (refine upon_add ?_; intro q nq hq))
          refine (sTimes_any _ _ _ _ _).mono ?_
          rintro e w4 ⟨⟨re, im, rfl, hre, him⟩, n3, rfl⟩
          have HE := Lib.hid (tr1_E4 hp hq hre him)
          clear hp hq hre him
          go_wp2_with fail
          refine (put_any A1 c1 m gs q re im (w.heap.size + 1) w0 _ (own_ext ho (by (repeat (first | exact Below.refl _ _ | assumption | refine below_drewN ?_ _ | refine Below.drew ?_ | refine Below.alloc ?_ (by first | exact Nat.le_refl _ | (simp; done) | (simp; omega)) _ | refine Below.setCell ?_ (by first | exact Nat.le_refl _ | (simp; done) | (simp; omega)) _)))) (hbr.trans (by (repeat (first | exact Below.refl _ _ | assumption | refine below_drewN ?_ _ | refine Below.drew ?_ | refine Below.alloc ?_ (by first | exact Nat.le_refl _ | (simp; done) | (simp; omega)) _ | refine Below.setCell ?_ (by first | exact Nat.le_refl _ | (simp; done) | (simp; omega)) _)))) (by omega) (by simp; omega) (by omega)).mono ?_
          rintro e w5 ⟨⟨v2, ms, rfl, hms, ho2⟩, hb5, -⟩
          go_wp2_with fail
          go_roundw
          case rel => exact ⟨k + 1, m + 4, gs ++ ms, by omega, Lib.hid (by have := hm4.out; omega), by have := congrArg List.length hms; simp [E4] at this; simp [hgl, this], by go_num, ho2, Lib.hid (by rw [HT.out, HD.out, ← HD2.out, ← HE.out, cns_app, HM.out, hms]), hb5⟩
          case measure => simp [intOf]; omega
        · have hcn2 : cns gs = trAll ch rs := by
            rw [HM.out]; unfold trAll
            rw [List.take_of_length_le (by rw [decode_len, List.length_map]; omega)]
          have HI := Lib.hid (trOk_is HO.out HS.out hcn2)
          have HC := Lib.hid hcn2
          clear hcn2
          have hlo := sSamplesOk_any A1 c1 gs wr (own_rd (by rw [← hgl] at ho; exact ho)) (by unfold maxLen; omega)
          rw [hgl] at hlo
          have hbw := HE0.out.trans hbr
          go_wp2_with fail
          refine hlo.mono ?_
          rintro e w4 ⟨rfl, rfl⟩
          cases hlg : samplesOk gs
          · have HG := Lib.hid hlg
            go_wp2_with fail
            go_ret2
            exact ⟨⟨_, [], by rw [HI.out.1, HG.out]; rfl, own_new wr _ _ 1 hbw.size, by rw [HI.out.2.2 HG.out]; rfl⟩, hbw.alloc _⟩
          · have HG := Lib.hid hlg
            go_wp2_with fail
            go_ret2
            refine ⟨⟨.slice A1 m c1, gs, by rw [HI.out.1, HG.out]; rfl, ?_, by rw [HI.out.2.1 HG.out, HC.out]⟩, hbw⟩
            unfold OF
            rw [hgl]
            exact own_base ho (Nat.le_succ _)
end Go.Proofs.Ytiddaabodkglmaa

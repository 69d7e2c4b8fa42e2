import Derived.Test.YtiddaabodkglmaaDb
namespace Go.Fx
open Go.RowKit
theorem rd_at {W : World} {cs : Array Value} {E : TypeId} {m : Nat × Nat} {n : Nat} (h : n = W.heap.size) : Rd (W.alloc (.cells cs E m)) (some ⟨n, 0, none⟩) cs.toList := by
  subst h; exact rd_new W cs E m
theorem dec1_odd (s t u v : Nat) : conjC (dec1 false s t u v) = dec1 true s t u v := by simp [conjC, dec1]
end Go.Fx
namespace Go.Proofs.Ytiddaabodkglmaa
open Go.RowKit Go.Fx
set_option linter.unusedVariables false
set_option linter.unusedSimpArgs false
set_option maxRecDepth 100000 in
set_option maxHeartbeats 4000000 in
theorem iDecodeCells_any (A : Option Addr) (c : Nat) (rs : List Nat) (odd : Bool) (w : World) (h : Rd w A (rs.map fl)) (hn : rs.length ≤ 1048576) (hc : rs.length ≤ c) :
    Calls Try.prog 186 #[.slice A rs.length c, .bool odd] w fun e w' => (∃ v gs, e = .returned (.tuple #[v, .bool (decodeOk odd rs)]) ∧ OC w' w.heap.size v gs ∧ cnC gs = decodeR odd rs) ∧ Ext w w' := by
  have H := Lib.hid h
  clear h
  by_cases h4 : rs.length % 4 = 0
  · have hz : ((rs.length : Int) % 4 == 0) = true := by rw [beq_iff_eq]; omega
    go_enter Try.func186, Try.ntmps186
    go_wp2_with fail
    go_loopw [6, 7] (fun v i wr => ∃ (k : Nat) (gs : List Cel), 4 * k ≤ rs.length ∧ gs.length = k ∧ i = .int .i64 (4 * (k : Int)) ∧ wr.ownsRow w.heap.size 90 2 v k (ccells gs) ∧ Hid (cnC gs = (Fx.decode odd (cns rs)).take k) ∧ Ext w wr) (fun _ i _ => rs.length - (intOf i).toNat)
    case atStart => exact ⟨0, [], by omega, rfl, rfl, World.ownsRow_nil _ _ _ _, Lib.hid (by simp), Ext.refl _⟩
    case round =>
      obtain ⟨k, gs, hjl, hgl, rfl, ho, hcn, hb⟩ := hrel
      obtain ⟨A1, c1, rfl, -, -⟩ := own_slice ho
      by_cases hlt : 4 * k < rs.length
      · have hx : 4 * k + 3 < rs.length := by omega
        obtain ⟨b, off, rfl, hbw, h0⟩ := rf_at (H.out.ext hb) (i := 4 * k) (by omega)
        obtain ⟨_, _, e1, _, h1⟩ := rf_at (H.out.ext hb) (i := 4 * k + 1) (by omega)
        cases e1
        obtain ⟨_, _, e1, _, h2⟩ := rf_at (H.out.ext hb) (i := 4 * k + 2) (by omega)
        cases e1
        obtain ⟨_, _, e1, _, h3⟩ := rf_at (H.out.ext hb) (i := 4 * k + 3) (by omega)
        cases e1
        rw [← Nat.add_assoc] at h1 h2 h3
        obtain ⟨hkd, hdk⟩ := dec1_at odd (k := k) hx
        have HD := Lib.hid hdk
        clear hdk
        go_wp2_with (first | (go_at_call 175; refine (decoded_any b (off + 4 * k) (c - 4 * k) _ _ _ _ odd _ hbw h0 h1 h2 h3).mono ?_; rintro e w1 ⟨⟨d, rfl, hd⟩, hb1⟩) | (at_builtin; refine wpList_app rfl _ _ 43 rfl w.heap.size 90 _ 2 12 Try.underlying43 info_cell rfl (by omega) (.slice A1 k c1) k (ccells gs) rfl (own_ext (own_ext ho hb1) (by (repeat (first | exact Below.refl _ _ | assumption | refine below_drewN ?_ _ | refine Below.drew ?_ | refine Below.alloc ?_ (by first | exact Nat.le_refl _ | (simp; done) | (simp; omega)) _ | refine Below.setCell ?_ (by first | exact Nat.le_refl _ | (simp; done) | (simp; omega)) _)))) _ 1 1 _ rfl (rd_new _ _ _ _) rfl (fun h => by cases h) (by intro u hu; simp at hu; rcases hu with rfl | rfl <;> rfl) (by unfold maxLen; omega) (by omega) (by have := hb.size; have := hb1.size; simp; omega) ?_; intro v1 w2 hown hg hat))
        go_roundw
        case rel => exact ⟨k + 1, by omega, gs ++ [d], by simp [hgl], by go_num, by simpa [snoc2] using hown, Lib.hid (cnC_snoc hcn.out hkd (by rw [hd, HD.out])), ext_grow (base := w.heap.size) ((hb.trans hb1).alloc _) (own_ext (own_ext ho hb1) (by (repeat (first | exact Below.refl _ _ | assumption | refine below_drewN ?_ _ | refine Below.drew ?_ | refine Below.alloc ?_ (by first | exact Nat.le_refl _ | (simp; done) | (simp; omega)) _ | refine Below.setCell ?_ (by first | exact Nat.le_refl _ | (simp; done) | (simp; omega)) _)))) (Nat.le_refl _) hg⟩
        case measure => simp [intOf]; omega
      · have hend : 4 * k = rs.length := by omega
        have hcn2 : cnC gs = Fx.decode odd (cns rs) := by rw [hcn.out]; apply List.take_of_length_le; rw [decode_len, List.length_map]; omega
        have HT := Lib.hid (decodeOk_row h4 hcn2)
        have HC := Lib.hid hcn2
        clear hcn2
        have hlo := iRowOk_any A1 c1 gs wr (by have := (own_rd ho); exact this) (by unfold maxLen; omega)
        rw [hgl] at hlo
        cases hlg : rowOk gs
        · have HG := Lib.hid hlg
          go_wp2_with (go_at_call 129; refine hlo.mono ?_; rintro e w2 ⟨rfl, hb2⟩; rw [hlg])
          go_ret2
          exact ⟨⟨_, [], by rw [HT.out, HG.out]; rfl, World.ownsRow_nil _ _ _ _, by rw [decodeR_not (by rw [HT.out, HG.out])]; rfl⟩, hb.trans hb2⟩
        · have HG := Lib.hid hlg
          go_wp2_with (go_at_call 129; refine hlo.mono ?_; rintro e w2 ⟨rfl, hb2⟩; rw [hlg])
          go_ret2
          refine ⟨⟨.slice A1 k c1, gs, by rw [HT.out, HG.out]; rfl, ?_, by rw [decodeR_ok (by rw [HT.out, HG.out]), HC.out]⟩, hb.trans hb2⟩
          unfold OC
          rw [hgl]
          exact own_ext ho hb2
  · have HN := Lib.hid (decodeOk_of4 (odd := odd) h4)
    have hz : ((rs.length : Int) % 4 == 0) = false := by rw [beq_eq_false_iff_ne]; omega
    go_enter Try.func186, Try.ntmps186
    go_wp2_with fail
    go_ret2
    exact ⟨⟨_, [], by rw [HN.out]; rfl, World.ownsRow_nil _ _ _ _, by rw [decodeR_not HN.out]; rfl⟩, Ext.refl _⟩
set_option maxRecDepth 100000 in
set_option maxHeartbeats 4000000 in
theorem sDecodeCells_any (A : Option Addr) (c : Nat) (rs : List Nat) (odd : Bool) (w : World) (h : Rd w A (rs.map fl)) (hn : rs.length ≤ 1048576) (hc : rs.length ≤ c) :
    Calls Try.prog 184 #[.slice A rs.length c, .bool odd] w fun e w' => (∃ v gs, e = .returned (.tuple #[v, .bool (decodeOk odd rs)]) ∧ OC w' w.heap.size v gs ∧ cnC gs = decodeR odd rs) ∧ Ext w w' := by
  have H := Lib.hid h
  clear h
  have ha : Ext w (w.alloc (.cells #[] 90)) := (Ext.refl _).alloc _
  have hnew := own_new w w.heap.size 90 2 (Nat.le_refl _)
  by_cases h4 : rs.length % 4 = 0
  · have hz : ((rs.length : Int) % 4 == 0) = true := by rw [beq_iff_eq]; omega
    by_cases hbig : 256 < rs.length
    · have HN := Lib.hid (decodeOk_big (odd := odd) hbig)
      go_enter Try.func184, Try.ntmps184
      go_wp2_with fail
      go_ret2
      exact ⟨⟨_, [], by rw [HN.out]; rfl, hnew, by rw [decodeR_not HN.out]; rfl⟩, ha⟩
    go_enter Try.func184, Try.ntmps184
    go_wp2_with fail
    go_loopw [6, 7, 8] (fun v i p wr => ∃ (k : Nat) (gs : List Cel), 4 * k ≤ rs.length ∧ gs.length = k ∧ i = .int .i64 (4 * (k : Int)) ∧ wr.ownsRow w.heap.size 90 2 v k (ccells gs) ∧ Hid (cnC gs = (Fx.decode odd (cns rs)).take k) ∧ Ext w wr) (fun _ i _ _ => rs.length - (intOf i).toNat)
    case atStart => exact ⟨0, [], by omega, rfl, rfl, hnew, Lib.hid (by simp), ha⟩
    case round =>
      obtain ⟨k, gs, hjl, hgl, rfl, ho, hcn, hb⟩ := hrel
      clear hnew ha
      obtain ⟨A1, c1, rfl, -, -⟩ := own_slice ho
      by_cases hlt : 4 * k < rs.length
      · have hx : 4 * k + 3 < rs.length := by omega
        have htk := sTake_any A c rs (4 * k) wr (H.out.ext hb) hx hn
        rw [show ((4 * k : Nat) : Int) = 4 * (k : Int) by omega] at htk
        obtain ⟨hkd, hdk⟩ := dec1_at odd (k := k) hx
        have HD := Lib.hid hdk
        clear hdk
        cases odd
        · go_wp2_with (first | (go_at_call 227; refine htk.mono ?_; rintro e w1 ⟨⟨d, rfl, hd⟩, hb1⟩) | (at_builtin; refine wpList_app rfl _ _ 43 rfl w.heap.size 90 _ 2 12 Try.underlying43 info_cell rfl (by omega) (.slice A1 k c1) k (ccells gs) rfl (own_ext (own_ext ho hb1) (by (repeat (first | exact Below.refl _ _ | assumption | refine below_drewN ?_ _ | refine Below.drew ?_ | refine Below.alloc ?_ (by first | exact Nat.le_refl _ | (simp; done) | (simp; omega)) _ | refine Below.setCell ?_ (by first | exact Nat.le_refl _ | (simp; done) | (simp; omega)) _)))) _ 1 1 _ rfl (rd_at (by simp [World.setCell])) rfl (fun h => by cases h) (by intro u hu; simp at hu; rcases hu with rfl | rfl <;> rfl) (by unfold maxLen; omega) (by omega) (by have := hb.size; have := hb1.size; simp [World.setCell]; omega) ?_; intro v1 w2 hown hg hat))
          go_roundw
          case rel => exact ⟨k + 1, gs ++ [d], by omega, by simp [hgl], by go_num, by simpa [snoc2] using hown, Lib.hid (cnC_snoc hcn.out hkd (by rw [HD.out]; exact hd)), ext_grow (base := w.heap.size) (hb.trans (hb1.trans (by (repeat (first | exact Below.refl _ _ | assumption | refine below_drewN ?_ _ | refine Below.drew ?_ | refine Below.alloc ?_ (by first | exact Nat.le_refl _ | (simp; done) | (simp; omega)) _ | refine Below.setCell ?_ (by first | exact Nat.le_refl _ | (simp; done) | (simp; omega)) _))))) (own_ext (own_ext ho hb1) (by (repeat (first | exact Below.refl _ _ | assumption | refine below_drewN ?_ _ | refine Below.drew ?_ | refine Below.alloc ?_ (by first | exact Nat.le_refl _ | (simp; done) | (simp; omega)) _ | refine Below.setCell ?_ (by first | exact Nat.le_refl _ | (simp; done) | (simp; omega)) _)))) (Nat.le_refl _) hg⟩
          case measure => simp [intOf]; omega
        · go_wp2_with (first | (go_at_call 227; refine htk.mono ?_; rintro e w1 ⟨⟨d, rfl, hd⟩, hb1⟩) | (go_at_call 203; refine (sConj_any _ _ _).mono ?_; rintro e w1 ⟨rfl, rfl⟩) | (at_builtin; refine wpList_app rfl _ _ 43 rfl w.heap.size 90 _ 2 12 Try.underlying43 info_cell rfl (by omega) (.slice A1 k c1) k (ccells gs) rfl (own_ext (own_ext ho hb1) (by (repeat (first | exact Below.refl _ _ | assumption | refine below_drewN ?_ _ | refine Below.drew ?_ | refine Below.alloc ?_ (by first | exact Nat.le_refl _ | (simp; done) | (simp; omega)) _ | refine Below.setCell ?_ (by first | exact Nat.le_refl _ | (simp; done) | (simp; omega)) _)))) _ 1 1 _ rfl (rd_at (by simp [World.setCell])) rfl (fun h => by cases h) (by intro u hu; simp at hu; rcases hu with rfl | rfl <;> rfl) (by unfold maxLen; omega) (by omega) (by have := hb.size; have := hb1.size; simp [World.setCell]; omega) ?_; intro v1 w2 hown hg hat))
          go_roundw
          case rel => exact ⟨k + 1, gs ++ [⟨d.y, d.re, Op.negFloat .f32 d.im⟩], by omega, by simp [hgl], by go_num, by simpa [snoc2] using hown, Lib.hid (cnC_snoc hcn.out hkd (by rw [HD.out]; rw [← dec1_odd, ← hd]; simp [Cel.cn, cn_negF, conjC])), ext_grow (base := w.heap.size) (hb.trans (hb1.trans (by (repeat (first | exact Below.refl _ _ | assumption | refine below_drewN ?_ _ | refine Below.drew ?_ | refine Below.alloc ?_ (by first | exact Nat.le_refl _ | (simp; done) | (simp; omega)) _ | refine Below.setCell ?_ (by first | exact Nat.le_refl _ | (simp; done) | (simp; omega)) _))))) (own_ext (own_ext ho hb1) (by (repeat (first | exact Below.refl _ _ | assumption | refine below_drewN ?_ _ | refine Below.drew ?_ | refine Below.alloc ?_ (by first | exact Nat.le_refl _ | (simp; done) | (simp; omega)) _ | refine Below.setCell ?_ (by first | exact Nat.le_refl _ | (simp; done) | (simp; omega)) _)))) (Nat.le_refl _) hg⟩
          case measure => simp [intOf]; omega
      · have hend : 4 * k = rs.length := by omega
        have hcn2 : cnC gs = Fx.decode odd (cns rs) := by rw [hcn.out]; apply List.take_of_length_le; rw [decode_len, List.length_map]; omega
        have HT := Lib.hid (decodeOk_row h4 hcn2)
        have HC := Lib.hid hcn2
        clear hcn2
        have hlo := sRowOk_any A1 c1 gs wr (by have := (own_rd ho); exact this) (by unfold maxLen; omega)
        rw [hgl] at hlo
        cases hlg : rowOk gs
        · have HG := Lib.hid hlg
          go_wp2_with (go_at_call 80; refine hlo.mono ?_; rintro e w2 ⟨rfl, hb2⟩; rw [hlg])
          go_ret2
          exact ⟨⟨_, [], by rw [HT.out, HG.out]; rfl, own_new w2 _ _ 2 (Nat.le_trans hb.size hb2.size), by rw [decodeR_not (by rw [HT.out, HG.out])]; rfl⟩, (hb.trans hb2).alloc _⟩
        · have HG := Lib.hid hlg
          go_wp2_with (go_at_call 80; refine hlo.mono ?_; rintro e w2 ⟨rfl, hb2⟩; rw [hlg])
          go_ret2
          refine ⟨⟨.slice A1 k c1, gs, by rw [HT.out, HG.out]; rfl, ?_, by rw [decodeR_ok (by rw [HT.out, HG.out]), HC.out]⟩, hb.trans hb2⟩
          unfold OC
          rw [hgl]
          exact own_ext ho hb2
  · have HN := Lib.hid (decodeOk_of4 (odd := odd) h4)
    have hz : ((rs.length : Int) % 4 == 0) = false := by rw [beq_eq_false_iff_ne]; omega
    go_enter Try.func184, Try.ntmps184
    go_wp2_with fail
    go_ret2
    exact ⟨⟨_, [], by rw [HN.out]; rfl, hnew, by rw [decodeR_not HN.out]; rfl⟩, ha⟩
end Go.Proofs.Ytiddaabodkglmaa

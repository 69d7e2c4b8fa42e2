import Derived.Test.YtiddaabodkglmaaBn
import Derived.Test.YtiddaabodkglmaaBk
import Derived.Test.YtiddaabodkglmaaEr
import Derived.Test.YtiddaabodkglmaaEk
import Derived.Deep.CutRange
import Derived.Deep.RegionHeld3
namespace Go.Fx
theorem trAll_len (ch : Chn) (rs : List Nat) : (trAll ch rs).length ≤ rs.length := by
  have h : ∀ l : List Cel, (l.flatMap (tr1 ch.cn)).length = 4 * l.length := by
    intro l
    induction l with
    | nil => rfl
    | cons c l ih => rw [List.flatMap_cons, List.length_append, ih]; simp [tr1]; omega
  unfold trAll
  rw [h, decode_len, List.length_map]; omega
theorem tr_len (ch : Chn) (rs : List Nat) : (tr ch rs).length ≤ rs.length := by
  unfold tr
  split
  · exact trAll_len ch rs
  · exact Nat.zero_le _
end Go.Fx
namespace Go.Proofs.Ytiddaabodkglmaa
open Go.RowKit Go.Fx
set_option linter.unusedVariables false
set_option linter.unusedSimpArgs false
theorem sp_make (B : Option Addr) (d n : Nat) (row : List Cel) (ys : List I3) (q : Bool) (W : World) (h : Rd W B (ccells row)) (hl : row.length = n) (h1 : 1 ≤ n) (h4 : n ≤ 4) (hp : PlainRow row ys) :
    Calls Try.prog 226 #[.slice B n d, .bool q] W fun e w' => (∃ (A : Option Addr) (c : Nat) (gs : List Nat), e = .returned (.slice A (24 + 4 * n) c) ∧ Rd w' A (gs.map fl) ∧ gs.length = 24 + 4 * n) ∧ Ext W w' := by
  subst hl
  refine (sMakeLine_any B d row q W h (by omega)).mono ?_
  rintro e w' ⟨⟨v, gs, rfl, ho, hg⟩, hb⟩
  have hlen := (plain_line hp h1 (by omega) hg).2.2
  obtain ⟨A, c, rfl, hr, -⟩ := own_slice ho
  exact ⟨⟨A, c, gs, by rw [hlen], hr, hlen⟩, hb⟩
theorem sp_send (bk : Nat) (ch : Chn) (B : Option Addr) (d n : Nat) (gs : List Nat) (W : World) (h : Rd W B (gs.map fl)) (hgl : gs.length = 24 + 4 * n) (h4 : n ≤ 4) (hbk : bk < W.heap.size) :
    Calls Try.prog 244 #[.agg #[.float .f32 ch.a, .float .f32 ch.off, .complex .f32 ch.re ch.im], .slice B (24 + 4 * n) d] W fun e w' => (∃ (A' : Option Addr) (c m : Nat) (xs : List Nat) (o : Bool), e = .returned (.tuple #[.slice A' m c, .bool o]) ∧ Drawn bk w' A' c xs ∧ xs.length = m ∧ m ≤ 300) ∧ Ext W w' := by
  rw [← hgl]
  refine (sTransmit_any ch B d gs W h (by omega)).mono ?_
  rintro e w' ⟨⟨v, xs, rfl, ho, hx⟩, hb⟩
  have hl : xs.length ≤ gs.length := by
    have := tr_len ch gs
    rw [← hx] at this
    simpa using this
  unfold OF at ho
  obtain ⟨A', c, rfl, hr, -⟩ := own_slice ho
  exact ⟨⟨A', c, xs.length, xs, _, rfl, drawn_own ho hbk, rfl, by omega⟩, hb⟩
set_option maxRecDepth 100000 in
set_option maxHeartbeats 4000000 in
theorem pair07_any (bk : Nat) (w : World) (h : Cu w bk) :
    Calls Try.prog 234 #[.pointer (some ⟨bk, 0, none⟩)] w fun e w' => (∃ (A : Option Addr) (c : Nat) (gs : List Nat) (B : Option Addr) (d : Nat) (hs : List Nat), e = .returned (.tuple #[.slice A gs.length c, .slice B hs.length d]) ∧ Drawn bk w' A c gs ∧ Drawn bk w' B d hs ∧ gs.length ≤ 300 ∧ hs.length ≤ 300) ∧ CuT bk w w' := by
  have hz := h.size
  go_enter Try.func234, Try.ntmps234
  go_wp2_with fail
  refine (once_any bk 8 _ h (by omega)).mono ?_
  rintro e w1 ⟨⟨q, rfl⟩, hc1⟩
  cases q
  · go_wp2_with fail
    refine (paired_any bk _ hc1.1).mono ?_
    rintro e w2 ⟨⟨v, us, rss, W0, rfl, ho, hp, hw1, hw4, hrl⟩, hc2⟩
    have hz1 : bk < w1.heap.size := hc1.1.size
    have hul : us.length = rss.length := by simpa using ho.len
    obtain ⟨A1, c1, rfl, -⟩ := ho.form
    rw [hul] at ho ⊢
    have HIN := Lib.hid ho.inR
    have HPD := Lib.hid hp
    have HRL := Lib.hid hrl
    have hcc := hc1.trans hc2
    generalize hnn : rss.length = n at ho ⊢
    have hn4 : 4 ≤ n := by omega
    have hn0' : 0 < n := by omega
    have hn2' : (2 : Int) < (n : Int) := by omega
    have HO := Lib.hid ho
    have HNN := Lib.hid hnn
    clear hc1 hc2 ho hp hrl hul hnn
    go_wp2_with fail
    refine (anyCh_any bk _ hcc.1).mono ?_
    rintro e w3 ⟨⟨ch, rfl⟩, hc3⟩
    have HO3 := HO.out.turn hc3.2 HO.out.inR (.inr (by omega))
    have hcc3 := hcc.trans hc3
    have hz3 : bk < w3.heap.size := hcc3.1.size
    have hal : Ext w3 (w3.alloc (.cells #[.float .f32 ch.a, .float .f32 ch.off, .complex .f32 ch.re ch.im] 32)) := (Ext.refl _).alloc _
    have HOA := Lib.hid (HO3.ext hal)
    have HB := Lib.hid (heap_alloc_new w3 (.cells #[.float .f32 ch.a, .float .f32 ch.off, .complex .f32 ch.re ch.im] 32))
    have hca := CuT.ext hcc3 hal
    clear HO HO3 hc3 hcc hcc3 hal
    go_wp2_with fail
    refine (once_any bk 3 _ hca.1 (by omega)).mono ?_
    rintro e w4 ⟨⟨f, rfl⟩, hc4⟩
    have HO4 := HOA.out.turn hc4.2 HOA.out.inR (.inr (by omega))
    have HB4 := Lib.hid (blk_turn HB.out hc4.2 (by omega))
    have hcc := hca.trans hc4
    clear HOA HB hca hc4
    go_wp2_with fail
    have h0n : 0 < rss.length := by rw [HNN.out]; omega
    have h2n : 2 < rss.length := by rw [HNN.out]; omega
    have HO4H := Lib.hid HO4
    obtain ⟨b, of, B0, d0, rfl, hbw, hu0, hcell0, -, -, -⟩ := HO4.rd.1.atC h0n
    obtain ⟨b', of', B2, d2, e2, -, hu2, hcell2, -, -, -⟩ := HO4.rd.1.atC h2n
    injection e2 with e2
    injection e2 with e3 e4
    subst e3 e4
    have HU0 := Lib.hid hu0
    have HU2 := Lib.hid hu2
    have HL0 : Hid (rss[0].length = W0) := Lib.hid (HPD.out.wide _ (List.getElem_mem h0n))
    have HL2 : Hid (rss[2].length = W0) := Lib.hid (HPD.out.wide _ (List.getElem_mem h2n))
    obtain ⟨ys, hy⟩ := HPD.out.plain _ (List.getElem_mem h0n)
    obtain ⟨zs, hzs⟩ := HPD.out.plain _ (List.getElem_mem h2n)
    have HY := Lib.hid hy
    have HZ := Lib.hid hzs
    have KR : Hid (∀ W, CuT bk w4 W → W.cell? ⟨b, of, none⟩ = some (.slice B0 W0 d0) ∧ W.cell? ⟨b, of + 2, none⟩ = some (.slice B2 W0 d2) ∧ Rd W B0 (ccells rss[0]) ∧ Rd W B2 (ccells rss[2])) := Lib.hid (fun W hW => by
      have hOW := HO4H.out.turn hW.2 HO4H.out.inR (.inr (by omega))
      obtain ⟨b1, of1, B1, d1, e1, -, hv1, hk1, hr1, -, -⟩ := hOW.rd.1.atC h0n
      obtain ⟨b3, of3, B3, d3, e3, -, hv3, hk3, hr3, -, -⟩ := hOW.rd.1.atC h2n
      injection e1 with e1
      injection e1 with e1 e1'
      injection e3 with e3
      injection e3 with e3 e3'
      subst e1 e1' e3 e3'
      have q1 := hv1.symm.trans HU0.out
      have q3 := hv3.symm.trans HU2.out
      injection q1 with q1
      injection q1 with q1 q1' q1''
      injection q3 with q3
      injection q3 with q3 q3' q3''
      subst q1 q1'' q3 q3''
      rw [HL0.out] at hk1
      rw [HL2.out] at hk3
      exact ⟨hk1, hk3, hr1, hr3⟩)
    have hw3bk : bk + 1 ≤ w3.heap.size := by omega
    have KS : Hid (∀ W, CuT bk w4 W → (W.cell? ⟨w3.heap.size, 0, none⟩ = some (.float .f32 ch.a) ∧ W.cell? ⟨w3.heap.size, 1, none⟩ = some (.float .f32 ch.off) ∧ W.cell? ⟨w3.heap.size, 2, none⟩ = some (.complex .f32 ch.re ch.im) ∧ W.cell? ⟨b, of, none⟩ = some (.slice B0 W0 d0) ∧ W.cell? ⟨b, of + 2, none⟩ = some (.slice B2 W0 d2) ∧ CuT bk w4 W)) := Lib.hid (fun W hW => by
      have hb := blk_turn HB4.out hW.2 hw3bk
      obtain ⟨k1, k2, -, -⟩ := KR.out W hW
      exact ⟨blk_cell hb rfl, blk_cell hb rfl, blk_cell hb rfl, k1, k2, hW⟩)
    have ML0 := Lib.hid (fun W q (hW : CuT bk w4 W) => sp_make B0 d0 W0 rss[0] ys q W (KR.out W hW).2.2.1 HL0.out hw1 hw4 HY.out)
    have ML2 := Lib.hid (fun W q (hW : CuT bk w4 W) => sp_make B2 d2 W0 rss[2] zs q W (KR.out W hW).2.2.2 HL2.out hw1 hw4 HZ.out)
    have SD := Lib.hid (fun W B' d' gs (h : Rd W B' (gs.map fl)) (hgl : gs.length = 24 + 4 * W0) (hW : CuT bk w4 W) => sp_send bk ch B' d' W0 gs W h hgl hw4 hW.1.size)
    have hcu4 : CuT bk w4 w4 := CuT.refl hcc.1
    clear hu0 hu2 hcell0 hcell2 hy hzs HO4
    obtain ⟨f1, f2, f3, f4, f5, -⟩ := KS.out _ hcu4
    go_region_held3 (fun W => W.cell? ⟨w3.heap.size, 0, none⟩ = some (.float .f32 ch.a) ∧ W.cell? ⟨w3.heap.size, 1, none⟩ = some (.float .f32 ch.off) ∧ W.cell? ⟨w3.heap.size, 2, none⟩ = some (.complex .f32 ch.re ch.im) ∧ W.cell? ⟨b, of, none⟩ = some (.slice B0 W0 d0) ∧ W.cell? ⟨b, of + 2, none⟩ = some (.slice B2 W0 d2) ∧ CuT bk w4 W)
      (first | exact KS.out _ (CuT.ext hcu6 (by (repeat (first | exact Below.refl _ _ | assumption | refine below_drewN ?_ _ | refine Below.drew ?_ | refine Below.alloc ?_ (by first | exact Nat.le_refl _ | (simp; done) | (simp; omega)) _ | refine Below.setCell ?_ (by first | exact Nat.le_refl _ | (simp; done) | (simp; omega)) _)))) | exact KS.out _ (CuT.ext hcu5 (by (repeat (first | exact Below.refl _ _ | assumption | refine below_drewN ?_ _ | refine Below.drew ?_ | refine Below.alloc ?_ (by first | exact Nat.le_refl _ | (simp; done) | (simp; omega)) _ | refine Below.setCell ?_ (by first | exact Nat.le_refl _ | (simp; done) | (simp; omega)) _)))) | exact KS.out _ (CuT.ext hcu4 (by (repeat (first | exact Below.refl _ _ | assumption | refine below_drewN ?_ _ | refine Below.drew ?_ | refine Below.alloc ?_ (by first | exact Nat.le_refl _ | (simp; done) | (simp; omega)) _ | refine Below.setCell ?_ (by first | exact Nat.le_refl _ | (simp; done) | (simp; omega)) _)))))
      (first
        | (go_at_call 226; refine (ML0.out _ f (CuT.ext hcu4 (by (repeat (first | exact Below.refl _ _ | assumption | refine below_drewN ?_ _ | refine Below.drew ?_ | refine Below.alloc ?_ (by first | exact Nat.le_refl _ | (simp; done) | (simp; omega)) _ | refine Below.setCell ?_ (by first | exact Nat.le_refl _ | (simp; done) | (simp; omega)) _))))).mono ?_; rintro e w5 ⟨⟨A5, c5, g5, rfl, r5, s5⟩, hb5⟩; have hx5 : Ext w4 w5 := Ext.trans (a := w4) (by (repeat (first | exact Below.refl _ _ | assumption | refine below_drewN ?_ _ | refine Below.drew ?_ | refine Below.alloc ?_ (by first | exact Nat.le_refl _ | (simp; done) | (simp; omega)) _ | refine Below.setCell ?_ (by first | exact Nat.le_refl _ | (simp; done) | (simp; omega)) _))) hb5; have hcu5 := CuT.ext hcu4 hx5)
        | (go_at_call 244; refine (SD.out _ A5 c5 g5 (r5.ext (by (repeat (first | exact Below.refl _ _ | assumption | refine below_drewN ?_ _ | refine Below.drew ?_ | refine Below.alloc ?_ (by first | exact Nat.le_refl _ | (simp; done) | (simp; omega)) _ | refine Below.setCell ?_ (by first | exact Nat.le_refl _ | (simp; done) | (simp; omega)) _)))) s5 (CuT.ext hcu5 (by (repeat (first | exact Below.refl _ _ | assumption | refine below_drewN ?_ _ | refine Below.drew ?_ | refine Below.alloc ?_ (by first | exact Nat.le_refl _ | (simp; done) | (simp; omega)) _ | refine Below.setCell ?_ (by first | exact Nat.le_refl _ | (simp; done) | (simp; omega)) _))))).mono ?_; rintro e w6 ⟨⟨A6, c6, m6, x6, o6, rfl, r6, l6, k6⟩, hb6⟩; have hx6 : Ext w4 w6 := Ext.trans hx5 (Ext.trans (a := w5) (by (repeat (first | exact Below.refl _ _ | assumption | refine below_drewN ?_ _ | refine Below.drew ?_ | refine Below.alloc ?_ (by first | exact Nat.le_refl _ | (simp; done) | (simp; omega)) _ | refine Below.setCell ?_ (by first | exact Nat.le_refl _ | (simp; done) | (simp; omega)) _))) hb6); have hcu6 := CuT.ext hcu4 hx6))
    clear f1 f2 f3 f4 f5
    go_wp2_with fail
    obtain ⟨f1, f2, f3, f4, f5, -⟩ := KS.out _ hcu6
    go_region_held3 (fun W => W.cell? ⟨w3.heap.size, 0, none⟩ = some (.float .f32 ch.a) ∧ W.cell? ⟨w3.heap.size, 1, none⟩ = some (.float .f32 ch.off) ∧ W.cell? ⟨w3.heap.size, 2, none⟩ = some (.complex .f32 ch.re ch.im) ∧ W.cell? ⟨b, of, none⟩ = some (.slice B0 W0 d0) ∧ W.cell? ⟨b, of + 2, none⟩ = some (.slice B2 W0 d2) ∧ CuT bk w4 W)
      (first | exact KS.out _ (CuT.ext hcu8 (by (repeat (first | exact Below.refl _ _ | assumption | refine below_drewN ?_ _ | refine Below.drew ?_ | refine Below.alloc ?_ (by first | exact Nat.le_refl _ | (simp; done) | (simp; omega)) _ | refine Below.setCell ?_ (by first | exact Nat.le_refl _ | (simp; done) | (simp; omega)) _)))) | exact KS.out _ (CuT.ext hcu7 (by (repeat (first | exact Below.refl _ _ | assumption | refine below_drewN ?_ _ | refine Below.drew ?_ | refine Below.alloc ?_ (by first | exact Nat.le_refl _ | (simp; done) | (simp; omega)) _ | refine Below.setCell ?_ (by first | exact Nat.le_refl _ | (simp; done) | (simp; omega)) _)))) | exact KS.out _ (CuT.ext hcu6 (by (repeat (first | exact Below.refl _ _ | assumption | refine below_drewN ?_ _ | refine Below.drew ?_ | refine Below.alloc ?_ (by first | exact Nat.le_refl _ | (simp; done) | (simp; omega)) _ | refine Below.setCell ?_ (by first | exact Nat.le_refl _ | (simp; done) | (simp; omega)) _)))))
      (first
        | (go_at_call 226; refine (ML2.out _ (!f) (CuT.ext hcu6 (by (repeat (first | exact Below.refl _ _ | assumption | refine below_drewN ?_ _ | refine Below.drew ?_ | refine Below.alloc ?_ (by first | exact Nat.le_refl _ | (simp; done) | (simp; omega)) _ | refine Below.setCell ?_ (by first | exact Nat.le_refl _ | (simp; done) | (simp; omega)) _))))).mono ?_; rintro e w7 ⟨⟨A7, c7, g7, rfl, r7, s7⟩, hb7⟩; have hx7 : Ext w6 w7 := Ext.trans (a := w6) (by (repeat (first | exact Below.refl _ _ | assumption | refine below_drewN ?_ _ | refine Below.drew ?_ | refine Below.alloc ?_ (by first | exact Nat.le_refl _ | (simp; done) | (simp; omega)) _ | refine Below.setCell ?_ (by first | exact Nat.le_refl _ | (simp; done) | (simp; omega)) _))) hb7; have hcu7 := CuT.ext hcu6 hx7)
        | (go_at_call 244; refine (SD.out _ A7 c7 g7 (r7.ext (by (repeat (first | exact Below.refl _ _ | assumption | refine below_drewN ?_ _ | refine Below.drew ?_ | refine Below.alloc ?_ (by first | exact Nat.le_refl _ | (simp; done) | (simp; omega)) _ | refine Below.setCell ?_ (by first | exact Nat.le_refl _ | (simp; done) | (simp; omega)) _)))) s7 (CuT.ext hcu7 (by (repeat (first | exact Below.refl _ _ | assumption | refine below_drewN ?_ _ | refine Below.drew ?_ | refine Below.alloc ?_ (by first | exact Nat.le_refl _ | (simp; done) | (simp; omega)) _ | refine Below.setCell ?_ (by first | exact Nat.le_refl _ | (simp; done) | (simp; omega)) _))))).mono ?_; rintro e w8 ⟨⟨A8, c8, m8, x8, o8, rfl, r8, l8, k8⟩, hb8⟩; have hx8 : Ext w6 w8 := Ext.trans hx7 (Ext.trans (a := w7) (by (repeat (first | exact Below.refl _ _ | assumption | refine below_drewN ?_ _ | refine Below.drew ?_ | refine Below.alloc ?_ (by first | exact Nat.le_refl _ | (simp; done) | (simp; omega)) _ | refine Below.setCell ?_ (by first | exact Nat.le_refl _ | (simp; done) | (simp; omega)) _))) hb8); have hcu8 := CuT.ext hcu6 hx8))
    clear f1 f2 f3 f4 f5
    go_wp2_with fail
    have r6' := r6.ext hx8
    refine (once_any bk 10 _ hcu8.1 (by omega)).mono ?_
    rintro e w9 ⟨⟨g, rfl⟩, hc9⟩
    have hcu9 := hcu8.trans hc9
    have r6'' := r6'.up hc9.2
    have r8' := r8.up hc9.2
    have HL6 := Lib.hid l6
    have HL8 := Lib.hid l8
    clear r6 r6' r8 l6 l8 hcu4 hcu5 hcu6 hcu7 hcu8 hc9 hx5 hx6 hx7 hx8 hb5 hb6 hb7 hb8 r5 r7 s5 s7
    cases g
    · go_wp2_with fail
      go_ret2
      exact ⟨⟨A6, c6, x6, A8, c8, x8, by rw [HL6.out, HL8.out]; rfl, r6'', r8', by rw [HL6.out]; exact k6, by rw [HL8.out]; exact k8⟩, hcc.trans hcu9⟩
    · go_wp2_with fail
      obtain ⟨f1, f2, f3, f4, f5, -⟩ := KS.out _ hcu9
      go_region_held3 (fun W => W.cell? ⟨w3.heap.size, 0, none⟩ = some (.float .f32 ch.a) ∧ W.cell? ⟨w3.heap.size, 1, none⟩ = some (.float .f32 ch.off) ∧ W.cell? ⟨w3.heap.size, 2, none⟩ = some (.complex .f32 ch.re ch.im) ∧ W.cell? ⟨b, of, none⟩ = some (.slice B0 W0 d0) ∧ W.cell? ⟨b, of + 2, none⟩ = some (.slice B2 W0 d2) ∧ CuT bk w4 W)
        (first | exact KS.out _ (CuT.ext hcu11 (by (repeat (first | exact Below.refl _ _ | assumption | refine below_drewN ?_ _ | refine Below.drew ?_ | refine Below.alloc ?_ (by first | exact Nat.le_refl _ | (simp; done) | (simp; omega)) _ | refine Below.setCell ?_ (by first | exact Nat.le_refl _ | (simp; done) | (simp; omega)) _)))) | exact KS.out _ (CuT.ext hcu10 (by (repeat (first | exact Below.refl _ _ | assumption | refine below_drewN ?_ _ | refine Below.drew ?_ | refine Below.alloc ?_ (by first | exact Nat.le_refl _ | (simp; done) | (simp; omega)) _ | refine Below.setCell ?_ (by first | exact Nat.le_refl _ | (simp; done) | (simp; omega)) _)))) | exact KS.out _ (CuT.ext hcu9 (by (repeat (first | exact Below.refl _ _ | assumption | refine below_drewN ?_ _ | refine Below.drew ?_ | refine Below.alloc ?_ (by first | exact Nat.le_refl _ | (simp; done) | (simp; omega)) _ | refine Below.setCell ?_ (by first | exact Nat.le_refl _ | (simp; done) | (simp; omega)) _)))))
        (first
          | (go_at_call 226; refine (ML2.out _ f (CuT.ext hcu9 (by (repeat (first | exact Below.refl _ _ | assumption | refine below_drewN ?_ _ | refine Below.drew ?_ | refine Below.alloc ?_ (by first | exact Nat.le_refl _ | (simp; done) | (simp; omega)) _ | refine Below.setCell ?_ (by first | exact Nat.le_refl _ | (simp; done) | (simp; omega)) _))))).mono ?_; rintro e w10 ⟨⟨A10, c10, g10, rfl, r10, s10⟩, hb10⟩; have hx10 : Ext w9 w10 := Ext.trans (a := w9) (by (repeat (first | exact Below.refl _ _ | assumption | refine below_drewN ?_ _ | refine Below.drew ?_ | refine Below.alloc ?_ (by first | exact Nat.le_refl _ | (simp; done) | (simp; omega)) _ | refine Below.setCell ?_ (by first | exact Nat.le_refl _ | (simp; done) | (simp; omega)) _))) hb10; have hcu10 := CuT.ext hcu9 hx10)
          | (go_at_call 244; refine (SD.out _ A10 c10 g10 (r10.ext (by (repeat (first | exact Below.refl _ _ | assumption | refine below_drewN ?_ _ | refine Below.drew ?_ | refine Below.alloc ?_ (by first | exact Nat.le_refl _ | (simp; done) | (simp; omega)) _ | refine Below.setCell ?_ (by first | exact Nat.le_refl _ | (simp; done) | (simp; omega)) _)))) s10 (CuT.ext hcu10 (by (repeat (first | exact Below.refl _ _ | assumption | refine below_drewN ?_ _ | refine Below.drew ?_ | refine Below.alloc ?_ (by first | exact Nat.le_refl _ | (simp; done) | (simp; omega)) _ | refine Below.setCell ?_ (by first | exact Nat.le_refl _ | (simp; done) | (simp; omega)) _))))).mono ?_; rintro e w11 ⟨⟨A11, c11, m11, x11, o11, rfl, r11, l11, k11⟩, hb11⟩; have hx11 : Ext w9 w11 := Ext.trans hx10 (Ext.trans (a := w10) (by (repeat (first | exact Below.refl _ _ | assumption | refine below_drewN ?_ _ | refine Below.drew ?_ | refine Below.alloc ?_ (by first | exact Nat.le_refl _ | (simp; done) | (simp; omega)) _ | refine Below.setCell ?_ (by first | exact Nat.le_refl _ | (simp; done) | (simp; omega)) _))) hb11); have hcu11 := CuT.ext hcu9 hx11))
      clear f1 f2 f3 f4 f5
      go_wp2_with fail
      go_ret2
      have HL11 := Lib.hid l11
      exact ⟨⟨A6, c6, x6, A11, c11, x11, by rw [HL6.out, HL11.out]; rfl, r6''.ext hx11, r11, by rw [HL6.out]; exact k6, by rw [HL11.out]; exact k11⟩, hcc.trans hcu11⟩
  · go_wp2_with fail
    refine (line_any bk _ hc1.1).mono ?_
    rintro e w2 ⟨⟨A, c, gs, rfl, hd, hl⟩, hc2⟩
    generalize hgn : gs.length = m at hl ⊢
    have HG := Lib.hid hgn
    clear hgn
    have hcc := hc1.trans hc2
    go_wp2_with fail
    refine (line_any bk _ hcc.1).mono ?_
    rintro e w3 ⟨⟨B, d, hs, rfl, hd', hl'⟩, hc3⟩
    generalize hgn' : hs.length = m' at hl' ⊢
    have HG' := Lib.hid hgn'
    clear hgn'
    go_wp2_with fail
    go_ret2
    exact ⟨⟨A, c, gs, B, d, hs, by rw [HG.out, HG'.out]; rfl, hd.up hc3.2, hd', by rw [HG.out]; exact hl, by rw [HG'.out]; exact hl'⟩, hcc.trans hc3⟩
end Go.Proofs.Ytiddaabodkglmaa

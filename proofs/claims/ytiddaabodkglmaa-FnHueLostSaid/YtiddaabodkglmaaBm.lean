import Derived.Test.YtiddaabodkglmaaBl
import Derived.Test.YtiddaabodkglmaaDg
import Derived.Test.YtiddaabodkglmaaEz
import Derived.Deep.CutRange
import Derived.Deep.RegionHeld3
import Derived.BigQuiet
namespace Go.Proofs.Ytiddaabodkglmaa
open Go.RowKit Go.Fx
set_option linter.unusedVariables false
set_option linter.unusedSimpArgs false
set_option maxRecDepth 100000 in
set_option maxHeartbeats 2000000 in
theorem drawPaired_any (A : Option Addr) (c : Nat) (bs : List Int) (w : World) (h : Rd w A (bs.map by8)) (hn : bs.length ≤ 1048576) (hb : ∀ x ∈ bs, 0 ≤ x ∧ x ≤ 255) :
    Calls Try.prog 118 #[.slice A bs.length c] w fun e w' => (∃ v us rss W, e = .returned v ∧ OCC w' w.heap.size v us rss ∧ Pd W rss ∧ 1 ≤ W ∧ W ≤ 4 ∧ (rss.length = 4 ∨ rss.length = 8)) ∧ Ext w w' := by
  go_enter Try.func118, Try.ntmps118
  go_wp2_with fail
  refine (new_any A c bs _ h hn hb).mono ?_
  rintro e w1 ⟨⟨bk, rfl, hbk, hbz, hcu⟩, hb1⟩
  go_wp2_with fail
  refine (paired_any bk _ hcu).mono ?_
  rintro e w2 ⟨⟨v, us, rss, W, rfl, ho, hp, h1, h4, hl⟩, hc2⟩
  have HP := Lib.hid hp
  clear hp
  go_wp2_with fail
  go_ret
  exact ⟨⟨v, us, rss, W, rfl, ho.weak hb1.size, HP.out, h1, h4, hl⟩, ext_turn hb1 hc2.2 hbk⟩
theorem gch_of {ch : Chn} (h : PlainCh ch) (hn : feq .f32 ch.re 0 = false ∨ feq .f32 ch.im 0 = false) : ∃ A O X Y, GCh ch A O X Y := by
  obtain ⟨⟨m, hm, ha⟩, ⟨O, hO, ho⟩, ⟨x, hx, vx⟩, ⟨y, hy, vy⟩⟩ := h
  have c0 : V 0 0 2 := v_chk (by decide +kernel)
  refine ⟨2 * m, O, 2 * x, 2 * y, ⟨⟨v_finer 1 ha rfl (by simp; omega), ho, v_finer 1 vx rfl (by simp; omega), v_finer 1 vy rfl (by simp; omega)⟩, by omega, by omega, hO, by omega, by omega, ?_⟩⟩
  rintro ⟨h1, h2⟩
  obtain rfl : x = 0 := by omega
  obtain rfl : y = 0 := by omega
  rw [v_feq vx c0, v_feq vy c0] at hn
  simp at hn
theorem gch_i {ch : Chn} (h : PlainCh ch) : ∃ A O X Y, GCh ⟨ch.a, ch.off, 0, 1065353216⟩ A O X Y := by
  obtain ⟨⟨m, hm, ha⟩, ⟨O, hO, ho⟩, -, -⟩ := h
  have z0 : V 0 0 3 := v_chk (by decide +kernel)
  have z1 : V 1065353216 8 3 := v_chk (by decide +kernel)
  exact ⟨2 * m, O, 0, 8, ⟨⟨v_finer 1 ha rfl (by simp; omega), ho, z0, z1⟩, by omega, by omega, hO, by decide, by decide, by decide⟩⟩
theorem t_run {op : BinOp} (hop : op = .add ∨ op = .sub ∨ op = .mul ∨ op = .quo) {k : FloatKind} {x y r : Nat} (h : floatBits op k x y = some r) (t : TypeId) (P : Program) (W : World) : (binOp op t (.float k x) (.float k y)).run P W = .ok (.float k r) W := by
  have h1 := run_fop (P := P) W op hop t k x y
  have e1 : fbits W op k x y = r := by unfold fbits; rw [h]; rfl
  have e2 : fcnt op k x y = 0 := by unfold fcnt; rw [h]; rfl
  rw [e1, e2] at h1
  exact h1
/-- a made line, its length by name -/
theorem hl_make (B : Option Addr) (d n : Nat) (row : List Cel) (ys : List I3) (q : Bool) (W : World) (h : Rd W B (ccells row)) (hl : row.length = n) (h1 : 1 ≤ n) (h4 : n ≤ 4) (hp : PlainRow row ys) :
    Calls Try.prog 111 #[.slice B n d, .bool q] W fun e w' => (∃ A c gs, e = .returned (.slice A (24 + 4 * n) c) ∧ Rd w' A (gs.map fl) ∧ gs.length ≤ c ∧ gs.length = 24 + 4 * n ∧ cns gs = lineR (cnC row) q) ∧ Ext W w' := by
  subst hl
  refine (iMakeLine_any B d row q W h (by omega)).mono ?_
  rintro e w' ⟨⟨v, gs, rfl, ho, hg⟩, hb⟩
  have hlen := (plain_line hp h1 (by omega) hg).2.2
  obtain ⟨A, c, rfl, hr, -⟩ := own_slice ho
  exact ⟨⟨A, c, gs, by rw [hlen], hr, own_cap ho, hlen, hg⟩, hb⟩
theorem hl_send (ch : Chn) (A O X Y : Int) (hc : GCh ch A O X Y) (B : Option Addr) (d n : Nat) (row : List Cel) (gs : List Nat) (q : Bool) (W : World) (h : Rd W B (gs.map fl)) (hcap : gs.length ≤ d) (hgl : gs.length = 24 + 4 * n) (hl : row.length = n) (h1 : 1 ≤ n) (h4 : n ≤ 4) (ys : List I3) (hp : PlainRow row ys) (hg : cns gs = lineR (cnC row) q) :
    Calls Try.prog 89 #[.agg #[.float .f32 ch.a, .float .f32 ch.off, .complex .f32 ch.re ch.im], .slice B (24 + 4 * n) d] W fun e w' => (∃ A' c xs, e = .returned (.tuple #[.slice A' (24 + 4 * n) c, .bool true]) ∧ Rd w' A' (xs.map fl) ∧ xs.length ≤ c ∧ xs.length = 24 + 4 * n ∧ (∀ us, PlainRow row us → LineT xs us q A O X Y)) ∧ Ext W w' := by
  subst hl
  rw [← hgl]
  refine (iTransmit_any ch B d gs W h (by rw [hgl]; unfold maxLen; omega) hcap).mono ?_
  rintro e w' ⟨⟨v, xs, rfl, ho, hx⟩, hb⟩
  obtain ⟨k1, k2⟩ := line_T hc hp h1 (by omega) hg
  have hT := k2 xs hx
  have hxl : xs.length = gs.length := by rw [hT.len, hgl, hp.1.len]
  obtain ⟨A', c, rfl, hr, -⟩ := own_slice ho
  exact ⟨⟨A', c, xs, by rw [k1, hxl], hr, own_cap ho, hxl, fun us hu => (line_T hc hu h1 (by omega) hg).2 xs hx⟩, hb⟩
set_option maxRecDepth 100000 in
set_option maxHeartbeats 2000000 in
theorem hueLost_walk (A0 : Option Addr) (c0 : Nat) (code : List Int) (w : World) (h0 : Rd w A0 (code.map by8)) (hm0 : code.length ≤ maxLen) (hb0 : ∀ x ∈ code, 0 ≤ x ∧ x ≤ 255) :
    Calls Try.prog 29 #[.slice A0 code.length c0] w fun e w' => e = .returned (.bool true) ∧ Ext w w' := by
  have hM0 := hm0
  unfold maxLen at hM0
  have H0 := Lib.hid h0
  have HB0 := Lib.hid hb0
  clear h0 hb0
  by_cases hbig : 1048576 < code.length
  · go_enter Try.func29, Try.ntmps29
    go_wp2_with (go_at_call 39; refine (big_any _ _ _ _ hM0).mono ?_; rintro e w1 ⟨rfl, rfl⟩)
    go_ret
    exact ⟨rfl, Ext.refl _⟩
  have hn0 : code.length ≤ 1048576 := by omega
  go_enter Try.func29, Try.ntmps29
  go_wp2_with (go_at_call 39; refine (big_any _ _ _ _ hM0).mono ?_; rintro e w1 ⟨rfl, rfl⟩)
  refine (drawPaired_any A0 c0 code _ H0.out hn0 HB0.out).mono ?_
  rintro e w1 ⟨⟨v1, us, rss, W0, rfl, ho1, hp, hw1, hw4, hrl⟩, hb1⟩
  have HPD := Lib.hid hp
  have HO1 := Lib.hid ho1
  have hul : us.length = rss.length := by simpa using ho1.len
  obtain ⟨A1, c1, rfl, -⟩ := ho1.form
  rw [hul] at HO1 ⊢
  have hn4 : 4 ≤ rss.length := by omega
  have HRL := Lib.hid hrl
  generalize hnn : rss.length = n at HO1 hn4 ⊢
  have HN := Lib.hid hnn
  clear hp ho1 hul hrl hnn
  go_wp2_with fail
  refine (drawPlainCh_any A0 c0 code _ (H0.out.ext hb1) hn0 HB0.out).mono ?_
  rintro e w2 ⟨⟨ch, rfl, hpc⟩, hb2⟩
  have HPC := Lib.hid hpc
  have HO2 := Lib.hid (HO1.out.ext hb2)
  replace hb2 := hb1.trans hb2
  have hn4i : (4 : Int) ≤ (n : Int) := by omega
  clear hpc hb1 HO1
  go_upto_if 29 with fail
  have HGQ : Hid (∀ q, (feq .f32 ch.re 0 && feq .f32 ch.im 0) = q → q = false → ∃ A O X Y, GCh ⟨ch.a, ch.off, ch.re, ch.im⟩ A O X Y) := Lib.hid (fun q h1 h2 => by
    subst h1
    exact gch_of HPC.out (Bool.and_eq_false_iff.1 h2))
  have HGI := Lib.hid (gch_i HPC.out)
  generalize hqq : (feq .f32 ch.re 0 && feq .f32 ch.im 0) = q
  have HGF : Hid (q = false → ∃ A O X Y, GCh ⟨ch.a, ch.off, ch.re, ch.im⟩ A O X Y) := Lib.hid (HGQ.out q hqq)
  clear hqq HGQ
  go_cut [] from 30 (fun wr => ∃ re im : Nat, wr = w2.alloc (.cells #[.float .f32 ch.a, .float .f32 ch.off, .complex .f32 re im] 32) ∧ Hid (∃ A O X Y, GCh ⟨ch.a, ch.off, re, im⟩ A O X Y))
  case first =>
    cases q
    · go_wp2_with fail
      go_meet
      exact ⟨ch.re, ch.im, rfl, Lib.hid (by simpa using HGF.out)⟩
    · go_wp2_with fail
      go_meet
      exact ⟨0, 1065353216, rfl, HGI⟩
  case rest =>
  obtain ⟨re, im, rfl, HG⟩ := hcut
  clear HPC HGF HGI
  obtain ⟨a, off, re', im'⟩ := ch
  have hwsz : (w2.alloc (.cells #[.float .f32 a, .float .f32 off, .complex .f32 re im] 32)).heap.size = w2.heap.size + 1 := by simp
  generalize hwB : ((w2.alloc (.cells #[.float .f32 a, .float .f32 off, .complex .f32 re im] 32)).alloc (.cells #[.bool false, .bool true] 4)) = wB
  have HEB : Hid (Ext w2 wB) := Lib.hid (by rw [← hwB]; exact ((Ext.refl _).alloc _).alloc _)
  have HCH : Hid (wB.heap[w2.heap.size]? = some (.cells #[.float .f32 a, .float .f32 off, .complex .f32 re im] 32 (0, 0))) := Lib.hid (by rw [← hwB]; exact blk_ext (heap_alloc_new w2 _) ((Ext.refl _).alloc _))
  have HBL : Hid (wB.heap[w2.heap.size + 1]? = some (.cells #[.bool false, .bool true] 4 (0, 0))) := Lib.hid (by rw [← hwB, ← hwsz]; exact heap_alloc_new _ _)
  have HWB := Lib.hid hwB
  have HOB := HO2.out.ext HEB.out
  have h0n : 0 < rss.length := by rw [HN.out]; omega
  have h2n : 2 < rss.length := by rw [HN.out]; omega
  obtain ⟨b, of, B0, d0, rfl, hbw, -, hcell0, hrow0, -, cap0⟩ := HOB.rd.1.atC h0n
  obtain ⟨b', of', B2, d2, e2, -, -, hcell2, hrow2, -, cap2⟩ := HOB.rd.1.atC h2n
  injection e2 with e2
  injection e2 with e3 e4
  subst e3 e4
  have HL0 : Hid (rss[0].length = W0) := Lib.hid (HPD.out.wide _ (List.getElem_mem h0n))
  have HL2 : Hid (rss[2].length = W0) := Lib.hid (HPD.out.wide _ (List.getElem_mem h2n))
  obtain ⟨ys, hy⟩ := HPD.out.plain _ (List.getElem_mem h0n)
  obtain ⟨zs, hz⟩ := HPD.out.plain _ (List.getElem_mem h2n)
  have HCL : Hid (rss[2].map clr = rss[0].map clr) := Lib.hid (by
    have := HPD.out.pair 2 h2n (by decide)
    simpa [List.getD_eq_getElem?_getD, h0n, h2n] using this)
  have HY := Lib.hid hy
  have HZ := Lib.hid hz
  generalize rss[0] = p0 at hcell0 hrow0 cap0 HL0 HCL HY
  generalize rss[2] = p2 at hcell2 hrow2 cap2 HL2 HCL HZ
  have HR0 := Lib.hid hrow0
  have HR2 := Lib.hid hrow2
  have HC0 := Lib.hid hcell0
  have HC2 := Lib.hid hcell2
  clear hrow0 hrow2 hcell0 hcell2 hy hz h0n h2n HOB HO2 HPD HN HRL hwB hwsz
  obtain ⟨A, O, X, Y, hg⟩ := HG.out
  have HGC := Lib.hid hg
  clear hg HG
  have KS : Hid (∀ W, Ext wB W → (W.cell? ⟨w2.heap.size, 0, none⟩ = some (.float .f32 a) ∧ W.cell? ⟨w2.heap.size, 1, none⟩ = some (.float .f32 off) ∧ W.cell? ⟨w2.heap.size, 2, none⟩ = some (.complex .f32 re im) ∧ W.cell? ⟨b, of, none⟩ = some (.slice B0 W0 d0) ∧ W.cell? ⟨b, of + 2, none⟩ = some (.slice B2 W0 d2) ∧ Ext wB W)) := Lib.hid (fun W hW => by
    have hb := blk_ext HCH.out hW
    refine ⟨blk_cell hb rfl, blk_cell hb rfl, blk_cell hb rfl, ?_, ?_, hW⟩
    · rw [Below.cell hW (p := ⟨b, of, none⟩) hbw]; have := HC0.out; rw [HL0.out] at this; exact this
    · rw [Below.cell hW (p := ⟨b, of + 2, none⟩) hbw]; have := HC2.out; rw [HL2.out] at this; exact this)
  have ML0 := Lib.hid (fun W q (hW : Ext wB W) => hl_make B0 d0 W0 p0 ys q W (HR0.out.ext hW) HL0.out hw1 hw4 HY.out)
  have ML2 := Lib.hid (fun W q (hW : Ext wB W) => hl_make B2 d2 W0 p2 zs q W (HR2.out.ext hW) HL2.out hw1 hw4 HZ.out)
  have SD0 := Lib.hid (fun W q A' c' gs (h : Rd W A' (gs.map fl)) (hcap : gs.length ≤ c') (hgl : gs.length = 24 + 4 * W0) (hg : cns gs = lineR (cnC p0) q) => hl_send ⟨a, off, re, im⟩ A O X Y HGC.out A' c' W0 p0 gs q W h hcap hgl HL0.out hw1 hw4 ys HY.out hg)
  have SD2 := Lib.hid (fun W q A' c' gs (h : Rd W A' (gs.map fl)) (hcap : gs.length ≤ c') (hgl : gs.length = 24 + 4 * W0) (hg : cns gs = lineR (cnC p2) q) => hl_send ⟨a, off, re, im⟩ A O X Y HGC.out A' c' W0 p2 gs q W h hcap hgl HL2.out hw1 hw4 zs HZ.out hg)
  go_wp2_with fail
  go_loopw [6, 7, 8, 9, 10, 11, 12, 13, 14, 15, 16, 17, 33] (fun z1 z2 z3 z4 z5 z6 z7 z8 z9 z10 z11 z12 j wr => ∃ k : Nat, k ≤ 2 ∧ j = .int .i64 k ∧ Ext wB wr) (fun _ _ _ _ _ _ _ _ _ _ _ _ j _ => 2 - (intOf j).toNat)
  case atStart => exact ⟨0, by omega, rfl, by rw [HWB.out]; exact Ext.refl _⟩
  case round =>
    obtain ⟨k, hk, rfl, hbr⟩ := hrel
    by_cases hlt : k < 2
    · have hltI : (k : Int) < 2 := by omega
      have h0i : (0 : Int) < (n : Int) := by omega
      have h0n' : 0 < n := by omega
      have h2i : (2 : Int) < (n : Int) := by omega
      obtain ⟨q, hq⟩ : ∃ q : Bool, wr.cell? ⟨w2.heap.size + 1, k, none⟩ = some (.bool q) := by
        rcases (by omega : k = 0 ∨ k = 1) with rfl | rfl
        · exact ⟨false, blk_cell (blk_ext HBL.out hbr) rfl⟩
        · exact ⟨true, blk_cell (blk_ext HBL.out hbr) rfl⟩
      have hwz : w2.heap.size + 1 < wr.heap.size := (Array.getElem?_eq_some_iff.1 (blk_ext HBL.out hbr)).1
      go_wp2_with fail
      obtain ⟨f1, f2, f3, f4, f5, -⟩ := KS.out wr hbr
      go_region_held3 (fun W => W.cell? ⟨w2.heap.size, 0, none⟩ = some (.float .f32 a) ∧ W.cell? ⟨w2.heap.size, 1, none⟩ = some (.float .f32 off) ∧ W.cell? ⟨w2.heap.size, 2, none⟩ = some (.complex .f32 re im) ∧ W.cell? ⟨b, of, none⟩ = some (.slice B0 W0 d0) ∧ W.cell? ⟨b, of + 2, none⟩ = some (.slice B2 W0 d2) ∧ Ext wB W)
        (exact KS.out _ (by (repeat (first | exact Below.refl _ _ | assumption | refine below_drewN ?_ _ | refine Below.drew ?_ | refine Below.alloc ?_ (by first | exact Nat.le_refl _ | (simp; done) | (simp; omega)) _ | refine Below.setCell ?_ (by first | exact Nat.le_refl _ | (simp; done) | (simp; omega)) _))))
        (first
          | (go_at_call 111; refine (ML0.out _ q (by (repeat (first | exact Below.refl _ _ | assumption | refine below_drewN ?_ _ | refine Below.drew ?_ | refine Below.alloc ?_ (by first | exact Nat.le_refl _ | (simp; done) | (simp; omega)) _ | refine Below.setCell ?_ (by first | exact Nat.le_refl _ | (simp; done) | (simp; omega)) _)))).mono ?_; rintro e w5 ⟨⟨A5, c5, g5, rfl, r5, k5, l5, s5⟩, hb5⟩; replace hb5 := Ext.trans (a := wB) (by (repeat (first | exact Below.refl _ _ | assumption | refine below_drewN ?_ _ | refine Below.drew ?_ | refine Below.alloc ?_ (by first | exact Nat.le_refl _ | (simp; done) | (simp; omega)) _ | refine Below.setCell ?_ (by first | exact Nat.le_refl _ | (simp; done) | (simp; omega)) _))) hb5)
          | (go_at_call 89; refine (SD0.out _ q A5 c5 g5 (r5.ext (by (repeat (first | exact Below.refl _ _ | assumption | refine below_drewN ?_ _ | refine Below.drew ?_ | refine Below.alloc ?_ (by first | exact Nat.le_refl _ | (simp; done) | (simp; omega)) _ | refine Below.setCell ?_ (by first | exact Nat.le_refl _ | (simp; done) | (simp; omega)) _)))) k5 l5 s5).mono ?_; rintro e w6 ⟨⟨A6, c6, g6, rfl, r6, k6, l6, s6⟩, hb6⟩; replace hb6 := Ext.trans (a := wB) (by (repeat (first | exact Below.refl _ _ | assumption | refine below_drewN ?_ _ | refine Below.drew ?_ | refine Below.alloc ?_ (by first | exact Nat.le_refl _ | (simp; done) | (simp; omega)) _ | refine Below.setCell ?_ (by first | exact Nat.le_refl _ | (simp; done) | (simp; omega)) _))) hb6))
      go_wp2_with fail
      obtain ⟨f1, f2, f3, f4, f5, -⟩ := KS.out w6 hb6
      go_region_held3 (fun W => W.cell? ⟨w2.heap.size, 0, none⟩ = some (.float .f32 a) ∧ W.cell? ⟨w2.heap.size, 1, none⟩ = some (.float .f32 off) ∧ W.cell? ⟨w2.heap.size, 2, none⟩ = some (.complex .f32 re im) ∧ W.cell? ⟨b, of, none⟩ = some (.slice B0 W0 d0) ∧ W.cell? ⟨b, of + 2, none⟩ = some (.slice B2 W0 d2) ∧ Ext wB W)
        (exact KS.out _ (by (repeat (first | exact Below.refl _ _ | assumption | refine below_drewN ?_ _ | refine Below.drew ?_ | refine Below.alloc ?_ (by first | exact Nat.le_refl _ | (simp; done) | (simp; omega)) _ | refine Below.setCell ?_ (by first | exact Nat.le_refl _ | (simp; done) | (simp; omega)) _))))
        (first
          | (go_at_call 111; refine (ML2.out _ (!q) (by (repeat (first | exact Below.refl _ _ | assumption | refine below_drewN ?_ _ | refine Below.drew ?_ | refine Below.alloc ?_ (by first | exact Nat.le_refl _ | (simp; done) | (simp; omega)) _ | refine Below.setCell ?_ (by first | exact Nat.le_refl _ | (simp; done) | (simp; omega)) _)))).mono ?_; rintro e w7 ⟨⟨A7, c7, g7, rfl, r7, k7, l7, s7⟩, hb7⟩; have hx7 : Ext w6 w7 := Ext.trans (a := w6) (by (repeat (first | exact Below.refl _ _ | assumption | refine below_drewN ?_ _ | refine Below.drew ?_ | refine Below.alloc ?_ (by first | exact Nat.le_refl _ | (simp; done) | (simp; omega)) _ | refine Below.setCell ?_ (by first | exact Nat.le_refl _ | (simp; done) | (simp; omega)) _))) hb7; replace hb7 := Ext.trans hb6 hx7)
          | (go_at_call 89; refine (SD2.out _ (!q) A7 c7 g7 (r7.ext (by (repeat (first | exact Below.refl _ _ | assumption | refine below_drewN ?_ _ | refine Below.drew ?_ | refine Below.alloc ?_ (by first | exact Nat.le_refl _ | (simp; done) | (simp; omega)) _ | refine Below.setCell ?_ (by first | exact Nat.le_refl _ | (simp; done) | (simp; omega)) _)))) k7 l7 s7).mono ?_; rintro e w8 ⟨⟨A8, c8, g8, rfl, r8, k8, l8, s8⟩, hb8⟩; have hx8 : Ext w6 w8 := Ext.trans hx7 (Ext.trans (a := w7) (by (repeat (first | exact Below.refl _ _ | assumption | refine below_drewN ?_ _ | refine Below.drew ?_ | refine Below.alloc ?_ (by first | exact Nat.le_refl _ | (simp; done) | (simp; omega)) _ | refine Below.setCell ?_ (by first | exact Nat.le_refl _ | (simp; done) | (simp; omega)) _))) hb8); replace hb8 := Ext.trans hb6 hx8))
      go_wp2_with fail
      have r6' := r6.ext hx8
      obtain ⟨hpok, hrows⟩ := hue_rows HGC.out HY.out HZ.out HCL.out (by rw [HL0.out]; exact hw1) (by rw [HL0.out]; omega) (s6 ys HY.out) s8
      have hD := iDecodePair_any A6 A8 c6 c8 g6 g8 w8 r6' r8 (by omega) (by omega) k6 k8
      rw [l6, l8, hpok] at hD
      have HRS := Lib.hid hrows
      clear s6 s8 r6 r6' r8 k6 k8 l6 l8 s5 s7 r5 r7 k5 k7 l5 l7 hpok hrows hx7 hx8 hb5 hb6 hb7 f1 f2 f3 f4 f5
      refine hD.mono ?_
      rintro e w9 ⟨⟨v9, us9, rss9, rfl, ho9, hm9⟩, hb9⟩
      obtain ⟨r0, r1, rfl, hR⟩ := HRS.out rss9 hm9
      replace hb9 := Ext.trans hb8 hb9
      have hul9 : us9.length = 2 := ho9.len
      obtain ⟨A9, c9, rfl, -⟩ := ho9.form
      rw [hul9] at ho9 ⊢
      obtain ⟨b9, of9, R0, e0, rfl, hbw9, -, hcr0, hr0, -, -⟩ := ho9.rd.1.atC (i := 0) (by simp)
      obtain ⟨b9', of9', R1, e1, e2, -, -, hcr1, hr1, -, -⟩ := ho9.rd.1.atC (i := 1) (by simp)
      injection e2 with e2
      injection e2 with e3 e4
      subst e3 e4
      have hrl0 : r0.length = W0 := by rw [hR.l0]; exact HL0.out
      have hrl1 : r1.length = W0 := by rw [hR.l1]; exact HL0.out
      simp only [List.getElem_cons_zero, List.getElem_cons_succ, Nat.add_zero] at hcr0 hcr1 hr0 hr1
      rw [hrl0] at hcr0
      rw [hrl1] at hcr1
      have HRR := Lib.hid hR
      have HRL0 := Lib.hid hrl0
      have HRL1 := Lib.hid hrl1
      have HD0 := Lib.hid hr0
      have HD1 := Lib.hid hr1
      have HK9 : Hid (∀ W, Ext w9 W → W.cell? ⟨b9, of9, none⟩ = some (.slice R0 W0 e0) ∧ W.cell? ⟨b9, of9 + 1, none⟩ = some (.slice R1 W0 e1)) := Lib.hid (fun W hW => ⟨by rw [Below.cell hW (p := ⟨b9, of9, none⟩) hbw9]; exact hcr0, by rw [Below.cell hW (p := ⟨b9, of9 + 1, none⟩) hbw9]; exact hcr1⟩)
      clear hR hrl0 hrl1 hr0 hr1 hcr0 hcr1 ho9 hm9 hul9 hD HRS ML0 ML2 SD0 SD2 hb8
      obtain ⟨f1, f2, f3, f4, f5, -⟩ := KS.out w9 hb9
      obtain ⟨t1, t2⟩ := HK9.out w9 (Ext.refl _)
      go_wp2_with fail
      have HTC : Hid (∀ W, Ext w9 W → Calls Try.prog 79 #[.slice B0 W0 d0, .slice R0 W0 e0] W fun e w' => (∃ r, e = .returned (.tuple #[.float .f32 r, .bool true]) ∧ feq .f32 r 0 = true) ∧ Ext W w') := Lib.hid (fun W hW => by
        have := iHueTurn_any B0 R0 d0 e0 p0 r0 W (HR0.out.ext (Ext.trans hb9 hW)) (HD0.out.ext hW) (by rw [HL0.out]; unfold maxLen; omega) (by rw [HRL0.out]; unfold maxLen; omega)
        rw [HL0.out, HRL0.out, HRR.out.hue] at this
        refine this.mono ?_
        rintro e w' ⟨⟨r, rfl, hr⟩, hb⟩
        exact ⟨⟨r, rfl, HRR.out.turn r hr⟩, hb⟩)
      go_quiet (fail)
      go_wp2_with fail
      clear f1 f2 f3 f4 f5 t1 t2
      go_loopw [13, 14, 15] (fun i z1 z2 wr => ∃ j : Nat, j ≤ W0 ∧ i = .int .i64 j ∧ Ext w9 wr) (fun i _ _ _ => W0 - (intOf i).toNat)
      case atStart => exact ⟨0, by omega, rfl, by (repeat (first | exact Below.refl _ _ | assumption | refine below_drewN ?_ _ | refine Below.drew ?_ | refine Below.alloc ?_ (by first | exact Nat.le_refl _ | (simp; done) | (simp; omega)) _ | refine Below.setCell ?_ (by first | exact Nat.le_refl _ | (simp; done) | (simp; omega)) _))⟩
      case round =>
        obtain ⟨j, hj, rfl, hbj⟩ := hrel
        obtain ⟨f1, f2, f3, f4, f5, -⟩ := KS.out _ (Ext.trans hb9 hbj)
        obtain ⟨t1, t2⟩ := HK9.out _ hbj
        by_cases hltj : j < W0
        · have hltjI : (j : Int) < (W0 : Int) := by omega
          have j0 : j < p0.length := by rw [HL0.out]; exact hltj
          have j1 : j < r0.length := by rw [HRL0.out]; exact hltj
          have j2 : j < r1.length := by rw [HRL1.out]; exact hltj
          obtain ⟨x0, o0, rfl, hx0, y0, z0⟩ := rc_at (HR0.out.ext (Ext.trans hb9 hbj)) j0
          obtain ⟨x1, o1, rfl, hx1, y1, z1⟩ := rc_at (HD0.out.ext hbj) j1
          obtain ⟨x2, o2, rfl, hx2, y2, z2⟩ := rc_at (HD1.out.ext hbj) j2
          obtain ⟨dr, di, dm, dy, q1, q2, q3, q4, v1, v2, v3, v4, v5⟩ := HRR.out.due j j0 j1 j2
          have n1 : ∀ W, (binOp .mul 29 (.float .f32 re) (.float .f32 p0[j].re)).run Try.prog W = .ok (.float .f32 dr) W := fun W => t_run (by simp) q1 _ _ W
          have n2 : ∀ W, (binOp .mul 29 (.float .f32 re) (.float .f32 p0[j].im)).run Try.prog W = .ok (.float .f32 di) W := fun W => t_run (by simp) q2 _ _ W
          have n3 : ∀ W, (binOp .mul 29 (.float .f32 a) (.float .f32 p0[j].y)).run Try.prog W = .ok (.float .f32 dm) W := fun W => t_run (by simp) q3 _ _ W
          have n4 : ∀ W, (binOp .add 29 (.float .f32 dm) (.float .f32 off)).run Try.prog W = .ok (.float .f32 dy) W := fun W => t_run (by simp) q4 _ _ W
          clear q1 q2 q3 q4
          generalize p0[j] = P at y0 z0 n1 n2 n3
          generalize r0[j] = Q at y1 z1 v1 v2 v5
          generalize r1[j] = R at y2 z2 v3 v4
          go_wp2_with fail
          go_quiet (fail)
          go_wp2_with fail
          go_quiet (fail)
          go_wp2_with fail
          go_roundw
          case rel => exact ⟨j + 1, by omega, by go_num, by (repeat (first | exact Below.refl _ _ | assumption | refine below_drewN ?_ _ | refine Below.drew ?_ | refine Below.alloc ?_ (by first | exact Nat.le_refl _ | (simp; done) | (simp; omega)) _ | refine Below.setCell ?_ (by first | exact Nat.le_refl _ | (simp; done) | (simp; omega)) _))⟩
          case measure => simp [intOf]; omega
        · obtain rfl : j = W0 := by omega
          go_wp2_with fail
          go_region_held3 (fun W => W.cell? ⟨b, of, none⟩ = some (.slice B0 j d0) ∧ W.cell? ⟨b9, of9, none⟩ = some (.slice R0 j e0) ∧ Ext w9 W)
            (exact ⟨(KS.out _ (Ext.trans hb9 (by (repeat (first | exact Below.refl _ _ | assumption | refine below_drewN ?_ _ | refine Below.drew ?_ | refine Below.alloc ?_ (by first | exact Nat.le_refl _ | (simp; done) | (simp; omega)) _ | refine Below.setCell ?_ (by first | exact Nat.le_refl _ | (simp; done) | (simp; omega)) _))))).2.2.2.1, (HK9.out _ (by (repeat (first | exact Below.refl _ _ | assumption | refine below_drewN ?_ _ | refine Below.drew ?_ | refine Below.alloc ?_ (by first | exact Nat.le_refl _ | (simp; done) | (simp; omega)) _ | refine Below.setCell ?_ (by first | exact Nat.le_refl _ | (simp; done) | (simp; omega)) _)))).1, by (repeat (first | exact Below.refl _ _ | assumption | refine below_drewN ?_ _ | refine Below.drew ?_ | refine Below.alloc ?_ (by first | exact Nat.le_refl _ | (simp; done) | (simp; omega)) _ | refine Below.setCell ?_ (by first | exact Nat.le_refl _ | (simp; done) | (simp; omega)) _))⟩)
            (first
              | (go_at_call 79; refine (HTC.out _ (by (repeat (first | exact Below.refl _ _ | assumption | refine below_drewN ?_ _ | refine Below.drew ?_ | refine Below.alloc ?_ (by first | exact Nat.le_refl _ | (simp; done) | (simp; omega)) _ | refine Below.setCell ?_ (by first | exact Nat.le_refl _ | (simp; done) | (simp; omega)) _)))).mono ?_; rintro e w10 ⟨⟨tr, rfl, htr⟩, hb10⟩; replace hb10 := Ext.trans (a := w9) (by (repeat (first | exact Below.refl _ _ | assumption | refine below_drewN ?_ _ | refine Below.drew ?_ | refine Below.alloc ?_ (by first | exact Nat.le_refl _ | (simp; done) | (simp; omega)) _ | refine Below.setCell ?_ (by first | exact Nat.le_refl _ | (simp; done) | (simp; omega)) _))) hb10))
          go_wp2_with fail
          go_roundw
          case rel => exact ⟨k + 1, by omega, by go_num, Ext.trans hb9 (by (repeat (first | exact Below.refl _ _ | assumption | refine below_drewN ?_ _ | refine Below.drew ?_ | refine Below.alloc ?_ (by first | exact Nat.le_refl _ | (simp; done) | (simp; omega)) _ | refine Below.setCell ?_ (by first | exact Nat.le_refl _ | (simp; done) | (simp; omega)) _)))⟩
          case measure => simp [intOf]; omega
    · have hbr' := HEB.out.trans hbr
      go_wp2_with fail
      go_ret
      exact ⟨rfl, hb2.trans hbr'⟩
end Go.Proofs.Ytiddaabodkglmaa

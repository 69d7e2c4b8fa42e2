import Derived.Test.YtiddaabodkglmaaGreatK3
import Derived.Test.YtiddaabodkglmaaGreatK4
section
namespace Go.Fx
open Go.RowKit
set_option linter.unusedSimpArgs false
theorem ccells_cons (c : Cel) (r : List Cel) : ccells (c :: r) = c1 c :: c2 c :: ccells r := by simp [ccells, cells2]
theorem ccells_len (r : List Cel) : (ccells r).length = r.length * 2 := cells2_len _ _ _
/-- the colour of the next cell is written anew -/
theorem set_colour {xs gp : List Cel} {k : Nat} (hx : xs.length = k) (hk : k < gp.length) (re im : Nat) : (ccells (xs ++ gp.drop k)).set (k * 2 + 1) (.complex .f32 re im) = ccells ((xs ++ [⟨gp[k].y, re, im⟩]) ++ gp.drop (k + 1)) := by
  rw [List.drop_eq_getElem_cons hk, List.append_assoc, List.singleton_append]
  show (cells2 c1 c2 (xs ++ gp[k] :: gp.drop (k + 1))).set _ _ = cells2 c1 c2 (xs ++ ⟨gp[k].y, re, im⟩ :: gp.drop (k + 1))
  rw [← cells2_app, ← cells2_app]
  have hl : (cells2 c1 c2 xs).length = k * 2 := by rw [cells2_len, hx]
  rw [List.set_append_right _ _ (by omega), hl, show k * 2 + 1 - k * 2 = 1 by omega]
  have e1 := ccells_cons gp[k] (gp.drop (k + 1))
  have e2 := ccells_cons ⟨gp[k].y, re, im⟩ (gp.drop (k + 1))
  unfold ccells at e1 e2
  rw [e1, e2]
  rfl
theorem colour_at {xs gp : List Cel} {k : Nat} (hx : xs.length = k) (hk : k < gp.length) : ∃ h : k < (xs ++ gp.drop k).length, (xs ++ gp.drop k)[k] = gp[k] := by
  refine ⟨by simp; omega, ?_⟩
  rw [List.getElem_append_right (by omega)]
  simp [hx]
theorem pairP_len (s : Int) (P Q : List Cel) : (pairP s P Q).length = min P.length Q.length := by simp [pairP]
theorem pairQ_len (s : Int) (P Q : List Cel) : (pairQ s P Q).length = min P.length Q.length := by simp [pairQ]
theorem pairP_at (s : Int) {gp gq : List Cel} {k : Nat} (h1 : k < gp.length) (h2 : k < gq.length) : ∃ h : k < (pairP s (cnC gp) (cnC gq)).length, (pairP s (cnC gp) (cnC gq))[k] = ⟨cn .f32 gp[k].y, pairRe s gp[k].cn gq[k].cn, pairIm s gp[k].cn gq[k].cn⟩ :=
  ⟨by rw [pairP_len]; simp; omega, by simp [pairP]⟩
theorem pairQ_at (s : Int) {gp gq : List Cel} {k : Nat} (h1 : k < gp.length) (h2 : k < gq.length) : ∃ h : k < (pairQ s (cnC gp) (cnC gq)).length, (pairQ s (cnC gp) (cnC gq))[k] = ⟨cn .f32 gq[k].y, pairRe s gp[k].cn gq[k].cn, pairIm s gp[k].cn gq[k].cn⟩ :=
  ⟨by rw [pairQ_len]; simp; omega, by simp [pairQ]⟩
theorem swing_cases (a b : List Nat) : swing a b = 1 ∨ swing a b = -1 ∨ swing a b = 0 := by
  unfold swing
  split
  · split
    · simp
    · split <;> simp
  · simp
theorem pair_not {a b : List Nat} (h : pairOk a b = false) : pair a b = [] := by unfold pair; rw [h]; rfl
theorem pair_is {a b : List Nat} {gp gq : List Cel} (h : pairOk a b = true) (hp : cnC gp = alone false a) (hq : cnC gq = alone false b) : pair a b = [pairP (swing a b) (cnC gp) (cnC gq), pairQ (swing a b) (cnC gp) (cnC gq)] := by
  unfold pair; rw [if_pos h, hp, hq]
theorem Rows2.two {W : World} {base : Nat} {Eo E : TypeId} {size : Nat} {u v : Value} {r s : Nat × List Value} (hu : W.ownsRow base E size u r.1 r.2) (hv : W.ownsRow base E size v s.1 s.2) (hap : Apart u v) (hb : base ≤ W.heap.size) :
    Rows2 (W.alloc (.cells #[u, v] Eo)) base Eo E size (.slice (some ⟨W.heap.size, 0, none⟩) 2 2) [u, v] [r, s] := by
  have hal : Ext W (W.alloc (.cells #[u, v] Eo)) := (Ext.refl W).alloc _
  refine ⟨rfl, ⟨rfl, .inr ⟨W.heap.size, 2, #[u, v], rfl, hb, heap_alloc_new W _, Nat.le_refl _, by unfold maxLen; omega, rfl, rfl⟩⟩, ?_, ?_, ?_⟩
  · intro i x y hx hy
    match i with
    | 0 => simp at hx hy; subst hx; subst hy; exact own_ext hu hal
    | 1 => simp at hx hy; subst hx; subst hy; exact own_ext hv hal
    | i + 2 => simp at hx
  · intro x hx b hb' e
    simp [Value.ownBlock] at e
    subst e
    simp only [List.mem_cons, List.not_mem_nil, or_false] at hx
    rcases hx with rfl | rfl
    · have := (hu.lt _ hb').2; omega
    · have := (hv.lt _ hb').2; omega
  · refine List.Pairwise.cons (fun x hx => ?_) (List.pairwise_singleton _ _)
    simp at hx; subst hx; exact hap
end Go.Fx
namespace Go.Proofs.YtiddaabodkglmaaGreat
open Go.RowKit Go.Fx
set_option linter.unusedVariables false
set_option linter.unusedSimpArgs false
/-- fresh rows of cells -/
abbrev OCC (w : World) (base : Nat) (v : Value) (us : List Value) (rss : List (List Cel)) : Prop := Rows2 w base 54 83 2 v us (rowsC rss)
set_option maxRecDepth 100000 in
set_option maxHeartbeats 4000000 in
theorem iDecodePair_any (A B : Option Addr) (c d : Nat) (rs ss : List Nat) (w : World) (h : Rd w A (rs.map fl)) (h' : Rd w B (ss.map fl)) (hn : rs.length ≤ 1048576) (hn' : ss.length ≤ 1048576) (hc : rs.length ≤ c) (hc' : ss.length ≤ d) :
    Calls Tryz.prog 59 #[.slice A rs.length c, .slice B ss.length d] w fun e w' => (∃ v us rss, e = .returned (.tuple #[v, .bool (pairOk rs ss)]) ∧ OCC w' w.heap.size v us rss ∧ rss.map cnC = pair rs ss) ∧ Ext w w' := by
  have H := Lib.hid h
  have H' := Lib.hid h'
  clear h h'
  cases hok : pairOk rs ss
  · have HN := Lib.hid (pair_not hok)
    cases h1 : aloneOk false rs
    · go_enter Tryz.func59, Tryz.ntmps59
      go_wp2_with fail
      refine (iDecodeAlone_any A c rs false _ H.out hn hc).mono ?_
      rintro e w1 ⟨⟨v1, gp, rfl, ho1, hg1⟩, hb1⟩
      rw [h1]
      go_wp2_with fail
      refine (iDecodeAlone_any B d ss false _ (H'.out.ext hb1) hn' hc').mono ?_
      rintro e w2 ⟨⟨v2, gq, rfl, ho2, hg2⟩, hb2⟩
      go_wp2_with fail
      go_ret2
      exact ⟨⟨_, [], [], rfl, Rows2.nil _ _ _ _ _, by rw [HN.out]; rfl⟩, hb1.trans hb2⟩
    · cases h2 : aloneOk false ss
      · go_enter Tryz.func59, Tryz.ntmps59
        go_wp2_with fail
        refine (iDecodeAlone_any A c rs false _ H.out hn hc).mono ?_
        rintro e w1 ⟨⟨v1, gp, rfl, ho1, hg1⟩, hb1⟩
        rw [h1]
        go_wp2_with fail
        refine (iDecodeAlone_any B d ss false _ (H'.out.ext hb1) hn' hc').mono ?_
        rintro e w2 ⟨⟨v2, gq, rfl, ho2, hg2⟩, hb2⟩
        rw [h2]
        go_wp2_with fail
        go_ret2
        exact ⟨⟨_, [], [], rfl, Rows2.nil _ _ _ _ _, by rw [HN.out]; rfl⟩, hb1.trans hb2⟩
      · have hl : (alone false rs).length ≠ (alone false ss).length := by
          intro e
          unfold pairOk at hok
          rw [h1, h2] at hok
          simp [e] at hok
        go_enter Tryz.func59, Tryz.ntmps59
        go_wp2_with fail
        refine (iDecodeAlone_any A c rs false _ H.out hn hc).mono ?_
        rintro e w1 ⟨⟨v1, gp, rfl, ho1, hg1⟩, hb1⟩
        rw [h1]
        obtain ⟨A1, c1, rfl, -, -⟩ := own_slice ho1
        go_wp2_with fail
        refine (iDecodeAlone_any B d ss false _ (H'.out.ext hb1) hn' hc').mono ?_
        rintro e w2 ⟨⟨v2, gq, rfl, ho2, hg2⟩, hb2⟩
        rw [h2]
        obtain ⟨A2, c2, rfl, -, -⟩ := own_slice ho2
        have hne : ((gp.length : Int) == (gq.length : Int)) = false := by
          rw [beq_eq_false_iff_ne]
          have e1 := cnC_len hg1
          have e2 := cnC_len hg2
          omega
        go_wp2_with fail
        go_ret2
        exact ⟨⟨_, [], [], rfl, Rows2.nil _ _ _ _ _, by rw [HN.out]; rfl⟩, hb1.trans hb2⟩
  · have hok2 := hok
    simp only [pairOk, Bool.and_eq_true, decide_eq_true_eq] at hok2
    obtain ⟨⟨h1, h2⟩, hlen⟩ := hok2
    go_enter Tryz.func59, Tryz.ntmps59
    go_wp2_with fail
    refine (iDecodeAlone_any A c rs false _ H.out hn hc).mono ?_
    rintro e w1 ⟨⟨v1, gp, rfl, ho1, hg1⟩, hb1⟩
    rw [h1]
    have hl1 := (cnC_len hg1)
    have hz1 := alone_len false rs
    rw [← hl1] at hlen hz1
    generalize hgn : gp.length = n at hlen hz1
    have HLEN := Lib.hid hlen
    clear hlen hl1
    unfold OC at ho1
    rw [hgn] at ho1
    have hi1 := own_in ho1
    obtain ⟨A1, c1, rfl, -, -⟩ := own_slice ho1
    go_wp2_with fail
    refine (iDecodeAlone_any B d ss false _ (H'.out.ext hb1) hn' hc').mono ?_
    rintro e w2 ⟨⟨v2, gq, rfl, ho2, hg2⟩, hb2⟩
    rw [h2]
    have hlq : gq.length = n := (cnC_len hg2).trans HLEN.out.symm
    unfold OC at ho2
    rw [hlq] at ho2
    have hi2 := own_in ho2
    obtain ⟨A2, c2, rfl, -, -⟩ := own_slice ho2
    replace ho1 := own_ext ho1 hb2
    have hsw := swing_cases rs ss
    have hS := iSwing_any A B c d rs ss w2 ((H.out.ext hb1).ext hb2) ((H'.out.ext hb1).ext hb2) hn hn' hc hc'
    have HP := Lib.hid (pair_is hok hg1 hg2)
    have HOK := Lib.hid hok
    generalize swing rs ss = sw at hsw hS HP
    clear hg1 hg2 h1 h2 hok
    go_wp2_with (go_at_call 85; refine Calls.mono hS ?_; rintro e w3 ⟨rfl, hb3⟩)
    replace ho1 := own_ext ho1 hb3
    replace ho2 := own_base (own_ext ho2 hb3) hb1.size
    have hb := (hb1.trans hb2).trans hb3
    go_loopw [11, 12, 41] (fun q z i wr => ∃ (k : Nat) (xs ys : List Cel), k ≤ n ∧ xs.length = k ∧ ys.length = k ∧ i = .int .i64 k ∧ wr.ownsRow w.heap.size 83 2 (.slice A1 n c1) n (ccells (xs ++ gp.drop k)) ∧ wr.ownsRow w.heap.size 83 2 (.slice A2 n c2) n (ccells (ys ++ gq.drop k)) ∧ Hid (cnC xs = (pairP sw (cnC gp) (cnC gq)).take k) ∧ Hid (cnC ys = (pairQ sw (cnC gp) (cnC gq)).take k) ∧ Ext w wr) (fun _ _ i _ => n - (intOf i).toNat)
    case atStart => exact ⟨0, [], [], by omega, rfl, rfl, rfl, by simpa using ho1, by simpa using ho2, Lib.hid (by simp), Lib.hid (by simp), hb⟩
    case round =>
      obtain ⟨k, xs, ys, hk, hxl, hyl, rfl, hop, hoq, HX, HY, hbr⟩ := hrel
      clear ho1 ho2
      by_cases hlt : k < n
      · obtain ⟨g1, rfl, hg1, hs1⟩ := own_at hop (by omega)
        obtain ⟨g2, rfl, hg2, hs2⟩ := own_at hoq (by omega)
        have hg12 : g1 ≠ g2 := by have := hi1 g1 rfl; have := hi2 g2 rfl; omega
        have hkp : k < gp.length := by omega
        have hkq : k < gq.length := by omega
        obtain ⟨hxa, exa⟩ := colour_at hxl hkp
        obtain ⟨hya, eya⟩ := colour_at hyl hkq
        obtain ⟨p0, p1⟩ := cells2_at Go.Fx.c1 Go.Fx.c2 _ hxa
        obtain ⟨q0, q1⟩ := cells2_at Go.Fx.c1 Go.Fx.c2 _ hya
        rw [exa] at p0 p1
        rw [eya] at q0 q1
        have hp0 := own_cell hop p0
        have hp1 := own_cell hop p1
        have hq0 := own_cell hoq q0
        have hq1 := own_cell hoq q1
        have hfp := own_frozen hop (k * 2 + 1)
        have hfq := own_frozen hoq (k * 2 + 1)
        have hq1' : ∀ v, (wr.setCell ⟨g1, k * 2 + 1, none⟩ v).cell? ⟨g2, k * 2 + 1, none⟩ = some (Go.Fx.c2 gq[k]) := fun v => by
          rw [World.cell?_of_block (w := wr) (a := ⟨g2, k * 2 + 1, none⟩) (Below.heap_setCell wr ⟨g1, k * 2 + 1, none⟩ v g2 (fun e => hg12 e.symm))]; exact hq1
        obtain ⟨hPk, ePk⟩ := pairP_at sw hkp hkq
        obtain ⟨hQk, eQk⟩ := pairQ_at sw hkp hkq
        have EP := Lib.hid ePk
        have EQ := Lib.hid eQk
        have HPO := Lib.hid hop
        have HQO := Lib.hid hoq
        have STEP : Hid (∀ (W : World) (re im : Nat), Ext wr W → cn .f32 re = pairRe sw gp[k].cn gq[k].cn → cn .f32 im = pairIm sw gp[k].cn gq[k].cn →
            ∃ xs' ys' : List Cel, xs'.length = k + 1 ∧ ys'.length = k + 1 ∧ ((W.setCell ⟨g1, k * 2 + 1, none⟩ (.complex .f32 re im)).setCell ⟨g2, k * 2 + 1, none⟩ (.complex .f32 re im)).ownsRow w.heap.size 83 2 (.slice (some ⟨g1, 0, none⟩) n c1) n (ccells (xs' ++ gp.drop (k + 1))) ∧
              ((W.setCell ⟨g1, k * 2 + 1, none⟩ (.complex .f32 re im)).setCell ⟨g2, k * 2 + 1, none⟩ (.complex .f32 re im)).ownsRow w.heap.size 83 2 (.slice (some ⟨g2, 0, none⟩) n c2) n (ccells (ys' ++ gq.drop (k + 1))) ∧
              Hid (cnC xs' = (pairP sw (cnC gp) (cnC gq)).take (k + 1)) ∧ Hid (cnC ys' = (pairQ sw (cnC gp) (cnC gq)).take (k + 1)) ∧
              Ext w ((W.setCell ⟨g1, k * 2 + 1, none⟩ (.complex .f32 re im)).setCell ⟨g2, k * 2 + 1, none⟩ (.complex .f32 re im))) := Lib.hid (by
          intro W re im hW hre him
          refine ⟨xs ++ [⟨gp[k].y, re, im⟩], ys ++ [⟨gq[k].y, re, im⟩], by simp [hxl], by simp [hyl], ?_, ?_, Lib.hid (cnC_snoc HX.out hPk (by rw [ePk]; simp only [Cel.cn, hre, him])), Lib.hid (cnC_snoc HY.out hQk (by rw [eQk]; simp only [Cel.cn, hre, him])), ?_⟩
          · rw [← set_colour hxl hkp]
            exact own_other (p := ⟨g2, k * 2 + 1, none⟩) (own_set (own_ext hop hW) _) (fun b hb => by cases hb; exact hg12) _
          · rw [← set_colour hyl hkq]
            exact own_set (own_other (p := ⟨g1, k * 2 + 1, none⟩) (own_ext hoq hW) (fun b hb => by cases hb; exact fun e => hg12 e.symm) _) _
          · exact Below.setCell (p := ⟨g2, k * 2 + 1, none⟩) (Below.setCell (p := ⟨g1, k * 2 + 1, none⟩) (hbr.trans hW) hg1 _) hg2 _)
        clear p0 p1 q0 q1 exa eya hxa hya ePk eQk hop hoq
        rcases hsw with rfl | rfl | rfl
        · go_wp2_with fail
          go_region_with (first | (go_at_call 87; refine (conj_any _ _ _).mono ?_; rintro e w4 ⟨rfl, rfl⟩) | (go_at_call 86; refine (mean_any _ _ _ _ _).mono ?_; rintro e w5 ⟨⟨re, im, rfl, e1, e2⟩, n5, rfl⟩))
          all_goals go_wp2
          all_goals go_roundw
          all_goals first | (simp [intOf]; done) | (simp [intOf]; omega) | skip
          all_goals (
            obtain ⟨xs', ys', l1, l2, o1, o2, x1, x2, bx⟩ := STEP.out (wr.drewN (1 + n5)) re im (Ext.drewN _ _) (by rw [e1]; rfl) (by rw [e2, cn_negF]; rfl)
            exact ⟨k + 1, xs', ys', by omega, l1, l2, by go_num, o1, o2, x1, x2, bx⟩)
        · go_wp2_with fail
          go_region_with (first | (go_at_call 87; refine (conj_any _ _ _).mono ?_; rintro e w4 ⟨rfl, rfl⟩) | (go_at_call 86; refine (mean_any _ _ _ _ _).mono ?_; rintro e w5 ⟨⟨re, im, rfl, e1, e2⟩, n5, rfl⟩))
          all_goals go_wp2
          all_goals go_roundw
          all_goals first | (simp [intOf]; done) | (simp [intOf]; omega) | skip
          all_goals (
            obtain ⟨xs', ys', l1, l2, o1, o2, x1, x2, bx⟩ := STEP.out (wr.drewN (1 + n5)) re im (Ext.drewN _ _) (by rw [e1]; rfl) (by rw [e2, cn_negF]; rfl)
            exact ⟨k + 1, xs', ys', by omega, l1, l2, by go_num, o1, o2, x1, x2, bx⟩)
        · go_wp2
          all_goals go_roundw
          all_goals first | (simp [intOf]; done) | (simp [intOf]; omega) | skip
          all_goals (
            obtain ⟨xs', ys', l1, l2, o1, o2, x1, x2, bx⟩ := STEP.out wr 0 0 (Ext.refl _) (by rw [show cn .f32 0 = 0 by decide +kernel]; simp [pairRe]) (by rw [show cn .f32 0 = 0 by decide +kernel]; simp [pairIm])
            exact ⟨k + 1, xs', ys', by omega, l1, l2, by go_num, o1, o2, x1, x2, bx⟩)
      · obtain rfl : k = n := by omega
        have hx0 : xs ++ gp.drop xs.length = xs := by rw [hxl]; rw [List.drop_of_length_le (by omega), List.append_nil]
        have hy0 : ys ++ gq.drop ys.length = ys := by rw [hyl]; rw [List.drop_of_length_le (by omega), List.append_nil]
        rw [hxl] at hx0
        rw [hyl] at hy0
        rw [hx0] at hop
        rw [hy0] at hoq
        have e1 : cnC xs = pairP sw (cnC gp) (cnC gq) := by rw [HX.out]; apply List.take_of_length_le; rw [pairP_len]; simp; omega
        have e2 : cnC ys = pairQ sw (cnC gp) (cnC gq) := by rw [HY.out]; apply List.take_of_length_le; rw [pairQ_len]; simp; omega
        have HE : Hid ([xs, ys].map cnC = pair rs ss) := Lib.hid (by rw [HP.out]; simp only [List.map_cons, List.map_nil, e1, e2])
        have hap : Apart (.slice A1 k c1) (.slice A2 k c2) := fun b h1 h2 => by
          have := hi1 b h1
          have := hi2 b h2
          omega
        have HT := Lib.hid (Rows2.two (Eo := 54) (r := (k, ccells xs)) (s := (k, ccells ys)) hop hoq hap hbr.size)
        clear hx0 hy0 e1 e2 hop hoq
        go_wp2
        go_ret2
        refine ⟨⟨.slice (some ⟨wr.heap.size, 0, none⟩) 2 2, [.slice A1 k c1, .slice A2 k c2], [xs, ys], rfl, ?_, HE.out⟩, hbr.alloc _⟩
        have ht := HT.out
        have er : rowsC [xs, ys] = [(k, ccells xs), (k, ccells ys)] := by simp [hxl, hyl]
        unfold OCC
        rw [er]
        exact ht
end Go.Proofs.YtiddaabodkglmaaGreat
end
section
namespace Go.Proofs.YtiddaabodkglmaaGreat
open Go.RowKit Go.Fx
set_option linter.unusedVariables false
set_option linter.unusedSimpArgs false
set_option maxRecDepth 100000 in
set_option maxHeartbeats 4000000 in
theorem sDecodePair_any (A B : Option Addr) (c d : Nat) (rs ss : List Nat) (w : World) (h : Rd w A (rs.map fl)) (h' : Rd w B (ss.map fl)) (hn : rs.length ≤ 1048576) (hn' : ss.length ≤ 1048576) (hc : rs.length ≤ c) (hc' : ss.length ≤ d) :
    Calls Tryz.prog 42 #[.slice A rs.length c, .slice B ss.length d] w fun e w' => (∃ v us rss, e = .returned (.tuple #[v, .bool (pairOk rs ss)]) ∧ OCC w' w.heap.size v us rss ∧ rss.map cnC = pair rs ss) ∧ Ext w w' := by
  have H := Lib.hid h
  have H' := Lib.hid h'
  clear h h'
  cases hok : pairOk rs ss
  · have HN := Lib.hid (pair_not hok)
    cases h1 : aloneOk false rs
    · go_enter Tryz.func42, Tryz.ntmps42
      go_wp2_with fail
      refine (sDecodeAlone_any A c rs false _ H.out hn hc).mono ?_
      rintro e w1 ⟨⟨v1, gp, rfl, ho1, hg1⟩, hb1⟩
      rw [h1]
      go_wp2_with fail
      refine (sDecodeAlone_any B d ss false _ (H'.out.ext hb1) hn' hc').mono ?_
      rintro e w2 ⟨⟨v2, gq, rfl, ho2, hg2⟩, hb2⟩
      go_wp2_with fail
      go_ret2
      exact ⟨⟨_, [], [], rfl, Rows2.new w2 _ _ _ _ (Nat.le_trans hb1.size hb2.size), by rw [HN.out]; rfl⟩, (hb1.trans hb2).alloc _⟩
    · cases h2 : aloneOk false ss
      · go_enter Tryz.func42, Tryz.ntmps42
        go_wp2_with fail
        refine (sDecodeAlone_any A c rs false _ H.out hn hc).mono ?_
        rintro e w1 ⟨⟨v1, gp, rfl, ho1, hg1⟩, hb1⟩
        rw [h1]
        go_wp2_with fail
        refine (sDecodeAlone_any B d ss false _ (H'.out.ext hb1) hn' hc').mono ?_
        rintro e w2 ⟨⟨v2, gq, rfl, ho2, hg2⟩, hb2⟩
        rw [h2]
        go_wp2_with fail
        go_ret2
        exact ⟨⟨_, [], [], rfl, Rows2.new w2 _ _ _ _ (Nat.le_trans hb1.size hb2.size), by rw [HN.out]; rfl⟩, (hb1.trans hb2).alloc _⟩
      · have hl : (alone false rs).length ≠ (alone false ss).length := by
          intro e
          unfold pairOk at hok
          rw [h1, h2] at hok
          simp [e] at hok
        go_enter Tryz.func42, Tryz.ntmps42
        go_wp2_with fail
        refine (sDecodeAlone_any A c rs false _ H.out hn hc).mono ?_
        rintro e w1 ⟨⟨v1, gp, rfl, ho1, hg1⟩, hb1⟩
        rw [h1]
        obtain ⟨A1, c1, rfl, -, -⟩ := own_slice ho1
        go_wp2_with fail
        refine (sDecodeAlone_any B d ss false _ (H'.out.ext hb1) hn' hc').mono ?_
        rintro e w2 ⟨⟨v2, gq, rfl, ho2, hg2⟩, hb2⟩
        rw [h2]
        obtain ⟨A2, c2, rfl, -, -⟩ := own_slice ho2
        have hne : ((gp.length : Int) == (gq.length : Int)) = false := by
          rw [beq_eq_false_iff_ne]
          have e1 := cnC_len hg1
          have e2 := cnC_len hg2
          omega
        go_wp2_with fail
        go_ret2
        exact ⟨⟨_, [], [], rfl, Rows2.new w2 _ _ _ _ (Nat.le_trans hb1.size hb2.size), by rw [HN.out]; rfl⟩, (hb1.trans hb2).alloc _⟩
  · have hok2 := hok
    simp only [pairOk, Bool.and_eq_true, decide_eq_true_eq] at hok2
    obtain ⟨⟨h1, h2⟩, hlen⟩ := hok2
    go_enter Tryz.func42, Tryz.ntmps42
    go_wp2_with fail
    refine (sDecodeAlone_any A c rs false _ H.out hn hc).mono ?_
    rintro e w1 ⟨⟨v1, gp, rfl, ho1, hg1⟩, hb1⟩
    rw [h1]
    have hl1 := (cnC_len hg1)
    have hz1 := alone_len false rs
    rw [← hl1] at hlen hz1
    generalize hgn : gp.length = n at hlen hz1
    have HLEN := Lib.hid hlen
    clear hlen hl1
    unfold OC at ho1
    rw [hgn] at ho1
    have hi1 := own_in ho1
    obtain ⟨A1, c1, rfl, -, -⟩ := own_slice ho1
    go_wp2_with fail
    refine (sDecodeAlone_any B d ss false _ (H'.out.ext hb1) hn' hc').mono ?_
    rintro e w2 ⟨⟨v2, gq, rfl, ho2, hg2⟩, hb2⟩
    rw [h2]
    have hlq : gq.length = n := (cnC_len hg2).trans HLEN.out.symm
    unfold OC at ho2
    rw [hlq] at ho2
    have hi2 := own_in ho2
    obtain ⟨A2, c2, rfl, -, -⟩ := own_slice ho2
    replace ho1 := own_ext ho1 hb2
    have hsw := swing_cases rs ss
    have hS := sSwing_any A B c d rs ss w2 ((H.out.ext hb1).ext hb2) ((H'.out.ext hb1).ext hb2) hn hn' hc hc'
    have HP := Lib.hid (pair_is hok hg1 hg2)
    have HOK := Lib.hid hok
    generalize swing rs ss = sw at hsw hS HP
    clear hg1 hg2 h1 h2 hok
    go_wp2_with (go_at_call 74; refine Calls.mono hS ?_; rintro e w3 ⟨rfl, hb3⟩)
    replace ho1 := own_ext ho1 hb3
    replace ho2 := own_base (own_ext ho2 hb3) hb1.size
    have hb := (hb1.trans hb2).trans hb3
    go_loopw [11, 12, 13, 14] (fun i z1 z2 z3 wr => ∃ (k : Nat) (xs ys : List Cel), k ≤ n ∧ xs.length = k ∧ ys.length = k ∧ i = .int .i64 k ∧ wr.ownsRow w.heap.size 83 2 (.slice A1 n c1) n (ccells (xs ++ gp.drop k)) ∧ wr.ownsRow w.heap.size 83 2 (.slice A2 n c2) n (ccells (ys ++ gq.drop k)) ∧ Hid (cnC xs = (pairP sw (cnC gp) (cnC gq)).take k) ∧ Hid (cnC ys = (pairQ sw (cnC gp) (cnC gq)).take k) ∧ Ext w wr) (fun i _ _ _ _ => n - (intOf i).toNat)
    case atStart => exact ⟨0, [], [], by omega, rfl, rfl, rfl, by simpa using ho1, by simpa using ho2, Lib.hid (by simp), Lib.hid (by simp), hb⟩
    case round =>
      obtain ⟨k, xs, ys, hk, hxl, hyl, rfl, hop, hoq, HX, HY, hbr⟩ := hrel
      clear ho1 ho2
      by_cases hlt : k < n
      · obtain ⟨g1, rfl, hg1, hs1⟩ := own_at hop (by omega)
        obtain ⟨g2, rfl, hg2, hs2⟩ := own_at hoq (by omega)
        have hg12 : g1 ≠ g2 := by have := hi1 g1 rfl; have := hi2 g2 rfl; omega
        have hkp : k < gp.length := by omega
        have hkq : k < gq.length := by omega
        obtain ⟨hxa, exa⟩ := colour_at hxl hkp
        obtain ⟨hya, eya⟩ := colour_at hyl hkq
        obtain ⟨p0, p1⟩ := cells2_at Go.Fx.c1 Go.Fx.c2 _ hxa
        obtain ⟨q0, q1⟩ := cells2_at Go.Fx.c1 Go.Fx.c2 _ hya
        rw [exa] at p0 p1
        rw [eya] at q0 q1
        have hp0 := own_cell hop p0
        have hp1 := own_cell hop p1
        have hq0 := own_cell hoq q0
        have hq1 := own_cell hoq q1
        have hfp := own_frozen hop (k * 2 + 1)
        have hfq := own_frozen hoq (k * 2 + 1)
        have hq1' : ∀ v, (wr.setCell ⟨g1, k * 2 + 1, none⟩ v).cell? ⟨g2, k * 2 + 1, none⟩ = some (Go.Fx.c2 gq[k]) := fun v => by
          rw [World.cell?_of_block (w := wr) (a := ⟨g2, k * 2 + 1, none⟩) (Below.heap_setCell wr ⟨g1, k * 2 + 1, none⟩ v g2 (fun e => hg12 e.symm))]; exact hq1
        obtain ⟨hPk, ePk⟩ := pairP_at sw hkp hkq
        obtain ⟨hQk, eQk⟩ := pairQ_at sw hkp hkq
        have EP := Lib.hid ePk
        have EQ := Lib.hid eQk
        have HPO := Lib.hid hop
        have HQO := Lib.hid hoq
        have STEP : Hid (∀ (W : World) (re im : Nat), Ext wr W → cn .f32 re = pairRe sw gp[k].cn gq[k].cn → cn .f32 im = pairIm sw gp[k].cn gq[k].cn →
            ∃ xs' ys' : List Cel, xs'.length = k + 1 ∧ ys'.length = k + 1 ∧ ((W.setCell ⟨g1, k * 2 + 1, none⟩ (.complex .f32 re im)).setCell ⟨g2, k * 2 + 1, none⟩ (.complex .f32 re im)).ownsRow w.heap.size 83 2 (.slice (some ⟨g1, 0, none⟩) n c1) n (ccells (xs' ++ gp.drop (k + 1))) ∧
              ((W.setCell ⟨g1, k * 2 + 1, none⟩ (.complex .f32 re im)).setCell ⟨g2, k * 2 + 1, none⟩ (.complex .f32 re im)).ownsRow w.heap.size 83 2 (.slice (some ⟨g2, 0, none⟩) n c2) n (ccells (ys' ++ gq.drop (k + 1))) ∧
              Hid (cnC xs' = (pairP sw (cnC gp) (cnC gq)).take (k + 1)) ∧ Hid (cnC ys' = (pairQ sw (cnC gp) (cnC gq)).take (k + 1)) ∧
              Ext w ((W.setCell ⟨g1, k * 2 + 1, none⟩ (.complex .f32 re im)).setCell ⟨g2, k * 2 + 1, none⟩ (.complex .f32 re im))) := Lib.hid (by
          intro W re im hW hre him
          refine ⟨xs ++ [⟨gp[k].y, re, im⟩], ys ++ [⟨gq[k].y, re, im⟩], by simp [hxl], by simp [hyl], ?_, ?_, Lib.hid (cnC_snoc HX.out hPk (by rw [ePk]; simp only [Cel.cn, hre, him])), Lib.hid (cnC_snoc HY.out hQk (by rw [eQk]; simp only [Cel.cn, hre, him])), ?_⟩
          · rw [← set_colour hxl hkp]
            exact own_other (p := ⟨g2, k * 2 + 1, none⟩) (own_set (own_ext hop hW) _) (fun b hb => by cases hb; exact hg12) _
          · rw [← set_colour hyl hkq]
            exact own_set (own_other (p := ⟨g1, k * 2 + 1, none⟩) (own_ext hoq hW) (fun b hb => by cases hb; exact fun e => hg12 e.symm) _) _
          · exact Below.setCell (p := ⟨g2, k * 2 + 1, none⟩) (Below.setCell (p := ⟨g1, k * 2 + 1, none⟩) (hbr.trans hW) hg1 _) hg2 _)
        clear p0 p1 q0 q1 exa eya hxa hya ePk eQk hop hoq
        rcases hsw with rfl | rfl | rfl
        · go_wp2_with (first | (go_at_call 75; refine (sConj_any _ _ _).mono ?_; rintro e w4 ⟨rfl, rfl⟩) | (go_at_call 76; refine (sHalf_any _ _ _).mono ?_; rintro e w5 ⟨⟨re, rfl, e1⟩, n5, rfl⟩; go_wp2_with (go_at_call 76; refine (sHalf_any _ _ _).mono ?_; rintro e w6 ⟨⟨im, rfl, e2⟩, n6, rfl⟩)))
          all_goals go_roundw
          all_goals first | (simp [intOf]; done) | (simp [intOf]; omega) | skip
          all_goals (
            obtain ⟨xs', ys', l1, l2, o1, o2, x1, x2, bx⟩ := STEP.out (wr.drewN (n5 + n6)) re im (Ext.drewN _ _) (by rw [e1]; rfl) (by rw [e2, cn_negF]; rfl)
            exact ⟨k + 1, xs', ys', by omega, l1, l2, by go_num, o1, o2, x1, x2, bx⟩)
        · go_wp2_with (first | (go_at_call 75; refine (sConj_any _ _ _).mono ?_; rintro e w4 ⟨rfl, rfl⟩) | (go_at_call 76; refine (sHalf_any _ _ _).mono ?_; rintro e w5 ⟨⟨re, rfl, e1⟩, n5, rfl⟩; go_wp2_with (go_at_call 76; refine (sHalf_any _ _ _).mono ?_; rintro e w6 ⟨⟨im, rfl, e2⟩, n6, rfl⟩)))
          all_goals go_roundw
          all_goals first | (simp [intOf]; done) | (simp [intOf]; omega) | skip
          all_goals (
            obtain ⟨xs', ys', l1, l2, o1, o2, x1, x2, bx⟩ := STEP.out (wr.drewN (n5 + n6)) re im (Ext.drewN _ _) (by rw [e1]; rfl) (by rw [e2, cn_negF]; rfl)
            exact ⟨k + 1, xs', ys', by omega, l1, l2, by go_num, o1, o2, x1, x2, bx⟩)
        · go_wp2_with (first | (go_at_call 75; refine (sConj_any _ _ _).mono ?_; rintro e w4 ⟨rfl, rfl⟩) | (go_at_call 76; refine (sHalf_any _ _ _).mono ?_; rintro e w5 ⟨⟨re, rfl, e1⟩, n5, rfl⟩; go_wp2_with (go_at_call 76; refine (sHalf_any _ _ _).mono ?_; rintro e w6 ⟨⟨im, rfl, e2⟩, n6, rfl⟩)))
          all_goals go_roundw
          all_goals first | (simp [intOf]; done) | (simp [intOf]; omega) | skip
          all_goals (
            obtain ⟨xs', ys', l1, l2, o1, o2, x1, x2, bx⟩ := STEP.out (wr.drewN (n5 + n6)) 0 0 (Ext.drewN _ _) (by rw [show cn .f32 0 = 0 by decide +kernel]; simp [pairRe]) (by rw [show cn .f32 0 = 0 by decide +kernel]; simp [pairIm])
            exact ⟨k + 1, xs', ys', by omega, l1, l2, by go_num, o1, o2, x1, x2, bx⟩)
      · obtain rfl : k = n := by omega
        have hx0 : xs ++ gp.drop xs.length = xs := by rw [hxl]; rw [List.drop_of_length_le (by omega), List.append_nil]
        have hy0 : ys ++ gq.drop ys.length = ys := by rw [hyl]; rw [List.drop_of_length_le (by omega), List.append_nil]
        rw [hxl] at hx0
        rw [hyl] at hy0
        rw [hx0] at hop
        rw [hy0] at hoq
        have e1 : cnC xs = pairP sw (cnC gp) (cnC gq) := by rw [HX.out]; apply List.take_of_length_le; rw [pairP_len]; simp; omega
        have e2 : cnC ys = pairQ sw (cnC gp) (cnC gq) := by rw [HY.out]; apply List.take_of_length_le; rw [pairQ_len]; simp; omega
        have HE : Hid ([xs, ys].map cnC = pair rs ss) := Lib.hid (by rw [HP.out]; simp only [List.map_cons, List.map_nil, e1, e2])
        have hap : Apart (.slice A1 k c1) (.slice A2 k c2) := fun b h1 h2 => by
          have := hi1 b h1
          have := hi2 b h2
          omega
        have HT := Lib.hid (Rows2.two (Eo := 54) (r := (k, ccells xs)) (s := (k, ccells ys)) hop hoq hap hbr.size)
        clear hx0 hy0 e1 e2 hop hoq
        go_wp2
        go_ret2
        refine ⟨⟨.slice (some ⟨wr.heap.size, 0, none⟩) 2 2, [.slice A1 k c1, .slice A2 k c2], [xs, ys], rfl, ?_, HE.out⟩, hbr.alloc _⟩
        have ht := HT.out
        have er : rowsC [xs, ys] = [(k, ccells xs), (k, ccells ys)] := by simp [hxl, hyl]
        unfold OCC
        rw [er]
        exact ht
end Go.Proofs.YtiddaabodkglmaaGreat
end
section
namespace Go.Fx
open Go.RowKit
theorem RdRows.atC {w : World} {A : Option Addr} {us : List Value} {rss : List (List Cel)} (h : RdRows w A us (rowsC rss)) {i : Nat} (hi : i < rss.length) :
    ∃ b off B c, A = some ⟨b, off, none⟩ ∧ b < w.heap.size ∧ us[i]? = some (.slice B rss[i].length c) ∧ w.cell? ⟨b, off + i, none⟩ = some (.slice B rss[i].length c) ∧ Rd w B (ccells rss[i]) ∧ (B = none → rss[i].length = 0) ∧ rss[i].length ≤ c := by
  have h1 := h.at (i := i) (by simpa using hi)
  rw [show (rowsC rss)[i]'(by simpa using hi) = (rss[i].length, ccells rss[i]) by simp] at h1
  exact h1
theorem rss_len {rss X : List (List Cel)} {n : Nat} (h : rss.map cnC = X) (hx : X.length ≤ n) : rss.length ≤ n := by rw [← h, List.length_map] at hx; exact hx
theorem rss_each {rss X : List (List Cel)} (h : rss.map cnC = X) (hx : ∀ r ∈ X, r.length ≤ 64) : ∀ r ∈ rss, r.length ≤ 64 := fun r hr => by
  have := hx (cnC r) (by rw [← h]; exact List.mem_map_of_mem hr)
  simpa using this
theorem rss_sum {rss : List (List Cel)} {n : Nat} (hl : rss.length ≤ n) (he : ∀ r ∈ rss, r.length ≤ 64) : sumLen (rss.map List.length) ≤ n * 64 := by
  have h1 := sumLen_all (ns := rss.map List.length) (b := 64) (fun m hm => by
    obtain ⟨l, hl, rfl⟩ := List.mem_map.1 hm
    exact he l hl)
  rw [List.length_map] at h1
  exact Nat.le_trans h1 (Nat.mul_le_mul_right _ hl)
theorem pair_two {a b : List Nat} : (pair a b).length ≤ 2 := by unfold pair; split <;> simp
theorem pair_each {a b : List Nat} : ∀ r ∈ pair a b, r.length ≤ 64 := by
  intro r hr
  have h1 := alone_len false a
  unfold pair at hr
  split at hr
  · simp only [List.mem_cons, List.not_mem_nil, or_false] at hr
    rcases hr with rfl | rfl
    · rw [pairP_len]; omega
    · rw [pairQ_len]; omega
  · simp at hr
end Go.Fx
namespace Go.Proofs.YtiddaabodkglmaaGreat
open Go.RowKit Go.Fx
set_option linter.unusedVariables false
set_option linter.unusedSimpArgs false
/-! rows of rows of cells -/
set_option maxRecDepth 100000 in
set_option maxHeartbeats 4000000 in
theorem eqCC_any (A B : Option Addr) (c d : Nat) (us vs : List Value) (rss sss : List (List Cel)) (w : World) (h : RdRows w A us (rowsC rss)) (h' : RdRows w B vs (rowsC sss)) (hn : rss.length ≤ maxLen) (hm : ∀ r ∈ rss, r.length ≤ maxLen) (he : rss.map cnC = sss.map cnC) :
    Calls Tryz.prog 9 #[.slice A rss.length c, .slice B sss.length d] w fun e w' => e = .returned (.bool true) ∧ Ext w w' := by
  have hl : rss.length = sss.length := by simpa using congrArg List.length he
  have HE := Lib.hid he
  unfold maxLen at hn
  rw [← hl]
  have HL := Lib.hid hl
  clear he hl
  go_enter Tryz.func9, Tryz.ntmps9
  go_wp2
  go_loopw [5] (fun i wr => ∃ (k : Nat), k ≤ rss.length ∧ i = .int .i64 k ∧ Ext w wr) (fun i _ => rss.length - (intOf i).toNat)
  case atStart => exact ⟨0, Nat.zero_le _, rfl, Ext.refl _⟩
  case round =>
    obtain ⟨k, hk, rfl, hx⟩ := hrel
    by_cases hlt : k < rss.length
    · obtain ⟨b, off, B1, c1, rfl, hbw, -, hc, hr1, -, -⟩ := (h.ext hx).atC hlt
      obtain ⟨b', off', B2, c2, rfl, hbw', -, hc', hr2, -, -⟩ := (h'.ext hx).atC (i := k) (by rw [← HL.out]; exact hlt)
      have hlt' : k < sss.length := by rw [← HL.out]; exact hlt
      have HK : Hid (cnC rss[k] = cnC sss[k]) := Lib.hid (by
        have := congrArg (fun l => l[k]?) HE.out
        simpa [hlt, hlt'] using this)
      have HM := Lib.hid (hm _ (List.getElem_mem hlt))
      have HR1 := Lib.hid hr1
      have HR2 := Lib.hid hr2
      clear hr1 hr2
      go_wp2_with fail
      go_region_with (go_at_call 31; refine (eqC_any B1 B2 c1 c2 _ _ _ (by first | exact HR1.out | exact Rd.drewN HR1.out _ | exact Rd.drewN (Rd.drewN HR1.out _) _) (by first | exact HR2.out | exact Rd.drewN HR2.out _ | exact Rd.drewN (Rd.drewN HR2.out _) _) HM.out HK.out).mono ?_; rintro e w1 ⟨rfl, hbe⟩)
      all_goals go_wp2
      all_goals go_roundw
      all_goals first | (simp [intOf]; done) | (simp [intOf]; omega) | skip
      all_goals exact ⟨k + 1, by omega, by go_num, hx.trans (by first | exact hbe | exact (Ext.drewN _ _).trans hbe | exact Ext.trans (by (repeat (first | exact Below.refl _ _ | assumption | refine below_drewN ?_ _ | refine Below.drew ?_ | refine Below.alloc ?_ (by first | exact Nat.le_refl _ | (simp; done) | (simp; omega)) _ | refine Below.setCell ?_ (by first | exact Nat.le_refl _ | (simp; done) | (simp; omega)) _))) hbe)⟩
    · go_wp2
      go_ret
      exact ⟨rfl, hx⟩
set_option maxRecDepth 100000 in
set_option maxHeartbeats 4000000 in
theorem markCC_core (A : Option Addr) (c : Nat) (us : List Value) (rows : List (Nat × List Value)) (k0 : Int) (base lo hi : Nat) (w : World) (hn : rows.length ≤ 1048576) (hk0 : 0 ≤ k0) (hk1 : k0 + 2 * sumLen (rows.map (·.1)) ≤ 16777216)
    (h : Rows2 w base 54 83 2 (.slice A rows.length c) us rows) (hir : InR (.slice A rows.length c) us lo hi) :
    Calls Tryz.prog 14 #[.slice A rows.length c, .int .i64 k0] w fun e w' => e = .returned (.int .i64 (k0 + 2 * sumLen (rows.map (·.1)))) ∧ Rows2 w' base 54 83 2 (.slice A rows.length c) us (markRows marksC 2 k0 (rows.map (·.1))) ∧ Turn lo hi w w' := by
  have HK1 := Lib.hid hk1
  have HI := Lib.hid hir
  clear hk1 hir
  go_enter Tryz.func14, Tryz.ntmps14
  go_wp2
  go_loopw [1, 5] (fun q i wr => ∃ (k : Nat) (ys : List (Nat × List Value)), k ≤ rows.length ∧ i = .int .i64 k ∧ q = .int .i64 (k0 + 2 * sumLen ((rows.map (·.1)).take k)) ∧ Hid (MarkUpto k ys (markRows marksC 2 k0 (rows.map (·.1))) rows) ∧ Hid (Rows2 wr base 54 83 2 (.slice A rows.length c) us ys) ∧ Turn lo hi w wr) (fun _ i _ => rows.length - (intOf i).toNat)
  case atStart => exact ⟨0, rows, Nat.zero_le _, rfl, by simp [sumLen], Lib.hid (MarkUpto.zero (by rw [markRows_len, List.length_map])), Lib.hid h, Turn.refl _ _ _⟩
  case round =>
    obtain ⟨k, ys, hk, rfl, rfl, hu, ho, ht⟩ := hrel
    clear h
    by_cases hlt : k < rows.length
    · obtain ⟨g, B, d, rfl, hc, hx, hown⟩ := ho.out.atU hu.out hlt
      have HX := Lib.hid hx
      have HO := Lib.hid hown
      have hns : k < (rows.map (·.1)).length := by simpa using hlt
      have hst := sumLen_take hns
      have hsle := sumLen_le (ns := rows.map (·.1)) (k + 1)
      have hk1 := HK1.out
      rw [List.getElem_map] at hst
      have hmk := markRows_at marksC 2 k0 hns
      rw [List.getElem_map, Int.natCast_mul] at hmk
      have HM := Lib.hid hmk
      clear hx hown hmk
      generalize rows[k] = r at *
      obtain ⟨n, xs⟩ := r
      simp only [] at hc hst
      go_wp2_with (go_at_call 35; refine (markC_any B d n _ (by omega) (by omega) (by omega) xs base _ HO.out).mono ?_; rintro e w1 ⟨rfl, hom, hg⟩)
      go_roundw
      case rel => exact ⟨k + 1, _, by omega, by go_num, by rw [hst]; go_num, Lib.hid (hu.out.step HM.out), Lib.hid (ho.out.setRow HX.out hom hg), ht.trans (turn_grown hg (HI.out.2 _ (List.mem_of_getElem? HX.out)))⟩
      case measure => simp [intOf]; omega
    · go_wp2
      go_ret
      obtain rfl : k = rows.length := by omega
      have e := hu.out.all (Nat.le_refl _)
      subst e
      have e2 : (rows.map (·.1)).take rows.length = rows.map (·.1) := List.take_of_length_le (by simp)
      exact ⟨by rw [e2]; rfl, ho.out, ht⟩
set_option maxRecDepth 100000 in
set_option maxHeartbeats 4000000 in
theorem heldCC_core (A : Option Addr) (c : Nat) (us : List Value) (ns : List Nat) (k0 : Int) (w : World) (hn : ns.length ≤ 1048576) (hk0 : 0 ≤ k0) (hk1 : k0 + 2 * sumLen ns ≤ 16777216) (h : RdRows w A us (markRows marksC 2 k0 ns)) :
    Calls Tryz.prog 15 #[.slice A ns.length c, .int .i64 k0] w fun e w' => e = .returned (.int .i64 (k0 + 2 * sumLen ns)) ∧ Ext w w' := by
  have HH := Lib.hid h
  have HK1 := Lib.hid hk1
  clear h hk1
  go_enter Tryz.func15, Tryz.ntmps15
  go_wp2
  go_loopw [1, 5] (fun q i wr => ∃ (k : Nat), k ≤ ns.length ∧ i = .int .i64 k ∧ q = .int .i64 (k0 + 2 * sumLen (ns.take k)) ∧ Ext w wr) (fun _ i _ => ns.length - (intOf i).toNat)
  case atStart => exact ⟨0, Nat.zero_le _, rfl, by simp [sumLen], Ext.refl _⟩
  case round =>
    obtain ⟨k, hk, rfl, rfl, hx⟩ := hrel
    by_cases hlt : k < ns.length
    · obtain ⟨b, off, B, d, rfl, hbw, hc, hr⟩ := (HH.out.ext hx).atM hlt
      rw [Int.natCast_mul] at hr
      have HR := Lib.hid hr
      have hst := sumLen_take hlt
      have hsle := sumLen_le (ns := ns) (k + 1)
      have hk1 := HK1.out
      clear hr
      generalize ns[k] = n at *
      go_wp2_with (go_at_call 36; refine (heldC_any B d n _ (by omega) (by omega) (by omega) _ HR.out).mono ?_; rintro e w1 ⟨rfl, hw⟩; have hb : Ext wr w1 := by (obtain ⟨m, e⟩ := hw; rw [e]; exact Ext.drewN _ _))
      go_roundw
      case rel => exact ⟨k + 1, by omega, by go_num, by rw [hst]; go_num, hx.trans hb⟩
      case measure => simp [intOf]; omega
    · go_wp2
      go_ret
      obtain rfl : k = ns.length := by omega
      have e2 : ns.take ns.length = ns := List.take_length
      exact ⟨by rw [e2]; rfl, hx⟩
theorem markCC_any (A : Option Addr) (c n : Nat) (us : List Value) (rows : List (Nat × List Value)) (ns : List Nat) (k0 : Int) (base lo hi : Nat) (w : World) (hnr : rows.length = n) (hns : rows.map (·.1) = ns) (hn : n ≤ 1048576) (hk0 : 0 ≤ k0) (hk1 : k0 + 2 * sumLen ns ≤ 16777216)
    (h : Rows2 w base 54 83 2 (.slice A n c) us rows) (hir : InR (.slice A n c) us lo hi) :
    Calls Tryz.prog 14 #[.slice A n c, .int .i64 k0] w fun e w' => e = .returned (.int .i64 (k0 + 2 * sumLen ns)) ∧ Rows2 w' base 54 83 2 (.slice A n c) us (markRows marksC 2 k0 ns) ∧ Turn lo hi w w' := by
  subst hnr; subst hns
  exact markCC_core A c us rows k0 base lo hi w hn hk0 hk1 h hir
theorem heldCC_any (A : Option Addr) (c n : Nat) (us : List Value) (ns : List Nat) (k0 : Int) (w : World) (hnn : ns.length = n) (hn : n ≤ 1048576) (hk0 : 0 ≤ k0) (hk1 : k0 + 2 * sumLen ns ≤ 16777216) (h : RdRows w A us (markRows marksC 2 k0 ns)) :
    Calls Tryz.prog 15 #[.slice A n c, .int .i64 k0] w fun e w' => e = .returned (.int .i64 (k0 + 2 * sumLen ns)) ∧ Ext w w' := by
  subst hnn
  exact heldCC_core A c us ns k0 w hn hk0 hk1 h
end Go.Proofs.YtiddaabodkglmaaGreat
end
section
namespace Go.Fx
open Go.RowKit
set_option linter.unusedSimpArgs false
theorem oneCell_cc {row : List Cel} : ∀ u ∈ ccells row, u.oneCell' = true := oneCell_cells2 (fun _ => rfl) (fun _ => rfl)
theorem scaleOk_not {k : Nat} {row : List Cel} (h : rowOk row = false) : scaleOk (cn .f32 k) (cnC row) = false := by unfold scaleOk; rw [rowOk_cnC, h]; rfl
theorem scaleOk_row {k : Nat} {row gs : List Cel} (h : rowOk row = true) (hg : cnC gs = (cnC row).map (scale1 (cn .f32 k))) : scaleOk (cn .f32 k) (cnC row) = rowOk gs := by
  unfold scaleOk; rw [rowOk_cnC, h, Bool.true_and, ← hg, rowOk_cnC]
theorem scale_at {row : List Cel} {k i : Nat} (h : i < row.length) : ∃ h' : i < ((cnC row).map (scale1 (cn .f32 k))).length, ((cnC row).map (scale1 (cn .f32 k)))[i] = ⟨cn .f32 row[i].y, mul32 (cn .f32 row[i].re) (cn .f32 k), mul32 (cn .f32 row[i].im) (cn .f32 k)⟩ :=
  ⟨by simpa using h, by simp [scale1]⟩
theorem snoc_cel {w : World} {base : Nat} {v : Value} {k y re im : Nat} {gs : List Cel} {E : TypeId} (h : w.ownsRow base E 2 v (k + 1) (ccells gs ++ #[Value.float .f32 y, Value.complex .f32 re im].toList)) : w.ownsRow base E 2 v (k + 1) (ccells (gs ++ [⟨y, re, im⟩])) := by
  simpa [snoc2] using h
def scaleR (k : Nat) (row : List Cel) : List Cel := if scaleOk k row = true then row.map (scale1 k) else []
theorem scaleR_len {k : Nat} {row gs : List Cel} (h : cnC gs = scaleR k row) : gs.length ≤ 64 := by
  rw [cnC_len h]
  unfold scaleR
  split
  · rename_i h
    simp only [scaleOk, Bool.and_eq_true] at h
    exact (rowOk_len h.2).2
  · simp
end Go.Fx
namespace Go.Proofs.YtiddaabodkglmaaGreat
open Go.RowKit Go.Fx
set_option linter.unusedVariables false
set_option linter.unusedSimpArgs false
@[go_sem] theorem eql_nil_cell (w : World) (a : Option Addr) (n c : Nat) : (binOp .eql 54 (.slice a n c) (.slice none 0 0)).run Tryz.prog w = .ok (.bool a.isNone) w := Lib.run_eql_slice_nil w _ _ a n c 0 0 Tryz.underlying54
set_option maxRecDepth 100000 in
theorem cloneC_any (A : Option Addr) (c : Nat) (row : List Cel) (w : World) (h : Rd w A (ccells row)) (hA : A = none → row.length = 0) (hn : row.length ≤ 1048576) :
    Calls Tryz.prog 65 #[.slice A row.length c] w fun e w' => (∃ v, e = .returned v ∧ OC w' w.heap.size v row) ∧ Ext w w' := by
  cases A with
  | none =>
    have h0 := List.eq_nil_of_length_eq_zero (hA rfl)
    subst h0
    go_enter Tryz.func65, Tryz.ntmps65
    go_wp2
    go_ret
    exact ⟨⟨_, rfl, World.ownsRow_nil _ _ _ _⟩, Ext.refl _⟩
  | some ad =>
    go_enter Tryz.func65, Tryz.ntmps65
    go_wp2_with (at_builtin; refine wpList_app rfl _ _ 54 rfl w.heap.size 83 _ 2 12 Tryz.underlying54 info_cell rfl (by omega) (.slice (some ⟨w.heap.size, 0, none⟩) 0 0) 0 [] rfl (own_new w _ _ 2 (Nat.le_refl _)) (some ad) row.length c (ccells row) rfl (h.ext (by (repeat (first | exact Below.refl _ _ | assumption | refine below_drewN ?_ _ | refine Below.drew ?_ | refine Below.alloc ?_ (by first | exact Nat.le_refl _ | (simp; done) | (simp; omega)) _ | refine Below.setCell ?_ (by first | exact Nat.le_refl _ | (simp; done) | (simp; omega)) _)))) (ccells_len row) (fun h => by cases h) oneCell_cc (by unfold maxLen; omega) (by omega) (by simp) ?_; intro v1 w1 hown hg hat)
    go_ret
    refine ⟨⟨_, rfl, by simpa using hown⟩, ext_grow (E := 83) (size := 2) (base := w.heap.size) (by (repeat (first | exact Below.refl _ _ | assumption | refine below_drewN ?_ _ | refine Below.drew ?_ | refine Below.alloc ?_ (by first | exact Nat.le_refl _ | (simp; done) | (simp; omega)) _ | refine Below.setCell ?_ (by first | exact Nat.le_refl _ | (simp; done) | (simp; omega)) _))) (own_new w _ _ 2 (Nat.le_refl _)) (Nat.le_refl _) hg⟩
set_option maxRecDepth 100000 in
theorem sRow_any (A : Option Addr) (c : Nat) (row : List Cel) (w : World) (h : Rd w A (ccells row)) (hA : A = none → row.length = 0) (hn : row.length ≤ 1048576) :
    Calls Tryz.prog 48 #[.slice A row.length c] w fun e w' => (∃ v, e = .returned v ∧ OC w' w.heap.size v row) ∧ Ext w w' := by
  go_enter Tryz.func48, Tryz.ntmps48
  go_wp2_with (at_builtin; refine wpList_app rfl _ _ 54 rfl w.heap.size 83 _ 2 12 Tryz.underlying54 info_cell rfl (by omega) (.slice (some ⟨w.heap.size, 0, none⟩) 0 0) 0 [] rfl (own_new w _ _ 2 (Nat.le_refl _)) A row.length c (ccells row) rfl (h.ext (by (repeat (first | exact Below.refl _ _ | assumption | refine below_drewN ?_ _ | refine Below.drew ?_ | refine Below.alloc ?_ (by first | exact Nat.le_refl _ | (simp; done) | (simp; omega)) _ | refine Below.setCell ?_ (by first | exact Nat.le_refl _ | (simp; done) | (simp; omega)) _)))) (ccells_len row) hA oneCell_cc (by unfold maxLen; omega) (by omega) (by simp) ?_; intro v1 w1 hown hg hat)
  go_ret
  refine ⟨⟨_, rfl, by simpa using hown⟩, ext_grow (E := 83) (size := 2) (base := w.heap.size) (by (repeat (first | exact Below.refl _ _ | assumption | refine below_drewN ?_ _ | refine Below.drew ?_ | refine Below.alloc ?_ (by first | exact Nat.le_refl _ | (simp; done) | (simp; omega)) _ | refine Below.setCell ?_ (by first | exact Nat.le_refl _ | (simp; done) | (simp; omega)) _))) (own_new w _ _ 2 (Nat.le_refl _)) (Nat.le_refl _) hg⟩
set_option maxRecDepth 100000 in
set_option maxHeartbeats 4000000 in
theorem iScaleRow_any (A : Option Addr) (c : Nat) (row : List Cel) (x : Nat) (w : World) (h : Rd w A (ccells row)) (hA : A = none → row.length = 0) (hn : row.length ≤ 1048576) :
    Calls Tryz.prog 90 #[.slice A row.length c, .float .f32 x] w fun e w' => (∃ v gs, e = .returned (.tuple #[v, .bool (scaleOk (cn .f32 x) (cnC row))]) ∧ OC w' w.heap.size v gs ∧ cnC gs = scaleR (cn .f32 x) (cnC row)) ∧ Ext w w' := by
  have H := Lib.hid h
  clear h
  have hm : row.length ≤ maxLen := by unfold maxLen; omega
  cases hok : rowOk row
  · have HN := Lib.hid (scaleOk_not (k := x) hok)
    go_enter Tryz.func90, Tryz.ntmps90
    go_wp2_with (go_at_call 91; refine (iRowOk_any _ _ _ _ H.out hm).mono ?_; rintro e w1 ⟨rfl, hb1⟩; rw [hok])
    go_ret2
    exact ⟨⟨_, [], by rw [HN.out]; rfl, World.ownsRow_nil _ _ _ _, by unfold scaleR; rw [HN.out]; rfl⟩, hb1⟩
  · have HO := Lib.hid hok
    have hrl := rowOk_len hok
    go_enter Tryz.func90, Tryz.ntmps90
    go_wp2_with (first | (go_at_call 91; refine (iRowOk_any _ _ _ _ H.out hm).mono ?_; rintro e w1 ⟨rfl, hb1⟩; rw [hok]) | (go_at_call 65; refine (cloneC_any _ _ _ _ (H.out.ext hb1) hA hn).mono ?_; rintro e w2 ⟨⟨v, rfl, ho⟩, hb2⟩; obtain ⟨A1, c1, rfl, -, -⟩ := own_slice ho; replace ho := own_base ho hb1.size))
    clear hok
    go_loopw [7, 8, 16] (fun j p i wr => ∃ (k : Nat) (xs : List Cel), k ≤ row.length ∧ xs.length = k ∧ i = .int .i64 k ∧ wr.ownsRow w.heap.size 83 2 (.slice A1 row.length c1) row.length (ccells (xs ++ row.drop k)) ∧ Hid (cnC xs = ((cnC row).map (scale1 (cn .f32 x))).take k) ∧ Ext w wr) (fun _ _ i _ => row.length - (intOf i).toNat)
    case atStart => exact ⟨0, [], by omega, rfl, rfl, by simpa using ho, Lib.hid (by simp), hb1.trans hb2⟩
    case round =>
      obtain ⟨k, xs, hk, hxl, rfl, hop, HX, hbr⟩ := hrel
      clear ho
      by_cases hlt : k < row.length
      · obtain ⟨b, off, rfl, hbw, hy, hcx⟩ := rc_at (H.out.ext hbr) hlt
        obtain ⟨g1, rfl, hg1, hs1⟩ := own_at hop (by omega)
        obtain ⟨hxa, exa⟩ := colour_at hxl hlt
        obtain ⟨p0, p1⟩ := cells2_at Go.Fx.c1 Go.Fx.c2 _ hxa
        rw [exa] at p0 p1
        have hp1 := own_cell hop p1
        have hfp := own_frozen hop (k * 2 + 1)
        obtain ⟨hSk, eSk⟩ := scale_at (k := x) hlt
        have STEP : Hid (∀ (W : World) (re im : Nat), Ext wr W → cn .f32 re = mul32 (cn .f32 row[k].re) (cn .f32 x) → cn .f32 im = mul32 (cn .f32 row[k].im) (cn .f32 x) →
            ∃ xs' : List Cel, xs'.length = k + 1 ∧ (W.setCell ⟨g1, k * 2 + 1, none⟩ (.complex .f32 re im)).ownsRow w.heap.size 83 2 (.slice (some ⟨g1, 0, none⟩) row.length c1) row.length (ccells (xs' ++ row.drop (k + 1))) ∧
              Hid (cnC xs' = ((cnC row).map (scale1 (cn .f32 x))).take (k + 1)) ∧ Ext w (W.setCell ⟨g1, k * 2 + 1, none⟩ (.complex .f32 re im))) := Lib.hid (by
          intro W re im hW hre him
          refine ⟨xs ++ [⟨row[k].y, re, im⟩], by simp [hxl], ?_, Lib.hid (cnC_snoc HX.out hSk (by rw [eSk]; simp only [Cel.cn, hre, him])), ?_⟩
          · rw [← set_colour hxl hlt]
            exact own_set (own_ext hop hW) _
          · exact Below.setCell (p := ⟨g1, k * 2 + 1, none⟩) (hbr.trans hW) hg1 _)
        clear p0 p1 exa hxa eSk hop
        go_wp2_with (with_reducible first | (refine upon_add ?_; intro b n hb) | (refine upon_sub ?_; intro b n hb) | (refine upon_mul ?_; intro b n hb) | (refine upon_quo ?_; intro b n hb))
        rename_i b1 n1 m1
        go_roundw
        case rel =>
          obtain ⟨xs', l1, o1, x1, bx⟩ := STEP.out ((wr.alloc (.cells #[.float .f32 row[k].y, .complex .f32 row[k].re row[k].im] 83)).drewN (n1 + n)) b1 b (by (repeat (first | exact Below.refl _ _ | assumption | refine below_drewN ?_ _ | refine Below.drew ?_ | refine Below.alloc ?_ (by first | exact Nat.le_refl _ | (simp; done) | (simp; omega)) _ | refine Below.setCell ?_ (by first | exact Nat.le_refl _ | (simp; done) | (simp; omega)) _))) m1 hb
          exact ⟨k + 1, xs', by omega, l1, by go_num, o1, x1, bx⟩
        case measure => simp [intOf]; omega
      · obtain rfl : k = row.length := by omega
        rw [List.drop_of_length_le (Nat.le_refl _), List.append_nil] at hop
        have hcn2 : cnC xs = (cnC row).map (scale1 (cn .f32 x)) := by rw [HX.out]; apply List.take_of_length_le; simp
        have HT := Lib.hid (scaleOk_row HO.out hcn2)
        have HC := Lib.hid hcn2
        clear hcn2
        have hlo := iRowOk_any A1 c1 xs wr (by have := (own_rd hop); exact this) (by unfold maxLen; omega)
        rw [hxl] at hlo
        cases hlg : rowOk xs
        · have HG := Lib.hid hlg
          go_wp2_with (go_at_call 91; refine hlo.mono ?_; rintro e w3 ⟨rfl, hb3⟩; rw [hlg])
          go_ret2
          exact ⟨⟨_, [], by rw [HT.out, HG.out]; rfl, World.ownsRow_nil _ _ _ _, by unfold scaleR; rw [HT.out, HG.out]; rfl⟩, hbr.trans hb3⟩
        · have HG := Lib.hid hlg
          go_wp2_with (go_at_call 91; refine hlo.mono ?_; rintro e w3 ⟨rfl, hb3⟩; rw [hlg])
          go_ret2
          refine ⟨⟨.slice A1 row.length c1, xs, by rw [HT.out, HG.out]; rfl, ?_, by unfold scaleR; rw [HT.out, HG.out, HC.out]; rfl⟩, hbr.trans hb3⟩
          unfold OC
          rw [hxl]
          exact own_ext hop hb3
set_option maxRecDepth 100000 in
set_option maxHeartbeats 4000000 in
theorem sScaleRow_any (A : Option Addr) (c : Nat) (row : List Cel) (x : Nat) (w : World) (h : Rd w A (ccells row)) (hA : A = none → row.length = 0) (hn : row.length ≤ 1048576) :
    Calls Tryz.prog 96 #[.slice A row.length c, .float .f32 x] w fun e w' => (∃ v gs, e = .returned (.tuple #[v, .bool (scaleOk (cn .f32 x) (cnC row))]) ∧ OC w' w.heap.size v gs ∧ cnC gs = scaleR (cn .f32 x) (cnC row)) ∧ Ext w w' := by
  have H := Lib.hid h
  clear h
  have hm : row.length ≤ maxLen := by unfold maxLen; omega
  have ha : Ext w (w.alloc (.cells #[] 83)) := (Ext.refl _).alloc _
  have hnew := own_new w w.heap.size 83 2 (Nat.le_refl _)
  cases hok : rowOk row
  · have HN := Lib.hid (scaleOk_not (k := x) hok)
    go_enter Tryz.func96, Tryz.ntmps96
    go_wp2_with (go_at_call 79; refine (sRowOk_any _ _ _ _ (H.out.ext ha) hm).mono ?_; rintro e w1 ⟨rfl, hb1⟩; rw [hok])
    go_ret2
    exact ⟨⟨_, [], by rw [HN.out]; rfl, own_ext hnew hb1, by unfold scaleR; rw [HN.out]; rfl⟩, ha.trans hb1⟩
  · have HO := Lib.hid hok
    have hrl := rowOk_len hok
    go_enter Tryz.func96, Tryz.ntmps96
    go_wp2_with (first | (go_at_call 79; refine (sRowOk_any _ _ _ _ (H.out.ext ha) hm).mono ?_; rintro e w1 ⟨rfl, hb1⟩; rw [hok]; replace hnew := own_ext hnew hb1; replace ha := ha.trans hb1))
    clear hok
    go_loopw [6, 7, 8] (fun v i z wr => ∃ (k : Nat) (xs : List Cel), k ≤ row.length ∧ xs.length = k ∧ i = .int .i64 k ∧ wr.ownsRow w.heap.size 83 2 v k (ccells xs) ∧ Hid (cnC xs = ((cnC row).map (scale1 (cn .f32 x))).take k) ∧ Ext w wr) (fun _ i _ _ => row.length - (intOf i).toNat)
    case atStart => exact ⟨0, [], by omega, rfl, rfl, hnew, Lib.hid (by simp), ha⟩
    case round =>
      obtain ⟨k, xs, hk, hxl, rfl, hop, HX, hbr⟩ := hrel
      clear hnew ha
      obtain ⟨A1, c1, rfl, -, -⟩ := own_slice hop
      by_cases hlt : k < row.length
      · obtain ⟨b, off, rfl, hbw, hy, hcx⟩ := rc_at (H.out.ext hbr) hlt
        obtain ⟨hSk, eSk⟩ := scale_at (k := x) hlt
        have ES := Lib.hid eSk
        clear eSk
        have hmul : ∀ W y, (binOp .mul 22 (.float .f32 y) (.float .f32 x)).run Tryz.prog W = .ok (.float .f32 (fbits W .mul .f32 y x)) (W.drewN (fcnt .mul .f32 y x)) := fun W y => run_fop W .mul (by simp) _ _ _ _
        go_wp2_with fail
        go_region_law (fail)
        all_goals go_wp2_with (at_builtin; refine wpList_app rfl _ _ 54 rfl w.heap.size 83 _ 2 12 Tryz.underlying54 info_cell rfl (by omega) (.slice A1 k c1) k (ccells xs) rfl (own_ext hop (by (repeat (first | exact Below.refl _ _ | assumption | refine below_drewN ?_ _ | refine Below.drew ?_ | refine Below.alloc ?_ (by first | exact Nat.le_refl _ | (simp; done) | (simp; omega)) _ | refine Below.setCell ?_ (by first | exact Nat.le_refl _ | (simp; done) | (simp; omega)) _)))) _ 1 1 _ rfl (rd_new _ _ _ _) rfl (fun h => by cases h) (by intro u hu; simp at hu; rcases hu with rfl | rfl <;> rfl) (by unfold maxLen; omega) (by omega) (by have := hbr.size; simp; omega) ?_; intro v1 w2 hown hg hat)
        all_goals go_roundw
        all_goals first | (simp [intOf]; done) | (simp [intOf]; omega) | skip
        all_goals exact ⟨k + 1, xs ++ [⟨_, _, _⟩], by omega, by simp [hxl], by go_num, snoc_cel hown, Lib.hid (cnC_snoc HX.out hSk (by rw [ES.out]; simp only [Cel.cn, cn_fbits])), ext_grow (base := w.heap.size) (hbr.trans (by (repeat (first | exact Below.refl _ _ | assumption | refine below_drewN ?_ _ | refine Below.drew ?_ | refine Below.alloc ?_ (by first | exact Nat.le_refl _ | (simp; done) | (simp; omega)) _ | refine Below.setCell ?_ (by first | exact Nat.le_refl _ | (simp; done) | (simp; omega)) _)))) (own_ext hop (by (repeat (first | exact Below.refl _ _ | assumption | refine below_drewN ?_ _ | refine Below.drew ?_ | refine Below.alloc ?_ (by first | exact Nat.le_refl _ | (simp; done) | (simp; omega)) _ | refine Below.setCell ?_ (by first | exact Nat.le_refl _ | (simp; done) | (simp; omega)) _)))) (Nat.le_refl _) hg⟩
      · obtain rfl : k = row.length := by omega
        have hcn2 : cnC xs = (cnC row).map (scale1 (cn .f32 x)) := by rw [HX.out]; apply List.take_of_length_le; simp
        have HT := Lib.hid (scaleOk_row HO.out hcn2)
        have HC := Lib.hid hcn2
        clear hcn2
        have hlo := sRowOk_any A1 c1 xs wr (by have := (own_rd hop); exact this) (by unfold maxLen; omega)
        rw [hxl] at hlo
        cases hlg : rowOk xs
        · have HG := Lib.hid hlg
          go_wp2_with (go_at_call 79; refine hlo.mono ?_; rintro e w3 ⟨rfl, hb3⟩; rw [hlg])
          go_ret2
          exact ⟨⟨_, [], by rw [HT.out, HG.out]; rfl, own_new w3 _ _ 2 (Nat.le_trans hbr.size hb3.size), by unfold scaleR; rw [HT.out, HG.out]; rfl⟩, (hbr.trans hb3).alloc _⟩
        · have HG := Lib.hid hlg
          go_wp2_with (go_at_call 79; refine hlo.mono ?_; rintro e w3 ⟨rfl, hb3⟩; rw [hlg])
          go_ret2
          refine ⟨⟨.slice A1 row.length c1, xs, by rw [HT.out, HG.out]; rfl, ?_, by unfold scaleR; rw [HT.out, HG.out, HC.out]; rfl⟩, hbr.trans hb3⟩
          unfold OC
          rw [hxl]
          exact own_ext hop hb3
end Go.Proofs.YtiddaabodkglmaaGreat
end
section
namespace Go.Fx
open Go.RowKit
set_option linter.unusedSimpArgs false
theorem c1_0 : cn .f32 1065353216 = 1065353216 := by decide +kernel
theorem satOk_no {k i : Nat} {rss : List (List Cel)} (h : i < rss.length) (hs : scaleOk k (cnC rss[i]) = false) : satOk k (rss.map cnC) = false :=
  all_not (scaleOk k) (l := rss.map cnC) (k := i) (by simpa using h) (by simpa using hs)
theorem sat_no {k : Nat} {X : List (List Cel)} (h : satOk k X = false) : sat k X = [] := by unfold sat; rw [h]; rfl
theorem sat_yes {k : Nat} {X : List (List Cel)} (h : satOk k X = true) : sat k X = X.map (fun r => r.map (scale1 k)) := by unfold sat; rw [h]; rfl
theorem sat_step {k i : Nat} {rss : List (List Cel)} (h : i < rss.length) (ha : ((rss.map cnC).take i).all (scaleOk k) = true) (hs : scaleOk k (cnC rss[i]) = true) : ((rss.map cnC).take (i + 1)).all (scaleOk k) = true :=
  all_take_step (scaleOk k) (l := rss.map cnC) (k := i) (by simpa using h) ha (by simpa using hs)
theorem sat_snoc {k i : Nat} {rss out : List (List Cel)} {gs : List Cel} (h : i < rss.length) (ho : out.map cnC = ((rss.map cnC).take i).map (fun r => r.map (scale1 k))) (hs : scaleOk k (cnC rss[i]) = true) (hg : cnC gs = scaleR k (cnC rss[i])) : (out ++ [gs]).map cnC = ((rss.map cnC).take (i + 1)).map (fun r => r.map (scale1 k)) := by
  have hg2 : cnC gs = (cnC rss[i]).map (scale1 k) := by rw [hg]; unfold scaleR; rw [hs]; rfl
  rw [take_snoc (by simpa using h), List.map_append, List.map_append, ho]
  congr 1
  simp only [List.map_cons, List.map_nil, List.getElem_map, hg2]
theorem rowsC_snoc (rss : List (List Cel)) (r : List Cel) : rowsC rss ++ [(r.length, ccells r)] = rowsC (rss ++ [r]) := by simp
theorem grey_cn (r : List Cel) : cnC (r.map grey1) = (cnC r).map grey1 := by
  have h0 : cn .f32 0 = 0 := by decide +kernel
  simp [grey1, Cel.cn, h0]
theorem grey_all (rss : List (List Cel)) : (rss.map (fun r => r.map grey1)).map cnC = (rss.map cnC).map (fun r => r.map grey1) := by
  simp only [List.map_map]
  congr 1
  funext r
  exact grey_cn r
end Go.Fx
namespace Go.Proofs.YtiddaabodkglmaaGreat
open Go.RowKit Go.Fx
set_option linter.unusedVariables false
set_option linter.unusedSimpArgs false
theorem info_sc : (Tryz.prog.info? 54).map (fun i => (i.zero, i.size, i.bytes)) = some (some (.slice none 0 0), 1, 24) := by kernel_rfl
set_option maxRecDepth 100000 in
set_option maxHeartbeats 4000000 in
theorem iSaturate_any (A : Option Addr) (c : Nat) (us : List Value) (rss : List (List Cel)) (x : Nat) (w : World) (h : RdRows w A us (rowsC rss)) (hn : rss.length ≤ 1048576) (he : ∀ r ∈ rss, r.length ≤ 64) :
    Calls Tryz.prog 64 #[.slice A rss.length c, .float .f32 x] w fun e w' => (∃ v us' out, e = .returned (.tuple #[v, .bool (satOk (cn .f32 x) (rss.map cnC))]) ∧ OCC w' w.heap.size v us' out ∧ out.map cnC = sat (cn .f32 x) (rss.map cnC)) ∧ Ext w w' := by
  have H := Lib.hid h
  have HE := Lib.hid he
  clear h he
  go_enter Tryz.func64, Tryz.ntmps64
  go_wp2
  go_loopw [6, 8, 9, 10, 13] (fun v z1 z2 z3 i wr => ∃ (k : Nat) (us' : List Value) (out : List (List Cel)), k ≤ rss.length ∧ i = .int .i64 k ∧ Hid (OCC wr w.heap.size v us' out) ∧ Hid (out.map cnC = ((rss.map cnC).take k).map (fun r => r.map (scale1 (cn .f32 x)))) ∧ Hid (((rss.map cnC).take k).all (scaleOk (cn .f32 x)) = true) ∧ Ext w wr) (fun _ _ _ _ i _ => rss.length - (intOf i).toNat)
  case atStart => exact ⟨0, [], [], by omega, rfl, Lib.hid (Rows2.nil _ _ _ _ _), Lib.hid (by simp), Lib.hid (by simp), Ext.refl _⟩
  case round =>
    obtain ⟨k, us', out, hk, rfl, ho, HG, HA, hbr⟩ := hrel
    by_cases hlt : k < rss.length
    · obtain ⟨b, off, B, d, rfl, hbw, -, hcell, hrow, hnil, -⟩ := (H.out.ext hbr).atC hlt
      have hlr := HE.out _ (List.getElem_mem hlt)
      have hsc := iScaleRow_any B d rss[k] x wr hrow hnil (by omega)
      obtain ⟨A2, c2, rfl, hou⟩ := ho.out.form
      have hul : us'.length = k := by
        have h1 := ho.out.len
        have h2 := congrArg List.length HG.out
        simp at h1 h2
        omega
      rw [hul] at hou
      have hof : Hid (OCC wr w.heap.size (.slice A2 k c2) us' out) := Lib.hid (by rw [← hul]; exact ho.out)
      cases hs : scaleOk (cn .f32 x) (cnC rss[k])
      · have HN := Lib.hid (satOk_no hlt hs)
        rw [hs] at hsc
        generalize rss[k] = row at *
        go_wp2_with (go_at_call 90; refine Calls.mono hsc ?_; rintro e w1 ⟨⟨v1, gs, rfl, ho1, hg1⟩, hb1⟩)
        go_ret2
        exact ⟨⟨_, [], [], by rw [HN.out]; rfl, Rows2.nil _ _ _ _ _, by rw [sat_no HN.out]; rfl⟩, hbr.trans hb1⟩
      · have HA2 := Lib.hid (sat_step hlt HA.out hs)
        have HG2 : Hid (∀ gs, cnC gs = scaleR (cn .f32 x) (cnC rss[k]) → (out ++ [gs]).map cnC = ((rss.map cnC).take (k + 1)).map (fun r => r.map (scale1 (cn .f32 x)))) := Lib.hid (fun gs hg => sat_snoc hlt HG.out hs hg)
        rw [hs] at hsc
        generalize rss[k] = row at *
        go_wp2_with (first | (go_at_call 90; refine Calls.mono hsc ?_; rintro e w1 ⟨⟨v1, gs, rfl, ho1, hg1⟩, hb1⟩; have hnew := fun b hb => (ho1.lt b hb).1; unfold OC at ho1; generalize hgn : gs.length = n1 at ho1; obtain ⟨A3, c3, rfl, -, -⟩ := own_slice ho1) | (at_builtin; refine wpList_app rfl _ _ 28 rfl w.heap.size 54 _ 1 24 Tryz.underlying28 info_sc rfl (by omega) (.slice A2 k c2) k us' rfl (own_ext (own_ext hou hb1) ((Ext.refl _).alloc _)) _ 1 1 _ rfl (rd_new _ _ _ _) rfl (fun h => by cases h) (by intro u hu; simp at hu; rcases hu with rfl; rfl) (by unfold maxLen; omega) (by omega) (by have := hbr.size; have := hb1.size; simp; omega) ?_; intro v2 w3 hown hg hat))
        go_roundw
        case rel =>
          have hR : Hid (OCC w3 w.heap.size v2 (us' ++ [.slice A3 n1 c3]) (out ++ [gs])) := Lib.hid (by
            unfold OCC
            rw [← rowsC_snoc, hgn]
            exact ((hof.out.ext hb1).ext ((Ext.refl _).alloc _)).snoc (by rw [hul]; exact hown) (own_base (own_ext ho1 ((Ext.refl _).alloc _)) hbr.size) hg hat (Nat.le_refl _) hof.out.inR hnew)
          exact ⟨k + 1, _, out ++ [gs], by omega, by go_num, hR, Lib.hid (HG2.out gs hg1), HA2, ext_grow (base := w.heap.size) ((hbr.trans hb1).alloc _) (own_ext (own_ext hou hb1) ((Ext.refl _).alloc _)) (Nat.le_refl _) hg⟩
        case measure => simp [intOf]; omega
    · go_wp2
      go_ret2
      obtain rfl : k = rss.length := by omega
      have e1 : ((rss.map cnC).take rss.length) = rss.map cnC := List.take_of_length_le (by simp)
      have h1 := HG.out
      have h2 := HA.out
      rw [e1] at h1 h2
      have h3 : satOk (cn .f32 x) (rss.map cnC) = true := h2
      exact ⟨⟨_, us', out, by rw [h3]; rfl, ho.out, by rw [sat_yes h3]; exact h1⟩, hbr⟩
set_option maxRecDepth 100000 in
set_option maxHeartbeats 4000000 in
theorem sScaled_any (A : Option Addr) (c : Nat) (us : List Value) (rss : List (List Cel)) (x : Nat) (w : World) (h : RdRows w A us (rowsC rss)) (hn : rss.length ≤ 1048576) (he : ∀ r ∈ rss, r.length ≤ 64) :
    Calls Tryz.prog 78 #[.slice A rss.length c, .float .f32 x] w fun e w' => (∃ v us' out, e = .returned (.tuple #[v, .bool (satOk (cn .f32 x) (rss.map cnC))]) ∧ OCC w' w.heap.size v us' out ∧ out.map cnC = sat (cn .f32 x) (rss.map cnC)) ∧ Ext w w' := by
  have H := Lib.hid h
  have HE := Lib.hid he
  clear h he
  have ha : Ext w (w.alloc (.cells #[] 54)) := (Ext.refl _).alloc _
  have hnew0 := Rows2.new w w.heap.size 54 83 2 (Nat.le_refl _)
  go_enter Tryz.func78, Tryz.ntmps78
  go_wp2
  go_loopw [6, 7, 8, 9] (fun v i z1 z2 wr => ∃ (k : Nat) (us' : List Value) (out : List (List Cel)), k ≤ rss.length ∧ i = .int .i64 k ∧ Hid (OCC wr w.heap.size v us' out) ∧ Hid (out.map cnC = ((rss.map cnC).take k).map (fun r => r.map (scale1 (cn .f32 x)))) ∧ Hid (((rss.map cnC).take k).all (scaleOk (cn .f32 x)) = true) ∧ Ext w wr) (fun _ i _ _ _ => rss.length - (intOf i).toNat)
  case atStart => exact ⟨0, [], [], by omega, rfl, Lib.hid hnew0, Lib.hid (by simp), Lib.hid (by simp), ha⟩
  case round =>
    obtain ⟨k, us', out, hk, rfl, ho, HG, HA, hbr⟩ := hrel
    clear hnew0 ha
    by_cases hlt : k < rss.length
    · obtain ⟨b, off, B, d, rfl, hbw, -, hcell, hrow, hnil, -⟩ := (H.out.ext hbr).atC hlt
      have hlr := HE.out _ (List.getElem_mem hlt)
      have hsc := sScaleRow_any B d rss[k] x wr hrow hnil (by omega)
      obtain ⟨A2, c2, rfl, hou⟩ := ho.out.form
      have hul : us'.length = k := by
        have h1 := ho.out.len
        have h2 := congrArg List.length HG.out
        simp at h1 h2
        omega
      rw [hul] at hou
      have hof : Hid (OCC wr w.heap.size (.slice A2 k c2) us' out) := Lib.hid (by rw [← hul]; exact ho.out)
      cases hs : scaleOk (cn .f32 x) (cnC rss[k])
      · have HN := Lib.hid (satOk_no hlt hs)
        rw [hs] at hsc
        generalize rss[k] = row at *
        go_wp2_with (go_at_call 96; refine Calls.mono hsc ?_; rintro e w1 ⟨⟨v1, gs, rfl, ho1, hg1⟩, hb1⟩)
        go_ret2
        exact ⟨⟨_, [], [], by rw [HN.out]; rfl, Rows2.new w1 _ _ _ _ (hbr.trans hb1).size, by rw [sat_no HN.out]; rfl⟩, (hbr.trans hb1).alloc _⟩
      · have HA2 := Lib.hid (sat_step hlt HA.out hs)
        have HG2 : Hid (∀ gs, cnC gs = scaleR (cn .f32 x) (cnC rss[k]) → (out ++ [gs]).map cnC = ((rss.map cnC).take (k + 1)).map (fun r => r.map (scale1 (cn .f32 x)))) := Lib.hid (fun gs hg => sat_snoc hlt HG.out hs hg)
        rw [hs] at hsc
        generalize rss[k] = row at *
        go_wp2_with (first | (go_at_call 96; refine Calls.mono hsc ?_; rintro e w1 ⟨⟨v1, gs, rfl, ho1, hg1⟩, hb1⟩; have hnew := fun b hb => (ho1.lt b hb).1; unfold OC at ho1; generalize hgn : gs.length = n1 at ho1; obtain ⟨A3, c3, rfl, -, -⟩ := own_slice ho1) | (at_builtin; refine wpList_app rfl _ _ 28 rfl w.heap.size 54 _ 1 24 Tryz.underlying28 info_sc rfl (by omega) (.slice A2 k c2) k us' rfl (own_ext (own_ext hou hb1) ((Ext.refl _).alloc _)) _ 1 1 _ rfl (rd_new _ _ _ _) rfl (fun h => by cases h) (by intro u hu; simp at hu; rcases hu with rfl; rfl) (by unfold maxLen; omega) (by omega) (by have := hbr.size; have := hb1.size; simp; omega) ?_; intro v2 w3 hown hg hat))
        go_roundw
        case rel =>
          have hR : Hid (OCC w3 w.heap.size v2 (us' ++ [.slice A3 n1 c3]) (out ++ [gs])) := Lib.hid (by
            unfold OCC
            rw [← rowsC_snoc, hgn]
            exact ((hof.out.ext hb1).ext ((Ext.refl _).alloc _)).snoc (by rw [hul]; exact hown) (own_base (own_ext ho1 ((Ext.refl _).alloc _)) hbr.size) hg hat (Nat.le_refl _) hof.out.inR hnew)
          exact ⟨k + 1, _, out ++ [gs], by omega, by go_num, hR, Lib.hid (HG2.out gs hg1), HA2, ext_grow (base := w.heap.size) ((hbr.trans hb1).alloc _) (own_ext (own_ext hou hb1) ((Ext.refl _).alloc _)) (Nat.le_refl _) hg⟩
        case measure => simp [intOf]; omega
    · go_wp2
      go_ret2
      obtain rfl : k = rss.length := by omega
      have e1 : ((rss.map cnC).take rss.length) = rss.map cnC := List.take_of_length_le (by simp)
      have h1 := HG.out
      have h2 := HA.out
      rw [e1] at h1 h2
      have h3 : satOk (cn .f32 x) (rss.map cnC) = true := h2
      exact ⟨⟨_, us', out, by rw [h3]; rfl, ho.out, by rw [sat_yes h3]; exact h1⟩, hbr⟩
set_option maxRecDepth 100000 in
theorem sSaturate_any (A : Option Addr) (c : Nat) (us : List Value) (rss : List (List Cel)) (x : Nat) (w : World) (h : RdRows w A us (rowsC rss)) (hn : rss.length ≤ 1048576) (he : ∀ r ∈ rss, r.length ≤ 64) :
    Calls Tryz.prog 47 #[.slice A rss.length c, .float .f32 x] w fun e w' => (∃ v us' out, e = .returned (.tuple #[v, .bool (satOk (cn .f32 x) (rss.map cnC))]) ∧ OCC w' w.heap.size v us' out ∧ out.map cnC = sat (cn .f32 x) (rss.map cnC)) ∧ Ext w w' := by
  have HS := Lib.hid (sScaled_any A c us rss x w h hn he)
  clear h he
  go_enter Tryz.func47, Tryz.ntmps47
  go_wp2_with fail
  refine HS.out.mono ?_
  rintro e w1 ⟨⟨v, us', out, rfl, ho, hg⟩, hb⟩
  go_wp2_with fail
  go_ret2
  exact ⟨⟨v, us', out, rfl, ho, hg⟩, hb⟩
set_option maxRecDepth 100000 in
theorem iToSize_any (A : Option Addr) (c : Nat) (us : List Value) (rss : List (List Cel)) (re im : Nat) (w : World) (h : RdRows w A us (rowsC rss)) (hn : rss.length ≤ 1048576) (he : ∀ r ∈ rss, r.length ≤ 64) :
    Calls Tryz.prog 63 #[.slice A rss.length c, .complex .f32 re im] w fun e w' => (∃ v us' out, e = .returned (.tuple #[v, .bool (sizeOk (cn .f32 re) (rss.map cnC))]) ∧ OCC w' w.heap.size v us' out ∧ out.map cnC = size (cn .f32 re) (rss.map cnC)) ∧ Ext w w' := by
  have H := Lib.hid h
  have HE := Lib.hid he
  clear h he
  cases hz : feq .f32 re 0
  · have HS : Hid (∀ b, cn .f32 b = quo32 1065353216 (cn .f32 re) → sizeOk (cn .f32 re) (rss.map cnC) = satOk (cn .f32 b) (rss.map cnC) ∧ size (cn .f32 re) (rss.map cnC) = sat (cn .f32 b) (rss.map cnC)) := Lib.hid (fun b hb => by
      unfold sizeOk size
      rw [feq_cn_l, hz, hb]
      exact ⟨rfl, rfl⟩)
    go_enter Tryz.func63, Tryz.ntmps63
    go_wp2_with (with_reducible first | (refine upon_add ?_; intro b n hb) | (refine upon_sub ?_; intro b n hb) | (refine upon_mul ?_; intro b n hb) | (refine upon_quo ?_; intro b n hb))
    rw [c1_0] at hb
    have HB := Lib.hid (HS.out b hb)
    clear hb
    refine (iSaturate_any A c us rss b _ (H.out.ext (Ext.drewN _ _)) hn HE.out).mono ?_
    rintro e w1 ⟨⟨v, us', out, rfl, ho, hg⟩, hb⟩
    go_wp2_with fail
    go_ret2
    exact ⟨⟨v, us', out, by rw [HB.out.1]; rfl, ho, by rw [HB.out.2]; exact hg⟩, (Ext.drewN _ _).trans hb⟩
  · have HS : Hid (sizeOk (cn .f32 re) (rss.map cnC) = false ∧ size (cn .f32 re) (rss.map cnC) = []) := Lib.hid (by
      unfold sizeOk size
      rw [feq_cn_l, hz]
      exact ⟨rfl, rfl⟩)
    go_enter Tryz.func63, Tryz.ntmps63
    go_wp2_with (with_reducible first | (refine upon_add ?_; intro b n hb) | (refine upon_sub ?_; intro b n hb) | (refine upon_mul ?_; intro b n hb) | (refine upon_quo ?_; intro b n hb))
    go_ret2
    exact ⟨⟨_, [], [], by rw [HS.out.1]; rfl, Rows2.nil _ _ _ _ _, by rw [HS.out.2]; rfl⟩, Ext.refl _⟩
set_option maxRecDepth 100000 in
theorem sToSize_any (A : Option Addr) (c : Nat) (us : List Value) (rss : List (List Cel)) (re im : Nat) (w : World) (h : RdRows w A us (rowsC rss)) (hn : rss.length ≤ 1048576) (he : ∀ r ∈ rss, r.length ≤ 64) :
    Calls Tryz.prog 46 #[.slice A rss.length c, .complex .f32 re im] w fun e w' => (∃ v us' out, e = .returned (.tuple #[v, .bool (sizeOk (cn .f32 re) (rss.map cnC))]) ∧ OCC w' w.heap.size v us' out ∧ out.map cnC = size (cn .f32 re) (rss.map cnC)) ∧ Ext w w' := by
  have H := Lib.hid h
  have HE := Lib.hid he
  clear h he
  cases hz : feq .f32 re 0
  · have HS : Hid (∀ b, cn .f32 b = quo32 1065353216 (cn .f32 re) → sizeOk (cn .f32 re) (rss.map cnC) = satOk (cn .f32 b) (rss.map cnC) ∧ size (cn .f32 re) (rss.map cnC) = sat (cn .f32 b) (rss.map cnC)) := Lib.hid (fun b hb => by
      unfold sizeOk size
      rw [feq_cn_l, hz, hb]
      exact ⟨rfl, rfl⟩)
    go_enter Tryz.func46, Tryz.ntmps46
    go_wp2_with (with_reducible first | (refine upon_add ?_; intro b n hb) | (refine upon_sub ?_; intro b n hb) | (refine upon_mul ?_; intro b n hb) | (refine upon_quo ?_; intro b n hb))
    rw [c1_0] at hb
    have HB := Lib.hid (HS.out b hb)
    clear hb
    refine (sScaled_any A c us rss b _ (H.out.ext (Ext.drewN _ _)) hn HE.out).mono ?_
    rintro e w1 ⟨⟨v, us', out, rfl, ho, hg⟩, hb⟩
    go_wp2_with fail
    go_ret2
    exact ⟨⟨v, us', out, by rw [HB.out.1]; rfl, ho, by rw [HB.out.2]; exact hg⟩, (Ext.drewN _ _).trans hb⟩
  · have HS : Hid (sizeOk (cn .f32 re) (rss.map cnC) = false ∧ size (cn .f32 re) (rss.map cnC) = []) := Lib.hid (by
      unfold sizeOk size
      rw [feq_cn_l, hz]
      exact ⟨rfl, rfl⟩)
    go_enter Tryz.func46, Tryz.ntmps46
    go_wp2_with (with_reducible first | (refine upon_add ?_; intro b n hb) | (refine upon_sub ?_; intro b n hb) | (refine upon_mul ?_; intro b n hb) | (refine upon_quo ?_; intro b n hb))
    go_ret2
    exact ⟨⟨_, [], [], by rw [HS.out.1]; rfl, Rows2.new w _ _ _ _ (Nat.le_refl _), by rw [HS.out.2]; rfl⟩, (Ext.refl _).alloc _⟩
end Go.Proofs.YtiddaabodkglmaaGreat
end
section
namespace Go.Fx
open Go.RowKit
set_option linter.unusedSimpArgs false
theorem grey_next {row : List Cel} {j : Nat} (h : j < row.length) : (ccells ((row.take j).map grey1 ++ row.drop j)).set (j * 2 + 1) (.complex .f32 0 0) = ccells ((row.take (j + 1)).map grey1 ++ row.drop (j + 1)) := by
  have hl : ((row.take j).map grey1).length = j := by simp; omega
  rw [set_colour hl h, take_snoc h, List.map_append]
  rfl
theorem grey_here {row : List Cel} {j : Nat} (h : j < row.length) : (ccells ((row.take j).map grey1 ++ row.drop j)).length = row.length * 2 ∧ j * 2 + 1 < (ccells ((row.take j).map grey1 ++ row.drop j)).length := by
  have : (ccells ((row.take j).map grey1 ++ row.drop j)).length = row.length * 2 := by
    rw [ccells_len]; simp; omega
  omega
theorem rowsC_snoc' (rss : List (List Cel)) (r : List Cel) : rowsC rss ++ [(r.length, ccells r)] = rowsC (rss ++ [r]) := by simp
end Go.Fx
namespace Go.Proofs.YtiddaabodkglmaaGreat
open Go.RowKit Go.Fx
set_option linter.unusedVariables false
set_option linter.unusedSimpArgs false
set_option maxRecDepth 100000 in
set_option maxHeartbeats 4000000 in
theorem iGreyed_any (A : Option Addr) (c : Nat) (us : List Value) (rss : List (List Cel)) (w : World) (h : RdRows w A us (rowsC rss)) (hn : rss.length ≤ 1048576) (he : ∀ r ∈ rss, r.length ≤ 64) :
    Calls Tryz.prog 61 #[.slice A rss.length c] w fun e w' => (∃ v us', e = .returned v ∧ OCC w' w.heap.size v us' (rss.map (fun r => r.map grey1))) ∧ Ext w w' := by
  have H := Lib.hid h
  have HE := Lib.hid he
  clear h he
  go_enter Tryz.func61, Tryz.ntmps61
  go_wp2
  go_loopw [3, 9] (fun v i wr => ∃ (k : Nat) (us' : List Value), k ≤ rss.length ∧ i = .int .i64 k ∧ Hid (OCC wr w.heap.size v us' ((rss.take k).map (fun r => r.map grey1))) ∧ Ext w wr) (fun _ i _ => rss.length - (intOf i).toNat)
  case atStart => exact ⟨0, [], by omega, rfl, Lib.hid (Rows2.nil _ _ _ _ _), Ext.refl _⟩
  case round =>
    rename World => wo
    obtain ⟨k, us', hk, rfl, ho, hbr⟩ := hrel
    by_cases hlt : k < rss.length
    · obtain ⟨b, off, B, d, rfl, hbw, -, hcell, hrow, hnil, -⟩ := (H.out.ext hbr).atC hlt
      have hlr := HE.out _ (List.getElem_mem hlt)
      obtain ⟨A2, c2, rfl, hou⟩ := ho.out.form
      have hul : us'.length = k := by
        have h1 := ho.out.len
        simp at h1
        omega
      rw [hul] at hou
      have hof : Hid (OCC wo w.heap.size (.slice A2 k c2) us' ((rss.take k).map (fun r => r.map grey1))) := Lib.hid (by have := ho.out; rw [hul] at this; exact this)
      have HT : Hid ((rss.take (k + 1)).map (fun r => r.map grey1) = (rss.take k).map (fun r => r.map grey1) ++ [rss[k].map grey1]) := Lib.hid (by rw [take_snoc hlt, List.map_append]; rfl)
      generalize rss[k] = row at *
      go_wp2_with (go_at_call 65; refine (cloneC_any B d row _ hrow hnil (by omega)).mono ?_; rintro e w1 ⟨⟨v1, rfl, ho1⟩, hb1⟩; have hnew := fun b hb => (ho1.lt b hb).1; unfold OC at ho1; obtain ⟨A3, c3, rfl, -, -⟩ := own_slice ho1)
      go_loopw [17] (fun i wr => ∃ (j : Nat), j ≤ row.length ∧ i = .int .i64 j ∧ wr.ownsRow wo.heap.size 83 2 (.slice A3 row.length c3) row.length (ccells ((row.take j).map grey1 ++ row.drop j)) ∧ Ext wo wr) (fun i _ => row.length - (intOf i).toNat)
      case atStart => exact ⟨0, by omega, rfl, by simpa using ho1, hb1⟩
      case round =>
        obtain ⟨j, hj, rfl, hoj, hbj⟩ := hrel
        clear ho1
        by_cases hlj : j < row.length
        · obtain ⟨g1, rfl, hg1, hs1⟩ := own_at hoj (by omega)
          have hfp := own_frozen hoj (j * 2 + 1)
          obtain ⟨u1, hu1⟩ : ∃ u, wr.cell? ⟨g1, j * 2 + 1, none⟩ = some u := ⟨_, own_cell hoj (List.getElem?_eq_getElem (grey_here hlj).2)⟩
          have hnext : Hid ((wr.setCell ⟨g1, j * 2 + 1, none⟩ (.complex .f32 0 0)).ownsRow wo.heap.size 83 2 (.slice (some ⟨g1, 0, none⟩) row.length c3) row.length (ccells ((row.take (j + 1)).map grey1 ++ row.drop (j + 1)))) := Lib.hid (by
            rw [← grey_next hlj]; exact own_set hoj _)
          go_wp2
          go_roundw
          case rel => exact ⟨j + 1, by omega, by go_num, hnext.out, Below.setCell (p := ⟨g1, j * 2 + 1, none⟩) hbj hg1 _⟩
          case measure => simp [intOf]; omega
        · obtain rfl : j = row.length := by omega
          rw [List.take_of_length_le (Nat.le_refl _), List.drop_of_length_le (Nat.le_refl _), List.append_nil] at hoj
          have hnew := fun b hb => (hoj.lt b hb).1
          go_wp2_with (at_builtin; refine wpList_app rfl _ _ 28 rfl w.heap.size 54 _ 1 24 Tryz.underlying28 info_sc rfl (by omega) (.slice A2 k c2) k us' rfl (own_ext (own_ext hou hbj) ((Ext.refl _).alloc _)) _ 1 1 _ rfl (rd_new _ _ _ _) rfl (fun h => by cases h) (by intro u hu; simp at hu; rcases hu with rfl; rfl) (by unfold maxLen; omega) (by omega) (by have := hbr.size; have := hbj.size; simp; omega) ?_; intro v2 w3 hown hg hat)
          go_roundw
          case rel =>
            have hR : Hid (OCC w3 w.heap.size v2 (us' ++ [.slice A3 row.length c3]) ((rss.take (k + 1)).map (fun r => r.map grey1))) := Lib.hid (by
              rw [HT.out]
              unfold OCC
              rw [← rowsC_snoc', List.length_map]
              exact ((hof.out.ext hbj).ext ((Ext.refl _).alloc _)).snoc (by rw [hul]; exact hown) (own_base (own_ext hoj ((Ext.refl _).alloc _)) hbr.size) hg hat (Nat.le_refl _) hof.out.inR hnew)
            exact ⟨k + 1, _, by omega, by go_num, hR, ext_grow (base := w.heap.size) ((hbr.trans hbj).alloc _) (own_ext (own_ext hou hbj) ((Ext.refl _).alloc _)) (Nat.le_refl _) hg⟩
          case measure => simp [intOf]; omega
    · go_wp2
      go_ret
      obtain rfl : k = rss.length := by omega
      have h1 := ho.out
      rw [List.take_of_length_le (Nat.le_refl _)] at h1
      exact ⟨⟨_, us', rfl, h1⟩, hbr⟩
set_option maxRecDepth 100000 in
set_option maxHeartbeats 4000000 in
theorem sGreyed_any (A : Option Addr) (c : Nat) (us : List Value) (rss : List (List Cel)) (w : World) (h : RdRows w A us (rowsC rss)) (hn : rss.length ≤ 1048576) (he : ∀ r ∈ rss, r.length ≤ 64) :
    Calls Tryz.prog 44 #[.slice A rss.length c] w fun e w' => (∃ v us', e = .returned v ∧ OCC w' w.heap.size v us' (rss.map (fun r => r.map grey1))) ∧ Ext w w' := by
  have H := Lib.hid h
  have HE := Lib.hid he
  clear h he
  have ha : Ext w (w.alloc (.cells #[] 54)) := (Ext.refl _).alloc _
  have hnew0 := Rows2.new w w.heap.size 54 83 2 (Nat.le_refl _)
  go_enter Tryz.func44, Tryz.ntmps44
  go_wp2
  go_loopw [3, 4] (fun v i wr => ∃ (k : Nat) (us' : List Value), k ≤ rss.length ∧ i = .int .i64 k ∧ Hid (OCC wr w.heap.size v us' ((rss.take k).map (fun r => r.map grey1))) ∧ Ext w wr) (fun _ i _ => rss.length - (intOf i).toNat)
  case atStart => exact ⟨0, [], by omega, rfl, Lib.hid hnew0, ha⟩
  case round =>
    clear hnew0 ha
    rename World => wo
    obtain ⟨k, us', hk, rfl, ho, hbr⟩ := hrel
    by_cases hlt : k < rss.length
    · obtain ⟨b, off, B, d, rfl, hbw, -, hcell, hrow, hnil, -⟩ := (H.out.ext hbr).atC hlt
      have hlr := HE.out _ (List.getElem_mem hlt)
      obtain ⟨A2, c2, rfl, hou⟩ := ho.out.form
      have hul : us'.length = k := by
        have h1 := ho.out.len
        simp at h1
        omega
      rw [hul] at hou
      have hof : Hid (OCC wo w.heap.size (.slice A2 k c2) us' ((rss.take k).map (fun r => r.map grey1))) := Lib.hid (by have := ho.out; rw [hul] at this; exact this)
      have HT : Hid ((rss.take (k + 1)).map (fun r => r.map grey1) = (rss.take k).map (fun r => r.map grey1) ++ [rss[k].map grey1]) := Lib.hid (by rw [take_snoc hlt, List.map_append]; rfl)
      generalize rss[k] = row at *
      go_wp2_with (go_at_call 48; refine (sRow_any B d row _ hrow hnil (by omega)).mono ?_; rintro e w1 ⟨⟨v1, rfl, ho1⟩, hb1⟩; have hnew := fun b hb => (ho1.lt b hb).1; unfold OC at ho1; obtain ⟨A3, c3, rfl, -, -⟩ := own_slice ho1)
      go_loopw [6] (fun i wr => ∃ (j : Nat), j ≤ row.length ∧ i = .int .i64 j ∧ wr.ownsRow wo.heap.size 83 2 (.slice A3 row.length c3) row.length (ccells ((row.take j).map grey1 ++ row.drop j)) ∧ Ext wo wr) (fun i _ => row.length - (intOf i).toNat)
      case atStart => exact ⟨0, by omega, rfl, by simpa using ho1, hb1⟩
      case round =>
        obtain ⟨j, hj, rfl, hoj, hbj⟩ := hrel
        clear ho1
        by_cases hlj : j < row.length
        · obtain ⟨g1, rfl, hg1, hs1⟩ := own_at hoj (by omega)
          have hfp := own_frozen hoj (j * 2 + 1)
          obtain ⟨u1, hu1⟩ : ∃ u, wr.cell? ⟨g1, j * 2 + 1, none⟩ = some u := ⟨_, own_cell hoj (List.getElem?_eq_getElem (grey_here hlj).2)⟩
          have hnext : Hid ((wr.setCell ⟨g1, j * 2 + 1, none⟩ (.complex .f32 0 0)).ownsRow wo.heap.size 83 2 (.slice (some ⟨g1, 0, none⟩) row.length c3) row.length (ccells ((row.take (j + 1)).map grey1 ++ row.drop (j + 1)))) := Lib.hid (by
            rw [← grey_next hlj]; exact own_set hoj _)
          go_wp2
          go_roundw
          case rel => exact ⟨j + 1, by omega, by go_num, hnext.out, Below.setCell (p := ⟨g1, j * 2 + 1, none⟩) hbj hg1 _⟩
          case measure => simp [intOf]; omega
        · obtain rfl : j = row.length := by omega
          rw [List.take_of_length_le (Nat.le_refl _), List.drop_of_length_le (Nat.le_refl _), List.append_nil] at hoj
          have hnew := fun b hb => (hoj.lt b hb).1
          go_wp2_with (at_builtin; refine wpList_app rfl _ _ 28 rfl w.heap.size 54 _ 1 24 Tryz.underlying28 info_sc rfl (by omega) (.slice A2 k c2) k us' rfl (own_ext (own_ext hou hbj) ((Ext.refl _).alloc _)) _ 1 1 _ rfl (rd_new _ _ _ _) rfl (fun h => by cases h) (by intro u hu; simp at hu; rcases hu with rfl; rfl) (by unfold maxLen; omega) (by omega) (by have := hbr.size; have := hbj.size; simp; omega) ?_; intro v2 w3 hown hg hat)
          go_roundw
          case rel =>
            have hR : Hid (OCC w3 w.heap.size v2 (us' ++ [.slice A3 row.length c3]) ((rss.take (k + 1)).map (fun r => r.map grey1))) := Lib.hid (by
              rw [HT.out]
              unfold OCC
              rw [← rowsC_snoc', List.length_map]
              exact ((hof.out.ext hbj).ext ((Ext.refl _).alloc _)).snoc (by rw [hul]; exact hown) (own_base (own_ext hoj ((Ext.refl _).alloc _)) hbr.size) hg hat (Nat.le_refl _) hof.out.inR hnew)
            exact ⟨k + 1, _, by omega, by go_num, hR, ext_grow (base := w.heap.size) ((hbr.trans hbj).alloc _) (own_ext (own_ext hou hbj) ((Ext.refl _).alloc _)) (Nat.le_refl _) hg⟩
          case measure => simp [intOf]; omega
    · go_wp2
      go_ret
      obtain rfl : k = rss.length := by omega
      have h1 := ho.out
      rw [List.take_of_length_le (Nat.le_refl _)] at h1
      exact ⟨⟨_, us', rfl, h1⟩, hbr⟩
end Go.Proofs.YtiddaabodkglmaaGreat
end
section
namespace Go.Fx
theorem take_1 {a b : List Nat} {x k : Nat} (h : pairOk a b = false) : takeOk a b x k = false ∧ Fx.take a b x k = [] := by
  have : takeOk a b x k = false := by unfold takeOk; rw [h]; rfl
  exact ⟨this, by unfold Fx.take; rw [this]; rfl⟩
theorem take_2 {a b : List Nat} {x k : Nat} (h : pairOk a b = true) (h2 : killed a b x = true) : takeOk a b x k = true ∧ Fx.take a b x k = (pair a b).map (fun r => r.map grey1) := by
  have : takeOk a b x k = true := by unfold takeOk; rw [h, h2]; rfl
  exact ⟨this, by unfold Fx.take; rw [this, h2]; rfl⟩
theorem take_3 {a b : List Nat} {x k : Nat} (h2 : killed a b x = false) (h3 : hgOk a b = false) : takeOk a b x k = false ∧ Fx.take a b x k = [] := by
  have : takeOk a b x k = false := by unfold takeOk; rw [h2, h3]; simp
  exact ⟨this, by unfold Fx.take; rw [this]; rfl⟩
theorem take_4 {a b : List Nat} {x k : Nat} (h2 : killed a b x = false) (h4 : sizeOk (hgRe a b) (pair a b) = false) : takeOk a b x k = false ∧ Fx.take a b x k = [] := by
  have : takeOk a b x k = false := by unfold takeOk; rw [h2, h4]; simp
  exact ⟨this, by unfold Fx.take; rw [this]; rfl⟩
theorem take_5 {a b : List Nat} {x k : Nat} (h : pairOk a b = true) (h2 : killed a b x = false) (h3 : hgOk a b = true) (h4 : sizeOk (hgRe a b) (pair a b) = true) : takeOk a b x k = satOk k (size (hgRe a b) (pair a b)) ∧ Fx.take a b x k = sat k (size (hgRe a b) (pair a b)) := by
  have : takeOk a b x k = satOk k (size (hgRe a b) (pair a b)) := by unfold takeOk; rw [h, h2, h3, h4]; simp
  refine ⟨this, ?_⟩
  unfold Fx.take
  rw [this, h2]
  cases hs : satOk k (size (hgRe a b) (pair a b))
  · rw [sat_no hs]; rfl
  · rfl
theorem size_each {g : Nat} {X : List (List Cel)} (h : ∀ r ∈ X, r.length ≤ 64) : ∀ r ∈ size g X, r.length ≤ 64 := by
  intro r hr
  unfold size at hr
  split at hr
  · simp at hr
  · unfold sat at hr
    split at hr
    · obtain ⟨l, hl, rfl⟩ := List.mem_map.1 hr
      simpa using h l hl
    · simp at hr
theorem size_len {g n : Nat} {X : List (List Cel)} (h : X.length ≤ n) : (size g X).length ≤ n := by
  unfold size
  split
  · simp
  · unfold sat
    split
    · simpa using h
    · simp
theorem take_len {a b : List Nat} {x k : Nat} : (Fx.take a b x k).length ≤ 2 ∧ ∀ r ∈ Fx.take a b x k, r.length ≤ 64 := by
  unfold Fx.take
  split
  · split
    · exact ⟨by simpa using pair_two, fun r hr => by
        obtain ⟨l, hl, rfl⟩ := List.mem_map.1 hr
        simpa using pair_each l hl⟩
    · unfold sat
      split
      · exact ⟨by simpa using size_len pair_two, fun r hr => by
          obtain ⟨l, hl, rfl⟩ := List.mem_map.1 hr
          simpa using size_each pair_each l hl⟩
      · exact ⟨by simp, fun r hr => by simp at hr⟩
  · exact ⟨by simp, fun r hr => by simp at hr⟩
end Go.Fx
namespace Go.Proofs.YtiddaabodkglmaaGreat
open Go.RowKit Go.Fx
set_option linter.unusedVariables false
set_option linter.unusedSimpArgs false
set_option maxRecDepth 100000 in
set_option maxHeartbeats 4000000 in
theorem iTakePair_any (A B : Option Addr) (c d : Nat) (rs ss : List Nat) (least x : Nat) (w : World) (h : Rd w A (rs.map fl)) (h' : Rd w B (ss.map fl)) (hn : rs.length ≤ 1048576) (hn' : ss.length ≤ 1048576) (hc : rs.length ≤ c) (hc' : ss.length ≤ d) :
    Calls Tryz.prog 29 #[.slice A rs.length c, .slice B ss.length d, .float .f32 least, .float .f32 x] w fun e w' => (∃ v us rss, e = .returned (.tuple #[v, .bool (takeOk rs ss least (cn .f32 x))]) ∧ OCC w' w.heap.size v us rss ∧ rss.map cnC = Fx.take rs ss least (cn .f32 x)) ∧ Ext w w' := by
  have H := Lib.hid h
  have H' := Lib.hid h'
  clear h h'
  cases h1 : pairOk rs ss
  · have HT := Lib.hid (take_1 (x := least) (k := cn .f32 x) h1)
    go_enter Tryz.func29, Tryz.ntmps29
    go_wp2_with fail
    refine (iDecodePair_any A B c d rs ss _ H.out H'.out hn hn' hc hc').mono ?_
    rintro e w1 ⟨⟨v1, us1, rss1, rfl, R1, hg1⟩, hb1⟩
    rw [h1]
    have hl1 := rss_len hg1 pair_two
    have he1 := rss_each hg1 pair_each
    have hoo := R1.own
    rw [List.length_map] at hoo
    obtain ⟨A1, c1, rfl, -, -⟩ := own_slice hoo
    have RR := Lib.hid R1.rd.1
    have HG1 := Lib.hid hg1
    have HE1 := Lib.hid he1
    clear hoo he1 hg1
    go_wp2_with fail
    go_ret2
    exact ⟨⟨_, [], [], by rw [HT.out.1]; rfl, Rows2.nil _ _ _ _ _, by rw [HT.out.2]; rfl⟩, hb1⟩
  · cases h2 : killed rs ss least
    · cases h3 : hgOk rs ss
      · have HT := Lib.hid (take_3 (x := least) (k := cn .f32 x) h2 h3)
        go_enter Tryz.func29, Tryz.ntmps29
        go_wp2_with fail
        refine (iDecodePair_any A B c d rs ss _ H.out H'.out hn hn' hc hc').mono ?_
        rintro e w1 ⟨⟨v1, us1, rss1, rfl, R1, hg1⟩, hb1⟩
        rw [h1]
        have hl1 := rss_len hg1 pair_two
        have he1 := rss_each hg1 pair_each
        have hoo := R1.own
        rw [List.length_map] at hoo
        obtain ⟨A1, c1, rfl, -, -⟩ := own_slice hoo
        have RR := Lib.hid R1.rd.1
        have HG1 := Lib.hid hg1
        have HE1 := Lib.hid he1
        clear hoo he1 hg1
        go_wp2_with fail
        refine (iIsKilled_any A B c d rs ss least _ (H.out.ext hb1) (H'.out.ext hb1) hn hn' hc hc').mono ?_
        rintro e w2 ⟨rfl, hb2⟩
        rw [h2]
        go_wp2_with fail
        refine (iHueGain_any A B c d rs ss _ ((H.out.ext hb1).ext hb2) ((H'.out.ext hb1).ext hb2) hn hn' hc hc').mono ?_
        rintro e w3 ⟨⟨re, im, rfl, hre, him⟩, hb3⟩
        rw [h3]
        have HRE := Lib.hid hre
        clear hre him
        go_wp2_with fail
        go_ret2
        exact ⟨⟨_, [], [], by rw [HT.out.1]; rfl, Rows2.nil _ _ _ _ _, by rw [HT.out.2]; rfl⟩, (hb1.trans hb2).trans hb3⟩
      · cases h4 : sizeOk (hgRe rs ss) (pair rs ss)
        · have HT := Lib.hid (take_4 (x := least) (k := cn .f32 x) h2 h4)
          go_enter Tryz.func29, Tryz.ntmps29
          go_wp2_with fail
          refine (iDecodePair_any A B c d rs ss _ H.out H'.out hn hn' hc hc').mono ?_
          rintro e w1 ⟨⟨v1, us1, rss1, rfl, R1, hg1⟩, hb1⟩
          rw [h1]
          have hl1 := rss_len hg1 pair_two
          have he1 := rss_each hg1 pair_each
          have hoo := R1.own
          rw [List.length_map] at hoo
          obtain ⟨A1, c1, rfl, -, -⟩ := own_slice hoo
          have RR := Lib.hid R1.rd.1
          have HG1 := Lib.hid hg1
          have HE1 := Lib.hid he1
          clear hoo he1 hg1
          go_wp2_with fail
          refine (iIsKilled_any A B c d rs ss least _ (H.out.ext hb1) (H'.out.ext hb1) hn hn' hc hc').mono ?_
          rintro e w2 ⟨rfl, hb2⟩
          rw [h2]
          go_wp2_with fail
          refine (iHueGain_any A B c d rs ss _ ((H.out.ext hb1).ext hb2) ((H'.out.ext hb1).ext hb2) hn hn' hc hc').mono ?_
          rintro e w3 ⟨⟨re, im, rfl, hre, him⟩, hb3⟩
          rw [h3]
          have HRE := Lib.hid hre
          clear hre him
          have hsz := iToSize_any A1 c1 us1 rss1 re im w3 ((RR.out.ext hb2).ext hb3) (by omega) HE1.out
          rw [HRE.out, HG1.out] at hsz
          go_wp2_with fail
          refine Calls.mono hsz ?_
          rintro e w4 ⟨⟨v4, us4, rss4, rfl, R4, hg4⟩, hb4⟩
          rw [h4]
          go_wp2_with fail
          go_ret2
          exact ⟨⟨_, [], [], by rw [HT.out.1]; rfl, Rows2.nil _ _ _ _ _, by rw [HT.out.2]; rfl⟩, ((hb1.trans hb2).trans hb3).trans hb4⟩
        · have HT := Lib.hid (take_5 (x := least) (k := cn .f32 x) h1 h2 h3 h4)
          go_enter Tryz.func29, Tryz.ntmps29
          go_wp2_with fail
          refine (iDecodePair_any A B c d rs ss _ H.out H'.out hn hn' hc hc').mono ?_
          rintro e w1 ⟨⟨v1, us1, rss1, rfl, R1, hg1⟩, hb1⟩
          rw [h1]
          have hl1 := rss_len hg1 pair_two
          have he1 := rss_each hg1 pair_each
          have hoo := R1.own
          rw [List.length_map] at hoo
          obtain ⟨A1, c1, rfl, -, -⟩ := own_slice hoo
          have RR := Lib.hid R1.rd.1
          have HG1 := Lib.hid hg1
          have HE1 := Lib.hid he1
          clear hoo he1 hg1
          go_wp2_with fail
          refine (iIsKilled_any A B c d rs ss least _ (H.out.ext hb1) (H'.out.ext hb1) hn hn' hc hc').mono ?_
          rintro e w2 ⟨rfl, hb2⟩
          rw [h2]
          go_wp2_with fail
          refine (iHueGain_any A B c d rs ss _ ((H.out.ext hb1).ext hb2) ((H'.out.ext hb1).ext hb2) hn hn' hc hc').mono ?_
          rintro e w3 ⟨⟨re, im, rfl, hre, him⟩, hb3⟩
          rw [h3]
          have HRE := Lib.hid hre
          clear hre him
          have hsz := iToSize_any A1 c1 us1 rss1 re im w3 ((RR.out.ext hb2).ext hb3) (by omega) HE1.out
          rw [HRE.out, HG1.out] at hsz
          go_wp2_with fail
          refine Calls.mono hsz ?_
          rintro e w4 ⟨⟨v4, us4, rss4, rfl, R4, hg4⟩, hb4⟩
          rw [h4]
          have hl4 := rss_len hg4 (size_len pair_two)
          have he4 := rss_each hg4 (size_each pair_each)
          have hoo := R4.own
          rw [List.length_map] at hoo
          obtain ⟨A4, c4, rfl, -, -⟩ := own_slice hoo
          have hsat := iSaturate_any A4 c4 us4 rss4 x w4 R4.rd.1 (by omega) he4
          rw [hg4] at hsat
          have HSAT := Lib.hid hsat
          clear hoo he4 hg4 hsat hsz
          go_wp2_with fail
          refine Calls.mono HSAT.out ?_
          rintro e w5 ⟨⟨v5, us5, rss5, rfl, R5, hg5⟩, hb5⟩
          have HG5 := Lib.hid hg5
          clear hg5
          go_wp2_with fail
          go_ret2
          exact ⟨⟨v5, us5, rss5, by rw [HT.out.1]; rfl, R5.weak (((hb1.trans hb2).trans hb3).trans hb4).size, by rw [HT.out.2]; exact HG5.out⟩, (((hb1.trans hb2).trans hb3).trans hb4).trans hb5⟩
    · have HT := Lib.hid (take_2 (x := least) (k := cn .f32 x) h1 h2)
      go_enter Tryz.func29, Tryz.ntmps29
      go_wp2_with fail
      refine (iDecodePair_any A B c d rs ss _ H.out H'.out hn hn' hc hc').mono ?_
      rintro e w1 ⟨⟨v1, us1, rss1, rfl, R1, hg1⟩, hb1⟩
      rw [h1]
      have hl1 := rss_len hg1 pair_two
      have he1 := rss_each hg1 pair_each
      have hoo := R1.own
      rw [List.length_map] at hoo
      obtain ⟨A1, c1, rfl, -, -⟩ := own_slice hoo
      have RR := Lib.hid R1.rd.1
      have HG1 := Lib.hid hg1
      have HE1 := Lib.hid he1
      clear hoo he1 hg1
      go_wp2_with fail
      refine (iIsKilled_any A B c d rs ss least _ (H.out.ext hb1) (H'.out.ext hb1) hn hn' hc hc').mono ?_
      rintro e w2 ⟨rfl, hb2⟩
      rw [h2]
      go_wp2_with fail
      refine (iGreyed_any A1 c1 us1 rss1 _ (RR.out.ext hb2) (by omega) HE1.out).mono ?_
      rintro e w3 ⟨⟨v3, us3, rfl, R3⟩, hb3⟩
      go_wp2_with fail
      go_ret2
      exact ⟨⟨v3, us3, _, by rw [HT.out.1]; rfl, R3.weak (hb1.trans hb2).size, by rw [HT.out.2, grey_all, HG1.out]⟩, (hb1.trans hb2).trans hb3⟩
set_option maxRecDepth 100000 in
set_option maxHeartbeats 4000000 in
theorem sTakePair_any (A B : Option Addr) (c d : Nat) (rs ss : List Nat) (least x : Nat) (w : World) (h : Rd w A (rs.map fl)) (h' : Rd w B (ss.map fl)) (hn : rs.length ≤ 1048576) (hn' : ss.length ≤ 1048576) (hc : rs.length ≤ c) (hc' : ss.length ≤ d) :
    Calls Tryz.prog 22 #[.slice A rs.length c, .slice B ss.length d, .float .f32 least, .float .f32 x] w fun e w' => (∃ v us rss, e = .returned (.tuple #[v, .bool (takeOk rs ss least (cn .f32 x))]) ∧ OCC w' w.heap.size v us rss ∧ rss.map cnC = Fx.take rs ss least (cn .f32 x)) ∧ Ext w w' := by
  have H := Lib.hid h
  have H' := Lib.hid h'
  clear h h'
  cases h1 : pairOk rs ss
  · have HT := Lib.hid (take_1 (x := least) (k := cn .f32 x) h1)
    go_enter Tryz.func22, Tryz.ntmps22
    go_wp2_with fail
    refine (sDecodePair_any A B c d rs ss _ H.out H'.out hn hn' hc hc').mono ?_
    rintro e w1 ⟨⟨v1, us1, rss1, rfl, R1, hg1⟩, hb1⟩
    rw [h1]
    have hl1 := rss_len hg1 pair_two
    have he1 := rss_each hg1 pair_each
    have hoo := R1.own
    rw [List.length_map] at hoo
    obtain ⟨A1, c1, rfl, -, -⟩ := own_slice hoo
    have RR := Lib.hid R1.rd.1
    have HG1 := Lib.hid hg1
    have HE1 := Lib.hid he1
    clear hoo he1 hg1
    go_wp2_with fail
    go_ret2
    exact ⟨⟨_, [], [], by rw [HT.out.1]; rfl, Rows2.new w1 _ _ _ _ (ext_size (hb1)), by rw [HT.out.2]; rfl⟩, Ext.alloc (hb1) _⟩
  · cases h2 : killed rs ss least
    · cases h3 : hgOk rs ss
      · have HT := Lib.hid (take_3 (x := least) (k := cn .f32 x) h2 h3)
        go_enter Tryz.func22, Tryz.ntmps22
        go_wp2_with fail
        refine (sDecodePair_any A B c d rs ss _ H.out H'.out hn hn' hc hc').mono ?_
        rintro e w1 ⟨⟨v1, us1, rss1, rfl, R1, hg1⟩, hb1⟩
        rw [h1]
        have hl1 := rss_len hg1 pair_two
        have he1 := rss_each hg1 pair_each
        have hoo := R1.own
        rw [List.length_map] at hoo
        obtain ⟨A1, c1, rfl, -, -⟩ := own_slice hoo
        have RR := Lib.hid R1.rd.1
        have HG1 := Lib.hid hg1
        have HE1 := Lib.hid he1
        clear hoo he1 hg1
        go_wp2_with fail
        refine (sIsKilled_any A B c d rs ss least _ (H.out.ext hb1) (H'.out.ext hb1) hn hn' hc hc').mono ?_
        rintro e w2 ⟨rfl, hb2⟩
        rw [h2]
        go_wp2_with fail
        refine (sHueGain_any A B c d rs ss _ ((H.out.ext hb1).ext hb2) ((H'.out.ext hb1).ext hb2) hn hn' hc hc').mono ?_
        rintro e w3 ⟨⟨re, im, rfl, hre, him⟩, hb3⟩
        rw [h3]
        have HRE := Lib.hid hre
        clear hre him
        have hsz := sToSize_any A1 c1 us1 rss1 re im w3 ((RR.out.ext hb2).ext hb3) (by omega) HE1.out
        rw [HRE.out, HG1.out] at hsz
        go_wp2_with fail
        refine Calls.mono hsz ?_
        rintro e w4 ⟨⟨v4, us4, rss4, rfl, R4, hg4⟩, hb4⟩
        go_wp2_with fail
        go_ret2
        exact ⟨⟨_, [], [], by rw [HT.out.1]; rfl, Rows2.new w4 _ _ _ _ (ext_size (((hb1.trans hb2).trans hb3).trans hb4)), by rw [HT.out.2]; rfl⟩, Ext.alloc (((hb1.trans hb2).trans hb3).trans hb4) _⟩
      · cases h4 : sizeOk (hgRe rs ss) (pair rs ss)
        · have HT := Lib.hid (take_4 (x := least) (k := cn .f32 x) h2 h4)
          go_enter Tryz.func22, Tryz.ntmps22
          go_wp2_with fail
          refine (sDecodePair_any A B c d rs ss _ H.out H'.out hn hn' hc hc').mono ?_
          rintro e w1 ⟨⟨v1, us1, rss1, rfl, R1, hg1⟩, hb1⟩
          rw [h1]
          have hl1 := rss_len hg1 pair_two
          have he1 := rss_each hg1 pair_each
          have hoo := R1.own
          rw [List.length_map] at hoo
          obtain ⟨A1, c1, rfl, -, -⟩ := own_slice hoo
          have RR := Lib.hid R1.rd.1
          have HG1 := Lib.hid hg1
          have HE1 := Lib.hid he1
          clear hoo he1 hg1
          go_wp2_with fail
          refine (sIsKilled_any A B c d rs ss least _ (H.out.ext hb1) (H'.out.ext hb1) hn hn' hc hc').mono ?_
          rintro e w2 ⟨rfl, hb2⟩
          rw [h2]
          go_wp2_with fail
          refine (sHueGain_any A B c d rs ss _ ((H.out.ext hb1).ext hb2) ((H'.out.ext hb1).ext hb2) hn hn' hc hc').mono ?_
          rintro e w3 ⟨⟨re, im, rfl, hre, him⟩, hb3⟩
          rw [h3]
          have HRE := Lib.hid hre
          clear hre him
          have hsz := sToSize_any A1 c1 us1 rss1 re im w3 ((RR.out.ext hb2).ext hb3) (by omega) HE1.out
          rw [HRE.out, HG1.out] at hsz
          go_wp2_with fail
          refine Calls.mono hsz ?_
          rintro e w4 ⟨⟨v4, us4, rss4, rfl, R4, hg4⟩, hb4⟩
          rw [h4]
          go_wp2_with fail
          go_ret2
          exact ⟨⟨_, [], [], by rw [HT.out.1]; rfl, Rows2.new w4 _ _ _ _ (ext_size (((hb1.trans hb2).trans hb3).trans hb4)), by rw [HT.out.2]; rfl⟩, Ext.alloc (((hb1.trans hb2).trans hb3).trans hb4) _⟩
        · have HT := Lib.hid (take_5 (x := least) (k := cn .f32 x) h1 h2 h3 h4)
          go_enter Tryz.func22, Tryz.ntmps22
          go_wp2_with fail
          refine (sDecodePair_any A B c d rs ss _ H.out H'.out hn hn' hc hc').mono ?_
          rintro e w1 ⟨⟨v1, us1, rss1, rfl, R1, hg1⟩, hb1⟩
          rw [h1]
          have hl1 := rss_len hg1 pair_two
          have he1 := rss_each hg1 pair_each
          have hoo := R1.own
          rw [List.length_map] at hoo
          obtain ⟨A1, c1, rfl, -, -⟩ := own_slice hoo
          have RR := Lib.hid R1.rd.1
          have HG1 := Lib.hid hg1
          have HE1 := Lib.hid he1
          clear hoo he1 hg1
          go_wp2_with fail
          refine (sIsKilled_any A B c d rs ss least _ (H.out.ext hb1) (H'.out.ext hb1) hn hn' hc hc').mono ?_
          rintro e w2 ⟨rfl, hb2⟩
          rw [h2]
          go_wp2_with fail
          refine (sHueGain_any A B c d rs ss _ ((H.out.ext hb1).ext hb2) ((H'.out.ext hb1).ext hb2) hn hn' hc hc').mono ?_
          rintro e w3 ⟨⟨re, im, rfl, hre, him⟩, hb3⟩
          rw [h3]
          have HRE := Lib.hid hre
          clear hre him
          have hsz := sToSize_any A1 c1 us1 rss1 re im w3 ((RR.out.ext hb2).ext hb3) (by omega) HE1.out
          rw [HRE.out, HG1.out] at hsz
          go_wp2_with fail
          refine Calls.mono hsz ?_
          rintro e w4 ⟨⟨v4, us4, rss4, rfl, R4, hg4⟩, hb4⟩
          rw [h4]
          have hl4 := rss_len hg4 (size_len pair_two)
          have he4 := rss_each hg4 (size_each pair_each)
          have hoo := R4.own
          rw [List.length_map] at hoo
          obtain ⟨A4, c4, rfl, -, -⟩ := own_slice hoo
          have hsat := sSaturate_any A4 c4 us4 rss4 x w4 R4.rd.1 (by omega) he4
          rw [hg4] at hsat
          have HSAT := Lib.hid hsat
          clear hoo he4 hg4 hsat hsz
          go_wp2_with fail
          refine Calls.mono HSAT.out ?_
          rintro e w5 ⟨⟨v5, us5, rss5, rfl, R5, hg5⟩, hb5⟩
          have HG5 := Lib.hid hg5
          clear hg5
          go_wp2_with fail
          go_ret2
          exact ⟨⟨v5, us5, rss5, by rw [HT.out.1]; rfl, R5.weak (((hb1.trans hb2).trans hb3).trans hb4).size, by rw [HT.out.2]; exact HG5.out⟩, (((hb1.trans hb2).trans hb3).trans hb4).trans hb5⟩
    · have HT := Lib.hid (take_2 (x := least) (k := cn .f32 x) h1 h2)
      go_enter Tryz.func22, Tryz.ntmps22
      go_wp2_with fail
      refine (sDecodePair_any A B c d rs ss _ H.out H'.out hn hn' hc hc').mono ?_
      rintro e w1 ⟨⟨v1, us1, rss1, rfl, R1, hg1⟩, hb1⟩
      rw [h1]
      have hl1 := rss_len hg1 pair_two
      have he1 := rss_each hg1 pair_each
      have hoo := R1.own
      rw [List.length_map] at hoo
      obtain ⟨A1, c1, rfl, -, -⟩ := own_slice hoo
      have RR := Lib.hid R1.rd.1
      have HG1 := Lib.hid hg1
      have HE1 := Lib.hid he1
      clear hoo he1 hg1
      go_wp2_with fail
      refine (sIsKilled_any A B c d rs ss least _ (H.out.ext hb1) (H'.out.ext hb1) hn hn' hc hc').mono ?_
      rintro e w2 ⟨rfl, hb2⟩
      rw [h2]
      go_wp2_with fail
      refine (sGreyed_any A1 c1 us1 rss1 _ (RR.out.ext hb2) (by omega) HE1.out).mono ?_
      rintro e w3 ⟨⟨v3, us3, rfl, R3⟩, hb3⟩
      go_wp2_with fail
      go_ret2
      exact ⟨⟨v3, us3, _, by rw [HT.out.1]; rfl, R3.weak (hb1.trans hb2).size, by rw [HT.out.2, grey_all, HG1.out]⟩, (hb1.trans hb2).trans hb3⟩
end Go.Proofs.YtiddaabodkglmaaGreat
end

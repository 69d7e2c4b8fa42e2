import Derived.Test.YtiddaabodkglmaaK3
namespace Go.Fx
open Go.RowKit
set_option linter.unusedSimpArgs false
theorem ccells_cons (c : Cel) (r : List Cel) : ccells (c :: r) = c1 c :: c2 c :: ccells r := by simp [ccells, cells2]
theorem ccells_len (r : List Cel) : (ccells r).length = r.length * 2 := cells2_len _ _ _
/-- the colour of the next cell is written anew -/
theorem set_colour {xs gp : List Cel} {k : Nat} (hx : xs.length = k) (hk : k < gp.length) (re im : Nat) : (ccells (xs ++ gp.drop k)).set (k * 2 + 1) (.complex .f32 re im) = ccells ((xs ++ [⟨gp[k].y, re, im⟩]) ++ gp.drop (k + 1)) := by
  rw [List.drop_eq_getElem_cons hk, List.append_assoc, List.singleton_append]
  show (cells2 c1 c2 (xs ++ gp[k] :: gp.drop (k + 1))).set _ _ = cells2 c1 c2 (xs ++ ⟨gp[k].y, re, im⟩ :: gp.drop (k + 1))
  rw [← cells2_app, ← cells2_app]
  have hl : (cells2 c1 c2 xs).length = k * 2 := by rw [cells2_len, hx]
  rw [List.set_append_right _ _ (by omega), hl, show k * 2 + 1 - k * 2 = 1 by omega]
  have e1 := ccells_cons gp[k] (gp.drop (k + 1))
  have e2 := ccells_cons ⟨gp[k].y, re, im⟩ (gp.drop (k + 1))
  unfold ccells at e1 e2
  rw [e1, e2]
  rfl
theorem colour_at {xs gp : List Cel} {k : Nat} (hx : xs.length = k) (hk : k < gp.length) : ∃ h : k < (xs ++ gp.drop k).length, (xs ++ gp.drop k)[k] = gp[k] := by
  refine ⟨by simp; omega, ?_⟩
  rw [List.getElem_append_right (by omega)]
  simp [hx]
theorem pairP_len (s : Int) (P Q : List Cel) : (pairP s P Q).length = min P.length Q.length := by simp [pairP]
theorem pairQ_len (s : Int) (P Q : List Cel) : (pairQ s P Q).length = min P.length Q.length := by simp [pairQ]
theorem pairP_at (s : Int) {gp gq : List Cel} {k : Nat} (h1 : k < gp.length) (h2 : k < gq.length) : ∃ h : k < (pairP s (cnC gp) (cnC gq)).length, (pairP s (cnC gp) (cnC gq))[k] = ⟨cn .f32 gp[k].y, pairRe s gp[k].cn gq[k].cn, pairIm s gp[k].cn gq[k].cn⟩ :=
  ⟨by rw [pairP_len]; simp; omega, by simp [pairP]⟩
theorem pairQ_at (s : Int) {gp gq : List Cel} {k : Nat} (h1 : k < gp.length) (h2 : k < gq.length) : ∃ h : k < (pairQ s (cnC gp) (cnC gq)).length, (pairQ s (cnC gp) (cnC gq))[k] = ⟨cn .f32 gq[k].y, pairRe s gp[k].cn gq[k].cn, pairIm s gp[k].cn gq[k].cn⟩ :=
  ⟨by rw [pairQ_len]; simp; omega, by simp [pairQ]⟩
theorem swing_cases (a b : List Nat) : swing a b = 1 ∨ swing a b = -1 ∨ swing a b = 0 := by
  unfold swing
  split
  · split
    · simp
    · split <;> simp
  · simp
theorem pair_not {a b : List Nat} (h : pairOk a b = false) : pair a b = [] := by unfold pair; rw [h]; rfl
theorem pair_is {a b : List Nat} {gp gq : List Cel} (h : pairOk a b = true) (hp : cnC gp = alone false a) (hq : cnC gq = alone false b) : pair a b = [pairP (swing a b) (cnC gp) (cnC gq), pairQ (swing a b) (cnC gp) (cnC gq)] := by
  unfold pair; rw [if_pos h, hp, hq]
theorem Rows2.two {W : World} {base : Nat} {Eo E : TypeId} {size : Nat} {u v : Value} {r s : Nat × List Value} (hu : W.ownsRow base E size u r.1 r.2) (hv : W.ownsRow base E size v s.1 s.2) (hap : Apart u v) (hb : base ≤ W.heap.size) :
    Rows2 (W.alloc (.cells #[u, v] Eo)) base Eo E size (.slice (some ⟨W.heap.size, 0, none⟩) 2 2) [u, v] [r, s] := by
  have hal : Ext W (W.alloc (.cells #[u, v] Eo)) := (Ext.refl W).alloc _
  refine ⟨rfl, ⟨rfl, .inr ⟨W.heap.size, 2, #[u, v], rfl, hb, heap_alloc_new W _, Nat.le_refl _, by unfold maxLen; omega, rfl, rfl⟩⟩, ?_, ?_, ?_⟩
  · intro i x y hx hy
    match i with
    | 0 => simp at hx hy; subst hx; subst hy; exact own_ext hu hal
    | 1 => simp at hx hy; subst hx; subst hy; exact own_ext hv hal
    | i + 2 => simp at hx
  · intro x hx b hb' e
    simp [Value.ownBlock] at e
    subst e
    simp only [List.mem_cons, List.not_mem_nil, or_false] at hx
    rcases hx with rfl | rfl
    · have := (hu.lt _ hb').2; omega
    · have := (hv.lt _ hb').2; omega
  · refine List.Pairwise.cons (fun x hx => ?_) (List.pairwise_singleton _ _)
    simp at hx; subst hx; exact hap
end Go.Fx
namespace Go.Proofs.Ytiddaabodkglmaa
open Go.RowKit Go.Fx
set_option linter.unusedVariables false
set_option linter.unusedSimpArgs false
/-- fresh rows of cells -/
abbrev OCC (w : World) (base : Nat) (v : Value) (us : List Value) (rss : List (List Cel)) : Prop := Rows2 w base 43 90 2 v us (rowsC rss)
set_option maxRecDepth 100000 in
set_option maxHeartbeats 4000000 in
theorem iDecodePair_any (A B : Option Addr) (c d : Nat) (rs ss : List Nat) (w : World) (h : Rd w A (rs.map fl)) (h' : Rd w B (ss.map fl)) (hn : rs.length ≤ 1048576) (hn' : ss.length ≤ 1048576) (hc : rs.length ≤ c) (hc' : ss.length ≤ d) :
    Calls Try.prog 119 #[.slice A rs.length c, .slice B ss.length d] w fun e w' => (∃ v us rss, e = .returned (.tuple #[v, .bool (pairOk rs ss)]) ∧ OCC w' w.heap.size v us rss ∧ rss.map cnC = pair rs ss) ∧ Ext w w' := by
  have H := Lib.hid h
  have H' := Lib.hid h'
  clear h h'
  cases hok : pairOk rs ss
  · have HN := Lib.hid (pair_not hok)
    cases h1 : aloneOk false rs
    · go_enter Try.func119, Try.ntmps119
      go_wp2_with fail
      refine (iDecodeAlone_any A c rs false _ H.out hn hc).mono ?_
      rintro e w1 ⟨⟨v1, gp, rfl, ho1, hg1⟩, hb1⟩
      rw [h1]
      go_wp2_with fail
      refine (iDecodeAlone_any B d ss false _ (H'.out.ext hb1) hn' hc').mono ?_
      rintro e w2 ⟨⟨v2, gq, rfl, ho2, hg2⟩, hb2⟩
      go_wp2_with fail
      go_ret2
      exact ⟨⟨_, [], [], rfl, Rows2.nil _ _ _ _ _, by rw [HN.out]; rfl⟩, hb1.trans hb2⟩
    · cases h2 : aloneOk false ss
      · go_enter Try.func119, Try.ntmps119
        go_wp2_with fail
        refine (iDecodeAlone_any A c rs false _ H.out hn hc).mono ?_
        rintro e w1 ⟨⟨v1, gp, rfl, ho1, hg1⟩, hb1⟩
        rw [h1]
        go_wp2_with fail
        refine (iDecodeAlone_any B d ss false _ (H'.out.ext hb1) hn' hc').mono ?_
        rintro e w2 ⟨⟨v2, gq, rfl, ho2, hg2⟩, hb2⟩
        rw [h2]
        go_wp2_with fail
        go_ret2
        exact ⟨⟨_, [], [], rfl, Rows2.nil _ _ _ _ _, by rw [HN.out]; rfl⟩, hb1.trans hb2⟩
      · have hl : (alone false rs).length ≠ (alone false ss).length := by
          intro e
          unfold pairOk at hok
          rw [h1, h2] at hok
          simp [e] at hok
        go_enter Try.func119, Try.ntmps119
        go_wp2_with fail
        refine (iDecodeAlone_any A c rs false _ H.out hn hc).mono ?_
        rintro e w1 ⟨⟨v1, gp, rfl, ho1, hg1⟩, hb1⟩
        rw [h1]
        obtain ⟨A1, c1, rfl, -, -⟩ := own_slice ho1
        go_wp2_with fail
        refine (iDecodeAlone_any B d ss false _ (H'.out.ext hb1) hn' hc').mono ?_
        rintro e w2 ⟨⟨v2, gq, rfl, ho2, hg2⟩, hb2⟩
        rw [h2]
        obtain ⟨A2, c2, rfl, -, -⟩ := own_slice ho2
        have hne : ((gp.length : Int) == (gq.length : Int)) = false := by
          rw [beq_eq_false_iff_ne]
          have e1 := cnC_len hg1
          have e2 := cnC_len hg2
          omega
        go_wp2_with fail
        go_ret2
        exact ⟨⟨_, [], [], rfl, Rows2.nil _ _ _ _ _, by rw [HN.out]; rfl⟩, hb1.trans hb2⟩
  · have hok2 := hok
    simp only [pairOk, Bool.and_eq_true, decide_eq_true_eq] at hok2
    obtain ⟨⟨h1, h2⟩, hlen⟩ := hok2
    go_enter Try.func119, Try.ntmps119
    go_wp2_with fail
    refine (iDecodeAlone_any A c rs false _ H.out hn hc).mono ?_
    rintro e w1 ⟨⟨v1, gp, rfl, ho1, hg1⟩, hb1⟩
    rw [h1]
    have hl1 := (cnC_len hg1)
    have hz1 := alone_len false rs
    rw [← hl1] at hlen hz1
    generalize hgn : gp.length = n at hlen hz1
    have HLEN := Lib.hid hlen
    clear hlen hl1
    unfold OC at ho1
    rw [hgn] at ho1
    have hi1 := own_in ho1
    obtain ⟨A1, c1, rfl, -, -⟩ := own_slice ho1
    go_wp2_with fail
    refine (iDecodeAlone_any B d ss false _ (H'.out.ext hb1) hn' hc').mono ?_
    rintro e w2 ⟨⟨v2, gq, rfl, ho2, hg2⟩, hb2⟩
    rw [h2]
    have hlq : gq.length = n := (cnC_len hg2).trans HLEN.out.symm
    unfold OC at ho2
    rw [hlq] at ho2
    have hi2 := own_in ho2
    obtain ⟨A2, c2, rfl, -, -⟩ := own_slice ho2
    replace ho1 := own_ext ho1 hb2
    have hsw := swing_cases rs ss
    have hS := iSwing_any A B c d rs ss w2 ((H.out.ext hb1).ext hb2) ((H'.out.ext hb1).ext hb2) hn hn' hc hc'
    have HP := Lib.hid (pair_is hok hg1 hg2)
    have HOK := Lib.hid hok
    generalize swing rs ss = sw at hsw hS HP
    clear hg1 hg2 h1 h2 hok
    go_wp2_with (go_at_call 116; refine Calls.mono hS ?_; rintro e w3 ⟨rfl, hb3⟩)
    replace ho1 := own_ext ho1 hb3
    replace ho2 := own_base (own_ext ho2 hb3) hb1.size
    have hb := (hb1.trans hb2).trans hb3
    go_loopw [11, 12, 41] (fun q z i wr => ∃ (k : Nat) (xs ys : List Cel), k ≤ n ∧ xs.length = k ∧ ys.length = k ∧ i = .int .i64 k ∧ wr.ownsRow w.heap.size 90 2 (.slice A1 n c1) n (ccells (xs ++ gp.drop k)) ∧ wr.ownsRow w.heap.size 90 2 (.slice A2 n c2) n (ccells (ys ++ gq.drop k)) ∧ Hid (cnC xs = (pairP sw (cnC gp) (cnC gq)).take k) ∧ Hid (cnC ys = (pairQ sw (cnC gp) (cnC gq)).take k) ∧ Ext w wr) (fun _ _ i _ => n - (intOf i).toNat)
    case atStart => exact ⟨0, [], [], by omega, rfl, rfl, rfl, by simpa using ho1, by simpa using ho2, Lib.hid (by simp), Lib.hid (by simp), hb⟩
    case round =>
      obtain ⟨k, xs, ys, hk, hxl, hyl, rfl, hop, hoq, HX, HY, hbr⟩ := hrel
      clear ho1 ho2
      by_cases hlt : k < n
      · obtain ⟨g1, rfl, hg1, hs1⟩ := own_at hop (by omega)
        obtain ⟨g2, rfl, hg2, hs2⟩ := own_at hoq (by omega)
        have hg12 : g1 ≠ g2 := by have := hi1 g1 rfl; have := hi2 g2 rfl; omega
        have hkp : k < gp.length := by omega
        have hkq : k < gq.length := by omega
        obtain ⟨hxa, exa⟩ := colour_at hxl hkp
        obtain ⟨hya, eya⟩ := colour_at hyl hkq
        obtain ⟨p0, p1⟩ := cells2_at Go.Fx.c1 Go.Fx.c2 _ hxa
        obtain ⟨q0, q1⟩ := cells2_at Go.Fx.c1 Go.Fx.c2 _ hya
        rw [exa] at p0 p1
        rw [eya] at q0 q1
        have hp0 := own_cell hop p0
        have hp1 := own_cell hop p1
        have hq0 := own_cell hoq q0
        have hq1 := own_cell hoq q1
        have hfp := own_frozen hop (k * 2 + 1)
        have hfq := own_frozen hoq (k * 2 + 1)
        have hq1' : ∀ v, (wr.setCell ⟨g1, k * 2 + 1, none⟩ v).cell? ⟨g2, k * 2 + 1, none⟩ = some (Go.Fx.c2 gq[k]) := fun v => by
          rw [World.cell?_of_block (w := wr) (a := ⟨g2, k * 2 + 1, none⟩) (Below.heap_setCell wr ⟨g1, k * 2 + 1, none⟩ v g2 (fun e => hg12 e.symm))]; exact hq1
        obtain ⟨hPk, ePk⟩ := pairP_at sw hkp hkq
        obtain ⟨hQk, eQk⟩ := pairQ_at sw hkp hkq
        have EP := Lib.hid ePk
        have EQ := Lib.hid eQk
        have HPO := Lib.hid hop
        have HQO := Lib.hid hoq
        have STEP : Hid (∀ (W : World) (re im : Nat), Ext wr W → cn .f32 re = pairRe sw gp[k].cn gq[k].cn → cn .f32 im = pairIm sw gp[k].cn gq[k].cn →
            ∃ xs' ys' : List Cel, xs'.length = k + 1 ∧ ys'.length = k + 1 ∧ ((W.setCell ⟨g1, k * 2 + 1, none⟩ (.complex .f32 re im)).setCell ⟨g2, k * 2 + 1, none⟩ (.complex .f32 re im)).ownsRow w.heap.size 90 2 (.slice (some ⟨g1, 0, none⟩) n c1) n (ccells (xs' ++ gp.drop (k + 1))) ∧
              ((W.setCell ⟨g1, k * 2 + 1, none⟩ (.complex .f32 re im)).setCell ⟨g2, k * 2 + 1, none⟩ (.complex .f32 re im)).ownsRow w.heap.size 90 2 (.slice (some ⟨g2, 0, none⟩) n c2) n (ccells (ys' ++ gq.drop (k + 1))) ∧
              Hid (cnC xs' = (pairP sw (cnC gp) (cnC gq)).take (k + 1)) ∧ Hid (cnC ys' = (pairQ sw (cnC gp) (cnC gq)).take (k + 1)) ∧
              Ext w ((W.setCell ⟨g1, k * 2 + 1, none⟩ (.complex .f32 re im)).setCell ⟨g2, k * 2 + 1, none⟩ (.complex .f32 re im))) := Lib.hid (by
          intro W re im hW hre him
          refine ⟨xs ++ [⟨gp[k].y, re, im⟩], ys ++ [⟨gq[k].y, re, im⟩], by simp [hxl], by simp [hyl], ?_, ?_, Lib.hid (cnC_snoc HX.out hPk (by rw [ePk]; simp only [Cel.cn, hre, him])), Lib.hid (cnC_snoc HY.out hQk (by rw [eQk]; simp only [Cel.cn, hre, him])), ?_⟩
          · rw [← set_colour hxl hkp]
            exact own_other (p := ⟨g2, k * 2 + 1, none⟩) (own_set (own_ext hop hW) _) (fun b hb => by cases hb; exact hg12) _
          · rw [← set_colour hyl hkq]
            exact own_set (own_other (p := ⟨g1, k * 2 + 1, none⟩) (own_ext hoq hW) (fun b hb => by cases hb; exact fun e => hg12 e.symm) _) _
          · exact Below.setCell (p := ⟨g2, k * 2 + 1, none⟩) (Below.setCell (p := ⟨g1, k * 2 + 1, none⟩) (hbr.trans hW) hg1 _) hg2 _)
        clear p0 p1 q0 q1 exa eya hxa hya ePk eQk hop hoq
        rcases hsw with rfl | rfl | rfl
        · go_wp2_with fail
          go_region_with (first | (go_at_call 201; refine (conj_any _ _ _).mono ?_; rintro e w4 ⟨rfl, rfl⟩) | (go_at_call 200; refine (mean_any _ _ _ _ _).mono ?_; rintro e w5 ⟨⟨re, im, rfl, e1, e2⟩, n5, rfl⟩))
          all_goals go_wp2
          all_goals go_roundw
          all_goals first | (simp [intOf]; done) | (simp [intOf]; omega) | skip
          all_goals (
            obtain ⟨xs', ys', l1, l2, o1, o2, x1, x2, bx⟩ := STEP.out (wr.drewN (1 + n5)) re im (Ext.drewN _ _) (by rw [e1]; rfl) (by rw [e2, cn_negF]; rfl)
            exact ⟨k + 1, xs', ys', by omega, l1, l2, by go_num, o1, o2, x1, x2, bx⟩)
        · go_wp2_with fail
          go_region_with (first | (go_at_call 201; refine (conj_any _ _ _).mono ?_; rintro e w4 ⟨rfl, rfl⟩) | (go_at_call 200; refine (mean_any _ _ _ _ _).mono ?_; rintro e w5 ⟨⟨re, im, rfl, e1, e2⟩, n5, rfl⟩))
          all_goals go_wp2
          all_goals go_roundw
          all_goals first | (simp [intOf]; done) | (simp [intOf]; omega) | skip
          all_goals (
            obtain ⟨xs', ys', l1, l2, o1, o2, x1, x2, bx⟩ := STEP.out (wr.drewN (1 + n5)) re im (Ext.drewN _ _) (by rw [e1]; rfl) (by rw [e2, cn_negF]; rfl)
            exact ⟨k + 1, xs', ys', by omega, l1, l2, by go_num, o1, o2, x1, x2, bx⟩)
        · go_wp2
          all_goals go_roundw
          all_goals first | (simp [intOf]; done) | (simp [intOf]; omega) | skip
          all_goals (
            obtain ⟨xs', ys', l1, l2, o1, o2, x1, x2, bx⟩ := STEP.out wr 0 0 (Ext.refl _) (by rw [show cn .f32 0 = 0 by decide +kernel]; simp [pairRe]) (by rw [show cn .f32 0 = 0 by decide +kernel]; simp [pairIm])
            exact ⟨k + 1, xs', ys', by omega, l1, l2, by go_num, o1, o2, x1, x2, bx⟩)
      · obtain rfl : k = n := by omega
        have hx0 : xs ++ gp.drop xs.length = xs := by rw [hxl]; rw [List.drop_of_length_le (by omega), List.append_nil]
        have hy0 : ys ++ gq.drop ys.length = ys := by rw [hyl]; rw [List.drop_of_length_le (by omega), List.append_nil]
        rw [hxl] at hx0
        rw [hyl] at hy0
        rw [hx0] at hop
        rw [hy0] at hoq
        have e1 : cnC xs = pairP sw (cnC gp) (cnC gq) := by rw [HX.out]; apply List.take_of_length_le; rw [pairP_len]; simp; omega
        have e2 : cnC ys = pairQ sw (cnC gp) (cnC gq) := by rw [HY.out]; apply List.take_of_length_le; rw [pairQ_len]; simp; omega
        have HE : Hid ([xs, ys].map cnC = pair rs ss) := Lib.hid (by rw [HP.out]; simp only [List.map_cons, List.map_nil, e1, e2])
        have hap : Apart (.slice A1 k c1) (.slice A2 k c2) := fun b h1 h2 => by
          have := hi1 b h1
          have := hi2 b h2
          omega
        have HT := Lib.hid (Rows2.two (Eo := 43) (r := (k, ccells xs)) (s := (k, ccells ys)) hop hoq hap hbr.size)
        clear hx0 hy0 e1 e2 hop hoq
        go_wp2
        go_ret2
        refine ⟨⟨.slice (some ⟨wr.heap.size, 0, none⟩) 2 2, [.slice A1 k c1, .slice A2 k c2], [xs, ys], rfl, ?_, HE.out⟩, hbr.alloc _⟩
        have ht := HT.out
        have er : rowsC [xs, ys] = [(k, ccells xs), (k, ccells ys)] := by simp [hxl, hyl]
        unfold OCC
        rw [er]
        exact ht
end Go.Proofs.Ytiddaabodkglmaa

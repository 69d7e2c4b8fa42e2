import Derived.Test.YtiddaabodkglmaaGreatIb
namespace Go.Fx
open Go.RowKit
set_option linter.unusedVariables false
set_option linter.unusedSimpArgs false
theorem allTl_snoc {L : List (List Nat)} {t : Nat} (h0 : t < L.length) (h1 : t + 1 < L.length) (h : (L.take t).all tlOk = true) (a : tlOk L[t] = true) (b : tlOk L[t + 1] = true) : (L.take (t + 2)).all tlOk = true := by
  rw [List.take_succ_eq_append_getElem h1, List.take_succ_eq_append_getElem h0, List.all_append, List.all_append, h]
  simp [a, b]
end Go.Fx
namespace Go.Proofs.YtiddaabodkglmaaGreat
open Go.RowKit Go.Fx
set_option linter.unusedVariables false
set_option linter.unusedSimpArgs false
set_option maxRecDepth 100000 in
set_option maxHeartbeats 8000000 in
theorem sReceive_any (cells rows : Int) (slice least sat : Nat) (A : Option Addr) (n c : Nat) (S : Option Addr) (d : Nat) (rs : List Nat) (w : World) (h : Rd w S (rs.map fl)) (hn : n ≤ 9223372036854775807) (hrs : rs.length ≤ 1048576) (hd : rs.length ≤ d) :
    Calls Tryz.prog 5 #[.agg #[.int .i64 cells, .int .i64 rows, .float .f32 slice, .float .f32 least, .float .f32 sat, .slice A n c], .slice S rs.length d] w fun e w' => (∃ v us out, e = .returned (.tuple #[v, .bool (recvOk cells rows slice least sat n rs)]) ∧ OCC w' w.heap.size v us out ∧ out.map cnC = recv cells rows slice least sat n rs) ∧ Ext w w' := by
  have H := Lib.hid h
  clear h
  have hx0 : Ext w (w.alloc (.cells #[.int .i64 cells, .int .i64 rows, .float .f32 slice, .float .f32 least, .float .f32 sat, .slice A n c] 31)) := (Ext.refl _).alloc _
  have HO : Hid (∀ W, Ext ((w.alloc (.cells #[.int .i64 cells, .int .i64 rows, .float .f32 slice, .float .f32 least, .float .f32 sat, .slice A n c] 31)).alloc (.cells #[] 54)) W → OCC W w.heap.size (.slice (some ⟨w.heap.size + 1, 0, none⟩) 0 0) [] []) := Lib.hid (fun W hW => by
    have h := (Rows2.new (w.alloc (.cells #[.int .i64 cells, .int .i64 rows, .float .f32 slice, .float .f32 least, .float .f32 sat, .slice A n c] 31)) w.heap.size 54 83 2 hx0.size).ext hW
    have e : (w.alloc (.cells #[.int .i64 cells, .int .i64 rows, .float .f32 slice, .float .f32 least, .float .f32 sat, .slice A n c] 31)).heap.size = w.heap.size + 1 := by simp
    rw [e] at h
    exact h)
  clear hx0
  cases h1 : setOk cells rows slice least sat n
  · have HN := Lib.hid (recv_set (rs := rs) h1)
    go_enter Tryz.func5, Tryz.ntmps5
    go_wp2_with fail
    refine (sSetOk_any cells rows slice least sat A n c hn _).mono ?_
    rintro e w1 ⟨rfl, hb1⟩
    rw [h1]
    have ho1 := Lib.hid (HO.out _ hb1)
    have hx1 : Ext w w1 := Ext.trans (((Ext.refl _).alloc _).alloc _) hb1
    clear hb1
    go_wp2_with fail
    go_ret2
    exact ⟨⟨_, [], [], by rw [HN.out]; rfl, ho1.out, by rw [recv_nil HN.out]; rfl⟩, hx1⟩
  · have h1' := h1
    unfold setOk at h1'
    simp only [Bool.and_eq_true, decide_eq_true_eq] at h1'
    have hcl : 1 ≤ cells ∧ cells ≤ 64 := by omega
    have hrw : 4 ≤ rows ∧ rows ≤ 64 ∧ rows % 4 = 0 := by omega
    have H1 := Lib.hid h1
    clear h1'
    have q1 : IntKind.i64.wrap (4 * cells) = 4 * cells := by rw [IntKind.wrap_i64]; omega
    have q2 : IntKind.i64.wrap (24 + 4 * cells) = 24 + 4 * cells := by rw [IntKind.wrap_i64]; omega
    go_enter Tryz.func5, Tryz.ntmps5
    go_wp2_with fail
    refine (sSetOk_any cells rows slice least sat A n c hn _).mono ?_
    rintro e w1 ⟨rfl, hb1⟩
    rw [h1]
    clear h1
    have ho1 := Lib.hid (HO.out _ hb1)
    have k1 : w1.heap[w.heap.size]? = some (.cells #[.int .i64 cells, .int .i64 rows, .float .f32 slice, .float .f32 least, .float .f32 sat, .slice A n c] 31 (0, 0)) := blk_ext (blk_alloc (heap_alloc_new _ _)) hb1
    have hx1 : Ext w w1 := Ext.trans (((Ext.refl _).alloc _).alloc _) hb1
    clear hb1
    have KS : Hid (∀ W, Ext w1 W → W.cell? ⟨w.heap.size, 0, none⟩ = some (.int .i64 cells) ∧ W.cell? ⟨w.heap.size, 1, none⟩ = some (.int .i64 rows) ∧ W.cell? ⟨w.heap.size, 2, none⟩ = some (.float .f32 slice) ∧ W.cell? ⟨w.heap.size, 3, none⟩ = some (.float .f32 least) ∧ W.cell? ⟨w.heap.size, 4, none⟩ = some (.float .f32 sat)) := Lib.hid (fun W hW => by
      have := blk_ext k1 hW
      obtain ⟨ac0, ac1, ac2, ac3, ac4, ac5, af⟩ := blk6 this
      exact ⟨ac0, ac1, ac2, ac3, ac4⟩)
    clear k1
    obtain ⟨a0, a1, a2, a3, a4⟩ := KS.out w1 (Ext.refl _)
    go_wp2_with fail
    go_quiet (exact Calls.quiet_of_same ((head_any _).mono fun e w1 h => ⟨h.1, h.2.symm⟩))
    go_wp2_with fail
    clear a0 a1 a2 a3 a4
    refine (sStarts_any S d rs slice (24 + 4 * cells) 3 _ (H.out.ext (hx1.trans (Ext.drewN _ _))) hrs).mono ?_
    rintro e w2 ⟨⟨v2, rfl, ho2⟩, hb2⟩
    replace hb2 : Ext w1 w2 := (Ext.drewN _ _).trans hb2
    unfold OI' at ho2
    have hsl : (starts (lows rs slice) rs.length (24 + 4 * cells) 3).length ≤ 1048576 := starts_max
    have HL0 : Hid (recvLines cells slice rs = cutLines rs (starts (lows rs slice) rs.length (24 + 4 * cells) 3) (24 + 4 * cells)) := Lib.hid rfl
    generalize starts (lows rs slice) rs.length (24 + 4 * cells) 3 = st at ho2 hsl HL0
    obtain ⟨A2, c2, rfl, hr2, -⟩ := own_slice ho2
    obtain ⟨b0, b1, b2, b3, b4⟩ := KS.out w2 hb2
    go_wp2_with fail
    refine (sCutLines_any S A2 d c2 rs st (24 + 4 * cells) w2 (H.out.ext (hx1.trans hb2)) hr2 hrs hsl hd).mono ?_
    rintro e w3 ⟨⟨v3, us3, rfl, hg3⟩, hb3⟩
    have hle : ∀ l ∈ cutLines rs st (24 + 4 * cells), l.length ≤ rs.length := cutLines_le
    have hx3 : Ext w1 w3 := hb2.trans hb3
    rw [← HL0.out] at hg3 hle
    clear b0 b1 b2 b3 b4 ho2 hr2
    obtain ⟨A3, c3, rfl, hou3⟩ := hg3.form
    have hul3 : us3.length = (recvLines cells slice rs).length := by simpa using hg3.len
    rw [hul3] at hg3 hou3
    have ho3 := Lib.hid (ho1.out.ext hx3)
    obtain ⟨b0, b1, b2, b3, b4⟩ := KS.out w3 hx3
    by_cases hlen : ((recvLines cells slice rs).length : Int) = rows
    rotate_left
    · have HN := Lib.hid (recv_rows (least := least) (sat := sat) (log := n) hlen)
      generalize (recvLines cells slice rs).length = ll at *
      go_wp2_with fail
      go_ret2
      exact ⟨⟨_, [], [], by rw [HN.out]; rfl, ho3.out, by rw [recv_nil HN.out]; rfl⟩, hx1.trans hx3⟩
    · have h0 : 0 < (recvLines cells slice rs).length := by omega
      obtain ⟨g, rfl, hg2, hg3w⟩ := own_at hou3 h0
      have HLEN := Lib.hid hlen
      have HLE := Lib.hid hle
      generalize hLL : recvLines cells slice rs = L at *
      have HLL := Lib.hid hLL
      clear hLL HL0
      generalize hnl : L.length = nl at *
      have HNL := Lib.hid hnl
      subst hlen
      have hnl1 : 4 ≤ nl ∧ nl ≤ 64 := by omega
      have hnl2 : nl % 4 = 0 := by omega
      clear hrw hle hnl
      have hgw : g < w3.heap.size := hg3w
      have KT : Hid (∀ W, Ext w3 W → W.cell? ⟨w.heap.size, 1, none⟩ = some (.int .i64 nl) ∧ W.cell? ⟨w.heap.size, 3, none⟩ = some (.float .f32 least) ∧ W.cell? ⟨w.heap.size, 4, none⟩ = some (.float .f32 sat)) := Lib.hid (fun W hW => by
        obtain ⟨a0, a1, a2, a3, a4⟩ := KS.out W (hx3.trans hW)
        exact ⟨a1, a3, a4⟩)
      have HNW := Lib.hid (Rows2.new w3 w3.heap.size 54 83 2 (Nat.le_refl _))
      clear KS
      go_wp2_with fail
      clear b0 b1 b2 b3 b4
      go_loopw [9, 10] (fun v i wr => ∃ (t : Nat) (us2 : List Value) (rss : List (List Cel)), t ≤ nl ∧ t % 2 = 0 ∧ i = .int .i64 t ∧ Hid (OCC wr w3.heap.size v us2 rss) ∧ Hid (rss.map cnC = takeAll least sat (L.take t) ∧ takeAllOk least sat (L.take t) = true ∧ (L.take t).all tlOk = true) ∧ Ext w3 wr) (fun _ i _ => nl - (intOf i).toNat)
      case atStart => exact ⟨0, [], [], by omega, rfl, rfl, Lib.hid HNW.out, Lib.hid ⟨by simp [takeAll, twos], by simp [takeAllOk, twos], by simp⟩, (Ext.refl _).alloc _⟩
      case round =>
        clear HNW
        rename World => wr
        obtain ⟨t, us2, rss, htl, hte, rfl, ho2, HM, hbr2⟩ := hrel
        obtain ⟨A12, c12, rfl, hou⟩ := ho2.out.form
        have hrl : rss.length = t := takeAll_many hte (by rw [HNL.out]; exact htl) HM.out.2.1 HM.out.1
        have hul2 : us2.length = t := by have := ho2.out.len; rw [List.length_map] at this; omega
        by_cases hlt2 : t < nl
        · have hlt3 : t + 1 < nl := by omega
          have hL0 : t < L.length := by rw [HNL.out]; exact hlt2
          have hL1 : t + 1 < L.length := by rw [HNL.out]; exact hlt3
          obtain ⟨b5, o5, B5, d5, hA, -, -, hc5, hr5, -, hcap5⟩ := hg3.rd.1.atF hL0
          injection hA with hA
          injection hA with e1 e2
          subst e1 e2
          obtain ⟨b6, o6, B6, d6, hA, -, -, hc6, hr6, -, hcap6⟩ := hg3.rd.1.atF hL1
          injection hA with hA
          injection hA with e1 e2
          subst e1 e2
          have hs0 := Nat.le_trans (HLE.out _ (List.getElem_mem hL0)) hrs
          have hs1 := Nat.le_trans (HLE.out _ (List.getElem_mem hL1)) hrs
          have HT0 := Lib.hid (fun W (hW : Ext w3 W) => sToLevel_any B5 d5 L[t] W (hr5.ext hW) (by unfold maxLen; omega) hcap5)
          have HT1 := Lib.hid (fun W (hW : Ext w3 W) => sToLevel_any B6 d6 L[t + 1] W (hr6.ext hW) (by unfold maxLen; omega) hcap6)
          have HS := Lib.hid (fun x k => takeAll_snoc' (x := x) (k := k) hte hL0 hL1)
          have HS1 := Lib.hid (fun x k => takeAllOk_snoc' (x := x) (k := k) hte hL0 hL1)
          have HS2 := Lib.hid (fun x k => takeAllOk_not' (x := x) (k := k) hte hL0 hL1)
          have HS3 := Lib.hid (allTl_snoc hL0 hL1 HM.out.2.2)
          have HS4 := Lib.hid (fun h => allTl_not (L := L) hL0 h)
          have HS5 := Lib.hid (fun h => allTl_not (L := L) hL1 h)
          have HSM := Lib.hid (And.intro hs0 hs1)
          clear hr5 hr6 hcap5 hcap6 hs0 hs1
          generalize hR0 : L[t] = R0 at *
          generalize hR1 : L[t + 1] = R1 at *
          clear hR0 hR1
          rw [Nat.zero_add] at hc5
          rw [Nat.zero_add] at hc6
          have KT2 : Hid (∀ W, Ext w3 W → W.cell? ⟨g, t, none⟩ = some (.slice B5 R0.length d5) ∧ W.cell? ⟨g, t + 1, none⟩ = some (.slice B6 R1.length d6) ∧ W.cell? ⟨w.heap.size, 3, none⟩ = some (.float .f32 least) ∧ W.cell? ⟨w.heap.size, 4, none⟩ = some (.float .f32 sat)) := Lib.hid (fun W hh => ⟨by rw [Below.cell hh (p := ⟨g, t, none⟩) hgw]; exact hc5, by rw [Below.cell hh (p := ⟨g, t + 1, none⟩) hgw]; exact hc6, (KT.out W hh).2.1, (KT.out W hh).2.2⟩)
          clear hc5 hc6 hL0 hL1
          have i0 : IntKind.i64.wrap ((t : Int) + 1) = (t : Int) + 1 := by rw [IntKind.wrap_i64]; omega
          have i1 : (0 : Int) ≤ (t : Int) + 1 := by omega
          have i2 : (t : Int) + 1 < (nl : Int) := by omega
          have i3 : ((t : Int) + 1).toNat = t + 1 := by omega
          have i4 : (t : Int) < (nl : Int) := by omega
          have HUL := Lib.hid hul2
          have hub : us2.length ≤ 64 := by omega
          clear hul2 hrl
          obtain ⟨k1, k2, k3, k4⟩ := KT2.out _ hbr2
          go_wp2_with fail
          refine (HT0.out _ hbr2).mono ?_
          rintro e w5 ⟨⟨v5, gs, rfl, ho5, hg5⟩, hb5⟩
          have hx5 := hbr2.trans hb5
          clear k1 k2 k3 k4
          obtain ⟨k1, k2, k3, k4⟩ := KT2.out _ hx5
          go_wp2_with fail
          refine (HT1.out _ hx5).mono ?_
          rintro e w6 ⟨⟨v6, hs, rfl, ho6, hg6⟩, hb6⟩
          have hx6 := hx5.trans hb6
          clear k1 k2 k3 k4
          obtain ⟨k1, k2, k3, k4⟩ := KT2.out _ hx6
          have hgl5 : gs.length ≤ 1048576 := Nat.le_trans (tl_len hg5) HSM.out.1
          have hgl6 : hs.length ≤ 1048576 := Nat.le_trans (tl_len hg6) HSM.out.2
          unfold OF at ho5 ho6
          obtain ⟨A5, c5, rfl, hr5, -⟩ := own_slice ho5
          obtain ⟨A6, c6, rfl, hr6, -⟩ := own_slice ho6
          have hcp5 := own_cap ho5
          have hcp6 := own_cap ho6
          have hT := sTakePair_any A5 A6 c5 c6 gs hs least sat w6 (hr5.ext hb6) hr6 hgl5 hgl6 hcp5 hcp6
          have ht := take_of hg5 hg6 least (cn .f32 sat)
          rw [ht.1, ht.2] at hT
          have HT := Lib.hid hT
          clear hT ht hcp5 hcp6 ho5 ho6 hr5 hr6 hg5 hg6 hgl5 hgl6
          generalize gs.length = n5 at *
          generalize hs.length = n6 at *
          go_wp2_with fail
          refine HT.out.mono ?_
          rintro e w7 ⟨⟨v7, us7, rss7, rfl, o7, hg7⟩, hb7⟩
          have hx7 := hx6.trans hb7
          clear k1 k2 k3 k4
          cases ha : tlOk R0
          · have HN := Lib.hid (recv_tl (cells := cells) (rows := nl) (slice := slice) (least := least) (sat := sat) (log := n) (rs := rs) (by rw [HLL.out]; exact HS4.out ha))
            go_wp2_with fail
            go_ret2
            exact ⟨⟨_, [], [], by rw [HN.out]; rfl, ho3.out.ext hx7, by rw [recv_nil HN.out]; rfl⟩, (hx1.trans hx3).trans hx7⟩
          cases hb : tlOk R1
          · have HN := Lib.hid (recv_tl (cells := cells) (rows := nl) (slice := slice) (least := least) (sat := sat) (log := n) (rs := rs) (by rw [HLL.out]; exact HS5.out hb))
            go_wp2_with fail
            go_ret2
            exact ⟨⟨_, [], [], by rw [HN.out]; rfl, ho3.out.ext hx7, by rw [recv_nil HN.out]; rfl⟩, (hx1.trans hx3).trans hx7⟩
          cases hok : takeOk (tl R0) (tl R1) least (cn .f32 sat)
          · have HN := Lib.hid (recv_take (cells := cells) (rows := nl) (slice := slice) (least := least) (sat := sat) (log := n) (rs := rs) (by rw [HLL.out]; exact HS2.out _ _ hok))
            go_wp2_with fail
            go_ret2
            exact ⟨⟨_, [], [], by rw [HN.out]; rfl, ho3.out.ext hx7, by rw [recv_nil HN.out]; rfl⟩, (hx1.trans hx3).trans hx7⟩
          have HOK := Lib.hid (And.intro ha (And.intro hb hok))
          clear ha hb hok
          obtain ⟨A7, c7, rfl, ho7⟩ := o7.form
          have hu6 : us7.length = 2 := by
            have h1 := congrArg List.length hg7
            rw [List.length_map, take_two HOK.out.2.2] at h1
            have h2 := o7.len
            rw [List.length_map] at h2; omega
          have HU6 := Lib.hid hu6
          have hub6 : us7.length ≤ 2 := by omega
          have hn6 : A7 = none → us7.length = 0 := by
            obtain ⟨A', c', e, -, h⟩ := own_slice ho7
            cases e; exact h
          have hoc : ∀ u ∈ us7, u.oneCell' = true := by
            intro u hu
            obtain ⟨r, -, ho⟩ := o7.mem hu
            obtain ⟨B, e, rfl, -, -⟩ := own_slice ho
            rfl
          have hzr : w3.heap.size ≤ w7.heap.size := hx7.size
          have hy7 : Ext wr w7 := (hb5.trans hb6).trans hb7
          clear hu6
          go_wp2_with (at_builtin; refine wpList_app rfl _ _ 28 rfl w3.heap.size 54 _ 1 24 Tryz.underlying28 info_sc rfl (by omega) (.slice A12 us2.length c12) us2.length us2 rfl (own_ext hou hy7) A7 us7.length c7 us7 rfl (own_rd ho7) (by rw [Nat.mul_one]) hn6 hoc (by unfold maxLen; omega) (by omega) hzr ?_; intro v8 w8 hown hg hat)
          go_roundw
          case rel =>
            refine ⟨t + 2, us2 ++ us7, rss ++ rss7, by omega, by omega, by go_num, Lib.hid ?_, Lib.hid ⟨by rw [List.map_append, HM.out.1, hg7, HS.out], HS1.out _ _ HM.out.2.1 HOK.out.2.2, HS3.out HOK.out.1 HOK.out.2.1⟩, ext_grow (base := w3.heap.size) hx7 (own_ext hou hy7) (Nat.le_refl _) hg⟩
            have e9 : rowsC (rss ++ rss7) = rowsC rss ++ rowsC rss7 := List.map_append
            unfold OCC
            rw [e9]
            exact Rows2.join (ho2.out.ext hy7) o7 hown hg hat (Nat.le_refl _) ho2.out.inR (hb5.trans hb6).size hx6.size
          case measure => simp [intOf]; omega
        · have htn : nl = t := by omega
          have HRV := Lib.hid (recv_all (cells := cells) (rows := nl) (slice := slice) (least := least) (sat := sat) (log := n) (rs := rs) H1.out (by rw [HLL.out, HNL.out]) (by
            rw [HLL.out]
            have h9 := HM.out.2.2
            rw [List.take_of_length_le (by rw [HNL.out]; omega)] at h9
            exact h9) (by
            rw [HLL.out]
            have h9 := HM.out.2.1
            rw [List.take_of_length_le (by rw [HNL.out]; omega)] at h9
            exact h9))
          have HM2 : Hid (rss.map cnC = takeAll least sat (recvLines cells slice rs)) := Lib.hid (by
            rw [HLL.out]
            have h9 := HM.out.1
            rw [List.take_of_length_le (by rw [HNL.out]; omega)] at h9
            exact h9)
          obtain ⟨g4, rfl, hg4, hg4w⟩ := own_at hou (by omega)
          obtain ⟨pp, hpp⟩ : ∃ pp, us2.length = 2 * pp := ⟨t / 2, by omega⟩
          have hc12 : us2.length ≤ c12 := own_cap hou
          have hrl2 : rss.length = 2 * pp := by omega
          have hpp2 : 2 ≤ pp ∧ pp ≤ 32 := by omega
          have hnpp : (nl : Int).toNat / 2 = pp := by omega
          have HW0 := fun W (hW : Ext wr W) => sWeave_any (some ⟨g4, 0 + 0, none⟩) (some ⟨g4, 0 + pp, none⟩) c12 (c12 - pp) _ _ (rss.take pp) (rss.drop pp) W (by
              have h1 := ho2.out.rd.1.cut 0 pp
              rw [List.drop_zero, List.drop_zero, ← List.map_take] at h1
              exact h1.ext hW) (by
              have h1 := ho2.out.rd.1.cut pp (2 * pp)
              rw [← List.map_drop, List.take_of_length_le (by simp; omega), List.take_of_length_le (by simp; omega)] at h1
              exact h1.ext hW) (by rw [List.length_take]; omega) (by rw [List.length_drop]; omega) (fun r hr => by
              have h1 := rss_each HM2.out takeAll_each r (List.mem_of_mem_take hr)
              omega) (fun r hr => by
              have h1 := rss_each HM2.out takeAll_each r (List.mem_of_mem_drop hr)
              omega)
          have el1 : (rss.take pp).length = pp := by rw [List.length_take]; omega
          have el2 : (rss.drop pp).length = pp := by rw [List.length_drop]; omega
          rw [el1, el2, Nat.add_zero, Nat.zero_add] at HW0
          have HW := Lib.hid HW0
          have hcp : pp ≤ c12 := by omega
          have hcp1 : ¬ c12 = pp := by omega
          have jq : (nl : Int).tdiv 2 = (pp : Int) := by rw [Int.tdiv_eq_ediv_of_nonneg (by omega)]; omega
          have jq2 : (nl : Int) / 2 = (pp : Int) := by omega
          have jw : IntKind.i64.wrap (pp : Int) = (pp : Int) := by rw [IntKind.wrap_i64]; omega
          have HEQ : Hid (recvOk cells nl slice least sat n rs = weaveOk (rss.take pp) (rss.drop pp) ∧ (weaveR (rss.take pp) (rss.drop pp)).map cnC = recv cells nl slice least sat n rs) := Lib.hid (by
            rw [HRV.out.1, HRV.out.2, hnpp, ← HM2.out, ← List.map_take, ← List.map_drop, weaveOk_cn, weaveR_cn]
            exact ⟨rfl, rfl⟩)
          clear HW0 el1 el2 ho2 HM hrl hul2 hrl2
          have hq : us2.length - pp = pp := by omega
          have j1 : (pp : Int) ≤ (c12 : Int) := by omega
          have j2 : (pp : Int) ≤ (us2.length : Int) := by omega
          have j3 : (0 : Int) ≤ (pp : Int) := by omega
          have j4 : (us2.length : Int) ≤ (c12 : Int) := by omega
          have j5 : pp ≤ us2.length := by omega
          clear hpp hnpp htn
          have KR : Hid (∀ W, Ext wr W → W.cell? ⟨w.heap.size, 1, none⟩ = some (.int .i64 nl)) := Lib.hid (fun W hW => (KT.out W (hbr2.trans hW)).1)
          have kr1 := KR.out _ (Ext.refl _)
          go_wp2_with fail
          go_region_held3 (fun W => W.cell? ⟨w.heap.size, 1, none⟩ = some (.int .i64 nl))
            (exact KR.out _ (by (repeat (first | exact Below.refl _ _ | assumption | refine below_drewN ?_ _ | refine Below.drew ?_ | refine Below.alloc ?_ (by first | exact Nat.le_refl _ | (simp; done) | (simp; omega)) _ | refine Below.setCell ?_ (by first | exact Nat.le_refl _ | (simp; done) | (simp; omega)) _))))
            (first
              | (go_at_call 23; refine (HW.out _ (by (repeat (first | exact Below.refl _ _ | assumption | refine below_drewN ?_ _ | refine Below.drew ?_ | refine Below.alloc ?_ (by first | exact Nat.le_refl _ | (simp; done) | (simp; omega)) _ | refine Below.setCell ?_ (by first | exact Nat.le_refl _ | (simp; done) | (simp; omega)) _)))).mono ?_; rintro e w6 ⟨⟨v6, us6, rfl, o6⟩, hb6⟩; replace hb6 := Ext.trans (a := wr) (by (repeat (first | exact Below.refl _ _ | assumption | refine below_drewN ?_ _ | refine Below.drew ?_ | refine Below.alloc ?_ (by first | exact Nat.le_refl _ | (simp; done) | (simp; omega)) _ | refine Below.setCell ?_ (by first | exact Nat.le_refl _ | (simp; done) | (simp; omega)) _))) hb6))
          go_wp2_with fail
          go_ret2
          have hX : Ext w wr := (hx1.trans hx3).trans hbr2
          exact ⟨⟨_, us6, _, by rw [HEQ.out.1]; rfl, o6.weak (by have := hX.size; exact this), HEQ.out.2⟩, hX.trans hb6⟩
end Go.Proofs.YtiddaabodkglmaaGreat

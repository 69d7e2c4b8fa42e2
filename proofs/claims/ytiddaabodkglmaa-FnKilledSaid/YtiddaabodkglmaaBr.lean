import Derived.Test.YtiddaabodkglmaaBq
import Derived.Test.YtiddaabodkglmaaDm
import Derived.Deep.CutRange
import Derived.BigQuiet
import Derived.Deep.RegionHeld3
namespace Go.Proofs.Ytiddaabodkglmaa
open Go.RowKit Go.Fx
set_option linter.unusedVariables false
set_option linter.unusedSimpArgs false
set_option maxRecDepth 100000 in
set_option maxHeartbeats 2000000 in
theorem killed_walk (A0 : Option Addr) (c0 : Nat) (code : List Int) (w : World) (h0 : Rd w A0 (code.map by8)) (hm0 : code.length ≤ maxLen) (hb0 : ∀ x ∈ code, 0 ≤ x ∧ x ≤ 255) :
    Calls Try.prog 34 #[.slice A0 code.length c0] w fun e w' => e = .returned (.bool true) ∧ Ext w w' := by
  have hM0 := hm0
  unfold maxLen at hM0
  have H0 := Lib.hid h0
  have HB0 := Lib.hid hb0
  clear h0 hb0
  by_cases hbig : 1048576 < code.length
  · go_enter Try.func34, Try.ntmps34
    go_wp2_with (go_at_call 39; refine (big_any _ _ _ _ hM0).mono ?_; rintro e w1 ⟨rfl, rfl⟩)
    go_ret
    exact ⟨rfl, Ext.refl _⟩
  have hn0 : code.length ≤ 1048576 := by omega
  go_enter Try.func34, Try.ntmps34
  go_wp2_with (go_at_call 39; refine (big_any _ _ _ _ hM0).mono ?_; rintro e w1 ⟨rfl, rfl⟩)
  refine (drawTakePair_any A0 c0 code _ H0.out hn0 HB0.out).mono ?_
  rintro e w1 ⟨⟨A, c, n, gs, B, d, m, hs, x, y, rfl, r1, r2, hgn, hhn, hl, hl', hk, hk'⟩, hb1⟩
  subst hgn hhn
  have KD : Hid (∀ W, Ext w1 W → Calls Try.prog 119 #[.slice A gs.length c, .slice B hs.length d] W fun e w' => (∃ v us rss, e = .returned (.tuple #[v, .bool (pairOk gs hs)]) ∧ OCC w' W.heap.size v us rss ∧ rss.map cnC = pair gs hs) ∧ Ext W w') := Lib.hid (fun W hW => iDecodePair_any A B c d gs hs W (r1.ext hW) (r2.ext hW) (by omega) (by omega) hk hk')
  have KT : Hid (∀ W, Ext w1 W → Calls Try.prog 132 #[.slice A gs.length c, .slice B hs.length d, .float .f32 x, .float .f32 y] W fun e w' => (∃ v us rss, e = .returned (.tuple #[v, .bool (takeOk gs hs x (cn .f32 y))]) ∧ OCC w' W.heap.size v us rss ∧ rss.map cnC = Fx.take gs hs x (cn .f32 y)) ∧ Ext W w') := Lib.hid (fun W hW => iTakePair_any A B c d gs hs x y W (r1.ext hW) (r2.ext hW) (by omega) (by omega) hk hk')
  have KG : Hid (∀ W, Ext w1 W → Calls Try.prog 115 #[.slice A gs.length c, .slice B hs.length d] W fun e w' => (∃ p q, e = .returned (.tuple #[.complex .f32 p q, .bool (hgOk gs hs)]) ∧ cn .f32 p = hgRe gs hs ∧ cn .f32 q = hgIm gs hs) ∧ Ext W w') := Lib.hid (fun W hW => iHueGain_any A B c d gs hs W (r1.ext hW) (r2.ext hW) (by omega) (by omega) hk hk')
  have KK : Hid (∀ z W, Ext w1 W → Calls Try.prog 114 #[.slice A gs.length c, .slice B hs.length d, .float .f32 z] W fun e w' => e = .returned (.bool (killed gs hs z)) ∧ Ext W w') := Lib.hid (fun z W hW => iIsKilled_any A B c d gs hs z W (r1.ext hW) (r2.ext hW) (by omega) (by omega) hk hk')
  have KW : Hid (∀ W, Ext w1 W → Calls Try.prog 116 #[.slice A gs.length c, .slice B hs.length d] W fun e w' => e = .returned (.int .i64 (swing gs hs)) ∧ Ext W w') := Lib.hid (fun W hW => iSwing_any A B c d gs hs W (r1.ext hW) (r2.ext hW) (by omega) (by omega) hk hk')
  clear r1 r2
  go_wp2_with fail
  refine (KD.out _ (Ext.refl _)).mono ?_
  rintro e w2 ⟨⟨v2, us2, rss2, rfl, ho2, hm2⟩, hb2⟩
  go_wp2_with fail
  refine (KT.out _ hb2).mono ?_
  rintro e w3 ⟨⟨v3, us3, rss3, rfl, ho3, hm3⟩, hb3⟩
  have HO2 := Lib.hid (ho2.ext hb3)
  replace hb3 := hb2.trans hb3
  have HO3 := Lib.hid ho3
  have HM2 := Lib.hid hm2
  have HM3 := Lib.hid hm3
  clear ho2 ho3 hm2 hm3 hb2
  go_wp2_with fail
  refine (KG.out _ hb3).mono ?_
  rintro e w4 ⟨⟨p, q, rfl, hp, hq⟩, hb4⟩
  have HO2 := Lib.hid (HO2.out.ext hb4)
  have HO3 := Lib.hid (HO3.out.ext hb4)
  replace hb4 := hb3.trans hb4
  have HZ := Lib.hid (fun h => kill_zero (a := gs) (b := hs) 0 h)
  have HP := Lib.hid (fun h => kill_gain (a := gs) (b := hs) hp h)
  clear hp hq hb3
  go_upto_region 7 with fail
  generalize hgq : hgOk gs hs = G
  clear hgq
  go_cut [68] from 45 (fun s wr => s = .bool false ∧ Ext w4 wr)
  case first =>
    cases G
    · have hbz := Ext.refl w4
      go_wp2_with fail
      refine (KW.out _ (hb4.trans hbz)).mono ?_
      rintro e w5 ⟨rfl, hb5⟩
      replace hb5 := Ext.trans hbz hb5
      by_cases hs0 : swing gs hs = 0
      · have hs1 : (swing gs hs == 0) = true := by rw [hs0]; rfl
        rw [hs0]
        go_wp2_with fail
        refine (KK.out _ _ (hb4.trans hb5)).mono ?_
        rintro e w6 ⟨rfl, hb6⟩
        rw [HZ.out hs0]
        go_wp2_with fail
        go_meet
        exact ⟨rfl, hb5.trans hb6⟩
      · have hs1 : (swing gs hs == 0) = false := by rw [beq_eq_false_iff_ne]; exact hs0
        go_wp2_with fail
        go_meet
        exact ⟨rfl, hb5⟩
    · cases hf : feq .f32 p 0
      · have hbz := Ext.refl w4
        go_wp2_with fail
        refine (KW.out _ (hb4.trans hbz)).mono ?_
        rintro e w5 ⟨rfl, hb5⟩
        replace hb5 := Ext.trans hbz hb5
        by_cases hs0 : swing gs hs = 0
        · have hs1 : (swing gs hs == 0) = true := by rw [hs0]; rfl
          rw [hs0]
          go_wp2_with fail
          refine (KK.out _ _ (hb4.trans hb5)).mono ?_
          rintro e w6 ⟨rfl, hb6⟩
          rw [HZ.out hs0]
          go_wp2_with fail
          go_meet
          exact ⟨rfl, hb5.trans hb6⟩
        · have hs1 : (swing gs hs == 0) = false := by rw [beq_eq_false_iff_ne]; exact hs0
          go_wp2_with fail
          go_meet
          exact ⟨rfl, hb5⟩
      · go_wp2_with fail
        refine (KK.out _ _ hb4).mono ?_
        rintro e w7 ⟨rfl, hbz⟩
        rw [HP.out hf]
        go_wp2_with fail
        refine (KW.out _ (hb4.trans hbz)).mono ?_
        rintro e w5 ⟨rfl, hb5⟩
        replace hb5 := Ext.trans hbz hb5
        by_cases hs0 : swing gs hs = 0
        · have hs1 : (swing gs hs == 0) = true := by rw [hs0]; rfl
          rw [hs0]
          go_wp2_with fail
          refine (KK.out _ _ (hb4.trans hb5)).mono ?_
          rintro e w6 ⟨rfl, hb6⟩
          rw [HZ.out hs0]
          go_wp2_with fail
          go_meet
          exact ⟨rfl, hb5.trans hb6⟩
        · have hs1 : (swing gs hs == 0) = false := by rw [beq_eq_false_iff_ne]; exact hs0
          go_wp2_with fail
          go_meet
          exact ⟨rfl, hb5⟩
  case rest =>
  obtain ⟨rfl, hbc⟩ := hcut
  have h4c := hbc
  replace hbc := hb4.trans hbc
  cases hpk : pairOk gs hs
  · have ht : takeOk gs hs x (cn .f32 y) = false := take_not hpk
    rw [ht]
    go_wp2_with fail
    go_ret
    exact ⟨rfl, hb1.trans hbc⟩
  · go_wp2_with fail
    refine (KK.out _ _ hbc).mono ?_
    rintro e w5 ⟨rfl, hb5⟩
    cases hkl : killed gs hs x
    · go_wp2_with fail
      go_ret
      exact ⟨rfl, hb1.trans (hbc.trans hb5)⟩
    · obtain ⟨t1, t2⟩ := take_killed (k := cn .f32 y) hpk hkl
      rw [t1]
      have hm2 := HM2.out
      have hm3 := HM3.out
      rw [t2] at hm3
      have hpr : pair gs hs = [pairP (swing gs hs) (alone false gs) (alone false hs), pairQ (swing gs hs) (alone false gs) (alone false hs)] := by unfold pair; rw [if_pos hpk]
      rw [hpr] at hm2 hm3
      have hlen2 : rss2.length = 2 := by have := congrArg List.length hm2; simpa using this
      have hlen3 : rss3.length = 2 := by have := congrArg List.length hm3; simpa using this
      have hsm : ∀ r ∈ rss2, r.length ≤ 64 := rss_each hm2 (by
        intro r hr
        simp only [List.mem_cons, List.not_mem_nil, or_false] at hr
        rcases hr with rfl | rfl
        · unfold pairP; rw [List.length_zipWith]; exact Nat.le_trans (Nat.min_le_left _ _) (alone_len _ _)
        · unfold pairQ; rw [List.length_zipWith]; exact Nat.le_trans (Nat.min_le_left _ _) (alone_len _ _))
      have HEQ : Hid (∀ r (h2 : r < rss2.length) (h3 : r < rss3.length), cnC rss3[r] = cnC (rss2[r].map grey1)) := Lib.hid (fun r h2 h3 => by
        have hm3' : rss3.map cnC = (rss2.map cnC).map (fun r => r.map grey1) := by rw [hm2]; exact hm3
        have e3 := congrArg (fun l => l[r]?) hm3'
        simp only [List.getElem?_map, List.getElem?_eq_getElem h2, List.getElem?_eq_getElem h3, Option.map_some, Option.some.injEq] at e3
        rw [e3, grey_cn])
      have hx5 := hbc.trans hb5
      have ho2 := HO2.out.ext (h4c.trans hb5)
      have ho3 := HO3.out.ext (h4c.trans hb5)
      have hul2 : us2.length = 2 := by rw [← hlen2]; simpa using ho2.len
      have hul3 : us3.length = 2 := by rw [← hlen3]; simpa using ho3.len
      obtain ⟨A2, c2, rfl, -⟩ := ho2.form
      obtain ⟨A3, c3, rfl, -⟩ := ho3.form
      rw [hul2] at ho2 ⊢
      rw [hul3] at ho3 ⊢
      have hG := iGreyed_any A2 c2 us2 rss2 w5 ho2.rd.1 (by omega) hsm
      rw [hlen2] at hG
      have HO2' := Lib.hid ho2
      have HO3' := Lib.hid ho3
      have HL2 := Lib.hid hlen2
      have HL3 := Lib.hid hlen3
      have HSM := Lib.hid hsm
      clear HO2 HO3 HM2 HM3 hm2 hm3 ho2 ho3 hlen2 hlen3 hul2 hul3 hsm hpr t1 t2 HZ HP hkl hpk
      go_wp2_with fail
      refine hG.mono ?_
      rintro e w6 ⟨⟨v6, us6, rfl, ho6⟩, hb6⟩
      have hul6 : us6.length = 2 := by rw [← HL2.out]; simpa using ho6.len
      obtain ⟨A6, c6, rfl, -⟩ := ho6.form
      rw [hul6] at ho6 ⊢
      have HO6 := Lib.hid ho6
      clear ho6 hul6 hG
      have hx6 := hx5.trans hb6
      go_wp2_with fail
      go_loopw [14, 15] (fun j z wr => ∃ r : Nat, r ≤ 2 ∧ j = .int .i64 r ∧ Ext w6 wr) (fun j _ _ => 2 - (intOf j).toNat)
      case atStart => exact ⟨0, by omega, rfl, Ext.refl _⟩
      case round =>
        rename World => wo
        obtain ⟨r, hr, rfl, hbr⟩ := hrel
        by_cases hlt : r < 2
        · have hltI : (r : Int) < 2 := by omega
          have q2 : r < rss2.length := by rw [HL2.out]; exact hlt
          have q3 : r < rss3.length := by rw [HL3.out]; exact hlt
          have q6 : r < (rss2.map (fun r => r.map grey1)).length := by rw [List.length_map]; exact q2
          obtain ⟨b2, o2, B2, d2, rfl, hw2, -, k2, m2, -, -⟩ := (HO2'.out.ext (hb6.trans hbr)).rd.1.atC q2
          obtain ⟨b3, o3, B3, d3, rfl, hw3, -, k3, m3, -, -⟩ := (HO3'.out.ext (hb6.trans hbr)).rd.1.atC q3
          obtain ⟨b6, o6, B6, d6, rfl, hw6, -, k6, m6, -, -⟩ := (HO6.out.ext hbr).rd.1.atC q6
          have e6 : (rss2.map (fun r => r.map grey1))[r] = rss2[r].map grey1 := by rw [List.getElem_map]
          rw [e6] at k6 m6
          have hE := HEQ.out r q2 q3
          have hS := HSM.out _ (List.getElem_mem q2)
          generalize rss2[r] = R at k2 m2 k6 m6 hE hS
          generalize rss3[r] = T at k3 m3 hE
          have hTl : T.length = R.length := by have := congrArg List.length hE; simpa using this
          have hKs := fun W (hW : Ext wo W) => sameRow_any B3 B6 d3 d6 T (R.map grey1) W (m3.ext hW) (m6.ext hW) (by rw [hTl]; unfold maxLen; omega) hE
          rw [List.length_map] at k6 hKs
          rw [hTl] at k3 hKs
          have HKS := Lib.hid hKs
          have HE2 := Lib.hid hE
          have HM2 := Lib.hid m2
          have HM3 := Lib.hid m3
          have HTL := Lib.hid hTl
          generalize hn : R.length = n at k2 k3 k6 HKS hS
          have HNR := Lib.hid hn
          clear hKs hE m2 m3 m6 hTl hn e6
          have hbo := Ext.refl wo
          have KS2 : Hid (∀ W, Ext wo W → W.cell? ⟨b3, o3 + r, none⟩ = some (.slice B3 n d3) ∧ W.cell? ⟨b6, o6 + r, none⟩ = some (.slice B6 n d6) ∧ W.cell? ⟨b2, o2 + r, none⟩ = some (.slice B2 n d2) ∧ Ext wo W) := Lib.hid (fun W hh => ⟨by rw [Below.cell hh (p := ⟨b3, o3 + r, none⟩) hw3]; exact k3, by rw [Below.cell hh (p := ⟨b6, o6 + r, none⟩) hw6]; exact k6, by rw [Below.cell hh (p := ⟨b2, o2 + r, none⟩) hw2]; exact k2, hh⟩)
          go_wp2_with fail
          go_region_held3 (fun W => W.cell? ⟨b3, o3 + r, none⟩ = some (.slice B3 n d3) ∧ W.cell? ⟨b6, o6 + r, none⟩ = some (.slice B6 n d6) ∧ W.cell? ⟨b2, o2 + r, none⟩ = some (.slice B2 n d2) ∧ Ext wo W)
            (exact KS2.out _ (by (repeat (first | exact Below.refl _ _ | assumption | refine below_drewN ?_ _ | refine Below.drew ?_ | refine Below.alloc ?_ (by first | exact Nat.le_refl _ | (simp; done) | (simp; omega)) _ | refine Below.setCell ?_ (by first | exact Nat.le_refl _ | (simp; done) | (simp; omega)) _))))
            (first
              | (go_at_call 134; refine (HKS.out _ (by (repeat (first | exact Below.refl _ _ | assumption | refine below_drewN ?_ _ | refine Below.drew ?_ | refine Below.alloc ?_ (by first | exact Nat.le_refl _ | (simp; done) | (simp; omega)) _ | refine Below.setCell ?_ (by first | exact Nat.le_refl _ | (simp; done) | (simp; omega)) _)))).mono ?_; rintro e w7 ⟨rfl, hb7⟩; replace hb7 := Ext.trans (a := wo) (by (repeat (first | exact Below.refl _ _ | assumption | refine below_drewN ?_ _ | refine Below.drew ?_ | refine Below.alloc ?_ (by first | exact Nat.le_refl _ | (simp; done) | (simp; omega)) _ | refine Below.setCell ?_ (by first | exact Nat.le_refl _ | (simp; done) | (simp; omega)) _))) hb7))
          go_wp2_with fail
          have HEC : Hid (∀ (j : Nat) (h3 : j < T.length) (h2 : j < R.length), feq .f32 T[j].re 0 = true ∧ feq .f32 T[j].im 0 = true ∧ cn .f32 T[j].y = cn .f32 R[j].y) := Lib.hid (fun j h3 h2 => by
            have e := congrArg (fun l => l[j]?) HE2.out
            simp only [cnC, List.getElem?_map, List.getElem?_eq_getElem h3, List.getElem?_eq_getElem h2, Option.map_some, Option.some.injEq] at e
            have e1 : cn .f32 T[j].y = cn .f32 R[j].y := congrArg Cel.y e
            have e2 : cn .f32 T[j].re = cn .f32 0 := congrArg Cel.re e
            have e3 : cn .f32 T[j].im = cn .f32 0 := congrArg Cel.im e
            refine ⟨?_, ?_, e1⟩
            · rw [← feq_cn_l, e2]; decide +kernel
            · rw [← feq_cn_l, e3]; decide +kernel)
          go_loopw [15] (fun i wr => ∃ j : Nat, j ≤ n ∧ i = .int .i64 j ∧ Ext wo wr) (fun i _ => n - (intOf i).toNat)
          case atStart => exact ⟨0, by omega, rfl, by (repeat (first | exact Below.refl _ _ | assumption | refine below_drewN ?_ _ | refine Below.drew ?_ | refine Below.alloc ?_ (by first | exact Nat.le_refl _ | (simp; done) | (simp; omega)) _ | refine Below.setCell ?_ (by first | exact Nat.le_refl _ | (simp; done) | (simp; omega)) _))⟩
          case round =>
            obtain ⟨j, hj, rfl, hbj⟩ := hrel
            obtain ⟨g1, g2, g3, -⟩ := KS2.out _ hbj
            by_cases hltj : j < n
            · have hltjI : (j : Int) < (n : Int) := by omega
              have jR : j < R.length := by rw [HNR.out]; exact hltj
              have jT : j < T.length := by rw [HTL.out]; exact jR
              obtain ⟨x2, p2, rfl, hx2, y2, z2⟩ := rc_at (HM2.out.ext hbj) jR
              obtain ⟨x3, p3, rfl, hx3, y3, z3⟩ := rc_at (HM3.out.ext hbj) jT
              obtain ⟨v1, v2, v3⟩ := HEC.out j jT jR
              have HV := Lib.hid v3
              generalize T[j] = tt at y3 z3 v1 v2 HV
              generalize R[j] = uu at y2 z2 HV
              clear v3
              go_wp2_with fail
              go_quiet ((go_at_call 99; exact Calls.quiet_of (same32_any _ _ HV.out _)))
              go_wp2_with fail
              go_roundw
              case rel => exact ⟨j + 1, by omega, by go_num, by (repeat (first | exact Below.refl _ _ | assumption | refine below_drewN ?_ _ | refine Below.drew ?_ | refine Below.alloc ?_ (by first | exact Nat.le_refl _ | (simp; done) | (simp; omega)) _ | refine Below.setCell ?_ (by first | exact Nat.le_refl _ | (simp; done) | (simp; omega)) _))⟩
              case measure => simp [intOf]; omega
            · go_wp2_with fail
              go_roundw
              case rel => exact ⟨r + 1, by omega, by go_num, hbr.trans hbj⟩
              case measure => simp [intOf]; omega
        · go_wp2_with fail
          go_ret
          exact ⟨rfl, hb1.trans (hx6.trans hbr)⟩
end Go.Proofs.Ytiddaabodkglmaa

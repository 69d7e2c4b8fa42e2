import Derived.Test.YtiddaabodkglmaaEx
import Derived.Test.YtiddaabodkglmaaEv
import Derived.Test.YtiddaabodkglmaaEu
namespace Go.Fx
open Go.RowKit
theorem rd_part {w : World} {A : Option Addr} {code : List Int} (h : Rd w A (code.map by8)) (k : Nat) : Rd w (A.map (fun x => x.add k)) ((code.drop k).map by8) := by
  rcases h with h | ⟨b, off, rfl, hb, hc⟩
  · have : code = [] := by simpa using h
    subst this; exact .inl (by simp)
  · refine .inr ⟨b, off + k, ?_, hb, fun j u hu => ?_⟩
    · show some ((⟨b, off, none⟩ : Addr).add k) = _
      unfold Addr.add
      by_cases hk : k = 0
      · subst hk; simp
      · simp [hk]
    · have h2 : (code.map by8)[k + j]? = some u := by rw [List.map_drop, List.getElem?_drop] at hu; exact hu
      have := hc _ u h2
      rwa [← Nat.add_assoc] at this
theorem own_max {w : World} {base : Nat} {E : TypeId} {size n : Nat} {v : Value} {xs : List Value} (h : w.ownsRow base E size v n xs) : n ≤ maxLen := by
  rcases own_form h with ⟨_, h2, _⟩ | ⟨g, c, _, _, _, h1, h2⟩
  · omega
  · omega
end Go.Fx
namespace Go.Proofs.Ytiddaabodkglmaa
open Go.RowKit Go.Fx
set_option linter.unusedVariables false
set_option linter.unusedSimpArgs false
set_option maxRecDepth 100000 in
set_option maxHeartbeats 2000000 in
theorem chained_walk (A0 : Option Addr) (c0 : Nat) (code : List Int) (w : World) (h0 : Rd w A0 (code.map by8)) (hm0 : code.length ≤ maxLen) (hb0 : ∀ x ∈ code, 0 ≤ x ∧ x ≤ 255) (hk0 : code.length ≤ c0) :
    Calls Try.prog 17 #[.slice A0 code.length c0] w fun e w' => e = .returned (.bool true) ∧ Ext w w' := by
  have hM0 := hm0
  unfold maxLen at hM0
  have H0 := Lib.hid h0
  have HB0 := Lib.hid hb0
  clear h0 hb0
  by_cases hbig : 1048576 < code.length
  · go_enter Try.func17, Try.ntmps17
    go_wp2_with (go_at_call 39; refine (big_any _ _ _ _ hM0).mono ?_; rintro e w1 ⟨rfl, rfl⟩)
    go_ret
    exact ⟨rfl, Ext.refl _⟩
  have hn0 : code.length ≤ 1048576 := by omega
  go_enter Try.func17, Try.ntmps17
  go_wp2_with (go_at_call 39; refine (big_any _ _ _ _ hM0).mono ?_; rintro e w1 ⟨rfl, rfl⟩)
  refine (drawPlainCh_any A0 c0 code _ H0.out hn0 HB0.out).mono ?_
  rintro e w1 ⟨⟨ca, rfl, hpa⟩, hb1⟩
  have hq1 := heap_alloc_new w1 (.cells #[.float .f32 ca.a, .float .f32 ca.off, .complex .f32 ca.re ca.im] 32)
  have hal1 : Ext w1 (w1.alloc (.cells #[.float .f32 ca.a, .float .f32 ca.off, .complex .f32 ca.re ca.im] 32)) := (Ext.refl _).alloc _
  have HQ1 := Lib.hid hq1
  have HE1 := Lib.hid hal1
  have HPA := Lib.hid hpa
  have hkl : code.length / 2 ≤ code.length := by omega
  have HD2 : Hid (∀ A c W, Rd W A ((code.drop (code.length / 2)).map by8) → Calls Try.prog 84 #[.slice A (code.length - code.length / 2) c] W fun e w' => (∃ ch : Chn, e = .returned (.agg #[.float .f32 ch.a, .float .f32 ch.off, .complex .f32 ch.re ch.im]) ∧ PlainCh ch) ∧ Ext W w') := Lib.hid (fun A c W hW => by
    have hl : (code.drop (code.length / 2)).length = code.length - code.length / 2 := List.length_drop
    have := drawPlainCh_any A c (code.drop (code.length / 2)) W hW (by omega) (fun x hx => HB0.out x (List.mem_of_mem_drop hx))
    rw [hl] at this
    exact this)
  have HR2 : Hid (∀ W, Ext w W → Rd W (A0.map (fun x => x.add (code.length / 2))) ((code.drop (code.length / 2)).map by8) ∧ (c0 = code.length / 2 → Rd W A0 ((code.drop (code.length / 2)).map by8))) := Lib.hid (fun W hW => ⟨rd_part (H0.out.ext hW) _, fun h => by
    have : code.length = 0 := by omega
    have : code = [] := List.eq_nil_of_length_eq_zero this
    subst this; exact .inl (by simp)⟩)
  have HX1 := Lib.hid (hb1.trans hal1)
  clear hq1 hal1 hpa hb1
  by_cases hcz : c0 = code.length / 2
  · go_wp2_with fail
    refine Calls.mono (HD2.out _ _ _ (by exact (HR2.out _ HX1.out).2 hcz)) ?_
    clear hcz
    rintro e w2 ⟨⟨cb, rfl, hpb⟩, hb2⟩
    have HQ2 := Lib.hid (blk_ext HQ1.out hb2)
    have hx2 := HX1.out.trans hb2
    have HN2 := Lib.hid (heap_alloc_new w2 (.cells #[.float .f32 cb.a, .float .f32 cb.off, .complex .f32 cb.re cb.im] 32))
    have HE2 := Lib.hid ((Ext.refl w2).alloc (.cells #[.float .f32 cb.a, .float .f32 cb.off, .complex .f32 cb.re cb.im] 32))
    obtain ⟨cc, hcc, hch⟩ := chained HPA.out hpb
    have HCC := Lib.hid hcc
    have HCH := Lib.hid hch
    have HX2 := Lib.hid (hx2.trans HE2.out)
    clear hpb hb2 hcc hch hx2
    go_wp2_with fail
    refine (drawPlainRow_any A0 _ code _ (H0.out.ext HX2.out) hn0 HB0.out).mono ?_
    rintro e w3 ⟨⟨v3, row, ys, rfl, ho3, hp, hl1, hl6⟩, hb3⟩
    have HQ3 := Lib.hid (blk_ext HQ2.out (HE2.out.trans hb3))
    have HN3 := Lib.hid (blk_ext HN2.out hb3)
    have HX3 := Lib.hid (HX2.out.trans hb3)
    unfold OC at ho3
    have HP := Lib.hid hp
    have HL := Lib.hid (And.intro hl1 hl6)
    obtain ⟨A3, c3, rfl, -, -⟩ := own_slice ho3
    have hE := Lib.hid (iEncodeCells_any A3 c3 row true w3 (own_rd ho3) (by omega))
    generalize hrn : row.length = n3 at ho3 hE ⊢
    clear ho3 hp hl1 hl6 hrn hb3
    go_wp2_with fail
    refine hE.out.mono ?_
    rintro e w4 ⟨⟨v4, gs, rfl, ho4, hg4⟩, hb4⟩
    have hlv := plain_enc HP.out HL.out.1 (by have := HL.out.2; omega) hg4
    have hys : 1 ≤ ys.length ∧ ys.length ≤ 6 := by rw [← HP.out.1.len]; exact HL.out
    have HS := Lib.hid (HCH.out gs (ys.map (conjI true)) hlv (small_conj HP.out.2) (by rw [List.length_map]; exact hys.1) (by rw [List.length_map]; omega))
    unfold OF at ho4
    obtain ⟨A4, c4, rfl, -, -⟩ := own_slice ho4
    have HT := Lib.hid (fun ch W (hW : Ext w4 W) => iTransmit_any ch A4 c4 gs W ((own_rd ho4).ext hW) (own_max ho4) (own_cap ho4))
    have hgb : gs.length ≤ 24 := by rw [hlv.len, List.length_map]; omega
    have hgd : gs.length ≤ maxLen := own_max ho4
    generalize hgn : gs.length = m at ho4 HT hgb hgd ⊢
    have HQ4 := blk_ext HQ3.out hb4
    have HN4 := blk_ext HN3.out hb4
    have HX4 := Lib.hid (HX3.out.trans hb4)
    clear hlv hys hg4 hb4 ho4 hgn hE HCH
    have HA := Lib.hid HQ4
    have HB := Lib.hid HN4
    obtain ⟨xc0, xc1, xc2, xf⟩ := blk3 HQ4
    clear HQ4 HN4
    go_wp2_with fail
    refine (HT.out ca _ (Ext.refl _)).mono ?_
    rintro e w5 ⟨⟨v5, xs, rfl, ho5, hx5⟩, hb5⟩
    unfold OF at ho5
    obtain ⟨A5, c5, rfl, -, -⟩ := own_slice ho5
    have hT5 := Lib.hid (iTransmit_any cb A5 c5 xs w5 (own_rd ho5) (own_max ho5) (own_cap ho5))
    have HSX := Lib.hid (fun h => HS.out h xs hx5)
    generalize hxn : xs.length = q5 at ho5 hT5 ⊢
    have HA5 := blk_ext HA.out hb5
    have HB5 := blk_ext HB.out hb5
    have HA := Lib.hid HA5
    have HB := Lib.hid HB5
    obtain ⟨yc0, yc1, yc2, yf⟩ := blk3 HB5
    clear HA5 HB5 hx5 ho5 hxn
    go_wp2_with fail
    refine hT5.out.mono ?_
    rintro e w6 ⟨⟨v6, vs, rfl, ho6, hx6⟩, hb6⟩
    unfold OF at ho6
    obtain ⟨A6, c6, rfl, -, -⟩ := own_slice ho6
    have HR6 := Lib.hid (own_rd ho6)
    have HX6 := Lib.hid hx6
    have hvm := own_max ho6
    generalize hvn : vs.length = q6 at ho6 hvm ⊢
    have HVN := Lib.hid hvn
    have HA6 := blk_ext HA.out hb6
    have HB6 := blk_ext HB.out hb6
    replace hb6 := hb5.trans hb6
    obtain ⟨zc0, zc1, zc2, zf⟩ := blk3 HA6
    obtain ⟨uc0, uc1, uc2, uf⟩ := blk3 HB6
    clear HA6 HB6 HA HB ho6 hx6 hvn hb5
    go_wp2_with fail
    refine (iChain_ex ca cb cc HCC.out _).mono ?_
    rintro e w7 ⟨rfl, hb7⟩
    have hq7 := heap_alloc_new w7 (.cells #[.float .f32 cc.a, .float .f32 cc.off, .complex .f32 cc.re cc.im] 32)
    have he7 : Ext w7 (w7.alloc (.cells #[.float .f32 cc.a, .float .f32 cc.off, .complex .f32 cc.re cc.im] 32)) := (Ext.refl _).alloc _
    obtain ⟨sc0, sc1, sc2, sf⟩ := blk3 hq7
    replace hb7 := hb7.trans he7
    have HX67 := Lib.hid hb7
    replace hb7 := hb6.trans hb7
    clear hq7 he7
    go_wp2_with fail
    refine (HT.out cc _ hb7).mono ?_
    rintro e w8 ⟨⟨v8, zs, rfl, ho8, hx8⟩, hb8⟩
    unfold OF at ho8
    obtain ⟨A8, c8, rfl, -, -⟩ := own_slice ho8
    have HR8 := Lib.hid (own_rd ho8)
    have HX8 := Lib.hid hx8
    have HX68 := Lib.hid (HX67.out.trans hb8)
    generalize hzn : zs.length = q8 at ho8 ⊢
    have HZN := Lib.hid hzn
    have hxx := HX4.out.trans (hb7.trans hb8)
    clear ho8 hx8 hzn hb7 hb8
    cases hok : trOk ca gs
    · go_wp2_with fail
      go_ret
      exact ⟨rfl, hxx⟩
    · obtain ⟨k1, k2⟩ := HSX.out hok
      obtain ⟨l1, l2⟩ := k2 vs zs HX6.out HX8.out
      rw [k1]
      have hEq := Lib.hid (equals_any A6 A8 c6 c8 vs zs w8 (HR6.out.ext HX68.out) HR8.out (by rw [HVN.out]; exact hvm) l1 l2)
      rw [HVN.out, HZN.out] at hEq
      clear k1 k2 l1 l2
      go_wp2_with fail
      refine hEq.out.mono ?_
      rintro e w9 ⟨rfl, n9, rfl⟩
      go_wp2_with fail
      go_ret
      exact ⟨rfl, hxx.trans (Ext.drewN _ _)⟩
  · go_wp2_with fail
    refine Calls.mono (HD2.out _ _ _ (by exact (HR2.out _ HX1.out).1)) ?_
    rintro e w2 ⟨⟨cb, rfl, hpb⟩, hb2⟩
    have HQ2 := Lib.hid (blk_ext HQ1.out hb2)
    have hx2 := HX1.out.trans hb2
    have HN2 := Lib.hid (heap_alloc_new w2 (.cells #[.float .f32 cb.a, .float .f32 cb.off, .complex .f32 cb.re cb.im] 32))
    have HE2 := Lib.hid ((Ext.refl w2).alloc (.cells #[.float .f32 cb.a, .float .f32 cb.off, .complex .f32 cb.re cb.im] 32))
    obtain ⟨cc, hcc, hch⟩ := chained HPA.out hpb
    have HCC := Lib.hid hcc
    have HCH := Lib.hid hch
    have HX2 := Lib.hid (hx2.trans HE2.out)
    clear hpb hb2 hcc hch hx2
    go_wp2_with fail
    refine (drawPlainRow_any A0 _ code _ (H0.out.ext HX2.out) hn0 HB0.out).mono ?_
    rintro e w3 ⟨⟨v3, row, ys, rfl, ho3, hp, hl1, hl6⟩, hb3⟩
    have HQ3 := Lib.hid (blk_ext HQ2.out (HE2.out.trans hb3))
    have HN3 := Lib.hid (blk_ext HN2.out hb3)
    have HX3 := Lib.hid (HX2.out.trans hb3)
    unfold OC at ho3
    have HP := Lib.hid hp
    have HL := Lib.hid (And.intro hl1 hl6)
    obtain ⟨A3, c3, rfl, -, -⟩ := own_slice ho3
    have hE := Lib.hid (iEncodeCells_any A3 c3 row true w3 (own_rd ho3) (by omega))
    generalize hrn : row.length = n3 at ho3 hE ⊢
    clear ho3 hp hl1 hl6 hrn hb3
    go_wp2_with fail
    refine hE.out.mono ?_
    rintro e w4 ⟨⟨v4, gs, rfl, ho4, hg4⟩, hb4⟩
    have hlv := plain_enc HP.out HL.out.1 (by have := HL.out.2; omega) hg4
    have hys : 1 ≤ ys.length ∧ ys.length ≤ 6 := by rw [← HP.out.1.len]; exact HL.out
    have HS := Lib.hid (HCH.out gs (ys.map (conjI true)) hlv (small_conj HP.out.2) (by rw [List.length_map]; exact hys.1) (by rw [List.length_map]; omega))
    unfold OF at ho4
    obtain ⟨A4, c4, rfl, -, -⟩ := own_slice ho4
    have HT := Lib.hid (fun ch W (hW : Ext w4 W) => iTransmit_any ch A4 c4 gs W ((own_rd ho4).ext hW) (own_max ho4) (own_cap ho4))
    have hgb : gs.length ≤ 24 := by rw [hlv.len, List.length_map]; omega
    have hgd : gs.length ≤ maxLen := own_max ho4
    generalize hgn : gs.length = m at ho4 HT hgb hgd ⊢
    have HQ4 := blk_ext HQ3.out hb4
    have HN4 := blk_ext HN3.out hb4
    have HX4 := Lib.hid (HX3.out.trans hb4)
    clear hlv hys hg4 hb4 ho4 hgn hE HCH
    have HA := Lib.hid HQ4
    have HB := Lib.hid HN4
    obtain ⟨xc0, xc1, xc2, xf⟩ := blk3 HQ4
    clear HQ4 HN4
    go_wp2_with fail
    refine (HT.out ca _ (Ext.refl _)).mono ?_
    rintro e w5 ⟨⟨v5, xs, rfl, ho5, hx5⟩, hb5⟩
    unfold OF at ho5
    obtain ⟨A5, c5, rfl, -, -⟩ := own_slice ho5
    have hT5 := Lib.hid (iTransmit_any cb A5 c5 xs w5 (own_rd ho5) (own_max ho5) (own_cap ho5))
    have HSX := Lib.hid (fun h => HS.out h xs hx5)
    generalize hxn : xs.length = q5 at ho5 hT5 ⊢
    have HA5 := blk_ext HA.out hb5
    have HB5 := blk_ext HB.out hb5
    have HA := Lib.hid HA5
    have HB := Lib.hid HB5
    obtain ⟨yc0, yc1, yc2, yf⟩ := blk3 HB5
    clear HA5 HB5 hx5 ho5 hxn
    go_wp2_with fail
    refine hT5.out.mono ?_
    rintro e w6 ⟨⟨v6, vs, rfl, ho6, hx6⟩, hb6⟩
    unfold OF at ho6
    obtain ⟨A6, c6, rfl, -, -⟩ := own_slice ho6
    have HR6 := Lib.hid (own_rd ho6)
    have HX6 := Lib.hid hx6
    have hvm := own_max ho6
    generalize hvn : vs.length = q6 at ho6 hvm ⊢
    have HVN := Lib.hid hvn
    have HA6 := blk_ext HA.out hb6
    have HB6 := blk_ext HB.out hb6
    replace hb6 := hb5.trans hb6
    obtain ⟨zc0, zc1, zc2, zf⟩ := blk3 HA6
    obtain ⟨uc0, uc1, uc2, uf⟩ := blk3 HB6
    clear HA6 HB6 HA HB ho6 hx6 hvn hb5
    go_wp2_with fail
    refine (iChain_ex ca cb cc HCC.out _).mono ?_
    rintro e w7 ⟨rfl, hb7⟩
    have hq7 := heap_alloc_new w7 (.cells #[.float .f32 cc.a, .float .f32 cc.off, .complex .f32 cc.re cc.im] 32)
    have he7 : Ext w7 (w7.alloc (.cells #[.float .f32 cc.a, .float .f32 cc.off, .complex .f32 cc.re cc.im] 32)) := (Ext.refl _).alloc _
    obtain ⟨sc0, sc1, sc2, sf⟩ := blk3 hq7
    replace hb7 := hb7.trans he7
    have HX67 := Lib.hid hb7
    replace hb7 := hb6.trans hb7
    clear hq7 he7
    go_wp2_with fail
    refine (HT.out cc _ hb7).mono ?_
    rintro e w8 ⟨⟨v8, zs, rfl, ho8, hx8⟩, hb8⟩
    unfold OF at ho8
    obtain ⟨A8, c8, rfl, -, -⟩ := own_slice ho8
    have HR8 := Lib.hid (own_rd ho8)
    have HX8 := Lib.hid hx8
    have HX68 := Lib.hid (HX67.out.trans hb8)
    generalize hzn : zs.length = q8 at ho8 ⊢
    have HZN := Lib.hid hzn
    have hxx := HX4.out.trans (hb7.trans hb8)
    clear ho8 hx8 hzn hb7 hb8
    cases hok : trOk ca gs
    · go_wp2_with fail
      go_ret
      exact ⟨rfl, hxx⟩
    · obtain ⟨k1, k2⟩ := HSX.out hok
      obtain ⟨l1, l2⟩ := k2 vs zs HX6.out HX8.out
      rw [k1]
      have hEq := Lib.hid (equals_any A6 A8 c6 c8 vs zs w8 (HR6.out.ext HX68.out) HR8.out (by rw [HVN.out]; exact hvm) l1 l2)
      rw [HVN.out, HZN.out] at hEq
      clear k1 k2 l1 l2
      go_wp2_with fail
      refine hEq.out.mono ?_
      rintro e w9 ⟨rfl, n9, rfl⟩
      go_wp2_with fail
      go_ret
      exact ⟨rfl, hxx.trans (Ext.drewN _ _)⟩
end Go.Proofs.Ytiddaabodkglmaa

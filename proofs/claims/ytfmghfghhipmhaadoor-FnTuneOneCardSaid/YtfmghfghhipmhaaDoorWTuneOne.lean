import Derived.Test.YtfmghfghhipmhaaDoorUg
namespace Go.Proofs.YtfmghfghhipmhaaDoor
open Go.RowKit Go.Fx Go.Sort
set_option linter.unusedVariables false
set_option linter.unusedSimpArgs false
theorem rd_prefix {w : World} {A : Option Addr} {xs ys : List Value} (h : Rd w A (xs ++ ys)) : Rd w A xs := by
  rcases h with h | ⟨b, off, hA, hb, hc⟩
  · exact .inl (List.append_eq_nil_iff.1 h).1
  · exact .inr ⟨b, off, hA, hb, fun j u hu => hc j u (by rw [List.getElem?_append_left (List.getElem?_eq_some_iff.1 hu).1]; exact hu)⟩
set_option maxRecDepth 100000 in
set_option maxHeartbeats 8000000 in
theorem tuneOne_walk (A0 : Option Addr) (c0 : Nat) (code : List Int) (w : World) (E : Env w) (h0 : Rd w A0 (code.map by8)) (hm0 : code.length ≤ maxLen) (hb0 : ∀ x ∈ code, 0 ≤ x ∧ x ≤ 255) :
    Calls Tryd.prog 7 #[.slice A0 code.length c0] w fun e w' => e = .returned (.bool true) ∧ Ext w w' := by
  have HE := Lib.hid E
  have HR := Lib.hid h0
  have HB := Lib.hid hb0
  unfold maxLen at hm0
  clear E h0 hb0
  by_cases hbig : 1048576 < code.length
  · have hbI : (1048576 : Int) < (code.length : Int) := by omega
    go_enter Tryd.func7, Tryd.ntmps7
    go_wp2_with fail
    refine (bigD_any A0 code.length c0 _).mono ?_
    rintro e w1 ⟨rfl, rfl⟩
    go_wp2_with fail
    go_ret
    exact ⟨rfl, Ext.refl _⟩
  have hm1 : code.length ≤ 1048576 := by omega
  have hbI : ¬ (1048576 : Int) < (code.length : Int) := by omega
  clear hbig
  go_enter Tryd.func7, Tryd.ntmps7
  go_wp2_with fail
  refine (bigD_any A0 code.length c0 _).mono ?_
  rintro e w1 ⟨rfl, rfl⟩
  go_wp2_with fail
  refine (drawTune_any A0 c0 code _ HR.out hm1 HB.out).mono ?_
  rintro e w2 ⟨⟨S, v2, l, rfl, ho2, hl101, hl64⟩, hb2⟩
  have hz2 := (own_slice ho2)
  obtain ⟨A, c, rfl, -, hz⟩ := hz2
  obtain ⟨b3, hb3⟩ : ∃ b, b = w2.heap.size := ⟨_, rfl⟩
  have HX3 : Hid (Ext w (w2.alloc (.cells #[.int .i64 S.cells, .int .i64 S.rows, .float .f32 S.slice, .float .f32 S.least, .float .f32 S.sat, .slice A S.log.length c] 28)) ∧ SetBlk 28 (w2.alloc (.cells #[.int .i64 S.cells, .int .i64 S.rows, .float .f32 S.slice, .float .f32 S.least, .float .f32 S.sat, .slice A S.log.length c] 28)) b3 S (.slice A S.log.length c) ∧ Rd (w2.alloc (.cells #[.int .i64 S.cells, .int .i64 S.rows, .float .f32 S.slice, .float .f32 S.least, .float .f32 S.sat, .slice A S.log.length c] 28)) A (S.log.map st)) := Lib.hid ⟨hb2.alloc _, by rw [hb3]; exact heap_alloc_new _ _, (own_rd ho2).ext ((Ext.refl _).alloc _)⟩
  go_upto_region 4 with fail
  rw [← hb3]
  generalize w2.alloc (.cells #[.int .i64 S.cells, .int .i64 S.rows, .float .f32 S.slice, .float .f32 S.least, .float .f32 S.sat, .slice A S.log.length c] 28) = w3 at *
  clear hb3 ho2 hb2
  have hTU := iTune_any S A c l w3 (HE.out.ext HX3.out.1) HX3.out.2.2 hz (by omega) (by omega)
  have hNo := @tune_no S l.data.toList
  have hLg := @tune_log S l.data.toList
  have hOk := @tune_ok S l.data.toList
  have hFO : tuneOk S l.data.toList = true → fieldsOk l.data.toList = true := fun h => by
    unfold tuneOk at h; simp only [Bool.and_eq_true] at h; exact h.1.2
  generalize tune S l.data.toList = T at *
  generalize tuneOk S l.data.toList = q at *
  have HTU := Lib.hid hTU
  clear hTU
  have kk := HX3.out.2.1
  obtain ⟨ac0, ac1, ac2, ac3, ac4, ac5, af⟩ := blk6 kk
  clear kk
  go_wp2_with fail
  refine HTU.out.mono ?_
  rintro e w4 ⟨⟨v4, rfl, ho4⟩, hb4⟩
  obtain ⟨A4, c4, rfl, -, -⟩ := own_slice ho4
  have hcap := own_cap ho4
  obtain ⟨b5, hb5⟩ : ∃ b, b = w4.heap.size := ⟨_, rfl⟩
  have HX5 : Hid (Ext w (w4.alloc (.cells #[.int .i64 T.cells, .int .i64 T.rows, .float .f32 T.slice, .float .f32 T.least, .float .f32 T.sat, .slice A4 T.log.length c4] 28)) ∧ SetBlk 28 (w4.alloc (.cells #[.int .i64 T.cells, .int .i64 T.rows, .float .f32 T.slice, .float .f32 T.least, .float .f32 T.sat, .slice A4 T.log.length c4] 28)) b3 S (.slice A S.log.length c) ∧ SetBlk 28 (w4.alloc (.cells #[.int .i64 T.cells, .int .i64 T.rows, .float .f32 T.slice, .float .f32 T.least, .float .f32 T.sat, .slice A4 T.log.length c4] 28)) b5 T (.slice A4 T.log.length c4) ∧ Rd (w4.alloc (.cells #[.int .i64 T.cells, .int .i64 T.rows, .float .f32 T.slice, .float .f32 T.least, .float .f32 T.sat, .slice A4 T.log.length c4] 28)) A4 (T.log.map st) ∧ Rd (w4.alloc (.cells #[.int .i64 T.cells, .int .i64 T.rows, .float .f32 T.slice, .float .f32 T.least, .float .f32 T.sat, .slice A4 T.log.length c4] 28)) A (S.log.map st)) := Lib.hid ⟨(HX3.out.1.trans hb4).alloc _, blk_alloc (blk_ext HX3.out.2.1 hb4), by rw [hb5]; exact heap_alloc_new _ _, (own_rd ho4).ext ((Ext.refl _).alloc _), (HX3.out.2.2.ext hb4).ext ((Ext.refl _).alloc _)⟩
  clear ac0 ac1 ac2 ac3 ac4 ac5 af HTU
  go_upto_region 5 with fail
  rw [← hb5]
  generalize w4.alloc (.cells #[.int .i64 T.cells, .int .i64 T.rows, .float .f32 T.slice, .float .f32 T.least, .float .f32 T.sat, .slice A4 T.log.length c4] 28) = w5 at *
  clear hb5 ho4 hb4 HX3
  have kk := HX5.out.2.1
  obtain ⟨ac0, ac1, ac2, ac3, ac4, ac5, af⟩ := blk6 kk
  have kk := HX5.out.2.2.1
  obtain ⟨zc0, zc1, zc2, zc3, zc4, zc5, zf⟩ := blk6 kk
  clear kk
  cases q
  · have hTS := hNo rfl
    have HSS : Hid (∀ W, Ext w5 W → Calls Tryd.prog 19 #[setT S (.slice A S.log.length c), setT T (.slice A4 T.log.length c4)] W fun e w' => e = .returned (.bool true) ∧ Ext W w') := Lib.hid (fun W hW => by
      have h8 := HX5.out.2.2.2.1.ext hW
      rw [hTS] at h8 ⊢
      exact sameSet_any S A A4 c c4 W (HX5.out.2.2.2.2.ext hW) h8 (by unfold maxLen; omega))
    clear hTS hNo hLg hOk hFO
    go_wp2_with fail
    refine (HSS.out _ (Ext.refl _)).mono ?_
    rintro e w6 ⟨rfl, hb6⟩
    go_wp2_with fail
    go_ret
    exact ⟨rfl, HX5.out.1.trans hb6⟩
  · have hTL := hLg rfl
    have hTK := hOk rfl
    have hF := hFO rfl
    have hfa := fields_again hF
    have hff := fields_few hF
    have hTn : T.log.length = S.log.length + 1 := by rw [hTL]; simp
    have hlast : (T.log.map st)[S.log.length]? = some (st (ba (unw (flds [] l.data.toList)))) := by rw [hTL]; simp
    have htake : T.log.take S.log.length = S.log := by rw [hTL]; simp
    have hun : (unw (flds [] l.data.toList)).length ≤ 600 := by
      have h1 := unw_len l.data.toList []
      unfold fieldsOk at hF
      simp only [Bool.and_eq_true, decide_eq_true_eq] at hF
      have := hF.1.1
      simp only [List.length_nil] at h1; omega
    have hrs : ∀ W, Ext w5 W → Rd W A4 (S.log.map st) := fun W hW => rd_prefix (ys := [st (ba (unw (flds [] l.data.toList)))]) (by
      have h9 := HX5.out.2.2.2.1.ext hW
      rw [hTL, List.map_append] at h9; exact h9)
    have HRS := Lib.hid hrs
    obtain ⟨g, off, hA4, hgw, hcell⟩ : ∃ g off, A4 = some ⟨g, off, none⟩ ∧ g < w5.heap.size ∧ w5.cell? ⟨g, off + S.log.length, none⟩ = some (.string (ba (unw (flds [] l.data.toList)))) := by
      rcases HX5.out.2.2.2.1 with h | ⟨b, o, h1, h2, h3⟩
      · rw [h] at hlast; cases hlast
      · exact ⟨b, o, h1, h2, h3 _ _ hlast⟩
    subst hA4
    have hft : fields l.data.toList = flds [] l.data.toList := fields_yes hF
    have hfu : fields (unw (flds [] l.data.toList)) = flds [] l.data.toList := by rw [fields_yes hfa.1, hfa.2]
    have HF1 : Hid (∀ W, Ext w5 W → Calls Tryd.prog 31 #[.string l] W fun e w' => (∃ v, e = .returned (.tuple #[v, .bool true]) ∧ OS w' W.heap.size v ((flds [] l.data.toList).map ba)) ∧ Ext W w') := Lib.hid (fun W hW => by
      have h9 := iSplitFields_any l W (HE.out.ext (HX5.out.1.trans hW)) (by unfold maxLen; omega)
      rw [hF, hft] at h9; exact h9)
    have HF2 : Hid (∀ W, Ext w5 W → Calls Tryd.prog 31 #[.string (ba (unw (flds [] l.data.toList)))] W fun e w' => (∃ v, e = .returned (.tuple #[v, .bool true]) ∧ OS w' W.heap.size v ((flds [] l.data.toList).map ba)) ∧ Ext W w') := Lib.hid (fun W hW => by
      have h9 := iSplitFields_any (ba (unw (flds [] l.data.toList))) W (HE.out.ext (HX5.out.1.trans hW)) (by rw [ba_size]; unfold maxLen; omega)
      rw [ba_data, hfa.1, hfu] at h9; exact h9)
    have HTO : Hid (∀ W, Calls Tryd.prog 18 #[setT T (.slice (some ⟨g, off, none⟩) T.log.length c4)] W fun e w' => e = .returned (.bool true) ∧ Ext W w') := Lib.hid (fun W => by
      have h9 := iSetOk_any T.cells T.rows T.slice T.least T.sat (some ⟨g, off, none⟩) T.log.length c4 (by omega) W
      rw [show setOk T.cells T.rows T.slice T.least T.sat T.log.length = true from hTK] at h9
      exact h9)
    obtain ⟨FR, hFR⟩ : ∃ FR, (flds [] l.data.toList).map ba = FR := ⟨_, rfl⟩
    rw [hFR] at HF1 HF2
    have hFRn : FR.length ≤ 24 := by rw [← hFR, List.length_map]; exact hff.1
    generalize ba (unw (flds [] l.data.toList)) = X at *
    have hne : ((T.log.length : Int) != (S.log.length : Int) + 1) = false := by rw [bne_eq_false_iff_eq]; omega
    have hltI : (S.log.length : Int) < (T.log.length : Int) := by omega
    have hcI : (S.log.length : Int) ≤ (c4 : Int) := by omega
    have HTn := Lib.hid hTn
    clear hNo hLg hOk hFO hTL hrs hTK hF hfa hff hlast htake hun hft hfu hFR hTn hz
    go_wp2_with fail
    refine (HTO.out _).mono ?_
    rintro e w6 ⟨rfl, hb6⟩
    go_wp2_with fail
    refine (HF1.out _ hb6).mono ?_
    rintro e w7 ⟨⟨v7, rfl, ho7⟩, hb7⟩
    obtain ⟨A7, c7, rfl, -, -⟩ := own_slice ho7
    have hB7 := hb6.trans hb7
    have hc7 : w7.cell? ⟨g, off + S.log.length, none⟩ = some (.string X) := by rw [Below.cell hB7 (p := ⟨g, off + S.log.length, none⟩) hgw]; exact hcell
    clear ac0 ac1 ac2 ac3 ac4 ac5 af zc0 zc1 zc2 zc3 zc4 zc5 zf
    have kk := blk_ext HX5.out.2.1 hB7
    obtain ⟨ac0, ac1, ac2, ac3, ac4, ac5, af⟩ := blk6 kk
    have kk := blk_ext HX5.out.2.2.1 hB7
    obtain ⟨zc0, zc1, zc2, zc3, zc4, zc5, zf⟩ := blk6 kk
    clear kk hb6 hb7 hcell
    go_wp2_with fail
    refine (HF2.out _ hB7).mono ?_
    rintro e w8 ⟨⟨v8, rfl, ho8⟩, hb8⟩
    obtain ⟨A8, c8, rfl, -, -⟩ := own_slice ho8
    have hB8 := hB7.trans hb8
    have HR7 := Lib.hid ((own_rd ho7).ext hb8)
    have HR8 := Lib.hid (own_rd ho8)
    clear ac0 ac1 ac2 ac3 ac4 ac5 af zc0 zc1 zc2 zc3 zc4 zc5 zf ho7 ho8 hc7
    have kk := blk_ext HX5.out.2.1 hB8
    obtain ⟨ac0, ac1, ac2, ac3, ac4, ac5, af⟩ := blk6 kk
    have kk := blk_ext HX5.out.2.2.1 hB8
    obtain ⟨zc0, zc1, zc2, zc3, zc4, zc5, zf⟩ := blk6 kk
    clear kk
    have Q1 : Hid (∀ W, Ext w8 W → Calls Tryd.prog 32 #[.slice A7 FR.length c7, .slice A8 FR.length c8] W fun e w' => e = .returned (.bool true) ∧ ∃ n, w' = W.drewN n) := Lib.hid (fun W hW => sameTexts_any A7 A8 c7 c8 FR W (HR7.out.ext hW) (HR8.out.ext hW) (by unfold maxLen; omega))
    have Q2 : Hid (∀ W, Ext w8 W → Calls Tryd.prog 32 #[.slice (some ⟨g, off, none⟩) S.log.length c4, .slice A S.log.length c] W fun e w' => e = .returned (.bool true) ∧ ∃ n, w' = W.drewN n) := Lib.hid (fun W hW => sameTexts_any (some ⟨g, off, none⟩) A c4 c S.log W (HRS.out _ (hB8.trans hW)) (HX5.out.2.2.2.2.ext (hB8.trans hW)) (by unfold maxLen; omega))
    clear HRS HF1 HF2 HTO
    go_wp2_with fail
    have K1 : Hid (∀ n, Calls Tryd.prog 32 #[.slice A7 FR.length c7, .slice A8 FR.length c8] (w8.drewN n) fun e w'' => e = .returned (.bool true) ∧ ∃ m, w'' = w8.drewN m) := Lib.hid (fun n => Calls.quiet_of (Q1.out _ (Ext.drewN _ _)))
    have K2 : Hid (∀ n, Calls Tryd.prog 32 #[.slice (some ⟨g, off, none⟩) S.log.length c4, .slice A S.log.length c] (w8.drewN n) fun e w'' => e = .returned (.bool true) ∧ ∃ m, w'' = w8.drewN m) := Lib.hid (fun n => Calls.quiet_of (Q2.out _ (Ext.drewN _ _)))
    clear Q1 Q2
    go_quiet (first | with_reducible exact K1.out _ | with_reducible exact K2.out _)
    go_wp2_with fail
    go_ret
    exact ⟨rfl, (HX5.out.1.trans hB8).trans (by (repeat (first | exact Below.refl _ _ | assumption | refine below_drewN ?_ _ | refine Below.drew ?_ | refine Below.alloc ?_ (by first | exact Nat.le_refl _ | (simp; done) | (simp; omega)) _ | refine Below.setCell ?_ (by first | exact Nat.le_refl _ | (simp; done) | (simp; omega)) _)))⟩
end Go.Proofs.YtfmghfghhipmhaaDoor

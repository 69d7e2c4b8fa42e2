import Derived.Test.YtiddaabodkglmaaHp
import Derived.Test.YtiddaabodkglmaaK6
import Derived.Test.YtiddaabodkglmaaEz
import Derived.Test.YtiddaabodkglmaaEf
namespace Go.Fx
open Go.RowKit
theorem places_len (K n : Nat) : (places K n).length = K := by simp [places]
theorem places_get {K W j : Nat} (h : j < K) : (places K (24 + 4 * W))[j]'(by rw [places_len]; exact h) = (j : Int) * (24 + 4 * (W : Int)) := by simp [places]
theorem places_at {K n j : Nat} (h : j < K) : ((places K n).map it)[j]? = some (.int .i64 ((j * n : Nat) : Int)) := by simp [places, h]
end Go.Fx
namespace Go.Proofs.Ytiddaabodkglmaa
open Go.RowKit Go.Fx
set_option linter.unusedVariables false
set_option linter.unusedSimpArgs false
set_option maxRecDepth 100000 in
theorem sameInts_any (A B : Option Addr) (c d : Nat) (rs : List Int) (w : World) (h : Rd w A (rs.map it)) (h' : Rd w B (rs.map it)) (hn : rs.length ≤ maxLen) :
    Calls Try.prog 117 #[.slice A rs.length c, .slice B rs.length d] w fun e w' => e = .returned (.bool true) ∧ Ext w w' := by
  unfold maxLen at hn
  go_enter Try.func117, Try.ntmps117
  go_wp2
  go_loopw [5] (fun i wr => ∃ (k : Nat), k ≤ rs.length ∧ i = .int .i64 k ∧ ∃ n, wr = w.drewN n) (fun i _ => rs.length - (intOf i).toNat)
  case atStart => exact ⟨0, Nat.zero_le _, rfl, 0, rfl⟩
  case round =>
    obtain ⟨k, hk, rfl, n, rfl⟩ := hrel
    by_cases hlt : k < rs.length
    · obtain ⟨b, off, rfl, hbw, hc⟩ := ri_at h hlt
      obtain ⟨b', off', rfl, hbw', hc'⟩ := ri_at h' hlt
      go_wp2_with fail
      go_quiet (fail)
      go_wp2
      go_roundw
      case rel => exact ⟨k + 1, by omega, by go_num, _, rfl⟩
      case measure => simp [intOf]; omega
    · go_wp2
      go_ret
      exact ⟨rfl, Ext.drewN w n⟩
set_option maxRecDepth 100000 in
set_option maxHeartbeats 4000000 in
theorem cutJoined_walk (A0 : Option Addr) (c0 : Nat) (code : List Int) (w : World) (h0 : Rd w A0 (code.map by8)) (hm0 : code.length ≤ maxLen) (hb0 : ∀ x ∈ code, 0 ≤ x ∧ x ≤ 255) :
    Calls Try.prog 28 #[.slice A0 code.length c0] w fun e w' => e = .returned (.bool true) ∧ Ext w w' := by
  have hM0 := hm0
  unfold maxLen at hM0
  have H0 := Lib.hid h0
  have HB0 := Lib.hid hb0
  clear h0 hb0
  by_cases hbig : 1048576 < code.length
  · go_enter Try.func28, Try.ntmps28
    go_wp2_with (go_at_call 39; refine (big_any _ _ _ _ hM0).mono ?_; rintro e w1 ⟨rfl, rfl⟩)
    go_ret
    exact ⟨rfl, Ext.refl _⟩
  have hn0 : code.length ≤ 1048576 := by omega
  go_enter Try.func28, Try.ntmps28
  go_wp2_with (go_at_call 39; refine (big_any _ _ _ _ hM0).mono ?_; rintro e w1 ⟨rfl, rfl⟩)
  refine (drawLink_any A0 c0 code _ H0.out hn0 HB0.out).mono ?_
  rintro e w1 ⟨⟨A, m, c, us, rss, W, ch, jj, O, X, Y, rfl, ho, hl, hp, hw1, hw4, hm, -⟩, hb1⟩
  have hm8 : 4 ≤ m ∧ m ≤ 8 := by omega
  have HO := Lib.hid ho
  have HLR := Lib.hid hl
  have HP := Lib.hid hp
  have HM := Lib.hid hm
  have hal : Ext w1 ((w1.alloc (.cells #[.float .f32 ch.a, .float .f32 ch.off, .complex .f32 ch.re ch.im] 32)).alloc (.cells #[] 29)) := ((Ext.refl _).alloc _).alloc _
  have HST := Lib.hid (own_new (w1.alloc (.cells #[.float .f32 ch.a, .float .f32 ch.off, .complex .f32 ch.re ch.im] 32)) w1.heap.size 29 1 (by simp))
  have HAL := Lib.hid hal
  obtain ⟨b0, of0, B0, d0, rfl, -, -, hc0, -, -, -⟩ := (ho.ext hal).rd.1.atC (i := 0) (by omega)
  rw [hp.wide _ (List.getElem_mem (by omega : 0 < rss.length)), Nat.add_zero] at hc0
  have HR : Hid (∀ (r : Nat) (h : r < rss.length) W', Ext w1 W' → ∃ B d, W'.cell? ⟨b0, of0 + r, none⟩ = some (.slice B W d) ∧ Rd W' B (ccells rss[r]) ∧ (B = none → W = 0)) := Lib.hid (fun r h W' hW => by
    obtain ⟨b, off, B, d, h1, -, -, h4, h5, h6, -⟩ := (ho.ext hW).rd.1.atC (i := r) h
    injection h1 with h1
    injection h1 with e1 e2
    subst e1 e2
    have hw := hp.wide _ (List.getElem_mem h)
    rw [hw] at h4 h6
    exact ⟨B, d, h4, h5, h6⟩)
  clear ho hl hp hm hal
  have hm0' : 0 < m := by omega
  have hmI : (0 : Int) < (m : Int) := by omega
  go_wp2_with fail
  go_loopw [5, 7, 8, 9] (fun v r z1 z2 wr => ∃ (k L : Nat) (ls : List (List Nat)), k ≤ m ∧ r = .int .i64 k ∧ Hid (ls.length = k) ∧ Hid (∀ l ∈ ls, CutLine W l) ∧ Hid (ls.flatten.length = L) ∧ L ≤ 40 * k ∧ wr.ownsRow w1.heap.size 29 1 v L (ls.flatten.map fl) ∧ Ext w1 wr) (fun _ r _ _ _ => m - (intOf r).toNat)
  case atStart => exact ⟨0, 0, [], by omega, rfl, Lib.hid rfl, Lib.hid (fun l h => by cases h), Lib.hid rfl, by omega, by simpa using HST.out, HAL.out⟩
  case round =>
    rename World => wo
    obtain ⟨k, L, ls, hk, rfl, HK, HC, HL, hLk, hst, hbr⟩ := hrel
    obtain ⟨A5, c5, rfl, -, hnil5⟩ := own_slice hst
    by_cases hlt : k < m
    · have hltI : (k : Int) < (m : Int) := by omega
      have hkr : k < rss.length := by rw [HLR.out]; exact hlt
      obtain ⟨B, d, hcell, hrow, hnil⟩ := HR.out k hkr (wo.alloc (.cells #[] 90)) (hbr.alloc _)
      have hwl := HP.out.wide _ (List.getElem_mem hkr)
      have HLK : Hid (∀ c ∈ rss[k], LinkCel c) := Lib.hid (by
        obtain ⟨ys, hv, hb⟩ := HP.out.link _ (List.getElem_mem hkr)
        intro c hc
        obtain ⟨i, hi, rfl⟩ := List.getElem_of_mem hc
        have hj : i < ys.length := by rw [← hv.len]; exact hi
        obtain ⟨q1, q2, q3, q4⟩ := hb _ (List.getElem_mem hj)
        exact ⟨ys[i], hv.at i hi hj, q1, q2, q3, q4⟩)
      have HRW := Lib.hid hrow
      have HWL := Lib.hid hwl
      generalize rss[k] = row at HLK HRW HWL
      clear hrow hwl
      go_wp2_with (at_builtin; refine wpList_app rfl _ _ 43 rfl wo.heap.size 90 _ 2 12 Try.underlying43 info_cell rfl (by omega) (.slice (some ⟨wo.heap.size, 0, none⟩) 0 0) 0 [] rfl (own_new wo _ _ 2 (Nat.le_refl _)) B W d (ccells row) rfl HRW.out (by rw [cells2_len, HWL.out]) hnil oneCell_cc (by unfold maxLen; omega) (by omega) (by simp) ?_; intro v3 w3 hown hg hat)
      rw [List.nil_append, Nat.zero_add] at hown
      have hx3 : Ext wo w3 := ext_grow (base := wo.heap.size) ((Ext.refl wo).alloc _) (own_new wo wo.heap.size 90 2 (Nat.le_refl _)) (Nat.le_refl _) hg
      obtain ⟨A3, c3, rfl, -, -⟩ := own_slice hown
      have HOW := Lib.hid hown
      clear hg hat hown
      go_wp2_with fail
      go_loopw [9] (fun i wr => ∃ (j : Nat) (xs : List Cel), j ≤ W ∧ i = .int .i64 j ∧ Hid (xs.length = W) ∧ Hid (wr.ownsRow wo.heap.size 90 2 (.slice A3 W c3) W (ccells xs)) ∧ Hid (∀ (q : Nat) (h : q < xs.length), (q < j → RaisedCel xs[q]) ∧ (j ≤ q → LinkCel xs[q])) ∧ Ext wo wr) (fun i _ => W - (intOf i).toNat)
      case atStart => exact ⟨0, row, by omega, rfl, HWL, HOW, Lib.hid (fun q h => ⟨fun h' => by omega, fun _ => HLK.out _ (List.getElem_mem h)⟩), hx3⟩
      case round =>
        clear HOW hx3
        obtain ⟨j, xs, hj, rfl, HXL, HXO, HXR, hbx⟩ := hrel
        by_cases hlj : j < W
        · have hljI : (j : Int) < (W : Int) := by omega
          have hjx : j < xs.length := by rw [HXL.out]; exact hlj
          obtain ⟨g3, rfl, hg1, hg2⟩ := own_at HXO.out (by omega)
          obtain ⟨q1, q2⟩ := cells2_at Fx.c1 Fx.c2 xs hjx
          have f1 := own_cell HXO.out q1
          have f2 := own_frozen HXO.out (j * 2)
          have HSET : Hid (∀ y, (wr.setCell ⟨g3, j * 2, none⟩ (.float .f32 y)).ownsRow wo.heap.size 90 2 (.slice (some ⟨g3, 0, none⟩) W c3) W (ccells (xs.set j ⟨y, xs[j].re, xs[j].im⟩))) := Lib.hid (fun y => by
            have := own_set HXO.out (j := j * 2) (.float .f32 y)
            rw [set_bright hjx] at this; exact this)
          have HLO := Lib.hid (raised_low ((HXR.out j hjx).2 (Nat.le_refl _)))
          have HHI := Lib.hid (raised_high ((HXR.out j hjx).2 (Nat.le_refl _)))
          generalize hxj : xs[j] = cj at f1 HSET HLO HHI
          have HXJ := Lib.hid hxj
          clear q1 q2 hxj
          cases hq : flt .f32 cj.y 1098907648
          · go_wp2_with fail
            go_roundw
            case rel =>
              refine ⟨j + 1, xs, by omega, by go_num, HXL, HXO, Lib.hid (fun q h => ⟨fun h' => ?_, fun h' => (HXR.out q h).2 (by omega)⟩), hbx⟩
              by_cases hqj : q = j
              · subst hqj; rw [HXJ.out]; exact HHI.out hq
              · exact (HXR.out q h).1 (by omega)
            case measure => simp [intOf]; omega
          · go_wp2_with fail
            go_roundw
            case rel =>
              refine ⟨j + 1, xs.set j ⟨1098907648, cj.re, cj.im⟩, by omega, by go_num, Lib.hid (by rw [List.length_set]; exact HXL.out), Lib.hid (HSET.out _), Lib.hid (fun q h => ?_), Below.setCell (p := ⟨g3, j * 2, none⟩) hbx hg1 _⟩
              rw [List.length_set] at h
              by_cases hqj : j = q
              · subst hqj
                rw [List.getElem_set_self]
                exact ⟨fun _ => HLO.out, fun h' => by omega⟩
              · rw [List.getElem_set_ne hqj]
                exact ⟨fun h' => (HXR.out q h).1 (by omega), fun h' => (HXR.out q h).2 (by omega)⟩
            case measure => simp [intOf]; omega
        · obtain rfl : j = W := by omega
          have hml := iMakeLine_any A3 c3 xs ((k : Int) % 2 == 1) wr (by have := own_rd HXO.out; exact this) (by rw [HXL.out]; omega)
          rw [HXL.out] at hml
          have HML := Lib.hid hml
          clear hml
          go_wp2_with fail
          refine HML.out.mono ?_
          rintro e w6 ⟨⟨v6, gs, rfl, ho6, hg6⟩, hb6⟩
          have hcl := cut_line (fun c hc => by obtain ⟨q, hq, rfl⟩ := List.getElem_of_mem hc; exact (HXR.out q hq).1 (by rw [HXL.out] at hq; exact hq)) HXL.out hw1 (by omega) hg6
          have HCL := Lib.hid hcl
          have hgl := hcl.on.len
          unfold OF at ho6
          generalize hgn : gs.length = M at ho6 hgl ⊢
          have HGN := Lib.hid hgn
          obtain ⟨A6, c6, rfl, -, hnil6⟩ := own_slice ho6
          have HR6 := Lib.hid (own_rd ho6)
          have hM40 : M ≤ 40 := by omega
          have HST6 := Lib.hid (own_ext hst (hbx.trans hb6))
          have HX6 := Lib.hid (hbr.trans (hbx.trans hb6))
          clear hg6 hcl ho6 hgn hgl hst
          go_wp2_with (at_builtin; refine wpList_app rfl _ _ 22 rfl w1.heap.size 29 _ 1 4 Try.underlying22 info_f32 rfl (by omega) (.slice A5 L c5) L (ls.flatten.map fl) rfl HST6.out A6 M c6 (gs.map fl) rfl HR6.out (by rw [List.length_map, HGN.out, Nat.mul_one]) hnil6 oneCell_fl (by unfold maxLen; omega) (by omega) (HX6.out.size) ?_; intro v7 w7 hown hg hat)
          go_roundw
          case rel =>
            exact ⟨k + 1, L + M, ls ++ [gs], by omega, by go_num, Lib.hid (by rw [List.length_append, HK.out]; rfl), Lib.hid (fun l hl => by
              rcases List.mem_append.1 hl with h1 | h1
              · exact HC.out l h1
              · rw [List.mem_singleton] at h1; subst h1; exact HCL.out), Lib.hid (by rw [List.flatten_append, List.length_append, HL.out]; simp [HGN.out]), by omega, by rw [List.flatten_append, List.map_append]; simpa using hown, ext_grow (base := w1.heap.size) HX6.out HST6.out (Nat.le_refl _) hg⟩
          case measure => simp [intOf]; omega
    · obtain rfl : k = m := by omega
      obtain ⟨z1, z2, z3, z4⟩ := cut_all HC.out hw1 hw4 (by rw [HK.out]; exact HM.out)
      rw [HL.out] at z1 z2
      rw [HK.out] at z1 z2 z3 z4
      have HZ4 := Lib.hid z4
      have HL1 := Lib.hid z1
      have hRS := own_rd hst
      have HRS : Hid (∀ W', Ext wo W' → Rd W' A5 (ls.flatten.map fl)) := Lib.hid (fun W' hW => hRS.ext hW)
      have hcap5 := own_cap hst
      have hSt := iStarts_any A5 c5 ls.flatten 3256877056 (24 + 4 * (W : Int)) 1 wo hRS (by rw [HL.out]; omega)
      rw [HL.out, z2] at hSt
      have hCt : Hid (∀ (S : Option Addr) (d : Nat) W', Ext wo W' → Rd W' S ((places k (24 + 4 * W)).map it) → Calls Try.prog 70 #[.slice A5 L c5, .slice S k d, .int .i64 (24 + 4 * (W : Int))] W' fun e w' => (∃ v us, e = .returned v ∧ OG w' W'.heap.size v us ls) ∧ Ext W' w') := Lib.hid (fun S d W' hW hS => by
        have := iCutLines_any A5 S c5 d ls.flatten (places k (24 + 4 * W)) (24 + 4 * (W : Int)) W' (HRS.out W' hW) hS (by rw [HL.out]; omega) (by rw [places_len]; omega) (by rw [HL.out]; exact hcap5)
        rw [HL.out, places_len, z3] at this
        exact this)
      have HST := Lib.hid hSt
      clear hSt z1 z2 z3 z4 hst hRS
      go_wp2_with fail
      refine HST.out.mono ?_
      rintro e w8 ⟨⟨v8, rfl, ho8⟩, hb8⟩
      unfold OI' at ho8
      rw [places_len] at ho8
      obtain ⟨A8, c8, rfl, -, -⟩ := own_slice ho8
      have HP8 : Hid (∀ W', Ext w8 W' → Rd W' A8 ((places k (24 + 4 * W)).map it)) := Lib.hid (fun W' hW => (own_rd ho8).ext hW)
      clear ho8
      go_wp2_with fail
      refine (hCt.out A8 c8 _ hb8 (HP8.out _ (Ext.refl _))).mono ?_
      rintro e w9 ⟨⟨v9, us9, rfl, ho9⟩, hb9⟩
      have hu9 : us9.length = k := by have := ho9.len; rwa [List.length_map, HK.out] at this
      obtain ⟨A9, c9, rfl, -⟩ := ho9.form
      rw [hu9] at ho9 ⊢
      have HL9 : Hid (∀ (r : Nat) (h : r < ls.length) W', Ext w9 W' → ∃ b off B d, A9 = some ⟨b, off, none⟩ ∧ W'.cell? ⟨b, off + r, none⟩ = some (.slice B ls[r].length d) ∧ Rd W' B (ls[r].map fl) ∧ (B = none → ls[r].length = 0)) := Lib.hid (fun r h W' hW => by
        obtain ⟨b, off, B, d, h1, -, -, h4, h5, h6, -⟩ := (ho9.ext hW).rd.1.atF (i := r) h
        exact ⟨b, off, B, d, h1, h4, h5, h6⟩)
      have hb89 := hb8.trans hb9
      have HX9 := Lib.hid (hbr.trans hb89)
      have HB9 := Lib.hid hb9
      have HNW := Lib.hid (own_new w9 w9.heap.size 29 1 (Nat.le_refl _))
      clear ho9 hu9
      go_wp2_with fail
      go_loopw [12, 13, 14] (fun v q z wr => ∃ (j La : Nat), j ≤ k ∧ q = .int .i64 j ∧ Hid ((ls.take j).flatten.length = La) ∧ La ≤ 40 * j ∧ wr.ownsRow w9.heap.size 29 1 v La ((ls.take j).flatten.map fl) ∧ Ext w9 wr) (fun _ q _ _ => k - (intOf q).toNat)
      case atStart => exact ⟨0, 0, by omega, rfl, Lib.hid (by simp), by omega, by simpa using HNW.out, (Ext.refl _).alloc _⟩
      case round =>
        obtain ⟨j, La, hj, rfl, HLa, hLa, hoa, hba⟩ := hrel
        obtain ⟨A10, c10, rfl, -, hnil10⟩ := own_slice hoa
        by_cases hlj : j < k
        · have hljI : (j : Int) < (k : Int) := by omega
          have hjl : j < ls.length := by rw [HK.out]; exact hlj
          obtain ⟨b9, o9, B9, d9, rfl, hc9, hr9, hn9⟩ := HL9.out j hjl wr hba
          have hlen : ls[j].length = 24 + 4 * W := (HC.out _ (List.getElem_mem hjl)).on.len
          have htk : Hid ((ls.take (j + 1)).flatten = (ls.take j).flatten ++ ls[j]) := Lib.hid (by rw [List.take_succ_eq_append_getElem hjl, List.flatten_append]; simp)
          have hw4I : (W : Int) ≤ 4 := by omega
          have hw1I : (1 : Int) ≤ (W : Int) := by omega
          have hmul0 : 0 ≤ (j : Int) * (24 + 4 * (W : Int)) := Int.mul_nonneg (by omega) (by omega)
          have hmul1 : (j : Int) * (24 + 4 * (W : Int)) ≤ 320 := Int.le_trans (Int.mul_le_mul (show (j : Int) ≤ 8 by omega) (show (24 + 4 * (W : Int)) ≤ 40 by omega) (by omega) (by omega)) (by omega)
          have HER : Hid (∀ W', Ext wo W' → Calls Try.prog 47 #[.slice A5 L c5, .int .i64 ((j : Int) * (24 + 4 * (W : Int))), .int .i64 8] W' fun e w' => (∃ v, e = .returned v ∧ OF w' W'.heap.size v (erase ls.flatten ((j : Int) * (24 + 4 * (W : Int))) 8)) ∧ Ext W' w') := Lib.hid (fun W' hW => by
            have := iErase_any A5 c5 ls.flatten ((j : Int) * (24 + 4 * (W : Int))) 8 W' (HRS.out W' hW) (by rw [HL.out]; exact hnil5) (by rw [HL.out]; omega) (by omega) (by omega)
            rwa [HL.out] at this)
          generalize ls[j] = lj at hc9 hr9 hn9 hlen htk
          have HLJ := Lib.hid hlen
          have HR9 := Lib.hid hr9
          generalize hlm : lj.length = M9 at hc9 hn9 hlen
          have HLM := Lib.hid hlm
          have hM9 : M9 ≤ 40 := by omega
          have HOA := Lib.hid hoa
          have HBA := Lib.hid hba
          have hba0 := hba.size
          clear hr9 hlm hoa hba hlen
          go_wp2_with (at_builtin; refine wpList_app rfl _ _ 22 rfl w9.heap.size 29 _ 1 4 Try.underlying22 info_f32 rfl (by omega) (.slice A10 La c10) La ((ls.take j).flatten.map fl) rfl HOA.out B9 M9 d9 (lj.map fl) rfl HR9.out (by rw [List.length_map, HLM.out, Nat.mul_one]) hn9 oneCell_fl (by unfold maxLen; omega) (by omega) hba0 ?_; intro v11 w11 hown hg hat)
          have HX11 := Lib.hid (ext_grow (base := w9.heap.size) HBA.out HOA.out (Nat.le_refl _) hg)
          have HO11 := Lib.hid hown
          obtain ⟨A11, c11, rfl, -, -⟩ := own_slice hown
          clear hown hg hat
          refine (HER.out _ (hb89.trans HX11.out)).mono ?_
          rintro e w12 ⟨⟨v12, rfl, ho12⟩, hb12⟩
          unfold OF at ho12
          rw [erase_len, HL.out] at ho12
          obtain ⟨A12, c12, rfl, -, -⟩ := own_slice ho12
          have hS := iStarts_any A12 c12 (erase ls.flatten ((j : Int) * (24 + 4 * (W : Int))) 8) 3256877056 (24 + 4 * (W : Int)) 1 w12 (own_rd ho12) (by rw [erase_len, HL.out]; omega)
          rw [erase_len, HL.out] at hS
          by_cases h0 : 0 < j
          · have hz := HZ4.out j hlj h0
            rw [erase_len, HL.out] at hz
            rw [hz] at hS
            have HS := Lib.hid hS
            have h0I : (0 : Int) < (j : Int) := by omega
            clear hS hz ho12
            go_wp2_with fail
            refine HS.out.mono ?_
            rintro e w13 ⟨⟨v13, rfl, ho13⟩, hb13⟩
            unfold OI' at ho13
            rw [places_len] at ho13
            obtain ⟨A13, c13, rfl, -, -⟩ := own_slice ho13
            have hx13 := HX11.out.trans (hb12.trans hb13)
            have hsi := sameInts_any A13 A8 c13 c8 (places k (24 + 4 * W)) w13 (own_rd ho13) (HP8.out _ (HB9.out.trans hx13)) (by rw [places_len]; unfold maxLen; omega)
            rw [places_len] at hsi
            have HSI := Lib.hid hsi
            obtain ⟨b8, o8, rfl, -, hc8⟩ := ri_at (HP8.out w13 (HB9.out.trans hx13)) (i := j) (by rw [places_len]; exact hlj)
            rw [places_get hlj] at hc8
            have HX13 := Lib.hid hx13
            have HX1113 := Lib.hid (hb12.trans hb13)
            clear hsi ho13 hx13 hb12 hb13
            go_wp2_with fail
            refine HSI.out.mono ?_
            rintro e w14 ⟨rfl, hb14⟩
            go_wp2_with fail
            go_roundw
            case rel => exact ⟨j + 1, La + M9, by omega, by go_num, Lib.hid (by rw [htk.out, List.length_append, HLa.out, HLM.out]), by omega, by rw [htk.out, List.map_append]; exact own_ext HO11.out (HX1113.out.trans hb14), HX13.out.trans hb14⟩
            case measure => simp [intOf]; omega
          · have HS := Lib.hid hS
            have h0N : j = 0 := by omega
            have h0I : ¬ (0 : Int) < (j : Int) := by omega
            clear hS ho12 h0N
            go_wp2_with fail
            refine HS.out.mono ?_
            rintro e w13 ⟨⟨v13, rfl, -⟩, hb13⟩
            have hx13 := HX11.out.trans (hb12.trans hb13)
            obtain ⟨b8, o8, rfl, -, hc8⟩ := ri_at (HP8.out w13 (HB9.out.trans hx13)) (i := j) (by rw [places_len]; exact hlj)
            rw [places_get hlj] at hc8
            have HX13 := Lib.hid hx13
            have HX1113 := Lib.hid (hb12.trans hb13)
            clear hx13 hb12 hb13
            go_wp2_with fail
            go_roundw
            case rel => exact ⟨j + 1, La + M9, by omega, by go_num, Lib.hid (by rw [htk.out, List.length_append, HLa.out, HLM.out]), by omega, by rw [htk.out, List.map_append]; exact own_ext HO11.out HX1113.out, HX13.out⟩
            case measure => simp [intOf]; omega
        · obtain rfl : j = k := by omega
          have e1 : (ls.take j).flatten = ls.flatten := by rw [List.take_of_length_le (by rw [HK.out]; exact Nat.le_refl _)]
          rw [e1] at HLa hoa
          have hLL : La = L := by rw [← HLa.out, HL.out]
          subst hLL
          have hsm := sameS_any A10 A5 c10 c5 ls.flatten ls.flatten wr (own_rd hoa) (HRS.out _ (hb89.trans hba)) (by rw [HL.out]; unfold maxLen; omega) rfl
          rw [HL.out] at hsm
          have HSM := Lib.hid hsm
          clear hsm e1 hoa
          go_wp2_with fail
          refine HSM.out.mono ?_
          rintro e w15 ⟨rfl, n15, rfl⟩
          go_wp2_with fail
          go_ret
          exact ⟨rfl, hb1.trans (HX9.out.trans (hba.trans (Ext.drewN _ _)))⟩
end Go.Proofs.Ytiddaabodkglmaa

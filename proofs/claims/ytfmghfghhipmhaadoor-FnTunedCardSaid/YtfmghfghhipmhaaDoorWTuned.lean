import Derived.Test.YtfmghfghhipmhaaDoorUg
namespace Go.Fx
open Go.Lib
set_option linter.unusedVariables false
set_option linter.unusedSimpArgs false
theorem tuned_no : ∀ (ls : List Txt) (s : TS), s.ok = false → tuneAll s ls = s ∧ ((tuneFlags s ls).filter id).length = 0
  | [], s, _ => ⟨rfl, rfl⟩
  | l :: ls, s, h => by
    have h1 : tuneOk s l = false := by unfold tuneOk; rw [h]; rfl
    obtain ⟨h2, h3⟩ := tuned_no ls s h
    have e1 : tuneAll s (l :: ls) = tuneAll (tune s l) ls := rfl
    have e2 : tuneFlags s (l :: ls) = tuneOk s l :: tuneFlags (tune s l) ls := rfl
    rw [e1, e2, tune_no h1, h1]
    exact ⟨h2, h3⟩
theorem log_small : ∀ (ls : List Txt) (s : TS) (n : Nat), 600 ≤ n → (∀ x ∈ s.log, x.size ≤ n) → ∀ x ∈ (tuneAll s ls).log, x.size ≤ n
  | [], s, n, _, h, x, hx => h x hx
  | l :: ls, s, n, hn, h, x, hx => by
    have e1 : tuneAll s (l :: ls) = tuneAll (tune s l) ls := rfl
    rw [e1] at hx
    refine log_small ls (tune s l) n hn (fun y hy => ?_) x hx
    cases hk : tuneOk s l
    · rw [tune_no hk] at hy; exact h y hy
    · rw [tune_log hk] at hy
      rcases List.mem_append.1 hy with hy | hy
      · exact h y hy
      · simp only [List.mem_singleton] at hy
        subst hy
        rw [ba_size]
        have h1 := unw_len l []
        unfold tuneOk fieldsOk at hk
        simp only [Bool.and_eq_true, decide_eq_true_eq] at hk
        have h2 := hk.1.2.1.1
        simp only [List.length_nil] at h1
        omega
/-- the log, done again -/
theorem tuned_again {a b : Int} {ls : List Txt} (h : (newTS a b).ok = true) : retOk (newTS a b).cells (newTS a b).rows ((tuneAll (newTS a b) ls).log.map (·.data.toList)) = true ∧ retT (newTS a b).cells (newTS a b).rows ((tuneAll (newTS a b) ls).log.map (·.data.toList)) = tuneAll (newTS a b) ls := by
  have e : newTS a b = newT a b := by
    unfold newTS at h ⊢
    cases hq : (newT a b).ok
    · rw [hq] at h; simp at h
      exact absurd h (by decide)
    · rfl
  rw [e] at h ⊢
  obtain ⟨es, h1, h2, h3⟩ := tuneAll_again ls (newT a b)
  have h1' : (tuneAll (newT a b) ls).log = es.map ba := by rw [h1]; rfl
  have h4 : (tuneAll (newT a b) ls).log.map (·.data.toList) = es := by rw [h1']; simp [List.map_map, Function.comp_def]
  rw [h4]
  have hk : retOk (newT a b).cells (newT a b).rows es = true := by
    unfold retOk
    show ((newT a b).ok && (tuneFlags (newT a b) es).all id) = true
    rw [h, Bool.true_and, List.all_eq_true]
    exact h3
  refine ⟨hk, ?_⟩
  unfold retT
  rw [if_pos hk]
  exact h2
end Go.Fx
namespace Go.Proofs.YtfmghfghhipmhaaDoor
open Go.RowKit Go.Fx Go.Sort
set_option linter.unusedVariables false
set_option linter.unusedSimpArgs false
set_option maxRecDepth 100000 in
set_option maxHeartbeats 8000000 in
theorem tuned_walk (A0 : Option Addr) (c0 : Nat) (code : List Int) (w : World) (E : Env w) (h0 : Rd w A0 (code.map by8)) (hm0 : code.length ≤ maxLen) (hb0 : ∀ x ∈ code, 0 ≤ x ∧ x ≤ 255) :
    Calls Tryd.prog 4 #[.slice A0 code.length c0] w fun e w' => e = .returned (.bool true) ∧ Ext w w' := by
  have HE := Lib.hid E
  have HR := Lib.hid h0
  have HB := Lib.hid hb0
  unfold maxLen at hm0
  clear E h0 hb0
  by_cases hbig : 1048576 < code.length
  · have hbI : (1048576 : Int) < (code.length : Int) := by omega
    go_enter Tryd.func4, Tryd.ntmps4
    go_wp2_with fail
    refine (bigD_any A0 code.length c0 _).mono ?_
    rintro e w1 ⟨rfl, rfl⟩
    go_wp2_with fail
    go_ret
    exact ⟨rfl, Ext.refl _⟩
  have hm1 : code.length ≤ 1048576 := by omega
  have hbI : ¬ (1048576 : Int) < (code.length : Int) := by omega
  clear hbig
  go_enter Tryd.func4, Tryd.ntmps4
  go_wp2_with fail
  refine (bigD_any A0 code.length c0 _).mono ?_
  rintro e w1 ⟨rfl, rfl⟩
  go_wp2_with fail
  refine (drawTuneAll_any A0 c0 code _ HR.out hm1 HB.out).mono ?_
  rintro e w2 ⟨⟨a, b, ls, v2, rfl, ho2, hl5, hl64⟩, hb2⟩
  obtain ⟨F, D, rfl, -, -⟩ := own_slice ho2
  have hlog : (newTS a b).log = [] := by unfold newTS; split <;> rfl
  have HAG := Lib.hid (fun ls => @tuned_again a b ls)
  generalize newTS a b = S0 at *
  have hl0 : S0.log.length = 0 := by rw [hlog]; rfl
  have HLOG := Lib.hid hlog
  obtain ⟨txs, htx⟩ : ∃ txs, ls.map (·.data.toList) = txs := ⟨_, rfl⟩
  have HX2 : Hid (Ext w (w2.alloc (.cells #[.int .i64 S0.cells, .int .i64 S0.rows, .float .f32 S0.slice, .float .f32 S0.least, .float .f32 S0.sat, .slice none 0 0] 28)) ∧ SetBlk 28 (w2.alloc (.cells #[.int .i64 S0.cells, .int .i64 S0.rows, .float .f32 S0.slice, .float .f32 S0.least, .float .f32 S0.sat, .slice none 0 0] 28)) w2.heap.size S0 (.slice none 0 0) ∧ Rd (w2.alloc (.cells #[.int .i64 S0.cells, .int .i64 S0.rows, .float .f32 S0.slice, .float .f32 S0.least, .float .f32 S0.sat, .slice none 0 0] 28)) F (ls.map st)) := Lib.hid ⟨hb2.alloc _, heap_alloc_new _ _, (own_rd ho2).ext ((Ext.refl _).alloc _)⟩
  obtain ⟨b3, hb3⟩ : ∃ b, b = w2.heap.size := ⟨_, rfl⟩
  rw [← hb3] at HX2
  go_upto_region 4 with fail
  rw [← hb3]
  generalize w2.alloc (.cells #[.int .i64 S0.cells, .int .i64 S0.rows, .float .f32 S0.slice, .float .f32 S0.least, .float .f32 S0.sat, .slice none 0 0] 28) = w3 at *
  clear hb3 ho2 hb2 hlog
  have hTA := iTuneAll_any S0 none 0 F D ls w3 (HE.out.ext HX2.out.1) (.inl (by rw [HLOG.out]; rfl)) (fun _ => hl0) (by omega) HX2.out.2.2 (by omega) (fun x hx => by have := hl64 x hx; omega)
  have hTL := tuneAll_log txs S0
  have hTM := tuneAll_max txs S0
  have hTF := tuneFlags_len txs S0
  have hTS := log_small txs S0 600 (Nat.le_refl _) (fun x hx => by rw [HLOG.out] at hx; cases hx)
  have hTN := tuned_no txs S0
  have hAG := fun h => HAG.out txs h
  rw [htx, hl0] at hTA
  have hln : txs.length = ls.length := by rw [← htx, List.length_map]
  rw [hl0] at hTL hTM
  generalize hT : tuneAll S0 txs = T at *
  generalize hfl : tuneFlags S0 txs = fl at *
  have HTA := Lib.hid hTA
  have HTL := Lib.hid hTL
  have HTS := Lib.hid hTS
  have HTN := Lib.hid hTN
  have HAG2 := Lib.hid hAG
  have hfll : fl.length = ls.length := by omega
  have hT100 : T.log.length ≤ 100 := by omega
  clear hTA hTL hTS hTN hAG hT hfl HAG hTM htx hTF hln
  have HFLL := Lib.hid hfll
  clear hfll
  have kk := HX2.out.2.1
  obtain ⟨ac0, ac1, ac2, ac3, ac4, ac5, af⟩ := blk6 kk
  clear kk
  go_wp2_with fail
  refine HTA.out.mono ?_
  rintro e w4 ⟨⟨v4, f4, rfl, ho4, hof4, -⟩, hb4⟩
  obtain ⟨A4, c4, rfl, -, -⟩ := own_slice ho4
  obtain ⟨B4, d4, rfl, -, -⟩ := own_slice hof4
  obtain ⟨b5, hb5⟩ : ∃ b, b = w4.heap.size := ⟨_, rfl⟩
  have HX5 : Hid (Ext w (w4.alloc (.cells #[.int .i64 T.cells, .int .i64 T.rows, .float .f32 T.slice, .float .f32 T.least, .float .f32 T.sat, .slice A4 T.log.length c4] 28)) ∧ SetBlk 28 (w4.alloc (.cells #[.int .i64 T.cells, .int .i64 T.rows, .float .f32 T.slice, .float .f32 T.least, .float .f32 T.sat, .slice A4 T.log.length c4] 28)) b3 S0 (.slice none 0 0) ∧ SetBlk 28 (w4.alloc (.cells #[.int .i64 T.cells, .int .i64 T.rows, .float .f32 T.slice, .float .f32 T.least, .float .f32 T.sat, .slice A4 T.log.length c4] 28)) b5 T (.slice A4 T.log.length c4) ∧ Rd (w4.alloc (.cells #[.int .i64 T.cells, .int .i64 T.rows, .float .f32 T.slice, .float .f32 T.least, .float .f32 T.sat, .slice A4 T.log.length c4] 28)) A4 (T.log.map st) ∧ Rd (w4.alloc (.cells #[.int .i64 T.cells, .int .i64 T.rows, .float .f32 T.slice, .float .f32 T.least, .float .f32 T.sat, .slice A4 T.log.length c4] 28)) B4 (fl.map bo)) := Lib.hid ⟨(HX2.out.1.trans hb4).alloc _, blk_alloc (blk_ext HX2.out.2.1 hb4), by rw [hb5]; exact heap_alloc_new _ _, (own_rd ho4).ext ((Ext.refl _).alloc _), (own_rd hof4).ext ((Ext.refl _).alloc _)⟩
  clear ac0 ac1 ac2 ac3 ac4 ac5 af HTA
  go_upto_region 5 with fail
  rw [← hb5]
  generalize w4.alloc (.cells #[.int .i64 T.cells, .int .i64 T.rows, .float .f32 T.slice, .float .f32 T.least, .float .f32 T.sat, .slice A4 T.log.length c4] 28) = w5 at *
  clear hb5 ho4 hof4 hb4 HX2
  go_wp2_with fail
  go_loop [7, 8] (fun n i => ∃ (k m : Nat), k ≤ fl.length ∧ i = .int .i64 k ∧ n = .int .i64 m ∧ m ≤ k ∧ Hid (m = ((fl.take k).filter id).length)) (fun _ i => fl.length - (intOf i).toNat)
  case atStart => exact ⟨0, 0, Nat.zero_le _, rfl, rfl, Nat.le_refl _, Lib.hid rfl⟩
  case round =>
    obtain ⟨k, m, hk, rfl, rfl, hmk, HM⟩ := hrel
    have hk5 : k ≤ 5 := by have := HFLL.out; omega
    by_cases hlt : k < fl.length
    · obtain ⟨g, off, rfl, hgw, hc⟩ := bs_at HX5.out.2.2.2.2 hlt
      have HMN : Hid (((fl.take (k + 1)).filter id).length = m + (if fl[k] = true then 1 else 0)) := Lib.hid (by
        rw [List.take_succ_eq_append_getElem hlt, List.filter_append, List.length_append, ← HM.out]
        cases fl[k] <;> rfl)
      have hltI : (k : Int) < (fl.length : Int) := by omega
      generalize fl[k] = q at *
      cases q
      · go_wp2_with fail
        go_round
        case rel => exact ⟨k + 1, m, by omega, by go_num, rfl, by omega, Lib.hid (by rw [HMN.out]; simp)⟩
        case measure => simp [intOf]; omega
      · go_wp2_with fail
        go_round
        case rel => exact ⟨k + 1, m + 1, by omega, by go_num, by go_num, by omega, Lib.hid (by rw [HMN.out]; simp)⟩
        case measure => simp [intOf]; omega
    · obtain rfl : k = fl.length := by omega
      have hM : m = (fl.filter id).length := by rw [HM.out, List.take_length]
      have hTm : T.log.length = m := by have := HTL.out; omega
      have hE1 : ((fl.length : Int) != (ls.length : Int)) = false := by rw [bne_eq_false_iff_eq]; have := HFLL.out; omega
      have hE2 : ((T.log.length : Int) != (m : Int)) = false := by rw [bne_eq_false_iff_eq]; omega
      have HTm := Lib.hid hTm
      have HMM := Lib.hid hM
      clear hTm hM
      have kk := HX5.out.2.1
      obtain ⟨ac0, ac1, ac2, ac3, ac4, ac5, af⟩ := blk6 kk
      have kk := HX5.out.2.2.1
      obtain ⟨zc0, zc1, zc2, zc3, zc4, zc5, zf⟩ := blk6 kk
      clear kk
      have HO := Lib.hid (fun W => by
        have h9 := iSetOk_any S0.cells S0.rows S0.slice S0.least S0.sat none 0 0 (by omega) W
        rw [show setOk S0.cells S0.rows S0.slice S0.least S0.sat 0 = S0.ok by unfold TS.ok; rw [hl0]] at h9
        exact h9)
      have HRt : Hid (S0.ok = true → ∀ W, Ext w5 W → Calls Tryd.prog 20 #[.int .i64 S0.cells, .int .i64 S0.rows, .slice A4 T.log.length c4] W fun e w' => (∃ v, e = .returned (.tuple #[setT T v, .bool true]) ∧ OS w' W.heap.size v T.log) ∧ Ext W w') := Lib.hid (fun hok W hW => by
        have h9 := iRetune_any S0.cells S0.rows A4 c4 T.log W (HE.out.ext (HX5.out.1.trans hW)) (HX5.out.2.2.2.1.ext hW) (by omega) (fun x hx => by have := HTS.out x hx; omega)
        rw [(HAG2.out hok).1, (HAG2.out hok).2] at h9
        exact h9)
      have HSS : Hid (T = S0 → ∀ W, Ext w5 W → Calls Tryd.prog 19 #[setT S0 (.slice none 0 0), setT T (.slice A4 T.log.length c4)] W fun e w' => e = .returned (.bool true) ∧ Ext W w') := Lib.hid (fun hT W hW => by
        have h8 := HX5.out.2.2.2.1.ext hW
        rw [hT] at h8 ⊢
        have h9 := sameSet_any S0 none A4 0 c4 W (.inl (by rw [HLOG.out]; rfl)) h8 (by rw [hl0]; exact Nat.zero_le _)
        rw [hl0] at h9 ⊢
        exact h9)
      have HL0 := Lib.hid hl0
      clear hl0
      go_wp2_with fail
      refine (HO.out _).mono ?_
      rintro e w6 ⟨rfl, hb6⟩
      have HX6 : Hid (Ext w5 w6) := Lib.hid hb6
      clear ac0 ac1 ac2 ac3 ac4 ac5 af zc0 zc1 zc2 zc3 zc4 zc5 zf
      have kk := blk_ext HX5.out.2.1 hb6
      obtain ⟨ac0, ac1, ac2, ac3, ac4, ac5, af⟩ := blk6 kk
      have kk := blk_ext HX5.out.2.2.1 hb6
      obtain ⟨zc0, zc1, zc2, zc3, zc4, zc5, zf⟩ := blk6 kk
      clear kk hb6
      cases hok : S0.ok
      · obtain ⟨hT0, hf0⟩ := HTN.out hok
        have hm0 : ((m : Int) == 0) = true := by rw [beq_iff_eq]; have := HMM.out; omega
        have HSC := Lib.hid (HSS.out hT0)
        clear hT0 hf0 hok
        go_wp2_with fail
        refine (HSC.out _ HX6.out).mono ?_
        rintro e w7 ⟨rfl, hb7⟩
        go_wp2_with fail
        go_ret
        exact ⟨rfl, (HX5.out.1.trans HX6.out).trans hb7⟩
      · have HRC := Lib.hid (HRt.out hok)
        clear hok
        go_wp2_with fail
        refine (HRC.out _ HX6.out).mono ?_
        rintro e w7 ⟨⟨v7, rfl, ho7⟩, hb7⟩
        obtain ⟨A7, c7, rfl, -, -⟩ := own_slice ho7
        have HX7 : Hid (Ext w5 w7) := Lib.hid (HX6.out.trans hb7)
        have HO7 := Lib.hid (own_rd ho7)
        clear ac0 ac1 ac2 ac3 ac4 ac5 af zc0 zc1 zc2 zc3 zc4 zc5 zf ho7 hb7
        have kk := blk_alloc (p := .cells #[.int .i64 T.cells, .int .i64 T.rows, .float .f32 T.slice, .float .f32 T.least, .float .f32 T.sat, .slice A7 T.log.length c7] 28) (blk_ext HX5.out.2.2.1 HX7.out)
        obtain ⟨zc0, zc1, zc2, zc3, zc4, zc5, zf⟩ := blk6 kk
        clear kk
        go_wp2_with fail
        refine (sameSet_any T A7 A4 c7 c4 _ (HO7.out.ext ((Ext.refl _).alloc _)) ((HX5.out.2.2.2.1.ext HX7.out).ext ((Ext.refl _).alloc _)) (by unfold maxLen; omega)).mono ?_
        rintro e w8 ⟨rfl, hb8⟩
        go_wp2_with fail
        go_ret
        exact ⟨rfl, ((HX5.out.1.trans HX7.out).alloc _).trans hb8⟩
end Go.Proofs.YtfmghfghhipmhaaDoor

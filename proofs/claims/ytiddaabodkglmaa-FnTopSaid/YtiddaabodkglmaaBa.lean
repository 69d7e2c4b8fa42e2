import Derived.Test.YtiddaabodkglmaaEw
import Derived.Test.YtiddaabodkglmaaEz
import Derived.Test.YtiddaabodkglmaaK3
namespace Go.Fx
set_option linter.unusedSimpArgs false
/-- a line that is made of a plain row -/
theorem plain_line {row : List Cel} {ys : List I3} {odd : Bool} {gs : List Nat} (h : PlainRow row ys) (h1 : 1 ≤ row.length) (h64 : row.length ≤ 64) (hg : cns gs = lineR (cnC row) odd) :
    LV 4 gs (headI odd ++ ys.map (conjI odd)) ∧ lineOk gs = true ∧ gs.length = 24 + 4 * row.length := by
  have hl := h.1.len
  have h2 : LV 4 gs (headI odd ++ ys.map (conjI odd)) := LV.of_cn (by rw [hg]; exact line_LV h.1.cn h.2 (by omega) (by omega))
  have hlen : (headI odd ++ ys.map (conjI odd)).length = 6 + ys.length := by simp [headI]; omega
  refine ⟨h2, lineOk_LV h2 (line_small h.2) (by decide) (by omega) (by omega), ?_⟩
  rw [h2.len, hlen]; omega
/-- its burst -/
theorem plain_burst {row : List Cel} {ys : List I3} {odd : Bool} {gs : List Nat} (h : PlainRow row ys) (h1 : 1 ≤ row.length) (h64 : row.length ≤ 64) (hg : cns gs = lineR (cnC row) odd) : cns (brst gs) = encode burstC odd := by
  have hl := (plain_line h h1 h64 hg).2.1
  unfold brst
  rw [if_pos hl]
  have e : cns (cutF gs 8 16) = cutF (cns gs) 8 16 := by
    unfold cutF cns; rw [List.map_take, List.map_drop]
  rw [e, hg]
  unfold lineR
  rw [if_pos (by rw [rowOk_cnC]; exact plain_ok h h1 h64)]
  unfold cutF
  have hb : (encode burstC odd).length = 16 := by rw [encode_len]; rfl
  rw [List.append_assoc, List.drop_append]
  rw [List.drop_of_length_le (by simp), List.nil_append, List.length_replicate, Nat.sub_self, List.drop_zero, List.take_append, hb, Nat.sub_self, List.take_zero, List.append_nil, List.take_of_length_le (by omega)]
def BRe (odd : Bool) : Nat := quo32 (sumN ((decode false (encode burstC odd)).map Cel.re) 3) 1082130432
def BIm (odd : Bool) : Nat := quo32 (sumN ((decode false (encode burstC odd)).map Cel.im) 3) 1082130432
theorem plain_bc {row : List Cel} {ys : List I3} {odd : Bool} {gs : List Nat} (h : PlainRow row ys) (h1 : 1 ≤ row.length) (h64 : row.length ≤ 64) (hg : cns gs = lineR (cnC row) odd) : bcOk gs = true ∧ bcRe gs = BRe odd ∧ bcIm gs = BIm odd := by
  have hl := (plain_line h h1 h64 hg).2.1
  have hb := plain_burst h h1 h64 hg
  have hlen := burst_len hl
  have hok : bcOk gs = true := by
    unfold bcOk decodeOk
    rw [hl, hlen, hb]
    cases odd <;> decide +kernel
  have hr : bcRow gs = decode false (encode burstC odd) := by unfold bcRow; rw [hb]
  refine ⟨hok, ?_, ?_⟩
  · unfold bcRe; rw [if_pos hok, hr]; rfl
  · unfold bcIm; rw [if_pos hok, hr]; rfl
structure SwingFacts (gs hs : List Nat) (o p : Bool) : Prop where
  ok : hgOk gs hs = true
  re : o ≠ p → hgRe gs hs = 1065353216
  im : o ≠ p → feq .f32 (hgIm gs hs) 0 = true
  sw : swing gs hs = if o = p then 0 else if o = false then 1 else -1
theorem plain_swing {row : List Cel} {ys : List I3} {o p : Bool} {gs hs : List Nat} (h : PlainRow row ys) (h1 : 1 ≤ row.length) (h64 : row.length ≤ 64) (hg : cns gs = lineR (cnC row) o) (hh : cns hs = lineR (cnC row) p) : SwingFacts gs hs o p := by
  obtain ⟨a1, a2, a3⟩ := plain_bc h h1 h64 hg
  obtain ⟨b1, b2, b3⟩ := plain_bc h h1 h64 hh
  have hok : hgOk gs hs = true := by unfold hgOk; rw [a1, b1]; rfl
  refine ⟨hok, fun hne => ?_, fun hne => ?_, ?_⟩
  · unfold hgRe
    rw [if_pos hok, a2, b2]
    cases o <;> cases p <;> first | (exact absurd rfl hne) | decide +kernel
  · unfold hgIm
    rw [if_pos hok, a3, b3]
    cases o <;> cases p <;> first | (exact absurd rfl hne) | decide +kernel
  · unfold swing swingX
    rw [a1, b1, a2, a3, b2, b3]
    cases o <;> cases p <;> decide +kernel
end Go.Fx
namespace Go.Proofs.Ytiddaabodkglmaa
open Go.RowKit Go.Fx
set_option linter.unusedVariables false
set_option linter.unusedSimpArgs false
set_option maxRecDepth 100000 in
set_option maxHeartbeats 2000000 in
theorem burstsSwing_walk (A0 : Option Addr) (c0 : Nat) (code : List Int) (w : World) (h0 : Rd w A0 (code.map by8)) (hm0 : code.length ≤ maxLen) (hb0 : ∀ x ∈ code, 0 ≤ x ∧ x ≤ 255) :
    Calls Try.prog 26 #[.slice A0 code.length c0] w fun e w' => e = .returned (.bool true) ∧ Ext w w' := by
  have hM0 := hm0
  unfold maxLen at hM0
  have H0 := Lib.hid h0
  have HB0 := Lib.hid hb0
  clear h0 hb0
  by_cases hbig : 1048576 < code.length
  · go_enter Try.func26, Try.ntmps26
    go_wp2_with (go_at_call 39; refine (big_any _ _ _ _ hM0).mono ?_; rintro e w1 ⟨rfl, rfl⟩)
    go_ret
    exact ⟨rfl, Ext.refl _⟩
  have hn0 : code.length ≤ 1048576 := by omega
  go_enter Try.func26, Try.ntmps26
  go_wp2_with (go_at_call 39; refine (big_any _ _ _ _ hM0).mono ?_; rintro e w1 ⟨rfl, rfl⟩)
  refine (drawPlainRow_any A0 c0 code _ H0.out hn0 HB0.out).mono ?_
  rintro e w1 ⟨⟨v1, row, ys, rfl, ho1, hp, hl1, hl6⟩, hb1⟩
  have HP := Lib.hid hp
  have HL := Lib.hid (And.intro hl1 (show row.length ≤ 64 by omega))
  unfold OC at ho1
  have hE1 := fun A1 c1 odd W (hW : Rd W A1 (ccells row)) => iMakeLine_any A1 c1 row odd W hW (by omega)
  have hlen := fun odd gs (hg : cns gs = lineR (cnC row) odd) => (plain_line hp hl1 (by omega) hg).2.2
  generalize hrn : row.length = n1 at ho1 hE1 hlen
  have hn6 : n1 ≤ 6 := by omega
  have HE := Lib.hid hE1
  have HLEN := Lib.hid hlen
  obtain ⟨A1, c1, rfl, -, -⟩ := own_slice ho1
  clear hp hl1 hl6 hrn hE1 hlen
  go_wp2_with fail
  refine (HE.out A1 c1 false w1 (own_rd ho1)).mono ?_
  rintro e w2 ⟨⟨v2, ga, rfl, ho2, hg2⟩, hb2⟩
  replace ho1 := own_ext ho1 hb2
  have GA := Lib.hid hg2
  unfold OF at ho2
  rw [HLEN.out _ _ hg2] at ho2
  have LA := Lib.hid (HLEN.out _ _ hg2)
  obtain ⟨A2, c2, rfl, -, -⟩ := own_slice ho2
  clear hg2
  go_wp2_with fail
  refine (HE.out A1 c1 true w2 (own_rd ho1)).mono ?_
  rintro e w3 ⟨⟨v3, gb, rfl, ho3, hg3⟩, hb3⟩
  replace ho2 := own_ext ho2 hb3
  have GB := Lib.hid hg3
  unfold OF at ho3
  rw [HLEN.out _ _ hg3] at ho3
  have LB := Lib.hid (HLEN.out _ _ hg3)
  obtain ⟨A3, c3, rfl, -, -⟩ := own_slice ho3
  clear hg3
  have FAB := plain_swing HP.out HL.out.1 HL.out.2 GA.out GB.out
  have FBA := plain_swing HP.out HL.out.1 HL.out.2 GB.out GA.out
  have FAA := plain_swing HP.out HL.out.1 HL.out.2 GA.out GA.out
  have FBB := plain_swing HP.out HL.out.1 HL.out.2 GB.out GB.out
  have ca := own_cap ho2
  have cb := own_cap ho3
  have KG : Hid (∀ W, Ext w3 W → Calls Try.prog 115 #[.slice A2 (24 + 4 * n1) c2, .slice A3 (24 + 4 * n1) c3] W fun e w' => (∃ p q, e = .returned (.tuple #[.complex .f32 p q, .bool true]) ∧ p = 1065353216 ∧ feq .f32 q 0 = true) ∧ Ext W w') := Lib.hid (fun W hW => by
    have := iHueGain_any A2 A3 c2 c3 ga gb W ((own_rd ho2).ext hW) ((own_rd ho3).ext hW) (by rw [LA.out]; omega) (by rw [LB.out]; omega) (by rw [LA.out]; exact ca) (by rw [LB.out]; exact cb)
    rw [LA.out, LB.out, FAB.ok] at this
    refine this.mono ?_
    rintro e w' ⟨⟨p, q, rfl, h1, h2⟩, hw⟩
    rw [FAB.re (by simp)] at h1
    refine ⟨⟨p, q, rfl, ?_, by rw [← feq_cn_l, h2]; exact FAB.im (by simp)⟩, hw⟩
    have : isN .f32 p = false := by rw [← isN_cn, h1]; decide +kernel
    rw [cn_of_not this] at h1; exact h1)
  have KH : Hid (∀ W, Ext w3 W → Calls Try.prog 115 #[.slice A3 (24 + 4 * n1) c3, .slice A2 (24 + 4 * n1) c2] W fun e w' => (∃ p q, e = .returned (.tuple #[.complex .f32 p q, .bool true]) ∧ p = 1065353216 ∧ feq .f32 q 0 = true) ∧ Ext W w') := Lib.hid (fun W hW => by
    have := iHueGain_any A3 A2 c3 c2 gb ga W ((own_rd ho3).ext hW) ((own_rd ho2).ext hW) (by rw [LB.out]; omega) (by rw [LA.out]; omega) (by rw [LB.out]; exact cb) (by rw [LA.out]; exact ca)
    rw [LA.out, LB.out, FBA.ok] at this
    refine this.mono ?_
    rintro e w' ⟨⟨p, q, rfl, h1, h2⟩, hw⟩
    rw [FBA.re (by simp)] at h1
    refine ⟨⟨p, q, rfl, ?_, by rw [← feq_cn_l, h2]; exact FBA.im (by simp)⟩, hw⟩
    have : isN .f32 p = false := by rw [← isN_cn, h1]; decide +kernel
    rw [cn_of_not this] at h1; exact h1)
  have KS : Hid (∀ W, Ext w3 W → Calls Try.prog 116 #[.slice A2 (24 + 4 * n1) c2, .slice A3 (24 + 4 * n1) c3] W fun e w' => e = .returned (.int .i64 1) ∧ Ext W w') := Lib.hid (fun W hW => by
    have := iSwing_any A2 A3 c2 c3 ga gb W ((own_rd ho2).ext hW) ((own_rd ho3).ext hW) (by rw [LA.out]; omega) (by rw [LB.out]; omega) (by rw [LA.out]; exact ca) (by rw [LB.out]; exact cb)
    rw [LA.out, LB.out, FAB.sw] at this; exact this)
  have KT : Hid (∀ W, Ext w3 W → Calls Try.prog 116 #[.slice A3 (24 + 4 * n1) c3, .slice A2 (24 + 4 * n1) c2] W fun e w' => e = .returned (.int .i64 (-1)) ∧ Ext W w') := Lib.hid (fun W hW => by
    have := iSwing_any A3 A2 c3 c2 gb ga W ((own_rd ho3).ext hW) ((own_rd ho2).ext hW) (by rw [LB.out]; omega) (by rw [LA.out]; omega) (by rw [LB.out]; exact cb) (by rw [LA.out]; exact ca)
    rw [LA.out, LB.out, FBA.sw] at this; exact this)
  have KU : Hid (∀ W, Ext w3 W → Calls Try.prog 116 #[.slice A2 (24 + 4 * n1) c2, .slice A2 (24 + 4 * n1) c2] W fun e w' => e = .returned (.int .i64 0) ∧ Ext W w') := Lib.hid (fun W hW => by
    have := iSwing_any A2 A2 c2 c2 ga ga W ((own_rd ho2).ext hW) ((own_rd ho2).ext hW) (by rw [LA.out]; omega) (by rw [LA.out]; omega) (by rw [LA.out]; exact ca) (by rw [LA.out]; exact ca)
    rw [LA.out, FAA.sw] at this; exact this)
  have KV : Hid (∀ W, Ext w3 W → Calls Try.prog 116 #[.slice A3 (24 + 4 * n1) c3, .slice A3 (24 + 4 * n1) c3] W fun e w' => e = .returned (.int .i64 0) ∧ Ext W w') := Lib.hid (fun W hW => by
    have := iSwing_any A3 A3 c3 c3 gb gb W ((own_rd ho3).ext hW) ((own_rd ho3).ext hW) (by rw [LB.out]; omega) (by rw [LB.out]; omega) (by rw [LB.out]; exact cb) (by rw [LB.out]; exact cb)
    rw [LB.out, FBB.sw] at this; exact this)
  clear FAB FBA FAA FBB ca cb ho1 ho2 ho3 LA LB GA GB HLEN HE HP HL
  replace hb3 := hb1.trans (hb2.trans hb3)
  generalize 24 + 4 * n1 = m at *
  clear hb1 hb2
  have f1 : feq .f32 1065353216 1065353216 = true := by decide +kernel
  go_wp2_with fail
  refine (KG.out _ (Ext.refl _)).mono ?_
  rintro e w4 ⟨⟨p, q, rfl, rfl, hq⟩, hb4⟩
  go_wp2_with fail
  refine (KH.out _ hb4).mono ?_
  rintro e w5 ⟨⟨p2, q2, rfl, rfl, hq2⟩, hb5⟩
  replace hb5 := hb4.trans hb5
  go_wp2_with fail
  refine (KS.out _ hb5).mono ?_
  rintro e w6 ⟨rfl, hb6⟩
  replace hb6 := hb5.trans hb6
  go_wp2_with fail
  refine (KT.out _ hb6).mono ?_
  rintro e w7 ⟨rfl, hb7⟩
  replace hb7 := hb6.trans hb7
  go_wp2_with fail
  refine (KU.out _ hb7).mono ?_
  rintro e w8 ⟨rfl, hb8⟩
  replace hb8 := hb7.trans hb8
  go_wp2_with fail
  refine (KV.out _ hb8).mono ?_
  rintro e w9 ⟨rfl, hb9⟩
  go_wp2_with fail
  go_ret
  exact ⟨rfl, hb3.trans (hb8.trans hb9)⟩
end Go.Proofs.Ytiddaabodkglmaa

import Derived.Test.YtiddaabodkglmaaBa
import Derived.Test.YtiddaabodkglmaaK3
import Derived.Test.YtiddaabodkglmaaK5
import Derived.Laws.StructEq
namespace Go.Fx
set_option linter.unusedSimpArgs false
/-- cells that Go calls equal -/
def eqCel (c d : Cel) : Bool := feq .f32 c.y d.y && (feq .f32 c.re d.re && feq .f32 c.im d.im)
def EqRows (rs ss : List Cel) : Prop := rs.length = ss.length ∧ ∀ (i : Nat) (h1 : i < rs.length) (h2 : i < ss.length), eqCel rs[i] ss[i] = true
theorem CVs.at {e : Nat} : ∀ {l : List Cel} {ys : List I3}, CVs e l ys → ∀ (i : Nat) (h1 : i < l.length) (h2 : i < ys.length), CV e l[i] ys[i]
  | _ :: _, _ :: _, h, 0, _, _ => h.1
  | _ :: l, _ :: ys, h, i + 1, h1, h2 => CVs.at h.2 i (by simpa using h1) (by simpa using h2)
  | [], _, _, _, h1, _ => by simp at h1
  | _ :: _, [], h, _, _, _ => h.elim
theorem CV.eq {e : Nat} {c d : Cel} {a : I3} (h : CV e c a) (k : CV e d a) : eqCel c d = true := by
  unfold eqCel
  rw [v_feq h.1 k.1, v_feq h.2.1 k.2.1, v_feq h.2.2 k.2.2]; rfl
theorem CVs.eq {e : Nat} {l m : List Cel} {ys : List I3} (h : CVs e l ys) (k : CVs e m ys) : EqRows l m :=
  ⟨by rw [h.len, k.len], fun i h1 h2 => (h.at i h1 (by rw [← h.len]; exact h1)).eq (k.at i h2 (by rw [← k.len]; exact h2))⟩
/-- a line of a plain row, decoded alone -/
theorem plain_alone {row : List Cel} {ys : List I3} {odd : Bool} {gs : List Nat} (h : PlainRow row ys) (h1 : 1 ≤ row.length) (h64 : row.length ≤ 64) (hg : cns gs = lineR (cnC row) odd) : aloneOk odd gs = true ∧ ∀ xs, cnC xs = alone odd gs → EqRows xs row := by
  obtain ⟨hv, hl, hn⟩ := plain_line h h1 h64 hg
  have hyl := h.1.len
  have hd : LV 4 (gs.drop 24) (ys.map (conjI odd)) := by
    have := hv.drop 6
    simpa [headI] using this
  have hdd := dec_CVs (n := 1024) odd (by omega) (by omega) hd.cn (small_conj h.2)
  rw [map_conj_twice] at hdd
  have hro : rowOk (decode odd (cns (gs.drop 24))) = true := hdd.rowOk h.2 (by decide) (by omega) (by omega)
  have hdo : decodeOk odd (gs.drop 24) = true := by
    unfold decodeOk
    rw [hro, hd.len, decide_eq_true (by omega)]; rfl
  have hao : aloneOk odd gs = true := by unfold aloneOk; rw [hl, hdo]; rfl
  refine ⟨hao, fun xs hx => ?_⟩
  unfold alone at hx
  rw [if_pos hao] at hx
  rw [← hx] at hdd
  have hxs : CVs 4 xs ys := by
    have : ∀ {l : List Cel} {ys : List I3}, CVs 4 (cnC l) ys → CVs 4 l ys := by
      intro l
      induction l with
      | nil => intro ys h; cases ys <;> first | trivial | exact h.elim
      | cons c l ih =>
        intro ys h
        cases ys with
        | nil => exact h.elim
        | cons a ys => exact ⟨⟨v_cn.1 h.1.1, v_cn.1 h.1.2.1, v_cn.1 h.1.2.2⟩, ih h.2⟩
    exact this hdd
  exact hxs.eq h.1
end Go.Fx
namespace Go.Fx
section
variable {P : Program} (w : World)
theorem run_equalIn_float (d : Nat) (t : TypeId) (k k' : FloatKind) (a b : Nat) (h : P.underlying t = some (.float k')) : (Op.equalIn (d + 1) t (.float k a) (.float k b)).run P w = .ok (feq k a b) w := by
  simp [Op.equalIn, run_underlying h, Op.floatEq, feq]
theorem run_equalIn_complex (d : Nat) (t : TypeId) (k k' : FloatKind) (a b x y : Nat) (h : P.underlying t = some (.complex k')) : (Op.equalIn (d + 1) t (.complex k a b) (.complex k x y)).run P w = .ok (feq k a x && feq k b y) w := by
  simp [Op.equalIn, run_underlying h, Op.floatEq, feq]
end
end Go.Fx
namespace Go.Proofs.Ytiddaabodkglmaa
open Go.RowKit Go.Fx
theorem neq_cell (W : World) {x1 x2 x3 y1 y2 y3 : Nat} (k1 : feq .f32 x1 y1 = true) (k2 : feq .f32 x2 y2 = true) (k3 : feq .f32 x3 y3 = true) :
    (binOp .neq 90 (.agg #[.float .f32 x1, .complex .f32 x2 x3]) (.agg #[.float .f32 y1, .complex .f32 y2 y3])).run Try.prog W = .ok (.bool false) W := by
  have e1 := fun w => run_equalIn_float (P := Try.prog) w 9998 29 .f32 .f32 x1 y1 Try.underlying29
  have e2 := fun w => run_equalIn_complex (P := Try.prog) w 9998 30 .f32 .f32 x2 x3 y2 y3 Try.underlying30
  rw [k1] at e1
  rw [k2, k3] at e2
  rw [run_neq_struct, run_equalIn_agg W 9999 90 _ _ (by kernel_rfl) (by kernel_rfl)]
  simp [Program.fieldsOf, Try.underlying90, Op.eqFields, go_sem, e1, e2]
set_option linter.unusedVariables false
set_option linter.unusedSimpArgs false
set_option maxRecDepth 100000 in
set_option maxHeartbeats 2000000 in
theorem equalC_any (A B : Option Addr) (c d : Nat) (rs ss : List Cel) (w : World) (h : Rd w A (ccells rs)) (h' : Rd w B (ccells ss)) (hn : rs.length ≤ maxLen) (he : EqRows rs ss) :
    Calls Try.prog 147 #[.slice A rs.length c, .slice B ss.length d] w fun e w' => e = .returned (.bool true) ∧ Ext w w' := by
  have HE := Lib.hid he.2
  have hl := he.1
  unfold maxLen at hn
  rw [← hl]
  have HL := Lib.hid hl
  clear he hl
  go_enter Try.func147, Try.ntmps147
  go_wp2_with fail
  go_loopw [5, 13] (fun j i wr => ∃ (k : Nat), k ≤ rs.length ∧ i = .int .i64 k ∧ Ext w wr) (fun _ i _ => rs.length - (intOf i).toNat)
  case atStart => exact ⟨0, Nat.zero_le _, rfl, Ext.refl _⟩
  case round =>
    obtain ⟨k, hk, rfl, hbr⟩ := hrel
    by_cases hlt : k < rs.length
    · have hlt' : k < ss.length := by rw [← HL.out]; exact hlt
      obtain ⟨b, off, rfl, hbw, hy, hc⟩ := rc_at (h.ext hbr) hlt
      obtain ⟨b', off', rfl, hbw', hy', hc'⟩ := rc_at (h'.ext hbr) hlt'
      have HK := HE.out k hlt hlt'
      generalize rs[k] = x at *
      generalize ss[k] = y at *
      obtain ⟨x1, x2, x3⟩ := x
      obtain ⟨y1, y2, y3⟩ := y
      unfold eqCel at HK
      simp only [Bool.and_eq_true] at HK
      obtain ⟨k1, k2, k3⟩ := HK
      go_wp2_with fail
      have hne : ∀ W : World, (binOp .neq 90 (.agg #[.float .f32 x1, .complex .f32 x2 x3]) (.agg #[.float .f32 y1, .complex .f32 y2 y3])).run Try.prog W = .ok (.bool false) W := fun W => neq_cell W k1 k2 k3
      go_quiet (fail)
      all_goals go_wp2_with fail
      all_goals go_roundw
      all_goals first | exact ⟨k + 1, by omega, by go_num, hbr.trans (by (repeat (first | exact Below.refl _ _ | assumption | refine below_drewN ?_ _ | refine Below.drew ?_ | refine Below.alloc ?_ (by first | exact Nat.le_refl _ | (simp; done) | (simp; omega)) _ | refine Below.setCell ?_ (by first | exact Nat.le_refl _ | (simp; done) | (simp; omega)) _)))⟩ | (simp [intOf]; omega)
    · go_wp2
      go_ret
      exact ⟨rfl, hbr⟩
theorem same1_any (A B : Option Addr) (c d : Nat) (rs ss : List Cel) (w : World) (h : Rd w A (ccells rs)) (h' : Rd w B (ccells ss)) (hn : rs.length ≤ maxLen) (he : EqRows rs ss) :
    Calls Try.prog 146 #[.slice A rs.length c, .slice B ss.length d] w fun e w' => e = .returned (.bool true) ∧ Ext w w' := by
  have K := Lib.hid (equalC_any A B c d rs ss w h h' hn he)
  clear h h' he
  go_enter Try.func146, Try.ntmps146
  go_wp2_with fail
  refine K.out.mono ?_
  rintro e w1 ⟨rfl, hb⟩
  go_wp2_with fail
  go_ret
  exact ⟨rfl, hb⟩
def EqAll (rss sss : List (List Cel)) : Prop := rss.length = sss.length ∧ ∀ (i : Nat) (h1 : i < rss.length) (h2 : i < sss.length), EqRows rss[i] sss[i]
set_option maxRecDepth 100000 in
set_option maxHeartbeats 2000000 in
theorem sameRows_any (A B : Option Addr) (c d : Nat) (us vs : List Value) (rss sss : List (List Cel)) (w : World) (h : RdRows w A us (rowsC rss)) (h' : RdRows w B vs (rowsC sss)) (hn : rss.length ≤ maxLen) (hm : ∀ r ∈ rss, r.length ≤ maxLen) (he : EqAll rss sss) :
    Calls Try.prog 45 #[.slice A rss.length c, .slice B sss.length d] w fun e w' => e = .returned (.bool true) ∧ Ext w w' := by
  have hl := he.1
  have HE := Lib.hid he.2
  have H := Lib.hid h
  have H' := Lib.hid h'
  have HM := Lib.hid hm
  unfold maxLen at hn
  clear h h' hm he
  have hq : Calls Try.prog 145 #[.slice A rss.length c, .slice B sss.length d, .func (.func 146) #[] #[]] w fun e w' => e = .returned (.bool true) ∧ Ext w w' := by
    rw [← hl]
    have HL := Lib.hid hl
    clear hl
    go_enter Try.func145, Try.ntmps145
    go_wp2_with fail
    go_loopw [7, 8, 9, 17] (fun j r s i wr => ∃ (k : Nat), k ≤ rss.length ∧ i = .int .i64 k ∧ Ext w wr) (fun _ _ _ i _ => rss.length - (intOf i).toNat)
    case atStart => exact ⟨0, Nat.zero_le _, rfl, Ext.refl _⟩
    case round =>
      obtain ⟨k, hk, rfl, hbr⟩ := hrel
      by_cases hlt : k < rss.length
      · have hlt' : k < sss.length := by rw [← HL.out]; exact hlt
        obtain ⟨b, off, B1, d1, rfl, hbw, -, hcell, hrow, -, -⟩ := (H.out.ext hbr).atC hlt
        obtain ⟨b', off', B2, d2, rfl, hbw', -, hcell', hrow', -, -⟩ := (H'.out.ext hbr).atC hlt'
        have hS := Lib.hid (same1_any B1 B2 d1 d2 rss[k] sss[k] wr hrow hrow' (HM.out _ (List.getElem_mem hlt)) (HE.out k hlt hlt'))
        generalize rss[k].length = n1 at *
        generalize sss[k].length = n2 at *
        clear hrow hrow'
        go_wp2_with fail
        refine hS.out.mono ?_
        rintro e w1 ⟨rfl, hb1⟩
        go_wp2_with fail
        go_roundw
        case rel => exact ⟨k + 1, by omega, by go_num, hbr.trans hb1⟩
        case measure => simp [intOf]; omega
      · go_wp2
        go_ret
        exact ⟨rfl, hbr⟩
  have HQ := Lib.hid hq
  clear hq hl
  go_enter Try.func45, Try.ntmps45
  go_wp2_with fail
  refine HQ.out.mono ?_
  rintro e w1 ⟨rfl, hb⟩
  go_wp2_with fail
  go_ret
  exact ⟨rfl, hb⟩
theorem rdRows_one {W : World} {A : Option Addr} {c : Nat} {row : List Cel} (h : Rd W A (ccells row)) (z : A = none → row.length = 0) (k : row.length ≤ c) (E : TypeId) :
    RdRows (W.alloc (.cells #[.slice A row.length c] E)) (some ⟨W.heap.size, 0, none⟩) [.slice A row.length c] (rowsC [row]) := by
  have he : Ext W (W.alloc (.cells #[.slice A row.length c] E)) := (Ext.refl _).alloc _
  refine ⟨rfl, rd_new _ _ _ _, fun i u r hu hr => ?_⟩
  match i with
  | 0 => cases hu; cases hr; exact ⟨A, c, rfl, h.ext he, z, k⟩
  | i + 1 => simp at hu
theorem RdRows.grow {W W' : World} {A : Option Addr} {us : List Value} {rows : List (Nat × List Value)} (h : RdRows W A us rows) (e : Ext W W') : RdRows W' A us rows := h.ext e
set_option maxRecDepth 100000 in
set_option maxHeartbeats 2000000 in
theorem equalRow_any (A B : Option Addr) (c d : Nat) (rs ss : List Cel) (w : World) (h : Rd w A (ccells rs)) (z : A = none → rs.length = 0) (k : rs.length ≤ c) (h' : Rd w B (ccells ss)) (z' : B = none → ss.length = 0) (k' : ss.length ≤ d) (hn : rs.length ≤ maxLen) (he : EqRows rs ss) :
    Calls Try.prog 112 #[.slice A rs.length c, .slice B ss.length d] w fun e w' => e = .returned (.bool true) ∧ Ext w w' := by
  have e1 : Ext w (w.alloc (.cells #[.slice A rs.length c] 43)) := (Ext.refl _).alloc _
  have r1 := rdRows_one h z k 43
  have r2 := rdRows_one (h'.ext e1) z' k' 43
  have e2 : Ext (w.alloc (.cells #[.slice A rs.length c] 43)) ((w.alloc (.cells #[.slice A rs.length c] 43)).alloc (.cells #[.slice B ss.length d] 43)) := (Ext.refl _).alloc _
  have K := Lib.hid (sameRows_any (some ⟨w.heap.size, 0, none⟩) (some ⟨(w.alloc (.cells #[.slice A rs.length c] 43)).heap.size, 0, none⟩) 1 1 _ _ [rs] [ss] _ (r1.ext e2) r2 (by simp [maxLen]) (by intro r hr; simp at hr; subst hr; exact hn) ⟨rfl, fun i h1 h2 => by
    have : i = 0 := by simpa using h1
    subst this; exact he⟩)
  have EE := Lib.hid (e1.trans e2)
  have hsz : (w.alloc (.cells #[.slice A rs.length c] 43)).heap.size = w.heap.size + 1 := by simp
  rw [hsz] at K
  clear h h' he r1 r2 e1 e2 z z' hsz
  go_enter Try.func112, Try.ntmps112
  go_wp2_with fail
  refine K.out.mono ?_
  rintro e w1 ⟨rfl, hb⟩
  go_wp2_with fail
  go_ret
  exact ⟨rfl, EE.out.trans hb⟩
set_option maxRecDepth 100000 in
set_option maxHeartbeats 2000000 in
theorem alone_walk (A0 : Option Addr) (c0 : Nat) (code : List Int) (w : World) (h0 : Rd w A0 (code.map by8)) (hm0 : code.length ≤ maxLen) (hb0 : ∀ x ∈ code, 0 ≤ x ∧ x ≤ 255) :
    Calls Try.prog 24 #[.slice A0 code.length c0] w fun e w' => e = .returned (.bool true) ∧ Ext w w' := by
  have hM0 := hm0
  unfold maxLen at hM0
  have H0 := Lib.hid h0
  have HB0 := Lib.hid hb0
  clear h0 hb0
  by_cases hbig : 1048576 < code.length
  · go_enter Try.func24, Try.ntmps24
    go_wp2_with (go_at_call 39; refine (big_any _ _ _ _ hM0).mono ?_; rintro e w1 ⟨rfl, rfl⟩)
    go_ret
    exact ⟨rfl, Ext.refl _⟩
  have hn0 : code.length ≤ 1048576 := by omega
  go_enter Try.func24, Try.ntmps24
  go_wp2_with (go_at_call 39; refine (big_any _ _ _ _ hM0).mono ?_; rintro e w1 ⟨rfl, rfl⟩)
  refine (drawPlainRow_any A0 c0 code _ H0.out hn0 HB0.out).mono ?_
  rintro e w1 ⟨⟨v1, row, ys, rfl, ho1, hp, hl1, hl6⟩, hb1⟩
  have HP := Lib.hid hp
  have HL := Lib.hid (And.intro hl1 (show row.length ≤ 64 by omega))
  unfold OC at ho1
  have hE1 := fun A1 c1 odd W (hW : Rd W A1 (ccells row)) => iMakeLine_any A1 c1 row odd W hW (by omega)
  have hEq := fun A B c d xs W (h : Rd W A (ccells xs)) z k (h' : Rd W B (ccells row)) => equalRow_any A B c d xs row W h z k h'
  have hlen := fun odd gs (hg : cns gs = lineR (cnC row) odd) => (plain_line hp hl1 (by omega) hg).2.2
  generalize hrn : row.length = n1 at ho1 hE1 hlen hEq
  have hn6 : n1 ≤ 6 := by omega
  have HE := Lib.hid hE1
  have HEQ := Lib.hid hEq
  have HLEN := Lib.hid hlen
  have HRN := Lib.hid hrn
  obtain ⟨A1, c1, rfl, -, z1⟩ := own_slice ho1
  have k1 := own_cap ho1
  clear hp hl1 hl6 hrn hE1 hlen hEq
  have hblk := heap_alloc_new w1 (.cells #[.bool false, .bool true] 4)
  have hal : Ext w1 (w1.alloc (.cells #[.bool false, .bool true] 4)) := (Ext.refl _).alloc _
  have HBK := Lib.hid hblk
  have HAL := Lib.hid hal
  have HO := Lib.hid ho1
  have hws : w1.heap.size < (w1.alloc (.cells #[.bool false, .bool true] 4)).heap.size := by simp
  clear hblk hal ho1
  go_wp2_with fail
  go_loopw [5, 6, 7, 14] (fun o x y i wr => ∃ (k : Nat), k ≤ 2 ∧ i = .int .i64 k ∧ Hid (wr.heap[w1.heap.size]? = some (.cells #[.bool false, .bool true] 4 (0, 0))) ∧ Ext w1 wr) (fun _ _ _ i _ => 2 - (intOf i).toNat)
  case atStart => exact ⟨0, by omega, rfl, HBK, HAL.out⟩
  case round =>
    obtain ⟨k, hk, rfl, HK, hbr⟩ := hrel
    by_cases hlt : k < 2
    · obtain ⟨q, hq⟩ : ∃ q : Bool, wr.cell? ⟨w1.heap.size, k, none⟩ = some (.bool q) := by
        rcases (by omega : k = 0 ∨ k = 1) with rfl | rfl
        · exact ⟨false, blk_cell HK.out rfl⟩
        · exact ⟨true, blk_cell HK.out rfl⟩
      have hwz : w1.heap.size < wr.heap.size := (Array.getElem?_eq_some_iff.1 HK.out).1
      have hr := (own_rd HO.out).ext hbr
      go_wp2_with fail
      refine (HE.out A1 c1 q wr hr).mono ?_
      rintro e w2 ⟨⟨v2, gs, rfl, ho2, hg2⟩, hb2⟩
      replace hr := hr.ext hb2
      obtain ⟨pa, pe⟩ := plain_alone HP.out HL.out.1 HL.out.2 hg2
      have PE := Lib.hid pe
      have hgl := HLEN.out _ _ hg2
      unfold OF at ho2
      obtain ⟨A2, c2, rfl, -, -⟩ := own_slice ho2
      have hD := iDecodeAlone_any A2 c2 gs q w2 (own_rd ho2) (by omega) (own_cap ho2)
      rw [pa] at hD
      rw [hgl] at hD ⊢
      clear pe pa hg2 ho2 hgl
      go_wp2_with fail
      refine hD.mono ?_
      rintro e w3 ⟨⟨v3, xs, rfl, ho3, hx3⟩, hb3⟩
      replace hr := hr.ext hb3
      have he := PE.out xs hx3
      have hxl : xs.length = n1 := by rw [he.1]; exact HRN.out
      unfold OC at ho3
      rw [hxl] at ho3
      obtain ⟨A3, c3, rfl, -, z3⟩ := own_slice ho3
      have hq2 := HEQ.out A3 A1 c3 c1 xs w3 (own_rd ho3) (by rw [hxl]; exact z3) (by rw [hxl]; exact own_cap ho3) hr z1 k1 (by rw [hxl]; unfold maxLen; omega) he
      rw [hxl] at hq2
      have hx4 := hb2.trans hb3
      clear hD hx3 he ho3 hb2 hb3 PE
      go_wp2_with fail
      refine hq2.mono ?_
      rintro e w4 ⟨rfl, hb4⟩
      replace hx4 := hx4.trans hb4
      go_wp2_with fail
      go_roundw
      case rel => exact ⟨k + 1, by omega, by go_num, Lib.hid (blk_ext HK.out hx4), hbr.trans hx4⟩
      case measure => simp [intOf]; omega
    · go_wp2_with fail
      go_ret
      exact ⟨rfl, hb1.trans hbr⟩
end Go.Proofs.Ytiddaabodkglmaa

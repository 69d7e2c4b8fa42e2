import Derived.Test.YtiddaabodkglmaaHe
import Derived.Test.YtiddaabodkglmaaBb
namespace Go.Fx
open Ieee Go.Proofs.Ytiddaabodkglmaa
set_option linter.unusedVariables false
set_option linter.unusedSimpArgs false
set_option exponentiation.threshold 1000
/-! rows that are equal, row by row -/
def EqL : List (List Cel) → List (List Cel) → Prop
  | [], [] => True
  | a :: as', b :: bs => EqRows a b ∧ EqL as' bs
  | _, _ => False
theorem EqL.len : ∀ {a b : List (List Cel)}, EqL a b → a.length = b.length
  | [], [], _ => rfl
  | _ :: _, _ :: _, h => congrArg (· + 1) (EqL.len h.2)
  | [], _ :: _, h => h.elim
  | _ :: _, [], h => h.elim
theorem EqL.at : ∀ {a b : List (List Cel)}, EqL a b → ∀ (i : Nat) (h1 : i < a.length) (h2 : i < b.length), EqRows a[i] b[i]
  | _ :: _, _ :: _, h, 0, _, _ => h.1
  | _ :: _, _ :: _, h, i + 1, h1, h2 => EqL.at h.2 i (by simpa using h1) (by simpa using h2)
  | [], _, _, _, h1, _ => by simp at h1
  | _ :: _, [], h, _, _, _ => h.elim
theorem EqL.all {a b : List (List Cel)} (h : EqL a b) : EqAll a b := ⟨h.len, fun i h1 h2 => h.at i h1 h2⟩
theorem EqL.app : ∀ {a b c d : List (List Cel)}, EqL a b → EqL c d → EqL (a ++ c) (b ++ d)
  | [], [], _, _, _, h => h
  | _ :: _, _ :: _, _, _, h, k => ⟨h.1, EqL.app h.2 k⟩
  | [], _ :: _, _, _, h, _ => h.elim
  | _ :: _, [], _, _, h, _ => h.elim
theorem EqL.take : ∀ (n : Nat) {a b : List (List Cel)}, EqL a b → EqL (a.take n) (b.take n)
  | 0, _, _, _ => by simp [EqL]
  | n + 1, [], [], _ => by simp [EqL]
  | n + 1, _ :: _, _ :: _, h => by simp only [List.take_succ_cons]; exact ⟨h.1, EqL.take n h.2⟩
  | _ + 1, [], _ :: _, h => h.elim
  | _ + 1, _ :: _, [], h => h.elim
theorem EqL.drop : ∀ (n : Nat) {a b : List (List Cel)}, EqL a b → EqL (a.drop n) (b.drop n)
  | 0, _, _, h => h
  | n + 1, [], [], _ => by simp [EqL]
  | n + 1, _ :: _, _ :: _, h => by simp only [List.drop_succ_cons]; exact EqL.drop n h.2
  | _ + 1, [], _ :: _, h => h.elim
  | _ + 1, _ :: _, [], h => h.elim
theorem EqL.weave : ∀ {a b c d : List (List Cel)}, EqL a b → EqL c d → EqL (Fx.weave a c) (Fx.weave b d)
  | [], [], _, _, _, _ => by simp [Fx.weave, EqL]
  | _ :: _, _ :: _, [], [], _, _ => by simp [Fx.weave, EqL]
  | _ :: _, _ :: _, _ :: _, _ :: _, h, k => ⟨h.1, k.1, EqL.weave h.2 k.2⟩
  | [], _ :: _, _, _, h, _ => h.elim
  | _ :: _, [], _, _, h, _ => h.elim
  | _ :: _, _ :: _, [], _ :: _, _, k => k.elim
  | _ :: _, _ :: _, _ :: _, [], _, k => k.elim
theorem eqCel_cn (c d : Cel) : eqCel c.cn d = eqCel c d := by unfold eqCel; rw [Cel.cn_y, Cel.cn_re, Cel.cn_im, feq_cn_l, feq_cn_l, feq_cn_l]
theorem EqRows.of_cn {r s : List Cel} (h : EqRows (cnC r) s) : EqRows r s := by
  refine ⟨by have := h.1; rw [List.length_map] at this; exact this, fun i h1 h2 => ?_⟩
  have := h.2 i (by rw [List.length_map]; exact h1) h2
  rw [List.getElem_map, eqCel_cn] at this
  exact this
theorem EqL.of_cn : ∀ {a b : List (List Cel)}, EqL (a.map cnC) b → EqL a b
  | [], [], _ => trivial
  | _ :: _, _ :: _, h => ⟨h.1.of_cn, EqL.of_cn h.2⟩
  | [], _ :: _, h => h.elim
  | _ :: _, [], h => h.elim
/-! every second row -/
def evens {α : Type} : List α → List α
  | a :: _ :: l => a :: evens l
  | [a] => [a]
  | [] => []
theorem weave_evens : ∀ (p : List (List Cel)), p.length % 2 = 0 → weave (evens p) (evens (p.drop 1)) = p
  | a :: b :: l, h => by
    have ih := weave_evens l (by simp only [List.length_cons] at h; omega)
    have e : evens ((a :: b :: l).drop 1) = b :: evens (l.drop 1) := by
      show evens (b :: l) = _
      cases l with
      | nil => rfl
      | cons c l => rfl
    rw [e]
    show a :: b :: weave (evens l) (evens (l.drop 1)) = _
    rw [ih]
  | [], _ => rfl
  | [_], h => by simp at h
theorem evens_len {α : Type} : ∀ (l : List α), (evens l).length = (l.length + 1) / 2
  | a :: b :: l => by have := evens_len l; simp only [evens, List.length_cons, this]; omega
  | [_] => by simp [evens]
  | [] => by simp [evens]
theorem evens_at {α : Type} : ∀ (l : List α) (i : Nat) (h : 2 * i < l.length), (evens l)[i]? = some l[2 * i]
  | a :: b :: l, 0, _ => rfl
  | a :: b :: l, i + 1, h => by
    have := evens_at l i (by simp only [List.length_cons] at h; omega)
    show (evens l)[i]? = _
    rw [this]
    simp only [show 2 * (i + 1) = 2 * i + 1 + 1 by omega, List.getElem_cons_succ]
  | [a], 0, _ => rfl
  | [a], i + 1, h => by simp at h; try omega
  | [], _, h => by simp at h
theorem weave_mem : ∀ {a b : List (List Cel)} {r : List Cel}, r ∈ weave a b → r ∈ a ∨ r ∈ b
  | x :: a, y :: b, r, h => by
    simp only [weave, List.mem_cons] at h
    rcases h with rfl | rfl | h
    · exact .inl (List.mem_cons_self ..)
    · exact .inr (List.mem_cons_self ..)
    · rcases weave_mem h with h | h
      · exact .inl (List.mem_cons_of_mem _ h)
      · exact .inr (List.mem_cons_of_mem _ h)
  | [], _, r, h => by simp [weave] at h
  | _ :: _, [], r, h => by simp [weave] at h
/-! a picture, sent and received -/
def amtI (j : Nat) (O X Y : Int) (f : Bool) (ys : List I3) : List I3 := (headI f ++ ys.map (conjI f)).map (trI 4 (4 * ((2 ^ j : Nat) : Int)) O (((2 ^ j : Nat) : Int) * X) (((2 ^ j : Nat) : Int) * Y))
def Sent (W j : Nat) (O X Y : Int) : List (List Cel) → List (List Nat) → Prop
  | [], [] => True
  | p :: q :: ps, a :: b :: ls => (∃ ys us, LinkRow p ys ∧ LinkRow q us ∧ us.map Prod.snd = ys.map Prod.snd ∧ p.length = W ∧ q.length = W ∧ LV 7 a (amtI j O X Y false ys) ∧ LV 7 b (amtI j O X Y true us)) ∧ Sent W j O X Y ps ls
  | _, _ => False
theorem fle_V {x c : Nat} {m C : Int} {e : Nat} (hx : V x m e) (hc : V c C e) : fle .f32 x c = decide (m ≤ C) := by
  unfold fle
  rw [isV_lt hx hc, isV_eq hx hc, Bool.eq_iff_iff, Bool.or_eq_true, decide_eq_true_iff, decide_eq_true_iff, decide_eq_true_iff]
  omega
theorem low24 : ∀ x m, V x m 7 → (fun y => fle .f32 y 3250585600) x = decide (m ≤ -3072) := fun x m h => fle_V h (v_chk (by decide +kernel))
structure LineS (W : Nat) (l : List Nat) : Prop where
  tl : tlOk l = true
  run : Line1 (fun y => fle .f32 y 3250585600) (24 + 4 * W) true l
theorem link_pulse {W : Nat} {P Q R O : Int} (p0 : 0 < P) (p4 : P ≤ 4) (hO : O.natAbs ≤ 32) (e1 : Q.natAbs ≤ 4 * 4) (e2 : R.natAbs ≤ 4 * 4) {ys : List I3} {f : Bool} {a : List Nat} (hp : ∀ a ∈ ys, 0 ≤ a.1 ∧ a.1 ≤ 960 ∧ a.2.1.natAbs ≤ 32 ∧ a.2.2.natAbs ≤ 32) (hyl : ys.length = W) (h1 : 1 ≤ W) (h : LV 7 a ((headI f ++ ys.map (conjI f)).map (trI 4 (4 * P) O Q R))) : Line1 (fun y => fle .f32 y 3250585600) (24 + 4 * W) true a := by
  have e4 : ((2 ^ 4 : Nat) : Int) = 16 := rfl
  obtain ⟨c0, cs, hcs⟩ : ∃ c0 cs, ys = c0 :: cs := by
    cases ys with
    | nil => simp at hyl; omega
    | cons c cs => exact ⟨c, cs, rfl⟩
  have hform : (headI f ++ ys.map (conjI f)).map (trI 4 (4 * P) O Q R) = (4 * P * (-1024) + O * 16, 0, 0) :: (4 * P * (-1024) + O * 16, 0, 0) :: trI 4 (4 * P) O Q R (0, -256, if f then -256 else 256) :: trI 4 (4 * P) O Q R (0, -256, if f then -256 else 256) :: trI 4 (4 * P) O Q R (0, -256, if f then -256 else 256) :: trI 4 (4 * P) O Q R (0, -256, if f then -256 else 256) ::
      trI 4 (4 * P) O Q R (conjI f c0) :: (cs.map (conjI f)).map (trI 4 (4 * P) O Q R) := by
    unfold headI
    rw [hcs]
    simp only [List.map_cons, List.map_append, List.map_nil, List.cons_append, List.nil_append]
    have ep : trI 4 (4 * P) O Q R (-1024, 0, 0) = (4 * P * (-1024) + O * 16, 0, 0) := by simp [trI]
    rw [ep]
  rw [hform] at h
  have hl1 : (24 + 4 * W) = 24 + 4 * ((trI 4 (4 * P) O Q R (conjI f c0)) :: (cs.map (conjI f)).map (trI 4 (4 * P) O Q R)).length := by
    rw [← hyl, hcs]; simp
  rw [hl1]
  refine line_pulse low24 h (by omega) (by show -3072 < 4 * P * 0 + O * ((2 ^ 4 : Nat) : Int); omega) (fun b hb => ?_)
  have hb' : ∃ c ∈ ys, b = trI 4 (4 * P) O Q R (conjI f c) := by
    rcases List.mem_cons.1 hb with rfl | hb
    · exact ⟨c0, by rw [hcs]; exact List.mem_cons_self .., rfl⟩
    · obtain ⟨d, hd, rfl⟩ := List.mem_map.1 hb
      obtain ⟨c, hc, rfl⟩ := List.mem_map.1 hd
      exact ⟨c, by rw [hcs]; exact List.mem_cons_of_mem _ hc, rfl⟩
  obtain ⟨c, hc, rfl⟩ := hb'
  obtain ⟨q1, q2, q3, q4⟩ := hp c hc
  have q5 : (conjI f c).2.2.natAbs ≤ 32 := by unfold conjI; cases f <;> simp <;> omega
  have q6 : (conjI f c).2.1.natAbs ≤ 32 := q3
  have q7 : 0 ≤ (conjI f c).1 := q1
  have m1 := mul_abs q6 e1
  have m2 := mul_abs q5 e2
  have m3 := mul_abs q6 e2
  have m4 := mul_abs q5 e1
  have m5 : 0 ≤ 4 * P * (conjI f c).1 := Int.mul_nonneg (by omega) q7
  have key : High (-3072) (trI 4 (4 * P) O Q R (conjI f c)) ↔ (-3072 < 4 * P * (conjI f c).1 + O * 16 + ((conjI f c).2.1 * Q - (conjI f c).2.2 * R) ∧ -3072 < 4 * P * (conjI f c).1 + O * 16 - ((conjI f c).2.1 * R + (conjI f c).2.2 * Q) ∧ -3072 < 4 * P * (conjI f c).1 + O * 16 - ((conjI f c).2.1 * Q - (conjI f c).2.2 * R) ∧ -3072 < 4 * P * (conjI f c).1 + O * 16 + ((conjI f c).2.1 * R + (conjI f c).2.2 * Q)) := by
    unfold High trI
    rw [e4]
  rw [key]
  clear key h hform hl1 e4
  generalize (conjI f c).2.1 * Q = u1 at *
  generalize (conjI f c).2.2 * R = u2 at *
  generalize (conjI f c).2.1 * R = u3 at *
  generalize (conjI f c).2.2 * Q = u4 at *
  generalize 4 * P * (conjI f c).1 = u5 at *
  clear hp e1 e2 hb hc q1 q2 q3 q4 q5 q6 q7
  exact ⟨by omega, by omega, by omega, by omega⟩
theorem link_line {W j : Nat} {O X Y : Int} (hj : j ≤ 2) (hO : O.natAbs ≤ 32) (hX : X = 2 ∨ X = -2 ∨ X = 4 ∨ X = -4) (hY : Y.natAbs ≤ 4) {p : List Cel} {ys : List I3} {f : Bool} {a : List Nat} (hp : LinkRow p ys) (hW : p.length = W) (h1 : 1 ≤ W) (h64 : W ≤ 64) (h : LV 7 a (amtI j O X Y f ys)) :
    LineS W a ∧ LineT (Fx.tl a) ys f 8 0 (2 * X) (2 * Y) := by
  have hyl : ys.length = W := by rw [← hp.1.len]; exact hW
  obtain ⟨p0, p4⟩ := pow_le4 hj
  have hx : X.natAbs ≤ 4 := by rcases hX with rfl | rfl | rfl | rfl <;> decide
  have e1 := mul_abs (a := ((2 ^ j : Nat) : Int)) (b := X) (P := 4) (Q := 4) (by omega) hx
  have e2 := mul_abs (a := ((2 ^ j : Nat) : Int)) (b := Y) (P := 4) (Q := 4) (by omega) hY
  have hs := line_small (odd := f) hp.plain.2
  have hts := trI_small (e := 4) (n := 1024) (g := 16) (A := 4 * ((2 ^ j : Nat) : Int)) (O := O) (X := ((2 ^ j : Nat) : Int) * X) (Y := ((2 ^ j : Nat) : Int) * Y) (by omega) (by omega) e1 e2 hs
  have hlen : (headI f ++ ys.map (conjI f)).length = 6 + ys.length := by simp [headI]; omega
  have hal : (amtI j O X Y f ys).length = 6 + ys.length := by unfold amtI; rw [List.length_map, hlen]
  have hlo : lineOk a = true := lineOk_LV h hts (by decide) (by rw [hal]; omega) (by rw [hal]; omega)
  obtain ⟨k1, k2⟩ := link_level hj hO hx hY hp.plain.2 (by omega) (by omega) h hlo (fun b hb => by obtain ⟨q1, q2, q3, q4⟩ := hp.2 b hb; exact ⟨by omega, q3, q4⟩)
  refine ⟨⟨k1, ?_⟩, lineT_of (by decide) (by decide) (by decide) (by omega) (by omega) hp.plain.2 (by omega) (by omega) k2⟩
  clear k1 k2 hlo hal hts hs
  unfold amtI at h
  exact link_pulse p0 p4 hO e1 e2 hp.2 hyl h1 h
theorem eqRows_V {e : Nat} {r s : List Cel} {ys : List I3} (h : CVs e r ys) (k : CVs e s ys) : EqRows r s := h.eq k
structure Got (W : Nat) (ps : List (List Cel)) (ls : List (List Nat)) : Prop where
  len : ps.length = ls.length
  even : ls.length % 2 = 0
  ok : takeAllOk 1040187392 1065353216 ls = true
  eq : EqL (takeAll 1040187392 1065353216 ls) ps
  row : ∀ r ∈ takeAll 1040187392 1065353216 ls, rowOk r = true ∧ r.length = W
  tl : ls.all tlOk = true
  lines : Lines (fun y => fle .f32 y 3250585600) (24 + 4 * W) (List.replicate ls.length true) ls
theorem Sent.got {W j : Nat} {O X Y : Int} (hj : j ≤ 2) (hO : O.natAbs ≤ 32) (hX : X = 2 ∨ X = -2 ∨ X = 4 ∨ X = -4) (hY : Y.natAbs ≤ 4) (h1 : 1 ≤ W) (h64 : W ≤ 64) : ∀ {ps : List (List Cel)} {ls : List (List Nat)}, Sent W j O X Y ps ls → Got W ps ls
  | [], [], _ => ⟨rfl, rfl, rfl, trivial, fun r h => by simp [takeAll, twos] at h, rfl, trivial⟩
  | p :: q :: ps, a :: b :: ls, h => by
    obtain ⟨⟨ys, us, hp, hq, hc, lp, lq, va, vb⟩, hr⟩ := h
    have ih := Sent.got hj hO hX hY h1 h64 hr
    obtain ⟨sa, ta⟩ := link_line hj hO hX hY hp lp h1 h64 va
    obtain ⟨sb, tb⟩ := link_line hj hO hX hY hq lq h1 h64 vb
    have hyl : ys.length = W := by rw [← hp.1.len]; exact lp
    have hul : us.length = W := by rw [← hq.1.len]; exact lq
    obtain ⟨k1, r0, r1, k2, k3, k4⟩ := link_take hX hY ta tb hc (by omega) (by omega) hp.2 hq.2
    have ok0 := k3.rowOk hp.plain.2 (by decide) (by omega) (by omega)
    have ok1 := k4.rowOk hq.plain.2 (by decide) (by omega) (by omega)
    have e : takeAll 1040187392 1065353216 (a :: b :: ls) = r0 :: r1 :: takeAll 1040187392 1065353216 ls := by
      unfold takeAll
      simp only [twos, List.flatMap_cons, k2]
      rfl
    refine ⟨by simp [ih.len], by have := ih.even; simp only [List.length_cons]; omega, ?_, ?_, ?_, ?_, ⟨sa.run, sb.run, ih.lines⟩⟩
    · have := ih.ok
      unfold takeAllOk at this ⊢
      simp only [twos, List.all_cons, k1, this]; rfl
    · rw [e]; exact ⟨k3.eq hp.1, k4.eq hq.1, ih.eq⟩
    · rw [e]
      intro r hr'
      rcases List.mem_cons.1 hr' with rfl | hr'
      · exact ⟨ok0, by rw [k3.len]; exact hyl⟩
      rcases List.mem_cons.1 hr' with rfl | hr'
      · exact ⟨ok1, by rw [k4.len]; exact hul⟩
      · exact ih.row r hr'
    · simp only [List.all_cons, sa.tl, sb.tl, ih.tl]; rfl
  | [], _ :: _, h => h.elim
  | [_], _, h => by cases h
  | _ :: _ :: _, [], h => h.elim
  | _ :: _ :: _, [_], h => h.elim
theorem getD_true (K k : Nat) (h : k < K) : (List.replicate K true).getD k false = true := by rw [List.getD_eq_getElem?_getD, List.getElem?_replicate, if_pos h]; rfl
/-- what is received of such a stream -/
theorem Got.recv {W : Nat} {ps : List (List Cel)} {ls : List (List Nat)} (h : Got W ps ls) (h1 : 1 ≤ W) (h4 : W ≤ 4) (hK : ls.length = 4 ∨ ls.length = 8) :
    recvOk (W : Int) (ls.length : Int) 3250585600 1040187392 1065353216 0 ls.flatten = true ∧ EqL (Fx.recv (W : Int) (ls.length : Int) 3250585600 1040187392 1065353216 0 ls.flatten) (weave (ps.take (ls.length / 2)) (ps.drop (ls.length / 2))) := by
  have hflat := h.lines.flat
  have hLL : ls.length * (24 + 4 * W) ≤ 8 * 40 := Nat.mul_le_mul (by omega) (by omega)
  have hst : starts (lows ls.flatten 3250585600) (ls.flatten.length : Nat) ((24 + 4 * W : Nat) : Int) ((3 : Nat) : Int) = places ls.length (24 + 4 * W) := by
    obtain ⟨K, hKK⟩ : ∃ K, ls.length = K + 1 := ⟨ls.length - 1, by omega⟩
    have hl := h.lines
    rw [hKK, List.replicate_succ] at hl
    refine lines_starts hl (by omega) (by omega) (by omega) (by omega) (by omega) (fun k hk => .inl ?_)
    rw [← List.replicate_succ]
    exact getD_true _ _ (by simp only [List.length_cons, List.length_replicate] at hk; omega)
  have each : ∀ {fs : List Bool} {xs : List (List Nat)}, Lines (fun y => fle .f32 y 3250585600) (24 + 4 * W) fs xs → ∀ l ∈ xs, l.length = 24 + 4 * W := by
    intro fs
    induction fs with
    | nil =>
      intro xs hx
      cases xs with
      | nil => intro l hl; cases hl
      | cons y xs => exact hx.elim
    | cons b fs ih =>
      intro xs hx
      cases xs with
      | nil => exact hx.elim
      | cons y xs =>
        intro l hl
        rcases List.mem_cons.1 hl with rfl | hl
        · exact hx.1.len
        · exact ih hx.2 l hl
  have hcut := lines_cut (each h.lines) hflat (by omega) (by omega) (by omega)
  have hrl : recvLines (W : Int) 3250585600 ls.flatten = ls := by
    unfold recvLines
    have e : (24 + 4 * (W : Int)) = ((24 + 4 * W : Nat) : Int) := by push_cast; rfl
    rw [e]
    have hst' : starts (lows ls.flatten 3250585600) (ls.flatten.length : Nat) ((24 + 4 * W : Nat) : Int) 3 = places ls.length (24 + 4 * W) := hst
    rw [hst', hcut]
  have htl := takeAll_len h.ok h.even
  have hset : setOk (W : Int) (ls.length : Int) 3250585600 1040187392 1065353216 0 = true := by
    have c1 : within32 3250585600 1149239296 = true := by decide +kernel
    have c2 : fge .f32 1040187392 0 = true := by decide +kernel
    have c3 : fle .f32 1040187392 1098907648 = true := by decide +kernel
    have c4 : fge .f32 1065353216 0 = true := by decide +kernel
    have c5 : fle .f32 1065353216 1098907648 = true := by decide +kernel
    unfold setOk
    rw [c1, c2, c3, c4, c5, decide_eq_true (show (1 : Int) ≤ (W : Int) by omega), decide_eq_true (show (W : Int) ≤ 64 by omega), decide_eq_true (show (4 : Int) ≤ (ls.length : Int) by omega), decide_eq_true (show (ls.length : Int) ≤ 64 by omega), decide_eq_true (show (ls.length : Int) % 4 = 0 by omega)]; rfl
  have hrows : ∀ r ∈ weave ((takeAll 1040187392 1065353216 ls).take (ls.length / 2)) ((takeAll 1040187392 1065353216 ls).drop (ls.length / 2)), rowOk r = true ∧ r.length = W := by
    intro r hr
    rcases weave_mem hr with h0 | h0
    · exact h.row r (List.mem_of_mem_take h0)
    · exact h.row r (List.mem_of_mem_drop h0)
  have hwl : ((takeAll 1040187392 1065353216 ls).take (ls.length / 2)).length = ((takeAll 1040187392 1065353216 ls).drop (ls.length / 2)).length := by
    rw [List.length_take, List.length_drop, htl]; omega
  have hwlen := weave_len hwl
  have hwl2 : (weave ((takeAll 1040187392 1065353216 ls).take (ls.length / 2)) ((takeAll 1040187392 1065353216 ls).drop (ls.length / 2))).length = ls.length := by
    rw [hwlen, List.length_take, htl]; omega
  have hpic : pictureOk (weave ((takeAll 1040187392 1065353216 ls).take (ls.length / 2)) ((takeAll 1040187392 1065353216 ls).drop (ls.length / 2))) = true := by
    generalize weave ((takeAll 1040187392 1065353216 ls).take (ls.length / 2)) ((takeAll 1040187392 1065353216 ls).drop (ls.length / 2)) = P at *
    unfold pictureOk
    rw [hwl2, decide_eq_true (show 4 ≤ ls.length by omega), decide_eq_true (show ls.length ≤ 64 by omega), decide_eq_true (show ls.length % 4 = 0 by omega)]
    simp only [Bool.true_and]
    rw [List.all_eq_true]
    intro r hr
    have h0 : P.getD 0 [] ∈ P := by
      cases P with
      | nil => simp at hwl2; omega
      | cons x l => exact List.mem_cons_self ..
    rw [(hrows r hr).1, (hrows r hr).2, (hrows _ h0).2]; simp
  have hok : recvOk (W : Int) (ls.length : Int) 3250585600 1040187392 1065353216 0 ls.flatten = true := by
    unfold recvOk weaveOk
    rw [hrl, hset, h.tl, h.ok, Int.toNat_natCast, hwl, hpic]
    simp
  refine ⟨hok, ?_⟩
  unfold Fx.recv
  rw [if_pos hok, hrl, Int.toNat_natCast]
  exact (h.eq.take _).weave (h.eq.drop _)
end Go.Fx

import Derived.Test.YtiddaabodkglmaaBl
import Derived.Test.YtiddaabodkglmaaK8
import Derived.Test.YtiddaabodkglmaaK4
namespace Go.Fx
open Ieee
set_option linter.unusedVariables false
set_option linter.unusedSimpArgs false
set_option exponentiation.threshold 1000
/-! a picture that comes through a link -/
/-- a row of brightnesses from 0 to 60 and colours with parts of 2 at most -/
def LinkRow (row : List Cel) (ys : List I3) : Prop := CVs 4 row ys ∧ ∀ a ∈ ys, 0 ≤ a.1 ∧ a.1 ≤ 960 ∧ a.2.1.natAbs ≤ 32 ∧ a.2.2.natAbs ≤ 32
theorem LinkRow.plain {row : List Cel} {ys : List I3} (h : LinkRow row ys) : PlainRow row ys :=
  ⟨h.1, fun a ha => by obtain ⟨h1, h2, h3, h4⟩ := h.2 a ha; exact ⟨by omega, by omega, by omega⟩⟩
/-- a channel that turns hues; its gains are powers of two -/
structure LinkCh (ch : Chn) (j : Nat) (O X Y : Int) : Prop where
  ch : CH 3 ch (4 * ((2 ^ j : Nat) : Int)) O (((2 ^ j : Nat) : Int) * X) (((2 ^ j : Nat) : Int) * Y)
  j2 : j ≤ 2
  o : O.natAbs ≤ 32
  x : X = 2 ∨ X = -2 ∨ X = 4 ∨ X = -4
  y : Y.natAbs ≤ 4
theorem pow_le4 {j : Nat} (h : j ≤ 2) : 0 < ((2 ^ j : Nat) : Int) ∧ ((2 ^ j : Nat) : Int) ≤ 4 := by
  have : 2 ^ j ≤ 4 := Nat.le_trans (Nat.pow_le_pow_right (by omega) h) (by decide)
  have := Nat.two_pow_pos j
  omega
theorem LinkCh.bounds {ch : Chn} {j : Nat} {O X Y : Int} (h : LinkCh ch j O X Y) : 0 < 4 * ((2 ^ j : Nat) : Int) ∧ 4 * ((2 ^ j : Nat) : Int) ≤ 16 ∧ (((2 ^ j : Nat) : Int) * X).natAbs ≤ 16 ∧ (((2 ^ j : Nat) : Int) * Y).natAbs ≤ 16 := by
  obtain ⟨p0, p4⟩ := pow_le4 h.j2
  have hx : X.natAbs ≤ 4 := by rcases h.x with rfl | rfl | rfl | rfl <;> decide
  have e1 := mul_abs (a := ((2 ^ j : Nat) : Int)) (b := X) (P := 4) (Q := 4) (by omega) hx
  have e2 := mul_abs (a := ((2 ^ j : Nat) : Int)) (b := Y) (P := 4) (Q := 4) (by omega) h.y
  exact ⟨by omega, by omega, by omega, by omega⟩
/-- what is sent of a line -/
theorem link_sent {ch : Chn} {j : Nat} {O X Y : Int} (hc : LinkCh ch j O X Y) {row : List Cel} {ys : List I3} {f : Bool} {gs : List Nat} (h : LinkRow row ys) (h1 : 1 ≤ row.length) (h64 : row.length ≤ 64) (hg : cns gs = lineR (cnC row) f) :
    trOk ch gs = true ∧ ∀ xs, cns xs = tr ch gs → LV 7 xs ((headI f ++ ys.map (conjI f)).map (trI 4 (4 * ((2 ^ j : Nat) : Int)) O (((2 ^ j : Nat) : Int) * X) (((2 ^ j : Nat) : Int) * Y))) := by
  obtain ⟨hv, hl, hn⟩ := plain_line h.plain h1 h64 hg
  have hyl := h.1.len
  obtain ⟨a0, a1, x1, y1⟩ := hc.bounds
  have o1 := hc.o
  have c := hc.ch
  have hs := line_small (odd := f) h.plain.2
  generalize 4 * ((2 ^ j : Nat) : Int) = A at *
  generalize ((2 ^ j : Nat) : Int) * X = X' at *
  generalize ((2 ^ j : Nat) : Int) * Y = Y' at *
  have gA : A.natAbs ≤ 16 := by omega
  have gO : O.natAbs * 2 ^ 4 ≤ 1024 * 16 := by omega
  have ht := tr_LV (n := 1024) (g := 16) c gA gO x1 y1 (by decide) (by decide) (by decide) hv hs
  have hts := trI_small (e := 4) (n := 1024) (g := 16) (A := A) (O := O) (X := X') (Y := Y') gA gO x1 y1 hs
  have hlen : (headI f ++ ys.map (conjI f)).length = 6 + ys.length := by simp [headI]; omega
  have hok : trOk ch gs = true := by
    unfold trOk
    rw [ch_ok c (by omega) (by omega) (by omega) (by omega) (by omega), samplesOk_LV hv hs (by decide) (by omega) (by omega), samplesOk_LV ht hts (by decide) (by rw [List.length_map]; omega) (by rw [List.length_map]; omega)]; rfl
  refine ⟨hok, fun xs hx => ?_⟩
  unfold tr at hx
  rw [hok, if_pos rfl] at hx
  exact LV.of_cn (by rw [hx]; exact ht)
theorem link_list (j : Nat) (O X Y : Int) (T : List I3) : T.map (trI 4 (4 * ((2 ^ j : Nat) : Int)) O (((2 ^ j : Nat) : Int) * X) (((2 ^ j : Nat) : Int) * Y)) = (T.map (trI 4 4 0 X Y)).map (lvI j (16 * O)) := by
  rw [List.map_map]
  congr 1
  funext a
  obtain ⟨y, r, i⟩ := a
  simp only [trI, Function.comp, lvI]
  have e4 : ((2 ^ 4 : Nat) : Int) = 16 := rfl
  rw [e4]
  refine Prod.ext ?_ (Prod.ext ?_ ?_) <;> simp only [] <;> generalize ((2 ^ j : Nat) : Int) = q <;> grind
theorem link_twice (X Y : Int) (T : List I3) : (T.map (trI 4 4 0 X Y)).map dbl = T.map (trI 4 8 0 (2 * X) (2 * Y)) := by
  rw [List.map_map]
  congr 1
  funext a
  obtain ⟨y, r, i⟩ := a
  simp only [trI, Function.comp, dbl]
  refine Prod.ext ?_ (Prod.ext ?_ ?_) <;> simp only [] <;> grind
/-- what was sent, brought to level -/
theorem link_level {j : Nat} {O X Y : Int} (hj : j ≤ 2) (hO : O.natAbs ≤ 32) (hX : X.natAbs ≤ 4) (hY : Y.natAbs ≤ 4) {ys : List I3} {f : Bool} {xs : List Nat} (hs0 : ∀ a ∈ ys, Small 1024 a) (h1 : 1 ≤ ys.length) (h64 : ys.length ≤ 64)
    (h : LV 7 xs ((headI f ++ ys.map (conjI f)).map (trI 4 (4 * ((2 ^ j : Nat) : Int)) O (((2 ^ j : Nat) : Int) * X) (((2 ^ j : Nat) : Int) * Y)))) (hxl : lineOk xs = true) (hs1 : ∀ a ∈ ys, a.1.natAbs ≤ 960 ∧ a.2.1.natAbs ≤ 32 ∧ a.2.2.natAbs ≤ 32) :
    tlOk xs = true ∧ LV 7 (tl xs) ((headI f ++ ys.map (conjI f)).map (trI 4 8 0 (2 * X) (2 * Y))) := by
  rw [link_list] at h
  have hsd : ∀ a ∈ (headI f ++ ys.map (conjI f)).map (trI 4 4 0 X Y), Small 4096 a := by
    intro b hb
    obtain ⟨a, ha, rfl⟩ := List.mem_map.1 hb
    have key : a.1.natAbs ≤ 1024 ∧ a.2.1.natAbs ≤ 256 ∧ a.2.2.natAbs ≤ 256 := by
      rcases List.mem_append.1 ha with h0 | h0
      · unfold headI at h0
        simp only [List.mem_cons, List.not_mem_nil, or_false] at h0
        rcases h0 with rfl | rfl | rfl | rfl | rfl | rfl <;> cases f <;> exact ⟨by decide, by decide, by decide⟩
      · obtain ⟨c, hc, rfl⟩ := List.mem_map.1 h0
        obtain ⟨s1, s2, s3⟩ := hs1 c hc
        exact ⟨by show c.1.natAbs ≤ _; omega, by show c.2.1.natAbs ≤ _; omega, by unfold conjI; cases f <;> simp <;> omega⟩
    obtain ⟨k1, k2, k3⟩ := key
    have e1 := mul_abs k2 hX
    have e2 := mul_abs k3 hY
    have e3 := mul_abs k2 hY
    have e4 := mul_abs k3 hX
    exact ⟨by show (4 * a.1 + 0 * ((2 ^ 4 : Nat) : Int)).natAbs ≤ _; omega, by show (a.2.1 * X - a.2.2 * Y).natAbs ≤ _; omega, by show (a.2.1 * Y + a.2.2 * X).natAbs ≤ _; omega⟩
  have hform : (headI f ++ ys.map (conjI f)).map (trI 4 4 0 X Y) = (-((2 ^ (6 + 6) : Nat) : Int), 0, 0) :: (-((2 ^ (6 + 6) : Nat) : Int), 0, 0) :: trI 4 4 0 X Y (0, -256, if f = true then -256 else 256) :: trI 4 4 0 X Y (0, -256, if f = true then -256 else 256) :: trI 4 4 0 X Y (0, -256, if f = true then -256 else 256) :: trI 4 4 0 X Y (0, -256, if f = true then -256 else 256) :: (ys.map (conjI f)).map (trI 4 4 0 X Y) := by
    rw [List.map_append]
    have : (headI f).map (trI 4 4 0 X Y) = [(-((2 ^ (6 + 6) : Nat) : Int), 0, 0), (-((2 ^ (6 + 6) : Nat) : Int), 0, 0), trI 4 4 0 X Y (0, -256, if f = true then -256 else 256), trI 4 4 0 X Y (0, -256, if f = true then -256 else 256), trI 4 4 0 X Y (0, -256, if f = true then -256 else 256), trI 4 4 0 X Y (0, -256, if f = true then -256 else 256)] := by
      unfold headI
      simp only [List.map_cons, List.map_nil]
      congr 1
      · simp [trI]
      congr 1
      · simp [trI]
    rw [this]; rfl
  rw [hform] at h hsd
  obtain ⟨p0, p4⟩ := pow_le4 hj
  have hjp : 2 ^ j ≤ 4 := by omega
  obtain ⟨k1, k2⟩ := tl_V (e := 6) (k := 1) (j := j) (n := 4096) (B := 16 * O) (by omega) (by omega) (by omega) h (by simp [trI]) hsd (by
    have : 2 ^ j * (2 * 4096) ≤ 4 * (2 * 4096) := Nat.mul_le_mul_right _ hjp
    omega) hxl (by decide) (by rw [List.length_map, List.length_map]; omega) (by rw [List.length_map, List.length_map]; omega)
  refine ⟨k1, ?_⟩
  rw [← hform] at k2
  have := k2.twice
  rw [link_twice] at this
  unfold tl
  rw [if_pos k1]
  exact this
/-- what is known of a line of such amounts -/
theorem lineT_of {A O X Y : Int} (a0 : 0 < A) (a1 : A ≤ 16) (o1 : O.natAbs ≤ 32) (x1 : X.natAbs ≤ 16) (y1 : Y.natAbs ≤ 16) {ys : List I3} {f : Bool} {xs : List Nat} (hs0 : ∀ a ∈ ys, Small 1024 a) (h1 : 1 ≤ ys.length) (h64 : ys.length ≤ 64) (hxv : LV 7 xs ((headI f ++ ys.map (conjI f)).map (trI 4 A O X Y))) : LineT xs ys f A O X Y := by
  have hs := line_small (odd := f) hs0
  have gA : A.natAbs ≤ 16 := by omega
  have gO : O.natAbs * 2 ^ 4 ≤ 1024 * 16 := by omega
  have hts := trI_small (e := 4) (n := 1024) (g := 16) (A := A) (O := O) (X := X) (Y := Y) gA gO x1 y1 hs
  have hlen : (headI f ++ ys.map (conjI f)).length = 6 + ys.length := by simp [headI]; omega
  have hxl := lineOk_LV hxv hts (by decide) (by rw [List.length_map]; omega) (by rw [List.length_map]; omega)
  have hxn : xs.length = 24 + 4 * ys.length := by rw [hxv.len, List.length_map, hlen]; omega
  have hd : LV 7 (xs.drop 24) ((ys.map (conjI f)).map (trI 4 A O X Y)) := by
    have := hxv.drop 6
    simpa [headI] using this
  have hds : ∀ a ∈ (ys.map (conjI f)).map (trI 4 A O X Y), Small (2 * (1024 * 16)) a := fun a ha => hts a (by
    rw [List.map_append]; exact List.mem_append_right _ ha)
  have hdd := dec_CVs (n := 2 * (1024 * 16)) false (by omega) (by omega) hd.cn hds
  rw [map_conj_false] at hdd
  have hro : rowOk (decode false (cns (xs.drop 24))) = true := hdd.rowOk hds (by decide) (by rw [List.length_map, List.length_map]; omega) (by rw [List.length_map, List.length_map]; omega)
  have hdo : decodeOk false (xs.drop 24) = true := by
    unfold decodeOk
    rw [hro, hd.len, decide_eq_true (by omega)]; rfl
  have hao : aloneOk false xs = true := by unfold aloneOk; rw [hxl, hdo]; rfl
  have hbl : brst xs = (xs.drop 8).take 16 := by unfold brst; rw [if_pos hxl]
  have hb : LV 7 (brst xs) ((headI f).drop 2 |>.map (trI 4 A O X Y)) := by
    have := (hxv.drop 2).take 4
    rw [hbl]
    simpa [headI] using this
  have hbs : ∀ a ∈ ((headI f).drop 2).map (trI 4 A O X Y), Small (2 * (1024 * 16)) a := fun a ha => hts a (by
    rw [List.map_append]; refine List.mem_append_left _ ?_
    obtain ⟨b, hb, rfl⟩ := List.mem_map.1 ha
    exact List.mem_map_of_mem (List.mem_of_mem_drop hb))
  have hbd := dec_CVs (n := 2 * (1024 * 16)) false (by omega) (by omega) hb.cn hbs
  rw [map_conj_false] at hbd
  have hbo : bcOk xs = true := by
    unfold bcOk decodeOk
    rw [hxl, hbd.rowOk hbs (by decide) (by simp [headI]) (by simp [headI]), burst_len hxl]; rfl
  have hb4 : CVs 7 (bcRow xs) [trI 4 A O X Y (0, -256, if f then -256 else 256), trI 4 A O X Y (0, -256, if f then -256 else 256), trI 4 A O X Y (0, -256, if f then -256 else 256), trI 4 A O X Y (0, -256, if f then -256 else 256)] := by
    unfold bcRow; exact hbd
  obtain ⟨p, q, r, s, hl4, c1, c2, c3, c4⟩ := cvs4 hb4
  have bX : (if f then (-256 : Int) else 256) = -256 ∨ (if f then (-256 : Int) else 256) = 256 := by cases f <;> simp
  refine ⟨hxn, hxl, hao, ?_, hbo, ?_, ?_⟩
  · unfold Fx.alone
    rw [if_pos hao]; exact hdd
  · unfold bcRe
    rw [if_pos hbo, hl4]
    refine (sum4 c1.2.1 c2.2.1 c3.2.1 c4.2.1 ?_).cast rfl
    show (-256 * X - (if f then (-256 : Int) else 256) * Y).natAbs ≤ _
    rcases bX with e | e <;> rw [e] <;> omega
  · unfold bcIm
    rw [if_pos hbo, hl4]
    refine (sum4 c1.2.2 c2.2.2 c3.2.2 c4.2.2 ?_).cast rfl
    show (-256 * Y + (if f then (-256 : Int) else 256) * X).natAbs ≤ _
    rcases bX with e | e <;> rw [e] <;> omega
/-- a quotient by a power of two of either sign -/
theorem v_quoS {x y : Nat} {m σ : Int} {e c g : Nat} (hσ : σ = 1 ∨ σ = -1) (hx : V x m e) (hy : V y (σ * ((2 ^ c : Nat) : Int)) g) (e' : Nat) (he' : e' + g = e + c) (he : e' ≤ 149) (hm : m.natAbs ≤ 16777216) : V (quo32 x y) (σ * m) e' := by
  rcases hσ with rfl | rfl
  · rw [Int.one_mul] at hy ⊢
    exact v_quo hx hy e' he' he hm
  · have hy' : V (Op.negFloat .f32 y) ((2 ^ c : Nat) : Int) g := by
      have := isV_neg (k := .f32) hy
      rw [Int.neg_mul, Int.one_mul, Int.neg_neg] at this
      exact this
    obtain ⟨a, pl, hr, hp⟩ := v_pow hy'
    have hr2 : FloatKind.f32.format.read y = .number true (2 ^ a) pl := by
      have h := read_neg .f32 y
      rw [hr] at h
      have h2 := congrArg Datum.opposite h
      rw [opp_opp] at h2
      rw [← h2]; rfl
    have h := fop_quo (k := .f32) (e := e) true a pl hx hr2 e' (by omega) (e149 he) (m24 hm)
    simpa [sg] using h
def eight (a : I3) : I3 := (8 * a.1, 8 * a.2.1, 8 * a.2.2)
theorem CVs.coarse3 : ∀ {l : List Cel} {ys : List I3}, CVs 7 l (ys.map eight) → CVs 4 l ys
  | [], [], _ => trivial
  | c :: l, a :: ys, h => ⟨⟨v_coarser 3 h.1.1 rfl (by simp [eight]; omega), v_coarser 3 h.1.2.1 rfl (by simp [eight]; omega), v_coarser 3 h.1.2.2 rfl (by simp [eight]; omega)⟩, CVs.coarse3 h.2⟩
  | [], _ :: _, h => h.elim
  | _ :: _, [], h => h.elim
/-- colours, scaled by a number of which the amount is known -/
theorem CVs.scale {e g n : Nat} {k : Nat} {K : Int} (hk : V k K g) (heg : e + g ≤ 149) {G : I3 → I3} (hG : ∀ a, G a = (a.1 * ((2 ^ g : Nat) : Int), a.2.1 * K, a.2.2 * K)) (hb : ∀ m : Int, m.natAbs ≤ n → (m * K).natAbs ≤ 16777216) : ∀ {l : List Cel} {ys : List I3}, CVs e l ys → (∀ a ∈ ys, Small n a) → CVs (e + g) (l.map (scale1 k)) (ys.map G)
  | [], [], _, _ => trivial
  | c :: l, a :: ys, h, hs => by
    obtain ⟨s1, s2, s3⟩ := hs a (List.mem_cons_self ..)
    obtain ⟨⟨h1, h2, h3⟩, hr⟩ := h
    refine ⟨?_, CVs.scale hk heg hG hb hr (fun b hb' => hs b (List.mem_cons_of_mem _ hb'))⟩
    rw [hG]
    exact ⟨v_finer g h1 rfl rfl, v_mul h2 hk heg (hb _ s2), v_mul h3 hk heg (hb _ s3)⟩
  | [], _ :: _, h, _ => h.elim
  | _ :: _, [], h, _ => h.elim
/-- a pair that is received -/
theorem link_take {X Y : Int} (hX : X = 2 ∨ X = -2 ∨ X = 4 ∨ X = -4) (hY : Y.natAbs ≤ 4) {za zb : List Nat} {ys us : List I3} (ha : LineT za ys false 8 0 (2 * X) (2 * Y)) (hb : LineT zb us true 8 0 (2 * X) (2 * Y)) (hc : us.map Prod.snd = ys.map Prod.snd) (h1 : 1 ≤ ys.length) (h64 : ys.length ≤ 64)
    (hs : ∀ a ∈ ys, 0 ≤ a.1 ∧ a.1 ≤ 960 ∧ a.2.1.natAbs ≤ 32 ∧ a.2.2.natAbs ≤ 32) (hs' : ∀ a ∈ us, 0 ≤ a.1 ∧ a.1 ≤ 960 ∧ a.2.1.natAbs ≤ 32 ∧ a.2.2.natAbs ≤ 32) :
    takeOk za zb 1040187392 (cn .f32 1065353216) = true ∧ ∃ r0 r1, take za zb 1040187392 (cn .f32 1065353216) = [r0, r1] ∧ CVs 4 r0 ys ∧ CVs 4 r1 us := by
  have hx1 : X.natAbs ≤ 4 := by rcases hX with rfl | rfl | rfl | rfl <;> decide
  have hx0 : X ≠ 0 := by rcases hX with rfl | rfl | rfl | rfl <;> decide
  have hlen : us.length = ys.length := by simpa using congrArg List.length hc
  have hp : pairOk za zb = true := by
    unfold pairOk
    rw [ha.alone, hb.alone, ha.cells.len, hb.cells.len]
    simp [hlen]
  have hsw : swing za zb = 1 := by
    have := swing_T ha hb (by omega) (by omega) (by omega)
    simpa using this
  obtain ⟨v0, v1⟩ := pair_V (A := 8) (O := 0) (X := 2 * X) (Y := 2 * Y) false (n := 1024) (fun r i hr hi => by
    have e1 := mul_abs (a := 2 * X) (P := 8) (by omega) hr
    have e2 := mul_abs (a := 2 * X) (P := 8) (by omega) hi
    omega) ha.cells hb.cells hc (fun a h => by obtain ⟨q1, q2, q3, q4⟩ := hs a h; exact ⟨by omega, by omega, by omega⟩)
  have hpr : pair za zb = [pairP 1 (alone false za) (alone false zb), pairQ 1 (alone false za) (alone false zb)] := by
    unfold pair; rw [if_pos hp, hsw]
  simp only [Bool.false_eq_true, if_false] at v0 v1
  -- the size
  have hgo : hgOk za zb = true := by unfold hgOk; rw [ha.bc, hb.bc]; rfl
  have ra := ha.re
  have rb := hb.re
  simp only [Bool.false_eq_true, if_false, if_true] at ra rb
  have rs := (v_add ra rb (by decide) (by omega)).cast (n := -1024 * X) (by omega)
  have hg0 : V (hgRe za zb) X 2 := by
    unfold hgRe
    rw [if_pos hgo]
    have h := fop_quo (k := .f32) (e := 7) true 23 (-18) rs (y := 3254779904) read_m32 12 (by decide) (by decide) (m24 (by omega))
    have e1 : sg true * (-1024 * X) = X * ((2 ^ 10 : Nat) : Int) := by simp [sg]; omega
    rw [e1] at h
    exact IsV.coarser h
  have hkill : killed za zb 1040187392 = false := by
    unfold killed
    rw [hsw]
    have c8 : V 1040187392 1 3 := v_chk (by decide +kernel)
    have hamt : V (amt (hgRe za zb)) (if X < 0 then -X else X) 2 := by
      unfold amt
      have z0 : flt .f32 (hgRe za zb) 0 = decide (X < 0) := by unfold flt; rw [isV_lt hg0 (v_chk (x := 0) (m := 0) (e := 2) (by decide +kernel))]
      rw [z0]
      by_cases hn : X < 0
      · rw [decide_eq_true hn, if_pos rfl, if_pos hn]; exact isV_fneg hg0
      · rw [decide_eq_false hn, if_neg (by decide), if_neg hn]; exact v_cn.2 hg0
    have hf := v_finer 1 hamt (g := 3) rfl rfl
    have : flt .f32 (amt (hgRe za zb)) 1040187392 = false := by
      unfold flt; rw [isV_lt hf c8]
      refine decide_eq_false ?_
      have : ((2 ^ 1 : Nat) : Int) = 2 := rfl
      rw [this]
      split <;> omega
    rw [this]; decide
  obtain ⟨σ, c, hσ, hXc, hc2, hc1⟩ : ∃ (σ : Int) (c : Nat), (σ = 1 ∨ σ = -1) ∧ X = σ * ((2 ^ c : Nat) : Int) ∧ c ≤ 2 ∧ 1 ≤ c := by
    rcases hX with rfl | rfl | rfl | rfl
    · exact ⟨1, 1, .inl rfl, rfl, by omega, by omega⟩
    · exact ⟨-1, 1, .inr rfl, rfl, by omega, by omega⟩
    · exact ⟨1, 2, .inl rfl, rfl, by omega, by omega⟩
    · exact ⟨-1, 2, .inr rfl, rfl, by omega, by omega⟩
  have one2 : V 1065353216 4 2 := v_chk (by decide +kernel)
  have hinv := v_quoS hσ one2 (hXc ▸ hg0) c (by omega) (by omega) (by decide)
  have hσσ : σ * σ = 1 := by rcases hσ with rfl | rfl <;> rfl
  have hpc : ((2 ^ c : Nat) : Int) ≤ 4 ∧ 0 < ((2 ^ c : Nat) : Int) := by
    have := pow_le4 hc2
    exact ⟨this.2, this.1⟩
  -- rows of the pair
  have small7 : ∀ {zs : List I3}, (∀ a ∈ zs, 0 ≤ a.1 ∧ a.1 ≤ 960 ∧ a.2.1.natAbs ≤ 32 ∧ a.2.2.natAbs ≤ 32) → (∀ a ∈ zs.map (dueI 8 0 (2 * X)), Small 8192 a) ∧ (∀ a ∈ zs.map eight, Small 8192 a) := by
    intro zs hz
    constructor
    · intro b hb'
      obtain ⟨a, haa, rfl⟩ := List.mem_map.1 hb'
      obtain ⟨q1, q2, q3, q4⟩ := hz a haa
      have e2 := mul_abs (a := 2 * X) (P := 8) (by omega) q3
      have e3 := mul_abs (a := 2 * X) (P := 8) (by omega) q4
      exact ⟨by show (8 * a.1 + 0 * 16).natAbs ≤ _; omega, by show (2 * X * a.2.1).natAbs ≤ _; omega, by show (2 * X * a.2.2).natAbs ≤ _; omega⟩
    · intro b hb'
      obtain ⟨a, haa, rfl⟩ := List.mem_map.1 hb'
      obtain ⟨q1, q2, q3, q4⟩ := hz a haa
      exact ⟨by show (8 * a.1).natAbs ≤ _; omega, by show (8 * a.2.1).natAbs ≤ _; omega, by show (8 * a.2.2).natAbs ≤ _; omega⟩
  have sized : ∀ {row : List Cel} {zs : List I3}, 1 ≤ zs.length → zs.length ≤ 64 → (∀ a ∈ zs, 0 ≤ a.1 ∧ a.1 ≤ 960 ∧ a.2.1.natAbs ≤ 32 ∧ a.2.2.natAbs ≤ 32) → CVs 7 row (zs.map (dueI 8 0 (2 * X))) →
      scaleOk (quo32 1065353216 (hgRe za zb)) row = true ∧ CVs 7 (row.map (scale1 (quo32 1065353216 (hgRe za zb)))) (zs.map eight) := by
    intro row zs l1 l64 hz hv
    obtain ⟨sm, sm8⟩ := small7 hz
    have ok0 := hv.rowOk sm (by decide) (by rw [List.length_map]; exact l1) (by rw [List.length_map]; exact l64)
    have hsc := CVs.scale (n := 8192) hinv (by omega) (G := fun a => (a.1 * ((2 ^ c : Nat) : Int), a.2.1 * (σ * 4), a.2.2 * (σ * 4))) (fun a => rfl) (fun m hm => by
      have := mul_abs (a := m) (b := σ * 4) (Q := 4) hm (by rcases hσ with rfl | rfl <;> decide)
      omega) hv sm
    have hco : CVs 7 (row.map (scale1 (quo32 1065353216 (hgRe za zb)))) (zs.map eight) := by
      have conv : ∀ {l : List Cel} {zs : List I3}, CVs (7 + c) l ((zs.map (dueI 8 0 (2 * X))).map (fun a => (a.1 * ((2 ^ c : Nat) : Int), a.2.1 * (σ * 4), a.2.2 * (σ * 4)))) → CVs 7 l (zs.map eight) := by
        intro l
        induction l with
        | nil => intro zs h; cases zs <;> first | trivial | exact h.elim
        | cons x l ih =>
          intro zs h
          cases zs with
          | nil => exact h.elim
          | cons a zs =>
            refine ⟨⟨v_coarser c h.1.1 rfl ?_, v_coarser c h.1.2.1 rfl ?_, v_coarser c h.1.2.2 rfl ?_⟩, ih h.2⟩
            · show (8 * a.1 + 0 * 16) * ((2 ^ c : Nat) : Int) = 8 * a.1 * ((2 ^ c : Nat) : Int); grind
            · show (2 * X * a.2.1) * (σ * 4) = 8 * a.2.1 * ((2 ^ c : Nat) : Int); rw [hXc]; grind
            · show (2 * X * a.2.2) * (σ * 4) = 8 * a.2.2 * ((2 ^ c : Nat) : Int); rw [hXc]; grind
      exact conv hsc
    refine ⟨?_, hco⟩
    unfold scaleOk
    rw [ok0, hco.rowOk sm8 (by decide) (by rw [List.length_map]; exact l1) (by rw [List.length_map]; exact l64)]; rfl
  have kept : ∀ {row : List Cel} {zs : List I3}, 1 ≤ zs.length → zs.length ≤ 64 → (∀ a ∈ zs, 0 ≤ a.1 ∧ a.1 ≤ 960 ∧ a.2.1.natAbs ≤ 32 ∧ a.2.2.natAbs ≤ 32) → CVs 7 row (zs.map eight) →
      scaleOk (cn .f32 1065353216) row = true ∧ CVs 7 (row.map (scale1 (cn .f32 1065353216))) (zs.map eight) := by
    intro row zs l1 l64 hz hv
    obtain ⟨-, sm8⟩ := small7 hz
    have ok0 := hv.rowOk sm8 (by decide) (by rw [List.length_map]; exact l1) (by rw [List.length_map]; exact l64)
    have one0 : V (cn .f32 1065353216) 1 0 := v_cn.2 (v_chk (by decide +kernel))
    have hsc := CVs.scale (n := 8192) one0 (by omega) (G := fun a => a) (fun a => by obtain ⟨y, r, i⟩ := a; simp) (fun m hm => by rw [Int.mul_one]; omega) hv sm8
    rw [List.map_id'] at hsc
    refine ⟨?_, hsc⟩
    unfold scaleOk
    rw [ok0, hsc.rowOk sm8 (by decide) (by rw [List.length_map]; exact l1) (by rw [List.length_map]; exact l64)]; rfl
  obtain ⟨z1, z2⟩ := sized h1 h64 hs v0
  obtain ⟨z3, z4⟩ := sized (by omega) (by omega) hs' v1
  obtain ⟨z5, z6⟩ := kept h1 h64 hs z2
  obtain ⟨z7, z8⟩ := kept (by omega) (by omega) hs' z4
  have hne : feq .f32 (hgRe za zb) 0 = false := by
    unfold feq; rw [isV_eq hg0 (v_chk (x := 0) (m := 0) (e := 2) (by decide +kernel))]; exact decide_eq_false hx0
  have hso : satOk (quo32 1065353216 (hgRe za zb)) (pair za zb) = true := by rw [hpr]; simp [satOk, z1, z3]
  have hsz : size (hgRe za zb) (pair za zb) = [(pairP 1 (alone false za) (alone false zb)).map (scale1 (quo32 1065353216 (hgRe za zb))), (pairQ 1 (alone false za) (alone false zb)).map (scale1 (quo32 1065353216 (hgRe za zb)))] := by
    unfold size sat
    rw [hne, hso, hpr]; rfl
  have hst : satOk (cn .f32 1065353216) (size (hgRe za zb) (pair za zb)) = true := by rw [hsz]; simp [satOk, z5, z7]
  have htk : takeOk za zb 1040187392 (cn .f32 1065353216) = true := by
    unfold takeOk sizeOk
    rw [hp, hkill, hgo, hne, hso, hst]; rfl
  refine ⟨htk, _, _, ?_, z6.coarse3, z8.coarse3⟩
  unfold take
  rw [if_pos htk, hkill, if_neg (by decide)]
  unfold sat
  rw [if_pos hst, hsz]; rfl
end Go.Fx

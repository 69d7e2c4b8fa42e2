import Derived.Test.YtiddaabodkglmaaBk
import Derived.Test.YtiddaabodkglmaaEn
import Derived.Test.YtiddaabodkglmaaBc
namespace Go.Fx
set_option linter.unusedVariables false
set_option linter.unusedSimpArgs false
set_option exponentiation.threshold 1000
theorem V.cast {x : Nat} {m n : Int} {e : Nat} (h : V x m e) (hn : m = n) : V x n e := hn ▸ h
theorem val_of_V {x : Nat} {m : Int} {e : Nat} (h : V x m e) : ∃ a, Val .f32 x a ∧ a * ((2 ^ e : Nat) : Int) = m * ((2 ^ 149 : Nat) : Int) := by
  obtain ⟨s, mag, pl, h1, h2, h3⟩ := h
  exact ⟨_, ⟨s, mag, pl, h1, h2, rfl⟩, h3⟩
theorem cross_eq {a b c d r i X : Int} {e g : Nat} (h1 : a * ((2 ^ e : Nat) : Int) = r * ((2 ^ 149 : Nat) : Int)) (h2 : b * ((2 ^ g : Nat) : Int) = X * i * ((2 ^ 149 : Nat) : Int)) (h3 : c * ((2 ^ e : Nat) : Int) = i * ((2 ^ 149 : Nat) : Int)) (h4 : d * ((2 ^ g : Nat) : Int) = X * r * ((2 ^ 149 : Nat) : Int)) : a * b = c * d := by
  have he : ((2 ^ e : Nat) : Int) ≠ 0 := by have := Nat.two_pow_pos e; omega
  have hg : ((2 ^ g : Nat) : Int) ≠ 0 := by have := Nat.two_pow_pos g; omega
  generalize ((2 ^ e : Nat) : Int) = E at *
  generalize ((2 ^ g : Nat) : Int) = G at *
  generalize ((2 ^ 149 : Nat) : Int) = Q at *
  have h : (a * b) * (E * G) = (c * d) * (E * G) := by
    have e1 : (a * b) * (E * G) = (a * E) * (b * G) := by grind
    have e2 : (c * d) * (E * G) = (c * E) * (d * G) := by grind
    rw [e1, e2, h1, h2, h3, h4]; grind
  exact Int.eq_of_mul_eq_mul_right (Int.mul_ne_zero he hg) h
theorem hueX_par {c d : Cel} {r i X : Int} {e g : Nat} (hc : cellOk c = true) (hd : cellOk d = true) (h1 : V c.re r e) (h2 : V c.im i e) (h3 : V d.re (X * r) g) (h4 : V d.im (X * i) g) : Val .f32 (hueX c d) 0 := by
  obtain ⟨-, cr, ci⟩ := cell_ble hc
  obtain ⟨-, dr, di⟩ := cell_ble hd
  obtain ⟨u, p1, -⟩ := ble_mul (L := 169) cr di (by decide) (by decide) (by decide) (by decide) (by decide)
  obtain ⟨v, p2, -⟩ := ble_mul (L := 169) ci dr (by decide) (by decide) (by decide) (by decide) (by decide)
  obtain ⟨a, a1, a2⟩ := val_of_V h1
  obtain ⟨b, b1, b2⟩ := val_of_V h4
  obtain ⟨c', c1, c2⟩ := val_of_V h2
  obtain ⟨d', d1, d2⟩ := val_of_V h3
  have q1 := fk_mul_val a1 b1
  have q2 := fk_mul_val c1 d1
  rw [cross_eq a2 b2 c2 d2, ← q2] at q1
  have huv : u = v := by
    have := p1.fk.symm.trans (q1.trans p2.fk)
    exact Option.some.inj this
  subst huv
  unfold hueX
  refine val_of_lt ?_ (by decide)
  rw [fk_sub_val p1 p2, Int.sub_self, RB_zero]
theorem hueN_par {gs hs : List Cel} {ys : List I3} {X : Int} {e g : Nat} {H : I3 → I3} (hH : ∀ a, (H a).2 = (X * a.2.1, X * a.2.2)) (hg : rowOk gs = true) (hh : rowOk hs = true) (vg : CVs e gs ys) (vh : CVs g hs (ys.map H)) : ∀ k, k ≤ ys.length → Val .f32 (hueN gs hs k) 0
  | 0, _ => val_zero
  | k + 1, hk => by
    have h1 := hueN_par hH hg hh vg vh k (by omega)
    have k1 : k < gs.length := by rw [vg.len]; omega
    have k2 : k < hs.length := by rw [vh.len, List.length_map]; omega
    have c1 := vg.at k k1 (by omega)
    have c2 := vh.at k k2 (by rw [List.length_map]; omega)
    rw [List.getElem_map] at c2
    have hHk := hH ys[k]
    have e1 : gs.getD k ⟨0, 0, 0⟩ = gs[k] := by rw [List.getD_eq_getElem?_getD, List.getElem?_eq_getElem k1]; rfl
    have e2 : hs.getD k ⟨0, 0, 0⟩ = hs[k] := by rw [List.getD_eq_getElem?_getD, List.getElem?_eq_getElem k2]; rfl
    have v1 := c2.2.1
    have v2 := c2.2.2
    rw [hHk] at v1 v2
    have h2 := hueX_par (row_cell hg _ (List.getElem_mem k1)) (row_cell hh _ (List.getElem_mem k2)) c1.2.1 c1.2.2 v1 v2
    refine val_of_lt ?_ (by decide)
    show fk .f32 (fop .add .f32 _ _) = _
    rw [e1, e2, fk_add_val h1 h2]
    exact RB_zero _ _
/-- the hue of a row against the same row scaled -/
theorem hue_par {rs ss : List Cel} {ys : List I3} {X : Int} {e g : Nat} {H : I3 → I3} (hH : ∀ a, (H a).2 = (X * a.2.1, X * a.2.2)) (hr : rowOk rs = true) (hs : rowOk ss = true) (vg : CVs e rs ys) (vh : CVs g ss (ys.map H)) : hueOk rs ss = true ∧ ∀ x, cn .f32 x = hueR rs ss → feq .f32 x 0 = true := by
  have hl : rs.length = ss.length := by rw [vg.len, vh.len, List.length_map]
  have hok : hueOk rs ss = true := by unfold hueOk; rw [hr, hs, decide_eq_true hl]; rfl
  refine ⟨hok, fun x hx => ?_⟩
  rw [← feq_cn_l, hx]
  have : fk .f32 (hueR rs ss) = some 0 := by
    unfold hueR
    rw [if_pos hok]
    exact (hueN_par hH (by rw [rowOk_cnC]; exact hr) (by rw [rowOk_cnC]; exact hs) vg.cn vh.cn _ (by rw [vg.len]; exact Nat.le_refl _)).fk
  rw [feq_fk this fk_zero32]; rfl
/-- the second row of a pair takes the numbers of the first one's colours -/
theorem pair_nums {e n : Nat} : ∀ {p q : List Cel} {ys zs : List I3}, CVs e p ys → CVs e q zs → q.map clr = p.map clr → (∀ a ∈ ys, Small n a) → (∀ a ∈ zs, Small n a) → ∃ us, CVs e q us ∧ (∀ a ∈ us, Small n a) ∧ us.map Prod.snd = ys.map Prod.snd
  | [], [], [], [], _, _, _, _, _ => ⟨[], trivial, fun _ h => absurd h List.not_mem_nil, rfl⟩
  | c :: p, d :: q, a :: ys, b :: zs, h1, h2, h3, h4, h5 => by
    simp only [List.map_cons, List.cons.injEq] at h3
    obtain ⟨us, u1, u2, u3⟩ := pair_nums h1.2 h2.2 h3.2 (fun x hx => h4 x (List.mem_cons_of_mem _ hx)) (fun x hx => h5 x (List.mem_cons_of_mem _ hx))
    have hc : (d.re, d.im) = (c.re, c.im) := h3.1
    injection hc with hre him
    have sa := h4 a List.mem_cons_self
    have sb := h5 b List.mem_cons_self
    refine ⟨(b.1, a.2) :: us, ⟨⟨h2.1.1, by rw [hre]; exact h1.1.2.1, by rw [him]; exact h1.1.2.2⟩, u1⟩, ?_, by simp [u3]⟩
    intro x hx
    rcases List.mem_cons.1 hx with rfl | hx
    · exact ⟨sb.1, sa.2.1, sa.2.2⟩
    · exact u2 x hx
  | [], [], [], _ :: _, _, h, _, _, _ => h.elim
  | [], [], _ :: _, _, h, _, _, _, _ => h.elim
  | [], _ :: _, _, _, _, _, h, _, _ => by simp at h
  | _ :: _, [], _, _, _, _, h, _, _ => by simp at h
  | _ :: _, _ :: _, [], _, h, _, _, _, _ => h.elim
  | _ :: _, _ :: _, _ :: _, [], _, h, _, _, _ => h.elim
/-- what is due of a cell -/
def dueI (A O X : Int) (a : I3) : I3 := (A * a.1 + O * 16, X * a.2.1, X * a.2.2)
theorem pair_V {A O X Y : Int} (f : Bool) {n : Nat} (hb : ∀ r i : Int, r.natAbs ≤ n → i.natAbs ≤ n → (2 * (X * r)).natAbs ≤ 16777216 ∧ (2 * (X * i)).natAbs ≤ 16777216) :
    ∀ {P Q : List Cel} {ys zs : List I3}, CVs 7 P ((ys.map (conjI f)).map (trI 4 A O X Y)) → CVs 7 Q ((zs.map (conjI (!f))).map (trI 4 A O X Y)) → zs.map Prod.snd = ys.map Prod.snd → (∀ a ∈ ys, Small n a) →
      CVs 7 (pairP (if f then -1 else 1) P Q) (ys.map (dueI A O X)) ∧ CVs 7 (pairQ (if f then -1 else 1) P Q) (zs.map (dueI A O X))
  | [], [], [], [], _, _, _, _ => ⟨trivial, trivial⟩
  | p :: P, q :: Q, a :: ys, b :: zs, h1, h2, h3, h4 => by
    simp only [List.map_cons, List.cons.injEq] at h3
    obtain ⟨r1, r2⟩ := pair_V f hb h1.2 h2.2 h3.2 (fun x hx => h4 x (List.mem_cons_of_mem _ hx))
    have sa := h4 a List.mem_cons_self
    obtain ⟨b1, b2⟩ := hb _ _ sa.2.1 sa.2.2
    obtain ⟨v1, v2, v3⟩ := h1.1
    obtain ⟨w1, w2, w3⟩ := h2.1
    obtain ⟨ay, ar, ai⟩ := a
    obtain ⟨by', br, bi⟩ := b
    obtain ⟨h31, h32⟩ := h3
    simp only [Prod.mk.injEq] at h31
    obtain ⟨rfl, rfl⟩ := h31
    have hre : V (half32 p.re q.re) (X * br) 7 := by
      have h := v_add v2 w2 (by decide) (by
        refine Nat.le_trans (Nat.le_of_eq ?_) b1
        congr 1
        cases f <;> simp [trI, conjI] <;> grind)
      exact v_half (h.cast (by cases f <;> simp [trI, conjI] <;> grind)) (by decide) b1
    have him : V (pairIm (if f then -1 else 1) p q) (X * bi) 7 := by
      cases f
      · have h := v_add v3 (v_neg w3) (by decide) (by
          refine Nat.le_trans (Nat.le_of_eq ?_) b2
          congr 1
          simp [trI, conjI]; grind)
        exact v_half (h.cast (by simp [trI, conjI]; grind)) (by decide) b2
      · have h := v_add (v_neg v3) w3 (by decide) (by
          refine Nat.le_trans (Nat.le_of_eq ?_) b2
          congr 1
          simp [trI, conjI]; grind)
        exact v_half (h.cast (by simp [trI, conjI]; grind)) (by decide) b2
    have hre' : V (pairRe (if f then -1 else 1) p q) (X * br) 7 := by
      unfold pairRe
      rw [if_pos (by cases f <;> simp)]
      exact hre
    refine ⟨⟨⟨?_, hre', him⟩, r1⟩, ⟨⟨?_, hre', him⟩, r2⟩⟩
    · exact v1.cast (by cases f <;> simp [trI, conjI, dueI])
    · exact w1.cast (by cases f <;> simp [trI, conjI, dueI])
  | [], [], [], _ :: _, _, h, _, _ => h.elim
  | [], [], _ :: _, _, h, _, _, _ => h.elim
  | [], _ :: _, [], [], _, h, _, _ => h.elim
  | [], _ :: _, [], _ :: _, _, _, h, _ => by simp at h
  | [], _ :: _, _ :: _, _, h, _, _, _ => h.elim
  | _ :: _, _, [], _, h, _, _, _ => h.elim
  | _ :: _, [], _ :: _, [], _, _, h, _ => by simp at h
  | _ :: _, [], _ :: _, _ :: _, _, h, _, _ => h.elim
  | _ :: _, _ :: _, _ :: _, [], _, h, _, _ => h.elim
/-- a channel of eighths that does not lose the hue, and its bounds -/
structure GCh (ch : Chn) (A O X Y : Int) : Prop where
  ch : CH 3 ch A O X Y
  a0 : 0 < A
  a1 : A ≤ 16
  o : O.natAbs ≤ 32
  x : X.natAbs ≤ 16
  y : Y.natAbs ≤ 16
  n0 : ¬ (X = 0 ∧ Y = 0)
/-- a line that came through such a channel -/
structure LineT (xs : List Nat) (ys : List I3) (f : Bool) (A O X Y : Int) : Prop where
  len : xs.length = 24 + 4 * ys.length
  ok : lineOk xs = true
  alone : aloneOk false xs = true
  cells : CVs 7 (Fx.alone false xs) ((ys.map (conjI f)).map (trI 4 A O X Y))
  bc : bcOk xs = true
  re : V (bcRe xs) (-256 * X - (if f then -256 else 256) * Y) 7
  im : V (bcIm xs) (-256 * Y + (if f then -256 else 256) * X) 7
theorem sum4 {a b c d : Nat} {m : Int} (h1 : V a m 7) (h2 : V b m 7) (h3 : V c m 7) (h4 : V d m 7) (hm : m.natAbs ≤ 100000) : V (quo32 (sumN [a, b, c, d] 3) 1082130432) m 7 := by
  have e : sumN [a, b, c, d] 3 = add32 (add32 (add32 (cn .f32 a) (cn .f32 b)) (cn .f32 c)) (cn .f32 d) := by simp only [sumN, List.getD_cons_zero, List.getD_cons_succ]
  rw [e]
  have k2 := v_add (v_cn.2 h1) (v_cn.2 h2) (by decide) (by omega)
  have k3 := v_add k2 (v_cn.2 h3) (by decide) (by omega)
  have k4 := v_add k3 (v_cn.2 h4) (by decide) (by omega)
  exact v_quarter (k4.cast (by omega)) (by decide) (by omega)
theorem cvs4 {e : Nat} {l : List Cel} {a b c d : I3} (h : CVs e l [a, b, c, d]) : ∃ p q r s, l = [p, q, r, s] ∧ CV e p a ∧ CV e q b ∧ CV e r c ∧ CV e s d := by
  have hl : l.length = 4 := h.len
  rcases l with _ | ⟨p, l⟩
  · cases hl
  rcases l with _ | ⟨q, l⟩
  · cases hl
  rcases l with _ | ⟨r, l⟩
  · cases hl
  rcases l with _ | ⟨s, l⟩
  · cases hl
  have hn : l = [] := by
    cases l
    · rfl
    · simp only [List.length_cons] at hl; omega
  subst hn
  exact ⟨p, q, r, s, rfl, h.1, h.2.1, h.2.2.1, h.2.2.2.1⟩
theorem line_T {ch : Chn} {A O X Y : Int} (hc : GCh ch A O X Y) {row : List Cel} {ys : List I3} {f : Bool} {gs : List Nat} (h : PlainRow row ys) (h1 : 1 ≤ row.length) (h64 : row.length ≤ 64) (hg : cns gs = lineR (cnC row) f) :
    trOk ch gs = true ∧ ∀ xs, cns xs = tr ch gs → LineT xs ys f A O X Y := by
  obtain ⟨hv, hl, hn⟩ := plain_line h h1 h64 hg
  have hyl := h.1.len
  obtain ⟨c, a0, a1, o1, x1, y1, n0⟩ := hc
  have hs := line_small (odd := f) h.2
  have gA : A.natAbs ≤ 16 := by omega
  have gO : O.natAbs * 2 ^ 4 ≤ 1024 * 16 := by omega
  have ht := tr_LV (n := 1024) (g := 16) c gA gO x1 y1 (by decide) (by decide) (by decide) hv hs
  have hts := trI_small (e := 4) (n := 1024) (g := 16) (A := A) (O := O) (X := X) (Y := Y) gA gO x1 y1 hs
  have hlen : (headI f ++ ys.map (conjI f)).length = 6 + ys.length := by simp [headI]; omega
  have hok : trOk ch gs = true := by
    unfold trOk
    rw [ch_ok c (by omega) (by omega) (by omega) (by omega) (by omega), samplesOk_LV hv hs (by decide) (by omega) (by omega), samplesOk_LV ht hts (by decide) (by rw [List.length_map]; omega) (by rw [List.length_map]; omega)]; rfl
  refine ⟨hok, fun xs hx => ?_⟩
  unfold tr at hx
  rw [hok, if_pos rfl] at hx
  have hxv : LV 7 xs ((headI f ++ ys.map (conjI f)).map (trI 4 A O X Y)) := LV.of_cn (by rw [hx]; exact ht)
  have hxl := lineOk_LV hxv hts (by decide) (by rw [List.length_map]; omega) (by rw [List.length_map]; omega)
  have hxn : xs.length = 24 + 4 * ys.length := by rw [hxv.len, List.length_map, hlen]; omega
  have hd : LV 7 (xs.drop 24) ((ys.map (conjI f)).map (trI 4 A O X Y)) := by
    have := hxv.drop 6
    simpa [headI] using this
  have hds : ∀ a ∈ (ys.map (conjI f)).map (trI 4 A O X Y), Small (2 * (1024 * 16)) a := fun a ha => hts a (by
    rw [List.map_append]; exact List.mem_append_right _ ha)
  have hdd := dec_CVs (n := 2 * (1024 * 16)) false (by omega) (by omega) hd.cn hds
  rw [map_conj_false] at hdd
  have hro : rowOk (decode false (cns (xs.drop 24))) = true := hdd.rowOk hds (by decide) (by rw [List.length_map, List.length_map]; omega) (by rw [List.length_map, List.length_map]; omega)
  have hdo : decodeOk false (xs.drop 24) = true := by
    unfold decodeOk
    rw [hro, hd.len, decide_eq_true (by omega)]; rfl
  have hao : aloneOk false xs = true := by unfold aloneOk; rw [hxl, hdo]; rfl
  have hbl : brst xs = (xs.drop 8).take 16 := by unfold brst; rw [if_pos hxl]
  have hb : LV 7 (brst xs) ((headI f).drop 2 |>.map (trI 4 A O X Y)) := by
    have := (hxv.drop 2).take 4
    rw [hbl]
    simpa [headI] using this
  have hbs : ∀ a ∈ ((headI f).drop 2).map (trI 4 A O X Y), Small (2 * (1024 * 16)) a := fun a ha => hts a (by
    rw [List.map_append]; refine List.mem_append_left _ ?_
    obtain ⟨b, hb, rfl⟩ := List.mem_map.1 ha
    exact List.mem_map_of_mem (List.mem_of_mem_drop hb))
  have hbd := dec_CVs (n := 2 * (1024 * 16)) false (by omega) (by omega) hb.cn hbs
  rw [map_conj_false] at hbd
  have hbo : bcOk xs = true := by
    unfold bcOk decodeOk
    rw [hxl, hbd.rowOk hbs (by decide) (by simp [headI]) (by simp [headI]), burst_len hxl]; rfl
  have hb4 : CVs 7 (bcRow xs) [trI 4 A O X Y (0, -256, if f then -256 else 256), trI 4 A O X Y (0, -256, if f then -256 else 256), trI 4 A O X Y (0, -256, if f then -256 else 256), trI 4 A O X Y (0, -256, if f then -256 else 256)] := by
    unfold bcRow; exact hbd
  obtain ⟨p, q, r, s, hl4, c1, c2, c3, c4⟩ := cvs4 hb4
  have bX : (if f then (-256 : Int) else 256) = -256 ∨ (if f then (-256 : Int) else 256) = 256 := by cases f <;> simp
  refine ⟨hxn, hxl, hao, ?_, hbo, ?_, ?_⟩
  · unfold Fx.alone
    rw [if_pos hao]; exact hdd
  · unfold bcRe
    rw [if_pos hbo, hl4]
    refine (sum4 c1.2.1 c2.2.1 c3.2.1 c4.2.1 ?_).cast rfl
    show (-256 * X - (if f then (-256 : Int) else 256) * Y).natAbs ≤ _
    rcases bX with e | e <;> rw [e] <;> omega
  · unfold bcIm
    rw [if_pos hbo, hl4]
    refine (sum4 c1.2.2 c2.2.2 c3.2.2 c4.2.2 ?_).cast rfl
    show (-256 * Y + (if f then (-256 : Int) else 256) * X).natAbs ≤ _
    rcases bX with e | e <;> rw [e] <;> omega
theorem sq_nonneg (a : Int) : 0 ≤ a * a := by
  rcases Int.le_total 0 a with h | h
  · exact Int.mul_nonneg h h
  · exact Int.mul_nonneg_of_nonpos_of_nonpos h h
theorem t_add {x y : Nat} {m n : Int} {e : Nat} (hx : V x m e) (hy : V y n e) (he : e ≤ 149) (hm : (m + n).natAbs ≤ 16777216) : ∃ r, floatBits .add .f32 x y = some r ∧ V r (m + n) e := isV_add (good .f32) hx hy (e149 he) (m24 hm)
theorem t_mul {x y : Nat} {m n : Int} {e g : Nat} (hx : V x m e) (hy : V y n g) (he : e + g ≤ 149) (hm : (m * n).natAbs ≤ 16777216) : ∃ r, floatBits .mul .f32 x y = some r ∧ V r (m * n) (e + g) := isV_mul (good .f32) hx hy (e149 he) (m24 hm)
theorem CVs.of_cn {e : Nat} : ∀ {l : List Cel} {ys : List I3}, CVs e (cnC l) ys → CVs e l ys
  | [], [], _ => trivial
  | c :: l, a :: ys, h => ⟨⟨v_cn.1 h.1.1, v_cn.1 h.1.2.1, v_cn.1 h.1.2.2⟩, CVs.of_cn h.2⟩
  | [], _ :: _, h => h.elim
  | _ :: _, [], h => h.elim
theorem swing_T {xa xb : List Nat} {ys zs : List I3} {f : Bool} {A O X Y : Int} (ha : LineT xa ys f A O X Y) (hb : LineT xb zs (!f) A O X Y) (x1 : X.natAbs ≤ 16) (y1 : Y.natAbs ≤ 16) (n0 : ¬ (X = 0 ∧ Y = 0)) : swing xa xb = if f then -1 else 1 := by
  have hX : 0 < X * X + Y * Y := by
    rcases Int.lt_trichotomy X 0 with h | h | h
    · have := Int.mul_pos_of_neg_of_neg h h
      have := sq_nonneg Y
      omega
    · rcases Int.lt_trichotomy Y 0 with k | k | k
      · have := Int.mul_pos_of_neg_of_neg k k
        have := sq_nonneg X
        omega
      · exact absurd ⟨h, k⟩ n0
      · have := Int.mul_pos k k
        have := sq_nonneg X
        omega
    · have := Int.mul_pos h h
      have := sq_nonneg Y
      omega
  have bX : (X * X).natAbs ≤ 256 := by rw [Int.natAbs_mul]; exact Nat.le_trans (Nat.mul_le_mul x1 x1) (by decide)
  have bY : (Y * Y).natAbs ≤ 256 := by rw [Int.natAbs_mul]; exact Nat.le_trans (Nat.mul_le_mul y1 y1) (by decide)
  have ra := ha.re
  have ia := ha.im
  have rb := hb.re
  have ib := hb.im
  unfold swing swingX
  rw [ha.bc, hb.bc, if_pos (by rfl)]
  have c0 : V 0 0 0 := v_chk (by decide +kernel)
  cases f
  · simp only [Bool.not_false, if_true, Bool.false_eq_true, if_false] at *
    have d1 : V (sub32 (bcIm xa) (bcIm xb)) (4 * X) 0 := v_coarser 7 (v_sub ia ib (by decide) (by omega)) rfl (by simp; omega)
    have s1 : V (add32 (bcRe xa) (bcRe xb)) (-4 * X) 0 := v_coarser 7 (v_add ra rb (by decide) (by omega)) rfl (by simp; omega)
    have d2 : V (sub32 (bcRe xa) (bcRe xb)) (-4 * Y) 0 := v_coarser 7 (v_sub ra rb (by decide) (by omega)) rfl (by simp; omega)
    have s2 : V (add32 (bcIm xa) (bcIm xb)) (-4 * Y) 0 := v_coarser 7 (v_add ia ib (by decide) (by omega)) rfl (by simp; omega)
    have e1 : 4 * X * (-4 * X) = -16 * (X * X) := by grind
    have e2 : -4 * Y * (-4 * Y) = 16 * (Y * Y) := by grind
    have m1 := (v_mul d1 s1 (by decide) (by rw [e1]; omega)).cast e1
    have m2 := (v_mul d2 s2 (by decide) (by rw [e2]; omega)).cast e2
    have k := v_sub m1 m2 (by decide) (by omega)
    have hlt : flt .f32 (sub32 (mul32 (sub32 (bcIm xa) (bcIm xb)) (add32 (bcRe xa) (bcRe xb))) (mul32 (sub32 (bcRe xa) (bcRe xb)) (add32 (bcIm xa) (bcIm xb)))) 0 = true := by
      unfold flt; rw [isV_lt k c0]; exact decide_eq_true (by omega)
    rw [hlt]; rfl
  · simp only [Bool.not_true, if_true, Bool.false_eq_true, if_false] at *
    have d1 : V (sub32 (bcIm xa) (bcIm xb)) (-4 * X) 0 := v_coarser 7 (v_sub ia ib (by decide) (by omega)) rfl (by simp; omega)
    have s1 : V (add32 (bcRe xa) (bcRe xb)) (-4 * X) 0 := v_coarser 7 (v_add ra rb (by decide) (by omega)) rfl (by simp; omega)
    have d2 : V (sub32 (bcRe xa) (bcRe xb)) (4 * Y) 0 := v_coarser 7 (v_sub ra rb (by decide) (by omega)) rfl (by simp; omega)
    have s2 : V (add32 (bcIm xa) (bcIm xb)) (-4 * Y) 0 := v_coarser 7 (v_add ia ib (by decide) (by omega)) rfl (by simp; omega)
    have e1 : -4 * X * (-4 * X) = 16 * (X * X) := by grind
    have e2 : 4 * Y * (-4 * Y) = -16 * (Y * Y) := by grind
    have m1 := (v_mul d1 s1 (by decide) (by rw [e1]; omega)).cast e1
    have m2 := (v_mul d2 s2 (by decide) (by rw [e2]; omega)).cast e2
    have k := v_sub m1 m2 (by decide) (by omega)
    have hlt : flt .f32 (sub32 (mul32 (sub32 (bcIm xa) (bcIm xb)) (add32 (bcRe xa) (bcRe xb))) (mul32 (sub32 (bcRe xa) (bcRe xb)) (add32 (bcIm xa) (bcIm xb)))) 0 = false := by
      unfold flt; rw [isV_lt k c0]; exact decide_eq_false (by omega)
    have hgt : fgt .f32 (sub32 (mul32 (sub32 (bcIm xa) (bcIm xb)) (add32 (bcRe xa) (bcRe xb))) (mul32 (sub32 (bcRe xa) (bcRe xb)) (add32 (bcIm xa) (bcIm xb)))) 0 = true := by
      unfold fgt; rw [isV_gt k c0]; exact decide_eq_true (by omega)
    rw [hlt, hgt]; rfl
/-- what is known of the rows that such a pair is decoded to -/
structure HueRows (ch : Chn) (p0 r0 r1 : List Cel) : Prop where
  l0 : r0.length = p0.length
  l1 : r1.length = p0.length
  hue : hueOk p0 r0 = true
  turn : ∀ x, cn .f32 x = hueR p0 r0 → feq .f32 x 0 = true
  due : ∀ (i : Nat) (h : i < p0.length) (h0 : i < r0.length) (h1 : i < r1.length), ∃ dr di dm dy, floatBits .mul .f32 ch.re p0[i].re = some dr ∧ floatBits .mul .f32 ch.re p0[i].im = some di ∧ floatBits .mul .f32 ch.a p0[i].y = some dm ∧ floatBits .add .f32 dm ch.off = some dy ∧ feq .f32 r0[i].re dr = true ∧ feq .f32 r0[i].im di = true ∧ feq .f32 r1[i].re dr = true ∧ feq .f32 r1[i].im di = true ∧ feq .f32 r0[i].y dy = true
set_option maxHeartbeats 1000000 in
theorem hue_rows {ch : Chn} {A O X Y : Int} (hc : GCh ch A O X Y) {p0 p2 : List Cel} {ys zs : List I3} {f : Bool} {xa xb : List Nat} (h0 : PlainRow p0 ys) (h2 : PlainRow p2 zs) (hcl : p2.map clr = p0.map clr) (h1 : 1 ≤ p0.length) (h64 : p0.length ≤ 64) (ha : LineT xa ys f A O X Y) (hb : ∀ us, PlainRow p2 us → LineT xb us (!f) A O X Y) :
    pairOk xa xb = true ∧ ∀ rss, rss.map cnC = pair xa xb → ∃ r0 r1, rss = [r0, r1] ∧ HueRows ch p0 r0 r1 := by
  obtain ⟨us, u1, u2, u3⟩ := pair_nums h0.1 h2.1 hcl h0.2 h2.2
  have hb := hb us ⟨u1, u2⟩
  have hyl := h0.1.len
  have hul := u1.len
  have hlen : us.length = ys.length := by simpa using congrArg List.length u3
  have hp : pairOk xa xb = true := by
    unfold pairOk
    rw [ha.alone, hb.alone, ha.cells.len, hb.cells.len]
    simp [hlen]
  refine ⟨hp, fun rss hr => ?_⟩
  obtain ⟨c, a0, a1, o1, x1, y1, n0⟩ := hc
  obtain ⟨v0, v1⟩ := pair_V (A := A) (O := O) (X := X) (Y := Y) f (n := 1024) (fun r i hr hi => by
    have e1 := mul_abs x1 hr
    have e2 := mul_abs x1 hi
    omega) ha.cells hb.cells u3 h0.2
  unfold pair at hr
  rw [if_pos hp, swing_T ha hb x1 y1 n0] at hr
  obtain ⟨r0, r1, rfl⟩ : ∃ r0 r1, rss = [r0, r1] := by
    have hl := congrArg List.length hr
    rw [List.length_map] at hl
    rcases rss with _ | ⟨r0, rss⟩
    · cases hl
    rcases rss with _ | ⟨r1, rss⟩
    · cases hl
    rcases rss with _ | ⟨r2, rss⟩
    · exact ⟨r0, r1, rfl⟩
    · simp only [List.length_cons, List.length_nil] at hl; omega
  · skip
    simp only [List.map_cons, List.map_nil, List.cons.injEq, and_true] at hr
    have w0 : CVs 7 r0 (ys.map (dueI A O X)) := CVs.of_cn (by rw [hr.1]; exact v0)
    have w1 : CVs 7 r1 (us.map (dueI A O X)) := CVs.of_cn (by rw [hr.2]; exact v1)
    have hs0 : ∀ a ∈ ys.map (dueI A O X), Small (2 * (1024 * 16)) a := by
      intro b hb'
      obtain ⟨a, haa, rfl⟩ := List.mem_map.1 hb'
      obtain ⟨s1, s2, s3⟩ := h0.2 a haa
      have aA : A.natAbs ≤ 16 := by omega
      have e1 := mul_abs aA s1
      have e2 := mul_abs x1 s2
      have e3 := mul_abs x1 s3
      exact ⟨by show (A * a.1 + O * 16).natAbs ≤ _; omega, by show (X * a.2.1).natAbs ≤ _; omega, by show (X * a.2.2).natAbs ≤ _; omega⟩
    have ok0 : rowOk r0 = true := w0.rowOk hs0 (by decide) (by rw [List.length_map]; omega) (by rw [List.length_map]; omega)
    obtain ⟨q1, q2⟩ := hue_par (H := dueI A O X) (X := X) (fun a => rfl) (plain_ok h0 h1 h64) ok0 h0.1 w0
    refine ⟨r0, r1, rfl, ⟨by rw [w0.len, List.length_map, hyl], by rw [w1.len, List.length_map, hlen, hyl], q1, q2, fun i k k0 k1 => ?_⟩⟩
    have ky : i < ys.length := by omega
    have ku : i < us.length := by omega
    have t0 := h0.1.at i k ky
    have t1 := w0.at i k0 (by rw [List.length_map]; exact ky)
    have t2 := w1.at i k1 (by rw [List.length_map]; exact ku)
    rw [List.getElem_map] at t1 t2
    obtain ⟨s1, s2, s3⟩ := h0.2 _ (List.getElem_mem ky)
    have aA : A.natAbs ≤ 16 := by omega
    have e1 := mul_abs aA s1
    have e2 := mul_abs x1 s2
    have e3 := mul_abs x1 s3
    have hus : (us[i]).2 = (ys[i]).2 := by
      have := congrArg (fun l => l[i]?) u3
      simpa [ky, ku] using this
    have f1 : (dueI A O X us[i]).2 = (dueI A O X ys[i]).2 := by show (X * (us[i]).2.1, X * (us[i]).2.2) = _; rw [hus]; rfl
    have t2r := t2.2.1
    have t2i := t2.2.2
    rw [f1] at t2r t2i
    have t1r := t1.2.1
    have t1i := t1.2.2
    have t1y := t1.1
    obtain ⟨dr, k1, g1⟩ := t_mul c.re t0.2.1 (by decide) (by omega)
    obtain ⟨di, k2, g2⟩ := t_mul c.re t0.2.2 (by decide) (by omega)
    obtain ⟨dm, k3, g3⟩ := t_mul c.a t0.1 (by decide) (by omega)
    obtain ⟨dy, k4, g4⟩ := t_add g3 (v_finer 4 c.off (g := 3 + 4) rfl rfl) (by decide) (by
      have : ((2 ^ 4 : Nat) : Int) = 16 := rfl
      omega)
    exact ⟨dr, di, dm, dy, k1, k2, k3, k4, v_feq t1r g1, v_feq t1i g2, v_feq t2r g1, v_feq t2i g2, v_feq t1y g4⟩
end Go.Fx

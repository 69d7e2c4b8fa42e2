import Derived.Test.YtfmghfghhipmhaaDoorSh
namespace Go.Fx
open Go.Lib
set_option linter.unusedVariables false
set_option linter.unusedSimpArgs false
/-! what a set reports -/
def repF (s : TS) : List Txt := [decDigits s.cells.toNat, decDigits s.rows.toNat, fmtF (toFix s.slice), fmtF (toFix s.least), fmtF (toFix s.sat)]
def report (s : TS) : Txt := if s.ok = true then unw (repF s) else []
structure OkParts (s : TS) : Prop where
  c1 : 1 ≤ s.cells
  c2 : s.cells ≤ 64
  r1 : 4 ≤ s.rows
  r2 : s.rows ≤ 64
  r3 : s.rows % 4 = 0
  sl : within32 s.slice 1149239296 = true
  l1 : fge .f32 s.least 0 = true
  l2 : fle .f32 s.least 1098907648 = true
  t1 : fge .f32 s.sat 0 = true
  t2 : fle .f32 s.sat 1098907648 = true
  lg : s.log.length ≤ 100
theorem ok_parts {s : TS} : s.ok = true ↔ OkParts s := by
  unfold TS.ok setOk
  simp only [Bool.and_eq_true, decide_eq_true_eq]
  constructor
  · rintro ⟨⟨⟨⟨⟨⟨⟨⟨⟨⟨h1, h2⟩, h3⟩, h4⟩, h5⟩, h6⟩, h7⟩, h8⟩, h9⟩, h10⟩, h11⟩
    exact ⟨h1, h2, h3, h4, h5, h6, h7, h8, h9, h10, h11⟩
  · rintro ⟨h1, h2, h3, h4, h5, h6, h7, h8, h9, h10, h11⟩
    exact ⟨⟨⟨⟨⟨⟨⟨⟨⟨⟨h1, h2⟩, h3⟩, h4⟩, h5⟩, h6⟩, h7⟩, h8⟩, h9⟩, h10⟩, h11⟩
theorem OkParts.fixS {s : TS} (h : OkParts s) : (toFix s.slice).natAbs ≤ 1024000 := toFix_slice h.sl
theorem OkParts.fixL {s : TS} (h : OkParts s) : 0 ≤ toFix s.least ∧ toFix s.least ≤ 16000 := toFix_upto h.l1 h.l2
theorem OkParts.fixT {s : TS} (h : OkParts s) : 0 ≤ toFix s.sat ∧ toFix s.sat ≤ 16000 := toFix_upto h.t1 h.t2
theorem fix_small {n : Int} (h : n.natAbs ≤ 1024000) : fixOk n = true := fixOk_iff.2 (by omega)
theorem fmtFixed_small {n : Int} (h : n.natAbs ≤ 1024000) : fmtFixed n = fmtF n := by unfold fmtFixed; rw [if_pos (fix_small h)]
theorem dig_plain {c : UInt8} (h : isDig c = true) : plainC c = true ∧ c ≠ 32 := by
  unfold isDig at h
  unfold plainC
  simp only [Bool.and_eq_true, decide_eq_true_eq] at h ⊢
  refine ⟨by omega, fun e => ?_⟩
  subst e
  have : (32 : UInt8).toNat = 32 := rfl
  omega
/-- a field: no space, signs that can be read, not too long -/
structure Fld (f : Txt) (n : Nat) : Prop where
  ne : f ≠ []
  no : 32 ∉ f
  pl : f.all plainC = true
  len : f.length ≤ n
theorem fld_digs {f : Txt} {n : Nat} (h : f.all isDig = true) (h0 : f ≠ []) (hl : f.length ≤ n) : Fld f n :=
  ⟨h0, fun hm => (dig_plain (List.all_eq_true.1 h _ hm)).2 rfl, List.all_eq_true.2 (fun c hc => (dig_plain (List.all_eq_true.1 h c hc)).1), hl⟩
theorem fld_dec {u k : Nat} (h : u < 10 ^ (k + 1)) : Fld (decDigits u) (k + 1) := fld_digs (dec_digs u) (dec_ne u) (dec_len h)
theorem fld_absF {u : Nat} (h : u ≤ 1000000000) : Fld (absF u) 11 := by
  have h1 := dec_digs (u / 1000)
  have h2 := pad_digs (u := u % 1000) (by omega)
  have h3 := dec_len (k := 6) (u := u / 1000) (by omega)
  have a1 := fld_digs h1 (dec_ne _) h3
  have hp : (pad3 (u % 1000)).length = 3 := rfl
  have a2 := fld_digs h2 (fun e => by rw [e] at hp; cases hp) (Nat.le_of_eq hp)
  unfold absF
  refine ⟨by simp, ?_, ?_, ?_⟩
  · intro hm
    rcases List.mem_append.1 hm with hm | hm
    · exact a1.no hm
    · rcases List.mem_cons.1 hm with hm | hm
      · cases hm
      · exact a2.no hm
  · rw [List.all_append, List.all_cons, a1.pl, a2.pl]; rfl
  · rw [List.length_append, List.length_cons, hp]; omega
theorem fld_fmtF {n : Int} (h : n.natAbs ≤ 1024000) : Fld (fmtF n) 12 := by
  have a := fld_absF (u := n.natAbs) (by omega)
  unfold fmtF
  split
  · refine ⟨by simp, ?_, ?_, ?_⟩
    · intro hm
      rcases List.mem_cons.1 hm with hm | hm
      · cases hm
      · exact a.no hm
    · rw [List.all_cons, a.pl]; rfl
    · rw [List.length_cons]; have := a.len; omega
  · exact ⟨a.ne, a.no, a.pl, by have := a.len; omega⟩
theorem Fld.mono {f : Txt} {n m : Nat} (h : Fld f n) (hm : n ≤ m) : Fld f m := ⟨h.ne, h.no, h.pl, Nat.le_trans h.len hm⟩
theorem rep_fld {s : TS} (h : OkParts s) : ∀ f ∈ repF s, Fld f 12 := by
  intro f hf
  have d1 : Fld (decDigits s.cells.toNat) 12 := (fld_dec (k := 1) (u := s.cells.toNat) (by have := h.c1; have := h.c2; omega)).mono (by omega)
  have d2 : Fld (decDigits s.rows.toNat) 12 := (fld_dec (k := 1) (u := s.rows.toNat) (by have := h.r1; have := h.r2; omega)).mono (by omega)
  have d3 := fld_fmtF h.fixS
  have d4 := fld_fmtF (n := toFix s.least) (by have := h.fixL; omega)
  have d5 := fld_fmtF (n := toFix s.sat) (by have := h.fixT; omega)
  unfold repF at hf
  rcases List.mem_cons.1 hf with rfl | hf
  · exact d1
  rcases List.mem_cons.1 hf with rfl | hf
  · exact d2
  rcases List.mem_cons.1 hf with rfl | hf
  · exact d3
  rcases List.mem_cons.1 hf with rfl | hf
  · exact d4
  rcases List.mem_cons.1 hf with rfl | hf
  · exact d5
  cases hf
theorem unw_bound {n : Nat} : ∀ (fs : List Txt), (∀ f ∈ fs, f.length ≤ n) → (unw fs).length ≤ fs.length * (n + 1)
  | [], _ => by simp [unw]
  | [x], h => by
    have e : unw [x] = x := by unfold unw joinTail; simp
    have := h x (by simp)
    rw [e]; simp; omega
  | x :: y :: r, h => by
    have h1 := unw_bound (y :: r) (fun f hf => h f (List.mem_cons_of_mem _ hf))
    have h2 := h x (by simp)
    rw [unw_two]
    simp only [List.length_append, List.length_cons, Nat.add_mul, Nat.one_mul] at h1 ⊢
    omega
theorem flds_ok {fs : List Txt} {n : Nat} (h : ∀ f ∈ fs, Fld f n) (hl : fs.length * (n + 1) ≤ 600) (hc : fs.length ≤ 24) : fieldsOk (unw fs) = true ∧ flds [] (unw fs) = fs := by
  have e := flds_unw fs (fun f hf => ⟨(h f hf).ne, (h f hf).no⟩)
  refine ⟨?_, e⟩
  unfold fieldsOk
  rw [e, Bool.and_eq_true, Bool.and_eq_true, decide_eq_true_iff, decide_eq_true_iff]
  have := unw_bound fs (fun f hf => (h f hf).len)
  exact ⟨⟨by omega, unw_all rfl fs (fun f hf => (h f hf).pl)⟩, hc⟩
theorem report_fields {s : TS} (h : s.ok = true) : fieldsOk (report s) = true ∧ flds [] (report s) = repF s := by
  unfold report
  rw [if_pos h]
  exact flds_ok (n := 12) (rep_fld (ok_parts.1 h)) (by unfold repF; simp) (by unfold repF; simp)
/-- a command of two fields -/
theorem cmd_fields {a b : Txt} (ha : Fld a 12) (hb : Fld b 12) : fieldsOk (a ++ 32 :: b) = true ∧ flds [] (a ++ 32 :: b) = [a, b] := by
  have e : unw [a, b] = a ++ 32 :: b := by rw [unw_two]; congr 2; unfold unw joinTail; simp
  have h := flds_ok (fs := [a, b]) (n := 12) (fun f hf => by
    rcases List.mem_cons.1 hf with rfl | hf
    · exact ha
    rcases List.mem_cons.1 hf with rfl | hf
    · exact hb
    cases hf) (by simp) (by simp)
  rw [e] at h; exact h
theorem fld_words : Fld tSlice 12 ∧ Fld tKiller 12 ∧ Fld tSat 12 := by
  refine ⟨⟨?_, ?_, ?_, ?_⟩, ⟨?_, ?_, ?_, ?_⟩, ⟨?_, ?_, ?_, ?_⟩⟩ <;> decide
theorem tune_cmd {s u : TS} {a b : Txt} (h1 : fieldsOk (a ++ 32 :: b) = true) (h2 : flds [] (a ++ 32 :: b) = [a, b]) (hd : did s [a, b] = some u) (hs : s.ok = true) (hl : s.log.length < 100) (hu : u.ok = true) : tuneOk s (a ++ 32 :: b) = true ∧ tune s (a ++ 32 :: b) = { u with log := s.log ++ [ba (a ++ 32 :: b)] } := by
  have hk : tuneOk s (a ++ 32 :: b) = true := by unfold tuneOk didOk; rw [h1, h2, hd, hs, decide_eq_true hl]; simp [hu]
  refine ⟨hk, ?_⟩
  unfold tune
  rw [if_pos hk, h2, hd]
  have e : unw [a, b] = a ++ 32 :: b := by rw [unw_two]; congr 2; unfold unw joinTail; simp
  rw [e]; rfl
def newT (cells rows : Int) : TS := ⟨cells, rows, 3250585600, 1040187392, 1065353216, []⟩
theorem new_ok {s : TS} (h : OkParts s) : OkParts (newT s.cells s.rows) :=
  ⟨h.c1, h.c2, h.r1, h.r2, h.r3, (by decide +kernel : within32 3250585600 1149239296 = true), (by decide +kernel : fge .f32 1040187392 0 = true), (by decide +kernel : fle .f32 1040187392 1098907648 = true), (by decide +kernel : fge .f32 1065353216 0 = true), (by decide +kernel : fle .f32 1065353216 1098907648 = true), by simp [newT]⟩
def repL (s : TS) : List Txt := [tSlice ++ 32 :: fmtF (toFix s.slice), tKiller ++ 32 :: fmtF (toFix s.least), tSat ++ 32 :: fmtF (toFix s.sat)]
theorem report_again {s : TS} (h : s.ok = true) : tuneFlags (newT s.cells s.rows) (repL s) = [true, true, true] ∧ (tuneAll (newT s.cells s.rows) (repL s)).ok = true ∧ report (tuneAll (newT s.cells s.rows) (repL s)) = report s := by
  have p := ok_parts.1 h
  have q := new_ok p
  have b1 := p.fixS
  have b2 := p.fixL
  have b3 := p.fixT
  have f1 := fld_fmtF b1
  have f2 := fld_fmtF (n := toFix s.least) (by omega)
  have f3 := fld_fmtF (n := toFix s.sat) (by omega)
  obtain ⟨w1, w2, w3⟩ := fld_words
  obtain ⟨x1, y1⟩ := pfix_yes (fix_small b1) (rfl : fmtF (toFix s.slice) = _)
  obtain ⟨x2, y2⟩ := pfix_yes (fix_small (n := toFix s.least) (by omega)) (rfl : fmtF (toFix s.least) = _)
  obtain ⟨x3, y3⟩ := pfix_yes (fix_small (n := toFix s.sat) (by omega)) (rfl : fmtF (toFix s.sat) = _)
  obtain ⟨g1, g2⟩ := cmd_fields w1 f1
  obtain ⟨g3, g4⟩ := cmd_fields w2 f2
  obtain ⟨g5, g6⟩ := cmd_fields w3 f3
  unfold repL
  generalize hn1 : toFix s.slice = n1 at *
  generalize hn2 : toFix s.least = n2 at *
  generalize hn3 : toFix s.sat = n3 at *
  have hT1 := tune_cmd (s := newT s.cells s.rows) (u := { newT s.cells s.rows with slice := thou n1 }) g1 g2 (by unfold did; simp only; rw [if_pos x1, if_pos trivial, y1]) (ok_parts.2 q) (by simp [newT]) (ok_parts.2 ⟨q.c1, q.c2, q.r1, q.r2, q.r3, thou_slice b1, q.l1, q.l2, q.t1, q.t2, q.lg⟩)
  obtain ⟨k1, e1⟩ := hT1
  have o1 := tune_ok k1
  have l1 := tune_log k1
  generalize hs1 : tune (newT s.cells s.rows) (tSlice ++ 32 :: fmtF n1) = s1 at *
  have q1 := ok_parts.1 o1
  have hT2 := tune_cmd (s := s1) (u := { s1 with least := thou n2 }) g3 g4 (by unfold did; simp only; rw [if_pos x2, if_neg (show ¬ tKiller = tSlice by decide), if_pos trivial, y2]) o1 (by rw [l1]; simp [newT]) (ok_parts.2 ⟨q1.c1, q1.c2, q1.r1, q1.r2, q1.r3, q1.sl, (thou_upto b2.1 b2.2).1, (thou_upto b2.1 b2.2).2, q1.t1, q1.t2, q1.lg⟩)
  obtain ⟨k2, e2⟩ := hT2
  have o2 := tune_ok k2
  have l2 := tune_log k2
  generalize hs2 : tune s1 (tKiller ++ 32 :: fmtF n2) = s2 at *
  have q2 := ok_parts.1 o2
  have hT3 := tune_cmd (s := s2) (u := { s2 with sat := thou n3 }) g5 g6 (by unfold did; simp only; rw [if_pos x3, if_neg (show ¬ tSat = tSlice by decide), if_neg (show ¬ tSat = tKiller by decide), if_pos trivial, y3]) o2 (by rw [l2, l1]; simp [newT]) (ok_parts.2 ⟨q2.c1, q2.c2, q2.r1, q2.r2, q2.r3, q2.sl, q2.l1, q2.l2, (thou_upto b3.1 b3.2).1, (thou_upto b3.1 b3.2).2, q2.lg⟩)
  obtain ⟨k3, e3⟩ := hT3
  have o3 := tune_ok k3
  generalize hs3 : tune s2 (tSat ++ 32 :: fmtF n3) = s3 at *
  have hall : tuneAll (newT s.cells s.rows) [tSlice ++ 32 :: fmtF n1, tKiller ++ 32 :: fmtF n2, tSat ++ 32 :: fmtF n3] = s3 := by
    unfold tuneAll
    simp only [List.foldl_cons, List.foldl_nil]
    rw [hs1, hs2, hs3]
  refine ⟨?_, by rw [hall]; exact o3, ?_⟩
  · unfold tuneFlags; rw [k1, hs1]; unfold tuneFlags; rw [k2, hs2]; unfold tuneFlags; rw [k3]; rfl
  · rw [hall]
    unfold report
    rw [if_pos o3, if_pos h]
    unfold repF
    have c1 : s3.cells = s.cells ∧ s3.rows = s.rows ∧ s3.slice = thou n1 ∧ s3.least = thou n2 ∧ s3.sat = thou n3 := by
      subst e3 e2 e1; exact ⟨rfl, rfl, rfl, rfl, rfl⟩
    obtain ⟨c1, c2, c3, c4, c5⟩ := c1
    rw [c1, c2, c3, c4, c5, toFix_thou b1, toFix_thou (by omega), toFix_thou (by omega), hn1, hn2, hn3]
end Go.Fx

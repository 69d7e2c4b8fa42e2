import Derived.Test.YtiddaabodkglmaaGa
namespace Go.Fx
open Go.RowKit
set_option linter.unusedVariables false
set_option linter.unusedSimpArgs false

/-! what turned lies among the blocks from lo to below hi, or is new -/
structure Turn (lo hi : Nat) (w w' : World) : Prop where
  os : w'.os = w.os
  tape : w'.tape = w.tape
  output : w'.output = w.output
  size : w.heap.size ≤ w'.heap.size
  block : ∀ k, k < w.heap.size → (k < lo ∨ hi ≤ k) → w'.heap[k]? = w.heap[k]?
section
variable {w w' w0 : World} {base lo hi : Nat} {E : TypeId} {size n : Nat} {v u : Value} {xs : List Value}
theorem Turn.refl (lo hi : Nat) (w : World) : Turn lo hi w w := ⟨rfl, rfl, rfl, Nat.le_refl _, fun _ _ _ => rfl⟩
theorem Turn.trans {a b c : World} (h : Turn lo hi a b) (k : Turn lo hi b c) : Turn lo hi a c :=
  ⟨k.os.trans h.os, k.tape.trans h.tape, k.output.trans h.output, Nat.le_trans h.size k.size, fun i hi' ho => (k.block i (Nat.lt_of_lt_of_le hi' h.size) ho).trans (h.block i hi' ho)⟩
theorem Turn.mono {lo' hi' : Nat} (h : Turn lo hi w w') (h1 : lo' ≤ lo) (h2 : hi ≤ hi') : Turn lo' hi' w w' :=
  ⟨h.os, h.tape, h.output, h.size, fun k hk ho => h.block k hk (by omega)⟩
theorem turn_grown {c d : Nat} (hg : w.grownBy w' u.ownBlock) (hu : In u c d) : Turn c d w w' :=
  ⟨hg.os, hg.tape, hg.output, hg.size, fun k hk hne => hg.block k hk (fun e => by have := hu k e.symm; omega)⟩
theorem turn_ext (lo hi : Nat) (h : Ext w w') : Turn lo hi w w' := ⟨h.os, h.tape, h.output, h.size, fun k hk _ => h.block k hk⟩
theorem own_turn {a b c d : Nat} (h : w.ownsRow base E size v n xs) (ht : Turn c d w w') (hv : In v a b) (hd : b ≤ c ∨ d ≤ a) : w'.ownsRow base E size v n xs := by
  refine ⟨h.1, ?_⟩
  rcases h.2 with hn | ⟨g, cap, cur, rfl, hb, hgg, rest⟩
  · exact .inl hn
  · have := hv g rfl
    exact .inr ⟨g, cap, cur, rfl, hb, (ht.block g (Array.getElem?_eq_some_iff.1 hgg).1 (by omega)).trans hgg, rest⟩
theorem ext_turn {c d : Nat} (h : Ext w0 w) (ht : Turn c d w w') (hc : w0.heap.size ≤ c) : Ext w0 w' :=
  ⟨ht.os.trans h.os, ht.tape.trans h.tape, ht.output.trans h.output, Nat.le_trans h.size ht.size, fun k hk => by
    rw [ht.block k (Nat.lt_of_lt_of_le hk h.size) (.inl (by omega))]
    exact h.block k hk⟩
theorem turn_size {c d : Nat} (h : Turn c d w w') : w.heap.size ≤ w'.heap.size := h.size
end

/-! rows of rows that the call owns -/
def Apart (u v : Value) : Prop := ∀ b, u.ownBlock = some b → v.ownBlock ≠ some b
theorem Apart.symm {u v : Value} (h : Apart u v) : Apart v u := fun b hb hu => h b hu hb
/-- the values of the rows are 'us'; each row has so many elements, and these cells -/
structure Rows2 (w : World) (base : Nat) (Eo E : TypeId) (size : Nat) (v : Value) (us : List Value) (rows : List (Nat × List Value)) : Prop where
  len : us.length = rows.length
  own : w.ownsRow base Eo 1 v rows.length us
  row : ∀ (i : Nat) u r, us[i]? = some u → rows[i]? = some r → w.ownsRow base E size u r.1 r.2
  out : ∀ u ∈ us, Apart u v
  sep : us.Pairwise Apart
/-- rows of rows that are read -/
structure RdRows (w : World) (A : Option Addr) (us : List Value) (rows : List (Nat × List Value)) : Prop where
  len : us.length = rows.length
  rd : Rd w A us
  row : ∀ (i : Nat) u r, us[i]? = some u → rows[i]? = some r → ∃ B c, u = .slice B r.1 c ∧ Rd w B r.2 ∧ (B = none → r.1 = 0) ∧ r.1 ≤ c
def InR (v : Value) (us : List Value) (lo hi : Nat) : Prop := In v lo hi ∧ ∀ u ∈ us, In u lo hi
section
variable {w w' w0 : World} {base : Nat} {Eo E : TypeId} {size : Nat} {v : Value} {us : List Value} {rows : List (Nat × List Value)}
theorem Rows2.mem (h : Rows2 w base Eo E size v us rows) {u : Value} (hu : u ∈ us) : ∃ r ∈ rows, w.ownsRow base E size u r.1 r.2 := by
  obtain ⟨i, hi, rfl⟩ := List.getElem_of_mem hu
  have hi' : i < rows.length := by rw [← h.len]; exact hi
  exact ⟨rows[i], List.getElem_mem hi', h.row i _ _ (List.getElem?_eq_getElem hi) (List.getElem?_eq_getElem hi')⟩
theorem Rows2.inR (h : Rows2 w base Eo E size v us rows) : InR v us base w.heap.size :=
  ⟨own_in h.own, fun u hu => by obtain ⟨r, _, ho⟩ := h.mem hu; exact own_in ho⟩
theorem InR.mono {a b c d : Nat} (h : InR v us a b) (h1 : c ≤ a) (h2 : b ≤ d) : InR v us c d := ⟨h.1.mono h1 h2, fun u hu => (h.2 u hu).mono h1 h2⟩
theorem Rows2.ext (h : Rows2 w base Eo E size v us rows) (e : Ext w w') : Rows2 w' base Eo E size v us rows :=
  ⟨h.len, own_ext h.own e, fun i u r hu hr => own_ext (h.row i u r hu hr) e, h.out, h.sep⟩
theorem Rows2.turn {a b c d : Nat} (h : Rows2 w base Eo E size v us rows) (ht : Turn c d w w') (hv : InR v us a b) (hd : b ≤ c ∨ d ≤ a) : Rows2 w' base Eo E size v us rows :=
  ⟨h.len, own_turn h.own ht hv.1 hd, fun i u r hu hr => own_turn (h.row i u r hu hr) ht (hv.2 u (List.mem_of_getElem? hu)) hd, h.out, h.sep⟩
theorem Rows2.past {a b c d : Nat} {u : Value} (h : Rows2 w base Eo E size v us rows) (hg : w.grownBy w' u.ownBlock) (hv : InR v us a b) (hu : In u c d) (hd : b ≤ c ∨ d ≤ a) : Rows2 w' base Eo E size v us rows :=
  h.turn (turn_grown hg hu) hv hd
theorem Rows2.weak {base' : Nat} (h : Rows2 w base Eo E size v us rows) (hb : base' ≤ base) : Rows2 w base' Eo E size v us rows :=
  ⟨h.len, own_base h.own hb, fun i u r hu hr => own_base (h.row i u r hu hr) hb, h.out, h.sep⟩
theorem Rows2.nil (w : World) (base : Nat) (Eo E : TypeId) (size : Nat) : Rows2 w base Eo E size (.slice none 0 0) [] [] :=
  ⟨rfl, World.ownsRow_nil _ _ _ _, fun i u r hu _ => by simp at hu, fun u hu => by simp at hu, List.Pairwise.nil⟩
theorem Rows2.new (w : World) (base : Nat) (Eo E : TypeId) (size : Nat) (hb : base ≤ w.heap.size) : Rows2 (w.alloc (.cells #[] Eo)) base Eo E size (.slice (some ⟨w.heap.size, 0, none⟩) 0 0) [] [] :=
  ⟨rfl, own_new w base Eo 1 hb, fun i u r hu _ => by simp at hu, fun u hu => by simp at hu, List.Pairwise.nil⟩
/-- a row was written anew -/
theorem Rows2.setRow (h : Rows2 w base Eo E size v us rows) {i : Nat} {u : Value} {r' : Nat × List Value} (hu : us[i]? = some u) (ho : w'.ownsRow base E size u r'.1 r'.2) (hg : w.grownBy w' u.ownBlock) : Rows2 w' base Eo E size v us (rows.set i r') := by
  refine ⟨by simp [h.len], ?_, ?_, h.out, h.sep⟩
  · rw [List.length_set]
    exact own_apart h.own hg fun b hb e => h.out u (List.mem_of_getElem? hu) b e.symm hb
  · intro j x r hx hr
    by_cases hij : i = j
    · subst hij
      rw [hu] at hx
      cases hx
      have hlt : i < rows.length := by rw [← h.len]; exact (List.getElem?_eq_some_iff.1 hu).1
      rw [List.getElem?_set_self hlt] at hr
      cases hr
      exact ho
    · rw [List.getElem?_set_ne hij] at hr
      refine own_apart (h.row j x r hx hr) hg fun b hb e => ?_
      obtain ⟨h1, e1⟩ := List.getElem?_eq_some_iff.1 hu
      obtain ⟨h2, e2⟩ := List.getElem?_eq_some_iff.1 hx
      have hp := List.pairwise_iff_getElem.1 h.sep
      rcases Nat.lt_or_gt_of_ne hij with hl | hl
      · have := hp i j h1 h2 hl
        rw [e1, e2] at this
        exact this b e.symm hb
      · have := hp j i h2 h1 hl
        rw [e1, e2] at this
        exact this b hb e.symm
/-- a row more -/
theorem Rows2.snoc (h : Rows2 w base Eo E size v us rows) {v' u : Value} {r : Nat × List Value} {m q : Nat} (ho : w'.ownsRow base Eo 1 v' (us.length + 1) (us ++ [u])) (hr : w.ownsRow base E size u r.1 r.2) (hg : w.grownBy w' v.ownBlock)
    (hat : v'.ownBlock = v.ownBlock ∨ v'.ownBlock = some q) (hq : w.heap.size ≤ q) (hold : InR v us base m) (hnew : ∀ b, u.ownBlock = some b → m ≤ b) : Rows2 w' base Eo E size v' (us ++ [u]) (rows ++ [r]) := by
  have hz : ∀ x, w.ownsRow base E size x r.1 r.2 → ∀ b, x.ownBlock = some b → b < w.heap.size := fun x hx b hb => (hx.lt b hb).2
  have hvu : ∀ b, u.ownBlock = some b → v.ownBlock ≠ some b := fun b hb e => by
    have := hnew b hb
    have := (hold.1 b e).2
    omega
  have hat' : ∀ b, b < w.heap.size → v'.ownBlock = some b → v.ownBlock = some b := fun b hb e => by
    rcases hat with h1 | h1
    · rw [← h1]; exact e
    · rw [h1] at e; cases e; omega
  refine ⟨by simp [h.len], ?_, ?_, ?_, ?_⟩
  · rw [List.length_append, ← h.len]; exact ho
  · intro i x y hx hy
    by_cases hi : i < us.length
    · rw [List.getElem?_append_left hi] at hx
      rw [List.getElem?_append_left (by rw [← h.len]; exact hi)] at hy
      exact own_apart (h.row i x y hx hy) hg fun b hb e => h.out x (List.mem_of_getElem? hx) b hb e.symm
    · rw [List.getElem?_append_right (by omega)] at hx
      rw [List.getElem?_append_right (by rw [← h.len]; omega)] at hy
      have h0 : i - us.length = 0 := by
        have := (List.getElem?_eq_some_iff.1 hx).1
        simp at this; omega
      rw [h0] at hx
      rw [show i - rows.length = 0 by rw [← h.len]; exact h0] at hy
      simp at hx hy
      subst hx; subst hy
      exact own_apart hr hg fun b hb e => hvu b hb e.symm
  · intro x hx b hb e
    rcases List.mem_append.1 hx with hx | hx
    · have := hold.2 x hx b hb
      obtain ⟨_, _, hox⟩ := h.mem hx
      exact h.out x hx b hb (hat' b (hox.lt b hb).2 e)
    · simp at hx; subst hx
      exact hvu b hb (hat' b (hz x hr b hb) e)
  · refine List.pairwise_append.2 ⟨h.sep, List.pairwise_singleton _ _, fun x hx y hy b hb e => ?_⟩
    simp at hy; subst hy
    have := (hold.2 x hx b hb).2
    have := hnew b e
    omega
theorem Rows2.rd {A : Option Addr} {n c : Nat} (h : Rows2 w base Eo E size (.slice A n c) us rows) : RdRows w A us rows ∧ n = rows.length ∧ (A = none → n = 0) := by
  have ho := h.own
  have hn : n = rows.length := by
    rcases own_form ho with ⟨h1, h2, _⟩ | ⟨g, c', hv, _⟩
    · cases h1; exact h2.symm
    · cases hv; rfl
  subst hn
  refine ⟨⟨h.len, own_rd ho, fun i u r hu hr => ?_⟩, rfl, fun hA => ?_⟩
  · have hx := h.row i u r hu hr
    obtain ⟨B, d, rfl, h1, h2⟩ := own_slice hx
    exact ⟨B, d, rfl, h1, h2, own_cap hx⟩
  · subst hA
    rcases own_form ho with ⟨h1, h2, _⟩ | ⟨g, c', hv, _⟩
    · exact h2
    · cases hv
theorem Rows2.form (h : Rows2 w base Eo E size v us rows) : ∃ A c, v = .slice A us.length c ∧ w.ownsRow base Eo 1 (.slice A us.length c) us.length us := by
  have ho := h.own
  rw [← h.len] at ho
  obtain ⟨A, c, rfl, -, -⟩ := own_slice ho
  exact ⟨A, c, rfl, ho⟩
theorem RdRows.ext {A : Option Addr} (h : RdRows w A us rows) (e : Ext w w') : RdRows w' A us rows :=
  ⟨h.len, h.rd.ext e, fun i u r hu hr => by
    obtain ⟨B, c, h1, h2, h3⟩ := h.row i u r hu hr
    exact ⟨B, c, h1, h2.ext e, h3⟩⟩
/-- the i-th row, where it is read -/
theorem RdRows.at {A : Option Addr} (h : RdRows w A us rows) {i : Nat} (hi : i < rows.length) :
    ∃ b off B c, A = some ⟨b, off, none⟩ ∧ b < w.heap.size ∧ us[i]? = some (.slice B rows[i].1 c) ∧ w.cell? ⟨b, off + i, none⟩ = some (.slice B rows[i].1 c) ∧ Rd w B rows[i].2 ∧ (B = none → rows[i].1 = 0) ∧ rows[i].1 ≤ c := by
  have hu : i < us.length := by rw [h.len]; exact hi
  obtain ⟨B, c, h1, h2, h3, h4⟩ := h.row i _ _ (List.getElem?_eq_getElem hu) (List.getElem?_eq_getElem hi)
  rcases h.rd with h0 | ⟨b, off, hA, hb, hc⟩
  · subst h0; simp at hu
  · have hx : us[i]? = some (.slice B rows[i].1 c) := by rw [List.getElem?_eq_getElem hu, h1]
    exact ⟨b, off, B, c, hA, hb, hx, hc i _ hx, h2, h3, h4⟩
end
/-! marks -/
def sumLen (ns : List Nat) : Nat := ns.foldr (· + ·) 0
theorem sumLen_cons (n : Nat) (ns : List Nat) : sumLen (n :: ns) = n + sumLen ns := rfl
theorem sumLen_take {ns : List Nat} {i : Nat} (h : i < ns.length) : sumLen (ns.take (i + 1)) = sumLen (ns.take i) + ns[i] := by
  induction ns generalizing i with
  | nil => simp at h
  | cons a r ih =>
    cases i with
    | zero => simp [sumLen]
    | succ i =>
      have := ih (i := i) (by simpa using h)
      simp only [List.take_succ_cons, sumLen_cons, List.getElem_cons_succ]
      omega
theorem sumLen_le {ns : List Nat} (i : Nat) : sumLen (ns.take i) ≤ sumLen ns := by
  induction ns generalizing i with
  | nil => simp [sumLen]
  | cons a r ih =>
    cases i with
    | zero => simp [sumLen]
    | succ i => have := ih i; simp only [List.take_succ_cons, sumLen_cons]; omega
theorem sumLen_all {ns : List Nat} {b : Nat} (h : ∀ n ∈ ns, n ≤ b) : sumLen ns ≤ ns.length * b := by
  induction ns with
  | nil => simp [sumLen]
  | cons a r ih =>
    have h1 := h a (by simp)
    have h2 := ih (fun n hn => h n (by simp [hn]))
    rw [sumLen_cons, List.length_cons, Nat.add_mul]; omega
/-- rows of marks: each row begins where the one ahead of it ends -/
def markRows (mk : Int → Nat → List Value) (st : Nat) (k : Int) (ns : List Nat) : List (Nat × List Value) :=
  (List.range ns.length).map fun i => (ns[i]?.getD 0, mk (k + (st * sumLen (ns.take i) : Nat)) (ns[i]?.getD 0))
theorem markRows_len (mk : Int → Nat → List Value) (st : Nat) (k : Int) (ns : List Nat) : (markRows mk st k ns).length = ns.length := by simp [markRows]
theorem markRows_at (mk : Int → Nat → List Value) (st : Nat) (k : Int) {ns : List Nat} {i : Nat} (h : i < ns.length) : (markRows mk st k ns)[i]? = some (ns[i], mk (k + (st * sumLen (ns.take i) : Nat)) ns[i]) := by
  simp [markRows, h]
/-- the first i rows are marked -/
def MarkUpto (i : Nat) (ys zs rows : List (Nat × List Value)) : Prop := ys.length = rows.length ∧ zs.length = rows.length ∧ ∀ j, (j < i → ys[j]? = zs[j]?) ∧ (i ≤ j → ys[j]? = rows[j]?)
theorem MarkUpto.zero {zs rows : List (Nat × List Value)} (h : zs.length = rows.length) : MarkUpto 0 rows zs rows := ⟨rfl, h, fun j => ⟨fun h => by omega, fun _ => rfl⟩⟩
theorem MarkUpto.step {i : Nat} {ys zs rows : List (Nat × List Value)} {r : Nat × List Value} (h : MarkUpto i ys zs rows) (hr : zs[i]? = some r) : MarkUpto (i + 1) (ys.set i r) zs rows := by
  obtain ⟨h1, h2, h3⟩ := h
  have hi : i < ys.length := by have := (List.getElem?_eq_some_iff.1 hr).1; omega
  refine ⟨by simpa using h1, h2, fun j => ⟨fun hj => ?_, fun hj => ?_⟩⟩
  · by_cases hij : i = j
    · subst hij; rw [List.getElem?_set_self hi, hr]
    · rw [List.getElem?_set_ne hij]; exact (h3 j).1 (by omega)
  · rw [List.getElem?_set_ne (by omega)]; exact (h3 j).2 (by omega)
theorem MarkUpto.all {i : Nat} {ys zs rows : List (Nat × List Value)} (h : MarkUpto i ys zs rows) (hi : rows.length ≤ i) : ys = zs := by
  apply List.ext_getElem?
  intro j
  by_cases hj : j < i
  · exact (h.2.2 j).1 hj
  · rw [List.getElem?_eq_none (by rw [h.1]; omega), List.getElem?_eq_none (by rw [h.2.1]; omega)]
/-- rows of singles -/
abbrev rowsF (rss : List (List Nat)) : List (Nat × List Value) := rss.map fun rs => (rs.length, rs.map fl)
theorem RdRows.atF {w : World} {A : Option Addr} {us : List Value} {rss : List (List Nat)} (h : RdRows w A us (rowsF rss)) {i : Nat} (hi : i < rss.length) :
    ∃ b off B c, A = some ⟨b, off, none⟩ ∧ b < w.heap.size ∧ us[i]? = some (.slice B rss[i].length c) ∧ w.cell? ⟨b, off + i, none⟩ = some (.slice B rss[i].length c) ∧ Rd w B (rss[i].map fl) ∧ (B = none → rss[i].length = 0) ∧ rss[i].length ≤ c := by
  have h1 := h.at (i := i) (by simpa using hi)
  rw [show (rowsF rss)[i]'(by simpa using hi) = (rss[i].length, rss[i].map fl) by simp] at h1
  exact h1
theorem RdRows.atM {w : World} {A : Option Addr} {us : List Value} {mk : Int → Nat → List Value} {st : Nat} {k : Int} {ns : List Nat} (h : RdRows w A us (markRows mk st k ns)) {i : Nat} (hi : i < ns.length) :
    ∃ b off B c, A = some ⟨b, off, none⟩ ∧ b < w.heap.size ∧ w.cell? ⟨b, off + i, none⟩ = some (.slice B ns[i] c) ∧ Rd w B (mk (k + (st * sumLen (ns.take i) : Nat)) ns[i]) := by
  obtain ⟨b, off, B, c, h1, h2, _, h4, h5, _⟩ := h.at (i := i) (by rw [markRows_len]; exact hi)
  have e := markRows_at mk st k hi
  rw [List.getElem?_eq_getElem (by rw [markRows_len]; exact hi)] at e
  have e' := Option.some.inj e
  rw [e'] at h4 h5
  exact ⟨b, off, B, c, h1, h2, h4, h5⟩
/-- the row that is to be marked next -/
theorem Rows2.atU {w : World} {base : Nat} {Eo E : TypeId} {size n c : Nat} {A : Option Addr} {us : List Value} {ys zs rows : List (Nat × List Value)} {i : Nat} (h : Rows2 w base Eo E size (.slice A n c) us ys) (hu : MarkUpto i ys zs rows) (hi : i < rows.length) :
    ∃ g B d, A = some ⟨g, 0, none⟩ ∧ w.cell? ⟨g, i, none⟩ = some (.slice B rows[i].1 d) ∧ us[i]? = some (.slice B rows[i].1 d) ∧ w.ownsRow base E size (.slice B rows[i].1 d) rows[i].1 rows[i].2 := by
  obtain ⟨hr, hn, _⟩ := h.rd
  have hy : ys[i]? = some rows[i] := by rw [(hu.2.2 i).2 (Nat.le_refl _), List.getElem?_eq_getElem hi]
  have hlt : i < us.length := by rw [h.len, hu.1]; exact hi
  have ho := h.row i _ _ (List.getElem?_eq_getElem hlt) hy
  obtain ⟨B, d, hv, _, _⟩ := own_slice ho
  have hx : us[i]? = some (.slice B rows[i].1 d) := by rw [List.getElem?_eq_getElem hlt, hv]
  subst hn
  have hno := h.own
  obtain ⟨g, rfl, _, _⟩ := own_at hno (by rw [hu.1]; omega)
  exact ⟨g, B, d, rfl, own_cell hno hx, hx, hv ▸ ho⟩
end Go.Fx

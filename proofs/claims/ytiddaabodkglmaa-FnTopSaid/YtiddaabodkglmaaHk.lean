import Derived.Test.YtiddaabodkglmaaK8
import Derived.Test.YtiddaabodkglmaaBo
import Derived.Test.YtiddaabodkglmaaK5
import Derived.Deep.CutRange
import Derived.Deep.RegionHeld3
namespace Go.Fx
open Go.RowKit
set_option linter.unusedVariables false
set_option linter.unusedSimpArgs false
/-! pictures that are drawn: rows of rows that lie above the cursor -/
structure DrawnR (bk : Nat) (w : World) (A : Option Addr) (n c : Nat) (us : List Value) (rss : List (List Cel)) : Prop where
  rd : RdRows w A us (rowsC rss)
  len : rss.length = n
  cap : n ≤ c
  nil : A = none → n = 0
  up : ∀ a, A = some a → bk < a.block
  row : ∀ B n c, Value.slice B n c ∈ us → ∀ a, B = some a → bk < a.block
  small : ∀ r ∈ rss, r.length ≤ 64
  few : n ≤ 64
theorem RdRows.up {bk : Nat} {w w' : World} {A : Option Addr} {us : List Value} {rows : List (Nat × List Value)} (h : RdRows w A us rows) (t : Turn bk (bk + 1) w w') (hA : ∀ a, A = some a → bk < a.block) (hr : ∀ B n c, Value.slice B n c ∈ us → ∀ a, B = some a → bk < a.block) : RdRows w' A us rows := by
  refine ⟨h.len, rd_turn h.rd t (fun a ha _ => .inr (hA a ha)), fun i u r hu hr' => ?_⟩
  obtain ⟨B, c, rfl, h1, h2, h3⟩ := h.row i u r hu hr'
  exact ⟨B, c, rfl, rd_turn h1 t (fun a ha _ => .inr (hr _ _ _ (List.mem_of_getElem? hu) a ha)), h2, h3⟩
theorem DrawnR.turn {bk : Nat} {w w' : World} {A : Option Addr} {n c : Nat} {us : List Value} {rss : List (List Cel)} (h : DrawnR bk w A n c us rss) (t : Turn bk (bk + 1) w w') : DrawnR bk w' A n c us rss :=
  ⟨h.rd.up t h.up h.row, h.len, h.cap, h.nil, h.up, h.row, h.small, h.few⟩
theorem DrawnR.ext {bk : Nat} {w w' : World} {A : Option Addr} {n c : Nat} {us : List Value} {rss : List (List Cel)} (h : DrawnR bk w A n c us rss) (e : Ext w w') : DrawnR bk w' A n c us rss :=
  ⟨h.rd.ext e, h.len, h.cap, h.nil, h.up, h.row, h.small, h.few⟩
section
variable {w w' : World} {base : Nat} {Eo E : TypeId} {size : Nat} {us : List Value} {rows : List (Nat × List Value)}
theorem Rows2.above {bk n c : Nat} {A : Option Addr} (h : Rows2 w base Eo E size (.slice A n c) us rows) (hb : bk < base) : (∀ a, A = some a → bk < a.block) ∧ ∀ B n c, Value.slice B n c ∈ us → ∀ a, B = some a → bk < a.block := by
  have hin := h.inR
  refine ⟨fun a ha => ?_, fun B n c hm a ha => ?_⟩
  · subst ha
    have := (hin.1 a.block rfl).1; omega
  · subst ha
    have := (hin.2 _ hm a.block rfl).1; omega
theorem drawnR_own {bk n c : Nat} {A : Option Addr} {rss : List (List Cel)} (h : Rows2 w base Eo E 2 (.slice A n c) us (rowsC rss)) (hb : bk < base) (hs : ∀ r ∈ rss, r.length ≤ 64) (hf : n ≤ 64) : DrawnR bk w A n c us rss := by
  obtain ⟨h1, h2, h3⟩ := h.rd
  obtain ⟨h4, h5⟩ := h.above hb
  have h6 := h.own
  rw [← h2] at h6
  exact ⟨h1, by simpa using h2.symm, own_cap h6, h3, h4, h5, hs, hf⟩
theorem rd_set {w : World} {g b off k : Nat} {cs : List Value} (h : Rd w (some ⟨b, off, none⟩) cs) (hne : b ≠ g) (v : Value) : Rd (w.setCell ⟨g, k, none⟩ v) (some ⟨b, off, none⟩) cs := by
  rcases h with h | ⟨b', off', hA, hb, hc⟩
  · exact .inl h
  · injection hA with hA
    injection hA with e1 e2
    subst e1 e2
    refine .inr ⟨b, off, rfl, by simpa [World.setCell] using hb, fun j u hu => ?_⟩
    rw [World.cell?_of_block (w := w) (a := ⟨b, off + j, none⟩) (Below.heap_setCell w ⟨g, k, none⟩ v b hne)]
    exact hc j u hu
/-- a row is replaced by a part of it -/
theorem Rows2.part {g n c k d m d' : Nat} {B B' : Option Addr} {cs : List Value} {r : Nat × List Value} (h : Rows2 w base Eo E size (.slice (some ⟨g, 0, none⟩) n c) us rows) (hk : us[k]? = some (.slice B m d)) (hr : rows[k]? = some r)
    (hB : ∀ a, B' = some a → ∃ b off, a = ⟨b, off, none⟩ ∧ ∃ a0, B = some a0 ∧ a0.block = b) (hrd : Rd w B' cs) (n' : Nat) (hnil : B' = none → n' = 0) (hcap : n' ≤ d') :
    RdRows (w.setCell ⟨g, k, none⟩ (.slice B' n' d')) (some ⟨g, 0, none⟩) (us.set k (.slice B' n' d')) (rows.set k (n', cs)) := by
  obtain ⟨-, hn, -⟩ := h.rd
  have hown := h.own
  rw [← hn] at hown
  have hlt : k < us.length := (List.getElem?_eq_some_iff.1 hk).1
  have apart : ∀ x ∈ us, ∀ b, x.ownBlock = some b → b ≠ g := fun x hx b hb e => by subst e; exact h.out x hx _ hb rfl
  refine ⟨by simp [h.len], own_rd (own_set hown _), fun i u r' hu hr' => ?_⟩
  by_cases hik : k = i
  · subst hik
    rw [List.getElem?_set_self hlt] at hu
    rw [List.getElem?_set_self (by rw [← h.len]; exact hlt)] at hr'
    cases hu; cases hr'
    refine ⟨B', d', rfl, ?_, hnil, hcap⟩
    cases B' with
    | none =>
      rcases hrd with h0 | ⟨b, off, hA, _⟩
      · exact .inl h0
      · cases hA
    | some a =>
      obtain ⟨b, off, rfl, a0, h1, h2⟩ := hB a rfl
      subst h1
      exact rd_set hrd (by rw [← h2]; exact apart _ (List.mem_of_getElem? hk) _ rfl) _
  · rw [List.getElem?_set_ne hik] at hu hr'
    have ho := own_other (h.row i u r' hu hr') (p := ⟨g, k, none⟩) (fun b hb => apart u (List.mem_of_getElem? hu) b hb) (.slice B' n' d')
    obtain ⟨C, e, rfl, h1, h2⟩ := own_slice ho
    exact ⟨C, e, rfl, h1, h2, own_cap ho⟩
/-- rows twice -/
theorem Rows2.twice {v' : Value} {n c : Nat} {A : Option Addr} (h : Rows2 w base Eo E size (.slice A n c) us rows) (ho : w'.ownsRow base Eo 1 v' (us.length + us.length) (us ++ us)) (hg : w.grownBy w' (Value.slice A n c).ownBlock) : ∃ A' c', v' = .slice A' (us.length + us.length) c' ∧ us.length + us.length ≤ c' ∧ (A' = none → us.length + us.length = 0) ∧ RdRows w' A' (us ++ us) (rows ++ rows) ∧ ∀ a, A' = some a → base ≤ a.block := by
  obtain ⟨A', c', rfl, hr, hn⟩ := own_slice ho
  refine ⟨A', c', rfl, own_cap ho, hn, ⟨by simp [h.len], hr, fun i u r hu hr' => ?_⟩, fun a ha => by subst ha; exact (ho.lt a.block rfl).1⟩
  have key : ∀ (j : Nat), us[j]? = some u → rows[j]? = some r → ∃ B c, u = .slice B r.1 c ∧ Rd w' B r.2 ∧ (B = none → r.1 = 0) ∧ r.1 ≤ c := fun j h1 h2 => by
    have hx := own_apart (h.row j u r h1 h2) hg (fun b hb e => h.out u (List.mem_of_getElem? h1) b hb e.symm)
    obtain ⟨B, d, rfl, k1, k2⟩ := own_slice hx
    exact ⟨B, d, rfl, k1, k2, own_cap hx⟩
  by_cases hi : i < us.length
  · rw [List.getElem?_append_left hi] at hu
    rw [List.getElem?_append_left (by rw [← h.len]; exact hi)] at hr'
    exact key i hu hr'
  · rw [List.getElem?_append_right (by omega)] at hu
    rw [List.getElem?_append_right (by rw [← h.len]; omega), ← h.len] at hr'
    exact key _ hu hr'
end
theorem ccells_drop (row : List Cel) (k : Nat) : (ccells row).drop (2 * k) = ccells (row.drop k) := by
  induction k generalizing row with
  | zero => rfl
  | succ k ih =>
    cases row with
    | nil => simp [cells2]
    | cons c r =>
      have e : ccells (c :: r) = c1 c :: c2 c :: ccells r := rfl
      rw [e, show 2 * (k + 1) = 2 * k + 1 + 1 by omega, List.drop_succ_cons, List.drop_succ_cons, List.drop_succ_cons, ih]
end Go.Fx

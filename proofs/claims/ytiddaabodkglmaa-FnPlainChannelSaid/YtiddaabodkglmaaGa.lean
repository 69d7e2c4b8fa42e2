import Derived.Test.YtiddaabodkglmaaMa
namespace Go.Fx
open Go.RowKit
set_option linter.unusedVariables false
set_option linter.unusedSimpArgs false

/-! rows that stay while others turn: 'In v lo hi': the block of v lies from lo to below hi -/
def In (v : Value) (lo hi : Nat) : Prop := ∀ b, v.ownBlock = some b → lo ≤ b ∧ b < hi
theorem own_in {w : World} {base : Nat} {E : TypeId} {size n : Nat} {v : Value} {xs : List Value} (h : w.ownsRow base E size v n xs) : In v base w.heap.size := fun b hb => h.lt b hb
theorem In.mono {v : Value} {a b c d : Nat} (h : In v a b) (h1 : c ≤ a) (h2 : b ≤ d) : In v c d := fun x hx => ⟨Nat.le_trans h1 (h x hx).1, Nat.lt_of_lt_of_le (h x hx).2 h2⟩
theorem own_apart {w w' : World} {base : Nat} {E : TypeId} {size n : Nat} {v : Value} {xs : List Value} {row : Option Nat} (h : w.ownsRow base E size v n xs) (hg : w.grownBy w' row) (hne : ∀ b, v.ownBlock = some b → some b ≠ row) : w'.ownsRow base E size v n xs := by
  refine ⟨h.1, ?_⟩
  rcases h.2 with hn | ⟨g, cap, cur, rfl, hb, hgg, rest⟩
  · exact .inl hn
  · exact .inr ⟨g, cap, cur, rfl, hb, (hg.block g (Array.getElem?_eq_some_iff.1 hgg).1 (hne g rfl)).trans hgg, rest⟩
theorem own_past {w w' : World} {base : Nat} {E : TypeId} {size n : Nat} {v u : Value} {xs : List Value} {a b c d : Nat} (h : w.ownsRow base E size v n xs) (hg : w.grownBy w' u.ownBlock) (hv : In v a b) (hu : In u c d) (hd : b ≤ c ∨ d ≤ a) : w'.ownsRow base E size v n xs :=
  own_apart h hg fun x hx e => by
    have h1 := hv x hx
    have h2 := hu x e.symm
    omega
theorem ext_in {w0 w w' : World} {u : Value} {c d : Nat} (h : Ext w0 w) (hg : w.grownBy w' u.ownBlock) (hu : In u c d) (hc : w0.heap.size ≤ c) : Ext w0 w' :=
  ⟨hg.os.trans h.os, hg.tape.trans h.tape, hg.output.trans h.output, Nat.le_trans h.size hg.size, fun k hk => by
    rw [hg.block k (Nat.lt_of_lt_of_le hk h.size) (fun e => by have := (hu k e.symm).1; omega)]
    exact h.block k hk⟩
theorem own_rd {w : World} {base : Nat} {E : TypeId} {size n c : Nat} {A : Option Addr} {xs : List Value} (h : w.ownsRow base E size (.slice A n c) n xs) : Rd w A xs := by
  obtain ⟨A', c', hv, hr, _⟩ := own_slice h
  cases hv
  exact hr
theorem cns_len {rs ss : List Nat} (h : cns rs = cns ss) : rs.length = ss.length := by simpa using congrArg List.length h
theorem Ext.alloc {w0 w : World} (h : Ext w0 w) (o : Obj) : Ext w0 (w.alloc o) := Below.alloc h h.size o
theorem snoc2 {α : Type} (f g : α → Value) (xs : List α) (x : α) : cells2 f g (xs ++ [x]) = cells2 f g xs ++ [f x, g x] := by rw [← cells2_app]; rfl
theorem grown_size {w w' : World} {row : Option Nat} (h : w.grownBy w' row) : w.heap.size ≤ w'.heap.size := h.size
theorem ext_size {w w' : World} (h : Ext w w') : w.heap.size ≤ w'.heap.size := h.size
theorem drewN_size (w : World) (n : Nat) : w.heap.size ≤ (w.drewN n).heap.size := Nat.le_refl _

theorem erase_past {rs : List Nat} {at_ n : Int} (h : (rs.length : Int) ≤ at_) : erase rs at_ n = rs := by
  unfold erase
  split
  · apply List.ext_getElem (by simp)
    intro i h1 h2
    simp only [List.getElem_mapIdx, eraseF]
    rw [if_neg (by omega)]
  · rfl
theorem lowsFrom_len (low : Nat → Bool) (i n : Nat) (rs : List Nat) : (lowsFrom low i n rs).length ≤ rs.length + 1 := by
  induction rs generalizing i n with
  | nil => unfold lowsFrom; split <;> simp
  | cons x r ih =>
    unfold lowsFrom
    split
    · have := ih (i + 1) (n + 1); simp; omega
    · have := ih (i + 1) 0
      rw [List.length_append]
      split <;> simp <;> omega
theorem lows_len (rs : List Nat) (x : Nat) : (lows rs x).length ≤ 20001 := by
  unfold lows
  split
  · simp
  · have := lowsFrom_len (fun y => fle .f32 y x) 0 0 rs; omega
theorem own_cap {w : World} {base : Nat} {E : TypeId} {size n c : Nat} {A : Option Addr} {xs : List Value} (h : w.ownsRow base E size (.slice A n c) n xs) : n ≤ c := by
  rcases own_form h with ⟨h1, h2, _⟩ | ⟨g, c', hv, _, _, hc, _⟩
  · omega
  · cases hv; exact hc
/-- a part of what is read -/
theorem rd_sub {w : World} {b off : Nat} {cs : List Value} (h : Rd w (some ⟨b, off, none⟩) cs) (i n : Nat) : Rd w (some ⟨b, off + i, none⟩) ((cs.drop i).take n) := by
  rcases h with h | ⟨b', off', hA, hb, hc⟩
  · subst h; exact .inl (by simp)
  · cases hA
    refine .inr ⟨b, off + i, rfl, hb, fun j u hu => ?_⟩
    rw [List.getElem?_take] at hu
    split at hu
    · rw [List.getElem?_drop] at hu
      rw [Nat.add_assoc]
      exact hc _ _ hu
    · cases hu
theorem rd_some {w : World} {A : Option Addr} {cs : List Value} (h : Rd w A cs) (hn : cs ≠ []) : ∃ b off, A = some ⟨b, off, none⟩ ∧ b < w.heap.size := by
  rcases h with h | ⟨b, off, hA, hb, _⟩
  · exact absurd h hn
  · exact ⟨b, off, hA, hb⟩
/-- samples from a place on -/
abbrev cutF (rs : List Nat) (i n : Nat) : List Nat := (rs.drop i).take n
theorem cutF_len {rs : List Nat} {i n : Nat} (h : i + n ≤ rs.length) : (cutF rs i n).length = n := by simp; omega
theorem rd_cut {w : World} {b off : Nat} {rs : List Nat} (h : Rd w (some ⟨b, off, none⟩) (rs.map fl)) (i n : Nat) : Rd w (some ⟨b, off + i, none⟩) ((cutF rs i n).map fl) := by
  have := rd_sub h i n
  rwa [← List.map_drop, ← List.map_take] at this
/-! a block that is known whole -/
theorem blk_cell {w : World} {b : Nat} {cs : Array Value} {E : TypeId} {j : Nat} {u : Value} (h : w.heap[b]? = some (.cells cs E (0, 0))) (hj : cs[j]? = some u) : w.cell? ⟨b, j, none⟩ = some u := by
  rw [cell_of_row _ _ _ _ _ _ h]; exact hj
theorem blk_frozen {w : World} {b : Nat} {cs : Array Value} {E : TypeId} {j : Nat} (h : w.heap[b]? = some (.cells cs E (0, 0))) : w.frozen? ⟨b, j, none⟩ = false := by
  simp [World.frozen?, h]
theorem blk_ext {w w' : World} {b : Nat} {o : Obj} (h : w.heap[b]? = some o) (e : Ext w w') : w'.heap[b]? = some o := by
  rw [e.block b (Array.getElem?_eq_some_iff.1 h).1]; exact h
theorem blk_past {w w' : World} {b : Nat} {o : Obj} {row : Option Nat} (h : w.heap[b]? = some o) (e : w.grownBy w' row) (hne : some b ≠ row) : w'.heap[b]? = some o := by
  rw [e.block b (Array.getElem?_eq_some_iff.1 h).1 hne]; exact h
theorem blk_alloc {w : World} {b : Nat} {o p : Obj} (h : w.heap[b]? = some o) : (w.alloc p).heap[b]? = some o := by
  rw [Below.heap_alloc _ _ _ (Array.getElem?_eq_some_iff.1 h).1]; exact h
theorem blk1 {w : World} {b : Nat} {E : TypeId} {c0 : Value} (h : w.heap[b]? = some (.cells #[c0] E (0, 0))) : w.cell? ⟨b, 0, none⟩ = some c0 ∧ ∀ j, w.frozen? ⟨b, j, none⟩ = false :=
  ⟨blk_cell h rfl, fun j => blk_frozen h⟩
theorem blk2 {w : World} {b : Nat} {E : TypeId} {c0 c1 : Value} (h : w.heap[b]? = some (.cells #[c0, c1] E (0, 0))) : w.cell? ⟨b, 0, none⟩ = some c0 ∧ w.cell? ⟨b, 1, none⟩ = some c1 ∧ ∀ j, w.frozen? ⟨b, j, none⟩ = false :=
  ⟨blk_cell h rfl, blk_cell h rfl, fun j => blk_frozen h⟩
theorem blk3 {w : World} {b : Nat} {E : TypeId} {c0 c1 c2 : Value} (h : w.heap[b]? = some (.cells #[c0, c1, c2] E (0, 0))) : w.cell? ⟨b, 0, none⟩ = some c0 ∧ w.cell? ⟨b, 1, none⟩ = some c1 ∧ w.cell? ⟨b, 2, none⟩ = some c2 ∧ ∀ j, w.frozen? ⟨b, j, none⟩ = false :=
  ⟨blk_cell h rfl, blk_cell h rfl, blk_cell h rfl, fun j => blk_frozen h⟩
theorem blk6 {w : World} {b : Nat} {E : TypeId} {c0 c1 c2 c3 c4 c5 : Value} (h : w.heap[b]? = some (.cells #[c0, c1, c2, c3, c4, c5] E (0, 0))) : w.cell? ⟨b, 0, none⟩ = some c0 ∧ w.cell? ⟨b, 1, none⟩ = some c1 ∧ w.cell? ⟨b, 2, none⟩ = some c2 ∧ w.cell? ⟨b, 3, none⟩ = some c3 ∧ w.cell? ⟨b, 4, none⟩ = some c4 ∧ w.cell? ⟨b, 5, none⟩ = some c5 ∧ ∀ j, w.frozen? ⟨b, j, none⟩ = false :=
  ⟨blk_cell h rfl, blk_cell h rfl, blk_cell h rfl, blk_cell h rfl, blk_cell h rfl, blk_cell h rfl, fun j => blk_frozen h⟩
theorem own_other {w : World} {base : Nat} {E : TypeId} {size n : Nat} {v : Value} {xs : List Value} (h : w.ownsRow base E size v n xs) {p : Addr} (hne : ∀ b, v.ownBlock = some b → b ≠ p.block) (u : Value) : (w.setCell p u).ownsRow base E size v n xs := by
  refine ⟨h.1, ?_⟩
  rcases h.2 with hn | ⟨g, cap, cur, rfl, hb, hgg, rest⟩
  · exact .inl hn
  · exact .inr ⟨g, cap, cur, rfl, hb, by rw [Below.heap_setCell w p u g (hne g rfl)]; exact hgg, rest⟩
end Go.Fx

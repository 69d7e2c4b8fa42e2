import Derived.Test.YtiddaabodkglmaaEf
import Derived.Test.YtiddaabodkglmaaCi
namespace Go.Fx
open Go.RowKit
set_option linter.unusedVariables false
set_option linter.unusedSimpArgs false
/-- a run as the law wants it -/
structure RunOk (low : Nat → Bool) (rs : List Nat) (r : Int × Int) : Prop where
  pos : 0 ≤ r.1
  long : 5 ≤ r.2
  fits : r.1 + r.2 ≤ rs.length
  all : ∀ (j : Nat) (h : j < rs.length), r.1 ≤ j → (j : Int) < r.1 + r.2 → low rs[j] = true
  before : ∀ (j : Nat) (h : j < rs.length), (j : Int) = r.1 - 1 → low rs[j] = false
  behind : ∀ (j : Nat) (h : j < rs.length), (j : Int) = r.1 + r.2 → low rs[j] = false
def RunsGood (low : Nat → Bool) (rs : List Nat) : Int → List (Int × Int) → Prop
  | _, [] => True
  | e, r :: t => e < r.1 ∧ RunOk low rs r ∧ RunsGood low rs (r.1 + r.2) t
theorem RunsGood.mono {low : Nat → Bool} {rs : List Nat} {e e' : Int} {L : List (Int × Int)} (h : RunsGood low rs e' L) (he : e ≤ e') : RunsGood low rs e L := by
  cases L with
  | nil => trivial
  | cons r t => exact ⟨by have := h.1; omega, h.2⟩
theorem good_from (low : Nat → Bool) (rs : List Nat) : ∀ (tl : List Nat) (i n : Nat), rs.drop i = tl → n ≤ i → i ≤ rs.length →
    (∀ (j : Nat) (h : j < rs.length), i - n ≤ j → j < i → low rs[j] = true) → (∀ (j : Nat) (h : j < rs.length), (j : Int) = (i : Int) - n - 1 → low rs[j] = false) → RunsGood low rs ((i : Int) - n - 1) (lowsFrom low i n tl)
  | [], i, n, hd, hni, hil, ha, hb => by
    have hl : i = rs.length := by
      have := congrArg List.length hd
      simp at this
      omega
    unfold lowsFrom
    split
    · refine ⟨by simp only []; omega, ⟨by simp only []; omega, by simp only []; omega, by simp only []; omega, fun j h h1 h2 => ha j h (by simp only [] at h1; omega) (by simp only [] at h2; omega), fun j h h1 => hb j h (by simpa using h1), fun j h h1 => by simp only [] at h1; omega⟩, trivial⟩
    · trivial
  | x :: r, i, n, hd, hni, hil, ha, hb => by
    have hl : i < rs.length := by
      have := congrArg List.length hd
      simp at this
      omega
    rw [List.drop_eq_getElem_cons hl] at hd
    injection hd with hx hr
    unfold lowsFrom
    split
    · rename_i hlow
      have := good_from low rs r (i + 1) (n + 1) hr (by omega) hl (fun j h h1 h2 => by
        by_cases hj : j = i
        · subst hj; rw [hx]; exact hlow
        · exact ha j h (by omega) (by omega)) (fun j h h1 => hb j h (by omega))
      exact this.mono (by omega)
    · rename_i hlow
      have hlow' : low x = false := by simpa using hlow
      have hrest := good_from low rs r (i + 1) 0 hr (by omega) hl (fun j h h1 h2 => by omega) (fun j h h1 => by
        have : j = i := by omega
        subst this; rw [hx]; exact hlow')
      split
      · refine ⟨by simp only []; omega, ⟨by simp only []; omega, by simp only []; omega, by simp only []; omega, fun j h h1 h2 => ha j h (by simp only [] at h1; omega) (by simp only [] at h2; omega), fun j h h1 => hb j h (by simpa using h1), fun j h h1 => by
          simp only [] at h1
          have : j = i := by omega
          subst this; rw [hx]; exact hlow'⟩, hrest.mono (by simp only []; omega)⟩
      · exact hrest.mono (by omega)
theorem good_lows (rs : List Nat) (x : Nat) : RunsGood (fun y => fle .f32 y x) rs (-1) (lows rs x) := by
  unfold lows
  split
  · trivial
  · exact (good_from (fun y => fle .f32 y x) rs rs 0 0 rfl (Nat.le_refl _) (Nat.zero_le _) (fun j h h1 h2 => by omega) (fun j h h1 => by omega)).mono (by omega)
end Go.Fx
namespace Go.Proofs.Ytiddaabodkglmaa
open Go.RowKit Go.Fx
set_option linter.unusedVariables false
set_option linter.unusedSimpArgs false
set_option maxRecDepth 100000 in
set_option maxHeartbeats 4000000 in
theorem drawLows_any (A : Option Addr) (c : Nat) (bs : List Int) (w : World) (h : Rd w A (bs.map by8)) (hn : bs.length ≤ 1048576) (hb : ∀ x ∈ bs, 0 ≤ x ∧ x ≤ 255) :
    Calls Try.prog 96 #[.slice A bs.length c] w fun e w' => (∃ (A : Option Addr) (c : Nat) (gs : List Nat) (x : Nat), e = .returned (.tuple #[.slice A gs.length c, .float .f32 x]) ∧ Rd w' A (gs.map fl) ∧ (A = none → gs.length = 0) ∧ gs.length ≤ c ∧ gs.length ≤ 2000) ∧ Ext w w' := by
  go_enter Try.func96, Try.ntmps96
  go_wp2_with fail
  refine (new_any A c bs _ h hn hb).mono ?_
  rintro e w1 ⟨⟨bk, rfl, hbk, hbz, hcu⟩, hb1⟩
  go_wp2_with fail
  refine (stream_any bk _ hcu).mono ?_
  rintro e w2 ⟨⟨A2, c2, gs, n2, rfl, hd, hl, -, -⟩, hc⟩
  go_wp2_with fail
  refine (once_any bk 10 _ hc.1 (by omega)).mono ?_
  rintro e w4 ⟨⟨q, rfl⟩, hc4⟩
  replace hd := hd.up hc4.2
  replace hc := hc.trans hc4
  clear hc4
  cases q
  · go_wp2_with fail
    refine (below_any bk 100 _ hc.1 (by omega)).mono ?_
    rintro e w5 ⟨⟨y, rfl, hy0, hy1, -⟩, hc5⟩
    have hy2 := hy1 (by omega)
    replace hd := hd.up hc5.2
    replace hc := hc.trans hc5
    go_wp2_with fail
    go_ret2
    exact ⟨⟨A2, c2, gs, _, rfl, hd.1, hd.2.1, hd.2.2.1, hl⟩, ext_turn hb1 hc.2 hbk⟩
  · go_wp2_with fail
    refine (odd_any bk _ hc.1).mono ?_
    rintro e w5 ⟨⟨y, rfl⟩, hc5⟩
    replace hd := hd.up hc5.2
    replace hc := hc.trans hc5
    go_wp2_with (with_reducible refine upon_narrow Try.underlying68 Try.underlying29 ?_; intro b n hb)
    go_ret2
    exact ⟨⟨A2, c2, gs, _, rfl, (hd.ext (Ext.drewN _ _)).1, hd.2.1, hd.2.2.1, hl⟩, (ext_turn hb1 hc.2 hbk).trans (Ext.drewN _ _)⟩
end Go.Proofs.Ytiddaabodkglmaa

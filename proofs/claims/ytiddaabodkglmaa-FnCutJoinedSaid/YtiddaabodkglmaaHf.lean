import Derived.Test.YtiddaabodkglmaaCm
import Derived.Test.YtiddaabodkglmaaK5
import Derived.Test.YtiddaabodkglmaaK1
namespace Go.Fx
open Ieee
set_option linter.unusedVariables false
set_option linter.unusedSimpArgs false
/-! what is received of a stream -/
theorem cns_cns (rs : List Nat) : cns (cns rs) = cns rs := by
  unfold cns; rw [List.map_map]; congr 1; funext x; exact cn_cn _ _
theorem cns_drop (rs : List Nat) (k : Nat) : (cns rs).drop k = cns (rs.drop k) := by simp
theorem decodeOk_cns (odd : Bool) (rs : List Nat) : decodeOk odd (cns rs) = decodeOk odd rs := by unfold decodeOk; rw [cns_cns]; simp
theorem aloneOk_cns (odd : Bool) (rs : List Nat) : aloneOk odd (cns rs) = aloneOk odd rs := by unfold aloneOk; rw [lineOk_cns, cns_drop, decodeOk_cns]
theorem alone_cns (odd : Bool) (rs : List Nat) : alone odd (cns rs) = alone odd rs := by unfold alone; rw [aloneOk_cns, cns_drop, cns_cns]
theorem brst_cns (rs : List Nat) : brst (cns rs) = cns (brst rs) := by
  unfold brst; rw [lineOk_cns]
  split
  · unfold cutF cns; rw [List.map_take, List.map_drop]
  · rfl
theorem bcRow_cns (rs : List Nat) : bcRow (cns rs) = bcRow rs := by unfold bcRow; rw [brst_cns, cns_cns]
theorem bcOk_cns (rs : List Nat) : bcOk (cns rs) = bcOk rs := by unfold bcOk; rw [lineOk_cns, brst_cns, decodeOk_cns]
theorem bcRe_cns (rs : List Nat) : bcRe (cns rs) = bcRe rs := by unfold bcRe; rw [bcOk_cns, bcRow_cns]
theorem bcIm_cns (rs : List Nat) : bcIm (cns rs) = bcIm rs := by unfold bcIm; rw [bcOk_cns, bcRow_cns]
theorem swing_cns (a b : List Nat) : swing (cns a) (cns b) = swing a b := by unfold swing swingX; rw [bcOk_cns, bcOk_cns, bcRe_cns, bcRe_cns, bcIm_cns, bcIm_cns]
theorem hgOk_cns (a b : List Nat) : hgOk (cns a) (cns b) = hgOk a b := by unfold hgOk; rw [bcOk_cns, bcOk_cns]
theorem hgRe_cns (a b : List Nat) : hgRe (cns a) (cns b) = hgRe a b := by unfold hgRe; rw [hgOk_cns, bcRe_cns, bcRe_cns]
theorem killed_cns (a b : List Nat) (x : Nat) : killed (cns a) (cns b) x = killed a b x := by unfold killed; rw [swing_cns, hgRe_cns]
theorem pairOk_cns (a b : List Nat) : pairOk (cns a) (cns b) = pairOk a b := by unfold pairOk; rw [aloneOk_cns, aloneOk_cns, alone_cns, alone_cns]
theorem pair_cns (a b : List Nat) : pair (cns a) (cns b) = pair a b := by unfold pair; rw [pairOk_cns, swing_cns, alone_cns, alone_cns]
theorem takeOk_cns (a b : List Nat) (x k : Nat) : takeOk (cns a) (cns b) x k = takeOk a b x k := by unfold takeOk; rw [pairOk_cns, killed_cns, hgOk_cns, hgRe_cns, pair_cns]
theorem take_cns (a b : List Nat) (x k : Nat) : take (cns a) (cns b) x k = take a b x k := by unfold take; rw [takeOk_cns, killed_cns, hgRe_cns, pair_cns]
theorem take_of {gs hs A B : List Nat} (h : cns gs = A) (h' : cns hs = B) (x k : Nat) : takeOk gs hs x k = takeOk A B x k ∧ take gs hs x k = take A B x k := by
  subst h h'
  rw [takeOk_cns, take_cns]
  exact ⟨rfl, rfl⟩
/-- pictures, and two fields woven -/
def pictureOk (p : List (List Cel)) : Bool := decide (4 ≤ p.length) && decide (p.length ≤ 64) && decide (p.length % 4 = 0) && p.all (fun r => rowOk r && decide (r.length = (p.getD 0 []).length))
def weave : List (List Cel) → List (List Cel) → List (List Cel)
  | a :: as', b :: bs => a :: b :: weave as' bs
  | _, _ => []
theorem weave_len : ∀ {a b : List (List Cel)}, a.length = b.length → (weave a b).length = 2 * a.length
  | [], [], _ => rfl
  | _ :: a, _ :: b, h => by
    have := weave_len (a := a) (b := b) (by simpa using h)
    simp only [weave, List.length_cons, this]; omega
  | [], _ :: _, h => by simp at h
  | _ :: _, [], h => by simp at h
theorem weave_snoc : ∀ {a b : List (List Cel)} {k : Nat} (h1 : k < a.length) (h2 : k < b.length), weave (a.take (k + 1)) (b.take (k + 1)) = weave (a.take k) (b.take k) ++ [a[k], b[k]]
  | x :: a, y :: b, 0, _, _ => by simp [weave]
  | x :: a, y :: b, k + 1, h1, h2 => by
    have := weave_snoc (a := a) (b := b) (k := k) (by simpa using h1) (by simpa using h2)
    simp only [List.take_succ_cons, weave, this, List.getElem_cons_succ, List.cons_append]
  | [], _, _, h1, _ => by simp at h1
  | _ :: _, [], _, _, h2 => by simp at h2
theorem weave_cn : ∀ (a b : List (List Cel)), (weave a b).map cnC = weave (a.map cnC) (b.map cnC)
  | x :: a, y :: b => by simp only [weave, List.map_cons, weave_cn a b]
  | [], _ => by simp [weave]
  | _ :: _, [] => by simp [weave]
theorem pictureOk_cn (p : List (List Cel)) : pictureOk (p.map cnC) = pictureOk p := by
  unfold pictureOk
  have e : ((p.map cnC).getD 0 []).length = (p.getD 0 []).length := by cases p <;> simp
  rw [List.length_map, List.all_map, e]
  congr 2
  funext r
  simp [rowOk_cnC]
def weaveOk (a b : List (List Cel)) : Bool := decide (a.length = b.length) && pictureOk (weave a b)
theorem weaveOk_cn (a b : List (List Cel)) : weaveOk (a.map cnC) (b.map cnC) = weaveOk a b := by
  unfold weaveOk; rw [← weave_cn, pictureOk_cn, List.length_map, List.length_map]
def weaveR (a b : List (List Cel)) : List (List Cel) := if weaveOk a b = true then weave a b else []
/-- lines two by two -/
def twos {α : Type} : List α → List (α × α)
  | a :: b :: l => (a, b) :: twos l
  | _ => []
theorem twos_snoc {α : Type} : ∀ {l : List α} {k : Nat} (h : 2 * k + 1 < l.length), twos (l.take (2 * (k + 1))) = twos (l.take (2 * k)) ++ [(l[2 * k], l[2 * k + 1])]
  | a :: b :: l, 0, _ => by simp [twos]
  | a :: b :: l, k + 1, h => by
    have hl : 2 * k + 1 < l.length := by simp only [List.length_cons] at h; omega
    have ih := twos_snoc (l := l) (k := k) hl
    have e1 : (a :: b :: l).take (2 * (k + 1 + 1)) = a :: b :: l.take (2 * (k + 1)) := by rw [show 2 * (k + 1 + 1) = 2 * (k + 1) + 1 + 1 by omega]; simp only [List.take_succ_cons]
    have e2 : (a :: b :: l).take (2 * (k + 1)) = a :: b :: l.take (2 * k) := by rw [show 2 * (k + 1) = 2 * k + 1 + 1 by omega]; simp only [List.take_succ_cons]
    have e3 : (a :: b :: l)[2 * (k + 1)] = l[2 * k] := by simp only [show 2 * (k + 1) = 2 * k + 1 + 1 by omega, List.getElem_cons_succ]
    have e4 : (a :: b :: l)[2 * (k + 1) + 1] = l[2 * k + 1] := by simp only [show 2 * (k + 1) + 1 = 2 * k + 1 + 1 + 1 by omega, List.getElem_cons_succ]
    rw [e1, e2, e3, e4]
    show (a, b) :: twos (l.take (2 * (k + 1))) = (a, b) :: (twos (l.take (2 * k)) ++ [(l[2 * k], l[2 * k + 1])])
    rw [ih]
  | [], k, h => by simp at h
  | [_], k, h => by simp at h
def recvLines (cells : Int) (slice : Nat) (rs : List Nat) : List (List Nat) := cutLines rs (starts (lows rs slice) rs.length (24 + 4 * cells) 3) (24 + 4 * cells)
def takeAll (least sat : Nat) (ls : List (List Nat)) : List (List Cel) := (twos ls).flatMap fun p => take (tl p.1) (tl p.2) least (cn .f32 sat)
def takeAllOk (least sat : Nat) (ls : List (List Nat)) : Bool := (twos ls).all fun p => takeOk (tl p.1) (tl p.2) least (cn .f32 sat)
def recvOk (cells rows : Int) (slice least sat log : Nat) (rs : List Nat) : Bool :=
  setOk cells rows slice least sat log && decide (((recvLines cells slice rs).length : Int) = rows) && (recvLines cells slice rs).all tlOk && takeAllOk least sat (recvLines cells slice rs) &&
  weaveOk ((takeAll least sat (recvLines cells slice rs)).take (rows.toNat / 2)) ((takeAll least sat (recvLines cells slice rs)).drop (rows.toNat / 2))
def recv (cells rows : Int) (slice least sat log : Nat) (rs : List Nat) : List (List Cel) :=
  if recvOk cells rows slice least sat log rs = true then weave ((takeAll least sat (recvLines cells slice rs)).take (rows.toNat / 2)) ((takeAll least sat (recvLines cells slice rs)).drop (rows.toNat / 2)) else []
theorem take_two {a b : List Nat} {x k : Nat} (h : takeOk a b x k = true) : (take a b x k).length = 2 := by
  unfold take
  rw [if_pos h]
  unfold takeOk at h
  simp only [Bool.and_eq_true] at h
  obtain ⟨hp, hk⟩ := h
  have h2 : (pair a b).length = 2 := by unfold pair; rw [if_pos hp]; rfl
  split
  · rw [List.length_map, h2]
  · rename_i hn
    simp only [hn, Bool.false_or, Bool.and_eq_true] at hk
    obtain ⟨⟨-, hs⟩, ht⟩ := hk
    have h3 : (size (hgRe a b) (pair a b)).length = 2 := by
      unfold sizeOk at hs
      simp only [Bool.and_eq_true, Bool.not_eq_true'] at hs
      unfold size
      rw [hs.1]
      simp only [Bool.false_eq_true, if_false]
      unfold sat
      rw [if_pos hs.2, List.length_map, h2]
    unfold sat
    rw [if_pos ht, List.length_map, h3]
theorem takeAll_len {x k : Nat} : ∀ {ls : List (List Nat)}, takeAllOk x k ls = true → ls.length % 2 = 0 → (takeAll x k ls).length = ls.length
  | a :: b :: l, h, he => by
    unfold takeAllOk at h
    simp only [twos, List.all_cons, Bool.and_eq_true] at h
    have ih := takeAll_len (ls := l) (x := x) (k := k) (by unfold takeAllOk; exact h.2) (by simp only [List.length_cons] at he; omega)
    unfold takeAll at ih ⊢
    simp only [twos, List.flatMap_cons, List.length_append, List.length_cons]
    rw [ih, take_two h.1]; omega
  | [], _, _ => rfl
  | [_], _, he => by simp at he
end Go.Fx

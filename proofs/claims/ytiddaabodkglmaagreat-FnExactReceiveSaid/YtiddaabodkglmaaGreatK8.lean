import Derived.Test.YtiddaabodkglmaaGreatCm
import Derived.Test.YtiddaabodkglmaaGreatK5
import Derived.Test.YtiddaabodkglmaaGreatK1
import Derived.Test.YtiddaabodkglmaaGreatK6
import Derived.BigQuiet
section
namespace Go.Fx
open Ieee
set_option linter.unusedVariables false
set_option linter.unusedSimpArgs false
/-! what is received of a stream -/
theorem cns_cns (rs : List Nat) : cns (cns rs) = cns rs := by
  unfold cns; rw [List.map_map]; congr 1; funext x; exact cn_cn _ _
theorem cns_drop (rs : List Nat) (k : Nat) : (cns rs).drop k = cns (rs.drop k) := by simp
theorem decodeOk_cns (odd : Bool) (rs : List Nat) : decodeOk odd (cns rs) = decodeOk odd rs := by unfold decodeOk; rw [cns_cns]; simp
theorem aloneOk_cns (odd : Bool) (rs : List Nat) : aloneOk odd (cns rs) = aloneOk odd rs := by unfold aloneOk; rw [lineOk_cns, cns_drop, decodeOk_cns]
theorem alone_cns (odd : Bool) (rs : List Nat) : alone odd (cns rs) = alone odd rs := by unfold alone; rw [aloneOk_cns, cns_drop, cns_cns]
theorem brst_cns (rs : List Nat) : brst (cns rs) = cns (brst rs) := by
  unfold brst; rw [lineOk_cns]
  split
  · unfold cutF cns; rw [List.map_take, List.map_drop]
  · rfl
theorem bcRow_cns (rs : List Nat) : bcRow (cns rs) = bcRow rs := by unfold bcRow; rw [brst_cns, cns_cns]
theorem bcOk_cns (rs : List Nat) : bcOk (cns rs) = bcOk rs := by unfold bcOk; rw [lineOk_cns, brst_cns, decodeOk_cns]
theorem bcRe_cns (rs : List Nat) : bcRe (cns rs) = bcRe rs := by unfold bcRe; rw [bcOk_cns, bcRow_cns]
theorem bcIm_cns (rs : List Nat) : bcIm (cns rs) = bcIm rs := by unfold bcIm; rw [bcOk_cns, bcRow_cns]
theorem swing_cns (a b : List Nat) : swing (cns a) (cns b) = swing a b := by unfold swing swingX; rw [bcOk_cns, bcOk_cns, bcRe_cns, bcRe_cns, bcIm_cns, bcIm_cns]
theorem hgOk_cns (a b : List Nat) : hgOk (cns a) (cns b) = hgOk a b := by unfold hgOk; rw [bcOk_cns, bcOk_cns]
theorem hgRe_cns (a b : List Nat) : hgRe (cns a) (cns b) = hgRe a b := by unfold hgRe; rw [hgOk_cns, bcRe_cns, bcRe_cns]
theorem killed_cns (a b : List Nat) (x : Nat) : killed (cns a) (cns b) x = killed a b x := by unfold killed; rw [swing_cns, hgRe_cns]
theorem pairOk_cns (a b : List Nat) : pairOk (cns a) (cns b) = pairOk a b := by unfold pairOk; rw [aloneOk_cns, aloneOk_cns, alone_cns, alone_cns]
theorem pair_cns (a b : List Nat) : pair (cns a) (cns b) = pair a b := by unfold pair; rw [pairOk_cns, swing_cns, alone_cns, alone_cns]
theorem takeOk_cns (a b : List Nat) (x k : Nat) : takeOk (cns a) (cns b) x k = takeOk a b x k := by unfold takeOk; rw [pairOk_cns, killed_cns, hgOk_cns, hgRe_cns, pair_cns]
theorem take_cns (a b : List Nat) (x k : Nat) : take (cns a) (cns b) x k = take a b x k := by unfold take; rw [takeOk_cns, killed_cns, hgRe_cns, pair_cns]
theorem take_of {gs hs A B : List Nat} (h : cns gs = A) (h' : cns hs = B) (x k : Nat) : takeOk gs hs x k = takeOk A B x k ∧ take gs hs x k = take A B x k := by
  subst h h'
  rw [takeOk_cns, take_cns]
  exact ⟨rfl, rfl⟩
/-- pictures, and two fields woven -/
def pictureOk (p : List (List Cel)) : Bool := decide (4 ≤ p.length) && decide (p.length ≤ 64) && decide (p.length % 4 = 0) && p.all (fun r => rowOk r && decide (r.length = (p.getD 0 []).length))
def weave : List (List Cel) → List (List Cel) → List (List Cel)
  | a :: as', b :: bs => a :: b :: weave as' bs
  | _, _ => []
theorem weave_len : ∀ {a b : List (List Cel)}, a.length = b.length → (weave a b).length = 2 * a.length
  | [], [], _ => rfl
  | _ :: a, _ :: b, h => by
    have := weave_len (a := a) (b := b) (by simpa using h)
    simp only [weave, List.length_cons, this]; omega
  | [], _ :: _, h => by simp at h
  | _ :: _, [], h => by simp at h
theorem weave_snoc : ∀ {a b : List (List Cel)} {k : Nat} (h1 : k < a.length) (h2 : k < b.length), weave (a.take (k + 1)) (b.take (k + 1)) = weave (a.take k) (b.take k) ++ [a[k], b[k]]
  | x :: a, y :: b, 0, _, _ => by simp [weave]
  | x :: a, y :: b, k + 1, h1, h2 => by
    have := weave_snoc (a := a) (b := b) (k := k) (by simpa using h1) (by simpa using h2)
    simp only [List.take_succ_cons, weave, this, List.getElem_cons_succ, List.cons_append]
  | [], _, _, h1, _ => by simp at h1
  | _ :: _, [], _, _, h2 => by simp at h2
theorem weave_cn : ∀ (a b : List (List Cel)), (weave a b).map cnC = weave (a.map cnC) (b.map cnC)
  | x :: a, y :: b => by simp only [weave, List.map_cons, weave_cn a b]
  | [], _ => by simp [weave]
  | _ :: _, [] => by simp [weave]
theorem pictureOk_cn (p : List (List Cel)) : pictureOk (p.map cnC) = pictureOk p := by
  unfold pictureOk
  have e : ((p.map cnC).getD 0 []).length = (p.getD 0 []).length := by cases p <;> simp
  rw [List.length_map, List.all_map, e]
  congr 2
  funext r
  simp [rowOk_cnC]
def weaveOk (a b : List (List Cel)) : Bool := decide (a.length = b.length) && pictureOk (weave a b)
theorem weaveOk_cn (a b : List (List Cel)) : weaveOk (a.map cnC) (b.map cnC) = weaveOk a b := by
  unfold weaveOk; rw [← weave_cn, pictureOk_cn, List.length_map, List.length_map]
def weaveR (a b : List (List Cel)) : List (List Cel) := if weaveOk a b = true then weave a b else []
/-- lines two by two -/
def twos {α : Type} : List α → List (α × α)
  | a :: b :: l => (a, b) :: twos l
  | _ => []
theorem twos_snoc {α : Type} : ∀ {l : List α} {k : Nat} (h : 2 * k + 1 < l.length), twos (l.take (2 * (k + 1))) = twos (l.take (2 * k)) ++ [(l[2 * k], l[2 * k + 1])]
  | a :: b :: l, 0, _ => by simp [twos]
  | a :: b :: l, k + 1, h => by
    have hl : 2 * k + 1 < l.length := by simp only [List.length_cons] at h; omega
    have ih := twos_snoc (l := l) (k := k) hl
    have e1 : (a :: b :: l).take (2 * (k + 1 + 1)) = a :: b :: l.take (2 * (k + 1)) := by rw [show 2 * (k + 1 + 1) = 2 * (k + 1) + 1 + 1 by omega]; simp only [List.take_succ_cons]
    have e2 : (a :: b :: l).take (2 * (k + 1)) = a :: b :: l.take (2 * k) := by rw [show 2 * (k + 1) = 2 * k + 1 + 1 by omega]; simp only [List.take_succ_cons]
    have e3 : (a :: b :: l)[2 * (k + 1)] = l[2 * k] := by simp only [show 2 * (k + 1) = 2 * k + 1 + 1 by omega, List.getElem_cons_succ]
    have e4 : (a :: b :: l)[2 * (k + 1) + 1] = l[2 * k + 1] := by simp only [show 2 * (k + 1) + 1 = 2 * k + 1 + 1 + 1 by omega, List.getElem_cons_succ]
    rw [e1, e2, e3, e4]
    show (a, b) :: twos (l.take (2 * (k + 1))) = (a, b) :: (twos (l.take (2 * k)) ++ [(l[2 * k], l[2 * k + 1])])
    rw [ih]
  | [], k, h => by simp at h
  | [_], k, h => by simp at h
def recvLines (cells : Int) (slice : Nat) (rs : List Nat) : List (List Nat) := cutLines rs (starts (lows rs slice) rs.length (24 + 4 * cells) 3) (24 + 4 * cells)
def takeAll (least sat : Nat) (ls : List (List Nat)) : List (List Cel) := (twos ls).flatMap fun p => take (tl p.1) (tl p.2) least (cn .f32 sat)
def takeAllOk (least sat : Nat) (ls : List (List Nat)) : Bool := (twos ls).all fun p => takeOk (tl p.1) (tl p.2) least (cn .f32 sat)
def recvOk (cells rows : Int) (slice least sat log : Nat) (rs : List Nat) : Bool :=
  setOk cells rows slice least sat log && decide (((recvLines cells slice rs).length : Int) = rows) && (recvLines cells slice rs).all tlOk && takeAllOk least sat (recvLines cells slice rs) &&
  weaveOk ((takeAll least sat (recvLines cells slice rs)).take (rows.toNat / 2)) ((takeAll least sat (recvLines cells slice rs)).drop (rows.toNat / 2))
def recv (cells rows : Int) (slice least sat log : Nat) (rs : List Nat) : List (List Cel) :=
  if recvOk cells rows slice least sat log rs = true then weave ((takeAll least sat (recvLines cells slice rs)).take (rows.toNat / 2)) ((takeAll least sat (recvLines cells slice rs)).drop (rows.toNat / 2)) else []
theorem take_two {a b : List Nat} {x k : Nat} (h : takeOk a b x k = true) : (take a b x k).length = 2 := by
  unfold take
  rw [if_pos h]
  unfold takeOk at h
  simp only [Bool.and_eq_true] at h
  obtain ⟨hp, hk⟩ := h
  have h2 : (pair a b).length = 2 := by unfold pair; rw [if_pos hp]; rfl
  split
  · rw [List.length_map, h2]
  · rename_i hn
    simp only [hn, Bool.false_or, Bool.and_eq_true] at hk
    obtain ⟨⟨-, hs⟩, ht⟩ := hk
    have h3 : (size (hgRe a b) (pair a b)).length = 2 := by
      unfold sizeOk at hs
      simp only [Bool.and_eq_true, Bool.not_eq_true'] at hs
      unfold size
      rw [hs.1]
      simp only [Bool.false_eq_true, if_false]
      unfold sat
      rw [if_pos hs.2, List.length_map, h2]
    unfold sat
    rw [if_pos ht, List.length_map, h3]
theorem takeAll_len {x k : Nat} : ∀ {ls : List (List Nat)}, takeAllOk x k ls = true → ls.length % 2 = 0 → (takeAll x k ls).length = ls.length
  | a :: b :: l, h, he => by
    unfold takeAllOk at h
    simp only [twos, List.all_cons, Bool.and_eq_true] at h
    have ih := takeAll_len (ls := l) (x := x) (k := k) (by unfold takeAllOk; exact h.2) (by simp only [List.length_cons] at he; omega)
    unfold takeAll at ih ⊢
    simp only [twos, List.flatMap_cons, List.length_append, List.length_cons]
    rw [ih, take_two h.1]; omega
  | [], _, _ => rfl
  | [_], _, he => by simp at he
end Go.Fx
end
section
namespace Go.Fx
open Go.RowKit
set_option linter.unusedVariables false
set_option linter.unusedSimpArgs false
/-! rows of rows: a row is replaced by another one, two are joined, parts of them -/
section
variable {w w' : World} {base : Nat} {Eo E : TypeId} {size : Nat} {v : Value} {us : List Value} {rows : List (Nat × List Value)}
theorem Rows2.replace {g n c : Nat} (h : Rows2 w base Eo E size (.slice (some ⟨g, 0, none⟩) n c) us rows) {i m : Nat} {u u' : Value} {r' : Nat × List Value} (hu : us[i]? = some u) (ho : w.ownsRow base E size u' r'.1 r'.2) (hold : InR (.slice (some ⟨g, 0, none⟩) n c) us base m) (hnew : ∀ b, u'.ownBlock = some b → m ≤ b) :
    Rows2 (w.setCell ⟨g, i, none⟩ u') base Eo E size (.slice (some ⟨g, 0, none⟩) n c) (us.set i u') (rows.set i r') := by
  obtain ⟨-, hn, -⟩ := h.rd
  have hgm : g < m := (hold.1 g rfl).2
  have hown := h.own
  rw [← hn] at hown
  have hlt : i < us.length := (List.getElem?_eq_some_iff.1 hu).1
  have fresh : ∀ b, u'.ownBlock = some b → b ≠ g := fun b hb => by have := hnew b hb; omega
  refine ⟨by simp [h.len], ?_, ?_, ?_, ?_⟩
  · rw [List.length_set, ← hn]
    exact own_set hown u'
  · intro j x r hx hr
    by_cases hij : i = j
    · subst hij
      rw [List.getElem?_set_self hlt] at hx
      rw [List.getElem?_set_self (by rw [← h.len]; exact hlt)] at hr
      cases hx; cases hr
      exact own_other ho (p := ⟨g, i, none⟩) fresh u'
    · rw [List.getElem?_set_ne hij] at hx hr
      refine own_other (h.row j x r hx hr) (p := ⟨g, i, none⟩) (fun b hb e => ?_) u'
      subst e
      exact h.out x (List.mem_of_getElem? hx) _ hb rfl
  · intro x hx b hb e
    rcases List.mem_or_eq_of_mem_set hx with h1 | h1
    · exact h.out x h1 b hb e
    · subst h1
      have e' : g = b := by
        have : (Value.slice (some ⟨g, 0, none⟩) n c).ownBlock = some g := rfl
        rw [this] at e; exact Option.some.inj e
      exact fresh b hb e'.symm
  · rw [List.pairwise_iff_getElem]
    intro a b ha hb hab x hx hy
    have ha' : a < us.length := by simpa using ha
    have hb' : b < us.length := by simpa using hb
    rw [List.getElem_set] at hx hy
    by_cases h1 : i = a
    · rw [if_pos h1] at hx
      rw [if_neg (by omega)] at hy
      have := hnew x hx
      have := (hold.2 _ (List.getElem_mem hb') x hy).2
      omega
    · rw [if_neg h1] at hx
      by_cases h2 : i = b
      · rw [if_pos h2] at hy
        have := hnew x hy
        have := (hold.2 _ (List.getElem_mem ha') x hx).2
        omega
      · rw [if_neg h2] at hy
        exact List.pairwise_iff_getElem.1 h.sep a b ha' hb' hab x hx hy
theorem Rows2.join {base2 : Nat} {v2 : Value} {us2 : List Value} {rows2 : List (Nat × List Value)} (h : Rows2 w base Eo E size v us rows) (h2 : Rows2 w base2 Eo E size v2 us2 rows2) {v' : Value} {m q : Nat} (ho : w'.ownsRow base Eo 1 v' (us.length + us2.length) (us ++ us2)) (hg : w.grownBy w' v.ownBlock)
    (hat : v'.ownBlock = v.ownBlock ∨ v'.ownBlock = some q) (hq : w.heap.size ≤ q) (hold : InR v us base m) (hm : m ≤ base2) (hb : base ≤ base2) : Rows2 w' base Eo E size v' (us ++ us2) (rows ++ rows2) := by
  have hnew := h2.inR
  have hvu : ∀ x ∈ us2, ∀ b, x.ownBlock = some b → v.ownBlock ≠ some b := fun x hx b hb e => by
    have := (hnew.2 x hx b hb).1
    have := (hold.1 b e).2
    omega
  have hat' : ∀ b, b < w.heap.size → v'.ownBlock = some b → v.ownBlock = some b := fun b hb e => by
    rcases hat with h1 | h1
    · rw [← h1]; exact e
    · rw [h1] at e; cases e; omega
  refine ⟨by simp [h.len, h2.len], ?_, ?_, ?_, ?_⟩
  · rw [List.length_append, ← h.len, ← h2.len]; exact ho
  · intro i x y hx hy
    by_cases hi : i < us.length
    · rw [List.getElem?_append_left hi] at hx
      rw [List.getElem?_append_left (by rw [← h.len]; exact hi)] at hy
      exact own_apart (h.row i x y hx hy) hg fun b hb e => h.out x (List.mem_of_getElem? hx) b hb e.symm
    · rw [List.getElem?_append_right (by omega)] at hx
      rw [List.getElem?_append_right (by rw [← h.len]; omega), ← h.len] at hy
      exact own_apart (own_base (h2.row _ x y hx hy) hb) hg fun b hb e => hvu x (List.mem_of_getElem? hx) b hb e.symm
  · intro x hx b hb e
    rcases List.mem_append.1 hx with hx | hx
    · obtain ⟨_, _, hox⟩ := h.mem hx
      exact h.out x hx b hb (hat' b (hox.lt b hb).2 e)
    · exact hvu x hx b hb (hat' b (hnew.2 x hx b hb).2 e)
  · refine List.pairwise_append.2 ⟨h.sep, h2.sep, fun x hx y hy b hb e => ?_⟩
    have := (hold.2 x hx b hb).2
    have := (hnew.2 y hy b e).1
    omega
theorem Rd.cut {b off : Nat} {cs : List Value} (h : Rd w (some ⟨b, off, none⟩) cs) (i n : Nat) : Rd w (some ⟨b, off + i, none⟩) ((cs.drop i).take n) := by
  rcases h with h | ⟨b', off', hA, hb, hc⟩
  · subst h; exact .inl (by simp)
  · injection hA with hA
    injection hA with e1 e2
    subst e1 e2
    refine .inr ⟨b, off + i, rfl, hb, fun j u hu => ?_⟩
    rw [List.getElem?_take] at hu
    split at hu
    · rw [List.getElem?_drop] at hu
      have := hc _ u hu
      rw [← Nat.add_assoc] at this
      exact this
    · cases hu
theorem RdRows.cut {b off : Nat} (h : RdRows w (some ⟨b, off, none⟩) us rows) (i n : Nat) : RdRows w (some ⟨b, off + i, none⟩) ((us.drop i).take n) ((rows.drop i).take n) := by
  refine ⟨by simp [h.len], h.rd.cut i n, fun j x r hx hr => ?_⟩
  rw [List.getElem?_take] at hx hr
  split at hx
  · rename_i hlt
    rw [if_pos hlt, List.getElem?_drop] at hr
    rw [List.getElem?_drop] at hx
    exact h.row _ x r hx hr
  · cases hx
end
end Go.Fx
end
section
namespace Go.Fx
open Go.RowKit
set_option linter.unusedVariables false
set_option linter.unusedSimpArgs false
theorem pic_short {p : List (List Cel)} (h : (decide ((4 : Int) ≤ (p.length : Int)) && decide ((p.length : Int) ≤ 64)) = false) : pictureOk p = false := by
  unfold pictureOk
  by_cases h1 : 4 ≤ p.length
  · have h2 : ¬ p.length ≤ 64 := by
      intro h2
      simp only [Bool.and_eq_false_iff, decide_eq_false_iff_not] at h
      omega
    rw [decide_eq_false h2]; simp
  · rw [decide_eq_false h1]; simp
theorem pic_odd {p : List (List Cel)} (h : ¬ p.length % 4 = 0) : pictureOk p = false := by unfold pictureOk; rw [decide_eq_false h]; simp
theorem pic_row {p : List (List Cel)} {k : Nat} (hk : k < p.length) (h : rowOk p[k] = false) : pictureOk p = false := by
  unfold pictureOk
  have : (p.all fun r => rowOk r && decide (r.length = (p.getD 0 []).length)) = false := by
    rw [List.all_eq_false]
    exact ⟨p[k], List.getElem_mem hk, by rw [h]; simp⟩
  rw [this, Bool.and_false]
theorem pic_wide {p : List (List Cel)} {k n : Nat} (hk : k < p.length) (h0 : 0 < p.length) (h : ¬ p[k].length = p[0].length) : pictureOk p = false := by
  have e0 : p.getD 0 [] = p[0] := by rw [List.getD_eq_getElem?_getD, List.getElem?_eq_getElem h0]; rfl
  unfold pictureOk
  have : (p.all fun r => rowOk r && decide (r.length = (p.getD 0 []).length)) = false := by
    rw [List.all_eq_false]
    exact ⟨p[k], List.getElem_mem hk, by rw [e0, decide_eq_false h]; simp⟩
  rw [this, Bool.and_false]
theorem pic_all {p : List (List Cel)} (h0 : 0 < p.length) (h1 : 4 ≤ p.length) (h2 : p.length ≤ 64) (h3 : p.length % 4 = 0) (h : ∀ k (hk : k < p.length), rowOk p[k] = true ∧ p[k].length = p[0].length) : pictureOk p = true := by
  have e0 : p.getD 0 [] = p[0] := by rw [List.getD_eq_getElem?_getD, List.getElem?_eq_getElem h0]; rfl
  unfold pictureOk
  rw [decide_eq_true h1, decide_eq_true h2, decide_eq_true h3]
  simp only [Bool.true_and]
  rw [List.all_eq_true]
  intro r hr
  obtain ⟨k, hk, rfl⟩ := List.getElem_of_mem hr
  obtain ⟨a, b⟩ := h k hk
  rw [a, e0, decide_eq_true b]; rfl
end Go.Fx
namespace Go.Proofs.YtiddaabodkglmaaGreat
open Go.RowKit Go.Fx
set_option linter.unusedVariables false
set_option linter.unusedSimpArgs false
set_option maxRecDepth 100000 in
set_option maxHeartbeats 4000000 in
theorem iPictureOk_any (A : Option Addr) (c : Nat) (us : List Value) (rss : List (List Cel)) (w : World) (h : RdRows w A us (rowsC rss)) (hn : rss.length ≤ maxLen) (he : ∀ r ∈ rss, r.length ≤ maxLen) :
    Calls Tryz.prog 66 #[.slice A rss.length c] w fun e w' => e = .returned (.bool (pictureOk rss)) ∧ Ext w w' := by
  have hn' := hn
  unfold maxLen at hn'
  have H := Lib.hid h
  have HE := Lib.hid he
  clear h he
  cases hl : (decide ((4 : Int) ≤ (rss.length : Int)) && decide ((rss.length : Int) ≤ 64))
  · have HP := Lib.hid (pic_short hl)
    go_enter Tryz.func66, Tryz.ntmps66
    go_wp2_with (go_at_call 50; refine (within_any _ _ _ _).mono ?_; rintro e w1 ⟨rfl, rfl⟩; rw [hl])
    go_ret
    exact ⟨by rw [HP.out]; rfl, Ext.refl _⟩
  · have hl2 := hl
    simp only [Bool.and_eq_true, decide_eq_true_eq] at hl2
    have hlo : 4 ≤ rss.length ∧ rss.length ≤ 64 := by omega
    clear hl2
    by_cases hm : rss.length % 4 = 0
    · have hm' : ((rss.length : Int) % 4 != 0) = false := by rw [bne_eq_false_iff_eq]; omega
      obtain ⟨b0, off0, B0, d0, hA0, hbw0, -, hcell0, -, -, -⟩ := H.out.atC (show 0 < rss.length by omega)
      subst hA0
      have HC0 : Hid (∀ W, Ext w W → W.cell? ⟨b0, off0, none⟩ = some (.slice B0 (rss[0]'(by omega)).length d0)) := Lib.hid (fun W hW => by rw [Below.cell hW (p := ⟨b0, off0, none⟩) hbw0]; simpa using hcell0)
      clear hcell0
      obtain ⟨n0, hn0⟩ : ∃ n, (rss[0]'(by omega)).length = n := ⟨_, rfl⟩
      rw [hn0] at HC0
      have HN0 := Lib.hid hn0
      clear hn0
      go_enter Tryz.func66, Tryz.ntmps66
      go_wp2_with (go_at_call 50; refine (within_any _ _ _ _).mono ?_; rintro e w1 ⟨rfl, rfl⟩; rw [hl])
      go_loopw [17] (fun i wr => ∃ (k : Nat), k ≤ rss.length ∧ i = .int .i64 k ∧ Hid (∀ j (hj : j < rss.length), j < k → rowOk rss[j] = true ∧ rss[j].length = (rss[0]'(by omega)).length) ∧ Ext w wr) (fun i _ => rss.length - (intOf i).toNat)
      case atStart => exact ⟨0, by omega, rfl, Lib.hid (fun j _ h => absurd h (by omega)), Ext.refl _⟩
      case round =>
        rename World => wo
        obtain ⟨k, hk, rfl, hall, hbr⟩ := hrel
        by_cases hlt : k < rss.length
        · obtain ⟨b, off, B, d, hA, hbw, -, hcell, hrow, hnil, -⟩ := (H.out.ext hbr).atC hlt
          injection hA with hA
          injection hA with e1 e2
          subst e1 e2
          have hq := Lib.hid (iRowOk_any B d rss[k] wo hrow (HE.out _ (List.getElem_mem hlt)))
          obtain ⟨n1, hn1⟩ : ∃ n, rss[k].length = n := ⟨_, rfl⟩
          rw [hn1] at hcell hq
          have HN1 := Lib.hid hn1
          clear hn1 hrow hnil
          cases hok : rowOk rss[k]
          · have HP := Lib.hid (pic_row hlt hok)
            rw [hok] at hq
            clear hok
            go_wp2_with (go_at_call 91; refine hq.out.mono ?_; rintro e w1 ⟨rfl, hb1⟩)
            go_ret
            exact ⟨by rw [HP.out]; rfl, hbr.trans hb1⟩
          · have HK := Lib.hid hok
            rw [hok] at hq
            clear hok
            by_cases hwd : n1 = n0
            · have HW := Lib.hid (HN1.out.trans (hwd.trans HN0.out.symm))
              subst hwd
              go_wp2_with (go_at_call 91; refine hq.out.mono ?_; rintro e w1 ⟨rfl, hb1⟩; have hc0 := HC0.out _ (hbr.trans hb1))
              go_roundw
              case rel => exact ⟨k + 1, by omega, by go_num, Lib.hid (fun j hj hjk => by
                by_cases hx : j = k
                · subst hx; exact ⟨HK.out, HW.out⟩
                · exact hall.out j hj (by omega)), hbr.trans hb1⟩
              case measure => simp [intOf]; omega
            · have HP := Lib.hid (pic_wide (n := 0) hlt (by omega) (fun e => hwd (HN1.out.symm.trans (e.trans HN0.out))))
              go_wp2_with (go_at_call 91; refine hq.out.mono ?_; rintro e w1 ⟨rfl, hb1⟩; have hc0 := HC0.out _ (hbr.trans hb1))
              go_ret
              exact ⟨by rw [HP.out]; rfl, hbr.trans hb1⟩
        · have HP := Lib.hid (pic_all (p := rss) (by omega) hlo.1 hlo.2 hm (fun j hj => hall.out j hj (by omega)))
          go_wp2
          go_ret
          exact ⟨by rw [HP.out]; rfl, hbr⟩
    · have HP := Lib.hid (pic_odd hm)
      have hm' : ((rss.length : Int) % 4 != 0) = true := by rw [bne_iff_ne]; omega
      go_enter Tryz.func66, Tryz.ntmps66
      go_wp2_with (go_at_call 50; refine (within_any _ _ _ _).mono ?_; rintro e w1 ⟨rfl, rfl⟩; rw [hl])
      go_ret
      exact ⟨by rw [HP.out]; rfl, Ext.refl _⟩
theorem weave_not {a b : List (List Cel)} (h : ¬ a.length = b.length) : weaveOk a b = false ∧ weaveR a b = [] := by
  have : weaveOk a b = false := by unfold weaveOk; rw [decide_eq_false h]; rfl
  exact ⟨this, by unfold weaveR; rw [this]; rfl⟩
theorem weave_is {a b : List (List Cel)} (h : a.length = b.length) : weaveOk a b = pictureOk (weave a b) ∧ weaveR a b = if pictureOk (weave a b) = true then weave a b else [] := by
  have : weaveOk a b = pictureOk (weave a b) := by unfold weaveOk; rw [decide_eq_true h]; rfl
  exact ⟨this, by unfold weaveR; rw [this]⟩
theorem weave_mem : ∀ {a b : List (List Cel)} {r : List Cel}, r ∈ weave a b → r ∈ a ∨ r ∈ b
  | x :: a, y :: b, r, h => by
    simp only [weave, List.mem_cons] at h
    rcases h with rfl | rfl | h
    · exact .inl (List.mem_cons_self ..)
    · exact .inr (List.mem_cons_self ..)
    · rcases weave_mem h with h | h
      · exact .inl (List.mem_cons_of_mem _ h)
      · exact .inr (List.mem_cons_of_mem _ h)
  | [], _, r, h => by simp [weave] at h
  | _ :: _, [], r, h => by simp [weave] at h
theorem rowsC_two (rss : List (List Cel)) (r s : List Cel) : rowsC rss ++ [(r.length, ccells r), (s.length, ccells s)] = rowsC (rss ++ [r, s]) := by simp
set_option maxRecDepth 100000 in
set_option maxHeartbeats 8000000 in
theorem iWeave_any (A B : Option Addr) (c d : Nat) (us vs : List Value) (rss sss : List (List Cel)) (w : World) (h : RdRows w A us (rowsC rss)) (h' : RdRows w B vs (rowsC sss)) (hn : rss.length ≤ 1048576) (hn' : sss.length ≤ 1048576) (he : ∀ r ∈ rss, r.length ≤ 1048576) (he' : ∀ r ∈ sss, r.length ≤ 1048576) :
    Calls Tryz.prog 30 #[.slice A rss.length c, .slice B sss.length d] w fun e w' => (∃ v us', e = .returned (.tuple #[v, .bool (weaveOk rss sss)]) ∧ OCC w' w.heap.size v us' (weaveR rss sss)) ∧ Ext w w' := by
  have H := Lib.hid h
  have H' := Lib.hid h'
  have HE := Lib.hid he
  have HE' := Lib.hid he'
  clear h h' he he'
  by_cases hl : rss.length = sss.length
  rotate_left
  · have HN := Lib.hid (weave_not hl)
    go_enter Tryz.func30, Tryz.ntmps30
    go_wp2_with fail
    go_ret2
    exact ⟨⟨_, [], by rw [HN.out.1]; rfl, by rw [HN.out.2]; exact Rows2.nil _ _ _ _ _⟩, Ext.refl _⟩
  · have HN := Lib.hid (weave_is hl)
    rw [← hl]
    have HL := Lib.hid hl
    clear hl
    go_enter Tryz.func30, Tryz.ntmps30
    go_wp2_with fail
    go_loopw [6, 7, 15] (fun v u i wr => ∃ (k : Nat) (us' : List Value), k ≤ rss.length ∧ i = .int .i64 k ∧ Hid (OCC wr w.heap.size v us' (weave (rss.take k) (sss.take k))) ∧ Ext w wr) (fun _ _ i _ => rss.length - (intOf i).toNat)
    case atStart => exact ⟨0, [], by omega, rfl, Lib.hid (by simp only [List.take_zero, weave]; exact Rows2.nil _ _ _ _ _), Ext.refl _⟩
    case round =>
      rename World => wo
      obtain ⟨k, us', hk, rfl, ho, hbr⟩ := hrel
      obtain ⟨A2, c2, rfl, hou⟩ := ho.out.form
      have hul : us'.length = 2 * k := by
        have h1 := ho.out.len
        simp only [List.length_map] at h1
        rw [weave_len (by simp [HL.out])] at h1
        rw [h1, List.length_take]; omega
      by_cases hlt : k < rss.length
      · have hlt' : k < sss.length := by have := HL.out; omega
        obtain ⟨b1, o1, B1, d1, rfl, hw1, -, hc1, hr1, hn1, -⟩ := H.out.atC hlt
        obtain ⟨b2, o2, B2, d2, rfl, hw2, -, hc2, hr2, hn2, -⟩ := H'.out.atC hlt'
        have hs1 := HE.out _ (List.getElem_mem hlt)
        have hs2 := HE'.out _ (List.getElem_mem hlt')
        have HT := Lib.hid (weave_snoc hlt hlt')
        have ho2 := ho
        have hub : us'.length ≤ 2097152 := by omega
        clear ho hul
        generalize rss[k] = ra at *
        generalize sss[k] = rb at *
        have hltI : (k : Int) < (rss.length : Int) := by omega
        clear hlt'
        have HC1 : Hid (∀ W, Ext w W → Calls Tryz.prog 65 #[.slice B1 ra.length d1] W fun e w' => (∃ v, e = .returned v ∧ OC w' W.heap.size v ra) ∧ Ext W w') := Lib.hid (fun W hW => cloneC_any B1 d1 ra W (hr1.ext hW) hn1 hs1)
        have HC2 : Hid (∀ W, Ext w W → Calls Tryz.prog 65 #[.slice B2 rb.length d2] W fun e w' => (∃ v, e = .returned v ∧ OC w' W.heap.size v rb) ∧ Ext W w') := Lib.hid (fun W hW => cloneC_any B2 d2 rb W (hr2.ext hW) hn2 hs2)
        have KS : Hid (∀ W, Ext w W → W.cell? ⟨b1, o1 + k, none⟩ = some (.slice B1 ra.length d1) ∧ W.cell? ⟨b2, o2 + k, none⟩ = some (.slice B2 rb.length d2)) := Lib.hid (fun W hh => ⟨by rw [Below.cell hh (p := ⟨b1, o1 + k, none⟩) hw1]; exact hc1, by rw [Below.cell hh (p := ⟨b2, o2 + k, none⟩) hw2]; exact hc2⟩)
        clear hr1 hr2 hc1 hc2
        obtain ⟨k1, k2⟩ := KS.out _ hbr
        go_wp2_with fail
        go_region_held3 (fun W => W.cell? ⟨b1, o1 + k, none⟩ = some (.slice B1 ra.length d1) ∧ W.cell? ⟨b2, o2 + k, none⟩ = some (.slice B2 rb.length d2))
          (first | exact KS.out _ hb3 | exact KS.out _ (Ext.alloc hb2 _) | exact KS.out _ (by (repeat (first | exact Below.refl _ _ | assumption | refine below_drewN ?_ _ | refine Below.drew ?_ | refine Below.alloc ?_ (by first | exact Nat.le_refl _ | (simp; done) | (simp; omega)) _ | refine Below.setCell ?_ (by first | exact Nat.le_refl _ | (simp; done) | (simp; omega)) _))))
          (first
            | (go_at_call 65; refine (HC1.out _ (by (repeat (first | exact Below.refl _ _ | assumption | refine below_drewN ?_ _ | refine Below.drew ?_ | refine Below.alloc ?_ (by first | exact Nat.le_refl _ | (simp; done) | (simp; omega)) _ | refine Below.setCell ?_ (by first | exact Nat.le_refl _ | (simp; done) | (simp; omega)) _)))).mono ?_; rintro e w1 ⟨⟨v1, rfl, ho1⟩, hb1⟩; unfold OC at ho1; obtain ⟨A3, c3, rfl, -, -⟩ := own_slice ho1; replace hb1 := Ext.trans (a := wo) (by (repeat (first | exact Below.refl _ _ | assumption | refine below_drewN ?_ _ | refine Below.drew ?_ | refine Below.alloc ?_ (by first | exact Nat.le_refl _ | (simp; done) | (simp; omega)) _ | refine Below.setCell ?_ (by first | exact Nat.le_refl _ | (simp; done) | (simp; omega)) _))) hb1; have hx1 := hb1; replace hb1 := Ext.trans hbr hb1)
            | (go_at_call 65; refine (HC2.out _ (by (repeat (first | exact Below.refl _ _ | assumption | refine below_drewN ?_ _ | refine Below.drew ?_ | refine Below.alloc ?_ (by first | exact Nat.le_refl _ | (simp; done) | (simp; omega)) _ | refine Below.setCell ?_ (by first | exact Nat.le_refl _ | (simp; done) | (simp; omega)) _)))).mono ?_; rintro e w2 ⟨⟨v2, rfl, hoB⟩, hb2⟩; have hbB := hb2; unfold OC at hoB; obtain ⟨A4, c4, rfl, -, -⟩ := own_slice hoB; replace hb2 := Ext.trans (a := w) (by (repeat (first | exact Below.refl _ _ | assumption | refine below_drewN ?_ _ | refine Below.drew ?_ | refine Below.alloc ?_ (by first | exact Nat.le_refl _ | (simp; done) | (simp; omega)) _ | refine Below.setCell ?_ (by first | exact Nat.le_refl _ | (simp; done) | (simp; omega)) _))) hb2)
            | (refine step_app rfl _ _ 28 rfl w.heap.size 54 _ 1 24 Tryz.underlying28 info_sc rfl (by omega) (.slice A2 us'.length c2) us'.length us' rfl (own_ext (own_ext (own_ext hou hx1) hbB) ((Ext.refl _).alloc _)) _ 2 2 _ rfl (rd_new _ _ _ _) rfl (fun h => by cases h) (by intro u hu; simp at hu; rcases hu with rfl | rfl <;> rfl) (by unfold maxLen; omega) (by omega) (by have := hb2.size; simp; omega) ?_; intro v3 w3 hown hg hat; have hb3 : Ext w w3 := ext_grow (base := w.heap.size) (Ext.alloc hb2 _) (own_ext (own_ext (own_ext hou hx1) hbB) ((Ext.refl _).alloc _)) (Nat.le_refl _) hg))
        go_wp2_with fail
        go_roundw
        case rel =>
          have hR : Hid (OCC w3 w.heap.size v3 (us' ++ [.slice A3 ra.length c3, .slice A4 rb.length c4]) (weave (rss.take (k + 1)) (sss.take (k + 1)))) := Lib.hid (by
            have hzb := hbr.size
            have ho1' : w1.ownsRow wo.heap.size 83 2 (.slice A3 ra.length c3) ra.length (ccells ra) := ho1
            have hap : Apart (.slice A3 ra.length c3) (.slice A4 rb.length c4) := fun b hb e => by
              have h1 := (ho1.lt b hb).2
              have h2 := (hoB.lt b e).1
              omega
            have hz1 : wo.heap.size ≤ w1.heap.size := hx1.size
            have h2 := Rows2.two (Eo := 54) (r := (ra.length, ccells ra)) (s := (rb.length, ccells rb)) (own_ext ho1' hbB) (own_base hoB hz1) hap (Nat.le_trans hz1 hbB.size)
            rw [HT.out]
            unfold OCC
            rw [← rowsC_two]
            exact Rows2.join (((ho2.out.ext hx1).ext hbB).ext ((Ext.refl _).alloc _)) h2 hown hg hat (Nat.le_refl _) ho2.out.inR (Nat.le_refl _) hzb)
          exact ⟨k + 1, _, by omega, by go_num, hR, hb3⟩
        case measure => simp [intOf]; omega
      · obtain rfl : k = rss.length := by omega
        have hL := HL.out
        have ho3 : Hid (OCC wo w.heap.size (.slice A2 us'.length c2) us' (weave rss sss)) := Lib.hid (by
          have := ho.out
          rw [List.take_of_length_le (Nat.le_refl _), List.take_of_length_le (by omega)] at this
          exact this)
        have hlen : (weave rss sss).length = us'.length := by have := ho3.out.len; simpa using this.symm
        have HQ := iPictureOk_any A2 c2 us' (weave rss sss) wo ho3.out.rd.1 (by rw [hlen]; unfold maxLen; omega) (fun r hr => by
          rcases weave_mem hr with h | h
          · exact Nat.le_trans (HE.out r h) (by unfold maxLen; omega)
          · exact Nat.le_trans (HE'.out r h) (by unfold maxLen; omega))
        rw [hlen] at HQ
        have HX := Lib.hid HQ
        clear HQ hlen hul hL ho
        cases hp : pictureOk (weave rss sss)
        · rw [hp] at HX
          have HP := Lib.hid hp
          clear hp
          go_wp2_with (go_at_call 66; refine HX.out.mono ?_; rintro e w1 ⟨rfl, hb1⟩)
          go_ret2
          exact ⟨⟨_, [], by rw [HN.out.1, HP.out]; rfl, by rw [HN.out.2, HP.out]; exact Rows2.nil _ _ _ _ _⟩, hbr.trans hb1⟩
        · rw [hp] at HX
          have HP := Lib.hid hp
          clear hp
          go_wp2_with (go_at_call 66; refine HX.out.mono ?_; rintro e w1 ⟨rfl, hb1⟩)
          go_ret2
          exact ⟨⟨_, us', by rw [HN.out.1, HP.out]; rfl, by rw [HN.out.2, HP.out]; exact ho3.out.ext hb1⟩, hbr.trans hb1⟩
end Go.Proofs.YtiddaabodkglmaaGreat
end
section
namespace Go.Fx
open Go.RowKit
set_option linter.unusedVariables false
set_option linter.unusedSimpArgs false
section
variable {cells rows : Int} {slice least sat log : Nat} {rs : List Nat}
theorem recv_nil (h : recvOk cells rows slice least sat log rs = false) : recv cells rows slice least sat log rs = [] := by unfold recv; rw [h]; rfl
theorem recv_set (h : setOk cells rows slice least sat log = false) : recvOk cells rows slice least sat log rs = false := by unfold recvOk; rw [h]; simp
theorem recv_rows (h : ¬ ((recvLines cells slice rs).length : Int) = rows) : recvOk cells rows slice least sat log rs = false := by unfold recvOk; rw [decide_eq_false h]; simp
theorem recv_tl (h : (recvLines cells slice rs).all tlOk = false) : recvOk cells rows slice least sat log rs = false := by unfold recvOk; rw [h]; simp
theorem recv_take (h : takeAllOk least sat (recvLines cells slice rs) = false) : recvOk cells rows slice least sat log rs = false := by unfold recvOk; rw [h]; simp
theorem recv_all (h1 : setOk cells rows slice least sat log = true) (h2 : ((recvLines cells slice rs).length : Int) = rows) (h3 : (recvLines cells slice rs).all tlOk = true) (h4 : takeAllOk least sat (recvLines cells slice rs) = true) :
    recvOk cells rows slice least sat log rs = weaveOk ((takeAll least sat (recvLines cells slice rs)).take (rows.toNat / 2)) ((takeAll least sat (recvLines cells slice rs)).drop (rows.toNat / 2)) ∧
    recv cells rows slice least sat log rs = weaveR ((takeAll least sat (recvLines cells slice rs)).take (rows.toNat / 2)) ((takeAll least sat (recvLines cells slice rs)).drop (rows.toNat / 2)) := by
  have e : recvOk cells rows slice least sat log rs = weaveOk ((takeAll least sat (recvLines cells slice rs)).take (rows.toNat / 2)) ((takeAll least sat (recvLines cells slice rs)).drop (rows.toNat / 2)) := by
    unfold recvOk; rw [h1, decide_eq_true h2, h3, h4]; simp
  exact ⟨e, by unfold recv weaveR; rw [e]⟩
end
theorem twos_mem {α : Type} : ∀ {l : List α} {k : Nat} (h : 2 * k + 1 < l.length), (l[2 * k], l[2 * k + 1]) ∈ twos l
  | a :: b :: l, 0, _ => by simp [twos]
  | a :: b :: l, k + 1, h => by
    have hl : 2 * k + 1 < l.length := by simp only [List.length_cons] at h; omega
    have ih := twos_mem (l := l) (k := k) hl
    have e3 : (a :: b :: l)[2 * (k + 1)] = l[2 * k] := by simp only [show 2 * (k + 1) = 2 * k + 1 + 1 by omega, List.getElem_cons_succ]
    have e4 : (a :: b :: l)[2 * (k + 1) + 1] = l[2 * k + 1] := by simp only [show 2 * (k + 1) + 1 = 2 * k + 1 + 1 + 1 by omega, List.getElem_cons_succ]
    rw [e3, e4]
    show _ ∈ (a, b) :: twos l
    exact List.mem_cons_of_mem _ ih
  | [], k, h => by simp at h
  | [_], k, h => by simp at h
theorem takeAll_snoc {x k m : Nat} {L : List (List Nat)} (h : 2 * m + 1 < L.length) : takeAll x k (L.take (2 * (m + 1))) = takeAll x k (L.take (2 * m)) ++ take (tl L[2 * m]) (tl L[2 * m + 1]) x (cn .f32 k) := by
  unfold takeAll; rw [twos_snoc h, List.flatMap_append]; simp
theorem takeAllOk_snoc {x k m : Nat} {L : List (List Nat)} (h : 2 * m + 1 < L.length) (h1 : takeAllOk x k (L.take (2 * m)) = true) (h2 : takeOk (tl L[2 * m]) (tl L[2 * m + 1]) x (cn .f32 k) = true) : takeAllOk x k (L.take (2 * (m + 1))) = true := by
  unfold takeAllOk at h1 ⊢; rw [twos_snoc h, List.all_append, h1]; simp [h2]
theorem takeAllOk_not {x k m : Nat} {L : List (List Nat)} (h : 2 * m + 1 < L.length) (h2 : takeOk (tl L[2 * m]) (tl L[2 * m + 1]) x (cn .f32 k) = false) : takeAllOk x k L = false := by
  unfold takeAllOk; rw [List.all_eq_false]; exact ⟨_, twos_mem h, by simp [h2]⟩
/-- the first k lines are levelled -/
structure LevUpto (k : Nat) (L R : List (List Nat)) : Prop where
  len : R.length = L.length
  done : ∀ j a b, j < k → L[j]? = some a → R[j]? = some b → tlOk a = true ∧ cns b = tl a
  rest : ∀ j, k ≤ j → R[j]? = L[j]?
theorem LevUpto.zero (L : List (List Nat)) : LevUpto 0 L L := ⟨rfl, fun j a b h => absurd h (by omega), fun _ _ => rfl⟩
theorem LevUpto.step {k : Nat} {L R : List (List Nat)} {gs : List Nat} (h : LevUpto k L R) (hk : k < L.length) (ok : tlOk L[k] = true) (hg : cns gs = tl L[k]) : LevUpto (k + 1) L (R.set k gs) := by
  have hr : k < R.length := by rw [h.len]; exact hk
  refine ⟨by rw [List.length_set, h.len], fun j a b hj ha hb => ?_, fun j hj => ?_⟩
  · by_cases e : k = j
    · subst e
      rw [List.getElem?_set_self hr] at hb
      rw [List.getElem?_eq_getElem hk] at ha
      cases ha; cases hb
      exact ⟨ok, hg⟩
    · rw [List.getElem?_set_ne e] at hb
      exact h.done j a b (by omega) ha hb
  · rw [List.getElem?_set_ne (by omega)]; exact h.rest j (by omega)
theorem LevUpto.at {k : Nat} {L R : List (List Nat)} (h : LevUpto k L R) (hk : k < L.length) : ∃ hr : k < R.length, R[k] = L[k] := by
  have hr : k < R.length := by rw [h.len]; exact hk
  refine ⟨hr, ?_⟩
  have := h.rest k (Nat.le_refl _)
  rw [List.getElem?_eq_getElem hr, List.getElem?_eq_getElem hk] at this
  exact Option.some.inj this
theorem LevUpto.all {L R : List (List Nat)} (h : LevUpto L.length L R) : L.all tlOk = true ∧ ∀ j (h1 : j < L.length) (h2 : j < R.length), cns R[j] = tl L[j] := by
  have key : ∀ j (h1 : j < L.length) (h2 : j < R.length), tlOk L[j] = true ∧ cns R[j] = tl L[j] := fun j h1 h2 => h.done j _ _ h1 (List.getElem?_eq_getElem h1) (List.getElem?_eq_getElem h2)
  refine ⟨?_, fun j h1 h2 => (key j h1 h2).2⟩
  rw [List.all_eq_true]
  intro r hr
  obtain ⟨j, hj, rfl⟩ := List.getElem_of_mem hr
  exact (key j hj (by rw [h.len]; exact hj)).1
theorem allTl_not {L : List (List Nat)} {k : Nat} (hk : k < L.length) (h : tlOk L[k] = false) : L.all tlOk = false := by
  rw [List.all_eq_false]; exact ⟨L[k], List.getElem_mem hk, by rw [h]; simp⟩
theorem cutLines_le {rs : List Nat} {st : List Int} {len : Int} : ∀ l ∈ cutLines rs st len, l.length ≤ rs.length := by
  intro l hl
  unfold cutLines at hl
  split at hl
  · rw [List.mem_filterMap] at hl
    obtain ⟨a, -, ha⟩ := hl
    unfold cut1 at ha
    split at ha
    · cases ha
      unfold cutF
      rw [List.length_take, List.length_drop]; omega
    · cases ha
  · cases hl
theorem rowsF_set (rss : List (List Nat)) (k : Nat) (r : List Nat) : (rowsF rss).set k (r.length, r.map fl) = rowsF (rss.set k r) := by
  show (rss.map _).set k _ = (rss.set k r).map _
  rw [List.map_set]
theorem takeAll_snoc' {x k t : Nat} {L : List (List Nat)} (ht : t % 2 = 0) (h0 : t < L.length) (h : t + 1 < L.length) : takeAll x k (L.take (t + 2)) = takeAll x k (L.take t) ++ take (tl L[t]) (tl L[t + 1]) x (cn .f32 k) := by
  obtain ⟨m, rfl⟩ : ∃ m, t = 2 * m := ⟨t / 2, by omega⟩
  exact takeAll_snoc h
theorem takeAllOk_snoc' {x k t : Nat} {L : List (List Nat)} (ht : t % 2 = 0) (h0 : t < L.length) (h : t + 1 < L.length) (h1 : takeAllOk x k (L.take t) = true) (h2 : takeOk (tl L[t]) (tl L[t + 1]) x (cn .f32 k) = true) : takeAllOk x k (L.take (t + 2)) = true := by
  obtain ⟨m, rfl⟩ : ∃ m, t = 2 * m := ⟨t / 2, by omega⟩
  exact takeAllOk_snoc h h1 h2
theorem takeAllOk_not' {x k t : Nat} {L : List (List Nat)} (ht : t % 2 = 0) (h0 : t < L.length) (h : t + 1 < L.length) (h2 : takeOk (tl L[t]) (tl L[t + 1]) x (cn .f32 k) = false) : takeAllOk x k L = false := by
  obtain ⟨m, rfl⟩ : ∃ m, t = 2 * m := ⟨t / 2, by omega⟩
  exact takeAllOk_not h h2
theorem takeAll_many {x k t : Nat} {L : List (List Nat)} {rss : List (List Cel)} (ht : t % 2 = 0) (h0 : t ≤ L.length) (h1 : takeAllOk x k (L.take t) = true) (h2 : rss.map cnC = takeAll x k (L.take t)) : rss.length = t := by
  have h := congrArg List.length h2
  have e : (L.take t).length = t := by rw [List.length_take]; omega
  rw [List.length_map, takeAll_len h1 (by rw [e]; exact ht), e] at h
  exact h
theorem takeAll_each {x k : Nat} {L : List (List Nat)} : ∀ r ∈ takeAll x k L, r.length ≤ 64 := fun r hr => by
  unfold takeAll at hr
  rw [List.mem_flatMap] at hr
  obtain ⟨p, -, hp⟩ := hr
  exact take_len.2 r hp
theorem weaveR_cn (a b : List (List Cel)) : (weaveR a b).map cnC = weaveR (a.map cnC) (b.map cnC) := by
  unfold weaveR
  rw [weaveOk_cn]
  split
  · exact weave_cn a b
  · rfl
theorem starts_max {rs : List Nat} {x : Nat} {length gap : Int} : (starts (lows rs x) rs.length length gap).length ≤ 1048576 := by
  by_cases h : lows rs x = []
  · rw [h]; unfold starts startsOk; simp
  · have h1 := starts_len (runs := lows rs x) (n := rs.length) (length := length) (gap := gap)
    have h2 := lows_short h
    omega
theorem set_small {R : List (List Nat)} {k n : Nat} {gs : List Nat} (h : ∀ r ∈ R, r.length ≤ n) (hg : gs.length ≤ n) : ∀ r ∈ R.set k gs, r.length ≤ n := fun r hr => by
  rcases List.mem_or_eq_of_mem_set hr with h1 | h1
  · exact h r h1
  · subst h1; exact hg
end Go.Fx
namespace Go.Proofs.YtiddaabodkglmaaGreat
open Go.RowKit Go.Fx
set_option linter.unusedVariables false
set_option linter.unusedSimpArgs false
set_option maxRecDepth 100000 in
set_option maxHeartbeats 8000000 in
theorem iReceive_any (cells rows : Int) (slice least sat : Nat) (A : Option Addr) (n c : Nat) (S : Option Addr) (d : Nat) (rs : List Nat) (w : World) (h : Rd w S (rs.map fl)) (hn : n ≤ 9223372036854775807) (hrs : rs.length ≤ 1048576) (hd : rs.length ≤ d) :
    Calls Tryz.prog 8 #[.agg #[.int .i64 cells, .int .i64 rows, .float .f32 slice, .float .f32 least, .float .f32 sat, .slice A n c], .slice S rs.length d] w fun e w' => (∃ v us out, e = .returned (.tuple #[v, .bool (recvOk cells rows slice least sat n rs)]) ∧ OCC w' w.heap.size v us out ∧ out.map cnC = recv cells rows slice least sat n rs) ∧ Ext w w' := by
  have H := Lib.hid h
  clear h
  cases h1 : setOk cells rows slice least sat n
  · have HN := Lib.hid (recv_set (rs := rs) h1)
    go_enter Tryz.func8, Tryz.ntmps8
    go_wp2_with fail
    refine (iSetOk_any cells rows slice least sat A n c hn _).mono ?_
    rintro e w1 ⟨rfl, hb1⟩
    rw [h1]
    have hx1 : Ext w w1 := Ext.trans ((Ext.refl _).alloc _) hb1
    go_wp2_with fail
    go_ret2
    exact ⟨⟨_, [], [], by rw [HN.out]; rfl, Rows2.nil _ _ _ _ _, by rw [recv_nil HN.out]; rfl⟩, hx1⟩
  · have h1' := h1
    unfold setOk at h1'
    simp only [Bool.and_eq_true, decide_eq_true_eq] at h1'
    have hcl : 1 ≤ cells ∧ cells ≤ 64 := by omega
    have hrw : 4 ≤ rows ∧ rows ≤ 64 ∧ rows % 4 = 0 := by omega
    have H1 := Lib.hid h1
    clear h1'
    have q1 : IntKind.i64.wrap (4 * cells) = 4 * cells := by rw [IntKind.wrap_i64]; omega
    have q2 : IntKind.i64.wrap (24 + 4 * cells) = 24 + 4 * cells := by rw [IntKind.wrap_i64]; omega
    go_enter Tryz.func8, Tryz.ntmps8
    go_wp2_with fail
    refine (iSetOk_any cells rows slice least sat A n c hn _).mono ?_
    rintro e w1 ⟨rfl, hb1⟩
    rw [h1]
    clear h1
    have k1 : w1.heap[w.heap.size]? = some (.cells #[.int .i64 cells, .int .i64 rows, .float .f32 slice, .float .f32 least, .float .f32 sat, .slice A n c] 31 (0, 0)) := blk_ext (heap_alloc_new _ _) hb1
    have hx1 : Ext w w1 := Ext.trans ((Ext.refl _).alloc _) hb1
    have hws : w.heap.size < w1.heap.size := by have := hb1.size; simp at this; omega
    clear hb1
    have KS : Hid (∀ W, Ext w1 W → W.cell? ⟨w.heap.size, 0, none⟩ = some (.int .i64 cells) ∧ W.cell? ⟨w.heap.size, 1, none⟩ = some (.int .i64 rows) ∧ W.cell? ⟨w.heap.size, 2, none⟩ = some (.float .f32 slice) ∧ W.cell? ⟨w.heap.size, 3, none⟩ = some (.float .f32 least) ∧ W.cell? ⟨w.heap.size, 4, none⟩ = some (.float .f32 sat)) := Lib.hid (fun W hW => by
      have := blk_ext k1 hW
      obtain ⟨ac0, ac1, ac2, ac3, ac4, ac5, af⟩ := blk6 this
      exact ⟨ac0, ac1, ac2, ac3, ac4⟩)
    clear k1
    obtain ⟨a0, a1, a2, a3, a4⟩ := KS.out w1 (Ext.refl _)
    go_wp2_with fail
    refine (iStarts_any S d rs slice (24 + 4 * cells) 3 w1 (H.out.ext hx1) hrs).mono ?_
    rintro e w2 ⟨⟨v2, rfl, ho2⟩, hb2⟩
    unfold OI' at ho2
    have hsl : (starts (lows rs slice) rs.length (24 + 4 * cells) 3).length ≤ 1048576 := starts_max
    have HL0 : Hid (recvLines cells slice rs = cutLines rs (starts (lows rs slice) rs.length (24 + 4 * cells) 3) (24 + 4 * cells)) := Lib.hid rfl
    generalize starts (lows rs slice) rs.length (24 + 4 * cells) 3 = st at ho2 hsl HL0
    obtain ⟨A2, c2, rfl, hr2, -⟩ := own_slice ho2
    obtain ⟨b0, b1, b2, b3, b4⟩ := KS.out w2 hb2
    go_wp2_with fail
    refine (iCutLines_any S A2 d c2 rs st (24 + 4 * cells) w2 (H.out.ext (hx1.trans hb2)) hr2 hrs hsl hd).mono ?_
    rintro e w3 ⟨⟨v3, us3, rfl, hg3⟩, hb3⟩
    have hw2z := hb2.size
    have hle : ∀ l ∈ cutLines rs st (24 + 4 * cells), l.length ≤ rs.length := cutLines_le
    have hx3 : Ext w1 w3 := hb2.trans hb3
    rw [← HL0.out] at hg3 hle
    clear a0 a1 a2 a3 a4 b0 b1 b2 b3 b4 ho2 hr2
    obtain ⟨A3, c3, rfl, hou3⟩ := hg3.form
    have hul3 : us3.length = (recvLines cells slice rs).length := by simpa using hg3.len
    rw [hul3] at hg3 hou3
    obtain ⟨b0, b1, b2, b3, b4⟩ := KS.out w3 hx3
    by_cases hlen : ((recvLines cells slice rs).length : Int) = rows
    rotate_left
    · have HN := Lib.hid (recv_rows (least := least) (sat := sat) (log := n) hlen)
      generalize (recvLines cells slice rs).length = ll at *
      go_wp2_with fail
      go_ret2
      exact ⟨⟨_, [], [], by rw [HN.out]; rfl, Rows2.nil _ _ _ _ _, by rw [recv_nil HN.out]; rfl⟩, hx1.trans hx3⟩
    · have h0 : 0 < (recvLines cells slice rs).length := by omega
      obtain ⟨g, rfl, hg2, hg3w⟩ := own_at hou3 h0
      have HLEN := Lib.hid hlen
      have HLE := Lib.hid hle
      generalize hLL : recvLines cells slice rs = L at *
      have HLL := Lib.hid hLL
      clear hLL HL0
      generalize hnl : L.length = nl at *
      have HNL := Lib.hid hnl
      subst hlen
      have hnl1 : 4 ≤ nl ∧ nl ≤ 64 := by omega
      have hnl2 : nl % 4 = 0 := by omega
      clear hrw hle hnl
      go_wp2_with fail
      go_loopw [39] (fun i wr => ∃ (k : Nat) (us : List Value) (R : List (List Nat)), k ≤ nl ∧ i = .int .i64 k ∧ Hid (OG wr w2.heap.size (.slice (some ⟨g, 0, none⟩) nl c3) us R) ∧ Hid (LevUpto k L R) ∧ Hid (∀ r ∈ R, r.length ≤ 1048576) ∧ Ext w2 wr) (fun i _ => nl - (intOf i).toNat)
      case atStart => exact ⟨0, us3, L, by omega, rfl, Lib.hid hg3, Lib.hid (LevUpto.zero L), Lib.hid (fun r hr => Nat.le_trans (HLE.out r hr) hrs), hb3⟩
      case round =>
        rename World => wo
        obtain ⟨k, us, R, hk, rfl, ho, hlev, hsm, hbr⟩ := hrel
        clear hg3 hou3 b0 b1 b2 b3 b4
        by_cases hlt : k < nl
        · have hltL : k < L.length := by rw [HNL.out]; exact hlt
          obtain ⟨hkR, hRk⟩ := hlev.out.at hltL
          obtain ⟨b, off, B, dd, hA, hbw, hus, hcell, hrow, hnil, hcap⟩ := ho.out.rd.1.atF hkR
          injection hA with hA
          injection hA with e1 e2
          subst e1 e2
          rw [hRk] at hus hcell hrow hcap
          have hLk : L[k].length ≤ 1048576 := Nat.le_trans (HLE.out _ (List.getElem_mem hltL)) hrs
          have hT := iToLevel_any B dd L[k] wo hrow (by unfold maxLen; omega) hcap
          have HT := Lib.hid hT
          obtain ⟨n1, hn1⟩ : ∃ n, L[k].length = n := ⟨_, rfl⟩
          rw [hn1] at hcell HT hus hLk
          have HN1 := Lib.hid hn1
          rw [Nat.zero_add] at hcell
          clear hn1 hT hrow hnil hcap hRk
          cases hok : tlOk L[k]
          · have HN := Lib.hid (recv_tl (cells := cells) (rows := nl) (slice := slice) (least := least) (sat := sat) (log := n) (rs := rs) (by rw [HLL.out]; exact allTl_not hltL hok))
            rw [hok] at HT
            clear hok
            go_wp2_with (go_at_call 28; refine HT.out.mono ?_; rintro e w5 ⟨⟨v5, gs, rfl, ho5, hg5⟩, hb5⟩)
            go_ret2
            exact ⟨⟨_, [], [], by rw [HN.out]; rfl, Rows2.nil _ _ _ _ _, by rw [recv_nil HN.out]; rfl⟩, ((hx1.trans hb2).trans hbr).trans hb5⟩
          · rw [hok] at HT
            have HOK := Lib.hid hok
            have HLT := Lib.hid hltL
            clear hok
            have hown : Hid (wo.ownsRow w2.heap.size 26 1 (.slice (some ⟨g, 0, none⟩) nl c3) nl us) := Lib.hid (by
              have h1 := ho.out.own
              rw [List.length_map, hlev.out.len, HNL.out] at h1
              exact h1)
            go_wp2_with (go_at_call 28; refine HT.out.mono ?_; rintro e w5 ⟨⟨v5, gs, rfl, ho5, hg5⟩, hb5⟩; have hfp := own_frozen (own_ext hown.out hb5) k; have hc5 := own_cell (own_ext hown.out hb5) hus; have hnew := fun b hb => (ho5.lt b hb).1; unfold OF at ho5; obtain ⟨A5, c5, rfl, -, -⟩ := own_slice ho5)
            go_roundw
            case rel =>
              have hz := hbr.size
              have hz2 : w2.heap.size ≤ wo.heap.size := hbr.size
              have hgl : gs.length ≤ 1048576 := by have h1 := tl_len hg5; rw [HN1.out] at h1; omega
              refine ⟨k + 1, us.set k (.slice A5 gs.length c5), R.set k gs, by omega, by go_num, Lib.hid ?_, Lib.hid (hlev.out.step HLT.out HOK.out hg5), Lib.hid (set_small hsm.out hgl), ?_⟩
              · unfold OG
                rw [← rowsF_set]
                exact (ho.out.ext hb5).replace hus (own_base ho5 hz2) ho.out.inR hnew
              · exact Below.setCell (p := ⟨g, k, none⟩) (hbr.trans hb5) hg2 _
            case measure => simp [intOf]; omega
        · have hkn : nl = k := by omega
          have hlv : LevUpto L.length L R := by rw [HNL.out, hkn]; exact hlev.out
          have HTL := Lib.hid hlv.all
          have HLV := Lib.hid hlv.len
          clear hlv hlev hul3 hkn
          have hgw : g < wo.heap.size := (own_in ho.out.own g rfl).2
          have KT : Hid (∀ W, Ext wo W → W.cell? ⟨w.heap.size, 3, none⟩ = some (.float .f32 least) ∧ W.cell? ⟨w.heap.size, 4, none⟩ = some (.float .f32 sat)) := Lib.hid (fun W hW => by
            obtain ⟨a0, a1, a2, a3, a4⟩ := KS.out W ((hb2.trans hbr).trans hW)
            exact ⟨a3, a4⟩)
          clear KS
          go_wp2_with fail
          go_loopw [12, 13] (fun v i wr => ∃ (t : Nat) (us2 : List Value) (rss : List (List Cel)), t ≤ nl ∧ t % 2 = 0 ∧ i = .int .i64 t ∧ Hid (OCC wr wo.heap.size v us2 rss) ∧ Hid (rss.map cnC = takeAll least sat (L.take t) ∧ takeAllOk least sat (L.take t) = true) ∧ Ext wo wr) (fun _ i _ => nl - (intOf i).toNat)
          case atStart => exact ⟨0, [], [], by omega, rfl, rfl, Lib.hid (Rows2.nil _ _ _ _ _), Lib.hid ⟨by simp [takeAll, twos], by simp [takeAllOk, twos]⟩, Ext.refl _⟩
          case round =>
            rename World => wr
            obtain ⟨t, us2, rss, htl, hte, rfl, ho2, HM, hbr2⟩ := hrel
            obtain ⟨A12, c12, rfl, hou⟩ := ho2.out.form
            have hrl : rss.length = t := takeAll_many hte (by rw [HNL.out]; exact htl) HM.out.2 HM.out.1
            have hul2 : us2.length = t := by have := ho2.out.len; rw [List.length_map] at this; omega
            by_cases hlt2 : t < nl
            · have hlt3 : t + 1 < nl := by omega
              have hL0 : t < L.length := by rw [HNL.out]; exact hlt2
              have hL1 : t + 1 < L.length := by rw [HNL.out]; exact hlt3
              have hR0 : t < R.length := by rw [HLV.out]; exact hL0
              have hR1 : t + 1 < R.length := by rw [HLV.out]; exact hL1
              obtain ⟨b5, o5, B5, d5, hA, -, -, hc5, hr5, -, hcap5⟩ := ho.out.rd.1.atF hR0
              injection hA with hA
              injection hA with e1 e2
              subst e1 e2
              obtain ⟨b6, o6, B6, d6, hA, -, -, hc6, hr6, -, hcap6⟩ := ho.out.rd.1.atF hR1
              injection hA with hA
              injection hA with e1 e2
              subst e1 e2
              have e0 := HTL.out.2 t hL0 hR0
              have e1 := HTL.out.2 (t + 1) hL1 hR1
              have hs0 := hsm.out _ (List.getElem_mem hR0)
              have hs1 := hsm.out _ (List.getElem_mem hR1)
              have ht := take_of e0 e1 least (cn .f32 sat)
              have hT := fun W (hW : Ext wo W) => iTakePair_any B5 B6 d5 d6 R[t] R[t + 1] least sat W (hr5.ext hW) (hr6.ext hW) hs0 hs1 hcap5 hcap6
              rw [ht.1, ht.2] at hT
              have HT := Lib.hid hT
              clear hT ht e0 e1 hr5 hr6 hcap5 hcap6
              generalize R[t].length = p5 at *
              generalize R[t + 1].length = p6 at *
              have HS := Lib.hid (fun x k => takeAll_snoc' (x := x) (k := k) hte hL0 hL1)
              have HS1 := Lib.hid (fun x k => takeAllOk_snoc' (x := x) (k := k) hte hL0 hL1)
              have HS2 := Lib.hid (fun x k => takeAllOk_not' (x := x) (k := k) hte hL0 hL1)
              generalize tl L[t] = ta at *
              generalize tl L[t + 1] = tb at *
              clear hL0 hL1 hR0 hR1
              rw [Nat.zero_add] at hc5
              rw [Nat.zero_add] at hc6
              have KT2 : Hid (∀ W, Ext wo W → W.cell? ⟨g, t, none⟩ = some (.slice B5 p5 d5) ∧ W.cell? ⟨g, t + 1, none⟩ = some (.slice B6 p6 d6) ∧ W.cell? ⟨w.heap.size, 3, none⟩ = some (.float .f32 least) ∧ W.cell? ⟨w.heap.size, 4, none⟩ = some (.float .f32 sat)) := Lib.hid (fun W hh => ⟨by rw [Below.cell hh (p := ⟨g, t, none⟩) hgw]; exact hc5, by rw [Below.cell hh (p := ⟨g, t + 1, none⟩) hgw]; exact hc6, KT.out W hh⟩)
              clear hc5 hc6
              have i0 : IntKind.i64.wrap ((t : Int) + 1) = (t : Int) + 1 := by rw [IntKind.wrap_i64]; omega
              have i1 : (0 : Int) ≤ (t : Int) + 1 := by omega
              have i2 : (t : Int) + 1 < (nl : Int) := by omega
              have i3 : ((t : Int) + 1).toNat = t + 1 := by omega
              have i4 : (t : Int) < (nl : Int) := by omega
              have HUL := Lib.hid hul2
              have hub : us2.length ≤ 64 := by omega
              clear hul2 hrl
              obtain ⟨k1, k2, k3, k4⟩ := KT2.out _ hbr2
              cases hok : takeOk ta tb least (cn .f32 sat)
              · have HN := Lib.hid (recv_take (cells := cells) (rows := nl) (slice := slice) (least := least) (sat := sat) (log := n) (rs := rs) (by rw [HLL.out]; exact HS2.out _ _ hok))
                rw [hok] at HT
                clear hok
                go_wp2_with fail
                go_region_held3 (fun W => W.cell? ⟨g, t, none⟩ = some (.slice B5 p5 d5) ∧ W.cell? ⟨g, t + 1, none⟩ = some (.slice B6 p6 d6) ∧ W.cell? ⟨w.heap.size, 3, none⟩ = some (.float .f32 least) ∧ W.cell? ⟨w.heap.size, 4, none⟩ = some (.float .f32 sat))
                  (exact KT2.out _ (by (repeat (first | exact Below.refl _ _ | assumption | refine below_drewN ?_ _ | refine Below.drew ?_ | refine Below.alloc ?_ (by first | exact Nat.le_refl _ | (simp; done) | (simp; omega)) _ | refine Below.setCell ?_ (by first | exact Nat.le_refl _ | (simp; done) | (simp; omega)) _))))
                  (first
                    | (go_at_call 29; refine (HT.out _ (by (repeat (first | exact Below.refl _ _ | assumption | refine below_drewN ?_ _ | refine Below.drew ?_ | refine Below.alloc ?_ (by first | exact Nat.le_refl _ | (simp; done) | (simp; omega)) _ | refine Below.setCell ?_ (by first | exact Nat.le_refl _ | (simp; done) | (simp; omega)) _)))).mono ?_; rintro e w6 ⟨⟨v6, us6, rss6, rfl, o6, hg6⟩, hb6⟩; replace hb6 := Ext.trans (a := wr) (by (repeat (first | exact Below.refl _ _ | assumption | refine below_drewN ?_ _ | refine Below.drew ?_ | refine Below.alloc ?_ (by first | exact Nat.le_refl _ | (simp; done) | (simp; omega)) _ | refine Below.setCell ?_ (by first | exact Nat.le_refl _ | (simp; done) | (simp; omega)) _))) hb6; have hb7 := Ext.trans hbr2 hb6))
                go_wp2_with fail
                go_ret2
                exact ⟨⟨_, [], [], by rw [HN.out]; rfl, Rows2.nil _ _ _ _ _, by rw [recv_nil HN.out]; rfl⟩, ((hx1.trans hb2).trans hbr).trans hb7⟩
              · rw [hok] at HT
                have HOK := Lib.hid hok
                clear hok
                go_wp2_with fail
                go_region_held3 (fun W => W.cell? ⟨g, t, none⟩ = some (.slice B5 p5 d5) ∧ W.cell? ⟨g, t + 1, none⟩ = some (.slice B6 p6 d6) ∧ W.cell? ⟨w.heap.size, 3, none⟩ = some (.float .f32 least) ∧ W.cell? ⟨w.heap.size, 4, none⟩ = some (.float .f32 sat))
                  (exact KT2.out _ (by (repeat (first | exact Below.refl _ _ | assumption | refine below_drewN ?_ _ | refine Below.drew ?_ | refine Below.alloc ?_ (by first | exact Nat.le_refl _ | (simp; done) | (simp; omega)) _ | refine Below.setCell ?_ (by first | exact Nat.le_refl _ | (simp; done) | (simp; omega)) _))))
                  (first
                    | (go_at_call 29; refine (HT.out _ (by (repeat (first | exact Below.refl _ _ | assumption | refine below_drewN ?_ _ | refine Below.drew ?_ | refine Below.alloc ?_ (by first | exact Nat.le_refl _ | (simp; done) | (simp; omega)) _ | refine Below.setCell ?_ (by first | exact Nat.le_refl _ | (simp; done) | (simp; omega)) _)))).mono ?_; rintro e w6 ⟨⟨v6, us6, rss6, rfl, o6, hg6⟩, hb6⟩; obtain ⟨A6, c6, rfl, ho6⟩ := o6.form; replace hb6 := Ext.trans (a := wr) (by (repeat (first | exact Below.refl _ _ | assumption | refine below_drewN ?_ _ | refine Below.drew ?_ | refine Below.alloc ?_ (by first | exact Nat.le_refl _ | (simp; done) | (simp; omega)) _ | refine Below.setCell ?_ (by first | exact Nat.le_refl _ | (simp; done) | (simp; omega)) _))) hb6; have hb7 := Ext.trans hbr2 hb6))
                have hu6 : us6.length = 2 := by
                  have h1 := congrArg List.length hg6
                  rw [List.length_map, take_two HOK.out] at h1
                  have h2 := o6.len
                  rw [List.length_map] at h2; omega
                have HU6 := Lib.hid hu6
                have hub6 : us6.length ≤ 2 := by omega
                have hn6 : A6 = none → us6.length = 0 := by
                  obtain ⟨A', c', e, -, h⟩ := own_slice ho6
                  cases e; exact h
                have hoc : ∀ u ∈ us6, u.oneCell' = true := by
                  intro u hu
                  obtain ⟨r, -, ho⟩ := o6.mem hu
                  obtain ⟨B, e, rfl, -, -⟩ := own_slice ho
                  rfl
                have hzr : wo.heap.size ≤ w6.heap.size := hb7.size
                clear hu6
                go_wp2_with (at_builtin; refine wpList_app rfl _ _ 28 rfl wo.heap.size 54 _ 1 24 Tryz.underlying28 info_sc rfl (by omega) (.slice A12 us2.length c12) us2.length us2 rfl (own_ext hou hb6) A6 us6.length c6 us6 rfl (own_rd ho6) (by rw [Nat.mul_one]) hn6 hoc (by unfold maxLen; omega) (by omega) hzr ?_; intro v7 w7 hown hg hat)
                go_roundw
                case rel =>
                  refine ⟨t + 2, us2 ++ us6, rss ++ rss6, by omega, by omega, by go_num, Lib.hid ?_, Lib.hid ⟨by rw [List.map_append, HM.out.1, hg6, HS.out], HS1.out _ _ HM.out.2 HOK.out⟩, ext_grow (base := wo.heap.size) hb7 (own_ext hou hb6) (Nat.le_refl _) hg⟩
                  have e9 : rowsC (rss ++ rss6) = rowsC rss ++ rowsC rss6 := List.map_append
                  unfold OCC
                  rw [e9]
                  exact Rows2.join (ho2.out.ext hb6) o6 hown hg hat (Nat.le_refl _) ho2.out.inR (Nat.le_refl _) hbr2.size
                case measure => simp [intOf]; omega
            · have htn : nl = t := by omega
              have HRV := Lib.hid (recv_all (cells := cells) (rows := nl) (slice := slice) (least := least) (sat := sat) (log := n) (rs := rs) H1.out (by rw [HLL.out, HNL.out]) (by rw [HLL.out]; exact HTL.out.1) (by
                rw [HLL.out]
                have h9 := HM.out.2
                rw [List.take_of_length_le (by rw [HNL.out]; omega)] at h9
                exact h9))
              have HM2 : Hid (rss.map cnC = takeAll least sat (recvLines cells slice rs)) := Lib.hid (by
                rw [HLL.out]
                have h9 := HM.out.1
                rw [List.take_of_length_le (by rw [HNL.out]; omega)] at h9
                exact h9)
              obtain ⟨g4, rfl, hg4, hg4w⟩ := own_at hou (by omega)
              obtain ⟨pp, hpp⟩ : ∃ pp, us2.length = 2 * pp := ⟨t / 2, by omega⟩
              have hc12 : us2.length ≤ c12 := own_cap hou
              have hrl2 : rss.length = 2 * pp := by omega
              have hpp2 : 2 ≤ pp ∧ pp ≤ 32 := by omega
              have hnpp : (nl : Int).toNat / 2 = pp := by omega
              have HW0 := fun W (hW : Ext wr W) => iWeave_any (some ⟨g4, 0 + 0, none⟩) (some ⟨g4, 0 + pp, none⟩) c12 (c12 - pp) _ _ (rss.take pp) (rss.drop pp) W (by
                  have h1 := ho2.out.rd.1.cut 0 pp
                  rw [List.drop_zero, List.drop_zero, ← List.map_take] at h1
                  exact h1.ext hW) (by
                  have h1 := ho2.out.rd.1.cut pp (2 * pp)
                  rw [← List.map_drop, List.take_of_length_le (by simp; omega), List.take_of_length_le (by simp; omega)] at h1
                  exact h1.ext hW) (by rw [List.length_take]; omega) (by rw [List.length_drop]; omega) (fun r hr => by
                  have h1 := rss_each HM2.out takeAll_each r (List.mem_of_mem_take hr)
                  omega) (fun r hr => by
                  have h1 := rss_each HM2.out takeAll_each r (List.mem_of_mem_drop hr)
                  omega)
              have el1 : (rss.take pp).length = pp := by rw [List.length_take]; omega
              have el2 : (rss.drop pp).length = pp := by rw [List.length_drop]; omega
              rw [el1, el2, Nat.add_zero, Nat.zero_add] at HW0
              have HW := Lib.hid HW0
              have hcp : pp ≤ c12 := by omega
              have hcp1 : ¬ c12 = pp := by omega
              clear HW0 el1 el2 ho2 HM hrl hul2 hrl2
              have hq : us2.length - pp = pp := by omega
              have j1 : (pp : Int) ≤ (c12 : Int) := by omega
              have j2 : (pp : Int) ≤ (us2.length : Int) := by omega
              have j3 : (0 : Int) ≤ (pp : Int) := by omega
              have j4 : (us2.length : Int) ≤ (c12 : Int) := by omega
              have j5 : pp ≤ us2.length := by omega
              go_wp2_with fail
              have HEQ : Hid (recvOk cells nl slice least sat n rs = weaveOk (rss.take pp) (rss.drop pp) ∧ (weaveR (rss.take pp) (rss.drop pp)).map cnC = recv cells nl slice least sat n rs) := Lib.hid (by
                rw [HRV.out.1, HRV.out.2, hnpp, ← HM2.out, ← List.map_take, ← List.map_drop, weaveOk_cn, weaveR_cn]
                exact ⟨rfl, rfl⟩)
              clear hpp hnpp htn
              go_region_held3 (fun W => Ext wr W)
                (first | assumption | ((repeat (first | exact Below.refl _ _ | assumption | refine below_drewN ?_ _ | refine Below.drew ?_ | refine Below.alloc ?_ (by first | exact Nat.le_refl _ | (simp; done) | (simp; omega)) _ | refine Below.setCell ?_ (by first | exact Nat.le_refl _ | (simp; done) | (simp; omega)) _)); done))
                (first
                  | (go_at_call 30; refine (HW.out _ (by (repeat (first | exact Below.refl _ _ | assumption | refine below_drewN ?_ _ | refine Below.drew ?_ | refine Below.alloc ?_ (by first | exact Nat.le_refl _ | (simp; done) | (simp; omega)) _ | refine Below.setCell ?_ (by first | exact Nat.le_refl _ | (simp; done) | (simp; omega)) _)))).mono ?_; rintro e w6 ⟨⟨v6, us6, rfl, o6⟩, hb6⟩; replace hb6 := Ext.trans (a := wr) (by (repeat (first | exact Below.refl _ _ | assumption | refine below_drewN ?_ _ | refine Below.drew ?_ | refine Below.alloc ?_ (by first | exact Nat.le_refl _ | (simp; done) | (simp; omega)) _ | refine Below.setCell ?_ (by first | exact Nat.le_refl _ | (simp; done) | (simp; omega)) _))) hb6))
              go_wp2_with fail
              go_ret2
              have hX : Ext w wr := ((hx1.trans hb2).trans hbr).trans hbr2
              exact ⟨⟨_, us6, _, by rw [HEQ.out.1]; rfl, o6.weak (by have := hX.size; exact this), HEQ.out.2⟩, hX.trans hb6⟩
end Go.Proofs.YtiddaabodkglmaaGreat
end

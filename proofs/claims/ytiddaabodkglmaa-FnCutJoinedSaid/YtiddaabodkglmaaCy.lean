import Derived.Test.YtiddaabodkglmaaK2
import Derived.Test.YtiddaabodkglmaaK1
namespace Go.Proofs.Ytiddaabodkglmaa
open Go.RowKit Go.Fx
set_option linter.unusedVariables false
set_option linter.unusedSimpArgs false
/-! rows of rows of singles -/
set_option maxRecDepth 100000 in
set_option maxHeartbeats 4000000 in
theorem eqG_any (A B : Option Addr) (c d : Nat) (us vs : List Value) (rss sss : List (List Nat)) (w : World) (h : RdRows w A us (rowsF rss)) (h' : RdRows w B vs (rowsF sss)) (hn : rss.length ≤ maxLen) (hm : ∀ r ∈ rss, r.length ≤ maxLen) (he : rss.map cns = sss.map cns) :
    Calls Try.prog 71 #[.slice A rss.length c, .slice B sss.length d] w fun e w' => e = .returned (.bool true) ∧ Ext w w' := by
  have hl : rss.length = sss.length := by simpa using congrArg List.length he
  have HE := Lib.hid he
  unfold maxLen at hn
  rw [← hl]
  have HL := Lib.hid hl
  clear he hl
  go_enter Try.func71, Try.ntmps71
  go_wp2
  go_loopw [5] (fun i wr => ∃ (k : Nat), k ≤ rss.length ∧ i = .int .i64 k ∧ Ext w wr) (fun i _ => rss.length - (intOf i).toNat)
  case atStart => exact ⟨0, Nat.zero_le _, rfl, Ext.refl _⟩
  case round =>
    obtain ⟨k, hk, rfl, hx⟩ := hrel
    by_cases hlt : k < rss.length
    · obtain ⟨b, off, B1, c1, rfl, hbw, -, hc, hr1, -, -⟩ := (h.ext hx).atF hlt
      obtain ⟨b', off', B2, c2, rfl, hbw', -, hc', hr2, -, -⟩ := (h'.ext hx).atF (i := k) (by rw [← HL.out]; exact hlt)
      have hlt' : k < sss.length := by rw [← HL.out]; exact hlt
      have HK : Hid (cns rss[k] = cns sss[k]) := Lib.hid (by
        have := congrArg (fun l => l[k]?) HE.out
        simpa [hlt, hlt'] using this)
      have HM := Lib.hid (hm _ (List.getElem_mem hlt))
      have HR1 := Lib.hid hr1
      have HR2 := Lib.hid hr2
      clear hr1 hr2
      go_wp2_with fail
      go_region_with (go_at_call 38; refine (eqF_any B1 B2 c1 c2 _ _ _ (by first | exact HR1.out | exact Rd.drewN HR1.out _ | exact Rd.drewN (Rd.drewN HR1.out _) _) (by first | exact HR2.out | exact Rd.drewN HR2.out _ | exact Rd.drewN (Rd.drewN HR2.out _) _) HM.out HK.out).mono ?_; rintro e w1 ⟨rfl, n1, rfl⟩)
      all_goals go_wp2
      all_goals go_roundw
      all_goals first | (simp [intOf]; done) | (simp [intOf]; omega) | skip
      all_goals exact ⟨k + 1, by omega, by go_num, hx.trans (Ext.drewN _ _)⟩
    · go_wp2
      go_ret
      exact ⟨rfl, hx⟩
set_option maxRecDepth 100000 in
set_option maxHeartbeats 4000000 in
theorem markG_core (A : Option Addr) (c : Nat) (us : List Value) (rows : List (Nat × List Value)) (k0 : Int) (base lo hi : Nat) (w : World) (hn : rows.length ≤ 1048576) (hk0 : 0 ≤ k0) (hk1 : k0 + sumLen (rows.map (·.1)) ≤ 1099511627776)
    (h : Rows2 w base 22 29 1 (.slice A rows.length c) us rows) (hir : InR (.slice A rows.length c) us lo hi) :
    Calls Try.prog 74 #[.slice A rows.length c, .int .i64 k0] w fun e w' => e = .returned (.int .i64 (k0 + sumLen (rows.map (·.1)))) ∧ Rows2 w' base 22 29 1 (.slice A rows.length c) us (markRows marksF 1 k0 (rows.map (·.1))) ∧ Turn lo hi w w' := by
  have HK1 := Lib.hid hk1
  have HI := Lib.hid hir
  clear hk1 hir
  go_enter Try.func74, Try.ntmps74
  go_wp2
  go_loopw [1, 5] (fun q i wr => ∃ (k : Nat) (ys : List (Nat × List Value)), k ≤ rows.length ∧ i = .int .i64 k ∧ q = .int .i64 (k0 + sumLen ((rows.map (·.1)).take k)) ∧ Hid (MarkUpto k ys (markRows marksF 1 k0 (rows.map (·.1))) rows) ∧ Hid (Rows2 wr base 22 29 1 (.slice A rows.length c) us ys) ∧ Turn lo hi w wr) (fun _ i _ => rows.length - (intOf i).toNat)
  case atStart => exact ⟨0, rows, Nat.zero_le _, rfl, by simp [sumLen], Lib.hid (MarkUpto.zero (by rw [markRows_len, List.length_map])), Lib.hid h, Turn.refl _ _ _⟩
  case round =>
    obtain ⟨k, ys, hk, rfl, rfl, hu, ho, ht⟩ := hrel
    clear h
    by_cases hlt : k < rows.length
    · obtain ⟨g, B, d, rfl, hc, hx, hown⟩ := ho.out.atU hu.out hlt
      have HX := Lib.hid hx
      have HO := Lib.hid hown
      have hns : k < (rows.map (·.1)).length := by simpa using hlt
      have hst := sumLen_take hns
      have hsle := sumLen_le (ns := rows.map (·.1)) (k + 1)
      have hk1 := HK1.out
      rw [List.getElem_map] at hst
      have hmk := markRows_at marksF 1 k0 hns
      rw [List.getElem_map, Nat.one_mul] at hmk
      have HM := Lib.hid hmk
      clear hx hown hmk
      generalize rows[k] = r at *
      obtain ⟨n, xs⟩ := r
      simp only [] at hc hst
      go_wp2_with (go_at_call 48; refine (markF_any B d n _ (by omega) (by omega) (by omega) xs base _ HO.out).mono ?_; rintro e w1 ⟨rfl, hom, hg⟩)
      go_roundw
      case rel => exact ⟨k + 1, _, by omega, by go_num, by rw [hst]; go_num, Lib.hid (hu.out.step HM.out), Lib.hid (ho.out.setRow HX.out hom hg), ht.trans (turn_grown hg (HI.out.2 _ (List.mem_of_getElem? HX.out)))⟩
      case measure => simp [intOf]; omega
    · go_wp2
      go_ret
      obtain rfl : k = rows.length := by omega
      have e := hu.out.all (Nat.le_refl _)
      subst e
      have e2 : (rows.map (·.1)).take rows.length = rows.map (·.1) := List.take_of_length_le (by simp)
      exact ⟨by rw [e2]; rfl, ho.out, ht⟩
set_option maxRecDepth 100000 in
set_option maxHeartbeats 4000000 in
theorem heldG_core (A : Option Addr) (c : Nat) (us : List Value) (ns : List Nat) (k0 : Int) (w : World) (hn : ns.length ≤ 1048576) (hk0 : 0 ≤ k0) (hk1 : k0 + sumLen ns ≤ 1099511627776) (h : RdRows w A us (markRows marksF 1 k0 ns)) :
    Calls Try.prog 75 #[.slice A ns.length c, .int .i64 k0] w fun e w' => e = .returned (.int .i64 (k0 + sumLen ns)) ∧ Ext w w' := by
  have HH := Lib.hid h
  have HK1 := Lib.hid hk1
  clear h hk1
  go_enter Try.func75, Try.ntmps75
  go_wp2
  go_loopw [1, 5] (fun q i wr => ∃ (k : Nat), k ≤ ns.length ∧ i = .int .i64 k ∧ q = .int .i64 (k0 + sumLen (ns.take k)) ∧ Ext w wr) (fun _ i _ => ns.length - (intOf i).toNat)
  case atStart => exact ⟨0, Nat.zero_le _, rfl, by simp [sumLen], Ext.refl _⟩
  case round =>
    obtain ⟨k, hk, rfl, rfl, hx⟩ := hrel
    by_cases hlt : k < ns.length
    · obtain ⟨b, off, B, d, rfl, hbw, hc, hr⟩ := (HH.out.ext hx).atM hlt
      rw [Nat.one_mul] at hr
      have HR := Lib.hid hr
      have hst := sumLen_take hlt
      have hsle := sumLen_le (ns := ns) (k + 1)
      have hk1 := HK1.out
      clear hr
      generalize ns[k] = n at *
      go_wp2_with (go_at_call 49; refine (heldF_any B d n _ (by omega) (by omega) (by omega) _ HR.out).mono ?_; rintro e w1 ⟨rfl, hw⟩; have hb : Ext wr w1 := by rw [← hw]; exact Ext.refl _)
      go_roundw
      case rel => exact ⟨k + 1, by omega, by go_num, by rw [hst]; go_num, hx.trans hb⟩
      case measure => simp [intOf]; omega
    · go_wp2
      go_ret
      obtain rfl : k = ns.length := by omega
      have e2 : ns.take ns.length = ns := List.take_length
      exact ⟨by rw [e2]; rfl, hx⟩
theorem markG_any (A : Option Addr) (c n : Nat) (us : List Value) (rows : List (Nat × List Value)) (ns : List Nat) (k0 : Int) (base lo hi : Nat) (w : World) (hnr : rows.length = n) (hns : rows.map (·.1) = ns) (hn : n ≤ 1048576) (hk0 : 0 ≤ k0) (hk1 : k0 + sumLen ns ≤ 1099511627776)
    (h : Rows2 w base 22 29 1 (.slice A n c) us rows) (hir : InR (.slice A n c) us lo hi) :
    Calls Try.prog 74 #[.slice A n c, .int .i64 k0] w fun e w' => e = .returned (.int .i64 (k0 + sumLen ns)) ∧ Rows2 w' base 22 29 1 (.slice A n c) us (markRows marksF 1 k0 ns) ∧ Turn lo hi w w' := by
  subst hnr; subst hns
  exact markG_core A c us rows k0 base lo hi w hn hk0 hk1 h hir
theorem heldG_any (A : Option Addr) (c n : Nat) (us : List Value) (ns : List Nat) (k0 : Int) (w : World) (hnn : ns.length = n) (hn : n ≤ 1048576) (hk0 : 0 ≤ k0) (hk1 : k0 + sumLen ns ≤ 1099511627776) (h : RdRows w A us (markRows marksF 1 k0 ns)) :
    Calls Try.prog 75 #[.slice A n c, .int .i64 k0] w fun e w' => e = .returned (.int .i64 (k0 + sumLen ns)) ∧ Ext w w' := by
  subst hnn
  exact heldG_core A c us ns k0 w hn hk0 hk1 h
end Go.Proofs.Ytiddaabodkglmaa

import Derived.Test.YtiddaabodkglmaaDd
import Derived.Test.YtiddaabodkglmaaCl
namespace Go.Fx
theorem rest_drop (rs : List Nat) : rs.drop 24 = cutF rs 24 (rs.length - 24) := by
  unfold cutF
  rw [List.take_of_length_le (by simp)]
theorem alone_is (odd : Bool) {rs : List Nat} (h : lineOk rs = true) : aloneOk odd rs = decodeOk odd (cutF rs 24 (rs.length - 24)) ∧ alone odd rs = decodeR odd (cutF rs 24 (rs.length - 24)) := by
  rw [← rest_drop]
  exact ⟨by unfold aloneOk; rw [h, Bool.true_and], by rw [alone_of, if_pos h]⟩
theorem alone_not (odd : Bool) {rs : List Nat} (h : lineOk rs = false) : aloneOk odd rs = false ∧ alone odd rs = [] :=
  ⟨by unfold aloneOk; rw [h, Bool.false_and], by rw [alone_of, h]; rfl⟩
end Go.Fx
namespace Go.Proofs.Ytiddaabodkglmaa
open Go.RowKit Go.Fx
set_option linter.unusedVariables false
set_option linter.unusedSimpArgs false
set_option maxRecDepth 100000 in
theorem iCellsOf_any (A : Option Addr) (c : Nat) (rs : List Nat) (w : World) (h : Rd w A (rs.map fl)) (hn : rs.length ≤ maxLen) (hc : rs.length ≤ c) (hl : lineOk rs = true) :
    Calls Try.prog 109 #[.slice A rs.length c] w fun e w' => (∃ v, e = .returned v ∧ OF w' w.heap.size v (cutF rs 24 (rs.length - 24))) ∧ Ext w w' := by
  have hll := lineOk_len hl
  have hp := iPart_any A c rs 24 (rs.length - 24) w h hn hc (by omega) (fun e => by omega)
  rw [show 24 + (rs.length - 24) = rs.length by omega, if_pos hl] at hp
  go_enter Try.func109, Try.ntmps109
  go_wp2_with (go_at_call 190; refine hp.mono ?_; rintro e w1 ⟨⟨v, rfl, ho⟩, hb⟩)
  go_ret
  exact ⟨⟨_, rfl, ho⟩, hb⟩
set_option maxRecDepth 100000 in
theorem sCellsOf_any (A : Option Addr) (c : Nat) (rs : List Nat) (w : World) (h : Rd w A (rs.map fl)) (hn : rs.length ≤ maxLen) (hc : rs.length ≤ c) (hl : lineOk rs = true) :
    Calls Try.prog 185 #[.slice A rs.length c] w fun e w' => (∃ v, e = .returned v ∧ OF w' w.heap.size v (cutF rs 24 (rs.length - 24))) ∧ Ext w w' := by
  have hll := lineOk_len hl
  have hp := sPart_any A c rs 24 (rs.length - 24) w h hn hc (by omega) (fun e => by omega)
  rw [show 24 + (rs.length - 24) = rs.length by omega, if_pos hl] at hp
  go_enter Try.func185, Try.ntmps185
  go_wp2_with (first | (go_at_call 191; refine (head_any _).mono ?_; rintro e w1 ⟨rfl, rfl⟩) | (go_at_call 220; refine hp.mono ?_; rintro e w1 ⟨⟨v, rfl, ho⟩, hb⟩))
  go_ret
  exact ⟨⟨_, rfl, ho⟩, hb⟩
set_option maxRecDepth 100000 in
theorem iDecodeAlone_any (A : Option Addr) (c : Nat) (rs : List Nat) (odd : Bool) (w : World) (h : Rd w A (rs.map fl)) (hn : rs.length ≤ 1048576) (hc : rs.length ≤ c) :
    Calls Try.prog 101 #[.slice A rs.length c, .bool odd] w fun e w' => (∃ v gs, e = .returned (.tuple #[v, .bool (aloneOk odd rs)]) ∧ OC w' w.heap.size v gs ∧ cnC gs = alone odd rs) ∧ Ext w w' := by
  have H := Lib.hid h
  have hm : rs.length ≤ maxLen := by unfold maxLen; omega
  clear h
  cases hl : lineOk rs
  · have HN := Lib.hid (alone_not odd hl)
    go_enter Try.func101, Try.ntmps101
    go_wp2_with (go_at_call 161; refine (iLineOk_any _ _ _ _ H.out hm).mono ?_; rintro e w1 ⟨rfl, rfl⟩; rw [hl])
    go_ret2
    exact ⟨⟨_, [], by rw [HN.out.1]; rfl, World.ownsRow_nil _ _ _ _, by rw [HN.out.2]; rfl⟩, Ext.refl _⟩
  · have HN := Lib.hid (alone_is odd hl)
    have hcl := iCellsOf_any A c rs w H.out hm hc hl
    have hlen : (cutF rs 24 (rs.length - 24)).length ≤ 1048576 := by simp; omega
    generalize cutF rs 24 (rs.length - 24) = ts at hcl hlen HN
    go_enter Try.func101, Try.ntmps101
    go_wp2_with (first | (go_at_call 161; refine (iLineOk_any _ _ _ _ H.out hm).mono ?_; rintro e w1 ⟨rfl, rfl⟩; rw [hl]) | (go_at_call 109; refine Calls.mono hcl ?_; rintro e w1 ⟨⟨v, rfl, ho⟩, hb1⟩; obtain ⟨A1, c1, rfl, -, -⟩ := own_slice ho) | (go_at_call 186; refine (iDecodeCells_any A1 c1 ts odd _ (own_rd ho) hlen (own_cap ho)).mono ?_; rintro e w2 ⟨⟨v2, gs, rfl, ho2, hg2⟩, hb2⟩))
    go_ret2
    exact ⟨⟨v2, gs, by rw [HN.out.1]; rfl, own_base ho2 hb1.size, by rw [HN.out.2]; exact hg2⟩, hb1.trans hb2⟩
set_option maxRecDepth 100000 in
theorem sDecodeAlone_any (A : Option Addr) (c : Nat) (rs : List Nat) (odd : Bool) (w : World) (h : Rd w A (rs.map fl)) (hn : rs.length ≤ 1048576) (hc : rs.length ≤ c) :
    Calls Try.prog 100 #[.slice A rs.length c, .bool odd] w fun e w' => (∃ v gs, e = .returned (.tuple #[v, .bool (aloneOk odd rs)]) ∧ OC w' w.heap.size v gs ∧ cnC gs = alone odd rs) ∧ Ext w w' := by
  have H := Lib.hid h
  have hm : rs.length ≤ maxLen := by unfold maxLen; omega
  clear h
  cases hl : lineOk rs
  · have HN := Lib.hid (alone_not odd hl)
    go_enter Try.func100, Try.ntmps100
    go_wp2_with (go_at_call 110; refine (sLineOk_any _ _ _ _ H.out hm).mono ?_; rintro e w1 ⟨rfl, rfl⟩; rw [hl])
    go_ret2
    exact ⟨⟨_, [], by rw [HN.out.1]; rfl, own_new w _ _ 2 (Nat.le_refl _), by rw [HN.out.2]; rfl⟩, (Ext.refl _).alloc _⟩
  · have HN := Lib.hid (alone_is odd hl)
    have hcl := sCellsOf_any A c rs w H.out hm hc hl
    have hlen : (cutF rs 24 (rs.length - 24)).length ≤ 1048576 := by simp; omega
    generalize cutF rs 24 (rs.length - 24) = ts at hcl hlen HN
    go_enter Try.func100, Try.ntmps100
    go_wp2_with (first | (go_at_call 110; refine (sLineOk_any _ _ _ _ H.out hm).mono ?_; rintro e w1 ⟨rfl, rfl⟩; rw [hl]) | (go_at_call 185; refine Calls.mono hcl ?_; rintro e w1 ⟨⟨v, rfl, ho⟩, hb1⟩; obtain ⟨A1, c1, rfl, -, -⟩ := own_slice ho) | (go_at_call 184; refine (sDecodeCells_any A1 c1 ts odd _ (own_rd ho) hlen (own_cap ho)).mono ?_; rintro e w2 ⟨⟨v2, gs, rfl, ho2, hg2⟩, hb2⟩))
    go_ret2
    exact ⟨⟨v2, gs, by rw [HN.out.1]; rfl, own_base ho2 hb1.size, by rw [HN.out.2]; exact hg2⟩, hb1.trans hb2⟩
end Go.Proofs.Ytiddaabodkglmaa

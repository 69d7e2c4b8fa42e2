import Derived.Test.YtfmghfghhipmhaaDoorEb
import Derived.Test.YtfmghfghhipmhaaDoorTr
import Derived.Test.YtfmghfghhipmhaaDoorTc
namespace Go.Fx
open Go.RowKit
/-- a row that lies above the cursor stays while it draws -/
theorem own_up {w w' : World} {base b : Nat} {E : TypeId} {size n : Nat} {v : Value} {xs : List Value} (h : w.ownsRow base E size v n xs) (t : Turn b (b + 1) w w') (hb : b < base) : w'.ownsRow base E size v n xs :=
  own_turn h t (own_in h) (.inr hb)
end Go.Fx
namespace Go.Proofs.YtfmghfghhipmhaaDoor
open Go.RowKit Go.Fx Go.Sort
set_option linter.unusedVariables false
set_option linter.unusedSimpArgs false
theorem CuT.below {bk : Nat} {w w3 w4 : World} (hcc : CuT bk w w3) (hb1 : Below w.heap.size w3 w4) (hz : bk < w.heap.size) : CuT bk w w4 := by
  have ht := hcc.2
  have ht2 : Turn bk (bk + 1) w w4 := ⟨hb1.os.trans ht.os, hb1.tape.trans ht.tape, hb1.output.trans ht.output, Nat.le_trans ht.size hb1.size, fun k hk ho => (hb1.block k hk).trans (ht.block k hk ho)⟩
  obtain ⟨A, c, bs, i, hh, H⟩ := hcc.1
  refine ⟨⟨A, c, bs, i, hh, ?_, ?_, H.lt, H.len, H.byte, H.hi⟩, ht2⟩
  · rw [hb1.block bk hz]; exact H.blk
  · rcases H.rd with h0 | ⟨b2, off, hA, hb, hcl⟩
    · exact .inl h0
    · by_cases hne : bs.map by8 = []
      · exact .inl hne
      · have hlt := H.lt _ hA hne
        refine .inr ⟨b2, off, hA, Nat.lt_of_lt_of_le hb hb1.size, fun j x hx => ?_⟩
        rw [World.cell?_of_block (w := w3) (a := ⟨b2, off + j, none⟩) (hb1.block b2 (by simp at hlt; omega))]
        exact hcl j x hx
/-- a step of the call's own: what lies below its world is as it was -/
theorem CuT.step {bk : Nat} {w0 w w' : World} (h : CuT bk w0 w) (e : Below w0.heap.size w w') (hz : bk < w0.heap.size) : CuT bk w0 w' := h.below e hz
theorem CuT.grow {bk base n size : Nat} {w0 w w' : World} {E : TypeId} {v : Value} {xs : List Value} (h : CuT bk w0 w) (ho : w.ownsRow base E size v n xs) (hb : w0.heap.size ≤ base) (hg : w.grownBy w' v.ownBlock) (hz : bk < w0.heap.size) : CuT bk w0 w' :=
  h.below ⟨hg.os, hg.tape, hg.output, hg.size, fun k hk => by
    by_cases hkw : k < w.heap.size
    · exact hg.block k hkw (fun e => by have := (ho.lt k e.symm).1; omega)
    · exact absurd (Nat.lt_of_lt_of_le hk h.size) hkw⟩ hz
theorem CuT.more {bk : Nat} {w0 w w' : World} (h : CuT bk w0 w) (e : Ext w w') (hz : bk < w0.heap.size) : CuT bk w0 w' :=
  h.below ⟨e.os, e.tape, e.output, e.size, fun k hk => e.block k (Nat.lt_of_lt_of_le hk h.2.size)⟩ hz
theorem Cu.lt {w : World} {b : Nat} (h : Cu w b) : b < w.heap.size := Cur.size h
set_option maxRecDepth 100000 in
theorem pickS_any (b : Nat) (A : Option Addr) (c : Nat) (xs : List ByteArray) (w : World) (h : Cu w b) (hr : Rd w A (xs.map st)) (hA : ∀ a, A = some a → b + 1 ≤ a.block) (h0 : 0 < xs.length) (hn : xs.length ≤ 1000) :
    Calls Tryd.prog 78 #[.pointer (some ⟨b, 0, none⟩), .slice A xs.length c] w fun e w' => (∃ x ∈ xs, e = .returned (.string x)) ∧ CuT b w w' := by
  go_enter Tryd.func78, Tryd.ntmps78
  go_wp2_with fail
  refine (below_any b xs.length _ h (by omega)).mono ?_
  rintro e w1 ⟨⟨x, rfl, hx0, hx1, hx2⟩, hc⟩
  have hlt := hx1 (by omega)
  obtain ⟨k, rfl⟩ : ∃ k : Nat, x = k := ⟨x.toNat, by omega⟩
  have hkl : k < xs.length := by omega
  obtain ⟨b2, off, rfl, hbw, hcell⟩ := rs_at (rd_turn hr hc.2 (fun a ha _ => .inr (hA a ha))) hkl
  have hm := List.getElem_mem hkl
  generalize xs[k] = y at hcell hm
  go_wp2_with fail
  go_ret
  exact ⟨⟨y, hm, rfl⟩, hc⟩
set_option maxRecDepth 100000 in
set_option maxHeartbeats 4000000 in
theorem number_any (b : Nat) (w : World) (h : Cu w b) :
    Calls Tryd.prog 87 #[.pointer (some ⟨b, 0, none⟩)] w fun e w' => (∃ x : Int, e = .returned (.int .i64 x)) ∧ CuT b w w' := by
  have hlt := Cu.lt h
  go_enter Tryd.func87, Tryd.ntmps87
  go_wp2_with fail
  refine (below_any b 4 _ h (by omega)).mono ?_
  rintro e w1 ⟨⟨x, rfl, hx0, hx1, hx2⟩, hc1⟩
  by_cases h0 : x = 0
  · subst h0
    go_wp2_with fail
    have hr : Rd (w1.alloc (.cells #[.int .i64 (-1), .int .i64 0, .int .i64 127, .int .i64 128, .int .i64 16383, .int .i64 16384, .int .i64 1000000000, .int .i64 1000000001, .int .i64 9223372036854775807, .int .i64 (-9223372036854775808)] 3)) (some ⟨w1.heap.size, 0, none⟩) (([-1, 0, 127, 128, 16383, 16384, 1000000000, 1000000001, 9223372036854775807, -9223372036854775808] : List Int).map it) := rd_new w1 _ _ _
    have hs := hc1.2.size
    refine (pick_any b (some ⟨w1.heap.size, 0, none⟩) 10 ([-1, 0, 127, 128, 16383, 16384, 1000000000, 1000000001, 9223372036854775807, -9223372036854775808] : List Int) _ (hc1.1.ext ((Ext.refl _).alloc _)) hr (fun a ha => by injection ha with ha; subst ha; show b + 1 ≤ w1.heap.size; omega) (by decide) (by decide)).mono ?_
    rintro e w2 ⟨⟨y, -, rfl⟩, hc2⟩
    have hcc := (hc1.ext ((Ext.refl _).alloc _)).trans hc2
    go_wp2_with fail
    go_ret
    exact ⟨⟨_, rfl⟩, hcc⟩
  · by_cases h1 : x = 1
    · subst h1
      go_wp2_with fail
      refine (below_any b 1000000000 _ hc1.1 (by omega)).mono ?_
      rintro e w2 ⟨⟨y, rfl, hy0, hy1, hy2⟩, hc2⟩
      have hcc := hc1.trans hc2
      go_wp2_with fail
      go_ret
      exact ⟨⟨_, rfl⟩, hcc⟩
    · go_wp2_with fail
      refine (below_any b 400 _ hc1.1 (by omega)).mono ?_
      rintro e w2 ⟨⟨y, rfl, hy0, hy1, hy2⟩, hc2⟩
      have hcc := hc1.trans hc2
      go_wp2_with fail
      go_ret
      exact ⟨⟨_, rfl⟩, hcc⟩
theorem fmt_any (n : Int) (h : n.natAbs ≤ 1024000) (w : World) : ∃ S, S.size ≤ 12 ∧ Calls Tryd.prog 68 #[.int .i64 n] w fun e w' => e = .returned (.string S) ∧ Ext w w' :=
  ⟨ba (fmtF n), by rw [ba_size]; exact (fld_fmtF h).len, by have h9 := sFormatFixed_any n (by omega) (by omega) w; rw [fmtFixed_small h] at h9; exact h9⟩
theorem fmi_any (n : Nat) (h : n < 1000) (w : World) : ∃ S, S.size ≤ 3 ∧ Calls Tryd.prog 41 #[.int .i64 n] w fun e w' => e = .returned (.string S) ∧ Ext w w' :=
  ⟨ba (Lib.decDigits n), by rw [ba_size]; exact dec_len (k := 2) (by omega), sFormatInt_any n (by omega) w⟩
set_option maxRecDepth 100000 in
set_option maxHeartbeats 4000000 in
theorem line_any (b : Nat) (w : World) (h : Cu w b) :
    Calls Tryd.prog 51 #[.pointer (some ⟨b, 0, none⟩)] w fun e w' => (∃ l : ByteArray, e = .returned (.string l) ∧ l.size ≤ 64) ∧ CuT b w w' := by
  have hlt := Cu.lt h
  go_enter Tryd.func51, Tryd.ntmps51
  go_wp2_with fail
  refine (below_any b 8 _ h (by omega)).mono ?_
  rintro e w1 ⟨⟨x, rfl, hx0, hx1, hx2⟩, hc1⟩
  have hx8 := hx1 (by omega)
  clear hx1 hx2
  by_cases h0 : x = 0
  · subst h0
    go_wp2_with fail
    refine (below_any b 20 _ hc1.1 (by omega)).mono ?_
    rintro e w2 ⟨⟨y, rfl, hy0, hy1, hy2⟩, hc2⟩
    have hy := hy1 (by omega)
    have hcc := hc1.trans hc2
    clear hy1 hy2 hc1 hc2
    obtain ⟨S, hS, hF⟩ := fmt_any (125 * y) (by omega) w2
    have HF := Lib.hid hF
    clear hF
    go_wp2_with fail
    refine HF.out.mono ?_
    rintro e w3 ⟨rfl, hb3⟩
    have hn : ¬ 9223372036854775807 < 11 + S.size := by omega
    go_wp2_with fail
    go_ret
    exact ⟨⟨_, rfl, by rw [ByteArray.size_append]; show 11 + S.size ≤ 64; omega⟩, hcc.ext hb3⟩
  by_cases h1 : x = 1
  · subst h1
    go_wp2_with fail
    refine (below_any b 20 _ hc1.1 (by omega)).mono ?_
    rintro e w2 ⟨⟨y, rfl, hy0, hy1, hy2⟩, hc2⟩
    have hy := hy1 (by omega)
    have hcc := hc1.trans hc2
    clear hy1 hy2 hc1 hc2
    obtain ⟨S, hS, hF⟩ := fmt_any (125 * y) (by omega) w2
    have HF := Lib.hid hF
    clear hF
    go_wp2_with fail
    refine HF.out.mono ?_
    rintro e w3 ⟨rfl, hb3⟩
    have hn : ¬ 9223372036854775807 < 11 + S.size := by omega
    go_wp2_with fail
    go_ret
    exact ⟨⟨_, rfl, by rw [ByteArray.size_append]; show 11 + S.size ≤ 64; omega⟩, hcc.ext hb3⟩
  by_cases h2 : x = 2
  · subst h2
    go_wp2_with fail
    refine (below_any b 60 _ hc1.1 (by omega)).mono ?_
    rintro e w2 ⟨⟨y, rfl, hy0, hy1, hy2⟩, hc2⟩
    have hy := hy1 (by omega)
    have hcc := hc1.trans hc2
    clear hy1 hy2 hc1 hc2
    obtain ⟨S, hS, hF⟩ := fmt_any (-1000 * y) (by omega) w2
    have HF := Lib.hid hF
    clear hF
    go_wp2_with fail
    refine HF.out.mono ?_
    rintro e w3 ⟨rfl, hb3⟩
    have hn : ¬ 9223372036854775807 < 6 + S.size := by omega
    go_wp2_with fail
    go_ret
    exact ⟨⟨_, rfl, by rw [ByteArray.size_append]; show 6 + S.size ≤ 64; omega⟩, hcc.ext hb3⟩
  by_cases h3 : x = 3
  · subst h3
    go_wp2_with fail
    refine (below_any b 12 _ hc1.1 (by omega)).mono ?_
    rintro e w2 ⟨⟨y, rfl, hy0, hy1, hy2⟩, hc2⟩
    have hy := hy1 (by omega)
    have hcc := hc1.trans hc2
    clear hy1 hy2 hc1 hc2
    obtain ⟨S, hS, hF⟩ := fmt_any (100 * y) (by omega) w2
    have HF := Lib.hid hF
    clear hF
    go_wp2_with fail
    refine HF.out.mono ?_
    rintro e w3 ⟨rfl, hb3⟩
    have hn : ¬ 9223372036854775807 < 8 + S.size := by omega
    go_wp2_with fail
    go_ret
    exact ⟨⟨_, rfl, by rw [ByteArray.size_append]; show 8 + S.size ≤ 64; omega⟩, hcc.ext hb3⟩
  by_cases h4 : x = 4
  · subst h4
    go_wp2_with fail
    refine (below_any b 66 _ hc1.1 (by omega)).mono ?_
    rintro e w2 ⟨⟨y, rfl, hy0, hy1, hy2⟩, hc2⟩
    have hy := hy1 (by omega)
    have hcc := hc1.trans hc2
    clear hy1 hy2 hc1 hc2
    obtain ⟨k, rfl⟩ : ∃ k : Nat, y = k := ⟨y.toNat, by omega⟩
    obtain ⟨S, hS, hF⟩ := fmi_any k (by omega) w2
    have HF := Lib.hid hF
    clear hF
    go_wp2_with fail
    refine HF.out.mono ?_
    rintro e w3 ⟨rfl, hb3⟩
    have hn : ¬ 9223372036854775807 < 5 + S.size := by omega
    have hn2 : ¬ 9223372036854775807 < 5 + S.size + 1 := by omega
    replace hcc := hcc.ext hb3
    clear hb3 HF
    go_wp2_with fail
    refine (below_any b 18 _ hcc.1 (by omega)).mono ?_
    rintro e w4 ⟨⟨z, rfl, hz0, hz1, hz2⟩, hc4⟩
    have hz := hz1 (by omega)
    replace hcc := hcc.trans hc4
    clear hz1 hz2 hc4
    obtain ⟨m, rfl⟩ : ∃ m : Nat, z = m := ⟨z.toNat, by omega⟩
    obtain ⟨T, hT, hG⟩ := fmi_any (4 * m) (by omega) w4
    rw [show ((4 * m : Nat) : Int) = 4 * (m : Int) by omega] at hG
    have HG := Lib.hid hG
    clear hG
    go_wp2_with fail
    refine HG.out.mono ?_
    rintro e w5 ⟨rfl, hb5⟩
    have hn3 : ¬ 9223372036854775807 < 5 + S.size + 1 + T.size := by omega
    go_wp2_with fail
    go_ret
    exact ⟨⟨_, rfl, by rw [ByteArray.size_append, ByteArray.size_append, ByteArray.size_append]; show 5 + S.size + 1 + T.size ≤ 64; omega⟩, hcc.ext hb5⟩
  by_cases h5 : x = 5
  · subst h5
    have hs := hc1.2.size
    have hr : Rd (w1.alloc (.cells #[.string ⟨#[]⟩, .string ⟨#[115, 105, 122, 101, 32, 52]⟩, .string ⟨#[115, 105, 122, 101, 32, 52, 32, 53]⟩, .string ⟨#[115, 108, 105, 99, 101]⟩, .string ⟨#[115, 108, 105, 99, 101, 32, 49, 48, 50, 53, 46, 48, 48, 48]⟩, .string ⟨#[107, 105, 108, 108, 101, 114, 32, 45, 48, 46, 48, 48, 49]⟩, .string ⟨#[115, 97, 116, 117, 114, 97, 116, 105, 111, 110, 32, 49, 54, 46, 48, 48, 49]⟩, .string ⟨#[104, 117, 101, 32, 49, 46, 48, 48, 48]⟩, .string ⟨#[32, 115, 108, 105, 99, 101, 32, 45, 49, 46, 48, 48, 48, 32]⟩, .string ⟨#[107, 105, 108, 108, 101, 114, 32, 49]⟩, .string ⟨#[115, 105, 122, 101, 32, 48, 52, 32, 52]⟩] 9)) (some ⟨w1.heap.size, 0, none⟩) (([⟨#[]⟩, ⟨#[115, 105, 122, 101, 32, 52]⟩, ⟨#[115, 105, 122, 101, 32, 52, 32, 53]⟩, ⟨#[115, 108, 105, 99, 101]⟩, ⟨#[115, 108, 105, 99, 101, 32, 49, 48, 50, 53, 46, 48, 48, 48]⟩, ⟨#[107, 105, 108, 108, 101, 114, 32, 45, 48, 46, 48, 48, 49]⟩, ⟨#[115, 97, 116, 117, 114, 97, 116, 105, 111, 110, 32, 49, 54, 46, 48, 48, 49]⟩, ⟨#[104, 117, 101, 32, 49, 46, 48, 48, 48]⟩, ⟨#[32, 115, 108, 105, 99, 101, 32, 45, 49, 46, 48, 48, 48, 32]⟩, ⟨#[107, 105, 108, 108, 101, 114, 32, 49]⟩, ⟨#[115, 105, 122, 101, 32, 48, 52, 32, 52]⟩] : List ByteArray).map st) := rd_new w1 _ _ _
    have HP := Lib.hid (pickS_any b (some ⟨w1.heap.size, 0, none⟩) 11 ([⟨#[]⟩, ⟨#[115, 105, 122, 101, 32, 52]⟩, ⟨#[115, 105, 122, 101, 32, 52, 32, 53]⟩, ⟨#[115, 108, 105, 99, 101]⟩, ⟨#[115, 108, 105, 99, 101, 32, 49, 48, 50, 53, 46, 48, 48, 48]⟩, ⟨#[107, 105, 108, 108, 101, 114, 32, 45, 48, 46, 48, 48, 49]⟩, ⟨#[115, 97, 116, 117, 114, 97, 116, 105, 111, 110, 32, 49, 54, 46, 48, 48, 49]⟩, ⟨#[104, 117, 101, 32, 49, 46, 48, 48, 48]⟩, ⟨#[32, 115, 108, 105, 99, 101, 32, 45, 49, 46, 48, 48, 48, 32]⟩, ⟨#[107, 105, 108, 108, 101, 114, 32, 49]⟩, ⟨#[115, 105, 122, 101, 32, 48, 52, 32, 52]⟩] : List ByteArray) _ (hc1.1.ext ((Ext.refl _).alloc _)) hr (fun a ha => by injection ha with ha; subst ha; show b + 1 ≤ w1.heap.size; omega) (by decide) (by decide))
    have hl : Hid (∀ x ∈ ([⟨#[]⟩, ⟨#[115, 105, 122, 101, 32, 52]⟩, ⟨#[115, 105, 122, 101, 32, 52, 32, 53]⟩, ⟨#[115, 108, 105, 99, 101]⟩, ⟨#[115, 108, 105, 99, 101, 32, 49, 48, 50, 53, 46, 48, 48, 48]⟩, ⟨#[107, 105, 108, 108, 101, 114, 32, 45, 48, 46, 48, 48, 49]⟩, ⟨#[115, 97, 116, 117, 114, 97, 116, 105, 111, 110, 32, 49, 54, 46, 48, 48, 49]⟩, ⟨#[104, 117, 101, 32, 49, 46, 48, 48, 48]⟩, ⟨#[32, 115, 108, 105, 99, 101, 32, 45, 49, 46, 48, 48, 48, 32]⟩, ⟨#[107, 105, 108, 108, 101, 114, 32, 49]⟩, ⟨#[115, 105, 122, 101, 32, 48, 52, 32, 52]⟩] : List ByteArray), x.size ≤ 64) := Lib.hid (by decide)
    clear hr
    go_wp2_with fail
    refine HP.out.mono ?_
    rintro e w2 ⟨⟨y, hy, rfl⟩, hc2⟩
    have hcc := (hc1.ext ((Ext.refl _).alloc _)).trans hc2
    have hy2 := hl.out y hy
    clear hy HP hl
    go_wp2_with fail
    go_ret
    exact ⟨⟨_, rfl, hy2⟩, hcc⟩
  go_wp2_with fail
  refine (below_any b 17000 _ hc1.1 (by omega)).mono ?_
  rintro e w2 ⟨⟨y, rfl, hy0, hy1, hy2⟩, hc2⟩
  have hy := hy1 (by omega)
  have hcc := hc1.trans hc2
  clear hy1 hy2 hc1 hc2
  obtain ⟨S, hS, hF⟩ := fmt_any (y) (by omega) w2
  have HF := Lib.hid hF
  clear hF
  go_wp2_with fail
  refine HF.out.mono ?_
  rintro e w3 ⟨rfl, hb3⟩
  have hn : ¬ 9223372036854775807 < 11 + S.size := by omega
  go_wp2_with fail
  go_ret
  exact ⟨⟨_, rfl, by rw [ByteArray.size_append]; show 11 + S.size ≤ 64; omega⟩, hcc.ext hb3⟩
end Go.Proofs.YtfmghfghhipmhaaDoor

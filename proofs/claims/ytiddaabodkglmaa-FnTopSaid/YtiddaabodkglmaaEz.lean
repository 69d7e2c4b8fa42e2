import Derived.Test.YtiddaabodkglmaaEy
import Derived.Test.YtiddaabodkglmaaK1
namespace Go.Fx
open Go.RowKit
theorem flat_take {rss : List (List Nat)} {k : Nat} (h : k < rss.length) : (rss.take (k + 1)).flatten = (rss.take k).flatten ++ rss[k] := by
  rw [take_snoc h, List.flatten_append]; simp
theorem flat_len {rss : List (List Nat)} (k : Nat) : (rss.take k).flatten.length = sumLen ((rss.map List.length).take k) := by
  induction k generalizing rss with
  | zero => simp [sumLen]
  | succ k ih =>
    cases rss with
    | nil => simp [sumLen]
    | cons r t => simp only [List.take_succ_cons, List.flatten_cons, List.length_append, List.map_cons, sumLen_cons]; rw [ih]
theorem wpList_append_run {P : Program} {w w1 : World} {ops : Array Oper} {rest : List Oper} {o : Oper} {a : Act} {Q : Exit → Act → World → Prop} (hgd : o.guard = none) (s x : Operand) (t u : TypeId)
    (ho : o.op = .call { callee := .builtin .append, args := #[s, x], argTypes := #[t, u] }) (vs vx v : Value) (hs : a.eval s = vs) (hx : a.eval x = vx)
    (hrun : (Builtin.append_ #[t, u] o.type #[vs, vx]).run P w = .ok v w1) (h : wpList P ops Q rest (a.put o.dst v) w1) : wpList P ops Q (o :: rest) a w := by
  refine wpList_plain hgd fun K hK => ?_
  unfold Oper.wp
  simp [execOp, ho, resolve, invoke, builtin, hs, hx, hrun, Result.andThen]
  exact hK _ _ h
end Go.Fx
namespace Go.Proofs.Ytiddaabodkglmaa
open Go.RowKit Go.Fx
set_option linter.unusedVariables false
set_option linter.unusedSimpArgs false
set_option maxRecDepth 100000 in
set_option maxHeartbeats 4000000 in
theorem growNil_any (n : Nat) (hn : n ≤ 1048576) (w : World) :
    Calls Try.prog 231 #[.slice none 0 0, .int .i64 n] w fun e w' => (∃ v, e = .returned v ∧ w'.ownsRow w.heap.size 29 1 v 0 []) ∧ Ext w w' := by
  obtain ⟨i0, hi, hz0, hz1, hz2⟩ := info_parts info_f32
  by_cases h0 : 0 < n
  · have hap : (Builtin.append_ #[22, 3] 22 #[.slice none 0 0, .int .i64 n]).run Try.prog w = .ok (.slice (some ⟨w.heap.size, 0, none⟩) n (grownCap w n 0 29)) (w.drew.alloc (.cells (Builtin.zeroCells (Value.float .f32 0).cells n ++ Builtin.zeroCells (Value.float .f32 0).cells (grownCap w n 0 29 - n)) 29)) := run_append_zeros 22 3 22 29 i0 _ Try.underlying22 Try.underlying3 hi hz0 (by rw [hz1]; omega) n h0 (by omega) (by rw [hz2]; omega)
    have hge := grownCap_ge w n 0 29
    have hle := grownCap_le_maxLen w n 0 29 (by unfold maxLen; omega)
    have hown : Hid ((w.drew.alloc (.cells (Builtin.zeroCells (Value.float .f32 0).cells n ++ Builtin.zeroCells (Value.float .f32 0).cells (grownCap w n 0 29 - n)) 29)).ownsRow w.heap.size 29 1 (.slice (some ⟨w.heap.size, 0, none⟩) 0 (grownCap w n 0 29)) 0 []) := Lib.hid (by
      refine World.ownsRow_made (base := w.heap.size) (size := 1) w.drew _ _ (Nat.le_refl _) hle ?_
      have hz : ∀ m, (Builtin.zeroCells (Value.float .f32 0).cells m).size = m := fun m => by simp [Builtin.zeroCells, Value.cells]
      rw [Array.size_append, hz, hz]; omega)
    clear hi hz0 hz1 hz2
    unfold maxLen at hle
    generalize grownCap w n 0 29 = cap at *
    generalize (Builtin.zeroCells (Value.float .f32 0).cells n ++ Builtin.zeroCells (Value.float .f32 0).cells (cap - n)) = zs at *
    go_enter Try.func231, Try.ntmps231
    go_wp2_with (at_builtin; refine wpList_append_run rfl (.tmp 20) (.tmp 21) 22 3 rfl _ _ _ rfl rfl hap ?_)
    go_ret
    exact ⟨⟨_, rfl, hown.out⟩, by (repeat (first | exact Below.refl _ _ | assumption | refine below_drewN ?_ _ | refine Below.drew ?_ | refine Below.alloc ?_ (by first | exact Nat.le_refl _ | (simp; done) | (simp; omega)) _ | refine Below.setCell ?_ (by first | exact Nat.le_refl _ | (simp; done) | (simp; omega)) _))⟩
  · obtain rfl : n = 0 := by omega
    go_enter Try.func231, Try.ntmps231
    go_wp2_with fail
    go_ret
    exact ⟨⟨_, rfl, World.ownsRow_nil _ _ _ _⟩, Ext.refl _⟩
set_option maxRecDepth 100000 in
set_option maxHeartbeats 2000000 in
theorem concat_any (A : Option Addr) (c : Nat) (us : List Value) (rss : List (List Nat)) (w : World) (h : RdRows w A us (rowsF rss)) (hn : rss.length ≤ 1000) (hs : sumLen (rss.map List.length) ≤ 100000) :
    Calls Try.prog 194 #[.slice A rss.length c] w fun e w' => (∃ v, e = .returned v ∧ OF w' w.heap.size v rss.flatten) ∧ Ext w w' := by
  have H := Lib.hid h
  clear h
  have HT := Lib.hid (fun k (hk : k < rss.length) => sumLen_take (ns := rss.map List.length) (i := k) (by simpa using hk))
  have HLE := Lib.hid (fun k => sumLen_le (ns := rss.map List.length) k)
  go_enter Try.func194, Try.ntmps194
  go_wp2_with fail
  go_loopw [3, 5, 11] (fun s r i wr => ∃ (k m : Nat), k ≤ rss.length ∧ i = .int .i64 k ∧ s = .int .i64 m ∧ Hid (m = sumLen ((rss.map List.length).take k)) ∧ Ext w wr) (fun _ _ i _ => rss.length - (intOf i).toNat)
  case atStart => exact ⟨0, 0, by omega, rfl, rfl, Lib.hid (by simp [sumLen]), Ext.refl _⟩
  case round =>
    obtain ⟨k, m, hk, rfl, rfl, HM, hbr⟩ := hrel
    have hmb : m ≤ 100000 := by have := HM.out; have := HLE.out k; omega
    by_cases hlt : k < rss.length
    · obtain ⟨b, off, B, d, rfl, hbw, -, hcell, hrow, hnil, -⟩ := (H.out.ext hbr).atF hlt
      have ht := HT.out k hlt
      have hle := HLE.out (k + 1)
      rw [List.getElem_map] at ht
      have hrb : rss[k].length ≤ 100000 := by omega
      have HT2 : Hid (m + rss[k].length = sumLen ((rss.map List.length).take (k + 1))) := Lib.hid (by rw [ht, HM.out])
      clear hle ht
      generalize rss[k].length = n at *
      go_wp2_with fail
      go_roundw
      case rel => exact ⟨k + 1, m + n, by omega, by go_num, by go_num, HT2, hbr⟩
      case measure => simp [intOf]; omega
    · obtain rfl : k = rss.length := by omega
      go_wp2_with fail
      refine (growNil_any m (by omega) _).mono ?_
      rintro e w1 ⟨⟨v, rfl, ho⟩, hb1⟩
      replace ho := own_base ho hbr.size
      replace hb1 := hbr.trans hb1
      clear hbr HM hmb
      go_wp2_with fail
      go_loopw [6, 8, 27] (fun v r i wr => ∃ (k m : Nat) (gs : List Nat), k ≤ rss.length ∧ i = .int .i64 k ∧ gs.length = m ∧ Hid (gs = (rss.take k).flatten) ∧ wr.ownsRow w.heap.size 29 1 v m (gs.map fl) ∧ Ext w wr) (fun _ _ i _ => rss.length - (intOf i).toNat)
      case atStart => exact ⟨0, 0, [], by omega, rfl, rfl, Lib.hid (by simp), ho, hb1⟩
      case round =>
        obtain ⟨k, m, gs, hk, rfl, hgl, HG, ho, hbr⟩ := hrel
        clear hb1
        obtain ⟨A1, c1, rfl, -, -⟩ := own_slice ho
        have hmb : m ≤ 100000 := by
          have h1 := HLE.out k
          rw [← flat_len, ← HG.out, hgl] at h1
          omega
        by_cases hlt : k < rss.length
        · obtain ⟨b, off, B, d, rfl, hbw, -, hcell, hrow, hnil, -⟩ := (H.out.ext hbr).atF hlt
          have hle := HLE.out (k + 1)
          have ht := HT.out k hlt
          rw [List.getElem_map] at ht
          have hrb : rss[k].length ≤ 100000 := by omega
          have HF := Lib.hid (flat_take hlt)
          clear hle ht
          generalize hrn : rss[k] = row at *
          generalize hrl : row.length = n at *
          have HRL := Lib.hid hrl
          clear hrn hrl
          go_wp2_with (at_builtin; refine wpList_app rfl _ _ 22 rfl w.heap.size 29 _ 1 4 Try.underlying22 info_f32 rfl (by omega) (.slice A1 m c1) m (gs.map fl) rfl ho B n d (row.map fl) rfl hrow (by rw [List.length_map, HRL.out, Nat.mul_one]) hnil oneCell_fl (by unfold maxLen; omega) (by omega) hbr.size ?_; intro v2 w3 hown hg hat)
          go_roundw
          case rel => exact ⟨k + 1, m + n, gs ++ row, by omega, by go_num, by rw [List.length_append, hgl, HRL.out], Lib.hid (by rw [HF.out, HG.out]), by rw [List.map_append]; exact hown, ext_grow (base := w.heap.size) hbr ho (Nat.le_refl _) hg⟩
          case measure => simp [intOf]; omega
        · obtain rfl : k = rss.length := by omega
          have hfl : gs = rss.flatten := by rw [HG.out, List.take_of_length_le (Nat.le_refl _)]
          go_wp2_with fail
          go_ret
          refine ⟨⟨_, rfl, ?_⟩, hbr⟩
          unfold OF
          rw [← hfl, hgl]
          exact ho
theorem rdRows_three {W : World} {A1 A2 A3 : Option Addr} {c1 c2 c3 : Nat} {g1 g2 g3 : List Nat} (h1 : Rd W A1 (g1.map fl)) (z1 : A1 = none → g1.length = 0) (k1 : g1.length ≤ c1) (h2 : Rd W A2 (g2.map fl)) (z2 : A2 = none → g2.length = 0) (k2 : g2.length ≤ c2) (h3 : Rd W A3 (g3.map fl)) (z3 : A3 = none → g3.length = 0) (k3 : g3.length ≤ c3) (E : TypeId) :
    RdRows (W.alloc (.cells #[.slice A1 g1.length c1, .slice A2 g2.length c2, .slice A3 g3.length c3] E)) (some ⟨W.heap.size, 0, none⟩) [.slice A1 g1.length c1, .slice A2 g2.length c2, .slice A3 g3.length c3] (rowsF [g1, g2, g3]) := by
  have he : Ext W (W.alloc (.cells #[.slice A1 g1.length c1, .slice A2 g2.length c2, .slice A3 g3.length c3] E)) := (Ext.refl _).alloc _
  refine ⟨rfl, rd_new _ _ _ _, fun i u r hu hr => ?_⟩
  match i with
  | 0 => cases hu; cases hr; exact ⟨A1, c1, rfl, h1.ext he, z1, k1⟩
  | 1 => cases hu; cases hr; exact ⟨A2, c2, rfl, h2.ext he, z2, k2⟩
  | 2 => cases hu; cases hr; exact ⟨A3, c3, rfl, h3.ext he, z3, k3⟩
  | i + 3 => simp at hu
set_option maxRecDepth 100000 in
set_option maxHeartbeats 2000000 in
theorem iMakeLine_any (A : Option Addr) (c : Nat) (row : List Cel) (odd : Bool) (w : World) (h : Rd w A (ccells row)) (hn : row.length ≤ 1048576) :
    Calls Try.prog 111 #[.slice A row.length c, .bool odd] w fun e w' => (∃ v gs, e = .returned v ∧ OF w' w.heap.size v gs ∧ cns gs = lineR (cnC row) odd) ∧ Ext w w' := by
  have H := Lib.hid h
  clear h
  have hm : row.length ≤ maxLen := by unfold maxLen; omega
  cases hok : rowOk row
  · have HN : Hid (lineR (cnC row) odd = []) := Lib.hid (by unfold lineR; rw [rowOk_cnC, hok]; rfl)
    go_enter Try.func111, Try.ntmps111
    go_wp2_with fail
    refine (iRowOk_any A c row _ H.out hm).mono ?_
    rintro e w1 ⟨rfl, hb1⟩
    rw [hok]
    go_wp2_with fail
    go_ret
    exact ⟨⟨_, [], rfl, World.ownsRow_nil _ _ _ _, by rw [HN.out]; rfl⟩, hb1⟩
  · have hrl := rowOk_len hok
    have HL : Hid (lineR (cnC row) odd = List.replicate 8 3263168512 ++ encode burstC odd ++ encode (cnC row) odd) := Lib.hid (by unfold lineR; rw [rowOk_cnC, hok]; rfl)
    go_enter Try.func111, Try.ntmps111
    go_wp2_with fail
    refine (iRowOk_any A c row _ H.out hm).mono ?_
    rintro e w1 ⟨rfl, hb1⟩
    rw [hok]
    clear hok
    have hx1 : Ext w (w1.alloc (.cells #[.float .f32 3263168512] 29)) := hb1.alloc _
    go_wp2_with fail
    refine (repeatF_any (some ⟨w1.heap.size, 0, none⟩) 1 3263168512 _ (rd_new w1 #[.float .f32 3263168512] 29 (0, 0))).mono ?_
    rintro e w2 ⟨⟨v2, rfl, ho2⟩, hb2⟩
    replace ho2 := own_base ho2 hx1.size
    replace hb2 := hx1.trans hb2
    unfold OF at ho2
    rw [List.length_replicate] at ho2
    obtain ⟨A2, c2, rfl, -, z2⟩ := own_slice ho2
    have k2 := own_cap ho2
    have hx2 : Ext w (w2.alloc (.cells #[.float .f32 0, .complex .f32 3246391296 1098907648] 90)) := hb2.alloc _
    go_wp2_with fail
    refine (repeatC_any (some ⟨w2.heap.size, 0, none⟩) 1 ⟨0, 3246391296, 1098907648⟩ _ (rd_new w2 #[.float .f32 0, .complex .f32 3246391296 1098907648] 90 (0, 0))).mono ?_
    rintro e w3 ⟨⟨v3, rfl, ho3⟩, hb3⟩
    replace ho2 := own_ext (own_ext ho2 ((Ext.refl _).alloc _)) hb3
    replace hb3 := hx2.trans hb3
    unfold OC at ho3
    rw [List.length_replicate] at ho3
    obtain ⟨A3, c3, rfl, -, z3⟩ := own_slice ho3
    clear hb1 hx1 hb2 hx2
    go_wp2_with fail
    refine (encoded_any A3 c3 burstC odd _ (own_rd ho3) (by simp [burstC])).mono ?_
    rintro e w4 ⟨⟨v4, g4, rfl, ho4, hg4⟩, hb4⟩
    rw [burst_cn] at hg4
    have hl4 : g4.length = 16 := by
      have := congrArg List.length hg4
      rw [encode_len] at this
      simpa [burstC] using this
    unfold OF at ho4
    rw [hl4] at ho4
    obtain ⟨A4, c4, rfl, -, z4⟩ := own_slice ho4
    have k4 := own_cap ho4
    have HG4 := Lib.hid hg4
    replace ho2 := own_ext ho2 hb4
    replace hb4 := hb3.trans hb4
    clear hg4 ho3 hb3
    go_wp2_with fail
    refine (encoded_any A c row odd _ (H.out.ext hb4) hn).mono ?_
    rintro e w5 ⟨⟨v5, g5, rfl, ho5, hg5⟩, hb5⟩
    have hl5 : g5.length ≤ 256 := by
      have := congrArg List.length hg5
      rw [encode_len] at this
      simp at this
      omega
    have HG5 := Lib.hid hg5
    replace ho2 := own_ext ho2 hb5
    replace ho4 := own_ext ho4 hb5
    replace hb5 := hb4.trans hb5
    unfold OF at ho5
    generalize hgn : g5.length = m5 at ho5 hl5
    obtain ⟨A5, c5, rfl, -, z5⟩ := own_slice ho5
    have k5 := own_cap ho5
    have hR := rdRows_three (c1 := c2) (c2 := c4) (c3 := c5) (g1 := List.replicate 8 3263168512) (g2 := g4) (g3 := g5) (own_rd ho2) (by simpa using z2) (by simpa using k2) (own_rd ho4) (by rw [hl4]; exact z4) (by rw [hl4]; exact k4) (own_rd ho5) (by rw [hgn]; exact z5) (by rw [hgn]; exact k5) 22
    have hK := concat_any (some ⟨w5.heap.size, 0, none⟩) 3 _ [List.replicate 8 3263168512, g4, g5] _ hR (by simp) (by simp [sumLen, hl4, hgn]; omega)
    rw [List.length_replicate, hl4, hgn] at hK
    have hx5 : Ext w (w5.alloc (.cells #[.slice A2 8 c2, .slice A4 16 c4, .slice A5 m5 c5] 22)) := hb5.alloc _
    clear hR hg5 hb4 z2 z4 z5 k2 k4 k5 ho2 ho4 ho5
    go_wp2_with fail
    refine Calls.mono hK ?_
    rintro e w6 ⟨⟨v6, rfl, ho6⟩, hb6⟩
    go_wp2_with fail
    go_ret
    refine ⟨⟨v6, [List.replicate 8 3263168512, g4, g5].flatten, rfl, ?_, ?_⟩, hx5.trans hb6⟩
    · exact own_base ho6 hx5.size
    · rw [HL.out]
      simp only [List.flatten_cons, List.flatten_nil, List.append_nil]
      rw [cns_app, cns_app, pulse_cn, HG4.out, HG5.out, List.append_assoc]
end Go.Proofs.Ytiddaabodkglmaa

import Derived.Test.YtiddaabodkglmaaCc
import Derived.Test.YtiddaabodkglmaaRd
namespace Go.Proofs.Ytiddaabodkglmaa
open Go.RowKit Go.Fx
set_option linter.unusedVariables false
set_option linter.unusedSimpArgs false

theorem info_f32 : (Try.prog.info? 29).map (fun i => (i.zero, i.size, i.bytes)) = some (some (.float .f32 0), 1, 4) := by kernel_rfl
theorem info_int : (Try.prog.info? 3).map (fun i => (i.zero, i.size, i.bytes)) = some (some (.int .i64 0), 1, 8) := by kernel_rfl

/-- a fresh row of singles -/
abbrev OF (w : World) (base : Nat) (v : Value) (rs : List Nat) : Prop := w.ownsRow base 29 1 v rs.length (rs.map fl)

theorem toF_any (A : Option Addr) (c : Nat) (rs : List Nat) (w : World) (h : Rd w A (rs.map fl)) (hn : rs.length ≤ 1048576) :
    Calls Try.prog 36 #[.slice A rs.length c] w fun e w' => (∃ v, e = .returned v ∧ OF w' w.heap.size v rs) ∧ Ext w w' := by
  obtain ⟨i0, hi, hz0, hz1, hz2⟩ := info_parts info_f32
  go_enter Try.func36, Try.ntmps36
  go_wp2_with (at_make; refine wpList_make_full _ rfl _ _ 22 rfl w.heap.size 29 i0 _ 1 Try.underlying22 hi hz0 hz1 _ _ _ _ rs.length rfl rfl rfl rfl (by rw [hz2]; omega) (by unfold maxLen; omega) (Nat.le_refl _) ?_; intro w1 hown hg)
  have hb1 := grown_none hg
  have hlen := hown.1
  go_loopw [4] (fun i wr => ∃ (k : Nat) (xs : List Value), k ≤ rs.length ∧ i = .int .i64 k ∧ Upto k xs (rs.map fl) ∧ wr.ownsRow w.heap.size 29 1 (.slice (some ⟨w.heap.size, 0, none⟩) rs.length rs.length) rs.length xs ∧ Ext w wr) (fun i _ => rs.length - (intOf i).toNat)
  case atStart => exact ⟨0, _, Nat.zero_le _, rfl, Upto.zero (by simpa using hlen), hown, hb1⟩
  case round =>
    obtain ⟨k, xs, hk, rfl, hu, ho, hb⟩ := hrel
    clear hlen
    by_cases hlt : k < rs.length
    · obtain ⟨b, off, rfl, hbw, hc⟩ := rf_at (h.ext hb) hlt
      have hf := own_frozen ho k
      have hl : k < xs.length := by have := hu.1; simp at this; omega
      have hcell : ∃ u, wr.cell? ⟨w.heap.size, k, none⟩ = some u := ⟨_, own_cell ho (List.getElem?_eq_getElem hl)⟩
      obtain ⟨u0, hcell⟩ := hcell
      go_wp2
      go_roundw
      case rel => exact ⟨k + 1, _, by omega, by go_num, hu.step (by simp [hlt]), own_set ho _, by (repeat (first | exact Below.refl _ _ | assumption | refine below_drewN ?_ _ | refine Below.drew ?_ | refine Below.alloc ?_ (by first | exact Nat.le_refl _ | (simp; done) | (simp; omega)) _ | refine Below.setCell ?_ (by first | exact Nat.le_refl _ | (simp; done) | (simp; omega)) _))⟩
      case measure => simp [intOf]; omega
    · go_wp2
      go_ret
      obtain rfl : k = rs.length := by omega
      have := Upto.all (ys := rs.map fl) (by simpa using hu)
      subst this
      exact ⟨⟨_, rfl, ho⟩, hb⟩

/-- the widening, in whatever world -/
theorem widen_run (x : Nat) (W : World) : (convert 29 68 (.float .f32 x)).run Try.prog W = .ok (.float .f64 (cvbits W .f32 .f64 x)) (W.drewN (cvcnt .f32 .f64 x)) :=
  run_convert_ff W _ _ .f32 .f64 x (by rw [Try.underlying29]; rfl) Try.underlying68

theorem cns_at {rs ss : List Nat} (h : cns rs = cns ss) {k : Nat} (h1 : k < rs.length) (h2 : k < ss.length) : cn .f32 rs[k] = cn .f32 ss[k] := by
  have := congrArg (fun l => l[k]?) h
  simpa [h1, h2] using this
set_option maxRecDepth 100000 in
set_option maxHeartbeats 4000000 in
theorem eqF_any (A B : Option Addr) (c d : Nat) (rs ss : List Nat) (w : World) (h : Rd w A (rs.map fl)) (h' : Rd w B (ss.map fl)) (hn : rs.length ≤ maxLen) (he : cns rs = cns ss) :
    Calls Try.prog 38 #[.slice A rs.length c, .slice B ss.length d] w fun e w' => e = .returned (.bool true) ∧ ∃ n, w' = w.drewN n := by
  have hl : rs.length = ss.length := by simpa using congrArg List.length he
  have HE := Lib.hid he
  unfold maxLen at hn
  rw [← hl]
  have HL := Lib.hid hl
  clear he hl
  go_enter Try.func38, Try.ntmps38
  go_wp2
  go_loopw [5] (fun i wr => ∃ (k : Nat), k ≤ rs.length ∧ i = .int .i64 k ∧ ∃ n, wr = w.drewN n) (fun i _ => rs.length - (intOf i).toNat)
  case atStart => exact ⟨0, Nat.zero_le _, rfl, 0, rfl⟩
  case round =>
    obtain ⟨k, hk, rfl, n, rfl⟩ := hrel
    by_cases hlt : k < rs.length
    · obtain ⟨b, off, rfl, hbw, hc⟩ := rf_at h hlt
      obtain ⟨b', off', rfl, hbw', hc'⟩ := rf_at h' (by rw [← HL.out]; exact hlt)
      have hlt' : k < ss.length := by rw [← HL.out]; exact hlt
      have HK := Lib.hid (cns_at HE.out hlt hlt')
      have w1 := widen_run rs[k]
      have w2 := widen_run ss[k]
      go_wp2_with fail
      go_region_with (go_at_call 67; refine (sameFloat_any _ _ (by rw [cn_widened, cn_widened, HK.out]) _).mono ?_; rintro e w1 ⟨rfl, n1, rfl⟩)
      all_goals go_wp2
      all_goals go_roundw
      all_goals first | exact ⟨k + 1, by omega, by go_num, _, rfl⟩ | (simp [intOf]; omega)
    · go_wp2
      go_ret
      exact ⟨rfl, n, rfl⟩

theorem notNaN_int (k : FloatKind) (n : Int) : isN k (floatOfInt k n) = false := by
  unfold isN floatOfInt FloatKind.nearest FloatKind.encode; exact read_write_not _ rfl
abbrev marksF (k0 : Int) (n : Nat) : List Value := (List.range n).map fun (j : Nat) => fl (floatOfInt .f32 (k0 + j))
theorem marksF_at (k0 : Int) {n k : Nat} (h : k < n) : (marksF k0 n)[k]? = some (fl (floatOfInt .f32 (k0 + k))) := by simp [h]

theorem markF_any (A : Option Addr) (c n : Nat) (k0 : Int) (hn : n ≤ 1099511627776) (hk0 : 0 ≤ k0) (hk1 : k0 ≤ 1099511627776) (xs : List Value) (base : Nat) (w : World) (h : w.ownsRow base 29 1 (.slice A n c) n xs) :
    Calls Try.prog 48 #[.slice A n c, .int .i64 k0] w fun e w' => e = .returned (.int .i64 (k0 + n)) ∧ w'.ownsRow base 29 1 (.slice A n c) n (marksF k0 n) ∧ w.grownBy w' (Value.slice A n c).ownBlock := by
  have hlen := h.1
  go_enter Try.func48, Try.ntmps48
  go_wp2
  go_loopw [1, 5] (fun q i wr => ∃ (k : Nat) (ys : List Value), k ≤ n ∧ i = .int .i64 k ∧ q = .int .i64 (k0 + k) ∧ Upto k ys (marksF k0 n) ∧ wr.ownsRow base 29 1 (.slice A n c) n ys ∧ w.grownBy wr (Value.slice A n c).ownBlock) (fun _ i _ => n - (intOf i).toNat)
  case atStart => exact ⟨0, xs, Nat.zero_le _, rfl, by simp, Upto.zero (by simpa using hlen), h, grown_refl _ _⟩
  case round =>
    obtain ⟨k, ys, hk, rfl, rfl, hu, ho, hg⟩ := hrel
    clear hlen
    by_cases hlt : k < n
    · obtain ⟨g, rfl, hb, hgs⟩ := own_at ho (by omega)
      have hf := own_frozen ho k
      have hl : k < ys.length := by have := hu.1; simp at this; omega
      have hcell : ∃ u, wr.cell? ⟨g, k, none⟩ = some u := ⟨_, own_cell ho (List.getElem?_eq_getElem hl)⟩
      obtain ⟨u0, hcell⟩ := hcell
      go_wp2
      go_roundw
      case rel => exact ⟨k + 1, _, by omega, by go_num, by go_num, hu.step (marksF_at k0 hlt), own_set ho _, grown_set (p := ⟨g, k, none⟩) hg (.inl rfl) _⟩
      case measure => simp [intOf]; omega
    · go_wp2
      go_ret
      obtain rfl : k = n := by omega
      have := Upto.all (ys := marksF k0 k) (by simpa using hu)
      subst this
      exact ⟨rfl, ho, hg⟩
theorem heldF_any (A : Option Addr) (c n : Nat) (k0 : Int) (hn : n ≤ 1099511627776) (hk0 : 0 ≤ k0) (hk1 : k0 ≤ 1099511627776) (w : World) (h : Rd w A (marksF k0 n)) :
    Calls Try.prog 49 #[.slice A n c, .int .i64 k0] w fun e w' => e = .returned (.int .i64 (k0 + n)) ∧ w = w' := by
  go_enter Try.func49, Try.ntmps49
  go_wp2
  go_loop [1, 5] (fun q i => ∃ (k : Nat), k ≤ n ∧ i = .int .i64 k ∧ q = .int .i64 (k0 + k)) (fun _ i => n - (intOf i).toNat)
  case atStart => exact ⟨0, Nat.zero_le _, rfl, by simp⟩
  case round =>
    obtain ⟨k, hk, rfl, rfl⟩ := hrel
    by_cases hlt : k < n
    · obtain ⟨b, off, rfl, hbw, hc⟩ : ∃ b off, A = some ⟨b, off, none⟩ ∧ b < w.heap.size ∧ w.cell? ⟨b, off + k, none⟩ = some (fl (floatOfInt .f32 (k0 + k))) := by
        rcases h with h | ⟨b, off, hA, hb, hc⟩
        · have := congrArg List.length h; simp at this; omega
        · exact ⟨b, off, hA, hb, hc k _ (marksF_at k0 hlt)⟩
      have hs := feq_self (notNaN_int .f32 (k0 + k))
      go_wp2
      go_round
      case rel => exact ⟨k + 1, by omega, by go_num, by go_num⟩
      case measure => simp [intOf]; omega
    · go_wp2
      go_ret
      obtain rfl : k = n := by omega
      exact ⟨rfl, rfl⟩

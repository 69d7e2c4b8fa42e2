import Derived.Test.YtfmghfghhipmhaaDoorSa
import Derived.Test.YtfmghfghhipmhaaDoorSb
import Derived.Test.YtfmghfghhipmhaaDoorK7
import Derived.Laws.IdiomStrings
import Derived.Lib.QuietBelow
import Derived.BigQuiet
namespace Go.Fx
open Go.Lib
set_option linter.unusedVariables false
set_option linter.unusedSimpArgs false
def mkT (k : Nat) : ByteArray := ba (109 :: decDigits k)
theorem ba_append (l m : Txt) : ba l ++ ba m = ba (l ++ m) := by
  apply ByteArray.ext
  rw [ByteArray.data_append]
  simp
theorem dec_step {k : Nat} (h : 0 < k) (t : Txt) (K : Nat) (hk : decDigits K = decDigits k ++ t) : (if k / 10 = 0 then decDigits K = UInt8.ofNat (48 + k % 10) :: t else decDigits K = decDigits (k / 10) ++ UInt8.ofNat (48 + k % 10) :: t) := by
  by_cases h1 : k < 10
  · rw [if_pos (by omega), hk, dec_small h1, show k % 10 = k by omega]; rfl
  · rw [if_neg (by omega), hk, dec_big h1]; simp
def DecAt (K k : Nat) (t : Txt) : Prop := if k = 0 then decDigits K = t else decDigits K = decDigits k ++ t
theorem DecAt.start {K : Nat} (h : 0 < K) : DecAt K K [] := by unfold DecAt; rw [if_neg (by omega)]; simp
theorem DecAt.step {K k : Nat} {t : Txt} (h : DecAt K k t) (hk : 0 < k) : DecAt K (k / 10) (UInt8.ofNat (48 + k % 10) :: t) := by
  unfold DecAt at h ⊢
  rw [if_neg (by omega)] at h
  exact dec_step hk t K h
theorem DecAt.done {K : Nat} {t : Txt} (h : DecAt K 0 t) : decDigits K = t := by unfold DecAt at h; rwa [if_pos rfl] at h
theorem DecAt.len {K k : Nat} {t : Txt} (h : DecAt K k t) : t.length ≤ (decDigits K).length := by
  unfold DecAt at h
  split at h
  · rw [h]; exact Nat.le_refl _
  · rw [h]; simp
end Go.Fx
namespace Go.Proofs.YtfmghfghhipmhaaDoor
open Go.RowKit Go.Fx Go.Lib Go.Sort
set_option linter.unusedVariables false
set_option linter.unusedSimpArgs false
theorem conv1 (W : World) (n : Nat) (h : n < 256) : (convert 32 9 (.slice (some ⟨W.heap.size, 0, none⟩) 1 1)).run Tryd.prog (W.alloc (.cells #[.int .u8 (n : Int)] 5)) = .ok (.string (ba [UInt8.ofNat n])) (W.alloc (.cells #[.int .u8 (n : Int)] 5)) := by
  have := run_convert_bytes_back (P := Tryd.prog) (W.alloc (.cells #[.int .u8 (n : Int)] 5)) 32 9 5 ⟨W.heap.size, 0, none⟩ 1 [UInt8.ofNat n] Tryd.underlying32 Tryd.underlying5 Tryd.underlying9 (fun j hj => by
    obtain rfl : j = 0 := by simpa using hj
    simp [Addr.add, of8 h])
  exact this
theorem conv1' (W : World) (k : Nat) : ∃ D : ByteArray, D = ba [UInt8.ofNat (48 + k % 10)] ∧ D.size = 1 ∧ (convert 32 9 (.slice (some ⟨W.heap.size, 0, none⟩) 1 1)).run Tryd.prog (W.alloc (.cells #[.int .u8 (48 + (k : Int) % 10)] 5)) = .ok (.string D) (W.alloc (.cells #[.int .u8 (48 + (k : Int) % 10)] 5)) := by
  have h := conv1 W (48 + k % 10) (by omega)
  have e : ((48 + k % 10 : Nat) : Int) = 48 + (k : Int) % 10 := by omega
  rw [e] at h
  exact ⟨_, rfl, by rw [ba_size]; rfl, h⟩
set_option maxRecDepth 100000 in
set_option maxHeartbeats 1000000 in
theorem markText_any (K : Nat) (h0 : 0 < K) (hk : K ≤ 2199023255552) (w : World) :
    Calls Tryd.prog 61 #[.int .i64 K] w fun e w' => e = .returned (.string (mkT K)) ∧ Ext w w' := by
  have h19 := Lib.hid (dec_len (k := 12) (u := K) (by omega))
  go_enter Tryd.func61, Tryd.ntmps61
  go_wp2
  go_loopw [0, 3] (fun i v wr => ∃ (k : Nat) (s : ByteArray), k ≤ K ∧ i = .int .i64 k ∧ v = .string s ∧ s.size ≤ 13 ∧ Hid (∃ t, s = ba t ∧ DecAt K k t) ∧ Ext w wr) (fun i _ _ => (intOf i).toNat)
  case atStart => exact ⟨K, ba [], Nat.le_refl _, rfl, rfl, by rw [ba_size]; simp, Lib.hid ⟨[], rfl, DecAt.start h0⟩, Ext.refl _⟩
  case round =>
    rename World => wo
    obtain ⟨k, s, hkK, rfl, rfl, hsz, HD, hbr⟩ := hrel
    by_cases hlt : 0 < k
    · obtain ⟨D, hD, hD1, hcv⟩ := conv1' wo k
      have HD1 := Lib.hid hD
      clear hD
      have hsum : ¬ 9223372036854775807 < D.size + s.size := by omega
      go_wp2
      go_roundw
      case rel =>
        obtain ⟨t, e1, e2⟩ := HD.out
        have hn := e2.step hlt
        refine ⟨k / 10, D ++ s, by omega, by go_num, rfl, ?_, Lib.hid ⟨_, by rw [e1, HD1.out, ba_append]; rfl, hn⟩, hbr.alloc _⟩
        rw [e1, HD1.out, ba_append, ba_size]
        exact Nat.le_trans hn.len h19.out
      case measure => simp [intOf]; omega
    · obtain rfl : k = 0 := by omega
      have hsum : ¬ 9223372036854775807 < 1 + s.size := by omega
      go_wp2
      go_ret
      obtain ⟨t, e1, e2⟩ := HD.out
      refine ⟨?_, hbr⟩
      rw [e1]
      unfold mkT
      rw [e2.done]
      have : ({ data := #[109] } : ByteArray) = ba [109] := rfl
      rw [this, ba_append]; rfl
/-- the marks that strings get -/
abbrev marksS (k0 : Nat) (n : Nat) : List Value := (List.range n).map fun (j : Nat) => st (mkT (k0 + j))
theorem marksS_at (k0 : Nat) {n k : Nat} (h : k < n) : (marksS k0 n)[k]? = some (st (mkT (k0 + k))) := by simp [h]
set_option maxHeartbeats 1000000 in
theorem markS_any (A : Option Addr) (c n : Nat) (k0 : Nat) (hn : n ≤ 1099511627776) (hk0 : 0 < k0) (hk1 : k0 ≤ 1099511627776) (xs : List Value) (base : Nat) (w : World) (h : w.ownsRow base 9 1 (.slice A n c) n xs) :
    Calls Tryd.prog 29 #[.slice A n c, .int .i64 k0] w fun e w' => e = .returned (.int .i64 (k0 + n)) ∧ w'.ownsRow base 9 1 (.slice A n c) n (marksS k0 n) ∧ w.grownBy w' (Value.slice A n c).ownBlock := by
  have hlen := h.1
  go_enter Tryd.func29, Tryd.ntmps29
  go_wp2
  go_loopw [1, 5] (fun q i wr => ∃ (k : Nat) (ys : List Value), k ≤ n ∧ i = .int .i64 k ∧ q = .int .i64 ((k0 + k : Nat) : Int) ∧ Upto k ys (marksS k0 n) ∧ wr.ownsRow base 9 1 (.slice A n c) n ys ∧ w.grownBy wr (Value.slice A n c).ownBlock) (fun _ i _ => n - (intOf i).toNat)
  case atStart => exact ⟨0, xs, Nat.zero_le _, rfl, by simp, Upto.zero (by simpa using hlen), h, grown_refl _ _⟩
  case round =>
    rename World => wo
    obtain ⟨k, ys, hk, rfl, rfl, hu, ho, hg⟩ := hrel
    clear hlen
    by_cases hlt : k < n
    · obtain ⟨g, rfl, hb, hgs⟩ := own_at ho (by omega)
      have hl : k < ys.length := by have := hu.1; simp at this; omega
      have HM := Lib.hid (fun W => markText_any (k0 + k) (by omega) (by omega) W)
      have hkk : ((k0 + k : Nat) : Int) ≤ 2199023255552 := by omega
      have HF := Lib.hid (fun W (hW : Ext wo W) => own_frozen (own_ext ho hW) k)
      have HC := Lib.hid (fun W (hW : Ext wo W) => own_cell (own_ext ho hW) (List.getElem?_eq_getElem hl))
      generalize hK : k0 + k = K at *
      go_wp2_with (go_at_call 61; refine (HM.out _).mono ?_; rintro e w1 ⟨rfl, hb1⟩; have hf := HF.out _ hb1; have hcell := HC.out _ hb1)
      go_roundw
      case rel =>
        have hst := marksS_at k0 hlt
        rw [hK] at hst
        refine ⟨k + 1, _, by omega, by go_num, ?_, hu.step hst, own_set (own_ext ho hb1) _, grown_set (p := ⟨g, k, none⟩) ?_ (.inl rfl) _⟩
        · rw [← hK]; go_num
        · exact ⟨hb1.os.trans hg.os, hb1.tape.trans hg.tape, hb1.output.trans hg.output, Nat.le_trans hg.size hb1.size, fun j hj hne => by rw [hb1.block j (Nat.lt_of_lt_of_le hj hg.size)]; exact hg.block j hj hne⟩
      case measure => simp [intOf]; omega
    · go_wp2
      go_ret
      obtain rfl : k = n := by omega
      have := Upto.all (ys := marksS k0 k) (by simpa using hu)
      subst this
      exact ⟨rfl, ho, hg⟩
set_option maxHeartbeats 1000000 in
theorem heldS_any (A : Option Addr) (c n : Nat) (k0 : Nat) (hn : n ≤ 1099511627776) (hk0 : 0 < k0) (hk1 : k0 ≤ 1099511627776) (w : World) (h : Rd w A (marksS k0 n)) :
    Calls Tryd.prog 60 #[.slice A n c, .int .i64 k0] w fun e w' => e = .returned (.int .i64 (k0 + n)) ∧ Ext w w' := by
  have H := Lib.hid h
  clear h
  go_enter Tryd.func60, Tryd.ntmps60
  go_wp2
  go_loopw [1, 5] (fun q i wr => ∃ (k : Nat), k ≤ n ∧ i = .int .i64 k ∧ q = .int .i64 ((k0 + k : Nat) : Int) ∧ Ext w wr) (fun _ i _ => n - (intOf i).toNat)
  case atStart => exact ⟨0, Nat.zero_le _, rfl, by simp, Ext.refl _⟩
  case round =>
    rename World => wo
    obtain ⟨k, hk, rfl, rfl, hbr⟩ := hrel
    by_cases hlt : k < n
    · obtain ⟨b, off, rfl, hbw, hc⟩ : ∃ b off, A = some ⟨b, off, none⟩ ∧ b < wo.heap.size ∧ wo.cell? ⟨b, off + k, none⟩ = some (.string (mkT (k0 + k))) := by
        rcases H.out.ext hbr with h | ⟨b, off, hA, hb, hc⟩
        · have := congrArg List.length h; simp at this; omega
        · exact ⟨b, off, hA, hb, hc k _ (marksS_at k0 hlt)⟩
      have HM := Lib.hid (fun W => markText_any (k0 + k) (by omega) (by omega) W)
      have hkk : ((k0 + k : Nat) : Int) ≤ 2199023255552 := by omega
      have hltI : (k : Int) < (n : Int) := by omega
      generalize hK : k0 + k = K at *
      go_wp2_with fail
      have c1 := cell_regrown hc
      have cM : ∀ dd os, Calls Tryd.prog 61 #[.int .i64 K] (grow (redrawn wo dd) os) fun e w'' => e = .returned (.string (mkT K)) ∧ ∃ p : Regrown, w'' = grow (redrawn wo p.d) p.os := fun dd os => Calls.regrown_of ((HM.out _).mono fun e w' ⟨a, b⟩ => ⟨a, b⟩)
      refine wp_region_quiet_below (by kernel_rfl) (by kernel_rfl) ?_
      repeat (any_goals (first | go_big_quiet_step (exact cM _ _) | quiet_step (exact cM _ _)))
      refine wpQuiet_nil ?_
      intro _ hw'
      obtain ⟨⟨dq, osq⟩, hw''⟩ := hw'
      subst hw''
      have hb6 : Ext wo (grow (redrawn wo dq) osq) := below_regrown wo dq osq
      clear c1 cM
      generalize grow (redrawn wo dq) osq = w6 at *
      go_wp2_with fail
      go_roundw
      case rel => exact ⟨k + 1, by omega, by go_num, by rw [← hK]; go_num, hbr.trans hb6⟩
      case measure => simp [intOf]; omega
    · go_wp2
      go_ret
      obtain rfl : k = n := by omega
      exact ⟨rfl, hbr⟩
set_option maxHeartbeats 1000000 in
theorem markSet_any (cells rows : Int) (slice least sat : Nat) (A : Option Addr) (c n : Nat) (k0 : Nat) (hn : n ≤ 1099511627776) (hk0 : 0 < k0) (hk1 : k0 ≤ 1099511627776) (xs : List Value) (base : Nat) (w : World) (h : w.ownsRow base 9 1 (.slice A n c) n xs) :
    Calls Tryd.prog 23 #[setV cells rows slice least sat (.slice A n c), .int .i64 k0] w fun e w' => e = .returned (.int .i64 (k0 + n)) ∧ w'.ownsRow base 9 1 (.slice A n c) n (marksS k0 n) ∧ w.grownBy w' (Value.slice A n c).ownBlock := by
  have hx : Ext w (w.alloc (.cells #[.int .i64 cells, .int .i64 rows, .float .f32 slice, .float .f32 least, .float .f32 sat, .slice A n c] 28)) := (Ext.refl _).alloc _
  go_enter Tryd.func23, Tryd.ntmps23
  go_wp2_with fail
  refine (markS_any A c n k0 hn hk0 hk1 xs base _ (own_ext h hx)).mono ?_
  rintro e w1 ⟨rfl, ho, hg⟩
  go_wp2_with fail
  go_ret
  exact ⟨rfl, ho, grown_trans (grown_ext' (grown_refl w _) hx) hg⟩
set_option maxHeartbeats 1000000 in
theorem heldSet_any (cells rows : Int) (slice least sat : Nat) (A : Option Addr) (c n : Nat) (k0 : Nat) (hn : n ≤ 1099511627776) (hk0 : 0 < k0) (hk1 : k0 ≤ 1099511627776) (w : World) (h : Rd w A (marksS k0 n)) :
    Calls Tryd.prog 24 #[setV cells rows slice least sat (.slice A n c), .int .i64 k0] w fun e w' => e = .returned (.int .i64 (k0 + n)) ∧ Ext w w' := by
  have hx : Ext w (w.alloc (.cells #[.int .i64 cells, .int .i64 rows, .float .f32 slice, .float .f32 least, .float .f32 sat, .slice A n c] 28)) := (Ext.refl _).alloc _
  go_enter Tryd.func24, Tryd.ntmps24
  go_wp2_with fail
  refine (heldS_any A c n k0 hn hk0 hk1 _ (h.ext hx)).mono ?_
  rintro e w1 ⟨rfl, hb⟩
  go_wp2_with fail
  go_ret
  exact ⟨rfl, hx.trans hb⟩
end Go.Proofs.YtfmghfghhipmhaaDoor

import Derived.Test.YtfmghfghhipmhaaDoorTq
namespace Go.Proofs.YtfmghfghhipmhaaDoor
open Go.RowKit Go.Fx Go.Sort
set_option linter.unusedVariables false
set_option linter.unusedSimpArgs false
theorem szS2_any (A : Option Addr) (c : Nat) (rs : List ByteArray) (left : Int) (w : World) (h : Rd w A (rs.map st)) (hn : rs.length ≤ maxLen) (hs : ∀ s ∈ rs, s.size ≤ maxLen) (h1 : 0 ≤ left) (h2 : left ≤ 1048576) :
    Calls Tryd.prog 25 #[.slice A rs.length c, .int .i64 left] w fun e w' => (∃ r : Int, e = .returned (.int .i64 r) ∧ r ≤ left ∧ (0 ≤ r → rs.length ≤ left ∧ ∀ s ∈ rs, s.size ≤ 1048576)) ∧ w = w' := by
  unfold maxLen at hn hs
  have HS := Lib.hid hs
  clear hs
  by_cases hb : left < rs.length
  · go_enter Tryd.func25, Tryd.ntmps25
    go_wp2
    go_ret
    exact ⟨⟨-1, rfl, by omega, by omega⟩, rfl⟩
  · go_enter Tryd.func25, Tryd.ntmps25
    go_wp2
    go_loop [1, 5] (fun l i => ∃ (k : Nat) (m : Int), k ≤ rs.length ∧ i = .int .i64 k ∧ l = .int .i64 m ∧ 0 ≤ m ∧ m ≤ left ∧ Hid (∀ j (hj : j < k) (hk : j < rs.length), rs[j].size ≤ 1048576)) (fun _ i => rs.length - (intOf i).toNat)
    case atStart => exact ⟨0, left - rs.length, Nat.zero_le _, rfl, by go_num, by omega, by omega, Lib.hid (fun j hj => absurd hj (Nat.not_lt_zero _))⟩
    case round =>
      obtain ⟨k, m, hk, rfl, rfl, hm0, hm1, HK⟩ := hrel
      by_cases hlt : k < rs.length
      · obtain ⟨b, off, rfl, hbw, hc⟩ := rs_at h hlt
        have hsz := HS.out _ (List.getElem_mem hlt)
        by_cases hneg : m - rs[k].size < 0
        · go_wp2
          go_ret
          exact ⟨⟨-1, rfl, by omega, by omega⟩, rfl⟩
        · have hx : rs[k].size ≤ 1048576 := by omega
          have HK2 : Hid (∀ j (hj : j < k + 1) (hk : j < rs.length), rs[j].size ≤ 1048576) := Lib.hid (fun j hj hk => by
            by_cases e : j = k
            · subst e; exact hx
            · exact HK.out j (by omega) hk)
          clear hx
          go_wp2
          go_round
          case rel => exact ⟨k + 1, m - rs[k].size, by omega, by go_num, by go_num, by omega, by omega, HK2⟩
          case measure => simp [intOf]; omega
      · go_wp2
        go_ret
        have hall : ∀ s ∈ rs, s.size ≤ 1048576 := fun s hs => by
          obtain ⟨j, hj, rfl⟩ := List.mem_iff_getElem.1 hs
          exact HK.out j (by omega) hj
        exact ⟨⟨m, rfl, hm1, by first | exact fun _ => hall | exact fun _ => ⟨by omega, hall⟩⟩, rfl⟩
theorem bs_at {w : World} {A : Option Addr} {rs : List Bool} (h : Rd w A (rs.map bo)) {i : Nat} (hi : i < rs.length) :
    ∃ b off, A = some ⟨b, off, none⟩ ∧ b < w.heap.size ∧ w.cell? ⟨b, off + i, none⟩ = some (.bool rs[i]) := by
  rcases h with h | ⟨b, off, hA, hb, hc⟩
  · have : rs = [] := by simpa using h
    subst this; simp at hi
  · exact ⟨b, off, hA, hb, hc i _ (by simp [hi])⟩
theorem eqB_any (A B : Option Addr) (c d : Nat) (rs : List Bool) (w : World) (h : Rd w A (rs.map bo)) (h' : Rd w B (rs.map bo)) (hn : rs.length ≤ maxLen) :
    Calls Tryd.prog 34 #[.slice A rs.length c, .slice B rs.length d] w fun e w' => e = .returned (.bool true) ∧ ∃ n, w' = w.drewN n := by
  unfold maxLen at hn
  go_enter Tryd.func34, Tryd.ntmps34
  go_wp2
  go_loopw [5] (fun i wr => ∃ (k : Nat), k ≤ rs.length ∧ i = .int .i64 k ∧ ∃ n, wr = w.drewN n) (fun i _ => rs.length - (intOf i).toNat)
  case atStart => exact ⟨0, Nat.zero_le _, rfl, 0, rfl⟩
  case round =>
    obtain ⟨k, hk, rfl, n, rfl⟩ := hrel
    by_cases hlt : k < rs.length
    · obtain ⟨b, off, rfl, hbw, hc⟩ := bs_at h hlt
      obtain ⟨b', off', rfl, hbw', hc'⟩ := bs_at h' hlt
      go_wp2_with fail
      go_quiet (fail)
      go_wp2
      go_roundw
      case rel => exact ⟨k + 1, by omega, by go_num, _, rfl⟩
      case measure => simp [intOf]; omega
    · go_wp2
      go_ret
      exact ⟨rfl, n, rfl⟩
/-- the marks that flags get -/
abbrev marksB (k0 : Nat) (n : Nat) : List Value := (List.range n).map fun (j : Nat) => bo ((((k0 + j : Nat) : Int)).tmod 3 == 0)
theorem marksB_at (k0 : Nat) {n k : Nat} (h : k < n) : (marksB k0 n)[k]? = some (bo ((((k0 + k : Nat) : Int)).tmod 3 == 0)) := by simp [h]
set_option maxHeartbeats 1000000 in
theorem markB_any (A : Option Addr) (c n : Nat) (k0 : Nat) (hn : n ≤ 1099511627776) (hk0 : 0 < k0) (hk1 : k0 ≤ 1099511627776) (xs : List Value) (base : Nat) (w : World) (h : w.ownsRow base 4 1 (.slice A n c) n xs) :
    Calls Tryd.prog 35 #[.slice A n c, .int .i64 k0] w fun e w' => e = .returned (.int .i64 (k0 + n)) ∧ w'.ownsRow base 4 1 (.slice A n c) n (marksB k0 n) ∧ w.grownBy w' (Value.slice A n c).ownBlock := by
  have hlen := h.1
  go_enter Tryd.func35, Tryd.ntmps35
  go_wp2
  go_loopw [1, 5] (fun q i wr => ∃ (k : Nat) (ys : List Value), k ≤ n ∧ i = .int .i64 k ∧ q = .int .i64 ((k0 + k : Nat) : Int) ∧ Upto k ys (marksB k0 n) ∧ wr.ownsRow base 4 1 (.slice A n c) n ys ∧ w.grownBy wr (Value.slice A n c).ownBlock) (fun _ i _ => n - (intOf i).toNat)
  case atStart => exact ⟨0, xs, Nat.zero_le _, rfl, by simp, Upto.zero (by simpa using hlen), h, grown_refl _ _⟩
  case round =>
    rename World => wo
    obtain ⟨k, ys, hk, rfl, rfl, hu, ho, hg⟩ := hrel
    clear hlen
    by_cases hlt : k < n
    · obtain ⟨g, rfl, hb, hgs⟩ := own_at ho (by omega)
      have hf := own_frozen ho k
      have hl : k < ys.length := by have := hu.1; simp at this; omega
      have hcell : ∃ u, wo.cell? ⟨g, k, none⟩ = some u := ⟨_, own_cell ho (List.getElem?_eq_getElem hl)⟩
      obtain ⟨u0, hcell⟩ := hcell
      have hst := marksB_at k0 hlt
      have HST := Lib.hid hst
      clear hst
      generalize hK : k0 + k = K at *
      have hKb : K ≤ 2199023255552 := by omega
      have HK := Lib.hid hK
      go_wp2
      go_roundw
      case rel => exact ⟨k + 1, _, by omega, by go_num, by rw [← Nat.add_assoc, HK.out]; go_num, hu.step HST.out, own_set ho _, grown_set (p := ⟨g, k, none⟩) hg (.inl rfl) _⟩
      case measure => simp [intOf]; omega
    · go_wp2
      go_ret
      obtain rfl : k = n := by omega
      have := Upto.all (ys := marksB k0 k) (by simpa using hu)
      subst this
      exact ⟨rfl, ho, hg⟩
set_option maxHeartbeats 1000000 in
theorem heldB_any (A : Option Addr) (c n : Nat) (k0 : Nat) (hn : n ≤ 1099511627776) (hk0 : 0 < k0) (hk1 : k0 ≤ 1099511627776) (w : World) (h : Rd w A (marksB k0 n)) :
    Calls Tryd.prog 36 #[.slice A n c, .int .i64 k0] w fun e w' => e = .returned (.int .i64 (k0 + n)) ∧ w = w' := by
  have H := Lib.hid h
  clear h
  go_enter Tryd.func36, Tryd.ntmps36
  go_wp2
  go_loop [1, 5] (fun q i => ∃ (k : Nat), k ≤ n ∧ i = .int .i64 k ∧ q = .int .i64 ((k0 + k : Nat) : Int)) (fun _ i => n - (intOf i).toNat)
  case atStart => exact ⟨0, Nat.zero_le _, rfl, by simp⟩
  case round =>
    obtain ⟨k, hk, rfl, rfl⟩ := hrel
    by_cases hlt : k < n
    · obtain ⟨b, off, rfl, hbw, hc⟩ : ∃ b off, A = some ⟨b, off, none⟩ ∧ b < w.heap.size ∧ w.cell? ⟨b, off + k, none⟩ = some (bo ((((k0 + k : Nat) : Int)).tmod 3 == 0)) := by
        rcases H.out with h | ⟨b, off, hA, hb, hc⟩
        · have := congrArg List.length h; simp at this; omega
        · exact ⟨b, off, hA, hb, hc k _ (marksB_at k0 hlt)⟩
      generalize hK : k0 + k = K at *
      have hKb : K ≤ 2199023255552 := by omega
      have HK := Lib.hid hK
      go_wp2
      go_round
      case rel => exact ⟨k + 1, by omega, by go_num, by rw [← Nat.add_assoc, HK.out]; go_num⟩
      case measure => simp [intOf]; omega
    · go_wp2
      go_ret
      obtain rfl : k = n := by omega
      exact ⟨rfl, rfl⟩
theorem markS2_any (A : Option Addr) (c n k0 : Nat) (K0 : Int) (hK : K0 = (k0 : Int)) (hn : n ≤ 1099511627776) (hk0 : 0 < k0) (hk1 : k0 ≤ 1099511627776) (xs : List Value) (base : Nat) (w : World) (h : w.ownsRow base 9 1 (.slice A n c) n xs) :
    Calls Tryd.prog 29 #[.slice A n c, .int .i64 K0] w fun e w' => e = .returned (.int .i64 (K0 + n)) ∧ w'.ownsRow base 9 1 (.slice A n c) n (marksS k0 n) ∧ w.grownBy w' (Value.slice A n c).ownBlock := by
  subst hK; exact markS_any A c n k0 hn hk0 hk1 xs base w h
theorem markB2_any (A : Option Addr) (c n k0 : Nat) (K0 : Int) (hK : K0 = (k0 : Int)) (hn : n ≤ 1099511627776) (hk0 : 0 < k0) (hk1 : k0 ≤ 1099511627776) (xs : List Value) (base : Nat) (w : World) (h : w.ownsRow base 4 1 (.slice A n c) n xs) :
    Calls Tryd.prog 35 #[.slice A n c, .int .i64 K0] w fun e w' => e = .returned (.int .i64 (K0 + n)) ∧ w'.ownsRow base 4 1 (.slice A n c) n (marksB k0 n) ∧ w.grownBy w' (Value.slice A n c).ownBlock := by
  subst hK; exact markB_any A c n k0 hn hk0 hk1 xs base w h
theorem heldB2_any (A : Option Addr) (c n k0 : Nat) (K0 : Int) (hK : K0 = (k0 : Int)) (hn : n ≤ 1099511627776) (hk0 : 0 < k0) (hk1 : k0 ≤ 1099511627776) (w : World) (h : Rd w A (marksB k0 n)) :
    Calls Tryd.prog 36 #[.slice A n c, .int .i64 K0] w fun e w' => e = .returned (.int .i64 (K0 + n)) ∧ w = w' := by
  subst hK; exact heldB_any A c n k0 hn hk0 hk1 w h
end Go.Proofs.YtfmghfghhipmhaaDoor

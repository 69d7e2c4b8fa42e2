import Derived.Test.YtiddaabodkglmaaEd
import Derived.Test.YtiddaabodkglmaaK3
import Derived.Test.YtiddaabodkglmaaCh
namespace Go.Fx
open Go.RowKit
set_option linter.unusedVariables false
set_option linter.unusedSimpArgs false
theorem lineR_len (row : List Cel) (odd : Bool) : (lineR row odd).length ≤ 280 := by
  unfold lineR
  split
  · rename_i h
    have := (rowOk_len h).2
    rw [List.length_append, List.length_append, List.length_replicate, encode_len, encode_len]
    simp [burstC]
    omega
  · simp
/-- samples that were drawn: they lie above the cursor -/
def Drawn (bk : Nat) (w : World) (A : Option Addr) (c : Nat) (gs : List Nat) : Prop :=
  Rd w A (gs.map fl) ∧ (A = none → gs.length = 0) ∧ gs.length ≤ c ∧ ∀ a, A = some a → bk < a.block
theorem Drawn.ext {bk : Nat} {w w' : World} {A : Option Addr} {c : Nat} {gs : List Nat} (h : Drawn bk w A c gs) (e : Ext w w') : Drawn bk w' A c gs := ⟨h.1.ext e, h.2⟩
theorem Drawn.up {bk : Nat} {w w' : World} {A : Option Addr} {c : Nat} {gs : List Nat} (h : Drawn bk w A c gs) (t : Turn bk (bk + 1) w w') : Drawn bk w' A c gs :=
  ⟨rd_turn h.1 t (fun a ha _ => .inr (h.2.2.2 a ha)), h.2⟩
theorem drawn_own {bk base c n : Nat} {w : World} {E : TypeId} {A : Option Addr} {gs : List Nat} (h : w.ownsRow base E 1 (.slice A n c) n (gs.map fl)) (hb : bk < base) : Drawn bk w A c gs := by
  have hl : gs.length = n := by have := h.1; simpa using this
  refine ⟨own_rd h, fun hA => ?_, by rw [hl]; exact own_cap h, fun a ha => ?_⟩
  · subst hA
    rcases own_form h with ⟨_, h2, _⟩ | ⟨g, c', hv, _⟩
    · omega
    · cases hv
  · subst ha
    have := (h.lt a.block rfl).1
    omega
theorem drawn_cut {bk c off b i : Nat} {w : World} {gs : List Nat} (h : Drawn bk w (some ⟨b, off, none⟩) c gs) (hi : i ≤ gs.length) : Drawn bk w (some ⟨b, off + i, none⟩) (c - i) (gs.drop i) := by
  refine ⟨?_, (fun h => by cases h), ?_, fun a ha => ?_⟩
  · have := rd_cut h.1 i (gs.length - i)
    unfold cutF at this
    rwa [List.take_of_length_le (by simp)] at this
  · have := h.2.2.1; simp; omega
  · cases ha; exact h.2.2.2 ⟨b, off, none⟩ rfl
end Go.Fx
namespace Go.Proofs.Ytiddaabodkglmaa
open Go.RowKit Go.Fx
set_option linter.unusedVariables false
set_option linter.unusedSimpArgs false
set_option maxRecDepth 100000 in
set_option maxHeartbeats 4000000 in
/-- the line of a stream: drawn, made, perhaps turned -/
theorem stream_any (bk : Nat) (w : World) (h : Cu w bk) :
    Calls Try.prog 179 #[.pointer (some ⟨bk, 0, none⟩)] w fun e w' => (∃ A c gs n, e = .returned (.tuple #[.slice A gs.length c, .int .i64 n]) ∧ Drawn bk w' A c gs ∧ gs.length ≤ 2000 ∧ 28 ≤ n ∧ n ≤ 36) ∧ CuT bk w w' := by
  have hz := h.size
  have ha : Ext w (w.alloc (.cells #[] 29)) := (Ext.refl _).alloc _
  have hnew := own_new w w.heap.size 29 1 (Nat.le_refl _)
  go_enter Try.func179, Try.ntmps179
  go_wp2_with fail
  refine (below_any bk 3 _ (h.ext ha) (by omega)).mono ?_
  rintro e w1 ⟨⟨n0, rfl, hn0, hn1, -⟩, hc1⟩
  replace hnew := own_up hnew hc1.2 hz
  replace hc1 := (CuT.ext (CuT.refl h) ha).trans hc1
  have hn2 := hn1 (by omega)
  clear hn1
  go_wp2_with fail
  refine (below_any bk 7 _ hc1.1 (by omega)).mono ?_
  rintro e w2 ⟨⟨k0, rfl, hk0, hk1, -⟩, hc2⟩
  replace hnew := own_up hnew hc2.2 hz
  replace hc2 := hc1.trans hc2
  have hk2 := hk1 (by omega)
  clear hk1 hc1 ha
  go_wp2_with fail
  go_loopw [4, 6, 7, 8, 9, 10] (fun v k z1 z2 z3 z4 wr => ∃ (kk : Int) (gs : List Nat) (m : Nat), k = .int .i64 kk ∧ 0 ≤ kk ∧ kk ≤ 6 ∧ gs.length = m ∧ (m : Int) ≤ 281 * (6 - kk) ∧ wr.ownsRow w.heap.size 29 1 v m (gs.map fl) ∧ CuT bk w wr) (fun _ k _ _ _ _ _ => (intOf k).toNat)
  case atStart => exact ⟨k0, [], 0, rfl, hk0, by omega, rfl, by omega, hnew, hc2⟩
  case round =>
    rename World => wo
    obtain ⟨kk, gs, m, rfl, hkk0, hkk1, hgl, hm, ho, hcu⟩ := hrel
    clear hnew hc2
    have hwo : w.heap.size ≤ wo.heap.size := hcu.size
    obtain ⟨A1, c1, rfl, -, z1⟩ := own_slice ho
    by_cases hpos : 0 < kk
    · have hnr := own_new wo wo.heap.size 90 2 (Nat.le_refl _)
      have har : Ext wo (wo.alloc (.cells #[] 90)) := (Ext.refl _).alloc _
      go_wp2_with fail
      go_loopw [7, 8, 9] (fun v i z wr => ∃ (j : Nat) (row : List Cel), (j : Int) ≤ 1 + n0 ∧ i = .int .i64 j ∧ row.length = j ∧ wr.ownsRow wo.heap.size 90 2 v j (ccells row) ∧ CuT bk wo wr) (fun _ i _ _ => 4 - (intOf i).toNat)
      case atStart => exact ⟨0, [], by omega, rfl, rfl, hnr, (CuT.ext (CuT.refl hcu.1) har)⟩
      case round =>
        obtain ⟨j, row, hj, rfl, hrl, hor, hcr⟩ := hrel
        clear hnr har
        obtain ⟨A2, c2, rfl, -, -⟩ := own_slice hor
        have hbz : bk < wo.heap.size := hcu.1.size
        by_cases hlt : (j : Int) < 1 + n0
        · go_wp2_with fail
          refine (plain_any bk _ hcr.1).mono ?_
          rintro e w3 ⟨⟨d, rfl, -, -, -⟩, hc3⟩
          replace hor := own_up hor hc3.2 hbz
          have hc4 := CuT.trans hcr hc3
          clear hcr hc3
          cases hneg : flt .f32 d.y 0
          · go_wp2_with (at_builtin; refine wpList_app rfl _ _ 43 rfl wo.heap.size 90 _ 2 12 Try.underlying43 info_cell rfl (by omega) (.slice A2 j c2) j (ccells row) rfl (own_ext hor (by (repeat (first | exact Below.refl _ _ | assumption | refine below_drewN ?_ _ | refine Below.drew ?_ | refine Below.alloc ?_ (by first | exact Nat.le_refl _ | (simp; done) | (simp; omega)) _ | refine Below.setCell ?_ (by first | exact Nat.le_refl _ | (simp; done) | (simp; omega)) _)))) _ 1 1 _ rfl (rd_at (by simp [World.setCell])) rfl (fun h => by cases h) (by intro u hu; simp at hu; rcases hu with rfl | rfl <;> rfl) (by unfold maxLen; omega) (by omega) (by have := hc4.size; simp [World.setCell]; omega) ?_; intro v1 w5 hown hg hat)
            go_roundw
            case rel => exact ⟨j + 1, row ++ [⟨d.y, d.re, d.im⟩], by omega, by go_num, by simp [hrl], by simpa [snoc2] using hown, CuT.grow (CuT.ext hc4 (by (repeat (first | exact Below.refl _ _ | assumption | refine below_drewN ?_ _ | refine Below.drew ?_ | refine Below.alloc ?_ (by first | exact Nat.le_refl _ | (simp; done) | (simp; omega)) _ | refine Below.setCell ?_ (by first | exact Nat.le_refl _ | (simp; done) | (simp; omega)) _)))) (own_ext hor (by (repeat (first | exact Below.refl _ _ | assumption | refine below_drewN ?_ _ | refine Below.drew ?_ | refine Below.alloc ?_ (by first | exact Nat.le_refl _ | (simp; done) | (simp; omega)) _ | refine Below.setCell ?_ (by first | exact Nat.le_refl _ | (simp; done) | (simp; omega)) _)))) (Nat.le_refl _) hg hbz⟩
            case measure => simp [intOf]; omega
          · go_wp2_with (at_builtin; refine wpList_app rfl _ _ 43 rfl wo.heap.size 90 _ 2 12 Try.underlying43 info_cell rfl (by omega) (.slice A2 j c2) j (ccells row) rfl (own_ext hor (by (repeat (first | exact Below.refl _ _ | assumption | refine below_drewN ?_ _ | refine Below.drew ?_ | refine Below.alloc ?_ (by first | exact Nat.le_refl _ | (simp; done) | (simp; omega)) _ | refine Below.setCell ?_ (by first | exact Nat.le_refl _ | (simp; done) | (simp; omega)) _)))) _ 1 1 _ rfl (rd_at (by simp [World.setCell])) rfl (fun h => by cases h) (by intro u hu; simp at hu; rcases hu with rfl | rfl <;> rfl) (by unfold maxLen; omega) (by omega) (by have := hc4.size; simp [World.setCell]; omega) ?_; intro v1 w5 hown hg hat)
            go_roundw
            case rel => exact ⟨j + 1, row ++ [⟨Op.negFloat .f32 d.y, d.re, d.im⟩], by omega, by go_num, by simp [hrl], by simpa [snoc2] using hown, CuT.grow (CuT.ext hc4 (by (repeat (first | exact Below.refl _ _ | assumption | refine below_drewN ?_ _ | refine Below.drew ?_ | refine Below.alloc ?_ (by first | exact Nat.le_refl _ | (simp; done) | (simp; omega)) _ | refine Below.setCell ?_ (by first | exact Nat.le_refl _ | (simp; done) | (simp; omega)) _)))) (own_ext hor (by (repeat (first | exact Below.refl _ _ | assumption | refine below_drewN ?_ _ | refine Below.drew ?_ | refine Below.alloc ?_ (by first | exact Nat.le_refl _ | (simp; done) | (simp; omega)) _ | refine Below.setCell ?_ (by first | exact Nat.le_refl _ | (simp; done) | (simp; omega)) _)))) (Nat.le_refl _) hg hbz⟩
            case measure => simp [intOf]; omega
        · have hbz : bk < wo.heap.size := hcu.1.size
          have hjl : j ≤ 3 := by omega
          have hio := own_in ho
          have hmk : ∀ q, Calls Try.prog 226 #[.slice A2 j c2, .bool q] wr fun e w' => (∃ v g, e = .returned v ∧ OF w' wr.heap.size v g ∧ cns g = lineR (cnC row) q) ∧ Ext wr w' := fun q => by
            have := sMakeLine_any A2 c2 row q wr (own_rd hor) (by omega)
            rw [hrl] at this
            exact this
          go_wp2_with fail
          refine (hmk _).mono ?_
          rintro e w3 ⟨⟨v3, g3, rfl, ho3, hg3⟩, hb3⟩
          have hl3 : g3.length ≤ 280 := by
            have := congrArg List.length hg3
            rw [List.length_map] at this
            rw [this]
            exact lineR_len _ _
          unfold OF at ho3
          generalize hgn3 : g3.length = m3 at ho3 hl3
          replace ho := own_ext (own_up ho hcr.2 hz) hb3
          replace ho3 := own_base ho3 hcr.size
          have hcL := CuT.ext hcr hb3
          obtain ⟨A3, c3, rfl, -, z3⟩ := own_slice ho3
          clear hmk hg3 hb3 hor hcr
          go_wp2_with fail
          refine (once_any bk 4 _ hcL.1 (by omega)).mono ?_
          rintro e w4 ⟨⟨q, rfl⟩, hc4⟩
          replace ho := own_up ho hc4.2 hz
          replace ho3 := own_up ho3 hc4.2 hbz
          replace hcL := hcL.trans hc4
          clear hc4
          cases q
          · go_wp2_with fail
            refine (once_any bk 10 _ hcL.1 (by omega)).mono ?_
            rintro e w6 ⟨⟨q, rfl⟩, hc6⟩
            have hoW := own_up ho hc6.2 hz
            have ho7 := own_up ho3 hc6.2 hbz
            have hcL6 := hcL.trans hc6
            have hcW := hcu.trans hcL6
            have HONE : Hid (∀ u ∈ g3.map fl ++ #[Value.float .f32 1065353216].toList, u.oneCell' = true) := Lib.hid (by
              intro u hu
              rcases List.mem_append.1 hu with hu | hu
              · exact oneCell_fl u hu
              · simp at hu; subst hu; rfl)
            have HOWN : Hid (∀ (o : Obj) (w8 : World), (w6.alloc o).grownBy w8 (Value.slice A3 m3 c3).ownBlock → w8.ownsRow w.heap.size 29 1 (.slice A1 m c1) m (gs.map fl) ∧ CuT bk w w8 ∧ w.heap.size ≤ w8.heap.size) := Lib.hid (fun o w8 hg8 => by
              have hal : Ext w6 (w6.alloc o) := (Ext.refl _).alloc _
              have h7 := own_ext ho7 hal
              exact ⟨own_past (own_ext hoW hal) hg8 hio (own_in h7) (.inl (Nat.le_refl _)), CuT.grow (hcW.ext hal) h7 hwo hg8 hz, Nat.le_trans (hcW.ext hal).size hg8.size⟩)
            clear hc6 ho ho3 hcL
            cases q
            · go_wp2_with (at_builtin; refine wpList_app rfl _ _ 22 rfl w.heap.size 29 _ 1 4 Try.underlying22 info_f32 rfl (by omega) (.slice A1 m c1) m (gs.map fl) rfl hoW A3 m3 c3 ((g3).map fl) rfl (own_rd ho7) (by rw [List.length_map, hgn3, Nat.mul_one]) z3 oneCell_fl (by unfold maxLen; omega) (by omega) hcW.size ?_; intro v11 w11 hown hg hat)
              go_roundw
              case rel => exact ⟨kk - 1, gs ++ (g3), m + m3, by go_num, by omega, by omega, by simp [hgl, hgn3]; try omega, by omega, by rw [List.map_append]; exact hown, CuT.grow hcW hoW (Nat.le_refl _) hg hz⟩
              case measure => simp [intOf]; omega
            · go_wp2_with (first | (at_builtin; refine wpList_app rfl _ _ 22 rfl wo.heap.size 29 _ 1 4 Try.underlying22 info_f32 rfl (by omega) (.slice A3 m3 c3) m3 (g3.map fl) rfl (own_ext ho7 ((Ext.refl _).alloc _)) _ 1 1 _ rfl (rd_new _ _ _ _) rfl (fun h => by cases h) (by intro u hu; simp at hu; rcases hu with rfl; rfl) (by unfold maxLen; omega) (by omega) (Nat.le_trans hcL6.size (by simp)) ?_; intro v8 w8 hown8 hg8 hat8; obtain ⟨A8, c8, rfl, -, z8⟩ := own_slice hown8) | (at_builtin; refine wpList_app rfl _ _ 22 rfl w.heap.size 29 _ 1 4 Try.underlying22 info_f32 rfl (by omega) (.slice A1 m c1) m (gs.map fl) rfl (HOWN.out _ _ hg8).1 A8 (m3 + 1) c8 _ rfl (own_rd hown8) hown8.1 z8 HONE.out (by unfold maxLen; omega) (by omega) (HOWN.out _ _ hg8).2.2 ?_; intro v11 w11 hown hg hat))
              go_roundw
              case rel => exact ⟨kk - 1, gs ++ (g3 ++ [1065353216]), m + (m3 + 1), by go_num, by omega, by omega, by simp [hgl, hgn3], by omega, by simpa using hown, CuT.grow (HOWN.out _ _ hg8).2.1 (HOWN.out _ _ hg8).1 (Nat.le_refl _) hg hz⟩
              case measure => simp [intOf]; omega
          · go_wp2_with fail
            refine (below_any bk 4 _ hcL.1 (by omega)).mono ?_
            rintro e w5 ⟨⟨x, rfl, hx0, hx1, -⟩, hc5⟩
            have hx2 := hx1 (by omega)
            clear hx1
            replace ho := own_up ho hc5.2 hz
            replace ho3 := own_up ho3 hc5.2 hbz
            replace hcL := hcL.trans hc5
            clear hc5
            have her := sErase_any A3 c3 g3 x 8 w5 (own_rd ho3) (by rw [hgn3]; exact z3) (by omega) (by omega) (by omega)
            rw [hgn3] at her
            go_wp2_with fail
            refine Calls.mono her ?_
            rintro e w55 ⟨⟨v5, rfl, ho5⟩, hb5⟩
            have hl5 : (erase g3 x 8).length = m3 := by rw [erase_len, hgn3]
            unfold OF at ho5
            rw [hl5] at ho5
            replace ho := own_ext ho hb5
            replace ho5 := own_base ho5 hcL.size
            replace hcL := CuT.ext hcL hb5
            generalize erase g3 x 8 = g5 at ho5 hl5
            obtain ⟨A5, c5, rfl, -, z5⟩ := own_slice ho5
            clear her hb5 ho3
            go_wp2_with fail
            refine (once_any bk 10 _ hcL.1 (by omega)).mono ?_
            rintro e w6 ⟨⟨q, rfl⟩, hc6⟩
            have hoW := own_up ho hc6.2 hz
            have ho7 := own_up ho5 hc6.2 hbz
            have hcL6 := hcL.trans hc6
            have hcW := hcu.trans hcL6
            have HONE : Hid (∀ u ∈ g5.map fl ++ #[Value.float .f32 1065353216].toList, u.oneCell' = true) := Lib.hid (by
              intro u hu
              rcases List.mem_append.1 hu with hu | hu
              · exact oneCell_fl u hu
              · simp at hu; subst hu; rfl)
            have HOWN : Hid (∀ (o : Obj) (w8 : World), (w6.alloc o).grownBy w8 (Value.slice A5 m3 c5).ownBlock → w8.ownsRow w.heap.size 29 1 (.slice A1 m c1) m (gs.map fl) ∧ CuT bk w w8 ∧ w.heap.size ≤ w8.heap.size) := Lib.hid (fun o w8 hg8 => by
              have hal : Ext w6 (w6.alloc o) := (Ext.refl _).alloc _
              have h7 := own_ext ho7 hal
              exact ⟨own_past (own_ext hoW hal) hg8 hio (own_in h7) (.inl (Nat.le_refl _)), CuT.grow (hcW.ext hal) h7 hwo hg8 hz, Nat.le_trans (hcW.ext hal).size hg8.size⟩)
            clear hc6 ho ho5 hcL
            cases q
            · go_wp2_with (at_builtin; refine wpList_app rfl _ _ 22 rfl w.heap.size 29 _ 1 4 Try.underlying22 info_f32 rfl (by omega) (.slice A1 m c1) m (gs.map fl) rfl hoW A5 m3 c5 ((g5).map fl) rfl (own_rd ho7) (by rw [List.length_map, hl5, Nat.mul_one]) z5 oneCell_fl (by unfold maxLen; omega) (by omega) hcW.size ?_; intro v11 w11 hown hg hat)
              go_roundw
              case rel => exact ⟨kk - 1, gs ++ (g5), m + m3, by go_num, by omega, by omega, by simp [hgl, hl5]; try omega, by omega, by rw [List.map_append]; exact hown, CuT.grow hcW hoW (Nat.le_refl _) hg hz⟩
              case measure => simp [intOf]; omega
            · go_wp2_with (first | (at_builtin; refine wpList_app rfl _ _ 22 rfl wo.heap.size 29 _ 1 4 Try.underlying22 info_f32 rfl (by omega) (.slice A5 m3 c5) m3 (g5.map fl) rfl (own_ext ho7 ((Ext.refl _).alloc _)) _ 1 1 _ rfl (rd_new _ _ _ _) rfl (fun h => by cases h) (by intro u hu; simp at hu; rcases hu with rfl; rfl) (by unfold maxLen; omega) (by omega) (Nat.le_trans hcL6.size (by simp)) ?_; intro v8 w8 hown8 hg8 hat8; obtain ⟨A8, c8, rfl, -, z8⟩ := own_slice hown8) | (at_builtin; refine wpList_app rfl _ _ 22 rfl w.heap.size 29 _ 1 4 Try.underlying22 info_f32 rfl (by omega) (.slice A1 m c1) m (gs.map fl) rfl (HOWN.out _ _ hg8).1 A8 (m3 + 1) c8 _ rfl (own_rd hown8) hown8.1 z8 HONE.out (by unfold maxLen; omega) (by omega) (HOWN.out _ _ hg8).2.2 ?_; intro v11 w11 hown hg hat))
              go_roundw
              case rel => exact ⟨kk - 1, gs ++ (g5 ++ [1065353216]), m + (m3 + 1), by go_num, by omega, by omega, by simp [hgl, hl5], by omega, by simpa using hown, CuT.grow (HOWN.out _ _ hg8).2.1 (HOWN.out _ _ hg8).1 (Nat.le_refl _) hg hz⟩
              case measure => simp [intOf]; omega
    · obtain rfl : kk = 0 := by omega
      subst hgl
      have hl : gs.length ≤ 2000 := by omega
      have hcp := own_cap ho
      go_wp2_with fail
      refine (once_any bk 6 _ hcu.1 (by omega)).mono ?_
      rintro e w3 ⟨⟨q, rfl⟩, hc3⟩
      replace ho := own_up ho hc3.2 hz
      have hcc := hcu.trans hc3
      clear hc3 hcu
      cases q
      · have HD := Lib.hid (drawn_own ho hz)
        go_wp2_with fail
        go_ret2
        exact ⟨⟨A1, c1, gs, _, rfl, HD.out, hl, by omega, by omega⟩, hcc⟩
      · by_cases h3 : 3 < gs.length
        · obtain ⟨g, rfl, hg1, hg2⟩ := own_at ho (by omega)
          go_wp2_with fail
          refine (below_any bk 3 _ hcc.1 (by omega)).mono ?_
          rintro e w4 ⟨⟨x, rfl, hx0, hx1, -⟩, hc4⟩
          have hx2 := hx1 (by omega)
          clear hx1
          obtain ⟨p, rfl⟩ : ∃ p : Nat, x = p := ⟨x.toNat, by omega⟩
          replace ho := own_up ho hc4.2 hz
          have HD := Lib.hid (drawn_cut (i := p) (drawn_own ho hz) (by omega))
          have hc5 := hcc.trans hc4
          have hdl : (gs.drop p).length = gs.length - p := by simp
          go_wp2_with fail
          go_ret2
          exact ⟨⟨some ⟨g, 0 + p, none⟩, c1 - p, gs.drop p, 24 + 4 * (1 + n0), by rw [hdl, Nat.zero_add]; rfl, HD.out, by rw [hdl]; omega, by omega, by omega⟩, hc5⟩
        · have HD := Lib.hid (drawn_own ho hz)
          go_wp2_with fail
          go_ret2
          exact ⟨⟨A1, c1, gs, _, rfl, HD.out, hl, by omega, by omega⟩, hcc⟩
end Go.Proofs.Ytiddaabodkglmaa

import Derived.Test.YtfmghfghhipmhaaDoorSl
import Derived.Test.YtfmghfghhipmhaaDoorSm
import Derived.Lib.LaidTab
namespace Go.Proofs.YtfmghfghhipmhaaDoor
open Go.RowKit Go.Fx Go.Sort
open Go.Lib (decDigits)
set_option linter.unusedVariables false
set_option linter.unusedSimpArgs false
/-- what the library's functions read of package-level variables -/
structure Env (w : World) : Prop where
  tab : Lib.TabIs Tryd.prog w "internal/strconv.uint64pow10" .u64 Lib.pow10Tab
  max : ∃ m : Int, w.cell? ⟨1, 0, none⟩ = some (.int .i64 m)
theorem glob_tab : Tryd.prog.globalNamed "internal/strconv.uint64pow10" = some 2 := by kernel_rfl
theorem tab_ext {n : String} {g : Nat} {k : IntKind} {zs : List Int} {w w' : World} (hg : Tryd.prog.globalNamed n = some g) (h : Lib.TabIs Tryd.prog w n k zs) (hb : Ext w w') : Lib.TabIs Tryd.prog w' n k zs := by
  unfold Lib.TabIs World.var? at h ⊢
  rw [hg] at h ⊢
  simp only [Option.bind_some] at h ⊢
  have hlt : g < w.heap.size := by
    rcases Nat.lt_or_ge g w.heap.size with h' | h'
    · exact h'
    · rw [Array.getElem?_eq_none h'] at h; cases h
  rw [hb.block g hlt]
  exact h
theorem Env.ext {w w' : World} (h : Env w) (e : Ext w w') : Env w' :=
  ⟨tab_ext glob_tab h.tab e, by obtain ⟨m, hm⟩ := h.max; exact ⟨m, (Below.cell e (p := ⟨1, 0, none⟩) (World.block_lt_of_cell? w _ hm)).trans hm⟩⟩
theorem ext_grow2 (w : World) (k : Nat) (os : Array Obj) : Ext w (grow (w.drewN k) os) := by
  refine ⟨rfl, rfl, rfl, by simp [grow, World.drewN], fun j hj => ?_⟩
  simp only [grow, World.drewN]
  rw [Array.getElem?_append_left hj]
theorem iFormatInt_any (u : Nat) (hu : u ≤ 9223372036854775807) (w : World) (E : Env w) :
    Calls Tryd.prog 43 #[.int .i64 u] w fun e w' => e = .returned (.string (ba (decDigits u))) ∧ Ext w w' := by
  have HT := Lib.hid E.tab
  go_enter Tryd.func43, Tryd.ntmps43
  go_wp2_with fail
  refine (Tryd.strconv_Itoa (u : Int) (by omega) (by omega) _ HT.out).mono ?_
  rintro e w1 ⟨rfl, k, os, rfl⟩
  rw [Fx.itoa_nat]
  go_wp2_with fail
  go_ret
  exact ⟨rfl, ext_grow2 _ _ _⟩
theorem figure_any (d : Nat) (hd : d < 10) (w : World) : Calls Tryd.prog 66 #[.int .i64 d] w fun e w' => e = .returned (.int .u8 (48 + d)) ∧ w = w' := by
  go_enter Tryd.func66, Tryd.ntmps66
  go_wp2
  go_ret
  exact ⟨rfl, rfl⟩
set_option maxRecDepth 100000 in
set_option maxHeartbeats 1000000 in
theorem sFormatInt_any (K : Nat) (hk : K ≤ 2199023255552) (w : World) :
    Calls Tryd.prog 41 #[.int .i64 K] w fun e w' => e = .returned (.string (ba (decDigits K))) ∧ Ext w w' := by
  have h19 := Lib.hid (dec_len (k := 12) (u := K) (by omega))
  by_cases h0 : K = 0
  · subst h0
    go_enter Tryd.func41, Tryd.ntmps41
    go_wp2
    go_ret
    exact ⟨by rw [dec_small (by omega)]; rfl, Ext.refl _⟩
  have h0' : 0 < K := by omega
  have hk0 : ((K : Int) == 0) = false := by rw [beq_eq_false_iff_ne]; omega
  have hk1 : decide ((K : Int) < 0) = false := by rw [decide_eq_false_iff_not]; omega
  go_enter Tryd.func41, Tryd.ntmps41
  go_wp2
  go_loopw [0, 4] (fun i v wr => ∃ (k : Nat) (s : ByteArray), k ≤ K ∧ i = .int .i64 k ∧ v = .string s ∧ s.size ≤ 13 ∧ Hid (∃ t, s = ba t ∧ DecAt K k t) ∧ Ext w wr) (fun i _ _ => (intOf i).toNat)
  case atStart => exact ⟨K, ba [], Nat.le_refl _, rfl, rfl, by rw [ba_size]; simp, Lib.hid ⟨[], rfl, DecAt.start h0'⟩, Ext.refl _⟩
  case round =>
    rename World => wo
    obtain ⟨k, s, hkK, rfl, rfl, hsz, HD, hbr⟩ := hrel
    by_cases hlt : 0 < k
    · obtain ⟨D, hD, hD1, hcv⟩ := conv1' wo k
      have HD1 := Lib.hid hD
      clear hD
      have hsum : ¬ 9223372036854775807 < D.size + s.size := by omega
      have hF := fun W => figure_any (k % 10) (by omega) W
      have ek : ((k % 10 : Nat) : Int) = (k : Int) % 10 := by omega
      rw [ek] at hF
      have HF := Lib.hid hF
      clear hF ek
      go_wp2_with (go_at_call 66; refine (HF.out _).mono ?_; rintro e w1 ⟨rfl, rfl⟩)
      go_roundw
      case rel =>
        obtain ⟨t, e1, e2⟩ := HD.out
        have hn := e2.step hlt
        refine ⟨k / 10, D ++ s, by omega, by go_num, rfl, ?_, Lib.hid ⟨_, by rw [e1, HD1.out, ba_append]; rfl, hn⟩, hbr.alloc _⟩
        rw [e1, HD1.out, ba_append, ba_size]
        exact Nat.le_trans hn.len h19.out
      case measure => simp [intOf]; omega
    · obtain rfl : k = 0 := by omega
      go_wp2
      go_ret
      obtain ⟨t, e1, e2⟩ := HD.out
      refine ⟨?_, hbr⟩
      rw [e1, e2.done]; rfl
end Go.Proofs.YtfmghfghhipmhaaDoor

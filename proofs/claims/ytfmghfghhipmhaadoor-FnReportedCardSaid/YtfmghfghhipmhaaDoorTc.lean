import Derived.Test.YtfmghfghhipmhaaDoorTb
import Derived.Lib.QuietBelow
import Derived.BigQuiet
namespace Go.Fx
theorem ba_tail (c : UInt8) (t : Txt) : (ba (c :: t)).extract 1 (t.length + 1) = ba t := by
  apply ByteArray.ext
  apply Array.toList_inj.1
  rw [Lib.extract_data]; simp
end Go.Fx
namespace Go.Proofs.YtfmghfghhipmhaaDoor
open Go.RowKit Go.Fx Go.Sort
open Go.Lib (decDigits)
set_option linter.unusedVariables false
set_option linter.unusedSimpArgs false
set_option maxRecDepth 100000 in
set_option maxHeartbeats 1000000 in
theorem sFormatFixed_any (n : Int) (h1 : -1000000000000 ≤ n) (h2 : n ≤ 1000000000000) (w : World) :
    Calls Tryd.prog 68 #[.int .i64 n] w fun e w' => e = .returned (.string (ba (fmtFixed n))) ∧ Ext w w' := by
  have HOK := Lib.hid (fun x : Int => sIn_any x (-1000000000) 1000000000)
  cases hok : fixOk n
  · have HN := Lib.hid (fix_no hok)
    have hk2 := HOK.out n
    rw [show (decide ((-1000000000 : Int) ≤ n) && decide (n ≤ 1000000000)) = false from hok] at hk2
    have HK2 := Lib.hid hk2
    clear hk2
    go_enter Tryd.func68, Tryd.ntmps68
    go_wp2_with (go_at_call 64; refine (HK2.out _).mono ?_; rintro e w1 ⟨rfl, rfl⟩)
    go_ret
    exact ⟨by rw [HN.out]; rfl, Ext.refl _⟩
  by_cases hneg : n < 0
  · obtain ⟨u, rfl⟩ : ∃ u : Nat, n = -(u : Int) := ⟨n.natAbs, by omega⟩
    have hu : 0 < u := by omega
    have HX := Lib.hid (fix_neg hok rfl hu)
    have hd : decide (-(u : Int) < 0) = true := by rw [decide_eq_true]; omega
    have hng : - -(u : Int) = (u : Int) := by omega
    have hub : u ≤ 1000000000 := by have := fixOk_iff.1 hok; omega
    have hm := Nat.mod_lt u (by decide : 0 < 1000)
    have ek : ((1000 + u % 1000 : Nat) : Int) = 1000 + (u : Int) % 1000 := by omega
    have eq_ : ((u / 1000 : Nat) : Int) = (u : Int) / 1000 := by omega
    have et_ : (u : Int).tdiv 1000 = (u : Int) / 1000 := Int.tdiv_eq_ediv_of_nonneg (by omega)
    have ew_ : IntKind.i64.wrap ((u : Int) / 1000) = (u : Int) / 1000 := by rw [IntKind.wrap_i64]; omega
    have F1 := fun W => sFormatInt_any (1000 + u % 1000) (by omega) W
    have F2 := fun W => sFormatInt_any (u / 1000) (by omega) W
    have hl2 := dec_len (k := 6) (u := u / 1000) (by omega)
    rw [ek, dec_1000 hm] at F1
    rw [eq_] at F2
    have s2 : (ba (decDigits (u / 1000))).size = (decDigits (u / 1000)).length := ba_size _
    have hs2 : (ba (decDigits (u / 1000))).size ≤ 7 := by omega
    obtain ⟨B, hB⟩ : ∃ B, B = ba (decDigits (u / 1000)) := ⟨_, rfl⟩
    obtain ⟨T, hT⟩ : ∃ T, T = ba (49 :: pad3 (u % 1000)) := ⟨_, rfl⟩
    have hT4 : T.size = 4 := by rw [hT, ba_size]; rfl
    rw [← hB] at F2 hs2
    rw [← hT] at F1
    have HB := Lib.hid hB
    have HT := Lib.hid hT
    have HF2 := Lib.hid F2
    have HF1 := Lib.hid F1
    clear s2 hB F1 F2 ek eq_ hm hneg hT hl2
    have hok2 := HOK.out (-(u : Int))
    rw [show (decide ((-1000000000 : Int) ≤ -(u : Int)) && decide (-(u : Int) ≤ 1000000000)) = true from hok] at hok2
    have HOK2 := Lib.hid hok2
    clear hok2 hok
    have hun : (0 : Int) ≤ (u : Int) := by omega
    have huN : (u : Int) ≤ 1000000000 := by omega
    go_enter Tryd.func68, Tryd.ntmps68
    go_wp2_with (first | (go_at_call 64; refine (HOK2.out _).mono ?_; rintro e w1 ⟨rfl, rfl⟩) | (go_at_call 41; refine (HF1.out _).mono ?_; rintro e w1 ⟨rfl, hb1⟩))
    have cM : ∀ dd os, Calls Tryd.prog 41 #[.int .i64 ((u : Int) / 1000)] (grow (redrawn w1 dd) os) fun e w'' => e = .returned (.string B) ∧ ∃ p : Regrown, w'' = grow (redrawn w1 p.d) p.os := fun dd os => Calls.regrown_of ((HF2.out _).mono fun e w' ⟨a, b⟩ => ⟨a, b⟩)
    have n1 : ¬ 9223372036854775807 < 1 + B.size := by omega
    have n2 : ¬ 9223372036854775807 < 1 + B.size + 1 := by omega
    have n3 : ¬ 9223372036854775807 < 1 + B.size + 1 + 3 := by omega
    refine wp_region_quiet_below (by kernel_rfl) (by kernel_rfl) ?_
    repeat (any_goals (first | go_big_quiet_step (exact cM _ _) | quiet_step (exact cM _ _)))
    refine wpQuiet_nil ?_
    intro _ hw'
    obtain ⟨⟨dq, osq⟩, hw''⟩ := hw'
    subst hw''
    have hb6 : Ext w1 (grow (redrawn w1 dq) osq) := below_regrown w1 dq osq
    clear cM
    generalize grow (redrawn w1 dq) osq = w6 at *
    go_wp2_with fail
    go_ret
    refine ⟨?_, hb1.trans hb6⟩
    have hv : ({ data := #[45] } : ByteArray) ++ B ++ ({ data := #[46] } : ByteArray) ++ T.extract 1 4 = ba (fmtFixed (-(u : Int))) := by
      rw [HX.out, HB.out, HT.out, show (4 : Nat) = (pad3 (u % 1000)).length + 1 from rfl, ba_tail, show ({ data := #[45] } : ByteArray) = ba [45] from rfl, show ({ data := #[46] } : ByteArray) = ba [46] from rfl, ba_append, ba_append, ba_append]
      congr 1; simp
    exact congrArg (fun x => Ending.returned (Value.string x)) hv
  · obtain ⟨u, rfl⟩ : ∃ u : Nat, n = (u : Int) := ⟨n.natAbs, by omega⟩
    have HX := Lib.hid (fix_pos hok rfl)
    have hd : decide ((u : Int) < 0) = false := by rw [decide_eq_false_iff_not]; omega
    have hub : u ≤ 1000000000 := by have := fixOk_iff.1 hok; omega
    have hm := Nat.mod_lt u (by decide : 0 < 1000)
    have ek : ((1000 + u % 1000 : Nat) : Int) = 1000 + (u : Int) % 1000 := by omega
    have eq_ : ((u / 1000 : Nat) : Int) = (u : Int) / 1000 := by omega
    have et_ : (u : Int).tdiv 1000 = (u : Int) / 1000 := Int.tdiv_eq_ediv_of_nonneg (by omega)
    have ew_ : IntKind.i64.wrap ((u : Int) / 1000) = (u : Int) / 1000 := by rw [IntKind.wrap_i64]; omega
    have F1 := fun W => sFormatInt_any (1000 + u % 1000) (by omega) W
    have F2 := fun W => sFormatInt_any (u / 1000) (by omega) W
    have hl2 := dec_len (k := 6) (u := u / 1000) (by omega)
    rw [ek, dec_1000 hm] at F1
    rw [eq_] at F2
    have s2 : (ba (decDigits (u / 1000))).size = (decDigits (u / 1000)).length := ba_size _
    have hs2 : (ba (decDigits (u / 1000))).size ≤ 7 := by omega
    obtain ⟨B, hB⟩ : ∃ B, B = ba (decDigits (u / 1000)) := ⟨_, rfl⟩
    obtain ⟨T, hT⟩ : ∃ T, T = ba (49 :: pad3 (u % 1000)) := ⟨_, rfl⟩
    have hT4 : T.size = 4 := by rw [hT, ba_size]; rfl
    rw [← hB] at F2 hs2
    rw [← hT] at F1
    have HB := Lib.hid hB
    have HT := Lib.hid hT
    have HF2 := Lib.hid F2
    have HF1 := Lib.hid F1
    clear s2 hB F1 F2 ek eq_ hm hneg hT hl2
    have hok2 := HOK.out ((u : Int))
    rw [show (decide ((-1000000000 : Int) ≤ (u : Int)) && decide ((u : Int) ≤ 1000000000)) = true from hok] at hok2
    have HOK2 := Lib.hid hok2
    clear hok2 hok
    have hun : (0 : Int) ≤ (u : Int) := by omega
    have huN : (u : Int) ≤ 1000000000 := by omega
    go_enter Tryd.func68, Tryd.ntmps68
    go_wp2_with (first | (go_at_call 64; refine (HOK2.out _).mono ?_; rintro e w1 ⟨rfl, rfl⟩) | (go_at_call 41; refine (HF1.out _).mono ?_; rintro e w1 ⟨rfl, hb1⟩))
    have cM : ∀ dd os, Calls Tryd.prog 41 #[.int .i64 ((u : Int) / 1000)] (grow (redrawn w1 dd) os) fun e w'' => e = .returned (.string B) ∧ ∃ p : Regrown, w'' = grow (redrawn w1 p.d) p.os := fun dd os => Calls.regrown_of ((HF2.out _).mono fun e w' ⟨a, b⟩ => ⟨a, b⟩)
    have n1 : ¬ 9223372036854775807 < B.size := by omega
    have n2 : ¬ 9223372036854775807 < B.size + 1 := by omega
    have n3 : ¬ 9223372036854775807 < B.size + 1 + 3 := by omega
    refine wp_region_quiet_below (by kernel_rfl) (by kernel_rfl) ?_
    repeat (any_goals (first | go_big_quiet_step (exact cM _ _) | quiet_step (exact cM _ _)))
    refine wpQuiet_nil ?_
    intro _ hw'
    obtain ⟨⟨dq, osq⟩, hw''⟩ := hw'
    subst hw''
    have hb6 : Ext w1 (grow (redrawn w1 dq) osq) := below_regrown w1 dq osq
    clear cM
    generalize grow (redrawn w1 dq) osq = w6 at *
    go_wp2_with fail
    go_ret
    refine ⟨?_, hb1.trans hb6⟩
    have hv : ({ data := #[] } : ByteArray) ++ B ++ ({ data := #[46] } : ByteArray) ++ T.extract 1 4 = ba (fmtFixed ((u : Int))) := by
      rw [HX.out, HB.out, HT.out, show (4 : Nat) = (pad3 (u % 1000)).length + 1 from rfl, ba_tail, show ({ data := #[] } : ByteArray) = ba [] from rfl, show ({ data := #[46] } : ByteArray) = ba [46] from rfl, ba_append, ba_append, ba_append]
      congr 1; simp
    exact congrArg (fun x => Ending.returned (Value.string x)) hv
end Go.Proofs.YtfmghfghhipmhaaDoor

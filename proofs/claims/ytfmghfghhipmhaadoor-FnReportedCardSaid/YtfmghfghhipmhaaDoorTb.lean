import Derived.Test.YtfmghfghhipmhaaDoorTa
namespace Go.Fx
open Go.Lib
theorem fix_no {n : Int} (h : fixOk n = false) : fmtFixed n = [] := by unfold fmtFixed; rw [h]; rfl
theorem fix_neg {n : Int} {u : Nat} (h : fixOk n = true) (hn : n = -(u : Int)) (hu : 0 < u) : fmtFixed n = 45 :: (decDigits (u / 1000) ++ 46 :: pad3 (u % 1000)) := by
  unfold fmtFixed fmtF absF; rw [if_pos h, if_pos (by omega), show n.natAbs = u by omega]
theorem fix_pos {n : Int} {u : Nat} (h : fixOk n = true) (hn : n = (u : Int)) : fmtFixed n = decDigits (u / 1000) ++ 46 :: pad3 (u % 1000) := by
  unfold fmtFixed fmtF absF; rw [if_pos h, if_neg (by omega), show n.natAbs = u by omega]
def strLen : Value → Nat
  | .string s => s.size
  | _ => 0
end Go.Fx
namespace Go.Proofs.YtfmghfghhipmhaaDoor
open Go.RowKit Go.Fx Go.Sort
open Go.Lib (decDigits)
set_option linter.unusedVariables false
set_option linter.unusedSimpArgs false
theorem fixedOk_any (n : Int) (w : World) : Calls Tryd.prog 73 #[.int .i64 n] w fun e w' => e = .returned (.bool (fixOk n)) ∧ w = w' := by
  go_enter Tryd.func73, Tryd.ntmps73
  go_wp2_with (go_at_call 53; refine (within_any _ _ _ _).mono ?_; rintro e w1 ⟨rfl, rfl⟩)
  go_ret
  exact ⟨rfl, rfl⟩
set_option maxRecDepth 100000 in
set_option maxHeartbeats 1000000 in
theorem iFormatFixed_any (n : Int) (h1 : -1000000000000 ≤ n) (h2 : n ≤ 1000000000000) (w : World) (E : Env w) :
    Calls Tryd.prog 45 #[.int .i64 n] w fun e w' => e = .returned (.string (ba (fmtFixed n))) ∧ Ext w w' := by
  have HE := Lib.hid E
  clear E
  cases hok : fixOk n
  · have HN := Lib.hid (fix_no hok)
    go_enter Tryd.func45, Tryd.ntmps45
    go_wp2_with (go_at_call 73; refine (fixedOk_any _ _).mono ?_; rintro e w1 ⟨rfl, rfl⟩; rw [hok])
    go_ret
    exact ⟨by rw [HN.out]; rfl, Ext.refl _⟩
  have HOK := Lib.hid (fun x : Int => fixedOk_any x)
  by_cases hneg : n < 0
  · obtain ⟨u, rfl⟩ : ∃ u : Nat, n = -(u : Int) := ⟨n.natAbs, by omega⟩
    have hu : 0 < u := by omega
    have HX := Lib.hid (fix_neg hok rfl hu)
    have hd : decide (-(u : Int) < 0) = true := by rw [decide_eq_true]; omega
    have hng : - -(u : Int) = (u : Int) := by omega
    have hub : u ≤ 1000000000 := by have := fixOk_iff.1 hok; omega
    have ek : ((u % 1000 : Nat) : Int) = (u : Int) % 1000 := by omega
    have eq_ : ((u / 1000 : Nat) : Int) = (u : Int) / 1000 := by omega
    have F1 := fun W (hW : Ext w W) => iFormatInt_any (u % 1000) (by omega) W (HE.out.ext hW)
    have F2 := fun W (hW : Ext w W) => iFormatInt_any (u / 1000) (by omega) W (HE.out.ext hW)
    have hl1 := dec_len (k := 2) (u := u % 1000) (by omega)
    have hp1 := dec_pos (u % 1000)
    have hl2 := dec_len (k := 6) (u := u / 1000) (by omega)
    rw [ek] at F1
    rw [eq_] at F2
    have hm := Nat.mod_lt u (by decide : 0 < 1000)
    have HPAD := Lib.hid (fun k (h : k + (decDigits (u % 1000)).length = 3) => pad_of hm h)
    generalize hR : decDigits (u % 1000) = R at *
    generalize hQ : decDigits (u / 1000) = Q at *
    have HF1 := Lib.hid F1
    have F2' := F2
    have HQ := Lib.hid hQ
    have HR := Lib.hid hR
    clear F1 F2 ek eq_ hR hQ hm hneg
    have s0 : (ba R).size = R.length := ba_size R
    have s2 : (ba Q).size = Q.length := ba_size Q
    have HS0 := Lib.hid s0
    have hs2 : (ba Q).size ≤ 7 := by omega
    obtain ⟨B, hB⟩ : ∃ B, B = ba Q := ⟨_, rfl⟩
    rw [← hB] at F2' hs2
    have HB := Lib.hid hB
    have HF2 := Lib.hid F2'
    clear s0 s2 hB F2'
    have hok2 := HOK.out (-(u : Int))
    rw [hok] at hok2
    have HOK2 := Lib.hid hok2
    clear hok2 hok
    have hun : (0 : Int) ≤ (u : Int) := by omega
    have huN : (u : Int) ≤ 1000000000 := by omega
    go_enter Tryd.func45, Tryd.ntmps45
    go_wp2_with (first | (go_at_call 73; refine (HOK2.out _).mono ?_; rintro e w1 ⟨rfl, rfl⟩) | (go_at_call 43; refine (HF1.out _ (by (repeat (first | exact Below.refl _ _ | assumption | refine below_drewN ?_ _ | refine Below.drew ?_ | refine Below.alloc ?_ (by first | exact Nat.le_refl _ | (simp; done) | (simp; omega)) _ | refine Below.setCell ?_ (by first | exact Nat.le_refl _ | (simp; done) | (simp; omega)) _)))).mono ?_; rintro e w1 ⟨rfl, hb1⟩))
    go_loop [4] (fun v => ∃ (k : Nat) (s : ByteArray), v = .string s ∧ s.size ≤ 3 ∧ Hid (s.size = k + R.length ∧ s = ba (List.replicate k 48 ++ R))) (fun v => 3 - strLen v)
    case atStart => exact ⟨0, ba R, rfl, by rw [HS0.out]; omega, Lib.hid ⟨by rw [HS0.out]; omega, by simp⟩⟩
    case round =>
      obtain ⟨k, s, rfl, hsz, HD⟩ := hrel
      by_cases hlt : s.size < 3
      · have hlI : (s.size : Int) < 3 := by omega
        have hsum : ¬ 9223372036854775807 < 1 + s.size := by omega
        go_wp2
        go_round
        case rel =>
          obtain ⟨e1, e2⟩ := HD.out
          have e3 : ({ data := #[48] } : ByteArray) ++ s = ba (List.replicate (k + 1) 48 ++ R) := by
            rw [e2, show ({ data := #[48] } : ByteArray) = ba [48] from rfl, ba_append, List.replicate_succ]; rfl
          have e4 : (({ data := #[48] } : ByteArray) ++ s).size = k + 1 + R.length := by rw [e3, ba_size]; simp
          exact ⟨k + 1, _, rfl, by rw [e4]; omega, Lib.hid ⟨e4, e3⟩⟩
        case measure =>
          have e4 : (({ data := #[48] } : ByteArray) ++ s).size = 1 + s.size := by rw [ByteArray.size_append]; rfl
          simp [strLen, e4]; omega
      · have h3 : s.size = 3 := by omega
        have HP : Hid (s = ba (pad3 (u % 1000))) := Lib.hid (by
          obtain ⟨e1, e2⟩ := HD.out
          rw [e2, HPAD.out k (by omega)])
        have hlI : ¬ (s.size : Int) < 3 := by omega
        have n1 : ¬ 9223372036854775807 < 1 + B.size := by omega
        have n2 : ¬ 9223372036854775807 < 1 + B.size + 1 := by omega
        have n3 : ¬ 9223372036854775807 < 1 + B.size + 1 + 3 := by omega
        go_wp2_with (go_at_call 43; refine (HF2.out _ (by (repeat (first | exact Below.refl _ _ | assumption | refine below_drewN ?_ _ | refine Below.drew ?_ | refine Below.alloc ?_ (by first | exact Nat.le_refl _ | (simp; done) | (simp; omega)) _ | refine Below.setCell ?_ (by first | exact Nat.le_refl _ | (simp; done) | (simp; omega)) _)))).mono ?_; rintro e w2 ⟨rfl, hb2⟩)
        go_ret
        refine ⟨?_, hb1.trans hb2⟩
        have hv : ({ data := #[45] } : ByteArray) ++ B ++ ({ data := #[46] } : ByteArray) ++ s = ba (fmtFixed (-(u : Int))) := by
          rw [HX.out, HB.out, HP.out]
          rw [show ({ data := #[45] } : ByteArray) = ba [45] from rfl, show ({ data := #[46] } : ByteArray) = ba [46] from rfl, ba_append, ba_append, ba_append]
          congr 1; simp
        exact congrArg (fun x => Ending.returned (Value.string x)) hv
  · obtain ⟨u, rfl⟩ : ∃ u : Nat, n = (u : Int) := ⟨n.natAbs, by omega⟩
    have HX := Lib.hid (fix_pos hok rfl)
    have hd : decide ((u : Int) < 0) = false := by rw [decide_eq_false_iff_not]; omega
    have hub : u ≤ 1000000000 := by have := fixOk_iff.1 hok; omega
    have ek : ((u % 1000 : Nat) : Int) = (u : Int) % 1000 := by omega
    have eq_ : ((u / 1000 : Nat) : Int) = (u : Int) / 1000 := by omega
    have F1 := fun W (hW : Ext w W) => iFormatInt_any (u % 1000) (by omega) W (HE.out.ext hW)
    have F2 := fun W (hW : Ext w W) => iFormatInt_any (u / 1000) (by omega) W (HE.out.ext hW)
    have hl1 := dec_len (k := 2) (u := u % 1000) (by omega)
    have hp1 := dec_pos (u % 1000)
    have hl2 := dec_len (k := 6) (u := u / 1000) (by omega)
    rw [ek] at F1
    rw [eq_] at F2
    have hm := Nat.mod_lt u (by decide : 0 < 1000)
    have HPAD := Lib.hid (fun k (h : k + (decDigits (u % 1000)).length = 3) => pad_of hm h)
    generalize hR : decDigits (u % 1000) = R at *
    generalize hQ : decDigits (u / 1000) = Q at *
    have HF1 := Lib.hid F1
    have F2' := F2
    have HQ := Lib.hid hQ
    have HR := Lib.hid hR
    clear F1 F2 ek eq_ hR hQ hm hneg
    have s0 : (ba R).size = R.length := ba_size R
    have s2 : (ba Q).size = Q.length := ba_size Q
    have HS0 := Lib.hid s0
    have hs2 : (ba Q).size ≤ 7 := by omega
    obtain ⟨B, hB⟩ : ∃ B, B = ba Q := ⟨_, rfl⟩
    rw [← hB] at F2' hs2
    have HB := Lib.hid hB
    have HF2 := Lib.hid F2'
    clear s0 s2 hB F2'
    have hok2 := HOK.out ((u : Int))
    rw [hok] at hok2
    have HOK2 := Lib.hid hok2
    clear hok2 hok
    have hun : (0 : Int) ≤ (u : Int) := by omega
    have huN : (u : Int) ≤ 1000000000 := by omega
    go_enter Tryd.func45, Tryd.ntmps45
    go_wp2_with (first | (go_at_call 73; refine (HOK2.out _).mono ?_; rintro e w1 ⟨rfl, rfl⟩) | (go_at_call 43; refine (HF1.out _ (by (repeat (first | exact Below.refl _ _ | assumption | refine below_drewN ?_ _ | refine Below.drew ?_ | refine Below.alloc ?_ (by first | exact Nat.le_refl _ | (simp; done) | (simp; omega)) _ | refine Below.setCell ?_ (by first | exact Nat.le_refl _ | (simp; done) | (simp; omega)) _)))).mono ?_; rintro e w1 ⟨rfl, hb1⟩))
    go_loop [4] (fun v => ∃ (k : Nat) (s : ByteArray), v = .string s ∧ s.size ≤ 3 ∧ Hid (s.size = k + R.length ∧ s = ba (List.replicate k 48 ++ R))) (fun v => 3 - strLen v)
    case atStart => exact ⟨0, ba R, rfl, by rw [HS0.out]; omega, Lib.hid ⟨by rw [HS0.out]; omega, by simp⟩⟩
    case round =>
      obtain ⟨k, s, rfl, hsz, HD⟩ := hrel
      by_cases hlt : s.size < 3
      · have hlI : (s.size : Int) < 3 := by omega
        have hsum : ¬ 9223372036854775807 < 1 + s.size := by omega
        go_wp2
        go_round
        case rel =>
          obtain ⟨e1, e2⟩ := HD.out
          have e3 : ({ data := #[48] } : ByteArray) ++ s = ba (List.replicate (k + 1) 48 ++ R) := by
            rw [e2, show ({ data := #[48] } : ByteArray) = ba [48] from rfl, ba_append, List.replicate_succ]; rfl
          have e4 : (({ data := #[48] } : ByteArray) ++ s).size = k + 1 + R.length := by rw [e3, ba_size]; simp
          exact ⟨k + 1, _, rfl, by rw [e4]; omega, Lib.hid ⟨e4, e3⟩⟩
        case measure =>
          have e4 : (({ data := #[48] } : ByteArray) ++ s).size = 1 + s.size := by rw [ByteArray.size_append]; rfl
          simp [strLen, e4]; omega
      · have h3 : s.size = 3 := by omega
        have HP : Hid (s = ba (pad3 (u % 1000))) := Lib.hid (by
          obtain ⟨e1, e2⟩ := HD.out
          rw [e2, HPAD.out k (by omega)])
        have hlI : ¬ (s.size : Int) < 3 := by omega
        have n1 : ¬ 9223372036854775807 < B.size := by omega
        have n2 : ¬ 9223372036854775807 < B.size + 1 := by omega
        have n3 : ¬ 9223372036854775807 < B.size + 1 + 3 := by omega
        go_wp2_with (go_at_call 43; refine (HF2.out _ (by (repeat (first | exact Below.refl _ _ | assumption | refine below_drewN ?_ _ | refine Below.drew ?_ | refine Below.alloc ?_ (by first | exact Nat.le_refl _ | (simp; done) | (simp; omega)) _ | refine Below.setCell ?_ (by first | exact Nat.le_refl _ | (simp; done) | (simp; omega)) _)))).mono ?_; rintro e w2 ⟨rfl, hb2⟩)
        go_ret
        refine ⟨?_, hb1.trans hb2⟩
        have hv : B ++ ({ data := #[46] } : ByteArray) ++ s = ba (fmtFixed ((u : Int))) := by
          rw [HX.out, HB.out, HP.out]
          rw [show ({ data := #[46] } : ByteArray) = ba [46] from rfl, ba_append, ba_append]
          congr 1; simp
        exact congrArg (fun x => Ending.returned (Value.string x)) hv
end Go.Proofs.YtfmghfghhipmhaaDoor

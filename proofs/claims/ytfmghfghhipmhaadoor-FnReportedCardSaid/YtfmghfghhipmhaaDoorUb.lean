import Derived.Test.YtfmghfghhipmhaaDoorUa
import Derived.Test.YtfmghfghhipmhaaDoorTm
import Derived.Deep.RegionHeld3
namespace Go.Proofs.YtfmghfghhipmhaaDoor
open Go.RowKit Go.Fx Go.Sort Ieee
set_option linter.unusedVariables false
set_option linter.unusedSimpArgs false
theorem own_made2 (w : World) (x y : Value) (E : TypeId) (base : Nat) (hb : base ≤ w.heap.size) : (w.alloc (.cells #[x, y] E)).ownsRow base E 1 (.slice (some ⟨w.heap.size, 0, none⟩) 2 2) 2 [x, y] :=
  ⟨by simp, .inr ⟨w.heap.size, 2, #[x, y], rfl, hb, heap_alloc_new w _, Nat.le_refl _, by unfold maxLen; omega, by simp, by simp⟩⟩
set_option maxRecDepth 100000 in
set_option maxHeartbeats 4000000 in
theorem iReport_any (s : TS) (A : Option Addr) (c : Nat) (hn : s.log.length ≤ 1048576) (w : World) (E : Env w) :
    Calls Tryd.prog 13 #[setT s (.slice A s.log.length c)] w fun e w' => e = .returned (.string (ba (report s))) ∧ Ext w w' := by
  have hokd : s.ok = setOk s.cells s.rows s.slice s.least s.sat s.log.length := rfl
  have hO := Lib.hid (fun W => by have h := iSetOk_any s.cells s.rows s.slice s.least s.sat A s.log.length c (by omega) W; rw [← hokd] at h; exact h)
  have HE := Lib.hid E
  clear hokd E
  cases hok : s.ok
  · have HR : Hid (report s = []) := Lib.hid (by unfold report; rw [hok]; rfl)
    rw [hok] at hO
    go_enter Tryd.func13, Tryd.ntmps13
    go_wp2_with fail
    refine (hO.out _).mono ?_
    rintro e w1 ⟨rfl, hb1⟩
    go_wp2_with fail
    go_ret
    exact ⟨by rw [HR.out]; rfl, Ext.trans ((Ext.refl _).alloc _) hb1⟩
  · have HR : Hid (report s = unw (repF s)) := Lib.hid (by unfold report; rw [hok]; rfl)
    have p := ok_parts.1 hok
    rw [hok] at hO
    have hf := rep_fld p
    have fi := p.fits
    obtain ⟨C, hC⟩ : ∃ C : Nat, s.cells = C := ⟨s.cells.toNat, by have := p.c1; omega⟩
    obtain ⟨D, hD⟩ : ∃ D : Nat, s.rows = D := ⟨s.rows.toNat, by have := p.r1; omega⟩
    have hC64 : C ≤ 64 := by have := p.c2; omega
    have hD64 : D ≤ 64 := by have := p.r2; omega
    have hrep : repF s = [Lib.decDigits C, Lib.decDigits D, fmtF (toFix s.slice), fmtF (toFix s.least), fmtF (toFix s.sat)] := by
      unfold repF; rw [hC, hD]; rfl
    have HU : Hid ((unw (repF s)).length ≤ 600) := Lib.hid (by
      have h9 := unw_bound (repF s) (fun f h => (hf f h).len)
      have e9 : (repF s).length = 5 := by rw [hrep]; rfl
      omega)
    have HREP := Lib.hid hrep
    have HFI := Lib.hid fi
    have hO2 := Lib.hid (fun W => by have h := hO.out W; rw [hC, hD] at h; exact h)
    have hset : setT s (.slice A s.log.length c) = .agg #[.int .i64 C, .int .i64 D, .float .f32 s.slice, .float .f32 s.least, .float .f32 s.sat, .slice A s.log.length c] := by unfold setT setV; rw [hC, hD]
    rw [hset]
    clear hset hO hC hD hf fi p hrep hok
    go_enter Tryd.func13, Tryd.ntmps13
    go_wp2_with fail
    refine (hO2.out _).mono ?_
    rintro e w1 ⟨rfl, hb1⟩
    have HB1 : Hid (Ext w w1 ∧ w1.heap[w.heap.size]? = some (.cells #[.int .i64 C, .int .i64 D, .float .f32 s.slice, .float .f32 s.least, .float .f32 s.sat, .slice A s.log.length c] 28 (0, 0))) := Lib.hid ⟨Ext.trans ((Ext.refl _).alloc _) hb1, blk_ext (heap_alloc_new _ _) hb1⟩
    clear hb1
    have KS : Hid (∀ W, Ext w1 W → W.cell? ⟨w.heap.size, 0, none⟩ = some (.int .i64 C) ∧ W.cell? ⟨w.heap.size, 1, none⟩ = some (.int .i64 D) ∧ W.cell? ⟨w.heap.size, 2, none⟩ = some (.float .f32 s.slice) ∧ W.cell? ⟨w.heap.size, 3, none⟩ = some (.float .f32 s.least) ∧ W.cell? ⟨w.heap.size, 4, none⟩ = some (.float .f32 s.sat)) := Lib.hid (fun W hW => by
      have f1 := blk_ext HB1.out.2 hW
      obtain ⟨ac0, ac1, ac2, ac3, ac4, ac5, af⟩ := blk6 f1
      exact ⟨ac0, ac1, ac2, ac3, ac4⟩)
    have M1 : Hid (∀ W, Ext w1 W → Calls Tryd.prog 43 #[.int .i64 C] W fun e w' => e = .returned (.string (ba (Lib.decDigits C))) ∧ Ext W w') := Lib.hid (fun W hW => iFormatInt_any C (by omega) W (HE.out.ext (HB1.out.1.trans hW)))
    have M2 : Hid (∀ W, Ext w1 W → Calls Tryd.prog 43 #[.int .i64 D] W fun e w' => e = .returned (.string (ba (Lib.decDigits D))) ∧ Ext W w') := Lib.hid (fun W hW => iFormatInt_any D (by omega) W (HE.out.ext (HB1.out.1.trans hW)))
    obtain ⟨S1, hS1⟩ : ∃ S1, ba (Lib.decDigits C) = S1 := ⟨_, rfl⟩
    obtain ⟨S2, hS2⟩ : ∃ S2, ba (Lib.decDigits D) = S2 := ⟨_, rfl⟩
    rw [hS1] at M1
    rw [hS2] at M2
    have HS12 : Hid (((repF s).take 2).map ba = [S1, S2]) := Lib.hid (by rw [HREP.out, ← hS1, ← hS2]; rfl)
    clear hS1 hS2
    obtain ⟨r0, r1, r2, r3, r4⟩ := KS.out _ (Ext.refl _)
    go_wp2_with fail
    go_region_held3 (fun W => W.cell? ⟨w.heap.size, 0, none⟩ = some (.int .i64 C) ∧ W.cell? ⟨w.heap.size, 1, none⟩ = some (.int .i64 D) ∧ W.cell? ⟨w.heap.size, 2, none⟩ = some (.float .f32 s.slice) ∧ W.cell? ⟨w.heap.size, 3, none⟩ = some (.float .f32 s.least) ∧ W.cell? ⟨w.heap.size, 4, none⟩ = some (.float .f32 s.sat))
      (first | exact KS.out _ hb3 | exact KS.out _ hb2 | exact KS.out _ (Ext.alloc hb3 _) | exact KS.out _ (by (repeat (first | exact Below.refl _ _ | assumption | refine below_drewN ?_ _ | refine Below.drew ?_ | refine Below.alloc ?_ (by first | exact Nat.le_refl _ | (simp; done) | (simp; omega)) _ | refine Below.setCell ?_ (by first | exact Nat.le_refl _ | (simp; done) | (simp; omega)) _))))
      (first
        | (go_at_call 43; with_reducible refine (M1.out _ (by (repeat (first | exact Below.refl _ _ | assumption | refine below_drewN ?_ _ | refine Below.drew ?_ | refine Below.alloc ?_ (by first | exact Nat.le_refl _ | (simp; done) | (simp; omega)) _ | refine Below.setCell ?_ (by first | exact Nat.le_refl _ | (simp; done) | (simp; omega)) _)))).mono ?_; rintro e w2 ⟨rfl, hb2⟩; replace hb2 := Ext.trans (a := w1) (by (repeat (first | exact Below.refl _ _ | assumption | refine below_drewN ?_ _ | refine Below.drew ?_ | refine Below.alloc ?_ (by first | exact Nat.le_refl _ | (simp; done) | (simp; omega)) _ | refine Below.setCell ?_ (by first | exact Nat.le_refl _ | (simp; done) | (simp; omega)) _))) hb2)
        | (go_at_call 43; with_reducible refine (M2.out _ (by (repeat (first | exact Below.refl _ _ | assumption | refine below_drewN ?_ _ | refine Below.drew ?_ | refine Below.alloc ?_ (by first | exact Nat.le_refl _ | (simp; done) | (simp; omega)) _ | refine Below.setCell ?_ (by first | exact Nat.le_refl _ | (simp; done) | (simp; omega)) _)))).mono ?_; rintro e w3 ⟨rfl, hb3⟩; replace hb3 := Ext.trans (a := w2) (by (repeat (first | exact Below.refl _ _ | assumption | refine below_drewN ?_ _ | refine Below.drew ?_ | refine Below.alloc ?_ (by first | exact Nat.le_refl _ | (simp; done) | (simp; omega)) _ | refine Below.setCell ?_ (by first | exact Nat.le_refl _ | (simp; done) | (simp; omega)) _))) hb3; replace hb3 := hb2.trans hb3))
    have HZ : Hid (Ext w1 (w3.alloc (.cells #[.string S1, .string S2] 9)) ∧ (w3.alloc (.cells #[.string S1, .string S2] 9)).ownsRow (w.heap.size + 1) 9 1 (.slice (some ⟨w3.heap.size, 0, none⟩) 2 2) 2 [.string S1, .string S2]) := Lib.hid ⟨hb3.alloc _, by
      have h9 := (Array.getElem?_eq_some_iff.1 HB1.out.2).1
      have h8 := hb3.size
      exact own_made2 w3 _ _ _ _ (by omega)⟩
    obtain ⟨g3, hg3⟩ : ∃ g, g = w3.heap.size := ⟨_, rfl⟩
    have hw4 : (w3.alloc (.cells #[.string S1, .string S2] 9)).heap.size = g3 + 1 := by simp [hg3]
    rw [← hg3] at HZ ⊢
    generalize w3.alloc (.cells #[.string S1, .string S2] 9) = w4 at *
    obtain ⟨r0, r1, r2, r3, r4⟩ := KS.out _ HZ.out.1
    clear KS M1 M2 hb2 hb3 hg3
    go_upto_region 5 with fail
    have HL : Hid (Ext w (w4.alloc (.cells #[.float .f32 s.slice, .float .f32 s.least, .float .f32 s.sat] 22)) ∧ (w4.alloc (.cells #[.float .f32 s.slice, .float .f32 s.least, .float .f32 s.sat] 22)).heap[g3 + 1]? = some (.cells #[.float .f32 s.slice, .float .f32 s.least, .float .f32 s.sat] 22 (0, 0)) ∧ (w4.alloc (.cells #[.float .f32 s.slice, .float .f32 s.least, .float .f32 s.sat] 22)).ownsRow (w.heap.size + 1) 9 1 (.slice (some ⟨g3, 0, none⟩) 2 2) 2 [.string S1, .string S2]) := Lib.hid ⟨(HB1.out.1.trans HZ.out.1).alloc _, by rw [← hw4]; exact heap_alloc_new _ _, own_ext HZ.out.2 ((Ext.refl _).alloc _)⟩
    generalize w4.alloc (.cells #[.float .f32 s.slice, .float .f32 s.least, .float .f32 s.sat] 22) = w5 at *
    clear r0 r1 r2 r3 r4 hw4 HZ HB1
    obtain ⟨bf, hbf⟩ : ∃ bf, bf = g3 + 1 := ⟨_, rfl⟩
    rw [← hbf] at HL ⊢
    have hgb : g3 ≠ bf := by omega
    have hgw : w.heap.size + 1 ≤ g3 := (own_in HL.out.2.2 g3 rfl).1
    have hgbf : g3 < bf := by omega
    clear hbf
    go_wp2_with fail
    go_loopw [3, 26] (fun o i wr => ∃ (k : Nat) (A2 : Option Addr) (c2 : Nat), k ≤ 3 ∧ i = .int .i64 k ∧ o = .slice A2 (2 + k) c2 ∧ Hid (Ext w wr ∧ wr.heap[bf]? = some (.cells #[.float .f32 s.slice, .float .f32 s.least, .float .f32 s.sat] 22 (0, 0)) ∧ wr.ownsRow (w.heap.size + 1) 9 1 (.slice A2 (2 + k) c2) (2 + k) ((((repF s).take (2 + k)).map ba).map st) ∧ ∀ b, (Value.slice A2 (2 + k) c2).ownBlock = some b → b ≠ bf)) (fun _ i _ => 3 - (intOf i).toNat)
    case atStart =>
      refine ⟨0, some ⟨g3, 0, none⟩, 2, by omega, rfl, rfl, Lib.hid ⟨HL.out.1, HL.out.2.1, ?_, fun b hb => ?_⟩⟩
      · rw [Nat.add_zero, HS12.out]; exact HL.out.2.2
      · have e : g3 = b := Option.some.inj hb
        omega
    case round =>
      rename World => wo
      obtain ⟨k, A2, c2, hk, rfl, rfl, HX⟩ := hrel
      clear HL
      by_cases hlt : k < 3
      · obtain ⟨x, hx⟩ : ∃ x, [s.slice, s.least, s.sat][k]? = some x := ⟨_, List.getElem?_eq_getElem (by simpa using hlt)⟩
        have hxm : x ∈ [s.slice, s.least, s.sat] := List.mem_of_getElem? hx
        have hxc : wo.cell? ⟨bf, k, none⟩ = some (.float .f32 x) := by
          obtain ⟨z0, z1, z2, -⟩ := blk3 HX.out.2.1
          match k, hlt, hx with
          | 0, _, hx => simp at hx; subst hx; exact z0
          | 1, _, hx => simp at hx; subst hx; exact z1
          | 2, _, hx => simp at hx; subst hx; exact z2
        have HRX : Hid ((repF s)[2 + k]? = some (fmtF (toFix x))) := Lib.hid (by
          rw [HREP.out]
          match k, hlt, hx with
          | 0, _, hx => simp at hx; subst hx; rfl
          | 1, _, hx => simp at hx; subst hx; rfl
          | 2, _, hx => simp at hx; subst hx; rfl)
        obtain ⟨X, m, e, hX, hX64, hT, hfix, hb⟩ := fit_wide (HFI.out x hxm)
        have hc : ∀ W, (convert 22 63 (.float .f32 x)).run Tryd.prog W = .ok (.float .f64 X) W := fun W => run_convert_float_float W 22 63 .f32 .f64 _ _ (by kernel_rfl) (by kernel_rfl) hX
        have hF := Lib.hid (fun W => iToFixed_any X hX64 hT W)
        have hG := Lib.hid (fun W (E : Env W) => by have h9 := iFormatFixed_any (rndI (m * 1000) e) (by omega) (by omega) W E; rw [fmtFixed_small hb] at h9; exact h9)
        rw [hfix] at HRX
        obtain ⟨S, hS⟩ : ∃ S, ba (fmtF (rndI (m * 1000) e)) = S := ⟨_, rfl⟩
        rw [hS] at hG
        have HSN : Hid ((((repF s).take (2 + (k + 1))).map ba).map st = (((repF s).take (2 + k)).map ba).map st ++ [.string S]) := Lib.hid (by
          obtain ⟨hlt2, hv⟩ := List.getElem?_eq_some_iff.1 HRX.out
          rw [← Nat.add_assoc, List.take_succ_eq_append_getElem hlt2, hv, ← hS]; simp)
        generalize rndI (m * 1000) e = n at *
        clear hT hX hfix hb hX64 hS HRX hx hxm
        have hkI : (k : Int) < 3 := by omega
        go_wp2_with fail
        refine (hF.out _).mono ?_
        rintro e w6 ⟨rfl, rfl⟩
        go_wp2_with fail
        refine (hG.out _ (HE.out.ext HX.out.1)).mono ?_
        rintro e w7 ⟨rfl, hb7⟩
        have HO7 := Lib.hid (own_ext HX.out.2.2.1 hb7)
        have HBF := Lib.hid (blk_ext HX.out.2.1 hb7)
        have HNB := Lib.hid HX.out.2.2.2
        have HE7 := Lib.hid (HX.out.1.trans hb7)
        have hsz7 : w.heap.size + 1 ≤ w7.heap.size := by
          have h9 := (Array.getElem?_eq_some_iff.1 HBF.out).1
          have h8 := HE7.out.size
          rcases Nat.lt_or_ge bf (w.heap.size + 1) with h | h
          · have h7 := hgw
            omega
          · omega
        clear HX hb7 hF hG hxc
        go_wp2_with
          (at_builtin
           refine wpList_app rfl _ _ 23 rfl (w.heap.size + 1) 9 _ 1 16 Tryd.underlying23 info_str rfl (by omega) (.slice A2 (2 + k) c2) (2 + k) _ rfl (own_ext HO7.out ((Ext.refl _).alloc _)) _ 1 1 _ rfl (rd_new _ _ _ _) rfl (fun h => by cases h) (by intro u hu; simp at hu; rcases hu with rfl; rfl) (by unfold maxLen; omega) (by omega) (by simp; omega) ?_
           intro v9 w9 ho9 hg9 hat)
        obtain ⟨A9, c9, rfl, -, -⟩ := own_slice ho9
        go_roundw
        case measure => simp [intOf]; omega
        case rel =>
          refine ⟨k + 1, A9, c9, by omega, by go_num, rfl, Lib.hid ⟨ext_grow (HE7.out.alloc _) (own_ext HO7.out ((Ext.refl _).alloc _)) (by omega) hg9, blk_past (blk_alloc HBF.out) hg9 (fun e => HNB.out _ e.symm rfl), ?_, ?_⟩⟩
          · rw [HSN.out]; exact ho9
          · intro b hb
            rcases hat with hat | hat
            · have h9 : (Value.slice A2 (2 + k) c2).ownBlock = some b := by rw [← hat]; exact hb
              exact HNB.out b h9
            · have h9 : some b = some (w7.alloc (.cells #[.string S] 9)).heap.size := by rw [← hat]; exact hb.symm
              have h8 := (Array.getElem?_eq_some_iff.1 HBF.out).1
              injection h9 with h9
              simp at h9
              omega
      · obtain rfl : k = 3 := by omega
        have e5 : (repF s).take (2 + 3) = repF s := by rw [HREP.out]; rfl
        have el : (repF s).length = 2 + 3 := by rw [HREP.out]; rfl
        have ho := HX.out.2.2.1
        rw [e5] at ho
        have hJ := Lib.hid (join_any A2 c2 (repF s) wo (own_rd ho) (by rw [el]; exact own_cap ho) (by omega) (by have := HU.out; omega))
        rw [el, ← HR.out] at hJ
        clear e5 el ho
        go_wp2_with fail
        refine hJ.out.mono ?_
        rintro e w6 ⟨rfl, hb6⟩
        go_wp2_with fail
        go_ret
        exact ⟨rfl, HX.out.1.trans hb6⟩
end Go.Proofs.YtfmghfghhipmhaaDoor

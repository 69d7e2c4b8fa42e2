import Derived.Test.YtiddaabodkglmaaGreatK8
import Derived.Lib.QuietBelow
import Derived.BigQuiet
namespace Go.Proofs.YtiddaabodkglmaaGreat
open Go.RowKit Go.Fx Go.Sort
set_option linter.unusedVariables false
set_option linter.unusedSimpArgs false
set_option maxRecDepth 100000 in
set_option maxHeartbeats 4000000 in
theorem sPictureOk_any (A : Option Addr) (c : Nat) (us : List Value) (rss : List (List Cel)) (w : World) (h : RdRows w A us (rowsC rss)) (hn : rss.length ≤ maxLen) (he : ∀ r ∈ rss, r.length ≤ maxLen) :
    Calls Tryz.prog 49 #[.slice A rss.length c] w fun e w' => e = .returned (.bool (pictureOk rss)) ∧ Ext w w' := by
  have hn' := hn
  unfold maxLen at hn'
  have H := Lib.hid h
  have HE := Lib.hid he
  clear h he
  cases hl : (decide ((4 : Int) ≤ (rss.length : Int)) && decide ((rss.length : Int) ≤ 64))
  · have HP := Lib.hid (pic_short hl)
    go_enter Tryz.func49, Tryz.ntmps49
    go_wp2_with (go_at_call 37; refine (sIn_any _ _ _ _).mono ?_; rintro e w1 ⟨rfl, rfl⟩; rw [hl])
    go_ret
    exact ⟨by rw [HP.out]; rfl, Ext.refl _⟩
  · have hl2 := hl
    simp only [Bool.and_eq_true, decide_eq_true_eq] at hl2
    have hlo : 4 ≤ rss.length ∧ rss.length ≤ 64 := by omega
    clear hl2
    by_cases hm : rss.length % 4 = 0
    · have hm' : ((rss.length : Int) % 4 != 0) = false := by rw [bne_eq_false_iff_eq]; omega
      obtain ⟨b0, off0, B0, d0, hA0, hbw0, -, hcell0, -, -, -⟩ := H.out.atC (show 0 < rss.length by omega)
      subst hA0
      have HC0 : Hid (∀ W, Ext w W → W.cell? ⟨b0, off0, none⟩ = some (.slice B0 (rss[0]'(by omega)).length d0)) := Lib.hid (fun W hW => by rw [Below.cell hW (p := ⟨b0, off0, none⟩) hbw0]; simpa using hcell0)
      clear hcell0
      obtain ⟨n0, hn0⟩ : ∃ n, (rss[0]'(by omega)).length = n := ⟨_, rfl⟩
      rw [hn0] at HC0
      have HN0 := Lib.hid hn0
      clear hn0
      go_enter Tryz.func49, Tryz.ntmps49
      go_wp2_with (go_at_call 37; refine (sIn_any _ _ _ _).mono ?_; rintro e w1 ⟨rfl, rfl⟩; rw [hl])
      go_loopw [3] (fun i wr => ∃ (k : Nat), k ≤ rss.length ∧ i = .int .i64 k ∧ Hid (∀ j (hj : j < rss.length), j < k → rowOk rss[j] = true ∧ rss[j].length = (rss[0]'(by omega)).length) ∧ Ext w wr) (fun i _ => rss.length - (intOf i).toNat)
      case atStart => exact ⟨0, by omega, rfl, Lib.hid (fun j _ h => absurd h (by omega)), Ext.refl _⟩
      case round =>
        rename World => wo
        obtain ⟨k, hk, rfl, hall, hbr⟩ := hrel
        by_cases hlt : k < rss.length
        · obtain ⟨b, off, B, d, hA, hbw, -, hcell, hrow, hnil, -⟩ := H.out.atC hlt
          injection hA with hA
          injection hA with e1 e2
          subst e1 e2
          have hq := fun W (hW : Ext w W) => sRowOk_any B d rss[k] W (hrow.ext hW) (HE.out _ (List.getElem_mem hlt))
          obtain ⟨n1, hn1⟩ : ∃ n, rss[k].length = n := ⟨_, rfl⟩
          rw [hn1] at hcell hq
          have HN1 := Lib.hid hn1
          have KS : Hid (∀ W, Ext w W → W.cell? ⟨b0, off0 + k, none⟩ = some (.slice B n1 d) ∧ W.cell? ⟨b0, off0, none⟩ = some (.slice B0 n0 d0)) := Lib.hid (fun W hh => ⟨by rw [Below.cell hh (p := ⟨b0, off0 + k, none⟩) hbw]; exact hcell, HC0.out W hh⟩)
          obtain ⟨k1, k2⟩ := KS.out _ hbr
          have i0 : (k : Int) < (rss.length : Int) := by omega
          have i1 : (0 : Int) < (rss.length : Int) := by omega
          have i2 : 0 < rss.length := by omega
          clear hn1 hrow hnil hcell
          cases hok : rowOk rss[k]
          · have HP := Lib.hid (pic_row hlt hok)
            rw [hok] at hq
            have HQ := Lib.hid hq
            clear hok hq
            go_wp2_with fail
            have c1 := cell_regrown k1
            have cQ : ∀ dd os, Calls Tryz.prog 79 #[.slice B n1 d] (grow (redrawn wo dd) os) fun e w'' => e = .returned (.bool false) ∧ ∃ p : Regrown, w'' = grow (redrawn wo p.d) p.os := fun dd os => Calls.regrown_of ((HQ.out _ (hbr.trans (below_regrown wo dd os))).mono fun e w' ⟨a, b⟩ => ⟨a, b⟩)
            refine wp_region_quiet_below (by kernel_rfl) (by kernel_rfl) ?_
            repeat (any_goals (first | go_big_quiet_step (exact cQ _ _) | quiet_step (exact cQ _ _)))
            refine wpQuiet_nil ?_
            intro _ hw'
            obtain ⟨⟨dq, osq⟩, hw''⟩ := hw'
            subst hw''
            have hb6 : Ext wo (grow (redrawn wo dq) osq) := below_regrown wo dq osq
            clear c1 cQ
            generalize grow (redrawn wo dq) osq = w6 at *
            go_wp2_with fail
            go_ret
            exact ⟨by rw [HP.out]; rfl, hbr.trans hb6⟩
          · have HK := Lib.hid hok
            rw [hok] at hq
            have HQ := Lib.hid hq
            clear hok hq
            by_cases hwd : n1 = n0
            · have HW := Lib.hid (HN1.out.trans (hwd.trans HN0.out.symm))
              subst hwd
              go_wp2_with fail
              go_region_held3 (fun W => W.cell? ⟨b0, off0 + k, none⟩ = some (.slice B n1 d) ∧ W.cell? ⟨b0, off0, none⟩ = some (.slice B0 n1 d0))
                (exact KS.out _ (by (repeat (first | exact Below.refl _ _ | assumption | refine below_drewN ?_ _ | refine Below.drew ?_ | refine Below.alloc ?_ (by first | exact Nat.le_refl _ | (simp; done) | (simp; omega)) _ | refine Below.setCell ?_ (by first | exact Nat.le_refl _ | (simp; done) | (simp; omega)) _))))
                (first | (go_at_call 79; refine (HQ.out _ (by (repeat (first | exact Below.refl _ _ | assumption | refine below_drewN ?_ _ | refine Below.drew ?_ | refine Below.alloc ?_ (by first | exact Nat.le_refl _ | (simp; done) | (simp; omega)) _ | refine Below.setCell ?_ (by first | exact Nat.le_refl _ | (simp; done) | (simp; omega)) _)))).mono ?_; rintro e w6 ⟨rfl, hb6⟩; replace hb6 := Ext.trans (a := wo) (by (repeat (first | exact Below.refl _ _ | assumption | refine below_drewN ?_ _ | refine Below.drew ?_ | refine Below.alloc ?_ (by first | exact Nat.le_refl _ | (simp; done) | (simp; omega)) _ | refine Below.setCell ?_ (by first | exact Nat.le_refl _ | (simp; done) | (simp; omega)) _))) hb6; have hb7 := Ext.trans hbr hb6))
              go_wp2_with fail
              go_roundw
              case rel => exact ⟨k + 1, by omega, by go_num, Lib.hid (fun j hj hjk => by
                by_cases hx : j = k
                · subst hx; exact ⟨HK.out, HW.out⟩
                · exact hall.out j hj (by omega)), by (repeat (first | exact Below.refl _ _ | assumption | refine below_drewN ?_ _ | refine Below.drew ?_ | refine Below.alloc ?_ (by first | exact Nat.le_refl _ | (simp; done) | (simp; omega)) _ | refine Below.setCell ?_ (by first | exact Nat.le_refl _ | (simp; done) | (simp; omega)) _))⟩
              case measure => simp [intOf]; omega
            · have HP := Lib.hid (pic_wide (n := 0) hlt (by omega) (fun e => hwd (HN1.out.symm.trans (e.trans HN0.out))))
              have hwI : ((n1 : Int) != (n0 : Int)) = true := by rw [bne_iff_ne]; omega
              go_wp2_with fail
              go_region_held3 (fun W => W.cell? ⟨b0, off0 + k, none⟩ = some (.slice B n1 d) ∧ W.cell? ⟨b0, off0, none⟩ = some (.slice B0 n0 d0))
                (exact KS.out _ (by (repeat (first | exact Below.refl _ _ | assumption | refine below_drewN ?_ _ | refine Below.drew ?_ | refine Below.alloc ?_ (by first | exact Nat.le_refl _ | (simp; done) | (simp; omega)) _ | refine Below.setCell ?_ (by first | exact Nat.le_refl _ | (simp; done) | (simp; omega)) _))))
                (first | (go_at_call 79; refine (HQ.out _ (by (repeat (first | exact Below.refl _ _ | assumption | refine below_drewN ?_ _ | refine Below.drew ?_ | refine Below.alloc ?_ (by first | exact Nat.le_refl _ | (simp; done) | (simp; omega)) _ | refine Below.setCell ?_ (by first | exact Nat.le_refl _ | (simp; done) | (simp; omega)) _)))).mono ?_; rintro e w6 ⟨rfl, hb6⟩; replace hb6 := Ext.trans (a := wo) (by (repeat (first | exact Below.refl _ _ | assumption | refine below_drewN ?_ _ | refine Below.drew ?_ | refine Below.alloc ?_ (by first | exact Nat.le_refl _ | (simp; done) | (simp; omega)) _ | refine Below.setCell ?_ (by first | exact Nat.le_refl _ | (simp; done) | (simp; omega)) _))) hb6; have hb7 := Ext.trans hbr hb6))
              go_wp2_with fail
              go_ret
              exact ⟨by rw [HP.out]; rfl, by (repeat (first | exact Below.refl _ _ | assumption | refine below_drewN ?_ _ | refine Below.drew ?_ | refine Below.alloc ?_ (by first | exact Nat.le_refl _ | (simp; done) | (simp; omega)) _ | refine Below.setCell ?_ (by first | exact Nat.le_refl _ | (simp; done) | (simp; omega)) _))⟩
        · have HP := Lib.hid (pic_all (by omega) hlo.1 hlo.2 hm (fun j hj => hall.out j hj (by omega)))
          go_wp2_with fail
          go_ret
          exact ⟨by rw [HP.out]; rfl, by (repeat (first | exact Below.refl _ _ | assumption | refine below_drewN ?_ _ | refine Below.drew ?_ | refine Below.alloc ?_ (by first | exact Nat.le_refl _ | (simp; done) | (simp; omega)) _ | refine Below.setCell ?_ (by first | exact Nat.le_refl _ | (simp; done) | (simp; omega)) _))⟩
    · have hm' : ((rss.length : Int) % 4 != 0) = true := by rw [bne_iff_ne]; omega
      have HP := Lib.hid (pic_odd hm)
      go_enter Tryz.func49, Tryz.ntmps49
      go_wp2_with (go_at_call 37; refine (sIn_any _ _ _ _).mono ?_; rintro e w1 ⟨rfl, rfl⟩; rw [hl])
      go_ret
      exact ⟨by rw [HP.out]; rfl, Ext.refl _⟩
end Go.Proofs.YtiddaabodkglmaaGreat

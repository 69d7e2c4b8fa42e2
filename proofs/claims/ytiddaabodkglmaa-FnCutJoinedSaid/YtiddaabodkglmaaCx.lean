import Derived.Test.YtiddaabodkglmaaCw
import Derived.Test.YtiddaabodkglmaaK4
namespace Go.Fx
def slLen : Value → Nat
  | .slice _ n _ => n
  | _ => 0
theorem rd_new_set (w : World) (p : Addr) (v : Value) (cs : Array Value) (E : TypeId) (m : Nat × Nat) : Rd ((w.setCell p v).alloc (.cells cs E m)) (some ⟨w.heap.size, 0, none⟩) cs.toList := by
  have h := rd_new (w.setCell p v) cs E m
  have e : (w.setCell p v).heap.size = w.heap.size := by simp [World.setCell]
  rw [e] at h
  exact h
theorem startsGo_len (runs : List (Int × Int)) (n length gap : Int) : ∀ (f : Nat) (at_ m : Int), (startsGo runs n length gap f at_ m).length ≤ f
  | 0, _, _ => by simp [startsGo]
  | f + 1, at_, m => by
    unfold startsGo
    split
    · simp
    · split
      · rename_i r _
        have := startsGo_len runs n length gap f r.1 0
        simp; omega
      · split
        · simp
        · have := startsGo_len runs n length gap f (at_ + length) (m + 1)
          simp; omega
theorem starts_len {runs : List (Int × Int)} {n : Nat} {length gap : Int} : (starts runs n length gap).length ≤ n + 2 := by
  unfold starts
  split
  · cases runs with
    | nil => simp
    | cons r t =>
      have := startsGo_len (r :: t) n length gap ((n : Int).toNat + 1) r.1 0
      simp at this ⊢; omega
  · simp
theorem lows_short {rs : List Nat} {x : Nat} (h : lows rs x ≠ []) : rs.length ≤ 20000 := by
  unfold lows at h
  split at h
  · exact absurd rfl h
  · omega
end Go.Fx
namespace Go.Proofs.Ytiddaabodkglmaa
open Go.RowKit Go.Fx
set_option linter.unusedVariables false
set_option linter.unusedSimpArgs false
theorem snoc_it {w : World} {base : Nat} {v : Value} {k : Nat} {m : Int} {gs : List Int} {E : TypeId} (h : w.ownsRow base E 1 v (k + 1) (gs.map it ++ #[Value.int .i64 m].toList)) (hg : gs.length = k := by simp) : w.ownsRow base E 1 v (gs.length + 1) ((gs ++ [m]).map it) := by
  subst hg
  rw [List.map_append]; exact h
set_option maxRecDepth 100000 in
set_option maxHeartbeats 4000000 in
theorem iStarts_any (A : Option Addr) (c : Nat) (rs : List Nat) (x : Nat) (length gap : Int) (w : World) (h : Rd w A (rs.map fl)) (hn : rs.length ≤ 1048576) :
    Calls Try.prog 92 #[.slice A rs.length c, .float .f32 x, .int .i64 length, .int .i64 gap] w fun e w' => (∃ v, e = .returned v ∧ OI' w' w.heap.size v (starts (lows rs x) rs.length length gap)) ∧ Ext w w' := by
  have H := Lib.hid h
  clear h
  have hbeg := lows_begin rs x
  have hll := lows_len rs x
  have hsh := lows_short (rs := rs) (x := x)
  have hL := iLows_any A c rs x w H.out (by unfold maxLen; omega)
  generalize lows rs x = runs at hbeg hll hL hsh
  cases hok : startsOk runs rs.length length gap
  · have HS : Hid (starts runs rs.length length gap = []) := Lib.hid (by unfold starts; rw [hok]; rfl)
    cases hruns : runs with
    | nil =>
      subst hruns
      go_enter Try.func92, Try.ntmps92
      go_wp2_with (go_at_call 61; refine hL.mono ?_; rintro e w1 ⟨⟨v, rfl, ho⟩, hb1⟩; obtain ⟨A1, c1, rfl, hr1, -⟩ := own_slice ho)
      go_ret
      exact ⟨⟨_, rfl, by rw [HS.out]; exact World.ownsRow_nil _ _ _ _⟩, hb1⟩
    | cons r rest =>
      subst hruns
      obtain ⟨r1, r2⟩ := r
      have hb := hbeg (r1, r2) (by simp)
      simp only [] at hb
      simp only [List.length_cons] at hll
      cases hl : (decide (28 ≤ length) && decide (length ≤ 280))
      · go_enter Try.func92, Try.ntmps92
        go_wp2_with (first | (go_at_call 61; refine hL.mono ?_; rintro e w1 ⟨⟨v, rfl, ho⟩, hb1⟩; have hi1 := own_in ho; obtain ⟨A1, c1, rfl, hr1, -⟩ := own_slice ho; obtain ⟨b0, off, rfl, hbw, hc0, hc1⟩ := rr_at hr1 (i := 0) (by simp); rw [Nat.zero_mul, Nat.add_zero] at hc0 hc1; simp only [List.getElem_cons_zero] at hc0 hc1) | (go_at_call 163; refine (lengthOk_any _ _).mono ?_; rintro e w1 ⟨rfl, rfl⟩; rw [hl]) | (go_at_call 137; refine (within_any _ _ _ _).mono ?_; rintro e w1 ⟨rfl, rfl⟩; rw [hg]))
        go_ret
        exact ⟨⟨_, rfl, by rw [HS.out]; exact World.ownsRow_nil _ _ _ _⟩, hb1⟩
      · cases hg : (decide (0 ≤ gap) && decide (gap ≤ 10))
        · go_enter Try.func92, Try.ntmps92
          go_wp2_with (first | (go_at_call 61; refine hL.mono ?_; rintro e w1 ⟨⟨v, rfl, ho⟩, hb1⟩; have hi1 := own_in ho; obtain ⟨A1, c1, rfl, hr1, -⟩ := own_slice ho; obtain ⟨b0, off, rfl, hbw, hc0, hc1⟩ := rr_at hr1 (i := 0) (by simp); rw [Nat.zero_mul, Nat.add_zero] at hc0 hc1; simp only [List.getElem_cons_zero] at hc0 hc1) | (go_at_call 163; refine (lengthOk_any _ _).mono ?_; rintro e w1 ⟨rfl, rfl⟩; rw [hl]) | (go_at_call 137; refine (within_any _ _ _ _).mono ?_; rintro e w1 ⟨rfl, rfl⟩; rw [hg]))
          go_ret
          exact ⟨⟨_, rfl, by rw [HS.out]; exact World.ownsRow_nil _ _ _ _⟩, hb1⟩
        · have hp : (rs.length : Int) < r1 + length := by
            unfold startsOk at hok
            simp only [] at hok
            rw [hl, hg] at hok
            simpa using hok
          have hl2 := hl
          simp only [Bool.and_eq_true, decide_eq_true_eq] at hl2
          go_enter Try.func92, Try.ntmps92
          go_wp2_with (first | (go_at_call 61; refine hL.mono ?_; rintro e w1 ⟨⟨v, rfl, ho⟩, hb1⟩; have hi1 := own_in ho; obtain ⟨A1, c1, rfl, hr1, -⟩ := own_slice ho; obtain ⟨b0, off, rfl, hbw, hc0, hc1⟩ := rr_at hr1 (i := 0) (by simp); rw [Nat.zero_mul, Nat.add_zero] at hc0 hc1; simp only [List.getElem_cons_zero] at hc0 hc1) | (go_at_call 163; refine (lengthOk_any _ _).mono ?_; rintro e w1 ⟨rfl, rfl⟩; rw [hl]) | (go_at_call 137; refine (within_any _ _ _ _).mono ?_; rintro e w1 ⟨rfl, rfl⟩; rw [hg]))
          go_ret
          exact ⟨⟨_, rfl, by rw [HS.out]; exact World.ownsRow_nil _ _ _ _⟩, hb1⟩
  · cases hruns : runs with
    | nil => subst hruns; unfold startsOk at hok; cases hok
    | cons r rest =>
      subst hruns
      obtain ⟨r1, r2⟩ := r
      have hb := hbeg (r1, r2) (by simp)
      simp only [] at hb
      replace hsh := hsh (by simp)
      have HS : Hid (starts ((r1, r2) :: rest) rs.length length gap = r1 :: startsGo ((r1, r2) :: rest) rs.length length gap (rs.length + 1) r1 0) := Lib.hid (by unfold starts; rw [if_pos hok]; rfl)
      have hl : (decide (28 ≤ length) && decide (length ≤ 280)) = true := by unfold startsOk at hok; simp only [Bool.and_eq_true] at hok ⊢; exact hok.1.1
      have hg : (decide (0 ≤ gap) && decide (gap ≤ 10)) = true := by unfold startsOk at hok; simp only [Bool.and_eq_true] at hok ⊢; exact hok.1.2
      have hp : r1 + length ≤ (rs.length : Int) := by unfold startsOk at hok; simp only [Bool.and_eq_true, decide_eq_true_eq] at hok; exact hok.2
      have hl2 := hl
      have hg3 := hg
      simp only [Bool.and_eq_true, decide_eq_true_eq] at hl2 hg3
      have hz : (((rest.length : Int) + 1) == 0) = false := by rw [beq_eq_false_iff_ne]; omega
      have hp2 : ¬ (rs.length : Int) < r1 + length := by omega
      simp only [List.length_cons] at hll
      clear hok
      go_enter Try.func92, Try.ntmps92
      go_wp2_with (first | (go_at_call 61; refine hL.mono ?_; rintro e w1 ⟨⟨v, rfl, ho⟩, hb1⟩; have hi1 := own_in ho; obtain ⟨A1, c1, rfl, hr1, -⟩ := own_slice ho; obtain ⟨b0, off, rfl, hbw, hc0, hc1⟩ := rr_at hr1 (i := 0) (by simp); rw [Nat.zero_mul, Nat.add_zero] at hc0 hc1; simp only [List.getElem_cons_zero] at hc0 hc1) | (go_at_call 163; refine (lengthOk_any _ _).mono ?_; rintro e w1 ⟨rfl, rfl⟩; rw [hl]) | (go_at_call 137; refine (within_any _ _ _ _).mono ?_; rintro e w1 ⟨rfl, rfl⟩; rw [hg]))
      have hgt : w.heap.size ≤ b0 := (hi1 b0 rfl).1
      have hown' : (w1.alloc (.cells #[.int .i64 r1] 3)).ownsRow w.heap.size 3 1 (.slice (some ⟨w1.heap.size, 0, none⟩) 1 1) 1 (([r1] : List Int).map it) := own_row (heap_alloc_new w1 _) hb1.size rfl (by unfold maxLen; omega)
      go_loopw [10, 11] (fun v m wr => ∃ (acc : List Int) (at_ missed : Int) (f : Nat), m = .int .i64 missed ∧ wr.ownsRow w.heap.size 3 1 v (acc.length + 1) ((acc ++ [at_]).map it) ∧ Rd wr (some ⟨b0, off, none⟩) (rcells ((r1, r2) :: rest)) ∧ v.ownBlock ≠ some b0 ∧ b0 < wr.heap.size ∧ Hid (starts ((r1, r2) :: rest) rs.length length gap = (acc ++ [at_]) ++ startsGo ((r1, r2) :: rest) rs.length length gap f at_ missed) ∧ (rs.length : Int) - at_ < f ∧ 0 ≤ at_ ∧ at_ ≤ rs.length ∧ (acc.length : Int) ≤ at_ ∧ 0 ≤ missed ∧ missed ≤ gap ∧ Ext w wr) (fun v _ _ => rs.length + 2 - slLen v)
      case atStart => exact ⟨[], r1, 0, rs.length + 1, rfl, hown', hr1.ext ((Ext.refl _).alloc _), by simp [Value.ownBlock]; omega, by simp; omega, Lib.hid HS.out, by omega, by omega, by omega, by simp; omega, by omega, by omega, hb1.alloc _⟩
      case round =>
        obtain ⟨acc, at_, missed, f, rfl, ho, hrd, hnb, hbs, HF, hf, hat0, hat1, hac, hm0, hm1, hbx⟩ := hrel
        clear hown' hr1
        obtain ⟨A2, c2, rfl, -, -⟩ := own_slice ho
        obtain ⟨g, rfl, hg1, hg2⟩ := own_at ho (by omega)
        obtain ⟨f, rfl⟩ : ∃ g, f = g + 1 := ⟨f - 1, by omega⟩
        have hlast := own_cell ho (j := acc.length) (u := it at_) (by simp)
        by_cases hcont : (rs.length : Int) < at_ + length + length
        · go_wp2
          go_ret
          refine ⟨⟨.slice (some ⟨g, 0, none⟩) (acc.length + 1) c2, rfl, ?_⟩, hbx.alloc _⟩
          rw [HF.out, startsGo, if_pos (by omega), List.append_nil]
          have : (acc ++ [at_]).length = acc.length + 1 := by simp
          unfold OI'
          rw [this]
          exact own_ext ho ((Ext.refl _).alloc _)
        · go_wp2_with fail
          have hml : ((r1, r2) :: rest).length ≤ maxLen := by unfold maxLen; rw [List.length_cons]; omega
          have hix := idxRun_any (some ⟨b0, off, none⟩) c1 ((r1, r2) :: rest) (at_ + length) wr.heap.size (wr.alloc (.cells #[.int .i64 (at_ + length)] 3)) (hrd.ext ((Ext.refl _).alloc _)) hml (blk_cell (heap_alloc_new _ _) rfl) (by simp) (by omega) (by omega)
          refine Calls.mono hix ?_
          rintro e w2 ⟨⟨k, rfl, hk⟩, hb2⟩
          have kb : w2.heap[wr.heap.size]? = some (.cells #[.int .i64 (at_ + length)] 3 (0, 0)) := blk_ext (heap_alloc_new _ _) hb2
          obtain ⟨ac0, af⟩ := blk1 kb
          have hal : Ext wr (wr.alloc (.cells #[.int .i64 (at_ + length)] 3)) := (Ext.refl _).alloc _
          have ho2 := own_ext (own_ext ho hal) hb2
          have hrd2 := Rd.ext (Rd.ext hrd hal) hb2
          have hbx2 : Ext w w2 := (hbx.trans hal).trans hb2
          have hsz : wr.heap.size < w2.heap.size := (Array.getElem?_eq_some_iff.1 kb).1
          clear hix ho hrd hlast kb hb2 hal
          rcases hk with ⟨rfl, hnone⟩ | ⟨i, hi, rfl, hsome⟩
          · have HO := Lib.hid ho2
            have HB := Lib.hid hbx2
            have HR := Lib.hid hrd2
            have HZ : Hid (b0 < w2.heap.size) := Lib.hid (by omega)
            by_cases hgap : gap < missed + 1
            · have HG : Hid (startsGo ((r1, r2) :: rest) rs.length length gap (f + 1) at_ missed = []) := Lib.hid (by rw [startsGo, if_neg (by omega), hnone]; simp only []; rw [if_pos hgap])
              clear hnone ho2 hbx2 hrd2
              go_wp2
              go_ret
              refine ⟨⟨.slice (some ⟨g, 0, none⟩) (acc.length + 1) c2, rfl, ?_⟩, HB.out⟩
              rw [HF.out, HG.out, List.append_nil]
              have : (acc ++ [at_]).length = acc.length + 1 := by simp
              unfold OI'
              rw [this]
              exact HO.out
            · have HG : Hid (startsGo ((r1, r2) :: rest) rs.length length gap (f + 1) at_ missed = (at_ + length) :: startsGo ((r1, r2) :: rest) rs.length length gap f (at_ + length) (missed + 1)) := Lib.hid (by rw [startsGo, if_neg (by omega), hnone]; simp only []; rw [if_neg hgap])
              clear hnone ho2 hbx2 hrd2
              go_wp2_with (at_builtin; refine wpList_app rfl _ _ 69 rfl w.heap.size 3 _ 1 8 Try.underlying69 info_int rfl (by omega) (.slice (some ⟨g, 0, none⟩) (acc.length + 1) c2) (acc.length + 1) ((acc ++ [at_]).map it) rfl (own_ext HO.out ((Ext.refl _).alloc _)) _ 1 1 _ rfl (rd_new _ _ _ _) rfl (fun h => by cases h) (by intro u hu; simp at hu; rcases hu with rfl; rfl) (by unfold maxLen; omega) (by omega) (Ext.alloc HB.out _).size ?_; intro v1 w3 hown hgr hat)
              go_roundw
              case rel => exact ⟨acc ++ [at_], (at_ + length), (missed + 1), f, rfl, snoc_it hown, Rd.grown (Rd.ext HR.out ((Ext.refl _).alloc _)) hgr (fun ad h _ => by cases h; exact hnb.symm), own_ne hat hnb (by have := HZ.out; simp; omega), by have h1 := hgr.size; have h2 := HZ.out; simp at h1; omega, Lib.hid (by rw [HF.out, HG.out]; simp), by omega, by omega, by omega, by simp; omega, by omega, by omega, ext_grow (base := w.heap.size) (HB.out.alloc _) (own_ext HO.out ((Ext.refl _).alloc _)) (Nat.le_refl _) hgr⟩
              case measure => (obtain ⟨_, _, rfl, -, -⟩ := own_slice hown; simp [slLen]; omega)
          · have hlt' : i < ((r1, r2) :: rest).length := hi
            obtain ⟨bx, ox, hbo, hbw2, hq0, hq1⟩ := rr_at hrd2 hlt'
            cases hbo
            have hqb := hbeg _ (List.getElem_mem hlt')
            have hnr := List.find?_some hsome
            generalize ((r1, r2) :: rest)[i] = q at hq0 hq1 hqb hsome hnr
            obtain ⟨q0, q1⟩ := q
            simp only [] at hq0 hq1 hqb
            have hnr2 : at_ + length - 3 ≤ q0 ∧ q0 ≤ at_ + length + 3 := by simpa [near] using hnr
            have hi' : i < rest.length + 1 := by simpa using hi
            have hwz : w.heap.size ≤ wr.heap.size := hbx.size
            have HO := Lib.hid (own_other (p := ⟨wr.heap.size, 0, none⟩) ho2 (fun b hb => by cases hb; show g ≠ wr.heap.size; omega) (it q0))
            have HB : Hid (Ext w (w2.setCell ⟨wr.heap.size, 0, none⟩ (it q0))) := Lib.hid (Below.setCell hbx2 hwz _)
            have HR : Hid (Rd (w2.setCell ⟨wr.heap.size, 0, none⟩ (it q0)) (some ⟨b0, off, none⟩) (rcells ((r1, r2) :: rest))) := Lib.hid (Rd.grown hrd2 (grown_set (p := ⟨wr.heap.size, 0, none⟩) (grown_refl w2 (some wr.heap.size)) (.inl rfl) _) (fun ad h _ => by cases h; simp; omega))
            have HZ : Hid (b0 < (w2.setCell ⟨wr.heap.size, 0, none⟩ (it q0)).heap.size) := Lib.hid (by simp [World.setCell]; omega)
            have HG : Hid (startsGo ((r1, r2) :: rest) rs.length length gap (f + 1) at_ missed = q0 :: startsGo ((r1, r2) :: rest) rs.length length gap f q0 0) := Lib.hid (by rw [startsGo, if_neg (by omega), hsome])
            clear hsome hnr ho2 hbx2 hrd2 hi hlt'
            go_wp2_with (at_builtin; refine wpList_app rfl _ _ 69 rfl w.heap.size 3 _ 1 8 Try.underlying69 info_int rfl (by omega) (.slice (some ⟨g, 0, none⟩) (acc.length + 1) c2) (acc.length + 1) ((acc ++ [at_]).map it) rfl (own_ext HO.out ((Ext.refl _).alloc _)) _ 1 1 _ rfl (rd_new_set _ _ _ _ _ _) rfl (fun h => by cases h) (by intro u hu; simp at hu; rcases hu with rfl; rfl) (by unfold maxLen; omega) (by omega) (Ext.alloc HB.out _).size ?_; intro v1 w3 hown hgr hat)
            go_roundw
            case rel => exact ⟨acc ++ [at_], q0, 0, f, rfl, (snoc_it (gs := acc ++ [at_]) (k := acc.length + 1) (m := q0) hown (by simp)), Rd.grown (Rd.ext HR.out ((Ext.refl _).alloc _)) hgr (fun ad h _ => by cases h; exact hnb.symm), own_ne hat hnb (by have := HZ.out; simp [World.setCell] at this ⊢; omega), by have h1 := hgr.size; have h2 := HZ.out; simp [World.setCell] at h1 h2; omega, Lib.hid (by rw [HF.out, HG.out]; simp), by omega, by omega, by omega, by simp; omega, by omega, by omega, ext_grow (base := w.heap.size) (HB.out.alloc _) (own_ext HO.out ((Ext.refl _).alloc _)) (Nat.le_refl _) hgr⟩
            case measure => (obtain ⟨_, _, rfl, -, -⟩ := own_slice hown; simp [slLen]; omega)
end Go.Proofs.Ytiddaabodkglmaa

import Derived.Test.YtiddaabodkglmaaK8
import Derived.Test.YtiddaabodkglmaaHi
import Derived.Test.YtiddaabodkglmaaHn
import Derived.Test.YtiddaabodkglmaaBh
import Derived.Test.YtiddaabodkglmaaEv
import Derived.Test.YtiddaabodkglmaaEz
import Derived.Test.YtiddaabodkglmaaK7
section
namespace Go.Fx
open Go.RowKit
set_option linter.unusedVariables false
set_option linter.unusedSimpArgs false
theorem evens_cons {α : Type} (a : α) (l : List α) : evens (a :: l) = a :: evens (l.drop 1) := by
  cases l <;> rfl
theorem evens_drop {α : Type} {l : List α} {t : Nat} (h : t < l.length) : evens (l.drop t) = l[t] :: evens (l.drop (t + 2)) := by
  rw [List.drop_eq_getElem_cons h, evens_cons, List.drop_drop]
theorem evens_acc {α : Type} {l acc : List α} {t f : Nat} (h : t < l.length) (ha : acc ++ evens (l.drop t) = evens (l.drop f)) : (acc ++ [l[t]]) ++ evens (l.drop (t + 2)) = evens (l.drop f) := by
  rw [← ha, evens_drop h]; simp
theorem evens_end {α : Type} {l acc : List α} {t f : Nat} (h : l.length ≤ t) (ha : acc ++ evens (l.drop t) = evens (l.drop f)) : acc = evens (l.drop f) := by
  rw [← ha, List.drop_eq_nil_of_le h]; simp [evens]
theorem evens_max {α : Type} {l acc : List α} {t f : Nat} (ha : acc ++ evens (l.drop t) = evens (l.drop f)) (h : l.length ≤ 64) : acc.length ≤ 64 := by
  have h1 := congrArg List.length ha
  rw [List.length_append, evens_len (l.drop f), List.length_drop] at h1
  omega
theorem pictureOk_bounds {p : List (List Cel)} (h : pictureOk p = true) : 4 ≤ p.length ∧ p.length ≤ 64 ∧ p.length % 4 = 0 ∧ ∀ r ∈ p, rowOk r = true := by
  unfold pictureOk at h
  simp only [Bool.and_eq_true, decide_eq_true_eq, List.all_eq_true] at h
  exact ⟨h.1.1.1, h.1.1.2, h.1.2, fun r hr => (h.2 r hr).1⟩
end Go.Fx
namespace Go.Proofs.Ytiddaabodkglmaa
open Go.RowKit Go.Fx
set_option linter.unusedVariables false
set_option linter.unusedSimpArgs false
set_option maxRecDepth 100000 in
set_option maxHeartbeats 4000000 in
theorem iFieldOf_any (A : Option Addr) (c : Nat) (us : List Value) (rss : List (List Cel)) (f : Nat) (w : World) (h : RdRows w A us (rowsC rss)) (hf : f ≤ 1) (hok : pictureOk rss = true) (he : ∀ r ∈ rss, r.length ≤ 64) :
    Calls Try.prog 143 #[.slice A rss.length c, .int .i64 f] w fun e w' => (∃ v us', e = .returned v ∧ OCC w' w.heap.size v us' (evens (rss.drop f))) ∧ Ext w w' := by
  obtain ⟨l1, l2, l3, -⟩ := pictureOk_bounds hok
  have HQ := iPictureOk_any A c us rss w h (by unfold maxLen; omega) (fun r hr => Nat.le_trans (he r hr) (by unfold maxLen; omega))
  rw [hok] at HQ
  have HP := Lib.hid HQ
  have H := Lib.hid h
  have HE := Lib.hid he
  have hin : (decide ((0 : Int) ≤ (f : Int)) && decide ((f : Int) ≤ 1)) = true := by rw [decide_eq_true (by omega), decide_eq_true (by omega)]; rfl
  clear h he hok HQ
  go_enter Try.func143, Try.ntmps143
  go_wp2_with (first | (go_at_call 142; refine HP.out.mono ?_; rintro e w1 ⟨rfl, hb1⟩) | (go_at_call 137; refine (within_any _ _ _ _).mono ?_; rintro e w2 ⟨rfl, rfl⟩; rw [hin]))
  go_loopw [5, 6] (fun v i wr => ∃ (t : Nat) (us' : List Value) (acc : List (List Cel)), t ≤ rss.length + 1 ∧ i = .int .i64 t ∧ Hid (OCC wr w.heap.size v us' acc) ∧ Hid (acc ++ evens (rss.drop t) = evens (rss.drop f)) ∧ Ext w wr) (fun _ i _ => rss.length + 2 - (intOf i).toNat)
  case atStart => exact ⟨f, [], [], by omega, rfl, Lib.hid (Rows2.nil _ _ _ _ _), Lib.hid rfl, hb1⟩
  case round =>
    rename World => wo
    obtain ⟨t, us', acc, ht, rfl, ho, HA, hbr⟩ := hrel
    by_cases hlt : t < rss.length
    · obtain ⟨b, off, B, d, rfl, hbw, -, hcell, hrow, hnil, -⟩ := (H.out.ext hbr).atC hlt
      have hlr := HE.out _ (List.getElem_mem hlt)
      obtain ⟨A2, c2, rfl, hou⟩ := ho.out.form
      have hul : us'.length ≤ 64 := by
        have h1 := ho.out.len
        rw [List.length_map] at h1
        rw [h1]; exact evens_max HA.out l2
      have HT := Lib.hid (evens_acc hlt HA.out)
      generalize rss[t] = row at *
      go_wp2_with (first | (go_at_call 211; refine (cloneC_any B d row _ hrow hnil (by omega)).mono ?_; rintro e w2 ⟨⟨v1, rfl, ho1⟩, hb2⟩; have hnew := fun b hb => (ho1.lt b hb).1; unfold OC at ho1; obtain ⟨A3, c3, rfl, -, -⟩ := own_slice ho1) | (at_builtin; refine wpList_app rfl _ _ 28 rfl w.heap.size 43 _ 1 24 Try.underlying28 info_sc rfl (by omega) (.slice A2 us'.length c2) us'.length us' rfl (own_ext (own_ext hou hb2) ((Ext.refl _).alloc _)) _ 1 1 _ rfl (rd_new _ _ _ _) rfl (fun h => by cases h) (by intro u hu; simp at hu; rcases hu with rfl; rfl) (by unfold maxLen; omega) (by omega) (by have := hbr.size; have := hb2.size; simp; omega) ?_; intro v2 w3 hown hg hat))
      go_roundw
      case rel =>
        have hR : Hid (OCC w3 w.heap.size v2 (us' ++ [.slice A3 row.length c3]) (acc ++ [row])) := Lib.hid (by
          unfold OCC
          rw [← rowsC_snoc']
          exact ((ho.out.ext hb2).ext ((Ext.refl _).alloc _)).snoc hown (own_base (own_ext ho1 ((Ext.refl _).alloc _)) hbr.size) hg hat (Nat.le_refl _) ho.out.inR hnew)
        exact ⟨t + 2, _, _, by omega, by go_num, hR, HT, ext_grow (base := w.heap.size) ((hbr.trans hb2).alloc _) (own_ext (own_ext hou hb2) ((Ext.refl _).alloc _)) (Nat.le_refl _) hg⟩
      case measure => simp [intOf]; omega
    · have hE := Lib.hid (evens_end (by omega) HA.out)
      go_wp2
      go_ret
      exact ⟨⟨_, us', rfl, by rw [← hE.out]; exact ho.out⟩, hbr⟩
end Go.Proofs.Ytiddaabodkglmaa
end
section
namespace Go.Fx
open Go.RowKit
set_option linter.unusedVariables false
set_option linter.unusedSimpArgs false
/-- a row, sent as a line -/
def Tx (ch : Chn) (odd : Bool) (row : List Cel) (l : List Nat) : Prop := ∃ gs, cns gs = lineR (cnC row) odd ∧ cns l = tr ch gs
def TxL (ch : Chn) : Bool → List (List Cel) → List (List Nat) → Prop
  | _, [], [] => True
  | b, r :: rs, l :: ls => Tx ch b r l ∧ TxL ch (!b) rs ls
  | _, _, _ => False
theorem TxL.snoc {ch : Chn} {r : List Cel} {l : List Nat} : ∀ {b : Bool} {xs : List (List Cel)} {ls : List (List Nat)}, TxL ch b xs ls → Tx ch (b ^^ decide (xs.length % 2 = 1)) r l → TxL ch b (xs ++ [r]) (ls ++ [l])
  | b, [], [], _, h => ⟨by simpa using h, trivial⟩
  | b, x :: xs, y :: ls, h, hx => by
    refine ⟨h.1, TxL.snoc h.2 ?_⟩
    have e : (b ^^ decide ((x :: xs).length % 2 = 1)) = ((!b) ^^ decide (xs.length % 2 = 1)) := by
      rw [List.length_cons]
      by_cases h2 : xs.length % 2 = 1
      · rw [decide_eq_true h2, decide_eq_false (by omega)]; cases b <;> rfl
      · rw [decide_eq_false h2, decide_eq_true (by omega)]; cases b <;> rfl
    rw [← e]; exact hx
  | _, [], _ :: _, h, _ => h.elim
  | _, _ :: _, [], h, _ => h.elim
theorem TxL.len {ch : Chn} : ∀ {b : Bool} {xs : List (List Cel)} {ls : List (List Nat)}, TxL ch b xs ls → xs.length = ls.length
  | _, [], [], _ => rfl
  | _, _ :: _, _ :: _, h => congrArg (· + 1) (TxL.len h.2)
  | _, [], _ :: _, h => h.elim
  | _, _ :: _, [], h => h.elim
theorem TxL.app {ch : Chn} {ys : List (List Cel)} {ms : List (List Nat)} : ∀ {b : Bool} {xs : List (List Cel)} {ls : List (List Nat)}, TxL ch b xs ls → TxL ch (b ^^ decide (xs.length % 2 = 1)) ys ms → TxL ch b (xs ++ ys) (ls ++ ms)
  | b, [], [], _, h => by simpa using h
  | b, x :: xs, y :: ls, h, hx => by
    refine ⟨h.1, TxL.app h.2 ?_⟩
    have e : (b ^^ decide ((x :: xs).length % 2 = 1)) = ((!b) ^^ decide (xs.length % 2 = 1)) := by
      rw [List.length_cons]
      by_cases h2 : xs.length % 2 = 1
      · rw [decide_eq_true h2, decide_eq_false (by omega)]; cases b <;> rfl
      · rw [decide_eq_false h2, decide_eq_true (by omega)]; cases b <;> rfl
    rw [← e]; exact hx
  | _, [], _ :: _, h, _ => h.elim
  | _, _ :: _, [], h, _ => h.elim
/-- the fields before the f-th -/
def fields (rss : List (List Cel)) : Nat → List (List Cel)
  | 0 => []
  | f + 1 => fields rss f ++ evens (rss.drop f)
theorem evens_mem {α : Type} : ∀ {l : List α} {x : α}, x ∈ evens l → x ∈ l
  | a :: b :: l, x, h => by
    simp only [evens, List.mem_cons] at h
    rcases h with rfl | h
    · exact List.mem_cons_self ..
    · exact List.mem_cons_of_mem _ (List.mem_cons_of_mem _ (evens_mem h))
  | [a], x, h => by simpa [evens] using h
  | [], x, h => by simp [evens] at h
theorem flat_max {n : Nat} : ∀ {ls : List (List Nat)}, (∀ l ∈ ls, l.length ≤ n) → ls.flatten.length ≤ n * ls.length
  | [], _ => by simp
  | l :: ls, h => by
    have h1 := flat_max (n := n) (ls := ls) (fun x hx => h x (List.mem_cons_of_mem _ hx))
    have h2 := h l (List.mem_cons_self ..)
    rw [List.flatten_cons, List.length_append, List.length_cons, Nat.mul_add]; omega
theorem fields_len {rss : List (List Cel)} {f : Nat} (hf : f < 2) (h3 : rss.length % 4 = 0) (h2 : rss.length ≤ 64) : (evens (rss.drop f)).length ≤ 64 ∧ (evens (rss.drop f)).length % 2 = 0 ∧ (fields rss f).length + (evens (rss.drop f)).length ≤ 64 := by
  have e := evens_len (rss.drop f)
  rw [List.length_drop] at e
  have e0 := evens_len rss
  obtain rfl | rfl : f = 0 ∨ f = 1 := by omega
  · simp only [fields, List.length_nil]; omega
  · simp only [fields, List.length_nil, List.length_append, List.drop_zero]; omega
theorem flat_snoc (ls ms : List (List Nat)) (xs : List Nat) : (ls ++ (ms ++ [xs])).flatten = (ls ++ ms).flatten ++ xs := by simp
theorem mem_snoc {n : Nat} {ms : List (List Nat)} {xs : List Nat} (h : ∀ l ∈ ms, l.length ≤ n) (hx : xs.length ≤ n) : ∀ l ∈ ms ++ [xs], l.length ≤ n := fun l hl => by
  rcases List.mem_append.1 hl with h1 | h1
  · exact h l h1
  · rw [List.mem_singleton.1 h1]; exact hx
theorem mem_both {n : Nat} {ls ms : List (List Nat)} (h : ∀ l ∈ ls, l.length ≤ n) (h' : ∀ l ∈ ms, l.length ≤ n) : ∀ l ∈ ls ++ ms, l.length ≤ n := fun l hl => by
  rcases List.mem_append.1 hl with h1 | h1
  · exact h l h1
  · exact h' l h1
theorem own_cap' {w : World} {base : Nat} {E : TypeId} {size n : Nat} {v : Value} {xs : List Value} (h : w.ownsRow base E size v n xs) : ∀ A c, v = .slice A n c → n ≤ c := fun A c e => by subst e; exact own_cap h
end Go.Fx
namespace Go.Proofs.Ytiddaabodkglmaa
open Go.RowKit Go.Fx
set_option linter.unusedVariables false
set_option linter.unusedSimpArgs false
set_option maxRecDepth 100000 in
set_option maxHeartbeats 8000000 in
theorem iStudio_any (ch : Chn) (A : Option Addr) (c : Nat) (us : List Value) (rss : List (List Cel)) (w : World) (h : RdRows w A us (rowsC rss)) (hok : pictureOk rss = true) (he : ∀ r ∈ rss, r.length ≤ 64)
    (hT : ∀ row ∈ rss, ∀ f gs, cns gs = lineR (cnC row) f → trOk ch gs = true ∧ gs.length ≤ 1048576 ∧ ∀ xs, cns xs = tr ch gs → xs.length ≤ 280) :
    Calls Try.prog 41 #[.slice A rss.length c, .agg #[.float .f32 ch.a, .float .f32 ch.off, .complex .f32 ch.re ch.im]] w fun e w' => (∃ v ls, e = .returned (.tuple #[v, .bool true]) ∧ OF w' w.heap.size v ls.flatten ∧ TxL ch false (fields rss 2) ls) ∧ Ext w w' := by
  obtain ⟨l1, l2, l3, -⟩ := pictureOk_bounds hok
  have HQ := fun W (hW : Ext w W) => iPictureOk_any A c us rss W (h.ext hW) (by unfold maxLen; omega) (fun r hr => Nat.le_trans (he r hr) (by unfold maxLen; omega))
  rw [hok] at HQ
  have HP := Lib.hid HQ
  have H := Lib.hid h
  have HE := Lib.hid he
  have HT := Lib.hid hT
  have HOK := Lib.hid hok
  clear h he hok HQ hT
  go_enter Try.func41, Try.ntmps41
  go_wp2_with fail
  refine (HP.out _ ((Ext.refl _).alloc _)).mono ?_
  rintro e w1 ⟨rfl, hb1⟩
  have k1 : w1.heap[w.heap.size]? = some (.cells #[.float .f32 ch.a, .float .f32 ch.off, .complex .f32 ch.re ch.im] 32 (0, 0)) := blk_ext (heap_alloc_new _ _) hb1
  have hx1 : Ext w w1 := Ext.trans ((Ext.refl _).alloc _) hb1
  have KS : Hid (∀ W, Ext w1 W → W.cell? ⟨w.heap.size, 0, none⟩ = some (.float .f32 ch.a) ∧ W.cell? ⟨w.heap.size, 1, none⟩ = some (.float .f32 ch.off) ∧ W.cell? ⟨w.heap.size, 2, none⟩ = some (.complex .f32 ch.re ch.im)) := Lib.hid (fun W hW => by
    have := blk_ext k1 hW
    obtain ⟨ac0, ac1, ac2, af⟩ := blk3 this
    exact ⟨ac0, ac1, ac2⟩)
  clear k1 hb1
  go_wp2_with fail
  go_loopw [6, 7] (fun v i wr => ∃ (f : Nat) (ls : List (List Nat)), f ≤ 2 ∧ i = .int .i64 f ∧ Hid (OF wr w1.heap.size v ls.flatten) ∧ Hid (TxL ch false (fields rss f) ls ∧ (fields rss f).length % 2 = 0 ∧ (∀ l ∈ ls, l.length ≤ 280) ∧ ls.length ≤ 64) ∧ Ext w1 wr) (fun _ i _ => 2 - (intOf i).toNat)
  case atStart => exact ⟨0, [], by omega, rfl, Lib.hid (World.ownsRow_nil _ _ _ _), Lib.hid ⟨trivial, rfl, fun l h => (by cases h), by simp⟩, Ext.refl _⟩
  case round =>
    rename World => wf
    obtain ⟨f, ls, hf, rfl, hst, HL, hbf⟩ := hrel
    by_cases hlt : f < 2
    · have HF := iFieldOf_any A c us rss f wf (H.out.ext (hx1.trans hbf)) (by omega) HOK.out HE.out
      have hLEN : Hid ((evens (rss.drop f)).length ≤ 64 ∧ (evens (rss.drop f)).length % 2 = 0 ∧ (fields rss f).length + (evens (rss.drop f)).length ≤ 64) := Lib.hid (fields_len (by omega) l3 l2)
      have HM : Hid (∀ r ∈ evens (rss.drop f), r ∈ rss) := Lib.hid (fun r hr => List.mem_of_mem_drop (evens_mem hr))
      have HFU : Hid (fields rss (f + 1) = fields rss f ++ evens (rss.drop f)) := Lib.hid rfl
      generalize evens (rss.drop f) = F at *
      go_wp2_with (go_at_call 143; refine HF.mono ?_; rintro e w2 ⟨⟨v2, us2, rfl, o2⟩, hb2⟩; obtain ⟨A2, c2, rfl, ho2⟩ := o2.form)
      have HIR := Lib.hid o2.inR
      have HO2 := Lib.hid o2
      clear o2 ho2 HF
      have hul2 : us2.length = F.length := by have := HO2.out.len; rw [List.length_map] at this; exact this
      rw [hul2] at HO2 HIR
      rw [hul2]
      clear hul2
      have hz2 : wf.heap.size ≤ w2.heap.size := hb2.size
      have hz1 : w1.heap.size ≤ wf.heap.size := hbf.size
      go_loopw [6, 23] (fun v i wr => ∃ (k : Nat) (ms : List (List Nat)), k ≤ F.length ∧ i = .int .i64 k ∧ Hid (OF wr w1.heap.size v (ls ++ ms).flatten) ∧ Hid (OCC wr wf.heap.size (.slice A2 F.length c2) us2 F) ∧ Hid ((∀ b, v.ownBlock = some b → b < wf.heap.size) ∨ (∀ b, v.ownBlock = some b → w2.heap.size ≤ b)) ∧ Hid (TxL ch false (F.take k) ms ∧ (∀ l ∈ ms, l.length ≤ 280)) ∧ Ext w1 wr ∧ w2.heap.size ≤ wr.heap.size) (fun _ i _ => F.length - (intOf i).toNat)
      case atStart => exact ⟨0, [], by omega, rfl, Lib.hid (by rw [List.append_nil]; exact own_ext hst.out hb2), HO2, Lib.hid (.inl (fun b hb => (hst.out.lt b hb).2)), Lib.hid ⟨trivial, fun l h => (by cases h)⟩, hbf.trans hb2, Nat.le_refl _⟩
      case round =>
        rename World => wr
        obtain ⟨k, ms, hk, rfl, hsr, ho, hap, HMS, hbr, hzr⟩ := hrel
        clear hst
        by_cases hltk : k < F.length
        · obtain ⟨b, off, B, d, rfl, hbw, -, hcell, hrow, hnil, -⟩ := ho.out.rd.1.atC hltk
          have hmem := HM.out _ (List.getElem_mem hltk)
          have hlr := HE.out _ hmem
          have HTR := Lib.hid (HT.out _ hmem)
          have HTK : Hid (F.take (k + 1) = F.take k ++ [F[k]] ∧ (F.take k).length = k) := Lib.hid ⟨take_snoc hltk, by rw [List.length_take]; omega⟩
          generalize F[k] = row at *
          obtain ⟨par, hpar⟩ : ∃ par, decide (k % 2 = 1) = par := ⟨_, rfl⟩
          have HPAR := Lib.hid hpar
          have hpi : ((k : Int).tmod 2 == 1) = par := by
            rw [← hpar, Bool.eq_iff_iff, beq_iff_eq, decide_eq_true_iff, Int.tmod_eq_emod_of_nonneg (by omega)]; omega
          have HML : Hid (∀ W, Ext wr W → Calls Try.prog 111 #[.slice B row.length d, .bool par] W fun e w' => (∃ v gs, e = .returned v ∧ OF w' W.heap.size v gs ∧ cns gs = lineR (cnC row) par) ∧ Ext W w') := Lib.hid (fun W hW => iMakeLine_any B d row par W (hrow.ext hW) (by omega))
          have HT2 : Hid (∀ W A4 c4 gs, Rd W A4 (gs.map fl) → gs.length ≤ c4 → cns gs = lineR (cnC row) par → Calls Try.prog 89 #[.agg #[.float .f32 ch.a, .float .f32 ch.off, .complex .f32 ch.re ch.im], .slice A4 gs.length c4] W fun e w' => (∃ A5 c5 xs, e = .returned (.tuple #[.slice A5 xs.length c5, .bool true]) ∧ OF w' W.heap.size (.slice A5 xs.length c5) xs ∧ cns xs = tr ch gs ∧ xs.length ≤ 280) ∧ Ext W w') := Lib.hid (fun W A4 c4 gs h1 h2 h3 => by
            have ht := HTR.out par gs h3
            refine (iTransmit_any ch A4 c4 gs W h1 (by have := ht.2.1; unfold maxLen; omega) h2).mono ?_
            rintro e w5 ⟨⟨v5, xs, rfl, ho5, hg5⟩, hb5⟩
            obtain ⟨A5, c5, rfl, -, -⟩ := own_slice ho5
            exact ⟨⟨A5, c5, xs, by rw [ht.1], ho5, hg5, ht.2.2 xs hg5⟩, hb5⟩)
          obtain ⟨A6, c6, rfl, -, -⟩ := own_slice hsr.out
          have hsz : (ls ++ ms).flatten.length ≤ 280 * 128 := by
            have h1 := flat_max (n := 280) (mem_both HL.out.2.2.1 HMS.out.2)
            have h2 := HMS.out.1.len
            have h3 := HL.out.2.2.2
            rw [HTK.out.2] at h2
            have h4 := hLEN.out.1
            rw [List.length_append, ← h2] at h1
            have h5 : 280 * (ls.length + k) ≤ 280 * 128 := Nat.mul_le_mul_left _ (by omega)
            omega
          obtain ⟨n6, hn6⟩ : ∃ n, (ls ++ ms).flatten.length = n := ⟨_, rfl⟩
          have HSO : Hid (wr.ownsRow w1.heap.size 29 1 (.slice A6 n6 c6) n6 ((ls ++ ms).flatten.map fl)) := Lib.hid (by have h1 := hsr.out; unfold OF at h1; rw [hn6] at h1; exact h1)
          have HAP : Hid ((∀ b, (Value.slice A6 n6 c6).ownBlock = some b → b < wf.heap.size) ∨ (∀ b, (Value.slice A6 n6 c6).ownBlock = some b → w2.heap.size ≤ b)) := Lib.hid (by have h1 := hap.out; rw [hn6] at h1; exact h1)
          have HK1 : Hid (k + 1 ≤ F.length) := Lib.hid hltk
          rw [hn6] at hsz
          rw [hn6]
          have HN6 := Lib.hid hn6
          clear hn6
          obtain ⟨k1, k2, k3⟩ := KS.out _ hbr
          clear hpar hrow hnil hmem
          have hltkI : (k : Int) < (F.length : Int) := by omega
          have hF64 := hLEN.out.1
          have hk64 : k < 64 := by omega
          go_wp2_with fail
          go_region_held3 (fun W => W.cell? ⟨w.heap.size, 0, none⟩ = some (.float .f32 ch.a) ∧ W.cell? ⟨w.heap.size, 1, none⟩ = some (.float .f32 ch.off) ∧ W.cell? ⟨w.heap.size, 2, none⟩ = some (.complex .f32 ch.re ch.im))
            (first | exact KS.out _ (Ext.trans hbr hb5) | exact KS.out _ (Ext.trans hbr (by (repeat (first | exact Below.refl _ _ | assumption | refine below_drewN ?_ _ | refine Below.drew ?_ | refine Below.alloc ?_ (by first | exact Nat.le_refl _ | (simp; done) | (simp; omega)) _ | refine Below.setCell ?_ (by first | exact Nat.le_refl _ | (simp; done) | (simp; omega)) _)))) | exact KS.out _ (by (repeat (first | exact Below.refl _ _ | assumption | refine below_drewN ?_ _ | refine Below.drew ?_ | refine Below.alloc ?_ (by first | exact Nat.le_refl _ | (simp; done) | (simp; omega)) _ | refine Below.setCell ?_ (by first | exact Nat.le_refl _ | (simp; done) | (simp; omega)) _))))
            (first
              | (go_at_call 111; refine (HML.out _ (by (repeat (first | exact Below.refl _ _ | assumption | refine below_drewN ?_ _ | refine Below.drew ?_ | refine Below.alloc ?_ (by first | exact Nat.le_refl _ | (simp; done) | (simp; omega)) _ | refine Below.setCell ?_ (by first | exact Nat.le_refl _ | (simp; done) | (simp; omega)) _)))).mono ?_; rintro e w4 ⟨⟨v4, gs, rfl, ho4, hg4⟩, hb4⟩; unfold OF at ho4; have hcp4 := own_cap' ho4; obtain ⟨A4, c4, rfl, hr4, -⟩ := own_slice ho4; have hcp := hcp4 _ _ rfl; replace hb4 := Ext.trans (a := wr) (by (repeat (first | exact Below.refl _ _ | assumption | refine below_drewN ?_ _ | refine Below.drew ?_ | refine Below.alloc ?_ (by first | exact Nat.le_refl _ | (simp; done) | (simp; omega)) _ | refine Below.setCell ?_ (by first | exact Nat.le_refl _ | (simp; done) | (simp; omega)) _))) hb4)
              | (go_at_call 89; refine (HT2.out _ A4 c4 gs (hr4.ext (by (repeat (first | exact Below.refl _ _ | assumption | refine below_drewN ?_ _ | refine Below.drew ?_ | refine Below.alloc ?_ (by first | exact Nat.le_refl _ | (simp; done) | (simp; omega)) _ | refine Below.setCell ?_ (by first | exact Nat.le_refl _ | (simp; done) | (simp; omega)) _)))) hcp hg4).mono ?_; rintro e w5 ⟨⟨A5, c5, xs, rfl, ho5, hg5, hxl⟩, hb5⟩; replace hb5 := Ext.trans (a := wr) (Ext.trans hb4 (by (repeat (first | exact Below.refl _ _ | assumption | refine below_drewN ?_ _ | refine Below.drew ?_ | refine Below.alloc ?_ (by first | exact Nat.le_refl _ | (simp; done) | (simp; omega)) _ | refine Below.setCell ?_ (by first | exact Nat.le_refl _ | (simp; done) | (simp; omega)) _)))) hb5))
          have hos : w5.ownsRow w1.heap.size 29 1 (.slice A6 n6 c6) n6 ((ls ++ ms).flatten.map fl) := own_ext HSO.out hb5
          have hn5 : A5 = none → xs.length = 0 := by
            obtain ⟨A', c', e, -, h⟩ := own_slice ho5
            cases e; exact h
          have hz5 : wr.heap.size ≤ w5.heap.size := hb5.size
          go_wp2_with (at_builtin; refine wpList_app rfl _ _ 22 rfl w1.heap.size 29 _ 1 4 Try.underlying22 info_f32 rfl (by omega) (.slice A6 n6 c6) n6 ((ls ++ ms).flatten.map fl) rfl hos A5 xs.length c5 (xs.map fl) rfl (own_rd ho5) (by rw [List.length_map, Nat.mul_one]) hn5 oneCell_fl (by unfold maxLen; omega) (by omega) (Nat.le_trans hbr.size hz5) ?_; intro v7 w7 hown hg hat)
          go_roundw
          case rel =>
            have hX5 : Ext w1 w5 := hbr.trans hb5
            have hk1 := HK1.out
            refine ⟨k + 1, ms ++ [xs], HK1.out, by go_num, Lib.hid ?_, Lib.hid ?_, Lib.hid ?_, Lib.hid ⟨?_, mem_snoc HMS.out.2 hxl⟩, ext_grow (base := w1.heap.size) hX5 hos (Nat.le_refl _) hg, Nat.le_trans (Nat.le_trans hzr hz5) hg.size⟩
            · unfold OF
              rw [flat_snoc, List.map_append, List.length_append, HN6.out]
              exact hown
            · rcases HAP.out with h1 | h1
              · exact Rows2.past (u := .slice A6 n6 c6) (c := 0) (d := wf.heap.size) (ho.out.ext hb5) hg HIR.out (fun b hb => ⟨Nat.zero_le _, h1 b hb⟩) (.inr (Nat.le_refl _))
              · exact Rows2.past (u := .slice A6 n6 c6) (c := w2.heap.size) (d := w5.heap.size) (ho.out.ext hb5) hg HIR.out (fun b hb => ⟨h1 b hb, (hos.lt b hb).2⟩) (.inl (Nat.le_refl _))
            · rcases hat with h2 | h2
              · rw [h2]; exact HAP.out
              · exact .inr (fun b hb => by rw [h2] at hb; cases hb; omega)
            · rw [HTK.out.1]
              refine HMS.out.1.snoc ?_
              rw [HTK.out.2, HPAR.out, Bool.false_xor]
              exact ⟨gs, hg4, hg5⟩
          case measure => have hk1 := HK1.out; simp [intOf]; omega
        · have hkn : k = F.length := by omega
          have HK := Lib.hid hkn
          clear hkn
          go_wp2_with fail
          go_roundw
          case rel =>
            have hft : F.take k = F := by rw [HK.out]; exact List.take_of_length_le (Nat.le_refl _)
            have h1 := HMS.out.1
            rw [hft] at h1
            have e1 := HL.out.1.len
            have e2 := h1.len
            have e3 := hLEN.out
            have e4 := HL.out.2.1
            refine ⟨f + 1, ls ++ ms, by omega, by go_num, hsr, Lib.hid ⟨?_, ?_, mem_both HL.out.2.2.1 HMS.out.2, ?_⟩, hbr⟩
            · rw [HFU.out]
              refine HL.out.1.app ?_
              rw [decide_eq_false (by omega)]
              exact h1
            · rw [HFU.out, List.length_append]; omega
            · rw [List.length_append]; omega
          case measure => simp [intOf]; omega
    · have hf2 : f = 2 := by omega
      subst hf2
      go_wp2_with fail
      go_ret2
      exact ⟨⟨_, ls, rfl, own_base hst.out hx1.size, HL.out.1⟩, hx1.trans hbf⟩
end Go.Proofs.Ytiddaabodkglmaa
end
section
namespace Go.Fx
open Go.RowKit
set_option linter.unusedVariables false
set_option linter.unusedSimpArgs false
theorem cell_self {c : Cel} (h : cellOk c = true) : feq .f32 c.re c.re = true ∧ feq .f32 c.im c.im = true := by
  obtain ⟨-, hr, hi⟩ := cell_ble h
  obtain ⟨a, ha, -⟩ := hr
  obtain ⟨b, hb, -⟩ := hi
  exact ⟨by rw [feq_fk ha.fk ha.fk]; simp, by rw [feq_fk hb.fk hb.fk]; simp⟩
theorem pair_at {rss : List (List Cel)} (hp : ∀ i, i < rss.length → 2 ≤ i % 4 → (rss.getD i []).map clr = (rss.getD (i - 2) []).map clr) {k : Nat} (h0 : k < rss.length) (h2 : k + 2 < rss.length) (hk : k % 4 < 2) : rss[k + 2].length = rss[k].length ∧ ∀ j (h : j < rss[k].length) (h' : j < rss[k + 2].length), rss[k + 2][j].re = rss[k][j].re ∧ rss[k + 2][j].im = rss[k][j].im := by
  have e := hp (k + 2) h2 (by omega)
  have e1 : rss.getD (k + 2) [] = rss[k + 2] := by rw [List.getD_eq_getElem?_getD, List.getElem?_eq_getElem h2]; rfl
  have e2 : rss.getD (k + 2 - 2) [] = rss[k] := by rw [show k + 2 - 2 = k by omega, List.getD_eq_getElem?_getD, List.getElem?_eq_getElem h0]; rfl
  rw [e1, e2] at e
  refine ⟨by have := congrArg List.length e; simpa using this, fun j h h' => ?_⟩
  have e3 := congrArg (fun l => l[j]?) e
  simp only [List.getElem?_map, List.getElem?_eq_getElem h, List.getElem?_eq_getElem h', Option.map_some, Option.some.injEq] at e3
  have e4 : (rss[k + 2][j].re, rss[k + 2][j].im) = (rss[k][j].re, rss[k][j].im) := e3
  injection e4 with e5 e6
  exact ⟨e5, e6⟩
end Go.Fx
namespace Go.Proofs.Ytiddaabodkglmaa
open Go.RowKit Go.Fx
set_option linter.unusedVariables false
set_option linter.unusedSimpArgs false
set_option maxRecDepth 100000 in
set_option maxHeartbeats 4000000 in
theorem iIsPaired_any (A : Option Addr) (c : Nat) (us : List Value) (rss : List (List Cel)) (w : World) (h : RdRows w A us (rowsC rss)) (hok : pictureOk rss = true) (he : ∀ r ∈ rss, r.length ≤ 64)
    (hp : ∀ i, i < rss.length → 2 ≤ i % 4 → (rss.getD i []).map clr = (rss.getD (i - 2) []).map clr) :
    Calls Try.prog 42 #[.slice A rss.length c] w fun e w' => e = .returned (.bool true) ∧ Ext w w' := by
  obtain ⟨l1, l2, l3, l4⟩ := pictureOk_bounds hok
  have HQ := iPictureOk_any A c us rss w h (by unfold maxLen; omega) (fun r hr => Nat.le_trans (he r hr) (by unfold maxLen; omega))
  rw [hok] at HQ
  have HP := Lib.hid HQ
  have H := Lib.hid h
  have HE := Lib.hid he
  have HC := Lib.hid l4
  have HPR := Lib.hid hp
  clear h he hok HQ l4 hp
  go_enter Try.func42, Try.ntmps42
  go_wp2_with (go_at_call 142; refine HP.out.mono ?_; rintro e w1 ⟨rfl, hb1⟩)
  go_loopw [10] (fun i wr => ∃ (k : Nat), k ≤ rss.length ∧ i = .int .i64 k ∧ Ext w wr) (fun i _ => rss.length - (intOf i).toNat)
  case atStart => exact ⟨0, by omega, rfl, hb1⟩
  case round =>
    rename World => wo
    obtain ⟨k, hk, rfl, hbr⟩ := hrel
    by_cases hlt : k < rss.length
    · by_cases hk4 : k % 4 < 2
      · have hrem : decide ((1 : Int) < (k : Int) % 4) = false := by rw [decide_eq_false_iff_not]; omega
        have hlt2 : k + 2 < rss.length := by omega
        obtain ⟨hl2, hcol⟩ := pair_at HPR.out hlt hlt2 hk4
        obtain ⟨b, off, B1, d1, rfl, hbw, -, hc1, hr1, -, -⟩ := H.out.atC hlt
        obtain ⟨b', off', B2, d2, hA, -, -, hc2, hr2, -, -⟩ := H.out.atC hlt2
        injection hA with hA
        injection hA with e1 e2
        subst e1 e2
        have hm64 := HE.out _ (List.getElem_mem hlt)
        have hcells := row_cell (HC.out _ (List.getElem_mem hlt))
        rw [hl2] at hc2
        generalize rss[k] = R at *
        generalize rss[k + 2] = T at *
        have HL := Lib.hid hl2
        have HCOL := Lib.hid hcol
        have HR1 := Lib.hid hr1
        have HR2 := Lib.hid hr2
        have HCE := Lib.hid hcells
        clear hl2 hcol hr1 hr2 hcells
        obtain ⟨m, hm⟩ : ∃ m, R.length = m := ⟨_, rfl⟩
        rw [hm] at hc1 hc2 hm64
        have HM := Lib.hid hm
        clear hm
        have i0 : IntKind.i64.wrap ((k : Int) + 2) = (k : Int) + 2 := by rw [IntKind.wrap_i64]; omega
        have i1 : (0 : Int) ≤ (k : Int) + 2 := by omega
        have i2 : (k : Int) + 2 < (rss.length : Int) := by omega
        have i3 : ((k : Int) + 2).toNat = k + 2 := by omega
        have i4 : (k : Int) < (rss.length : Int) := by omega
        have KS0 : Hid (∀ W, Ext w W → W.cell? ⟨b, off + k, none⟩ = some (.slice B1 m d1) ∧ W.cell? ⟨b, off + (k + 2), none⟩ = some (.slice B2 m d2)) := Lib.hid (fun W hh => ⟨by rw [Below.cell hh (p := ⟨b, off + k, none⟩) hbw]; exact hc1, by rw [Below.cell hh (p := ⟨b, off + (k + 2), none⟩) hbw]; exact hc2⟩)
        clear hc1 hc2
        obtain ⟨f1, -⟩ := KS0.out _ hbr
        go_wp2_with fail
        clear f1
        go_loopw [21] (fun i wr => ∃ (j : Nat), j ≤ m ∧ i = .int .i64 j ∧ Ext w wr) (fun i _ => m - (intOf i).toNat)
        case atStart => exact ⟨0, by omega, rfl, hbr⟩
        case round =>
          rename World => wr
          obtain ⟨j, hj, rfl, hbj⟩ := hrel
          by_cases hlj : j < m
          · have hj1 : j < R.length := by rw [HM.out]; exact hlj
            have hj2 : j < T.length := by rw [HL.out]; exact hj1
            obtain ⟨b1, o1, rfl, hw1, -, hd1⟩ := rc_at HR1.out hj1
            obtain ⟨b2, o2, rfl, hw2, -, hd2⟩ := rc_at HR2.out hj2
            obtain ⟨q1, q2⟩ := HCOL.out j hj1 hj2
            obtain ⟨g1, g2⟩ := cell_self (HCE.out _ (List.getElem_mem hj1))
            rw [q1, q2] at hd2
            generalize R[j].re = re at *
            generalize R[j].im = im at *
            clear q1 q2
            have hljI : (j : Int) < (m : Int) := by omega
            have KS : Hid (∀ W, Ext w W → W.cell? ⟨b, off + k, none⟩ = some (.slice (some ⟨b1, o1, none⟩) m d1) ∧ W.cell? ⟨b, off + (k + 2), none⟩ = some (.slice (some ⟨b2, o2, none⟩) m d2) ∧ W.cell? ⟨b1, o1 + j * 2 + 1, none⟩ = some (.complex .f32 re im) ∧ W.cell? ⟨b2, o2 + j * 2 + 1, none⟩ = some (.complex .f32 re im)) := Lib.hid (fun W hh => ⟨(KS0.out W hh).1, (KS0.out W hh).2, by rw [Below.cell hh (p := ⟨b1, o1 + j * 2 + 1, none⟩) hw1]; exact hd1, by rw [Below.cell hh (p := ⟨b2, o2 + j * 2 + 1, none⟩) hw2]; exact hd2⟩)
            clear hd1 hd2
            obtain ⟨f1, f2, f3, f4⟩ := KS.out _ hbj
            go_wp2_with fail
            go_region_held3 (fun W => W.cell? ⟨b, off + k, none⟩ = some (.slice (some ⟨b1, o1, none⟩) m d1) ∧ W.cell? ⟨b, off + (k + 2), none⟩ = some (.slice (some ⟨b2, o2, none⟩) m d2) ∧ W.cell? ⟨b1, o1 + j * 2 + 1, none⟩ = some (.complex .f32 re im) ∧ W.cell? ⟨b2, o2 + j * 2 + 1, none⟩ = some (.complex .f32 re im))
              (exact KS.out _ (by (repeat (first | exact Below.refl _ _ | assumption | refine below_drewN ?_ _ | refine Below.drew ?_ | refine Below.alloc ?_ (by first | exact Nat.le_refl _ | (simp; done) | (simp; omega)) _ | refine Below.setCell ?_ (by first | exact Nat.le_refl _ | (simp; done) | (simp; omega)) _))))
              (fail)
            go_wp2_with fail
            go_roundw
            case rel => exact ⟨j + 1, by omega, by go_num, by (repeat (first | exact Below.refl _ _ | assumption | refine below_drewN ?_ _ | refine Below.drew ?_ | refine Below.alloc ?_ (by first | exact Nat.le_refl _ | (simp; done) | (simp; omega)) _ | refine Below.setCell ?_ (by first | exact Nat.le_refl _ | (simp; done) | (simp; omega)) _))⟩
            case measure => simp [intOf]; omega
          · go_wp2
            go_roundw
            case rel => exact ⟨k + 1, by omega, by go_num, hbj⟩
            case measure => simp [intOf]; omega
      · have hrem : decide ((1 : Int) < (k : Int) % 4) = true := by rw [decide_eq_true]; omega
        go_wp2
        go_roundw
        case rel => exact ⟨k + 1, by omega, by go_num, hbr⟩
        case measure => simp [intOf]; omega
    · go_wp2
      go_ret
      exact ⟨rfl, hbr⟩
end Go.Proofs.Ytiddaabodkglmaa
end
section
namespace Go.Fx
open Go.RowKit Go.Proofs.Ytiddaabodkglmaa
set_option linter.unusedVariables false
set_option linter.unusedSimpArgs false
theorem link_nums : ∀ {p q : List Cel} {ys zs : List I3}, LinkRow p ys → LinkRow q zs → q.map clr = p.map clr → ∃ us, LinkRow q us ∧ us.map Prod.snd = ys.map Prod.snd
  | [], [], [], [], _, _, _ => ⟨[], ⟨trivial, fun a h => by cases h⟩, rfl⟩
  | c :: p, d :: q, a :: ys, b :: zs, h1, h2, h3 => by
    simp only [List.map_cons, List.cons.injEq] at h3
    obtain ⟨us, u1, u2⟩ := link_nums (p := p) (q := q) (ys := ys) (zs := zs) ⟨h1.1.2, fun x hx => h1.2 x (List.mem_cons_of_mem _ hx)⟩ ⟨h2.1.2, fun x hx => h2.2 x (List.mem_cons_of_mem _ hx)⟩ h3.2
    have hc : (d.re, d.im) = (c.re, c.im) := h3.1
    injection hc with hre him
    have sa := h1.2 a List.mem_cons_self
    have sb := h2.2 b List.mem_cons_self
    refine ⟨(b.1, a.2) :: us, ⟨⟨⟨h2.1.1.1, by rw [hre]; exact h1.1.1.2.1, by rw [him]; exact h1.1.1.2.2⟩, u1.1⟩, ?_⟩, by simp [u2]⟩
    intro x hx
    rcases List.mem_cons.1 hx with rfl | hx
    · exact ⟨sb.1, sb.2.1, sa.2.2.1, sa.2.2.2⟩
    · exact u1.2 x hx
  | [], [], [], _ :: _, _, h, _ => h.1.elim
  | [], [], _ :: _, _, h, _, _ => h.1.elim
  | [], _ :: _, _, _, _, _, h => by simp at h
  | _ :: _, [], _, _, _, _, h => by simp at h
  | _ :: _, _ :: _, [], _, h, _, _ => h.1.elim
  | _ :: _, _ :: _, _ :: _, [], _, h, _ => h.1.elim
/-- two rows of a field, sent -/
theorem sent_two {ch : Chn} {j W : Nat} {O X Y : Int} (hc : LinkCh ch j O X Y) {p q : List Cel} {l m : List Nat} (hp : ∃ ys, LinkRow p ys) (hq : ∃ ys, LinkRow q ys) (hpq : q.map clr = p.map clr) (lp : p.length = W) (lq : q.length = W) (h1 : 1 ≤ W) (h64 : W ≤ 64) (t1 : Tx ch false p l) (t2 : Tx ch true q m) :
    ∃ ys us, LinkRow p ys ∧ LinkRow q us ∧ us.map Prod.snd = ys.map Prod.snd ∧ p.length = W ∧ q.length = W ∧ LV 7 l (amtI j O X Y false ys) ∧ LV 7 m (amtI j O X Y true us) := by
  obtain ⟨ys, hy⟩ := hp
  obtain ⟨zs, hz⟩ := hq
  obtain ⟨us, hu, hs⟩ := link_nums hy hz hpq
  obtain ⟨g1, e1, f1⟩ := t1
  obtain ⟨g2, e2, f2⟩ := t2
  exact ⟨ys, us, hy, hu, hs, lp, lq, (link_sent hc hy (by omega) (by omega) e1).2 l f1, (link_sent hc hu (by omega) (by omega) e2).2 m f2⟩
end Go.Fx
end
section
namespace Go.Fx
open Go.RowKit Go.Proofs.Ytiddaabodkglmaa
set_option linter.unusedVariables false
set_option linter.unusedSimpArgs false
theorem sent_fields {ch : Chn} {j W : Nat} {O X Y : Int} (hc : LinkCh ch j O X Y) {rss : List (List Cel)} (hp : Pic W rss) (h1 : 1 ≤ W) (h64 : W ≤ 64) (hn : rss.length = 4 ∨ rss.length = 8) {ls : List (List Nat)} (ht : TxL ch false (fields rss 2) ls) : Sent W j O X Y (fields rss 2) ls := by
  rcases hn with hn | hn
  · match rss, hn with
    | [a, b, c, d], _ =>
      have p2 := hp.pair 2 (by simp) (by decide)
      have p3 := hp.pair 3 (by simp) (by decide)
      have hL := hp.link
      have hW := hp.wide
      rcases ls with _ | ⟨l1, ls⟩; · exact ht.elim
      rcases ls with _ | ⟨l2, ls⟩; · exact ht.2.elim
      rcases ls with _ | ⟨l3, ls⟩; · exact ht.2.2.elim
      rcases ls with _ | ⟨l4, ls⟩; · exact ht.2.2.2.elim
      rcases ls with _ | ⟨l5, ls⟩
      · exact ⟨sent_two hc (hL a (by simp)) (hL c (by simp)) p2 (hW a (by simp)) (hW c (by simp)) h1 h64 ht.1 ht.2.1, sent_two hc (hL b (by simp)) (hL d (by simp)) p3 (hW b (by simp)) (hW d (by simp)) h1 h64 ht.2.2.1 ht.2.2.2.1, trivial⟩
      · exact ht.2.2.2.2.elim
  · match rss, hn with
    | [a, b, c, d, e, f, g, h], _ =>
      have p2 := hp.pair 2 (by simp) (by decide)
      have p3 := hp.pair 3 (by simp) (by decide)
      have p6 := hp.pair 6 (by simp) (by decide)
      have p7 := hp.pair 7 (by simp) (by decide)
      have hL := hp.link
      have hW := hp.wide
      rcases ls with _ | ⟨l1, ls⟩; · exact ht.elim
      rcases ls with _ | ⟨l2, ls⟩; · exact ht.2.elim
      rcases ls with _ | ⟨l3, ls⟩; · exact ht.2.2.elim
      rcases ls with _ | ⟨l4, ls⟩; · exact ht.2.2.2.elim
      rcases ls with _ | ⟨l5, ls⟩; · exact ht.2.2.2.2.elim
      rcases ls with _ | ⟨l6, ls⟩; · exact ht.2.2.2.2.2.elim
      rcases ls with _ | ⟨l7, ls⟩; · exact ht.2.2.2.2.2.2.elim
      rcases ls with _ | ⟨l8, ls⟩; · exact ht.2.2.2.2.2.2.2.elim
      rcases ls with _ | ⟨l9, ls⟩
      · exact ⟨sent_two hc (hL a (by simp)) (hL c (by simp)) p2 (hW a (by simp)) (hW c (by simp)) h1 h64 ht.1 ht.2.1, sent_two hc (hL e (by simp)) (hL g (by simp)) p6 (hW e (by simp)) (hW g (by simp)) h1 h64 ht.2.2.1 ht.2.2.2.1,
          sent_two hc (hL b (by simp)) (hL d (by simp)) p3 (hW b (by simp)) (hW d (by simp)) h1 h64 ht.2.2.2.2.1 ht.2.2.2.2.2.1, sent_two hc (hL f (by simp)) (hL h (by simp)) p7 (hW f (by simp)) (hW h (by simp)) h1 h64 ht.2.2.2.2.2.2.1 ht.2.2.2.2.2.2.2.1, trivial⟩
      · exact ht.2.2.2.2.2.2.2.2.elim
end Go.Fx
end
section
namespace Go.Fx
open Go.RowKit Go.Proofs.Ytiddaabodkglmaa
set_option linter.unusedVariables false
set_option linter.unusedSimpArgs false
theorem top_plain {ch : Chn} {j W : Nat} {O X Y : Int} (hc : LinkCh ch j O X Y) {rss : List (List Cel)} (hp : Pic W rss) (h1 : 1 ≤ W) (h4 : W ≤ 4) (hn : rss.length = 4 ∨ rss.length = 8) {ls : List (List Nat)} (ht : TxL ch false (fields rss 2) ls) :
    recvOk (W : Int) (rss.length : Int) 3250585600 1040187392 1065353216 0 ls.flatten = true ∧ ∀ out, out.map cnC = recv (W : Int) (rss.length : Int) 3250585600 1040187392 1065353216 0 ls.flatten → EqAll out rss := by
  have hg := (sent_fields hc hp h1 (by omega) hn ht).got hc.j2 hc.o hc.x hc.y h1 (by omega)
  have e0 := evens_len rss
  have e1 := evens_len (rss.drop 1)
  rw [List.length_drop] at e1
  have hf : fields rss 2 = evens rss ++ evens (rss.drop 1) := by simp [fields]
  have hfl : (fields rss 2).length = rss.length := by rw [hf, List.length_append]; omega
  have hll : ls.length = rss.length := by rw [← hg.len, hfl]
  obtain ⟨k1, k2⟩ := hg.recv h1 h4 (by omega)
  rw [hll] at k1 k2
  have ha : (fields rss 2).take (rss.length / 2) = evens rss := by rw [hf, List.take_append_of_le_length (by omega), List.take_of_length_le (by omega)]
  have hb : (fields rss 2).drop (rss.length / 2) = evens (rss.drop 1) := by rw [hf, List.drop_append_of_le_length (by omega), List.drop_of_length_le (by omega), List.nil_append]
  rw [ha, hb, weave_evens rss (by omega)] at k2
  refine ⟨k1, fun out ho => ?_⟩
  rw [← ho] at k2
  exact k2.of_cn.all
end Go.Fx
end
section
namespace Go.Fx
open Go.RowKit Go.Proofs.Ytiddaabodkglmaa
set_option linter.unusedVariables false
set_option linter.unusedSimpArgs false
theorem feq_comm (k : FloatKind) (x y : Nat) : feq k x y = feq k y x := by
  cases hx : fk k x with
  | none => rw [(cmp_nan (.inl hx)).1, (cmp_nan (.inr hx)).1]
  | some a =>
    cases hy : fk k y with
    | none => rw [(cmp_nan (.inr hy)).1, (cmp_nan (.inl hy)).1]
    | some b => rw [feq_fk hx hy, feq_fk hy hx]; exact decide_eq_decide.2 ⟨fun h => h.symm, fun h => h.symm⟩
theorem eqCel_comm (c d : Cel) : eqCel c d = eqCel d c := by
  unfold eqCel
  rw [feq_comm, feq_comm .f32 c.re, feq_comm .f32 c.im]
theorem EqAll.symm {a b : List (List Cel)} (h : EqAll a b) : EqAll b a :=
  ⟨h.1.symm, fun i h1 h2 => ⟨(h.2 i h2 h1).1.symm, fun j k1 k2 => by rw [eqCel_comm]; exact (h.2 i h2 h1).2 j k2 k1⟩⟩
theorem setOk_link {W m : Nat} (h1 : 1 ≤ W) (h4 : W ≤ 4) (hm : m = 4 ∨ m = 8) : setOk (W : Int) (m : Int) 3250585600 1040187392 1065353216 0 = true := by
  have e : (within32 3250585600 1149239296 && fge .f32 1040187392 0 && fle .f32 1040187392 1098907648 && fge .f32 1065353216 0 && fle .f32 1065353216 1098907648) = true := by decide +kernel
  unfold setOk
  simp only [Bool.and_eq_true, decide_eq_true_eq] at e ⊢
  obtain ⟨⟨⟨⟨e1, e2⟩, e3⟩, e4⟩, e5⟩ := e
  exact ⟨⟨⟨⟨⟨⟨⟨⟨⟨⟨by omega, by omega⟩, by omega⟩, by omega⟩, by omega⟩, e1⟩, e2⟩, e3⟩, e4⟩, e5⟩, by omega⟩
theorem newSet_link {W m : Nat} (h1 : 1 ≤ W) (h4 : W ≤ 4) (hm : m = 4 ∨ m = 8) : newSet (W : Int) (m : Int) = setV (W : Int) (m : Int) 3250585600 1040187392 1065353216 (.slice none 0 0) := by
  unfold newSet; rw [setOk_link h1 h4 hm]; rfl
theorem Pic.ok {W : Nat} {rss : List (List Cel)} (hp : Pic W rss) (h1 : 1 ≤ W) (h4 : W ≤ 4) (hn : rss.length = 4 ∨ rss.length = 8) : pictureOk rss = true := by
  refine pic_all (by omega) (by omega) (by omega) (by omega) (fun k hk => ⟨?_, ?_⟩)
  · obtain ⟨ys, hy⟩ := hp.link _ (List.getElem_mem hk)
    have hw := hp.wide _ (List.getElem_mem hk)
    have hl := hy.plain.1.len
    exact hy.plain.1.rowOk hy.plain.2 (by decide) (by omega) (by omega)
  · rw [hp.wide _ (List.getElem_mem hk), hp.wide _ (List.getElem_mem (by omega : 0 < rss.length))]
theorem link_tx {ch : Chn} {j W : Nat} {O X Y : Int} (hc : LinkCh ch j O X Y) {rss : List (List Cel)} (hp : Pic W rss) (h1 : 1 ≤ W) (h4 : W ≤ 4) : ∀ row ∈ rss, ∀ f gs, cns gs = lineR (cnC row) f → trOk ch gs = true ∧ gs.length ≤ 1048576 ∧ ∀ xs, cns xs = tr ch gs → xs.length ≤ 280 := by
  intro row hr f gs hg
  obtain ⟨ys, hy⟩ := hp.link _ hr
  have hw := hp.wide _ hr
  have hl := hy.plain.1.len
  obtain ⟨-, -, hn⟩ := plain_line hy.plain (by omega) (by omega) hg
  obtain ⟨k1, k2⟩ := link_sent hc hy (by omega) (by omega) hg
  refine ⟨k1, by omega, fun xs hx => ?_⟩
  have h := (k2 xs hx).len
  have e : (headI f).length = 6 := by simp [headI]
  rw [List.length_map, List.length_append, List.length_map, e] at h
  omega
theorem txl_flat {ch : Chn} {n : Nat} : ∀ {b : Bool} {rs : List (List Cel)} {ls : List (List Nat)}, TxL ch b rs ls → (∀ r ∈ rs, ∀ f gs, cns gs = lineR (cnC r) f → ∀ xs, cns xs = tr ch gs → xs.length ≤ n) → ls.flatten.length ≤ n * rs.length
  | b, [], [], _, _ => by simp
  | b, r :: rs, l :: ls, h, hx => by
    have ih := txl_flat h.2 (fun r hr => hx r (List.mem_cons_of_mem _ hr))
    obtain ⟨gs, hg, hl⟩ := h.1
    have := hx r List.mem_cons_self b gs hg l hl
    rw [List.flatten_cons, List.length_append, List.length_cons, Nat.mul_add]; omega
  | b, [], _ :: _, h, _ => h.elim
  | b, _ :: _, [], h, _ => h.elim
theorem fields_mem {rss : List (List Cel)} {x : List Cel} (h : x ∈ fields rss 2) : x ∈ rss := by
  simp only [fields, List.nil_append, List.mem_append] at h
  rcases h with h | h
  · exact evens_mem h
  · exact List.mem_of_mem_drop (evens_mem h)
theorem link_flat {ch : Chn} {j W : Nat} {O X Y : Int} (hc : LinkCh ch j O X Y) {rss : List (List Cel)} (hp : Pic W rss) (h1 : 1 ≤ W) (h4 : W ≤ 4) (hn : rss.length = 4 ∨ rss.length = 8) {ls : List (List Nat)} (ht : TxL ch false (fields rss 2) ls) : ls.flatten.length ≤ 1048576 := by
  have h := txl_flat (n := 280) ht (fun r hr f gs hg xs hx => (link_tx hc hp h1 h4 r (fields_mem hr) f gs hg).2.2 xs hx)
  have e0 := evens_len rss
  have e1 := evens_len (rss.drop 1)
  have e2 : (fields rss 2).length = (evens rss).length + (evens (rss.drop 1)).length := by simp [fields]
  rw [List.length_drop] at e1
  omega
theorem eqAll_wide {W : Nat} {a b : List (List Cel)} (h : EqAll a b) (hb : ∀ r ∈ b, r.length = W) : ∀ r ∈ a, r.length = W := by
  intro r hr
  obtain ⟨i, hi, rfl⟩ := List.getElem_of_mem hr
  have h2 : i < b.length := by rw [← h.1]; exact hi
  have := (h.2 i hi h2).1
  have := hb _ (List.getElem_mem h2)
  omega
end Go.Fx
end

import Derived.Test.YtiddaabodkglmaaDk
namespace Go.Fx
open Go.RowKit
set_option linter.unusedSimpArgs false
theorem c1_0 : cn .f32 1065353216 = 1065353216 := by decide +kernel
theorem satOk_no {k i : Nat} {rss : List (List Cel)} (h : i < rss.length) (hs : scaleOk k (cnC rss[i]) = false) : satOk k (rss.map cnC) = false :=
  all_not (scaleOk k) (l := rss.map cnC) (k := i) (by simpa using h) (by simpa using hs)
theorem sat_no {k : Nat} {X : List (List Cel)} (h : satOk k X = false) : sat k X = [] := by unfold sat; rw [h]; rfl
theorem sat_yes {k : Nat} {X : List (List Cel)} (h : satOk k X = true) : sat k X = X.map (fun r => r.map (scale1 k)) := by unfold sat; rw [h]; rfl
theorem sat_step {k i : Nat} {rss : List (List Cel)} (h : i < rss.length) (ha : ((rss.map cnC).take i).all (scaleOk k) = true) (hs : scaleOk k (cnC rss[i]) = true) : ((rss.map cnC).take (i + 1)).all (scaleOk k) = true :=
  all_take_step (scaleOk k) (l := rss.map cnC) (k := i) (by simpa using h) ha (by simpa using hs)
theorem sat_snoc {k i : Nat} {rss out : List (List Cel)} {gs : List Cel} (h : i < rss.length) (ho : out.map cnC = ((rss.map cnC).take i).map (fun r => r.map (scale1 k))) (hs : scaleOk k (cnC rss[i]) = true) (hg : cnC gs = scaleR k (cnC rss[i])) : (out ++ [gs]).map cnC = ((rss.map cnC).take (i + 1)).map (fun r => r.map (scale1 k)) := by
  have hg2 : cnC gs = (cnC rss[i]).map (scale1 k) := by rw [hg]; unfold scaleR; rw [hs]; rfl
  rw [take_snoc (by simpa using h), List.map_append, List.map_append, ho]
  congr 1
  simp only [List.map_cons, List.map_nil, List.getElem_map, hg2]
theorem rowsC_snoc (rss : List (List Cel)) (r : List Cel) : rowsC rss ++ [(r.length, ccells r)] = rowsC (rss ++ [r]) := by simp
theorem grey_cn (r : List Cel) : cnC (r.map grey1) = (cnC r).map grey1 := by
  have h0 : cn .f32 0 = 0 := by decide +kernel
  simp [grey1, Cel.cn, h0]
theorem grey_all (rss : List (List Cel)) : (rss.map (fun r => r.map grey1)).map cnC = (rss.map cnC).map (fun r => r.map grey1) := by
  simp only [List.map_map]
  congr 1
  funext r
  exact grey_cn r
end Go.Fx
namespace Go.Proofs.Ytiddaabodkglmaa
open Go.RowKit Go.Fx
set_option linter.unusedVariables false
set_option linter.unusedSimpArgs false
theorem info_sc : (Try.prog.info? 43).map (fun i => (i.zero, i.size, i.bytes)) = some (some (.slice none 0 0), 1, 24) := by kernel_rfl
set_option maxRecDepth 100000 in
set_option maxHeartbeats 4000000 in
theorem iSaturate_any (A : Option Addr) (c : Nat) (us : List Value) (rss : List (List Cel)) (x : Nat) (w : World) (h : RdRows w A us (rowsC rss)) (hn : rss.length ≤ 1048576) (he : ∀ r ∈ rss, r.length ≤ 64) :
    Calls Try.prog 127 #[.slice A rss.length c, .float .f32 x] w fun e w' => (∃ v us' out, e = .returned (.tuple #[v, .bool (satOk (cn .f32 x) (rss.map cnC))]) ∧ OCC w' w.heap.size v us' out ∧ out.map cnC = sat (cn .f32 x) (rss.map cnC)) ∧ Ext w w' := by
  have H := Lib.hid h
  have HE := Lib.hid he
  clear h he
  go_enter Try.func127, Try.ntmps127
  go_wp2
  go_loopw [6, 8, 9, 10, 13] (fun v z1 z2 z3 i wr => ∃ (k : Nat) (us' : List Value) (out : List (List Cel)), k ≤ rss.length ∧ i = .int .i64 k ∧ Hid (OCC wr w.heap.size v us' out) ∧ Hid (out.map cnC = ((rss.map cnC).take k).map (fun r => r.map (scale1 (cn .f32 x)))) ∧ Hid (((rss.map cnC).take k).all (scaleOk (cn .f32 x)) = true) ∧ Ext w wr) (fun _ _ _ _ i _ => rss.length - (intOf i).toNat)
  case atStart => exact ⟨0, [], [], by omega, rfl, Lib.hid (Rows2.nil _ _ _ _ _), Lib.hid (by simp), Lib.hid (by simp), Ext.refl _⟩
  case round =>
    obtain ⟨k, us', out, hk, rfl, ho, HG, HA, hbr⟩ := hrel
    by_cases hlt : k < rss.length
    · obtain ⟨b, off, B, d, rfl, hbw, -, hcell, hrow, hnil, -⟩ := (H.out.ext hbr).atC hlt
      have hlr := HE.out _ (List.getElem_mem hlt)
      have hsc := iScaleRow_any B d rss[k] x wr hrow hnil (by omega)
      obtain ⟨A2, c2, rfl, hou⟩ := ho.out.form
      have hul : us'.length = k := by
        have h1 := ho.out.len
        have h2 := congrArg List.length HG.out
        simp at h1 h2
        omega
      rw [hul] at hou
      have hof : Hid (OCC wr w.heap.size (.slice A2 k c2) us' out) := Lib.hid (by rw [← hul]; exact ho.out)
      cases hs : scaleOk (cn .f32 x) (cnC rss[k])
      · have HN := Lib.hid (satOk_no hlt hs)
        rw [hs] at hsc
        generalize rss[k] = row at *
        go_wp2_with (go_at_call 207; refine Calls.mono hsc ?_; rintro e w1 ⟨⟨v1, gs, rfl, ho1, hg1⟩, hb1⟩)
        go_ret2
        exact ⟨⟨_, [], [], by rw [HN.out]; rfl, Rows2.nil _ _ _ _ _, by rw [sat_no HN.out]; rfl⟩, hbr.trans hb1⟩
      · have HA2 := Lib.hid (sat_step hlt HA.out hs)
        have HG2 : Hid (∀ gs, cnC gs = scaleR (cn .f32 x) (cnC rss[k]) → (out ++ [gs]).map cnC = ((rss.map cnC).take (k + 1)).map (fun r => r.map (scale1 (cn .f32 x)))) := Lib.hid (fun gs hg => sat_snoc hlt HG.out hs hg)
        rw [hs] at hsc
        generalize rss[k] = row at *
        go_wp2_with (first | (go_at_call 207; refine Calls.mono hsc ?_; rintro e w1 ⟨⟨v1, gs, rfl, ho1, hg1⟩, hb1⟩; have hnew := fun b hb => (ho1.lt b hb).1; unfold OC at ho1; generalize hgn : gs.length = n1 at ho1; obtain ⟨A3, c3, rfl, -, -⟩ := own_slice ho1) | (at_builtin; refine wpList_app rfl _ _ 28 rfl w.heap.size 43 _ 1 24 Try.underlying28 info_sc rfl (by omega) (.slice A2 k c2) k us' rfl (own_ext (own_ext hou hb1) ((Ext.refl _).alloc _)) _ 1 1 _ rfl (rd_new _ _ _ _) rfl (fun h => by cases h) (by intro u hu; simp at hu; rcases hu with rfl; rfl) (by unfold maxLen; omega) (by omega) (by have := hbr.size; have := hb1.size; simp; omega) ?_; intro v2 w3 hown hg hat))
        go_roundw
        case rel =>
          have hR : Hid (OCC w3 w.heap.size v2 (us' ++ [.slice A3 n1 c3]) (out ++ [gs])) := Lib.hid (by
            unfold OCC
            rw [← rowsC_snoc, hgn]
            exact ((hof.out.ext hb1).ext ((Ext.refl _).alloc _)).snoc (by rw [hul]; exact hown) (own_base (own_ext ho1 ((Ext.refl _).alloc _)) hbr.size) hg hat (Nat.le_refl _) hof.out.inR hnew)
          exact ⟨k + 1, _, out ++ [gs], by omega, by go_num, hR, Lib.hid (HG2.out gs hg1), HA2, ext_grow (base := w.heap.size) ((hbr.trans hb1).alloc _) (own_ext (own_ext hou hb1) ((Ext.refl _).alloc _)) (Nat.le_refl _) hg⟩
        case measure => simp [intOf]; omega
    · go_wp2
      go_ret2
      obtain rfl : k = rss.length := by omega
      have e1 : ((rss.map cnC).take rss.length) = rss.map cnC := List.take_of_length_le (by simp)
      have h1 := HG.out
      have h2 := HA.out
      rw [e1] at h1 h2
      have h3 : satOk (cn .f32 x) (rss.map cnC) = true := h2
      exact ⟨⟨_, us', out, by rw [h3]; rfl, ho.out, by rw [sat_yes h3]; exact h1⟩, hbr⟩
set_option maxRecDepth 100000 in
set_option maxHeartbeats 4000000 in
theorem sScaled_any (A : Option Addr) (c : Nat) (us : List Value) (rss : List (List Cel)) (x : Nat) (w : World) (h : RdRows w A us (rowsC rss)) (hn : rss.length ≤ 1048576) (he : ∀ r ∈ rss, r.length ≤ 64) :
    Calls Try.prog 238 #[.slice A rss.length c, .float .f32 x] w fun e w' => (∃ v us' out, e = .returned (.tuple #[v, .bool (satOk (cn .f32 x) (rss.map cnC))]) ∧ OCC w' w.heap.size v us' out ∧ out.map cnC = sat (cn .f32 x) (rss.map cnC)) ∧ Ext w w' := by
  have H := Lib.hid h
  have HE := Lib.hid he
  clear h he
  have ha : Ext w (w.alloc (.cells #[] 43)) := (Ext.refl _).alloc _
  have hnew0 := Rows2.new w w.heap.size 43 90 2 (Nat.le_refl _)
  go_enter Try.func238, Try.ntmps238
  go_wp2
  go_loopw [6, 7, 8, 9] (fun v i z1 z2 wr => ∃ (k : Nat) (us' : List Value) (out : List (List Cel)), k ≤ rss.length ∧ i = .int .i64 k ∧ Hid (OCC wr w.heap.size v us' out) ∧ Hid (out.map cnC = ((rss.map cnC).take k).map (fun r => r.map (scale1 (cn .f32 x)))) ∧ Hid (((rss.map cnC).take k).all (scaleOk (cn .f32 x)) = true) ∧ Ext w wr) (fun _ i _ _ _ => rss.length - (intOf i).toNat)
  case atStart => exact ⟨0, [], [], by omega, rfl, Lib.hid hnew0, Lib.hid (by simp), Lib.hid (by simp), ha⟩
  case round =>
    obtain ⟨k, us', out, hk, rfl, ho, HG, HA, hbr⟩ := hrel
    clear hnew0 ha
    by_cases hlt : k < rss.length
    · obtain ⟨b, off, B, d, rfl, hbw, -, hcell, hrow, hnil, -⟩ := (H.out.ext hbr).atC hlt
      have hlr := HE.out _ (List.getElem_mem hlt)
      have hsc := sScaleRow_any B d rss[k] x wr hrow hnil (by omega)
      obtain ⟨A2, c2, rfl, hou⟩ := ho.out.form
      have hul : us'.length = k := by
        have h1 := ho.out.len
        have h2 := congrArg List.length HG.out
        simp at h1 h2
        omega
      rw [hul] at hou
      have hof : Hid (OCC wr w.heap.size (.slice A2 k c2) us' out) := Lib.hid (by rw [← hul]; exact ho.out)
      cases hs : scaleOk (cn .f32 x) (cnC rss[k])
      · have HN := Lib.hid (satOk_no hlt hs)
        rw [hs] at hsc
        generalize rss[k] = row at *
        go_wp2_with (go_at_call 245; refine Calls.mono hsc ?_; rintro e w1 ⟨⟨v1, gs, rfl, ho1, hg1⟩, hb1⟩)
        go_ret2
        exact ⟨⟨_, [], [], by rw [HN.out]; rfl, Rows2.new w1 _ _ _ _ (hbr.trans hb1).size, by rw [sat_no HN.out]; rfl⟩, (hbr.trans hb1).alloc _⟩
      · have HA2 := Lib.hid (sat_step hlt HA.out hs)
        have HG2 : Hid (∀ gs, cnC gs = scaleR (cn .f32 x) (cnC rss[k]) → (out ++ [gs]).map cnC = ((rss.map cnC).take (k + 1)).map (fun r => r.map (scale1 (cn .f32 x)))) := Lib.hid (fun gs hg => sat_snoc hlt HG.out hs hg)
        rw [hs] at hsc
        generalize rss[k] = row at *
        go_wp2_with (first | (go_at_call 245; refine Calls.mono hsc ?_; rintro e w1 ⟨⟨v1, gs, rfl, ho1, hg1⟩, hb1⟩; have hnew := fun b hb => (ho1.lt b hb).1; unfold OC at ho1; generalize hgn : gs.length = n1 at ho1; obtain ⟨A3, c3, rfl, -, -⟩ := own_slice ho1) | (at_builtin; refine wpList_app rfl _ _ 28 rfl w.heap.size 43 _ 1 24 Try.underlying28 info_sc rfl (by omega) (.slice A2 k c2) k us' rfl (own_ext (own_ext hou hb1) ((Ext.refl _).alloc _)) _ 1 1 _ rfl (rd_new _ _ _ _) rfl (fun h => by cases h) (by intro u hu; simp at hu; rcases hu with rfl; rfl) (by unfold maxLen; omega) (by omega) (by have := hbr.size; have := hb1.size; simp; omega) ?_; intro v2 w3 hown hg hat))
        go_roundw
        case rel =>
          have hR : Hid (OCC w3 w.heap.size v2 (us' ++ [.slice A3 n1 c3]) (out ++ [gs])) := Lib.hid (by
            unfold OCC
            rw [← rowsC_snoc, hgn]
            exact ((hof.out.ext hb1).ext ((Ext.refl _).alloc _)).snoc (by rw [hul]; exact hown) (own_base (own_ext ho1 ((Ext.refl _).alloc _)) hbr.size) hg hat (Nat.le_refl _) hof.out.inR hnew)
          exact ⟨k + 1, _, out ++ [gs], by omega, by go_num, hR, Lib.hid (HG2.out gs hg1), HA2, ext_grow (base := w.heap.size) ((hbr.trans hb1).alloc _) (own_ext (own_ext hou hb1) ((Ext.refl _).alloc _)) (Nat.le_refl _) hg⟩
        case measure => simp [intOf]; omega
    · go_wp2
      go_ret2
      obtain rfl : k = rss.length := by omega
      have e1 : ((rss.map cnC).take rss.length) = rss.map cnC := List.take_of_length_le (by simp)
      have h1 := HG.out
      have h2 := HA.out
      rw [e1] at h1 h2
      have h3 : satOk (cn .f32 x) (rss.map cnC) = true := h2
      exact ⟨⟨_, us', out, by rw [h3]; rfl, ho.out, by rw [sat_yes h3]; exact h1⟩, hbr⟩
set_option maxRecDepth 100000 in
theorem sSaturate_any (A : Option Addr) (c : Nat) (us : List Value) (rss : List (List Cel)) (x : Nat) (w : World) (h : RdRows w A us (rowsC rss)) (hn : rss.length ≤ 1048576) (he : ∀ r ∈ rss, r.length ≤ 64) :
    Calls Try.prog 214 #[.slice A rss.length c, .float .f32 x] w fun e w' => (∃ v us' out, e = .returned (.tuple #[v, .bool (satOk (cn .f32 x) (rss.map cnC))]) ∧ OCC w' w.heap.size v us' out ∧ out.map cnC = sat (cn .f32 x) (rss.map cnC)) ∧ Ext w w' := by
  have HS := Lib.hid (sScaled_any A c us rss x w h hn he)
  clear h he
  go_enter Try.func214, Try.ntmps214
  go_wp2_with fail
  refine HS.out.mono ?_
  rintro e w1 ⟨⟨v, us', out, rfl, ho, hg⟩, hb⟩
  go_wp2_with fail
  go_ret2
  exact ⟨⟨v, us', out, rfl, ho, hg⟩, hb⟩
set_option maxRecDepth 100000 in
theorem iToSize_any (A : Option Addr) (c : Nat) (us : List Value) (rss : List (List Cel)) (re im : Nat) (w : World) (h : RdRows w A us (rowsC rss)) (hn : rss.length ≤ 1048576) (he : ∀ r ∈ rss, r.length ≤ 64) :
    Calls Try.prog 128 #[.slice A rss.length c, .complex .f32 re im] w fun e w' => (∃ v us' out, e = .returned (.tuple #[v, .bool (sizeOk (cn .f32 re) (rss.map cnC))]) ∧ OCC w' w.heap.size v us' out ∧ out.map cnC = size (cn .f32 re) (rss.map cnC)) ∧ Ext w w' := by
  have H := Lib.hid h
  have HE := Lib.hid he
  clear h he
  cases hz : feq .f32 re 0
  · have HS : Hid (∀ b, cn .f32 b = quo32 1065353216 (cn .f32 re) → sizeOk (cn .f32 re) (rss.map cnC) = satOk (cn .f32 b) (rss.map cnC) ∧ size (cn .f32 re) (rss.map cnC) = sat (cn .f32 b) (rss.map cnC)) := Lib.hid (fun b hb => by
      unfold sizeOk size
      rw [feq_cn_l, hz, hb]
      exact ⟨rfl, rfl⟩)
    go_enter Try.func128, Try.ntmps128
    go_wp2_with (with_reducible first | (refine upon_add ?_; intro b n hb) | (refine upon_sub ?_; intro b n hb) | (refine upon_mul ?_; intro b n hb) | (refine upon_quo ?_; intro b n hb))
    rw [c1_0] at hb
    have HB := Lib.hid (HS.out b hb)
    clear hb
    refine (iSaturate_any A c us rss b _ (H.out.ext (Ext.drewN _ _)) hn HE.out).mono ?_
    rintro e w1 ⟨⟨v, us', out, rfl, ho, hg⟩, hb⟩
    go_wp2_with fail
    go_ret2
    exact ⟨⟨v, us', out, by rw [HB.out.1]; rfl, ho, by rw [HB.out.2]; exact hg⟩, (Ext.drewN _ _).trans hb⟩
  · have HS : Hid (sizeOk (cn .f32 re) (rss.map cnC) = false ∧ size (cn .f32 re) (rss.map cnC) = []) := Lib.hid (by
      unfold sizeOk size
      rw [feq_cn_l, hz]
      exact ⟨rfl, rfl⟩)
    go_enter Try.func128, Try.ntmps128
    go_wp2_with (with_reducible first | (refine upon_add ?_; intro b n hb) | (refine upon_sub ?_; intro b n hb) | (refine upon_mul ?_; intro b n hb) | (refine upon_quo ?_; intro b n hb))
    go_ret2
    exact ⟨⟨_, [], [], by rw [HS.out.1]; rfl, Rows2.nil _ _ _ _ _, by rw [HS.out.2]; rfl⟩, Ext.refl _⟩
set_option maxRecDepth 100000 in
theorem sToSize_any (A : Option Addr) (c : Nat) (us : List Value) (rss : List (List Cel)) (re im : Nat) (w : World) (h : RdRows w A us (rowsC rss)) (hn : rss.length ≤ 1048576) (he : ∀ r ∈ rss, r.length ≤ 64) :
    Calls Try.prog 213 #[.slice A rss.length c, .complex .f32 re im] w fun e w' => (∃ v us' out, e = .returned (.tuple #[v, .bool (sizeOk (cn .f32 re) (rss.map cnC))]) ∧ OCC w' w.heap.size v us' out ∧ out.map cnC = size (cn .f32 re) (rss.map cnC)) ∧ Ext w w' := by
  have H := Lib.hid h
  have HE := Lib.hid he
  clear h he
  cases hz : feq .f32 re 0
  · have HS : Hid (∀ b, cn .f32 b = quo32 1065353216 (cn .f32 re) → sizeOk (cn .f32 re) (rss.map cnC) = satOk (cn .f32 b) (rss.map cnC) ∧ size (cn .f32 re) (rss.map cnC) = sat (cn .f32 b) (rss.map cnC)) := Lib.hid (fun b hb => by
      unfold sizeOk size
      rw [feq_cn_l, hz, hb]
      exact ⟨rfl, rfl⟩)
    go_enter Try.func213, Try.ntmps213
    go_wp2_with (with_reducible first | (refine upon_add ?_; intro b n hb) | (refine upon_sub ?_; intro b n hb) | (refine upon_mul ?_; intro b n hb) | (refine upon_quo ?_; intro b n hb))
    rw [c1_0] at hb
    have HB := Lib.hid (HS.out b hb)
    clear hb
    refine (sScaled_any A c us rss b _ (H.out.ext (Ext.drewN _ _)) hn HE.out).mono ?_
    rintro e w1 ⟨⟨v, us', out, rfl, ho, hg⟩, hb⟩
    go_wp2_with fail
    go_ret2
    exact ⟨⟨v, us', out, by rw [HB.out.1]; rfl, ho, by rw [HB.out.2]; exact hg⟩, (Ext.drewN _ _).trans hb⟩
  · have HS : Hid (sizeOk (cn .f32 re) (rss.map cnC) = false ∧ size (cn .f32 re) (rss.map cnC) = []) := Lib.hid (by
      unfold sizeOk size
      rw [feq_cn_l, hz]
      exact ⟨rfl, rfl⟩)
    go_enter Try.func213, Try.ntmps213
    go_wp2_with (with_reducible first | (refine upon_add ?_; intro b n hb) | (refine upon_sub ?_; intro b n hb) | (refine upon_mul ?_; intro b n hb) | (refine upon_quo ?_; intro b n hb))
    go_ret2
    exact ⟨⟨_, [], [], by rw [HS.out.1]; rfl, Rows2.new w _ _ _ _ (Nat.le_refl _), by rw [HS.out.2]; rfl⟩, (Ext.refl _).alloc _⟩
end Go.Proofs.Ytiddaabodkglmaa

import Derived.Test.YtiddaabodkglmaaDm
namespace Go.Fx
theorem take_1 {a b : List Nat} {x k : Nat} (h : pairOk a b = false) : takeOk a b x k = false ∧ Fx.take a b x k = [] := by
  have : takeOk a b x k = false := by unfold takeOk; rw [h]; rfl
  exact ⟨this, by unfold Fx.take; rw [this]; rfl⟩
theorem take_2 {a b : List Nat} {x k : Nat} (h : pairOk a b = true) (h2 : killed a b x = true) : takeOk a b x k = true ∧ Fx.take a b x k = (pair a b).map (fun r => r.map grey1) := by
  have : takeOk a b x k = true := by unfold takeOk; rw [h, h2]; rfl
  exact ⟨this, by unfold Fx.take; rw [this, h2]; rfl⟩
theorem take_3 {a b : List Nat} {x k : Nat} (h2 : killed a b x = false) (h3 : hgOk a b = false) : takeOk a b x k = false ∧ Fx.take a b x k = [] := by
  have : takeOk a b x k = false := by unfold takeOk; rw [h2, h3]; simp
  exact ⟨this, by unfold Fx.take; rw [this]; rfl⟩
theorem take_4 {a b : List Nat} {x k : Nat} (h2 : killed a b x = false) (h4 : sizeOk (hgRe a b) (pair a b) = false) : takeOk a b x k = false ∧ Fx.take a b x k = [] := by
  have : takeOk a b x k = false := by unfold takeOk; rw [h2, h4]; simp
  exact ⟨this, by unfold Fx.take; rw [this]; rfl⟩
theorem take_5 {a b : List Nat} {x k : Nat} (h : pairOk a b = true) (h2 : killed a b x = false) (h3 : hgOk a b = true) (h4 : sizeOk (hgRe a b) (pair a b) = true) : takeOk a b x k = satOk k (size (hgRe a b) (pair a b)) ∧ Fx.take a b x k = sat k (size (hgRe a b) (pair a b)) := by
  have : takeOk a b x k = satOk k (size (hgRe a b) (pair a b)) := by unfold takeOk; rw [h, h2, h3, h4]; simp
  refine ⟨this, ?_⟩
  unfold Fx.take
  rw [this, h2]
  cases hs : satOk k (size (hgRe a b) (pair a b))
  · rw [sat_no hs]; rfl
  · rfl
theorem size_each {g : Nat} {X : List (List Cel)} (h : ∀ r ∈ X, r.length ≤ 64) : ∀ r ∈ size g X, r.length ≤ 64 := by
  intro r hr
  unfold size at hr
  split at hr
  · simp at hr
  · unfold sat at hr
    split at hr
    · obtain ⟨l, hl, rfl⟩ := List.mem_map.1 hr
      simpa using h l hl
    · simp at hr
theorem size_len {g n : Nat} {X : List (List Cel)} (h : X.length ≤ n) : (size g X).length ≤ n := by
  unfold size
  split
  · simp
  · unfold sat
    split
    · simpa using h
    · simp
theorem take_len {a b : List Nat} {x k : Nat} : (Fx.take a b x k).length ≤ 2 ∧ ∀ r ∈ Fx.take a b x k, r.length ≤ 64 := by
  unfold Fx.take
  split
  · split
    · exact ⟨by simpa using pair_two, fun r hr => by
        obtain ⟨l, hl, rfl⟩ := List.mem_map.1 hr
        simpa using pair_each l hl⟩
    · unfold sat
      split
      · exact ⟨by simpa using size_len pair_two, fun r hr => by
          obtain ⟨l, hl, rfl⟩ := List.mem_map.1 hr
          simpa using size_each pair_each l hl⟩
      · exact ⟨by simp, fun r hr => by simp at hr⟩
  · exact ⟨by simp, fun r hr => by simp at hr⟩
end Go.Fx
namespace Go.Proofs.Ytiddaabodkglmaa
open Go.RowKit Go.Fx
set_option linter.unusedVariables false
set_option linter.unusedSimpArgs false
set_option maxRecDepth 100000 in
set_option maxHeartbeats 4000000 in
theorem iTakePair_any (A B : Option Addr) (c d : Nat) (rs ss : List Nat) (least x : Nat) (w : World) (h : Rd w A (rs.map fl)) (h' : Rd w B (ss.map fl)) (hn : rs.length ≤ 1048576) (hn' : ss.length ≤ 1048576) (hc : rs.length ≤ c) (hc' : ss.length ≤ d) :
    Calls Try.prog 132 #[.slice A rs.length c, .slice B ss.length d, .float .f32 least, .float .f32 x] w fun e w' => (∃ v us rss, e = .returned (.tuple #[v, .bool (takeOk rs ss least (cn .f32 x))]) ∧ OCC w' w.heap.size v us rss ∧ rss.map cnC = Fx.take rs ss least (cn .f32 x)) ∧ Ext w w' := by
  have H := Lib.hid h
  have H' := Lib.hid h'
  clear h h'
  cases h1 : pairOk rs ss
  · have HT := Lib.hid (take_1 (x := least) (k := cn .f32 x) h1)
    go_enter Try.func132, Try.ntmps132
    go_wp2_with fail
    refine (iDecodePair_any A B c d rs ss _ H.out H'.out hn hn' hc hc').mono ?_
    rintro e w1 ⟨⟨v1, us1, rss1, rfl, R1, hg1⟩, hb1⟩
    rw [h1]
    have hl1 := rss_len hg1 pair_two
    have he1 := rss_each hg1 pair_each
    have hoo := R1.own
    rw [List.length_map] at hoo
    obtain ⟨A1, c1, rfl, -, -⟩ := own_slice hoo
    have RR := Lib.hid R1.rd.1
    have HG1 := Lib.hid hg1
    have HE1 := Lib.hid he1
    clear hoo he1 hg1
    go_wp2_with fail
    go_ret2
    exact ⟨⟨_, [], [], by rw [HT.out.1]; rfl, Rows2.nil _ _ _ _ _, by rw [HT.out.2]; rfl⟩, hb1⟩
  · cases h2 : killed rs ss least
    · cases h3 : hgOk rs ss
      · have HT := Lib.hid (take_3 (x := least) (k := cn .f32 x) h2 h3)
        go_enter Try.func132, Try.ntmps132
        go_wp2_with fail
        refine (iDecodePair_any A B c d rs ss _ H.out H'.out hn hn' hc hc').mono ?_
        rintro e w1 ⟨⟨v1, us1, rss1, rfl, R1, hg1⟩, hb1⟩
        rw [h1]
        have hl1 := rss_len hg1 pair_two
        have he1 := rss_each hg1 pair_each
        have hoo := R1.own
        rw [List.length_map] at hoo
        obtain ⟨A1, c1, rfl, -, -⟩ := own_slice hoo
        have RR := Lib.hid R1.rd.1
        have HG1 := Lib.hid hg1
        have HE1 := Lib.hid he1
        clear hoo he1 hg1
        go_wp2_with fail
        refine (iIsKilled_any A B c d rs ss least _ (H.out.ext hb1) (H'.out.ext hb1) hn hn' hc hc').mono ?_
        rintro e w2 ⟨rfl, hb2⟩
        rw [h2]
        go_wp2_with fail
        refine (iHueGain_any A B c d rs ss _ ((H.out.ext hb1).ext hb2) ((H'.out.ext hb1).ext hb2) hn hn' hc hc').mono ?_
        rintro e w3 ⟨⟨re, im, rfl, hre, him⟩, hb3⟩
        rw [h3]
        have HRE := Lib.hid hre
        clear hre him
        go_wp2_with fail
        go_ret2
        exact ⟨⟨_, [], [], by rw [HT.out.1]; rfl, Rows2.nil _ _ _ _ _, by rw [HT.out.2]; rfl⟩, (hb1.trans hb2).trans hb3⟩
      · cases h4 : sizeOk (hgRe rs ss) (pair rs ss)
        · have HT := Lib.hid (take_4 (x := least) (k := cn .f32 x) h2 h4)
          go_enter Try.func132, Try.ntmps132
          go_wp2_with fail
          refine (iDecodePair_any A B c d rs ss _ H.out H'.out hn hn' hc hc').mono ?_
          rintro e w1 ⟨⟨v1, us1, rss1, rfl, R1, hg1⟩, hb1⟩
          rw [h1]
          have hl1 := rss_len hg1 pair_two
          have he1 := rss_each hg1 pair_each
          have hoo := R1.own
          rw [List.length_map] at hoo
          obtain ⟨A1, c1, rfl, -, -⟩ := own_slice hoo
          have RR := Lib.hid R1.rd.1
          have HG1 := Lib.hid hg1
          have HE1 := Lib.hid he1
          clear hoo he1 hg1
          go_wp2_with fail
          refine (iIsKilled_any A B c d rs ss least _ (H.out.ext hb1) (H'.out.ext hb1) hn hn' hc hc').mono ?_
          rintro e w2 ⟨rfl, hb2⟩
          rw [h2]
          go_wp2_with fail
          refine (iHueGain_any A B c d rs ss _ ((H.out.ext hb1).ext hb2) ((H'.out.ext hb1).ext hb2) hn hn' hc hc').mono ?_
          rintro e w3 ⟨⟨re, im, rfl, hre, him⟩, hb3⟩
          rw [h3]
          have HRE := Lib.hid hre
          clear hre him
          have hsz := iToSize_any A1 c1 us1 rss1 re im w3 ((RR.out.ext hb2).ext hb3) (by omega) HE1.out
          rw [HRE.out, HG1.out] at hsz
          go_wp2_with fail
          refine Calls.mono hsz ?_
          rintro e w4 ⟨⟨v4, us4, rss4, rfl, R4, hg4⟩, hb4⟩
          rw [h4]
          go_wp2_with fail
          go_ret2
          exact ⟨⟨_, [], [], by rw [HT.out.1]; rfl, Rows2.nil _ _ _ _ _, by rw [HT.out.2]; rfl⟩, ((hb1.trans hb2).trans hb3).trans hb4⟩
        · have HT := Lib.hid (take_5 (x := least) (k := cn .f32 x) h1 h2 h3 h4)
          go_enter Try.func132, Try.ntmps132
          go_wp2_with fail
          refine (iDecodePair_any A B c d rs ss _ H.out H'.out hn hn' hc hc').mono ?_
          rintro e w1 ⟨⟨v1, us1, rss1, rfl, R1, hg1⟩, hb1⟩
          rw [h1]
          have hl1 := rss_len hg1 pair_two
          have he1 := rss_each hg1 pair_each
          have hoo := R1.own
          rw [List.length_map] at hoo
          obtain ⟨A1, c1, rfl, -, -⟩ := own_slice hoo
          have RR := Lib.hid R1.rd.1
          have HG1 := Lib.hid hg1
          have HE1 := Lib.hid he1
          clear hoo he1 hg1
          go_wp2_with fail
          refine (iIsKilled_any A B c d rs ss least _ (H.out.ext hb1) (H'.out.ext hb1) hn hn' hc hc').mono ?_
          rintro e w2 ⟨rfl, hb2⟩
          rw [h2]
          go_wp2_with fail
          refine (iHueGain_any A B c d rs ss _ ((H.out.ext hb1).ext hb2) ((H'.out.ext hb1).ext hb2) hn hn' hc hc').mono ?_
          rintro e w3 ⟨⟨re, im, rfl, hre, him⟩, hb3⟩
          rw [h3]
          have HRE := Lib.hid hre
          clear hre him
          have hsz := iToSize_any A1 c1 us1 rss1 re im w3 ((RR.out.ext hb2).ext hb3) (by omega) HE1.out
          rw [HRE.out, HG1.out] at hsz
          go_wp2_with fail
          refine Calls.mono hsz ?_
          rintro e w4 ⟨⟨v4, us4, rss4, rfl, R4, hg4⟩, hb4⟩
          rw [h4]
          have hl4 := rss_len hg4 (size_len pair_two)
          have he4 := rss_each hg4 (size_each pair_each)
          have hoo := R4.own
          rw [List.length_map] at hoo
          obtain ⟨A4, c4, rfl, -, -⟩ := own_slice hoo
          have hsat := iSaturate_any A4 c4 us4 rss4 x w4 R4.rd.1 (by omega) he4
          rw [hg4] at hsat
          have HSAT := Lib.hid hsat
          clear hoo he4 hg4 hsat hsz
          go_wp2_with fail
          refine Calls.mono HSAT.out ?_
          rintro e w5 ⟨⟨v5, us5, rss5, rfl, R5, hg5⟩, hb5⟩
          have HG5 := Lib.hid hg5
          clear hg5
          go_wp2_with fail
          go_ret2
          exact ⟨⟨v5, us5, rss5, by rw [HT.out.1]; rfl, R5.weak (((hb1.trans hb2).trans hb3).trans hb4).size, by rw [HT.out.2]; exact HG5.out⟩, (((hb1.trans hb2).trans hb3).trans hb4).trans hb5⟩
    · have HT := Lib.hid (take_2 (x := least) (k := cn .f32 x) h1 h2)
      go_enter Try.func132, Try.ntmps132
      go_wp2_with fail
      refine (iDecodePair_any A B c d rs ss _ H.out H'.out hn hn' hc hc').mono ?_
      rintro e w1 ⟨⟨v1, us1, rss1, rfl, R1, hg1⟩, hb1⟩
      rw [h1]
      have hl1 := rss_len hg1 pair_two
      have he1 := rss_each hg1 pair_each
      have hoo := R1.own
      rw [List.length_map] at hoo
      obtain ⟨A1, c1, rfl, -, -⟩ := own_slice hoo
      have RR := Lib.hid R1.rd.1
      have HG1 := Lib.hid hg1
      have HE1 := Lib.hid he1
      clear hoo he1 hg1
      go_wp2_with fail
      refine (iIsKilled_any A B c d rs ss least _ (H.out.ext hb1) (H'.out.ext hb1) hn hn' hc hc').mono ?_
      rintro e w2 ⟨rfl, hb2⟩
      rw [h2]
      go_wp2_with fail
      refine (iGreyed_any A1 c1 us1 rss1 _ (RR.out.ext hb2) (by omega) HE1.out).mono ?_
      rintro e w3 ⟨⟨v3, us3, rfl, R3⟩, hb3⟩
      go_wp2_with fail
      go_ret2
      exact ⟨⟨v3, us3, _, by rw [HT.out.1]; rfl, R3.weak (hb1.trans hb2).size, by rw [HT.out.2, grey_all, HG1.out]⟩, (hb1.trans hb2).trans hb3⟩
set_option maxRecDepth 100000 in
set_option maxHeartbeats 4000000 in
theorem sTakePair_any (A B : Option Addr) (c d : Nat) (rs ss : List Nat) (least x : Nat) (w : World) (h : Rd w A (rs.map fl)) (h' : Rd w B (ss.map fl)) (hn : rs.length ≤ 1048576) (hn' : ss.length ≤ 1048576) (hc : rs.length ≤ c) (hc' : ss.length ≤ d) :
    Calls Try.prog 131 #[.slice A rs.length c, .slice B ss.length d, .float .f32 least, .float .f32 x] w fun e w' => (∃ v us rss, e = .returned (.tuple #[v, .bool (takeOk rs ss least (cn .f32 x))]) ∧ OCC w' w.heap.size v us rss ∧ rss.map cnC = Fx.take rs ss least (cn .f32 x)) ∧ Ext w w' := by
  have H := Lib.hid h
  have H' := Lib.hid h'
  clear h h'
  cases h1 : pairOk rs ss
  · have HT := Lib.hid (take_1 (x := least) (k := cn .f32 x) h1)
    go_enter Try.func131, Try.ntmps131
    go_wp2_with fail
    refine (sDecodePair_any A B c d rs ss _ H.out H'.out hn hn' hc hc').mono ?_
    rintro e w1 ⟨⟨v1, us1, rss1, rfl, R1, hg1⟩, hb1⟩
    rw [h1]
    have hl1 := rss_len hg1 pair_two
    have he1 := rss_each hg1 pair_each
    have hoo := R1.own
    rw [List.length_map] at hoo
    obtain ⟨A1, c1, rfl, -, -⟩ := own_slice hoo
    have RR := Lib.hid R1.rd.1
    have HG1 := Lib.hid hg1
    have HE1 := Lib.hid he1
    clear hoo he1 hg1
    go_wp2_with fail
    go_ret2
    exact ⟨⟨_, [], [], by rw [HT.out.1]; rfl, Rows2.new w1 _ _ _ _ (ext_size (hb1)), by rw [HT.out.2]; rfl⟩, Ext.alloc (hb1) _⟩
  · cases h2 : killed rs ss least
    · cases h3 : hgOk rs ss
      · have HT := Lib.hid (take_3 (x := least) (k := cn .f32 x) h2 h3)
        go_enter Try.func131, Try.ntmps131
        go_wp2_with fail
        refine (sDecodePair_any A B c d rs ss _ H.out H'.out hn hn' hc hc').mono ?_
        rintro e w1 ⟨⟨v1, us1, rss1, rfl, R1, hg1⟩, hb1⟩
        rw [h1]
        have hl1 := rss_len hg1 pair_two
        have he1 := rss_each hg1 pair_each
        have hoo := R1.own
        rw [List.length_map] at hoo
        obtain ⟨A1, c1, rfl, -, -⟩ := own_slice hoo
        have RR := Lib.hid R1.rd.1
        have HG1 := Lib.hid hg1
        have HE1 := Lib.hid he1
        clear hoo he1 hg1
        go_wp2_with fail
        refine (sIsKilled_any A B c d rs ss least _ (H.out.ext hb1) (H'.out.ext hb1) hn hn' hc hc').mono ?_
        rintro e w2 ⟨rfl, hb2⟩
        rw [h2]
        go_wp2_with fail
        refine (sHueGain_any A B c d rs ss _ ((H.out.ext hb1).ext hb2) ((H'.out.ext hb1).ext hb2) hn hn' hc hc').mono ?_
        rintro e w3 ⟨⟨re, im, rfl, hre, him⟩, hb3⟩
        rw [h3]
        have HRE := Lib.hid hre
        clear hre him
        have hsz := sToSize_any A1 c1 us1 rss1 re im w3 ((RR.out.ext hb2).ext hb3) (by omega) HE1.out
        rw [HRE.out, HG1.out] at hsz
        go_wp2_with fail
        refine Calls.mono hsz ?_
        rintro e w4 ⟨⟨v4, us4, rss4, rfl, R4, hg4⟩, hb4⟩
        go_wp2_with fail
        go_ret2
        exact ⟨⟨_, [], [], by rw [HT.out.1]; rfl, Rows2.new w4 _ _ _ _ (ext_size (((hb1.trans hb2).trans hb3).trans hb4)), by rw [HT.out.2]; rfl⟩, Ext.alloc (((hb1.trans hb2).trans hb3).trans hb4) _⟩
      · cases h4 : sizeOk (hgRe rs ss) (pair rs ss)
        · have HT := Lib.hid (take_4 (x := least) (k := cn .f32 x) h2 h4)
          go_enter Try.func131, Try.ntmps131
          go_wp2_with fail
          refine (sDecodePair_any A B c d rs ss _ H.out H'.out hn hn' hc hc').mono ?_
          rintro e w1 ⟨⟨v1, us1, rss1, rfl, R1, hg1⟩, hb1⟩
          rw [h1]
          have hl1 := rss_len hg1 pair_two
          have he1 := rss_each hg1 pair_each
          have hoo := R1.own
          rw [List.length_map] at hoo
          obtain ⟨A1, c1, rfl, -, -⟩ := own_slice hoo
          have RR := Lib.hid R1.rd.1
          have HG1 := Lib.hid hg1
          have HE1 := Lib.hid he1
          clear hoo he1 hg1
          go_wp2_with fail
          refine (sIsKilled_any A B c d rs ss least _ (H.out.ext hb1) (H'.out.ext hb1) hn hn' hc hc').mono ?_
          rintro e w2 ⟨rfl, hb2⟩
          rw [h2]
          go_wp2_with fail
          refine (sHueGain_any A B c d rs ss _ ((H.out.ext hb1).ext hb2) ((H'.out.ext hb1).ext hb2) hn hn' hc hc').mono ?_
          rintro e w3 ⟨⟨re, im, rfl, hre, him⟩, hb3⟩
          rw [h3]
          have HRE := Lib.hid hre
          clear hre him
          have hsz := sToSize_any A1 c1 us1 rss1 re im w3 ((RR.out.ext hb2).ext hb3) (by omega) HE1.out
          rw [HRE.out, HG1.out] at hsz
          go_wp2_with fail
          refine Calls.mono hsz ?_
          rintro e w4 ⟨⟨v4, us4, rss4, rfl, R4, hg4⟩, hb4⟩
          rw [h4]
          go_wp2_with fail
          go_ret2
          exact ⟨⟨_, [], [], by rw [HT.out.1]; rfl, Rows2.new w4 _ _ _ _ (ext_size (((hb1.trans hb2).trans hb3).trans hb4)), by rw [HT.out.2]; rfl⟩, Ext.alloc (((hb1.trans hb2).trans hb3).trans hb4) _⟩
        · have HT := Lib.hid (take_5 (x := least) (k := cn .f32 x) h1 h2 h3 h4)
          go_enter Try.func131, Try.ntmps131
          go_wp2_with fail
          refine (sDecodePair_any A B c d rs ss _ H.out H'.out hn hn' hc hc').mono ?_
          rintro e w1 ⟨⟨v1, us1, rss1, rfl, R1, hg1⟩, hb1⟩
          rw [h1]
          have hl1 := rss_len hg1 pair_two
          have he1 := rss_each hg1 pair_each
          have hoo := R1.own
          rw [List.length_map] at hoo
          obtain ⟨A1, c1, rfl, -, -⟩ := own_slice hoo
          have RR := Lib.hid R1.rd.1
          have HG1 := Lib.hid hg1
          have HE1 := Lib.hid he1
          clear hoo he1 hg1
          go_wp2_with fail
          refine (sIsKilled_any A B c d rs ss least _ (H.out.ext hb1) (H'.out.ext hb1) hn hn' hc hc').mono ?_
          rintro e w2 ⟨rfl, hb2⟩
          rw [h2]
          go_wp2_with fail
          refine (sHueGain_any A B c d rs ss _ ((H.out.ext hb1).ext hb2) ((H'.out.ext hb1).ext hb2) hn hn' hc hc').mono ?_
          rintro e w3 ⟨⟨re, im, rfl, hre, him⟩, hb3⟩
          rw [h3]
          have HRE := Lib.hid hre
          clear hre him
          have hsz := sToSize_any A1 c1 us1 rss1 re im w3 ((RR.out.ext hb2).ext hb3) (by omega) HE1.out
          rw [HRE.out, HG1.out] at hsz
          go_wp2_with fail
          refine Calls.mono hsz ?_
          rintro e w4 ⟨⟨v4, us4, rss4, rfl, R4, hg4⟩, hb4⟩
          rw [h4]
          have hl4 := rss_len hg4 (size_len pair_two)
          have he4 := rss_each hg4 (size_each pair_each)
          have hoo := R4.own
          rw [List.length_map] at hoo
          obtain ⟨A4, c4, rfl, -, -⟩ := own_slice hoo
          have hsat := sSaturate_any A4 c4 us4 rss4 x w4 R4.rd.1 (by omega) he4
          rw [hg4] at hsat
          have HSAT := Lib.hid hsat
          clear hoo he4 hg4 hsat hsz
          go_wp2_with fail
          refine Calls.mono HSAT.out ?_
          rintro e w5 ⟨⟨v5, us5, rss5, rfl, R5, hg5⟩, hb5⟩
          have HG5 := Lib.hid hg5
          clear hg5
          go_wp2_with fail
          go_ret2
          exact ⟨⟨v5, us5, rss5, by rw [HT.out.1]; rfl, R5.weak (((hb1.trans hb2).trans hb3).trans hb4).size, by rw [HT.out.2]; exact HG5.out⟩, (((hb1.trans hb2).trans hb3).trans hb4).trans hb5⟩
    · have HT := Lib.hid (take_2 (x := least) (k := cn .f32 x) h1 h2)
      go_enter Try.func131, Try.ntmps131
      go_wp2_with fail
      refine (sDecodePair_any A B c d rs ss _ H.out H'.out hn hn' hc hc').mono ?_
      rintro e w1 ⟨⟨v1, us1, rss1, rfl, R1, hg1⟩, hb1⟩
      rw [h1]
      have hl1 := rss_len hg1 pair_two
      have he1 := rss_each hg1 pair_each
      have hoo := R1.own
      rw [List.length_map] at hoo
      obtain ⟨A1, c1, rfl, -, -⟩ := own_slice hoo
      have RR := Lib.hid R1.rd.1
      have HG1 := Lib.hid hg1
      have HE1 := Lib.hid he1
      clear hoo he1 hg1
      go_wp2_with fail
      refine (sIsKilled_any A B c d rs ss least _ (H.out.ext hb1) (H'.out.ext hb1) hn hn' hc hc').mono ?_
      rintro e w2 ⟨rfl, hb2⟩
      rw [h2]
      go_wp2_with fail
      refine (sGreyed_any A1 c1 us1 rss1 _ (RR.out.ext hb2) (by omega) HE1.out).mono ?_
      rintro e w3 ⟨⟨v3, us3, rfl, R3⟩, hb3⟩
      go_wp2_with fail
      go_ret2
      exact ⟨⟨v3, us3, _, by rw [HT.out.1]; rfl, R3.weak (hb1.trans hb2).size, by rw [HT.out.2, grey_all, HG1.out]⟩, (hb1.trans hb2).trans hb3⟩
end Go.Proofs.Ytiddaabodkglmaa

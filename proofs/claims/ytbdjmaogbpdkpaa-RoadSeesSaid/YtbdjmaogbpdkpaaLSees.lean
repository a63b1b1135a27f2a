import Derived.Test.YtbdjmaogbpdkpaaKnown
/-
  The law RoadSees, walked: it answers true.
-/
namespace Go.Proofs.Ytbdjmaogbpdkpaa
open Go.RowKit Go.Shelf

attribute [local go_sem] max_ints min_ints

set_option maxRecDepth 100000 in
set_option maxHeartbeats 8000000 in
theorem seeslaw_any (r : Road) (A B C : Option Addr) (a b c : Nat) (most mx fr an mo : Int) (w : World) (h : RdRoad w r A B C) :
    Calls Try.prog 7 #[.agg #[.slice A r.ps.length a, .slice B r.cs.length b, .slice C r.js.length c], .agg #[.int .i64 most, .int .i64 mx], .int .i64 fr, .int .i64 an, .int .i64 mo] w fun e w' => e = .returned (.bool true) ∧ Below w.heap.size w w' := by
  have hR0 : InR w ((w.alloc (.cells #[.slice A r.ps.length a, .slice B r.cs.length b, .slice C r.js.length c] 26)).alloc (.cells #[.int .i64 most, .int .i64 mx] 56)) r A B C a b c := (InR.new w r A B C a b c).step (balloc _ _)
  have hB0 : Box ((w.alloc (.cells #[.slice A r.ps.length a, .slice B r.cs.length b, .slice C r.js.length c] 26)).alloc (.cells #[.int .i64 most, .int .i64 mx] 56)) (w.heap.size + 1) [.int .i64 most, .int .i64 mx] := by
    have := Box.new (w.alloc (.cells #[.slice A r.ps.length a, .slice B r.cs.length b, .slice C r.js.length c] 26)) [.int .i64 most, .int .i64 mx] 56
    rwa [World.size_alloc] at this
  cases hs : smallB r
  · go_enter Try.func7, Try.ntmps7
    go_wp2_with fail
    refine (small_any r A B C a b c _ (hR0.rd h)).mono ?_
    rintro e W1 ⟨rfl, hb1⟩
    have hI1 := hR0.step hb1
    have hB0_1 := hB0.below hb1
    have b0 := hI1.box.2 0 _ rfl
    have b1 := hI1.box.2 1 _ rfl
    have b2 := hI1.box.2 2 _ rfl
    have bs := hI1.box.1
    have c0_0 := hB0_1.2 0 _ rfl
    have c0_1 := hB0_1.2 1 _ rfl
    have cs0 := hB0_1.1
    go_wp2_with fail
    refine (known_any _).mono ?_
    rintro e W2 ⟨rfl, hb2⟩
    have hI2 := hI1.step hb2
    have hB0_2 := hB0_1.below hb2
    clear b0 b1 b2 bs c0_0 c0_1 cs0
    have b0 := hI2.box.2 0 _ rfl
    have b1 := hI2.box.2 1 _ rfl
    have b2 := hI2.box.2 2 _ rfl
    have bs := hI2.box.1
    have c0_0 := hB0_2.2 0 _ rfl
    have c0_1 := hB0_2.2 1 _ rfl
    have cs0 := hB0_2.1
    go_wp2_with fail
    go_ret
    exact ⟨rfl, hI2.below⟩
  cases hv : validB r
  · go_enter Try.func7, Try.ntmps7
    go_wp2_with fail
    refine (small_any r A B C a b c _ (hR0.rd h)).mono ?_
    rintro e W1 ⟨rfl, hb1⟩
    have hI1 := hR0.step hb1
    have hB0_1 := hB0.below hb1
    have b0 := hI1.box.2 0 _ rfl
    have b1 := hI1.box.2 1 _ rfl
    have b2 := hI1.box.2 2 _ rfl
    have bs := hI1.box.1
    have c0_0 := hB0_1.2 0 _ rfl
    have c0_1 := hB0_1.2 1 _ rfl
    have cs0 := hB0_1.1
    go_wp2_with fail
    refine (rvalid_any r A B C a b c _ (hI1.rd h)).mono ?_
    rintro e W2 ⟨rfl, hb2⟩
    have hI2 := hI1.step hb2
    have hB0_2 := hB0_1.below hb2
    clear b0 b1 b2 bs c0_0 c0_1 cs0
    have b0 := hI2.box.2 0 _ rfl
    have b1 := hI2.box.2 1 _ rfl
    have b2 := hI2.box.2 2 _ rfl
    have bs := hI2.box.1
    have c0_0 := hB0_2.2 0 _ rfl
    have c0_1 := hB0_2.2 1 _ rfl
    have cs0 := hB0_2.1
    go_wp2_with fail
    refine (known_any _).mono ?_
    rintro e W3 ⟨rfl, hb3⟩
    have hI3 := hI2.step hb3
    have hB0_3 := hB0_2.below hb3
    clear b0 b1 b2 bs c0_0 c0_1 cs0
    have b0 := hI3.box.2 0 _ rfl
    have b1 := hI3.box.2 1 _ rfl
    have b2 := hI3.box.2 2 _ rfl
    have bs := hI3.box.1
    have c0_0 := hB0_3.2 0 _ rfl
    have c0_1 := hB0_3.2 1 _ rfl
    have cs0 := hB0_3.1
    go_wp2_with fail
    go_ret
    exact ⟨rfl, hI3.below⟩
  have hok := (validB_ok hv).1
  have hlb : lensOk r.ps 100000 := fun p hp => ⟨(hok.lens p hp).1, by have := (hok.lens p hp).2; omega⟩
  have HLB := Lib.hid hlb
  have HV := Lib.hid hv
  have hlen := hok.2
  have hlen2 := (validB_ok hv).2.2.1
  have hln := (hok.beg r.ps.length).1
  rw [List.take_length] at hln
  clear hlb
  cases hbo : eyesOk most mx
  · go_enter Try.func7, Try.ntmps7
    go_wp2_with fail
    refine (small_any r A B C a b c _ (hR0.rd h)).mono ?_
    rintro e W1 ⟨rfl, hb1⟩
    have hI1 := hR0.step hb1
    have hB0_1 := hB0.below hb1
    have b0 := hI1.box.2 0 _ rfl
    have b1 := hI1.box.2 1 _ rfl
    have b2 := hI1.box.2 2 _ rfl
    have bs := hI1.box.1
    have c0_0 := hB0_1.2 0 _ rfl
    have c0_1 := hB0_1.2 1 _ rfl
    have cs0 := hB0_1.1
    go_wp2_with fail
    refine (rvalid_any r A B C a b c _ (hI1.rd h)).mono ?_
    rintro e W2 ⟨rfl, hb2⟩
    have hI2 := hI1.step hb2
    have hB0_2 := hB0_1.below hb2
    clear b0 b1 b2 bs c0_0 c0_1 cs0
    have b0 := hI2.box.2 0 _ rfl
    have b1 := hI2.box.2 1 _ rfl
    have b2 := hI2.box.2 2 _ rfl
    have bs := hI2.box.1
    have c0_0 := hB0_2.2 0 _ rfl
    have c0_1 := hB0_2.2 1 _ rfl
    have cs0 := hB0_2.1
    go_wp2_with fail
    refine (sight_out r A B C a b c most mx fr _ (hI2.rd h) HV.out hbo).mono ?_
    rintro e W3 ⟨rfl, hb3⟩
    have hI3 := hI2.step hb3
    have hB0_3 := hB0_2.below hb3
    clear b0 b1 b2 bs c0_0 c0_1 cs0
    have b0 := hI3.box.2 0 _ rfl
    have b1 := hI3.box.2 1 _ rfl
    have b2 := hI3.box.2 2 _ rfl
    have bs := hI3.box.1
    have c0_0 := hB0_3.2 0 _ rfl
    have c0_1 := hB0_3.2 1 _ rfl
    have cs0 := hB0_3.1
    go_wp2_with fail
    refine (reyes_any most mx _).mono ?_
    rintro e W4 ⟨rfl, hb4⟩
    have hI4 := hI3.step hb4
    have hB0_4 := hB0_3.below hb4
    clear b0 b1 b2 bs c0_0 c0_1 cs0
    have b0 := hI4.box.2 0 _ rfl
    have b1 := hI4.box.2 1 _ rfl
    have b2 := hI4.box.2 2 _ rfl
    have bs := hI4.box.1
    have c0_0 := hB0_4.2 0 _ rfl
    have c0_1 := hB0_4.2 1 _ rfl
    have cs0 := hB0_4.1
    go_wp2_with fail
    refine (known_any _).mono ?_
    rintro e W5 ⟨rfl, hb5⟩
    have hI5 := hI4.step hb5
    have hB0_5 := hB0_4.below hb5
    clear b0 b1 b2 bs c0_0 c0_1 cs0
    have b0 := hI5.box.2 0 _ rfl
    have b1 := hI5.box.2 1 _ rfl
    have b2 := hI5.box.2 2 _ rfl
    have bs := hI5.box.1
    have c0_0 := hB0_5.2 0 _ rfl
    have c0_1 := hB0_5.2 1 _ rfl
    have cs0 := hB0_5.1
    go_wp2_with fail
    go_ret
    exact ⟨rfl, hI5.below⟩
  have hbb : inB most 1 10000 = true ∧ inB mx 1 5000 = true := by
    simp only [eyesOk, Bool.and_eq_true] at hbo
    exact hbo
  obtain ⟨t1, t2⟩ := hbb
  have g1 : 1 ≤ most ∧ most ≤ 10000 := by simpa [inB] using t1
  have g2 : 1 ≤ mx ∧ mx ≤ 5000 := by simpa [inB] using t2
  have T1 := Lib.hid t1
  have T2 := Lib.hid t2
  have T3 : Hid (inB (max most (min an 10000)) 1 10000 = true) := Lib.hid (by simp only [inB, Bool.and_eq_true, decide_eq_true_eq]; omega)
  have T4 : Hid (inB (max mx (min mo 5000)) 1 5000 = true) := Lib.hid (by simp only [inB, Bool.and_eq_true, decide_eq_true_eq]; omega)
  obtain ⟨g1, g3⟩ := g1
  obtain ⟨g2, g4⟩ := g2
  clear t1 t2
  by_cases h0 : fr < 0
  · go_enter Try.func7, Try.ntmps7
    go_wp2_with fail
    refine (small_any r A B C a b c _ (hR0.rd h)).mono ?_
    rintro e W1 ⟨rfl, hb1⟩
    have hI1 := hR0.step hb1
    have hB0_1 := hB0.below hb1
    have b0 := hI1.box.2 0 _ rfl
    have b1 := hI1.box.2 1 _ rfl
    have b2 := hI1.box.2 2 _ rfl
    have bs := hI1.box.1
    have c0_0 := hB0_1.2 0 _ rfl
    have c0_1 := hB0_1.2 1 _ rfl
    have cs0 := hB0_1.1
    go_wp2_with fail
    refine (rvalid_any r A B C a b c _ (hI1.rd h)).mono ?_
    rintro e W2 ⟨rfl, hb2⟩
    have hI2 := hI1.step hb2
    have hB0_2 := hB0_1.below hb2
    clear b0 b1 b2 bs c0_0 c0_1 cs0
    have b0 := hI2.box.2 0 _ rfl
    have b1 := hI2.box.2 1 _ rfl
    have b2 := hI2.box.2 2 _ rfl
    have bs := hI2.box.1
    have c0_0 := hB0_2.2 0 _ rfl
    have c0_1 := hB0_2.2 1 _ rfl
    have cs0 := hB0_2.1
    go_wp2_with fail
    refine (sight_off r A B C a b c most mx fr _ (hI2.rd h) HV.out T1.out T2.out (.inl h0)).mono ?_
    rintro e W3 ⟨rfl, hb3⟩
    have hI3 := hI2.step hb3
    have hB0_3 := hB0_2.below hb3
    clear b0 b1 b2 bs c0_0 c0_1 cs0
    have b0 := hI3.box.2 0 _ rfl
    have b1 := hI3.box.2 1 _ rfl
    have b2 := hI3.box.2 2 _ rfl
    have bs := hI3.box.1
    have c0_0 := hB0_3.2 0 _ rfl
    have c0_1 := hB0_3.2 1 _ rfl
    have cs0 := hB0_3.1
    go_wp2_with fail
    refine (reyes_any most mx _).mono ?_
    rintro e W4 ⟨rfl, hb4⟩
    have hI4 := hI3.step hb4
    have hB0_4 := hB0_3.below hb4
    clear b0 b1 b2 bs c0_0 c0_1 cs0
    have b0 := hI4.box.2 0 _ rfl
    have b1 := hI4.box.2 1 _ rfl
    have b2 := hI4.box.2 2 _ rfl
    have bs := hI4.box.1
    have c0_0 := hB0_4.2 0 _ rfl
    have c0_1 := hB0_4.2 1 _ rfl
    have cs0 := hB0_4.1
    go_wp2_with fail
    refine (known_any _).mono ?_
    rintro e W5 ⟨rfl, hb5⟩
    have hI5 := hI4.step hb5
    have hB0_5 := hB0_4.below hb5
    clear b0 b1 b2 bs c0_0 c0_1 cs0
    have b0 := hI5.box.2 0 _ rfl
    have b1 := hI5.box.2 1 _ rfl
    have b2 := hI5.box.2 2 _ rfl
    have bs := hI5.box.1
    have c0_0 := hB0_5.2 0 _ rfl
    have c0_1 := hB0_5.2 1 _ rfl
    have cs0 := hB0_5.1
    go_wp2_with fail
    go_ret
    exact ⟨rfl, hI5.below⟩
  by_cases h1 : lenSum r.ps < fr
  · go_enter Try.func7, Try.ntmps7
    go_wp2_with fail
    refine (small_any r A B C a b c _ (hR0.rd h)).mono ?_
    rintro e W1 ⟨rfl, hb1⟩
    have hI1 := hR0.step hb1
    have hB0_1 := hB0.below hb1
    have b0 := hI1.box.2 0 _ rfl
    have b1 := hI1.box.2 1 _ rfl
    have b2 := hI1.box.2 2 _ rfl
    have bs := hI1.box.1
    have c0_0 := hB0_1.2 0 _ rfl
    have c0_1 := hB0_1.2 1 _ rfl
    have cs0 := hB0_1.1
    go_wp2_with fail
    refine (rvalid_any r A B C a b c _ (hI1.rd h)).mono ?_
    rintro e W2 ⟨rfl, hb2⟩
    have hI2 := hI1.step hb2
    have hB0_2 := hB0_1.below hb2
    clear b0 b1 b2 bs c0_0 c0_1 cs0
    have b0 := hI2.box.2 0 _ rfl
    have b1 := hI2.box.2 1 _ rfl
    have b2 := hI2.box.2 2 _ rfl
    have bs := hI2.box.1
    have c0_0 := hB0_2.2 0 _ rfl
    have c0_1 := hB0_2.2 1 _ rfl
    have cs0 := hB0_2.1
    go_wp2_with fail
    refine (sight_off r A B C a b c most mx fr _ (hI2.rd h) HV.out T1.out T2.out (.inr h1)).mono ?_
    rintro e W3 ⟨rfl, hb3⟩
    have hI3 := hI2.step hb3
    have hB0_3 := hB0_2.below hb3
    clear b0 b1 b2 bs c0_0 c0_1 cs0
    have b0 := hI3.box.2 0 _ rfl
    have b1 := hI3.box.2 1 _ rfl
    have b2 := hI3.box.2 2 _ rfl
    have bs := hI3.box.1
    have c0_0 := hB0_3.2 0 _ rfl
    have c0_1 := hB0_3.2 1 _ rfl
    have cs0 := hB0_3.1
    go_wp2_with fail
    refine (reyes_any most mx _).mono ?_
    rintro e W4 ⟨rfl, hb4⟩
    have hI4 := hI3.step hb4
    have hB0_4 := hB0_3.below hb4
    clear b0 b1 b2 bs c0_0 c0_1 cs0
    have b0 := hI4.box.2 0 _ rfl
    have b1 := hI4.box.2 1 _ rfl
    have b2 := hI4.box.2 2 _ rfl
    have bs := hI4.box.1
    have c0_0 := hB0_4.2 0 _ rfl
    have c0_1 := hB0_4.2 1 _ rfl
    have cs0 := hB0_4.1
    go_wp2_with fail
    refine (rlength_any r A B C a b c _ (hI4.rd h) HLB.out (by omega)).mono ?_
    rintro e W5 ⟨rfl, hb5⟩
    have hI5 := hI4.step hb5
    have hB0_5 := hB0_4.below hb5
    clear b0 b1 b2 bs c0_0 c0_1 cs0
    have b0 := hI5.box.2 0 _ rfl
    have b1 := hI5.box.2 1 _ rfl
    have b2 := hI5.box.2 2 _ rfl
    have bs := hI5.box.1
    have c0_0 := hB0_5.2 0 _ rfl
    have c0_1 := hB0_5.2 1 _ rfl
    have cs0 := hB0_5.1
    go_wp2_with fail
    refine (known_any _).mono ?_
    rintro e W6 ⟨rfl, hb6⟩
    have hI6 := hI5.step hb6
    have hB0_6 := hB0_5.below hb6
    clear b0 b1 b2 bs c0_0 c0_1 cs0
    have b0 := hI6.box.2 0 _ rfl
    have b1 := hI6.box.2 1 _ rfl
    have b2 := hI6.box.2 2 _ rfl
    have bs := hI6.box.1
    have c0_0 := hB0_6.2 0 _ rfl
    have c0_1 := hB0_6.2 1 _ rfl
    have cs0 := hB0_6.1
    go_wp2_with fail
    go_ret
    exact ⟨rfl, hI6.below⟩
  have hmono := sightV_mono r most mx (max most (min an 10000)) (max mx (min mo 5000)) fr (by omega) (by omega) (by omega) (by omega)
  go_enter Try.func7, Try.ntmps7
  go_wp2_with fail
  refine (small_any r A B C a b c _ (hR0.rd h)).mono ?_
  rintro e W1 ⟨rfl, hb1⟩
  have hI1 := hR0.step hb1
  have hB0_1 := hB0.below hb1
  have b0 := hI1.box.2 0 _ rfl
  have b1 := hI1.box.2 1 _ rfl
  have b2 := hI1.box.2 2 _ rfl
  have bs := hI1.box.1
  have c0_0 := hB0_1.2 0 _ rfl
  have c0_1 := hB0_1.2 1 _ rfl
  have cs0 := hB0_1.1
  go_wp2_with fail
  refine (rvalid_any r A B C a b c _ (hI1.rd h)).mono ?_
  rintro e W2 ⟨rfl, hb2⟩
  have hI2 := hI1.step hb2
  have hB0_2 := hB0_1.below hb2
  clear b0 b1 b2 bs c0_0 c0_1 cs0
  have b0 := hI2.box.2 0 _ rfl
  have b1 := hI2.box.2 1 _ rfl
  have b2 := hI2.box.2 2 _ rfl
  have bs := hI2.box.1
  have c0_0 := hB0_2.2 0 _ rfl
  have c0_1 := hB0_2.2 1 _ rfl
  have cs0 := hB0_2.1
  go_wp2_with fail
  refine (sight_walk r A B C a b c most mx fr _ (hI2.rd h) HV.out T1.out T2.out (by omega) (by omega)).mono ?_
  rintro e W3 ⟨rfl, hb3⟩
  have hI3 := hI2.step hb3
  have hB0_3 := hB0_2.below hb3
  clear b0 b1 b2 bs c0_0 c0_1 cs0
  have b0 := hI3.box.2 0 _ rfl
  have b1 := hI3.box.2 1 _ rfl
  have b2 := hI3.box.2 2 _ rfl
  have bs := hI3.box.1
  have c0_0 := hB0_3.2 0 _ rfl
  have c0_1 := hB0_3.2 1 _ rfl
  have cs0 := hB0_3.1
  go_wp2_with fail
  refine (reyes_any most mx _).mono ?_
  rintro e W4 ⟨rfl, hb4⟩
  have hI4 := hI3.step hb4
  have hB0_4 := hB0_3.below hb4
  clear b0 b1 b2 bs c0_0 c0_1 cs0
  have b0 := hI4.box.2 0 _ rfl
  have b1 := hI4.box.2 1 _ rfl
  have b2 := hI4.box.2 2 _ rfl
  have bs := hI4.box.1
  have c0_0 := hB0_4.2 0 _ rfl
  have c0_1 := hB0_4.2 1 _ rfl
  have cs0 := hB0_4.1
  go_wp2_with fail
  refine (rlength_any r A B C a b c _ (hI4.rd h) HLB.out (by omega)).mono ?_
  rintro e W5 ⟨rfl, hb5⟩
  have hI5 := hI4.step hb5
  have hB0_5 := hB0_4.below hb5
  clear b0 b1 b2 bs c0_0 c0_1 cs0
  have b0 := hI5.box.2 0 _ rfl
  have b1 := hI5.box.2 1 _ rfl
  have b2 := hI5.box.2 2 _ rfl
  have bs := hI5.box.1
  have c0_0 := hB0_5.2 0 _ rfl
  have c0_1 := hB0_5.2 1 _ rfl
  have cs0 := hB0_5.1
  go_wp2_with fail
  refine (rsight_any r A B C a b c most mx fr _ (hI5.rd h) HV.out g1 g3 g2 g4 (by omega) (by omega)).mono ?_
  rintro e W6 ⟨rfl, hb6⟩
  have hI6 := hI5.step hb6
  have hB0_6 := hB0_5.below hb6
  clear b0 b1 b2 bs c0_0 c0_1 cs0
  have b0 := hI6.box.2 0 _ rfl
  have b1 := hI6.box.2 1 _ rfl
  have b2 := hI6.box.2 2 _ rfl
  have bs := hI6.box.1
  have c0_0 := hB0_6.2 0 _ rfl
  have c0_1 := hB0_6.2 1 _ rfl
  have cs0 := hB0_6.1
  go_wp2_with fail
  refine (sight_walk r A B C a b c (max most (min an 10000)) (max mx (min mo 5000)) fr _ ((hI6.step (balloc _ _)).rd h) HV.out T3.out T4.out (by omega) (by omega)).mono ?_
  rintro e W7 ⟨rfl, hb7⟩
  have hI7 := hI6.step (bthen (balloc _ _) hb7)
  have hB0_7 := hB0_6.below (bthen (balloc _ _) hb7)
  clear b0 b1 b2 bs c0_0 c0_1 cs0
  have b0 := hI7.box.2 0 _ rfl
  have b1 := hI7.box.2 1 _ rfl
  have b2 := hI7.box.2 2 _ rfl
  have bs := hI7.box.1
  have c0_0 := hB0_7.2 0 _ rfl
  have c0_1 := hB0_7.2 1 _ rfl
  have cs0 := hB0_7.1
  go_wp2_with fail
  refine (known_any _).mono ?_
  rintro e W8 ⟨rfl, hb8⟩
  have hI8 := hI7.step hb8
  have hB0_8 := hB0_7.below hb8
  clear b0 b1 b2 bs c0_0 c0_1 cs0
  have b0 := hI8.box.2 0 _ rfl
  have b1 := hI8.box.2 1 _ rfl
  have b2 := hI8.box.2 2 _ rfl
  have bs := hI8.box.1
  have c0_0 := hB0_8.2 0 _ rfl
  have c0_1 := hB0_8.2 1 _ rfl
  have cs0 := hB0_8.1
  go_wp2_with fail
  go_ret
  exact ⟨rfl, hI8.below⟩

end Go.Proofs.Ytbdjmaogbpdkpaa

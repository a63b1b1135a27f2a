import Derived.Test.YtbdjmaogbpdkpaaKnown
/-
  The law RoadTurns, walked: it answers true.
-/
namespace Go.Proofs.Ytbdjmaogbpdkpaa
open Go.RowKit Go.Shelf

set_option maxRecDepth 100000 in
set_option maxHeartbeats 8000000 in
theorem turns_any (r : Road) (A B C : Option Addr) (a b c : Nat) (x y z : Int) (w : World) (h : RdRoad w r A B C) :
    Calls Try.prog 4 #[.agg #[.slice A r.ps.length a, .slice B r.cs.length b, .slice C r.js.length c], .int .i64 x, .int .i64 y, .int .i64 z] w fun e w' => e = .returned (.bool true) ∧ Below w.heap.size w w' := by
  have hR0 := InR.new w r A B C a b c
  cases hs : smallB r
  · go_enter Try.func4, Try.ntmps4
    go_wp2_with fail
    refine (small_any r A B C a b c _ (hR0.rd h)).mono ?_
    rintro e W1 ⟨rfl, hb1⟩
    have hI1 := hR0.step hb1
    have b0 := hI1.box.2 0 _ rfl
    have b1 := hI1.box.2 1 _ rfl
    have b2 := hI1.box.2 2 _ rfl
    have bs := hI1.box.1
    go_wp2_with fail
    refine (known_any _).mono ?_
    rintro e W2 ⟨rfl, hb2⟩
    have hI2 := hI1.step hb2
    clear b0 b1 b2 bs
    have b0 := hI2.box.2 0 _ rfl
    have b1 := hI2.box.2 1 _ rfl
    have b2 := hI2.box.2 2 _ rfl
    have bs := hI2.box.1
    go_wp2_with fail
    go_ret
    exact ⟨rfl, hI2.below⟩
  cases hv : validB r
  · go_enter Try.func4, Try.ntmps4
    go_wp2_with fail
    refine (small_any r A B C a b c _ (hR0.rd h)).mono ?_
    rintro e W1 ⟨rfl, hb1⟩
    have hI1 := hR0.step hb1
    have b0 := hI1.box.2 0 _ rfl
    have b1 := hI1.box.2 1 _ rfl
    have b2 := hI1.box.2 2 _ rfl
    have bs := hI1.box.1
    go_wp2_with fail
    refine (rvalid_any r A B C a b c _ (hI1.rd h)).mono ?_
    rintro e W2 ⟨rfl, hb2⟩
    have hI2 := hI1.step hb2
    clear b0 b1 b2 bs
    have b0 := hI2.box.2 0 _ rfl
    have b1 := hI2.box.2 1 _ rfl
    have b2 := hI2.box.2 2 _ rfl
    have bs := hI2.box.1
    go_wp2_with fail
    refine (known_any _).mono ?_
    rintro e W3 ⟨rfl, hb3⟩
    have hI3 := hI2.step hb3
    clear b0 b1 b2 bs
    have b0 := hI3.box.2 0 _ rfl
    have b1 := hI3.box.2 1 _ rfl
    have b2 := hI3.box.2 2 _ rfl
    have bs := hI3.box.1
    go_wp2_with fail
    go_ret
    exact ⟨rfl, hI3.below⟩
  have hok := (validB_ok hv).1
  have hlb : lensOk r.ps 100000 := fun p hp => ⟨(hok.lens p hp).1, by have := (hok.lens p hp).2; omega⟩
  have HLB := Lib.hid hlb
  have HV := Lib.hid hv
  have hlen := hok.2
  have hlen2 := (validB_ok hv).2.2.1
  have hln := (hok.beg r.ps.length).1
  rw [List.take_length] at hln
  clear hlb
  by_cases h0 : x < 0
  · go_enter Try.func4, Try.ntmps4
    go_wp2_with fail
    refine (small_any r A B C a b c _ (hR0.rd h)).mono ?_
    rintro e W1 ⟨rfl, hb1⟩
    have hI1 := hR0.step hb1
    have b0 := hI1.box.2 0 _ rfl
    have b1 := hI1.box.2 1 _ rfl
    have b2 := hI1.box.2 2 _ rfl
    have bs := hI1.box.1
    go_wp2_with fail
    refine (rvalid_any r A B C a b c _ (hI1.rd h)).mono ?_
    rintro e W2 ⟨rfl, hb2⟩
    have hI2 := hI1.step hb2
    clear b0 b1 b2 bs
    have b0 := hI2.box.2 0 _ rfl
    have b1 := hI2.box.2 1 _ rfl
    have b2 := hI2.box.2 2 _ rfl
    have bs := hI2.box.1
    go_wp2_with fail
    refine (turning_out r A B C a b c x y _ (hI2.rd h) HV.out (.inl h0)).mono ?_
    rintro e W3 ⟨rfl, hb3⟩
    have hI3 := hI2.step hb3
    clear b0 b1 b2 bs
    have b0 := hI3.box.2 0 _ rfl
    have b1 := hI3.box.2 1 _ rfl
    have b2 := hI3.box.2 2 _ rfl
    have bs := hI3.box.1
    go_wp2_with fail
    refine (known_any _).mono ?_
    rintro e W4 ⟨rfl, hb4⟩
    have hI4 := hI3.step hb4
    clear b0 b1 b2 bs
    have b0 := hI4.box.2 0 _ rfl
    have b1 := hI4.box.2 1 _ rfl
    have b2 := hI4.box.2 2 _ rfl
    have bs := hI4.box.1
    go_wp2_with fail
    go_ret
    exact ⟨rfl, hI4.below⟩
  by_cases h1 : y < x
  · go_enter Try.func4, Try.ntmps4
    go_wp2_with fail
    refine (small_any r A B C a b c _ (hR0.rd h)).mono ?_
    rintro e W1 ⟨rfl, hb1⟩
    have hI1 := hR0.step hb1
    have b0 := hI1.box.2 0 _ rfl
    have b1 := hI1.box.2 1 _ rfl
    have b2 := hI1.box.2 2 _ rfl
    have bs := hI1.box.1
    go_wp2_with fail
    refine (rvalid_any r A B C a b c _ (hI1.rd h)).mono ?_
    rintro e W2 ⟨rfl, hb2⟩
    have hI2 := hI1.step hb2
    clear b0 b1 b2 bs
    have b0 := hI2.box.2 0 _ rfl
    have b1 := hI2.box.2 1 _ rfl
    have b2 := hI2.box.2 2 _ rfl
    have bs := hI2.box.1
    go_wp2_with fail
    refine (turning_out r A B C a b c x y _ (hI2.rd h) HV.out (.inr (.inl h1))).mono ?_
    rintro e W3 ⟨rfl, hb3⟩
    have hI3 := hI2.step hb3
    clear b0 b1 b2 bs
    have b0 := hI3.box.2 0 _ rfl
    have b1 := hI3.box.2 1 _ rfl
    have b2 := hI3.box.2 2 _ rfl
    have bs := hI3.box.1
    go_wp2_with fail
    refine (known_any _).mono ?_
    rintro e W4 ⟨rfl, hb4⟩
    have hI4 := hI3.step hb4
    clear b0 b1 b2 bs
    have b0 := hI4.box.2 0 _ rfl
    have b1 := hI4.box.2 1 _ rfl
    have b2 := hI4.box.2 2 _ rfl
    have bs := hI4.box.1
    go_wp2_with fail
    go_ret
    exact ⟨rfl, hI4.below⟩
  by_cases h2 : lenSum r.ps < y
  · go_enter Try.func4, Try.ntmps4
    go_wp2_with fail
    refine (small_any r A B C a b c _ (hR0.rd h)).mono ?_
    rintro e W1 ⟨rfl, hb1⟩
    have hI1 := hR0.step hb1
    have b0 := hI1.box.2 0 _ rfl
    have b1 := hI1.box.2 1 _ rfl
    have b2 := hI1.box.2 2 _ rfl
    have bs := hI1.box.1
    go_wp2_with fail
    refine (rvalid_any r A B C a b c _ (hI1.rd h)).mono ?_
    rintro e W2 ⟨rfl, hb2⟩
    have hI2 := hI1.step hb2
    clear b0 b1 b2 bs
    have b0 := hI2.box.2 0 _ rfl
    have b1 := hI2.box.2 1 _ rfl
    have b2 := hI2.box.2 2 _ rfl
    have bs := hI2.box.1
    go_wp2_with fail
    refine (turning_out r A B C a b c x y _ (hI2.rd h) HV.out (.inr (.inr h2))).mono ?_
    rintro e W3 ⟨rfl, hb3⟩
    have hI3 := hI2.step hb3
    clear b0 b1 b2 bs
    have b0 := hI3.box.2 0 _ rfl
    have b1 := hI3.box.2 1 _ rfl
    have b2 := hI3.box.2 2 _ rfl
    have bs := hI3.box.1
    go_wp2_with fail
    refine (rlength_any r A B C a b c _ (hI3.rd h) HLB.out (by omega)).mono ?_
    rintro e W4 ⟨rfl, hb4⟩
    have hI4 := hI3.step hb4
    clear b0 b1 b2 bs
    have b0 := hI4.box.2 0 _ rfl
    have b1 := hI4.box.2 1 _ rfl
    have b2 := hI4.box.2 2 _ rfl
    have bs := hI4.box.1
    go_wp2_with fail
    refine (known_any _).mono ?_
    rintro e W5 ⟨rfl, hb5⟩
    have hI5 := hI4.step hb5
    clear b0 b1 b2 bs
    have b0 := hI5.box.2 0 _ rfl
    have b1 := hI5.box.2 1 _ rfl
    have b2 := hI5.box.2 2 _ rfl
    have bs := hI5.box.1
    go_wp2_with fail
    go_ret
    exact ⟨rfl, hI5.below⟩
  have u1 := (up_bd r hok x).1
  have u2 := (up_bd r hok x).2
  have u3 := (up_bd r hok y).1
  have u4 := (up_bd r hok y).2
  have u5 := (up_bd r hok z).1
  have u6 := (up_bd r hok z).2
  by_cases h3 : z < y
  · go_enter Try.func4, Try.ntmps4
    go_wp2_with fail
    refine (small_any r A B C a b c _ (hR0.rd h)).mono ?_
    rintro e W1 ⟨rfl, hb1⟩
    have hI1 := hR0.step hb1
    have b0 := hI1.box.2 0 _ rfl
    have b1 := hI1.box.2 1 _ rfl
    have b2 := hI1.box.2 2 _ rfl
    have bs := hI1.box.1
    go_wp2_with fail
    refine (rvalid_any r A B C a b c _ (hI1.rd h)).mono ?_
    rintro e W2 ⟨rfl, hb2⟩
    have hI2 := hI1.step hb2
    clear b0 b1 b2 bs
    have b0 := hI2.box.2 0 _ rfl
    have b1 := hI2.box.2 1 _ rfl
    have b2 := hI2.box.2 2 _ rfl
    have bs := hI2.box.1
    go_wp2_with fail
    refine (turning_good r A B C a b c x y _ (hI2.rd h) HV.out (by omega) (by omega) (by omega)).mono ?_
    rintro e W3 ⟨rfl, hb3⟩
    have hI3 := hI2.step hb3
    clear b0 b1 b2 bs
    have b0 := hI3.box.2 0 _ rfl
    have b1 := hI3.box.2 1 _ rfl
    have b2 := hI3.box.2 2 _ rfl
    have bs := hI3.box.1
    go_wp2_with fail
    refine (rlength_any r A B C a b c _ (hI3.rd h) HLB.out (by omega)).mono ?_
    rintro e W4 ⟨rfl, hb4⟩
    have hI4 := hI3.step hb4
    clear b0 b1 b2 bs
    have b0 := hI4.box.2 0 _ rfl
    have b1 := hI4.box.2 1 _ rfl
    have b2 := hI4.box.2 2 _ rfl
    have bs := hI4.box.1
    go_wp2_with fail
    refine (rturning_any r A B C a b c x y _ (hI4.rd h) hok (by omega) (by omega) (by omega) (by omega)).mono ?_
    rintro e W5 ⟨rfl, hb5⟩
    have hI5 := hI4.step hb5
    clear b0 b1 b2 bs
    have b0 := hI5.box.2 0 _ rfl
    have b1 := hI5.box.2 1 _ rfl
    have b2 := hI5.box.2 2 _ rfl
    have bs := hI5.box.1
    go_wp2_with fail
    refine (known_any _).mono ?_
    rintro e W6 ⟨rfl, hb6⟩
    have hI6 := hI5.step hb6
    clear b0 b1 b2 bs
    have b0 := hI6.box.2 0 _ rfl
    have b1 := hI6.box.2 1 _ rfl
    have b2 := hI6.box.2 2 _ rfl
    have bs := hI6.box.1
    go_wp2_with fail
    go_ret
    exact ⟨rfl, hI6.below⟩
  by_cases h4 : lenSum r.ps < z
  · go_enter Try.func4, Try.ntmps4
    go_wp2_with fail
    refine (small_any r A B C a b c _ (hR0.rd h)).mono ?_
    rintro e W1 ⟨rfl, hb1⟩
    have hI1 := hR0.step hb1
    have b0 := hI1.box.2 0 _ rfl
    have b1 := hI1.box.2 1 _ rfl
    have b2 := hI1.box.2 2 _ rfl
    have bs := hI1.box.1
    go_wp2_with fail
    refine (rvalid_any r A B C a b c _ (hI1.rd h)).mono ?_
    rintro e W2 ⟨rfl, hb2⟩
    have hI2 := hI1.step hb2
    clear b0 b1 b2 bs
    have b0 := hI2.box.2 0 _ rfl
    have b1 := hI2.box.2 1 _ rfl
    have b2 := hI2.box.2 2 _ rfl
    have bs := hI2.box.1
    go_wp2_with fail
    refine (turning_good r A B C a b c x y _ (hI2.rd h) HV.out (by omega) (by omega) (by omega)).mono ?_
    rintro e W3 ⟨rfl, hb3⟩
    have hI3 := hI2.step hb3
    clear b0 b1 b2 bs
    have b0 := hI3.box.2 0 _ rfl
    have b1 := hI3.box.2 1 _ rfl
    have b2 := hI3.box.2 2 _ rfl
    have bs := hI3.box.1
    go_wp2_with fail
    refine (rlength_any r A B C a b c _ (hI3.rd h) HLB.out (by omega)).mono ?_
    rintro e W4 ⟨rfl, hb4⟩
    have hI4 := hI3.step hb4
    clear b0 b1 b2 bs
    have b0 := hI4.box.2 0 _ rfl
    have b1 := hI4.box.2 1 _ rfl
    have b2 := hI4.box.2 2 _ rfl
    have bs := hI4.box.1
    go_wp2_with fail
    refine (rturning_any r A B C a b c x y _ (hI4.rd h) hok (by omega) (by omega) (by omega) (by omega)).mono ?_
    rintro e W5 ⟨rfl, hb5⟩
    have hI5 := hI4.step hb5
    clear b0 b1 b2 bs
    have b0 := hI5.box.2 0 _ rfl
    have b1 := hI5.box.2 1 _ rfl
    have b2 := hI5.box.2 2 _ rfl
    have bs := hI5.box.1
    go_wp2_with fail
    refine (rlength_any r A B C a b c _ (hI5.rd h) HLB.out (by omega)).mono ?_
    rintro e W6 ⟨rfl, hb6⟩
    have hI6 := hI5.step hb6
    clear b0 b1 b2 bs
    have b0 := hI6.box.2 0 _ rfl
    have b1 := hI6.box.2 1 _ rfl
    have b2 := hI6.box.2 2 _ rfl
    have bs := hI6.box.1
    go_wp2_with fail
    refine (known_any _).mono ?_
    rintro e W7 ⟨rfl, hb7⟩
    have hI7 := hI6.step hb7
    clear b0 b1 b2 bs
    have b0 := hI7.box.2 0 _ rfl
    have b1 := hI7.box.2 1 _ rfl
    have b2 := hI7.box.2 2 _ rfl
    have bs := hI7.box.1
    go_wp2_with fail
    go_ret
    exact ⟨rfl, hI7.below⟩
  have he : (up r.ps y - up r.ps x + (up r.ps z - up r.ps y) == up r.ps z - up r.ps x) = true := by
    rw [beq_iff_eq]
    omega
  go_enter Try.func4, Try.ntmps4
  go_wp2_with fail
  refine (small_any r A B C a b c _ (hR0.rd h)).mono ?_
  rintro e W1 ⟨rfl, hb1⟩
  have hI1 := hR0.step hb1
  have b0 := hI1.box.2 0 _ rfl
  have b1 := hI1.box.2 1 _ rfl
  have b2 := hI1.box.2 2 _ rfl
  have bs := hI1.box.1
  go_wp2_with fail
  refine (rvalid_any r A B C a b c _ (hI1.rd h)).mono ?_
  rintro e W2 ⟨rfl, hb2⟩
  have hI2 := hI1.step hb2
  clear b0 b1 b2 bs
  have b0 := hI2.box.2 0 _ rfl
  have b1 := hI2.box.2 1 _ rfl
  have b2 := hI2.box.2 2 _ rfl
  have bs := hI2.box.1
  go_wp2_with fail
  refine (turning_good r A B C a b c x y _ (hI2.rd h) HV.out (by omega) (by omega) (by omega)).mono ?_
  rintro e W3 ⟨rfl, hb3⟩
  have hI3 := hI2.step hb3
  clear b0 b1 b2 bs
  have b0 := hI3.box.2 0 _ rfl
  have b1 := hI3.box.2 1 _ rfl
  have b2 := hI3.box.2 2 _ rfl
  have bs := hI3.box.1
  go_wp2_with fail
  refine (rlength_any r A B C a b c _ (hI3.rd h) HLB.out (by omega)).mono ?_
  rintro e W4 ⟨rfl, hb4⟩
  have hI4 := hI3.step hb4
  clear b0 b1 b2 bs
  have b0 := hI4.box.2 0 _ rfl
  have b1 := hI4.box.2 1 _ rfl
  have b2 := hI4.box.2 2 _ rfl
  have bs := hI4.box.1
  go_wp2_with fail
  refine (rturning_any r A B C a b c x y _ (hI4.rd h) hok (by omega) (by omega) (by omega) (by omega)).mono ?_
  rintro e W5 ⟨rfl, hb5⟩
  have hI5 := hI4.step hb5
  clear b0 b1 b2 bs
  have b0 := hI5.box.2 0 _ rfl
  have b1 := hI5.box.2 1 _ rfl
  have b2 := hI5.box.2 2 _ rfl
  have bs := hI5.box.1
  go_wp2_with fail
  refine (rlength_any r A B C a b c _ (hI5.rd h) HLB.out (by omega)).mono ?_
  rintro e W6 ⟨rfl, hb6⟩
  have hI6 := hI5.step hb6
  clear b0 b1 b2 bs
  have b0 := hI6.box.2 0 _ rfl
  have b1 := hI6.box.2 1 _ rfl
  have b2 := hI6.box.2 2 _ rfl
  have bs := hI6.box.1
  go_wp2_with fail
  refine (turning_good r A B C a b c y z _ (hI6.rd h) HV.out (by omega) (by omega) (by omega)).mono ?_
  rintro e W7 ⟨rfl, hb7⟩
  have hI7 := hI6.step hb7
  clear b0 b1 b2 bs
  have b0 := hI7.box.2 0 _ rfl
  have b1 := hI7.box.2 1 _ rfl
  have b2 := hI7.box.2 2 _ rfl
  have bs := hI7.box.1
  go_wp2_with fail
  refine (turning_good r A B C a b c x z _ (hI7.rd h) HV.out (by omega) (by omega) (by omega)).mono ?_
  rintro e W8 ⟨rfl, hb8⟩
  have hI8 := hI7.step hb8
  clear b0 b1 b2 bs
  have b0 := hI8.box.2 0 _ rfl
  have b1 := hI8.box.2 1 _ rfl
  have b2 := hI8.box.2 2 _ rfl
  have bs := hI8.box.1
  go_wp2_with fail
  refine (known_any _).mono ?_
  rintro e W9 ⟨rfl, hb9⟩
  have hI9 := hI8.step hb9
  clear b0 b1 b2 bs
  have b0 := hI9.box.2 0 _ rfl
  have b1 := hI9.box.2 1 _ rfl
  have b2 := hI9.box.2 2 _ rfl
  have bs := hI9.box.1
  go_wp2_with fail
  go_ret
  exact ⟨rfl, hI9.below⟩

end Go.Proofs.Ytbdjmaogbpdkpaa

import Derived.Test.YtbdjmaogbpdkpaaKnown
/-
  The law RoadFinds, walked: it answers true.
-/
namespace Go.Proofs.Ytbdjmaogbpdkpaa
open Go.RowKit Go.Shelf

set_option maxRecDepth 100000 in
set_option maxHeartbeats 4000000 in
theorem finds_any (r : Road) (A B C : Option Addr) (a b c : Nat) (x : Int) (w : World) (h : RdRoad w r A B C) :
    Calls Try.prog 3 #[.agg #[.slice A r.ps.length a, .slice B r.cs.length b, .slice C r.js.length c], .int .i64 x] w fun e w' => e = .returned (.bool true) ∧ Below w.heap.size w w' := by
  have hR0 := InR.new w r A B C a b c
  cases hs : smallB r
  · go_enter Try.func3, Try.ntmps3
    go_wp2_with fail
    refine (small_any r A B C a b c _ (hR0.rd h)).mono ?_
    rintro e W1 ⟨rfl, hb1⟩
    have hI1 := hR0.step hb1
    have b0 := hI1.box.2 0 _ rfl
    have b1 := hI1.box.2 1 _ rfl
    have b2 := hI1.box.2 2 _ rfl
    have bs := hI1.box.1
    go_wp2_with fail
    refine (known_any _).mono ?_
    rintro e W2 ⟨rfl, hb2⟩
    have hI2 := hI1.step hb2
    clear b0 b1 b2 bs
    have b0 := hI2.box.2 0 _ rfl
    have b1 := hI2.box.2 1 _ rfl
    have b2 := hI2.box.2 2 _ rfl
    have bs := hI2.box.1
    go_wp2_with fail
    go_ret
    exact ⟨rfl, hI2.below⟩
  cases hv : validB r
  · go_enter Try.func3, Try.ntmps3
    go_wp2_with fail
    refine (small_any r A B C a b c _ (hR0.rd h)).mono ?_
    rintro e W1 ⟨rfl, hb1⟩
    have hI1 := hR0.step hb1
    have b0 := hI1.box.2 0 _ rfl
    have b1 := hI1.box.2 1 _ rfl
    have b2 := hI1.box.2 2 _ rfl
    have bs := hI1.box.1
    go_wp2_with fail
    refine (rvalid_any r A B C a b c _ (hI1.rd h)).mono ?_
    rintro e W2 ⟨rfl, hb2⟩
    have hI2 := hI1.step hb2
    clear b0 b1 b2 bs
    have b0 := hI2.box.2 0 _ rfl
    have b1 := hI2.box.2 1 _ rfl
    have b2 := hI2.box.2 2 _ rfl
    have bs := hI2.box.1
    go_wp2_with fail
    refine (known_any _).mono ?_
    rintro e W3 ⟨rfl, hb3⟩
    have hI3 := hI2.step hb3
    clear b0 b1 b2 bs
    have b0 := hI3.box.2 0 _ rfl
    have b1 := hI3.box.2 1 _ rfl
    have b2 := hI3.box.2 2 _ rfl
    have bs := hI3.box.1
    go_wp2_with fail
    go_ret
    exact ⟨rfl, hI3.below⟩
  have hok := (validB_ok hv).1
  have hlb : lensOk r.ps 100000 := fun p hp => ⟨(hok.lens p hp).1, by have := (hok.lens p hp).2; omega⟩
  have HLB := Lib.hid hlb
  have HV := Lib.hid hv
  have hlen := hok.2
  clear hlb
  by_cases h0 : x < 0
  · go_enter Try.func3, Try.ntmps3
    go_wp2_with fail
    refine (small_any r A B C a b c _ (hR0.rd h)).mono ?_
    rintro e W1 ⟨rfl, hb1⟩
    have hI1 := hR0.step hb1
    have b0 := hI1.box.2 0 _ rfl
    have b1 := hI1.box.2 1 _ rfl
    have b2 := hI1.box.2 2 _ rfl
    have bs := hI1.box.1
    go_wp2_with fail
    refine (rvalid_any r A B C a b c _ (hI1.rd h)).mono ?_
    rintro e W2 ⟨rfl, hb2⟩
    have hI2 := hI1.step hb2
    clear b0 b1 b2 bs
    have b0 := hI2.box.2 0 _ rfl
    have b1 := hI2.box.2 1 _ rfl
    have b2 := hI2.box.2 2 _ rfl
    have bs := hI2.box.1
    go_wp2_with fail
    refine (Find_out r A B C a b c x _ (hI2.rd h) HV.out (.inl h0)).mono ?_
    rintro e W3 ⟨rfl, hb3⟩
    have hI3 := hI2.step hb3
    clear b0 b1 b2 bs
    have b0 := hI3.box.2 0 _ rfl
    have b1 := hI3.box.2 1 _ rfl
    have b2 := hI3.box.2 2 _ rfl
    have bs := hI3.box.1
    go_wp2_with fail
    refine (known_any _).mono ?_
    rintro e W4 ⟨rfl, hb4⟩
    have hI4 := hI3.step hb4
    clear b0 b1 b2 bs
    have b0 := hI4.box.2 0 _ rfl
    have b1 := hI4.box.2 1 _ rfl
    have b2 := hI4.box.2 2 _ rfl
    have bs := hI4.box.1
    go_wp2_with fail
    go_ret
    exact ⟨rfl, hI4.below⟩
  by_cases h1 : lenSum r.ps ≤ x
  · go_enter Try.func3, Try.ntmps3
    go_wp2_with fail
    refine (small_any r A B C a b c _ (hR0.rd h)).mono ?_
    rintro e W1 ⟨rfl, hb1⟩
    have hI1 := hR0.step hb1
    have b0 := hI1.box.2 0 _ rfl
    have b1 := hI1.box.2 1 _ rfl
    have b2 := hI1.box.2 2 _ rfl
    have bs := hI1.box.1
    go_wp2_with fail
    refine (rvalid_any r A B C a b c _ (hI1.rd h)).mono ?_
    rintro e W2 ⟨rfl, hb2⟩
    have hI2 := hI1.step hb2
    clear b0 b1 b2 bs
    have b0 := hI2.box.2 0 _ rfl
    have b1 := hI2.box.2 1 _ rfl
    have b2 := hI2.box.2 2 _ rfl
    have bs := hI2.box.1
    go_wp2_with fail
    refine (Find_out r A B C a b c x _ (hI2.rd h) HV.out (.inr h1)).mono ?_
    rintro e W3 ⟨rfl, hb3⟩
    have hI3 := hI2.step hb3
    clear b0 b1 b2 bs
    have b0 := hI3.box.2 0 _ rfl
    have b1 := hI3.box.2 1 _ rfl
    have b2 := hI3.box.2 2 _ rfl
    have bs := hI3.box.1
    go_wp2_with fail
    refine (rlength_any r A B C a b c _ (hI3.rd h) HLB.out (by omega)).mono ?_
    rintro e W4 ⟨rfl, hb4⟩
    have hI4 := hI3.step hb4
    clear b0 b1 b2 bs
    have b0 := hI4.box.2 0 _ rfl
    have b1 := hI4.box.2 1 _ rfl
    have b2 := hI4.box.2 2 _ rfl
    have bs := hI4.box.1
    go_wp2_with fail
    refine (known_any _).mono ?_
    rintro e W5 ⟨rfl, hb5⟩
    have hI5 := hI4.step hb5
    clear b0 b1 b2 bs
    have b0 := hI5.box.2 0 _ rfl
    have b1 := hI5.box.2 1 _ rfl
    have b2 := hI5.box.2 2 _ rfl
    have bs := hI5.box.1
    go_wp2_with fail
    go_ret
    exact ⟨rfl, hI5.below⟩
  go_enter Try.func3, Try.ntmps3
  go_wp2_with fail
  refine (small_any r A B C a b c _ (hR0.rd h)).mono ?_
  rintro e W1 ⟨rfl, hb1⟩
  have hI1 := hR0.step hb1
  have b0 := hI1.box.2 0 _ rfl
  have b1 := hI1.box.2 1 _ rfl
  have b2 := hI1.box.2 2 _ rfl
  have bs := hI1.box.1
  go_wp2_with fail
  refine (rvalid_any r A B C a b c _ (hI1.rd h)).mono ?_
  rintro e W2 ⟨rfl, hb2⟩
  have hI2 := hI1.step hb2
  clear b0 b1 b2 bs
  have b0 := hI2.box.2 0 _ rfl
  have b1 := hI2.box.2 1 _ rfl
  have b2 := hI2.box.2 2 _ rfl
  have bs := hI2.box.1
  go_wp2_with fail
  refine (Find_good r A B C a b c x _ (hI2.rd h) HV.out (by omega) (by omega)).mono ?_
  rintro e W3 ⟨⟨k, rfl, hk⟩, hb3⟩
  have hI3 := hI2.step hb3
  clear b0 b1 b2 bs
  have b0 := hI3.box.2 0 _ rfl
  have b1 := hI3.box.2 1 _ rfl
  have b2 := hI3.box.2 2 _ rfl
  have bs := hI3.box.1
  go_wp2_with fail
  refine (rlength_any r A B C a b c _ (hI3.rd h) HLB.out (by omega)).mono ?_
  rintro e W4 ⟨rfl, hb4⟩
  have hI4 := hI3.step hb4
  clear b0 b1 b2 bs
  have b0 := hI4.box.2 0 _ rfl
  have b1 := hI4.box.2 1 _ rfl
  have b2 := hI4.box.2 2 _ rfl
  have bs := hI4.box.1
  go_wp2_with fail
  refine (rfind_any r A B C a b c x _ (hI4.rd h) hok (by omega) (by omega)).mono ?_
  rintro e W5 ⟨⟨k2, hk2, rfl⟩, hb5⟩
  have hI5 := hI4.step hb5
  clear b0 b1 b2 bs
  have b0 := hI5.box.2 0 _ rfl
  have b1 := hI5.box.2 1 _ rfl
  have b2 := hI5.box.2 2 _ rfl
  have bs := hI5.box.1
  obtain rfl := FindAt.unique hok hk hk2
  go_wp2_with fail
  refine (known_any _).mono ?_
  rintro e W6 ⟨rfl, hb6⟩
  have hI6 := hI5.step hb6
  clear b0 b1 b2 bs
  have b0 := hI6.box.2 0 _ rfl
  have b1 := hI6.box.2 1 _ rfl
  have b2 := hI6.box.2 2 _ rfl
  have bs := hI6.box.1
  go_wp2_with fail
  go_ret
  exact ⟨rfl, hI6.below⟩

end Go.Proofs.Ytbdjmaogbpdkpaa

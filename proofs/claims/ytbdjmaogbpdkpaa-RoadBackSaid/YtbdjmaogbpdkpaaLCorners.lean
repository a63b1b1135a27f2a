import Derived.Test.YtbdjmaogbpdkpaaKnown
/-
  The law RoadCorners, walked: it answers true.
-/
namespace Go.Proofs.Ytbdjmaogbpdkpaa
open Go.RowKit Go.Shelf

theorem cornersS_len (r : Road) (hok : okPs r) (gap least : Int) : (cornersS r gap least).length ≤ 2000 := by
  unfold cornersS
  have h1 := List.length_filterMap_le (keepCo r least) (grp gap r.ps).1
  have h2 := (grp_good gap r hok r.ps.length (Nat.le_refl _)).1
  rw [List.take_length] at h2
  have := hok.2
  omega

set_option maxRecDepth 100000 in
set_option maxHeartbeats 8000000 in
theorem cornerslaw_any (r : Road) (A B C : Option Addr) (a b c : Nat) (gap least : Int) (w : World) (h : RdRoad w r A B C) :
    Calls Try.prog 5 #[.agg #[.slice A r.ps.length a, .slice B r.cs.length b, .slice C r.js.length c], .agg #[.int .i64 gap, .int .i64 least]] w fun e w' => e = .returned (.bool true) ∧ Below w.heap.size w w' := by
  have hR0 : InR w ((w.alloc (.cells #[.slice A r.ps.length a, .slice B r.cs.length b, .slice C r.js.length c] 26)).alloc (.cells #[.int .i64 gap, .int .i64 least] 41)) r A B C a b c := (InR.new w r A B C a b c).step (balloc _ _)
  have hB0 : Box ((w.alloc (.cells #[.slice A r.ps.length a, .slice B r.cs.length b, .slice C r.js.length c] 26)).alloc (.cells #[.int .i64 gap, .int .i64 least] 41)) (w.heap.size + 1) [.int .i64 gap, .int .i64 least] := by
    have := Box.new (w.alloc (.cells #[.slice A r.ps.length a, .slice B r.cs.length b, .slice C r.js.length c] 26)) [.int .i64 gap, .int .i64 least] 41
    rwa [World.size_alloc] at this
  cases hs : smallB r
  · go_enter Try.func5, Try.ntmps5
    go_wp2_with fail
    refine (small_any r A B C a b c _ (hR0.rd h)).mono ?_
    rintro e W1 ⟨rfl, hb1⟩
    have hI1 := hR0.step hb1
    have hB0_1 := hB0.below hb1
    have b0 := hI1.box.2 0 _ rfl
    have b1 := hI1.box.2 1 _ rfl
    have b2 := hI1.box.2 2 _ rfl
    have bs := hI1.box.1
    have c0_0 := hB0_1.2 0 _ rfl
    have c0_1 := hB0_1.2 1 _ rfl
    have cs0 := hB0_1.1
    go_wp2_with fail
    refine (known_any _).mono ?_
    rintro e W2 ⟨rfl, hb2⟩
    have hI2 := hI1.step hb2
    have hB0_2 := hB0_1.below hb2
    clear b0 b1 b2 bs c0_0 c0_1 cs0
    have b0 := hI2.box.2 0 _ rfl
    have b1 := hI2.box.2 1 _ rfl
    have b2 := hI2.box.2 2 _ rfl
    have bs := hI2.box.1
    have c0_0 := hB0_2.2 0 _ rfl
    have c0_1 := hB0_2.2 1 _ rfl
    have cs0 := hB0_2.1
    go_wp2_with fail
    go_ret
    exact ⟨rfl, hI2.below⟩
  cases hv : validB r
  · go_enter Try.func5, Try.ntmps5
    go_wp2_with fail
    refine (small_any r A B C a b c _ (hR0.rd h)).mono ?_
    rintro e W1 ⟨rfl, hb1⟩
    have hI1 := hR0.step hb1
    have hB0_1 := hB0.below hb1
    have b0 := hI1.box.2 0 _ rfl
    have b1 := hI1.box.2 1 _ rfl
    have b2 := hI1.box.2 2 _ rfl
    have bs := hI1.box.1
    have c0_0 := hB0_1.2 0 _ rfl
    have c0_1 := hB0_1.2 1 _ rfl
    have cs0 := hB0_1.1
    go_wp2_with fail
    refine (rvalid_any r A B C a b c _ (hI1.rd h)).mono ?_
    rintro e W2 ⟨rfl, hb2⟩
    have hI2 := hI1.step hb2
    have hB0_2 := hB0_1.below hb2
    clear b0 b1 b2 bs c0_0 c0_1 cs0
    have b0 := hI2.box.2 0 _ rfl
    have b1 := hI2.box.2 1 _ rfl
    have b2 := hI2.box.2 2 _ rfl
    have bs := hI2.box.1
    have c0_0 := hB0_2.2 0 _ rfl
    have c0_1 := hB0_2.2 1 _ rfl
    have cs0 := hB0_2.1
    go_wp2_with fail
    refine (known_any _).mono ?_
    rintro e W3 ⟨rfl, hb3⟩
    have hI3 := hI2.step hb3
    have hB0_3 := hB0_2.below hb3
    clear b0 b1 b2 bs c0_0 c0_1 cs0
    have b0 := hI3.box.2 0 _ rfl
    have b1 := hI3.box.2 1 _ rfl
    have b2 := hI3.box.2 2 _ rfl
    have bs := hI3.box.1
    have c0_0 := hB0_3.2 0 _ rfl
    have c0_1 := hB0_3.2 1 _ rfl
    have cs0 := hB0_3.1
    go_wp2_with fail
    go_ret
    exact ⟨rfl, hI3.below⟩
  have hok := (validB_ok hv).1
  have hlb : lensOk r.ps 100000 := fun p hp => ⟨(hok.lens p hp).1, by have := (hok.lens p hp).2; omega⟩
  have HLB := Lib.hid hlb
  have HV := Lib.hid hv
  have hlen := hok.2
  have hlen2 := (validB_ok hv).2.2.1
  have hln := (hok.beg r.ps.length).1
  rw [List.take_length] at hln
  clear hlb
  cases hbo : bendsOk gap least
  · go_enter Try.func5, Try.ntmps5
    go_wp2_with fail
    refine (small_any r A B C a b c _ (hR0.rd h)).mono ?_
    rintro e W1 ⟨rfl, hb1⟩
    have hI1 := hR0.step hb1
    have hB0_1 := hB0.below hb1
    have b0 := hI1.box.2 0 _ rfl
    have b1 := hI1.box.2 1 _ rfl
    have b2 := hI1.box.2 2 _ rfl
    have bs := hI1.box.1
    have c0_0 := hB0_1.2 0 _ rfl
    have c0_1 := hB0_1.2 1 _ rfl
    have cs0 := hB0_1.1
    go_wp2_with fail
    refine (rvalid_any r A B C a b c _ (hI1.rd h)).mono ?_
    rintro e W2 ⟨rfl, hb2⟩
    have hI2 := hI1.step hb2
    have hB0_2 := hB0_1.below hb2
    clear b0 b1 b2 bs c0_0 c0_1 cs0
    have b0 := hI2.box.2 0 _ rfl
    have b1 := hI2.box.2 1 _ rfl
    have b2 := hI2.box.2 2 _ rfl
    have bs := hI2.box.1
    have c0_0 := hB0_2.2 0 _ rfl
    have c0_1 := hB0_2.2 1 _ rfl
    have cs0 := hB0_2.1
    go_wp2_with fail
    refine (corners_out r A B C a b c gap least _ (hI2.rd h) HV.out hbo).mono ?_
    rintro e W3 ⟨rfl, hb3⟩
    have hI3 := hI2.step hb3
    have hB0_3 := hB0_2.below hb3
    clear b0 b1 b2 bs c0_0 c0_1 cs0
    have b0 := hI3.box.2 0 _ rfl
    have b1 := hI3.box.2 1 _ rfl
    have b2 := hI3.box.2 2 _ rfl
    have bs := hI3.box.1
    have c0_0 := hB0_3.2 0 _ rfl
    have c0_1 := hB0_3.2 1 _ rfl
    have cs0 := hB0_3.1
    go_wp2_with fail
    refine (rbends_any gap least _).mono ?_
    rintro e W4 ⟨rfl, hb4⟩
    have hI4 := hI3.step hb4
    have hB0_4 := hB0_3.below hb4
    clear b0 b1 b2 bs c0_0 c0_1 cs0
    have b0 := hI4.box.2 0 _ rfl
    have b1 := hI4.box.2 1 _ rfl
    have b2 := hI4.box.2 2 _ rfl
    have bs := hI4.box.1
    have c0_0 := hB0_4.2 0 _ rfl
    have c0_1 := hB0_4.2 1 _ rfl
    have cs0 := hB0_4.1
    go_wp2_with fail
    refine (known_any _).mono ?_
    rintro e W5 ⟨rfl, hb5⟩
    have hI5 := hI4.step hb5
    have hB0_5 := hB0_4.below hb5
    clear b0 b1 b2 bs c0_0 c0_1 cs0
    have b0 := hI5.box.2 0 _ rfl
    have b1 := hI5.box.2 1 _ rfl
    have b2 := hI5.box.2 2 _ rfl
    have bs := hI5.box.1
    have c0_0 := hB0_5.2 0 _ rfl
    have c0_1 := hB0_5.2 1 _ rfl
    have cs0 := hB0_5.1
    go_wp2_with fail
    go_ret
    exact ⟨rfl, hI5.below⟩
  have hbb : 0 ≤ gap ∧ gap ≤ 1000 ∧ 1 ≤ least ∧ least ≤ 10000 := by
    simp only [bendsOk, inB, Bool.and_eq_true, decide_eq_true_eq] at hbo
    omega
  have g1 := hbb.1
  have g2 := hbb.2.1
  have g3 := hbb.2.2.1
  have g4 := hbb.2.2.2
  clear hbb
  have hcl := cornersS_len r hok gap least
  have HCS := Lib.hid (corners_same r gap least hok)
  have HCF := Lib.hid (rfl : cornersS r gap least = cornersS r gap least)
  go_enter Try.func5, Try.ntmps5
  go_wp2_with fail
  refine (small_any r A B C a b c _ (hR0.rd h)).mono ?_
  rintro e W1 ⟨rfl, hb1⟩
  have hI1 := hR0.step hb1
  have hB0_1 := hB0.below hb1
  have b0 := hI1.box.2 0 _ rfl
  have b1 := hI1.box.2 1 _ rfl
  have b2 := hI1.box.2 2 _ rfl
  have bs := hI1.box.1
  have c0_0 := hB0_1.2 0 _ rfl
  have c0_1 := hB0_1.2 1 _ rfl
  have cs0 := hB0_1.1
  go_wp2_with fail
  refine (rvalid_any r A B C a b c _ (hI1.rd h)).mono ?_
  rintro e W2 ⟨rfl, hb2⟩
  have hI2 := hI1.step hb2
  have hB0_2 := hB0_1.below hb2
  clear b0 b1 b2 bs c0_0 c0_1 cs0
  have b0 := hI2.box.2 0 _ rfl
  have b1 := hI2.box.2 1 _ rfl
  have b2 := hI2.box.2 2 _ rfl
  have bs := hI2.box.1
  have c0_0 := hB0_2.2 0 _ rfl
  have c0_1 := hB0_2.2 1 _ rfl
  have cs0 := hB0_2.1
  go_wp2_with fail
  refine (corners_walk r A B C a b c gap least _ (hI2.rd h) HV.out g1 g2 g3 g4).mono ?_
  rintro e W3 ⟨⟨v, rfl, hO⟩, hb3⟩
  have hI3 := hI2.step hb3
  have hB0_3 := hB0_2.below hb3
  clear b0 b1 b2 bs c0_0 c0_1 cs0
  have b0 := hI3.box.2 0 _ rfl
  have b1 := hI3.box.2 1 _ rfl
  have b2 := hI3.box.2 2 _ rfl
  have bs := hI3.box.1
  have c0_0 := hB0_3.2 0 _ rfl
  have c0_1 := hB0_3.2 1 _ rfl
  have cs0 := hB0_3.1
  rw [HCS.out] at hO
  generalize hcs : cornersS r gap least = cs at hO hcl
  have HCQ := Lib.hid hcs
  clear hcs
  obtain ⟨VA, va, rfl⟩ := hO.form
  go_wp2_with fail
  refine (rbends_any gap least _).mono ?_
  rintro e W4 ⟨rfl, hb4⟩
  have hI4 := hI3.step hb4
  have hB0_4 := hB0_3.below hb4
  clear b0 b1 b2 bs c0_0 c0_1 cs0
  have b0 := hI4.box.2 0 _ rfl
  have b1 := hI4.box.2 1 _ rfl
  have b2 := hI4.box.2 2 _ rfl
  have bs := hI4.box.1
  have c0_0 := hB0_4.2 0 _ rfl
  have c0_1 := hB0_4.2 1 _ rfl
  have cs0 := hB0_4.1
  go_wp2_with fail
  refine (rcorners_any r A B C a b c gap least _ (hI4.rd h) hok g1 g2).mono ?_
  rintro e W5 ⟨⟨v2, rfl, hO2⟩, hb5⟩
  have hI5 := hI4.step hb5
  have hB0_5 := hB0_4.below hb5
  clear b0 b1 b2 bs c0_0 c0_1 cs0
  have b0 := hI5.box.2 0 _ rfl
  have b1 := hI5.box.2 1 _ rfl
  have b2 := hI5.box.2 2 _ rfl
  have bs := hI5.box.1
  have c0_0 := hB0_5.2 0 _ rfl
  have c0_1 := hB0_5.2 1 _ rfl
  have cs0 := hB0_5.1
  rw [HCQ.out] at hO2
  obtain ⟨VB, vb, rfl⟩ := hO2.form
  have hRA := ((hO.below hb4).below hb5).rd coV_len
  have hRB := hO2.rd coV_len
  go_wp2_with fail
  refine (samecorners_any VA VB va vb cs _ hRA hRB (by omega)).mono ?_
  rintro e W6 ⟨rfl, hb6⟩
  have hI6 := hI5.step hb6
  have hB0_6 := hB0_5.below hb6
  clear b0 b1 b2 bs c0_0 c0_1 cs0
  have b0 := hI6.box.2 0 _ rfl
  have b1 := hI6.box.2 1 _ rfl
  have b2 := hI6.box.2 2 _ rfl
  have bs := hI6.box.1
  have c0_0 := hB0_6.2 0 _ rfl
  have c0_1 := hB0_6.2 1 _ rfl
  have cs0 := hB0_6.1
  go_wp2_with fail
  refine (known_any _).mono ?_
  rintro e W7 ⟨rfl, hb7⟩
  have hI7 := hI6.step hb7
  have hB0_7 := hB0_6.below hb7
  clear b0 b1 b2 bs c0_0 c0_1 cs0
  have b0 := hI7.box.2 0 _ rfl
  have b1 := hI7.box.2 1 _ rfl
  have b2 := hI7.box.2 2 _ rfl
  have bs := hI7.box.1
  have c0_0 := hB0_7.2 0 _ rfl
  have c0_1 := hB0_7.2 1 _ rfl
  have cs0 := hB0_7.1
  go_wp2_with fail
  go_ret
  exact ⟨rfl, hI7.below⟩

end Go.Proofs.Ytbdjmaogbpdkpaa

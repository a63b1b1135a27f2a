import Derived.Test.YtbdjmaogbpdkpaaSig
namespace Go.Proofs.Ytbdjmaogbpdkpaa
set_option linter.unusedVariables false
set_option linter.unusedSimpArgs false
open Go.RowKit Go.Shelf
attribute [local go_sem] wide_fn wide_depth Oper.semAt_some Later.cell Later.cell1 Later.new1 Later.frozen Later.frozen1

set_option maxHeartbeats 1000000 in
theorem sight_bad (r : Road) (A B C : Option Addr) (a b c : Nat) (most mx fr : Int) (w : World) (h : RdRoad w r A B C) (hv : validB r = false) :
    Calls Try.prog 30 #[.agg #[.slice A r.ps.length a, .slice B r.cs.length b, .slice C r.js.length c], .agg #[.int .i64 most, .int .i64 mx], .int .i64 fr] w fun e w' => e = .returned (.tuple #[.int .i64 0, .int .i64 2]) ∧ Below w.heap.size w w' := by
  have hE := checkE_false hv
  have hR0 : InR w (((w.alloc (.cells #[.slice A r.ps.length a, .slice B r.cs.length b, .slice C r.js.length c] 26)).alloc (.cells #[.int .i64 most, .int .i64 mx] 56)).alloc (.cells #[.int .i64 fr] 3)) r A B C a b c := ((InR.new w r A B C a b c).step (balloc _ _)).step (balloc _ _)
  go_enter Try.func30, Try.ntmps30
  go_wp2
  apply wp_scope_straight
  go_wp2_with (first | (go_at_call 48; refine (check_any r A B C a b c _ (hR0.rd h)).mono ?_; rintro e W2 ⟨rfl, hb⟩))
  simp only [Exit.noGoto]
  go_ret2
  exact ⟨by simp [hE], (hR0.step hb).below⟩

set_option maxHeartbeats 1000000 in
theorem sight_out (r : Road) (A B C : Option Addr) (a b c : Nat) (most mx fr : Int) (w : World) (h : RdRoad w r A B C) (hv : validB r = true) (ho : eyesOk most mx = false) :
    Calls Try.prog 30 #[.agg #[.slice A r.ps.length a, .slice B r.cs.length b, .slice C r.js.length c], .agg #[.int .i64 most, .int .i64 mx], .int .i64 fr] w fun e w' => e = .returned (.tuple #[.int .i64 0, .int .i64 2]) ∧ Below w.heap.size w w' := by
  have hE := checkE_true hv
  have hR0 : InR w (((w.alloc (.cells #[.slice A r.ps.length a, .slice B r.cs.length b, .slice C r.js.length c] 26)).alloc (.cells #[.int .i64 most, .int .i64 mx] 56)).alloc (.cells #[.int .i64 fr] 3)) r A B C a b c := ((InR.new w r A B C a b c).step (balloc _ _)).step (balloc _ _)
  have hB0 : Box (((w.alloc (.cells #[.slice A r.ps.length a, .slice B r.cs.length b, .slice C r.js.length c] 26)).alloc (.cells #[.int .i64 most, .int .i64 mx] 56)).alloc (.cells #[.int .i64 fr] 3)) (w.heap.size + 1) [.int .i64 most, .int .i64 mx] := by
    have := Box.new (w.alloc (.cells #[.slice A r.ps.length a, .slice B r.cs.length b, .slice C r.js.length c] 26)) [.int .i64 most, .int .i64 mx] 56
    rw [World.size_alloc] at this
    exact this.below (balloc _ _)
  cases t1 : inB most 1 10000
  · go_enter Try.func30, Try.ntmps30
    go_wp2
    apply wp_scope_straight
    go_wp2_with (first | (go_at_call 48; refine (check_any r A B C a b c _ (hR0.rd h)).mono ?_; rintro e W2 ⟨rfl, hb⟩; have hBx := hB0.below hb; have l0 := hBx.2 0 _ rfl; have l1 := hBx.2 1 _ rfl) | (go_at_call 53; refine (within_any _ _ _ _).mono ?_; rintro e w' ⟨rfl, rfl⟩))
    simp only [Exit.noGoto]
    go_ret2
    exact ⟨by simp [hE], (hR0.step hb).below⟩
  · have t2 : inB mx 1 5000 = false := by
      unfold eyesOk at ho
      rw [t1] at ho
      simpa using ho
    clear ho
    go_enter Try.func30, Try.ntmps30
    go_wp2
    apply wp_scope_straight
    go_wp2_with (first | (go_at_call 48; refine (check_any r A B C a b c _ (hR0.rd h)).mono ?_; rintro e W2 ⟨rfl, hb⟩; have hBx := hB0.below hb; have l0 := hBx.2 0 _ rfl; have l1 := hBx.2 1 _ rfl) | (go_at_call 53; refine (within_any _ _ _ _).mono ?_; rintro e w' ⟨rfl, rfl⟩))
    simp only [Exit.noGoto]
    go_ret2
    exact ⟨by simp [hE], (hR0.step hb).below⟩

set_option maxHeartbeats 2000000 in
theorem sight_off (r : Road) (A B C : Option Addr) (a b c : Nat) (most mx fr : Int) (w : World) (h : RdRoad w r A B C) (hv : validB r = true) (t1 : inB most 1 10000 = true) (t2 : inB mx 1 5000 = true) (hf : fr < 0 ∨ lenSum r.ps < fr) :
    Calls Try.prog 30 #[.agg #[.slice A r.ps.length a, .slice B r.cs.length b, .slice C r.js.length c], .agg #[.int .i64 most, .int .i64 mx], .int .i64 fr] w fun e w' => e = .returned (.tuple #[.int .i64 0, .int .i64 2]) ∧ Below w.heap.size w w' := by
  have hE := checkE_true hv
  have hok := (validB_ok hv).1
  have t3 : inB fr 0 (lenSum r.ps) = false := by simp [inB]; omega
  clear hv hf
  have hR0 : InR w (((w.alloc (.cells #[.slice A r.ps.length a, .slice B r.cs.length b, .slice C r.js.length c] 26)).alloc (.cells #[.int .i64 most, .int .i64 mx] 56)).alloc (.cells #[.int .i64 fr] 3)) r A B C a b c := ((InR.new w r A B C a b c).step (balloc _ _)).step (balloc _ _)
  have hB0 : Box (((w.alloc (.cells #[.slice A r.ps.length a, .slice B r.cs.length b, .slice C r.js.length c] 26)).alloc (.cells #[.int .i64 most, .int .i64 mx] 56)).alloc (.cells #[.int .i64 fr] 3)) (w.heap.size + 1) [.int .i64 most, .int .i64 mx] := by
    have := Box.new (w.alloc (.cells #[.slice A r.ps.length a, .slice B r.cs.length b, .slice C r.js.length c] 26)) [.int .i64 most, .int .i64 mx] 56
    rw [World.size_alloc] at this
    exact this.below (balloc _ _)
  have hB1 : Box (((w.alloc (.cells #[.slice A r.ps.length a, .slice B r.cs.length b, .slice C r.js.length c] 26)).alloc (.cells #[.int .i64 most, .int .i64 mx] 56)).alloc (.cells #[.int .i64 fr] 3)) (w.heap.size + 2) [.int .i64 fr] := by
    have := Box.new ((w.alloc (.cells #[.slice A r.ps.length a, .slice B r.cs.length b, .slice C r.js.length c] 26)).alloc (.cells #[.int .i64 most, .int .i64 mx] 56)) [.int .i64 fr] 3
    simp only [World.size_alloc, Nat.add_assoc, Nat.reduceAdd] at this
    exact this
  go_enter Try.func30, Try.ntmps30
  go_wp2
  apply wp_scope_straight
  go_upto_region 4 with (first | (go_at_call 48; refine (check_any r A B C a b c _ (hR0.rd h)).mono ?_; rintro e W2 ⟨rfl, hb⟩; have hI := hR0.step hb; have hBx := hB0.below hb; have hBy := hB1.below hb; have b0 := hI.box.2 0 _ rfl; have b1 := hI.box.2 1 _ rfl; have b2 := hI.box.2 2 _ rfl; have l0 := hBx.2 0 _ rfl; have l1 := hBx.2 1 _ rfl) | (go_at_call 53; refine (within_any _ _ _ _).mono ?_; rintro e w' ⟨rfl, rfl⟩) | (go_at_call 52; refine (measure_ok r A B C a b c _ (hI.rd h) hok).mono ?_; rintro e W3 ⟨M, G, g, rfl, hM1, hb3, hMe⟩; replace hI := hI.step hb3; replace hBx := hBx.below hb3; replace hBy := hBy.below hb3; clear l0 l1 b0 b1 b2; have y0 := hBy.2 0 _ rfl))
  have y1 := hBy.1
  have y2 := hBx.1
  refine wp_region_later (by kernel_rfl) (by kernel_rfl) ?_
  repeat (go_big_quiet_step (first | (go_at_call 54; exact later_out (mlength_ok r A B C a b c G g M _ (hMe.below (Later.b _)) hok)) | (go_at_call 53; exact later_out ((within_any _ _ _ _).mono fun _ _ ⟨h1, h2⟩ => ⟨h1, h2 ▸ Below.refl _ _⟩))))
  refine wpQuiet_nil ?_
  rintro _ ⟨W4, rfl⟩
  replace hI := hI.step W4.b
  go_wp2_with fail
  simp only [Exit.noGoto]
  go_ret2
  exact ⟨rfl, hI.below⟩

end Go.Proofs.Ytbdjmaogbpdkpaa

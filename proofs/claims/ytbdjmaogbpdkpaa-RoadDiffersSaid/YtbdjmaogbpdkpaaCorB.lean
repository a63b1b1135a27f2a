import Derived.Test.YtbdjmaogbpdkpaaCor
namespace Go.Proofs.Ytbdjmaogbpdkpaa
set_option linter.unusedVariables false
set_option linter.unusedSimpArgs false
open Go.RowKit Go.Shelf

set_option maxHeartbeats 1000000 in
theorem corners_bad (r : Road) (A B C : Option Addr) (a b c : Nat) (gap least : Int) (w : World) (h : RdRoad w r A B C) (hv : validB r = false) :
    Calls Try.prog 25 #[.agg #[.slice A r.ps.length a, .slice B r.cs.length b, .slice C r.js.length c], .agg #[.int .i64 gap, .int .i64 least]] w fun e w' => e = .returned (.tuple #[.slice none 0 0, .int .i64 2]) ∧ Below w.heap.size w w' := by
  have hE := checkE_false hv
  have hR0 : InR w ((w.alloc (.cells #[.slice A r.ps.length a, .slice B r.cs.length b, .slice C r.js.length c] 26)).alloc (.cells #[.int .i64 gap, .int .i64 least] 41)) r A B C a b c := (InR.new w r A B C a b c).step (balloc _ _)
  go_enter Try.func25, Try.ntmps25
  go_wp2_with (first | (go_at_call 48; refine (check_any r A B C a b c _ (hR0.rd h)).mono ?_; rintro e W2 ⟨rfl, hb⟩))
  go_ret2
  exact ⟨by simp [hE], (hR0.step hb).below⟩

set_option maxHeartbeats 1000000 in
theorem corners_out (r : Road) (A B C : Option Addr) (a b c : Nat) (gap least : Int) (w : World) (h : RdRoad w r A B C) (hv : validB r = true) (ho : bendsOk gap least = false) :
    Calls Try.prog 25 #[.agg #[.slice A r.ps.length a, .slice B r.cs.length b, .slice C r.js.length c], .agg #[.int .i64 gap, .int .i64 least]] w fun e w' => e = .returned (.tuple #[.slice none 0 0, .int .i64 2]) ∧ Below w.heap.size w w' := by
  have hE := checkE_true hv
  have hR0 : InR w ((w.alloc (.cells #[.slice A r.ps.length a, .slice B r.cs.length b, .slice C r.js.length c] 26)).alloc (.cells #[.int .i64 gap, .int .i64 least] 41)) r A B C a b c := (InR.new w r A B C a b c).step (balloc _ _)
  have hB0 : Box ((w.alloc (.cells #[.slice A r.ps.length a, .slice B r.cs.length b, .slice C r.js.length c] 26)).alloc (.cells #[.int .i64 gap, .int .i64 least] 41)) (w.heap.size + 1) [.int .i64 gap, .int .i64 least] := by
    have := Box.new (w.alloc (.cells #[.slice A r.ps.length a, .slice B r.cs.length b, .slice C r.js.length c] 26)) [.int .i64 gap, .int .i64 least] 41
    rwa [World.size_alloc] at this
  cases t1 : inB gap 0 1000
  · go_enter Try.func25, Try.ntmps25
    go_wp2_with (first | (go_at_call 48; refine (check_any r A B C a b c _ (hR0.rd h)).mono ?_; rintro e W2 ⟨rfl, hb⟩; have hBx := hB0.below hb; have l0 := hBx.2 0 _ rfl; have l1 := hBx.2 1 _ rfl) | (go_at_call 53; refine (within_any _ _ _ _).mono ?_; rintro e w' ⟨rfl, rfl⟩))
    go_ret2
    exact ⟨by simp [hE], (hR0.step hb).below⟩
  · have t2 : inB least 1 10000 = false := by
      unfold bendsOk at ho
      rw [t1] at ho
      simpa using ho
    clear ho
    go_enter Try.func25, Try.ntmps25
    go_wp2_with (first | (go_at_call 48; refine (check_any r A B C a b c _ (hR0.rd h)).mono ?_; rintro e W2 ⟨rfl, hb⟩; have hBx := hB0.below hb; have l0 := hBx.2 0 _ rfl; have l1 := hBx.2 1 _ rfl) | (go_at_call 53; refine (within_any _ _ _ _).mono ?_; rintro e w' ⟨rfl, rfl⟩))
    go_ret2
    exact ⟨by simp [hE], (hR0.step hb).below⟩

end Go.Proofs.Ytbdjmaogbpdkpaa

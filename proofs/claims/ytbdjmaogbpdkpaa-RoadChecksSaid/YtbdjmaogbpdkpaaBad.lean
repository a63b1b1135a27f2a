import Derived.Test.YtbdjmaogbpdkpaaNrm
/-
  What road.Part, road.Join, road.Compare, road.Safer refuse: a road that is not as defined.
-/
namespace Go.Proofs.Ytbdjmaogbpdkpaa
open Go.RowKit Go.Shelf
set_option linter.unusedVariables false
set_option linter.unusedSimpArgs false
attribute [local go_sem] Later.cell Later.cell1 Later.new1 Later.frozen Later.frozen1

set_option maxHeartbeats 1000000 in
theorem part_bad (r : Road) (A B C : Option Addr) (a b c : Nat) (x y : Int) (w : World) (h : RdRoad w r A B C) (hv : validB r = false) :
    Calls Try.prog 43 #[.agg #[.slice A r.ps.length a, .slice B r.cs.length b, .slice C r.js.length c], .int .i64 x, .int .i64 y] w fun e w' => e = .returned (.tuple #[.agg #[.slice none 0 0, .slice none 0 0, .slice none 0 0], .int .i64 2]) ∧ Below w.heap.size w w' := by
  have hE := checkE_false hv
  obtain ⟨W0, hW0⟩ : ∃ W0, W0 = (((w.alloc (.cells #[.slice A r.ps.length a, .slice B r.cs.length b, .slice C r.js.length c] 26)).alloc (.cells #[.int .i64 x] 3)).alloc (.cells #[.int .i64 y] 3)).alloc (.cells #[.slice none 0 0, .slice none 0 0, .slice none 0 0] 26) := ⟨_, rfl⟩
  have hR0 : InR w W0 r A B C a b c := by rw [hW0]; exact (((InR.new w r A B C a b c).step (balloc _ _)).step (balloc _ _)).step (balloc _ _)
  have hK0 : Blk W0 (w.heap.size + 3) 26 #[.slice none 0 0, .slice none 0 0, .slice none 0 0] := by rw [hW0]; exact blk_at _ _ _ _ (by simp)
  have b0 := hR0.box.2 0 _ rfl
  have b1 := hR0.box.2 1 _ rfl
  have b2 := hR0.box.2 2 _ rfl
  have bs := hR0.box.1
  go_enter Try.func43, Try.ntmps43
  go_upto_region 1 with fail
  rw [← hW0]
  clear hW0
  go_wp2_with (go_at_call 48; refine (check_any r A B C a b c _ (hR0.rd h)).mono ?_; rintro e W1 ⟨rfl, hb1⟩; have hI1 := hR0.step hb1; have hK1 := hK0.below hb1 hK0.lt; have k0 := hK1.frozen 0; have k1 := hK1.frozen 1; have k2 := hK1.frozen 2; have e0 := hK1.cell 0; have e1 := hK1.cell 1; have e2 := hK1.cell 2; have kl := hK1.lt)
  have hK2 := ((hK1.set_ 0 (.slice none 0 0)).set_ 1 (.slice none 0 0)).set_ 2 (.slice none 0 0)
  have hB2 : Below w.heap.size w (((W1.setCell ⟨w.heap.size + 3, 0, none⟩ (.slice none 0 0)).setCell ⟨w.heap.size + 3, 1, none⟩ (.slice none 0 0)).setCell ⟨w.heap.size + 3, 2, none⟩ (.slice none 0 0)) := ((hI1.below.setCell (p := ⟨w.heap.size + 3, 0, none⟩) (by simp) _).setCell (p := ⟨w.heap.size + 3, 1, none⟩) (by simp) _).setCell (p := ⟨w.heap.size + 3, 2, none⟩) (by simp) _
  have r0 := hK2.cell 0
  have r1 := hK2.cell 1
  have r2 := hK2.cell 2
  have rl := hK2.lt
  refine bodyPost_ret (v := .tuple #[.agg #[.slice none 0 0, .slice none 0 0, .slice none 0 0], .int .i64 2]) ?_ rfl ⟨rfl, hB2⟩
  simp [results, Try.results43, go_sem, r0, r1, r2, rl]

set_option maxHeartbeats 1000000 in
theorem join_bad (r q : Road) (A B C A' B' C' : Option Addr) (a b c a' b' c' : Nat) (w : World) (h : RdRoad w r A B C) (hv : validB r = false) :
    Calls Try.prog 39 #[.agg #[.slice A r.ps.length a, .slice B r.cs.length b, .slice C r.js.length c], .agg #[.slice A' q.ps.length a', .slice B' q.cs.length b', .slice C' q.js.length c']] w fun e w' => e = .returned (.tuple #[.agg #[.slice none 0 0, .slice none 0 0, .slice none 0 0], .int .i64 2]) ∧ Below w.heap.size w w' := by
  have hE := checkE_false hv
  obtain ⟨W0, hW0⟩ : ∃ W0, W0 = ((w.alloc (.cells #[.slice A r.ps.length a, .slice B r.cs.length b, .slice C r.js.length c] 26)).alloc (.cells #[.slice A' q.ps.length a', .slice B' q.cs.length b', .slice C' q.js.length c'] 26)).alloc (.cells #[.slice none 0 0, .slice none 0 0, .slice none 0 0] 26) := ⟨_, rfl⟩
  have hR0 : InR w W0 r A B C a b c := by rw [hW0]; exact ((InR.new w r A B C a b c).step (balloc _ _)).step (balloc _ _)
  have hK0 : Blk W0 (w.heap.size + 2) 26 #[.slice none 0 0, .slice none 0 0, .slice none 0 0] := by rw [hW0]; exact blk_at _ _ _ _ (by simp)
  have b0 := hR0.box.2 0 _ rfl
  have b1 := hR0.box.2 1 _ rfl
  have b2 := hR0.box.2 2 _ rfl
  have bs := hR0.box.1
  go_enter Try.func39, Try.ntmps39
  go_upto_region 1 with fail
  rw [← hW0]
  clear hW0
  go_wp2_with (go_at_call 48; refine (check_any r A B C a b c _ (hR0.rd h)).mono ?_; rintro e W1 ⟨rfl, hb1⟩; have hI1 := hR0.step hb1; have hK1 := hK0.below hb1 hK0.lt; have k0 := hK1.frozen 0; have k1 := hK1.frozen 1; have k2 := hK1.frozen 2; have e0 := hK1.cell 0; have e1 := hK1.cell 1; have e2 := hK1.cell 2; have kl := hK1.lt)
  have hK2 := ((hK1.set_ 0 (.slice none 0 0)).set_ 1 (.slice none 0 0)).set_ 2 (.slice none 0 0)
  have hB2 : Below w.heap.size w (((W1.setCell ⟨w.heap.size + 2, 0, none⟩ (.slice none 0 0)).setCell ⟨w.heap.size + 2, 1, none⟩ (.slice none 0 0)).setCell ⟨w.heap.size + 2, 2, none⟩ (.slice none 0 0)) := ((hI1.below.setCell (p := ⟨w.heap.size + 2, 0, none⟩) (by simp) _).setCell (p := ⟨w.heap.size + 2, 1, none⟩) (by simp) _).setCell (p := ⟨w.heap.size + 2, 2, none⟩) (by simp) _
  have r0 := hK2.cell 0
  have r1 := hK2.cell 1
  have r2 := hK2.cell 2
  have rl := hK2.lt
  refine bodyPost_ret (v := .tuple #[.agg #[.slice none 0 0, .slice none 0 0, .slice none 0 0], .int .i64 2]) ?_ rfl ⟨rfl, hB2⟩
  simp [results, Try.results39, go_sem, r0, r1, r2, rl]

set_option maxHeartbeats 1000000 in
theorem surveys_bad (r q : Road) (A B C A' B' C' : Option Addr) (a b c a' b' c' : Nat) (w : World) (h : RdRoad w r A B C) (hv : validB r = false) :
    Calls Try.prog 71 #[.agg #[.slice A r.ps.length a, .slice B r.cs.length b, .slice C r.js.length c], .agg #[.slice A' q.ps.length a', .slice B' q.cs.length b', .slice C' q.js.length c']] w fun e w' => e = .returned (.tuple #[.pointer none, .pointer none, .int .i64 2]) ∧ Below w.heap.size w w' := by
  have hE := checkE_false hv
  obtain ⟨W0, hW0⟩ : ∃ W0, W0 = (w.alloc (.cells #[.slice A r.ps.length a, .slice B r.cs.length b, .slice C r.js.length c] 26)).alloc (.cells #[.slice A' q.ps.length a', .slice B' q.cs.length b', .slice C' q.js.length c'] 26) := ⟨_, rfl⟩
  have hR0 : InR w W0 r A B C a b c := by rw [hW0]; exact (InR.new w r A B C a b c).step (balloc _ _)
  have b0 := hR0.box.2 0 _ rfl
  have b1 := hR0.box.2 1 _ rfl
  have b2 := hR0.box.2 2 _ rfl
  have bs := hR0.box.1
  go_enter Try.func71, Try.ntmps71
  go_upto_region 1 with fail
  rw [← hW0]
  clear hW0
  go_wp2_with (go_at_call 48; refine (check_any r A B C a b c _ (hR0.rd h)).mono ?_; rintro e W1 ⟨rfl, hb1⟩; have hI1 := hR0.step hb1)
  go_ret3
  exact ⟨by simp [hE], hI1.below⟩

set_option maxHeartbeats 1000000 in
theorem compare_bad (r q : Road) (A B C A' B' C' : Option Addr) (a b c a' b' c' : Nat) (t : Int) (w : World) (h : RdRoad w r A B C) (hv : validB r = false) :
    Calls Try.prog 37 #[.agg #[.slice A r.ps.length a, .slice B r.cs.length b, .slice C r.js.length c], .agg #[.slice A' q.ps.length a', .slice B' q.cs.length b', .slice C' q.js.length c'], .int .i64 t] w fun e w' => e = .returned (.tuple #[.slice none 0 0, .int .i64 2]) ∧ Below w.heap.size w w' := by
  obtain ⟨W0, hW0⟩ : ∃ W0, W0 = ((w.alloc (.cells #[.slice A r.ps.length a, .slice B r.cs.length b, .slice C r.js.length c] 26)).alloc (.cells #[.slice A' q.ps.length a', .slice B' q.cs.length b', .slice C' q.js.length c'] 26)).alloc (.cells #[.int .i64 t] 3) := ⟨_, rfl⟩
  have hR0 : InR w W0 r A B C a b c := by rw [hW0]; exact ((InR.new w r A B C a b c).step (balloc _ _)).step (balloc _ _)
  have hJ0 : Blk W0 (w.heap.size + 1) 26 #[.slice A' q.ps.length a', .slice B' q.cs.length b', .slice C' q.js.length c'] := by rw [hW0]; exact (blk_at _ _ _ _ (by simp)).alloc _
  have b0 := hR0.box.2 0 _ rfl
  have b1 := hR0.box.2 1 _ rfl
  have b2 := hR0.box.2 2 _ rfl
  have bs := hR0.box.1
  have e0 := hJ0.cell 0
  have e1 := hJ0.cell 1
  have e2 := hJ0.cell 2
  have es := hJ0.lt
  go_enter Try.func37, Try.ntmps37
  go_upto_region 1 with fail
  rw [← hW0]
  clear hW0
  go_wp2_with (go_at_call 71; refine (surveys_bad r q A B C A' B' C' a b c a' b' c' _ (hR0.rd h) hv).mono ?_; rintro e W1 ⟨rfl, hb1⟩; have hI1 := hR0.step hb1)
  go_ret2
  exact ⟨rfl, hI1.below⟩

set_option maxHeartbeats 1000000 in
theorem safer_bad (r q : Road) (A B C A' B' C' : Option Addr) (a b c a' b' c' : Nat) (w : World) (h : RdRoad w r A B C) (hv : validB r = false) :
    Calls Try.prog 45 #[.agg #[.slice A r.ps.length a, .slice B r.cs.length b, .slice C r.js.length c], .agg #[.slice A' q.ps.length a', .slice B' q.cs.length b', .slice C' q.js.length c']] w fun e w' => e = .returned (.tuple #[.agg #[.slice none 0 0, .slice none 0 0, .slice none 0 0], .int .i64 2]) ∧ Below w.heap.size w w' := by
  obtain ⟨W0, hW0⟩ : ∃ W0, W0 = (((w.alloc (.cells #[.slice A r.ps.length a, .slice B r.cs.length b, .slice C r.js.length c] 26)).alloc (.cells #[.slice A' q.ps.length a', .slice B' q.cs.length b', .slice C' q.js.length c'] 26)).alloc (.cells #[.slice none 0 0, .slice none 0 0, .slice none 0 0] 26)).alloc (.cells #[.int .i64 0] 29) := ⟨_, rfl⟩
  have hR0 : InR w W0 r A B C a b c := by rw [hW0]; exact (((InR.new w r A B C a b c).step (balloc _ _)).step (balloc _ _)).step (balloc _ _)
  have hJ0 : Blk W0 (w.heap.size + 1) 26 #[.slice A' q.ps.length a', .slice B' q.cs.length b', .slice C' q.js.length c'] := by rw [hW0]; exact ((blk_at _ _ _ _ (by simp)).alloc _).alloc _
  have hK0 : Blk W0 (w.heap.size + 2) 26 #[.slice none 0 0, .slice none 0 0, .slice none 0 0] := by rw [hW0]; exact (blk_at _ _ _ _ (by simp)).alloc _
  have hL0 : Blk W0 (w.heap.size + 3) 29 #[.int .i64 0] := by rw [hW0]; exact blk_at _ _ _ _ (by simp)
  have b0 := hR0.box.2 0 _ rfl
  have b1 := hR0.box.2 1 _ rfl
  have b2 := hR0.box.2 2 _ rfl
  have bs := hR0.box.1
  have e0 := hJ0.cell 0
  have e1 := hJ0.cell 1
  have e2 := hJ0.cell 2
  have es := hJ0.lt
  go_enter Try.func45, Try.ntmps45
  go_upto_region 1 with fail
  rw [← hW0]
  clear hW0
  go_wp2_with (go_at_call 71; refine (surveys_bad r q A B C A' B' C' a b c a' b' c' _ (hR0.rd h) hv).mono ?_; rintro e W1 ⟨rfl, hb1⟩; have hI1 := hR0.step hb1; have hK1 := hK0.below hb1 hK0.lt; have hL1 := hL0.below hb1 hL0.lt; have k0 := hK1.frozen 0; have k1 := hK1.frozen 1; have k2 := hK1.frozen 2; have f0 := hK1.cell 0; have f1 := hK1.cell 1; have f2 := hK1.cell 2; have kl := hK1.lt; have g0 := hL1.frozen 0; have g1 := hL1.cell 0; have gl := hL1.lt)
  have hK2 := (((hK1.set_ 0 (.slice none 0 0)).set_ 1 (.slice none 0 0)).set_ 2 (.slice none 0 0)).far (p := ⟨w.heap.size + 3, 0, none⟩) (by simp) (.int .i64 2)
  have hL2 := (((hL1.far (p := ⟨w.heap.size + 2, 0, none⟩) (by simp) (.slice none 0 0)).far (p := ⟨w.heap.size + 2, 1, none⟩) (by simp) (.slice none 0 0)).far (p := ⟨w.heap.size + 2, 2, none⟩) (by simp) (.slice none 0 0)).set_ 0 (.int .i64 2)
  have hB2 : Below w.heap.size w ((((W1.setCell ⟨w.heap.size + 2, 0, none⟩ (.slice none 0 0)).setCell ⟨w.heap.size + 2, 1, none⟩ (.slice none 0 0)).setCell ⟨w.heap.size + 2, 2, none⟩ (.slice none 0 0)).setCell ⟨w.heap.size + 3, 0, none⟩ (.int .i64 2)) := (((hI1.below.setCell (p := ⟨w.heap.size + 2, 0, none⟩) (by simp) _).setCell (p := ⟨w.heap.size + 2, 1, none⟩) (by simp) _).setCell (p := ⟨w.heap.size + 2, 2, none⟩) (by simp) _).setCell (p := ⟨w.heap.size + 3, 0, none⟩) (by simp) _
  have r0 := hK2.cell 0
  have r1 := hK2.cell 1
  have r2 := hK2.cell 2
  have rl := hK2.lt
  have r3 := hL2.cell 0
  have rl3 := hL2.lt
  refine bodyPost_ret (v := .tuple #[.agg #[.slice none 0 0, .slice none 0 0, .slice none 0 0], .int .i64 2]) ?_ rfl ⟨rfl, hB2⟩
  simp [results, Try.results45, go_sem, r0, r1, r2, rl, r3, rl3]

end Go.Proofs.Ytbdjmaogbpdkpaa

import Derived.Test.YtbdjmaogbpdkpaaEx
/-
  The reference's Same, of two roads that are one.
-/
namespace Go.Proofs.Ytbdjmaogbpdkpaa
open Go Go.RowKit Go.Shelf
set_option linter.unusedVariables false
set_option linter.unusedSimpArgs false

set_option maxRecDepth 100000 in
set_option maxHeartbeats 4000000 in
theorem rsame_eq (r : Road) (A B C A' B' C' : Option Addr) (a b c a' b' c' : Nat) (w : World) (h : RdRoad w r A B C) (h' : RdRoad w r A' B' C') :
    Calls Try.prog 35 #[.agg #[.slice A r.ps.length a, .slice B r.cs.length b, .slice C r.js.length c], .agg #[.slice A' r.ps.length a', .slice B' r.cs.length b', .slice C' r.js.length c']] w fun e w' => e = .returned (.bool true) ∧ Below w.heap.size w w' := by
  have l0 := h.lp
  have l1 := h.lc
  have l2 := h.lj
  have hI0 : InR w ((w.alloc (.cells #[.slice A r.ps.length a, .slice B r.cs.length b, .slice C r.js.length c] 26)).alloc (.cells #[.slice A' r.ps.length a', .slice B' r.cs.length b', .slice C' r.js.length c'] 26)) r A B C a b c := (InR.new w r A B C a b c).step (balloc _ _)
  have hJ0 : Blk ((w.alloc (.cells #[.slice A r.ps.length a, .slice B r.cs.length b, .slice C r.js.length c] 26)).alloc (.cells #[.slice A' r.ps.length a', .slice B' r.cs.length b', .slice C' r.js.length c'] 26)) (w.heap.size + 1) 26 #[.slice A' r.ps.length a', .slice B' r.cs.length b', .slice C' r.js.length c'] := blk_at _ _ _ _ (by simp)
  have hr0 := hI0.rd h
  have hs0 := h'.below hI0.below
  go_enter Try.func35, Try.ntmps35
  obtain ⟨W0, hW0⟩ : ∃ W0, W0 = (w.alloc (.cells #[.slice A r.ps.length a, .slice B r.cs.length b, .slice C r.js.length c] 26)).alloc (.cells #[.slice A' r.ps.length a', .slice B' r.cs.length b', .slice C' r.js.length c'] 26) := ⟨_, rfl⟩
  go_wp2_with fail
  rw [← hW0] at hI0 hJ0 hr0 hs0 ⊢
  clear hW0
  have hB0 := hI0.below
  go_loopw [5] (fun i wr => ∃ k : Nat, k ≤ r.ps.length ∧ i = .int .i64 k ∧ Below W0.heap.size W0 wr) (fun i _ => r.ps.length - (intOf i).toNat)
  case atStart => exact ⟨0, Nat.zero_le _, rfl, Below.refl _ _⟩
  case round =>
    obtain ⟨k, hk, rfl, hW⟩ := hrel
    have hI := hI0.step hW
    have hJ := hJ0.below hW hJ0.lt
    have b0 := hI.box.2 0 _ rfl
    have b1 := hI.box.2 1 _ rfl
    have b2 := hI.box.2 2 _ rfl
    have bs := hI.box.1
    have e0 := hJ.cell 0
    have e1 := hJ.cell 1
    have e2 := hJ.cell 2
    by_cases hlt : k < r.ps.length
    · obtain ⟨p, hp⟩ := getElem?_ex hlt
      obtain ⟨ba, oa, q1, h1, c0, c1, c2, c3, c4⟩ := (hr0.p.below hW).at5 hp
      obtain ⟨bb, ob, q2, h2, d0, d1, d2, d3, d4⟩ := (hs0.p.below hW).at5 hp
      subst q1 q2
      clear hp
      have f1 : (k : Int) < r.ps.length := by omega
      have f2 : (0 : Int) ≤ (k : Int) := by omega
      go_wp2_with fail
      go_quiet (fail)
      go_wp2
      go_roundw
      case rel => exact ⟨k + 1, by omega, by go_num, bdrewN hW _⟩
      case measure => simp [intOf]; omega
    · go_wp2_with fail
      have hWp := hW
      clear hW hI hJ b0 b1 b2 bs e0 e1 e2 hlt hk
      go_loopw [6] (fun i wr => ∃ k : Nat, k ≤ r.cs.length ∧ i = .int .i64 k ∧ Below W0.heap.size W0 wr) (fun i _ => r.cs.length - (intOf i).toNat)
      case atStart => exact ⟨0, Nat.zero_le _, rfl, hWp⟩
      case round =>
        obtain ⟨k, hk, rfl, hW⟩ := hrel
        have hI := hI0.step hW
        have hJ := hJ0.below hW hJ0.lt
        have b0 := hI.box.2 0 _ rfl
        have b1 := hI.box.2 1 _ rfl
        have b2 := hI.box.2 2 _ rfl
        have bs := hI.box.1
        have e0 := hJ.cell 0
        have e1 := hJ.cell 1
        have e2 := hJ.cell 2
        by_cases hlt : k < r.cs.length
        · obtain ⟨p, hp⟩ := getElem?_ex hlt
          obtain ⟨ba, oa, q1, h1, c0, c1⟩ := (hr0.c.below hW).at2 hp
          obtain ⟨bb, ob, q2, h2, d0, d1⟩ := (hs0.c.below hW).at2 hp
          subst q1 q2
          clear hp
          have f1 : (k : Int) < r.cs.length := by omega
          have f2 : (0 : Int) ≤ (k : Int) := by omega
          go_wp2_with fail
          go_quiet (fail)
          go_wp2
          go_roundw
          case rel => exact ⟨k + 1, by omega, by go_num, bdrewN hW _⟩
          case measure => simp [intOf]; omega
        · go_wp2_with fail
          have hWp := hW
          clear hW hI hJ b0 b1 b2 bs e0 e1 e2 hlt hk
          go_loopw [7] (fun i wr => ∃ k : Nat, k ≤ r.js.length ∧ i = .int .i64 k ∧ Below W0.heap.size W0 wr) (fun i _ => r.js.length - (intOf i).toNat)
          case atStart => exact ⟨0, Nat.zero_le _, rfl, hWp⟩
          case round =>
            obtain ⟨k, hk, rfl, hW⟩ := hrel
            have hI := hI0.step hW
            have hJ := hJ0.below hW hJ0.lt
            have b0 := hI.box.2 0 _ rfl
            have b1 := hI.box.2 1 _ rfl
            have b2 := hI.box.2 2 _ rfl
            have bs := hI.box.1
            have e0 := hJ.cell 0
            have e1 := hJ.cell 1
            have e2 := hJ.cell 2
            by_cases hlt : k < r.js.length
            · obtain ⟨p, hp⟩ := getElem?_ex hlt
              obtain ⟨ba, oa, q1, h1, c0, c1, c2⟩ := (hr0.j.below hW).at3 hp
              obtain ⟨bb, ob, q2, h2, d0, d1, d2⟩ := (hs0.j.below hW).at3 hp
              subst q1 q2
              clear hp
              have f1 : (k : Int) < r.js.length := by omega
              have f2 : (0 : Int) ≤ (k : Int) := by omega
              go_wp2_with fail
              go_quiet (fail)
              go_wp2
              go_roundw
              case rel => exact ⟨k + 1, by omega, by go_num, bdrewN hW _⟩
              case measure => simp [intOf]; omega
            · go_wp2_with fail
              go_ret
              exact ⟨rfl, hB0.trans (hW.mono hB0.size)⟩

end Go.Proofs.Ytbdjmaogbpdkpaa

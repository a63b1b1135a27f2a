import Derived.Test.YtbdjmaogbpdkpaaKnown
import Derived.Test.YtbdjmaogbpdkpaaRCmp
/-
  The law RoadDiffers, walked: it answers true.
-/
namespace Go.Proofs.Ytbdjmaogbpdkpaa
open Go Go.RowKit Go.Shelf
set_option linter.unusedVariables false
set_option linter.unusedSimpArgs false
attribute [local go_sem] Later.cell Later.cell1 Later.new1 Later.frozen Later.frozen1

theorem cmpL_len (tol : Int) (r q : Road) (hv : VR r) : (cmpL tol r.ps q.ps).length ≤ 100000 := by
  have h1 := unitF_len tol r.ps q.ps (lenSum r.ps).toNat 0 []
  have h2 := hv.ln
  unfold cmpL
  rw [List.length_nil] at h1
  omega

set_option maxRecDepth 100000 in
set_option maxHeartbeats 16000000 in
theorem differslaw_any (r : Road) (A B C : Option Addr) (a b c : Nat) (q : Road) (A' B' C' : Option Addr) (a' b' c' : Nat) (tol : Int) (w : World) (h : RdRoad w r A B C) (h' : RdRoad w q A' B' C') :
    Calls Try.prog 11 #[.agg #[.slice A r.ps.length a, .slice B r.cs.length b, .slice C r.js.length c], .agg #[.slice A' q.ps.length a', .slice B' q.cs.length b', .slice C' q.js.length c'], .int .i64 tol] w fun e w' => e = .returned (.bool true) ∧ Below w.heap.size w w' := by
  have hR0 : InR w ((w.alloc (.cells #[.slice A r.ps.length a, .slice B r.cs.length b, .slice C r.js.length c] 26)).alloc (.cells #[.slice A' q.ps.length a', .slice B' q.cs.length b', .slice C' q.js.length c'] 26)) r A B C a b c := (InR.new w r A B C a b c).step (balloc _ _)
  have hJ0 : Blk ((w.alloc (.cells #[.slice A r.ps.length a, .slice B r.cs.length b, .slice C r.js.length c] 26)).alloc (.cells #[.slice A' q.ps.length a', .slice B' q.cs.length b', .slice C' q.js.length c'] 26)) (w.heap.size + 1) 26 #[.slice A' q.ps.length a', .slice B' q.cs.length b', .slice C' q.js.length c'] := blk_at _ _ _ _ (by simp)
  cases hs : smallB r
  · go_enter Try.func11, Try.ntmps11
    go_wp2_with fail
    refine (small_any r A B C a b c _ (hR0.rd h)).mono ?_
    rintro e W1 ⟨rfl, hb1⟩
    have hI1 := hR0.step hb1
    have hJ1 := hJ0.below hb1 hJ0.lt
    have b0 := hI1.box.2 0 _ rfl
    have b1 := hI1.box.2 1 _ rfl
    have b2 := hI1.box.2 2 _ rfl
    have bs := hI1.box.1
    have e0 := hJ1.cell 0
    have e1 := hJ1.cell 1
    have e2 := hJ1.cell 2
    have es := hJ1.lt
    go_wp2_with fail
    refine (known_any _).mono ?_
    rintro e W2 ⟨rfl, hb2⟩
    have hI2 := hI1.step hb2
    have hJ2 := hJ1.below hb2 hJ1.lt
    clear b0 b1 b2 bs e0 e1 e2 es
    have b0 := hI2.box.2 0 _ rfl
    have b1 := hI2.box.2 1 _ rfl
    have b2 := hI2.box.2 2 _ rfl
    have bs := hI2.box.1
    have e0 := hJ2.cell 0
    have e1 := hJ2.cell 1
    have e2 := hJ2.cell 2
    have es := hJ2.lt
    go_wp2_with fail
    go_ret
    exact ⟨rfl, hI2.below⟩
  cases hs' : smallB q
  · go_enter Try.func11, Try.ntmps11
    go_wp2_with fail
    refine (small_any r A B C a b c _ (hR0.rd h)).mono ?_
    rintro e W1 ⟨rfl, hb1⟩
    have hI1 := hR0.step hb1
    have hJ1 := hJ0.below hb1 hJ0.lt
    have b0 := hI1.box.2 0 _ rfl
    have b1 := hI1.box.2 1 _ rfl
    have b2 := hI1.box.2 2 _ rfl
    have bs := hI1.box.1
    have e0 := hJ1.cell 0
    have e1 := hJ1.cell 1
    have e2 := hJ1.cell 2
    have es := hJ1.lt
    go_wp2_with fail
    refine (small_any q A' B' C' a' b' c' _ (h'.below hI1.below)).mono ?_
    rintro e W2 ⟨rfl, hb2⟩
    have hI2 := hI1.step hb2
    have hJ2 := hJ1.below hb2 hJ1.lt
    clear b0 b1 b2 bs e0 e1 e2 es
    have b0 := hI2.box.2 0 _ rfl
    have b1 := hI2.box.2 1 _ rfl
    have b2 := hI2.box.2 2 _ rfl
    have bs := hI2.box.1
    have e0 := hJ2.cell 0
    have e1 := hJ2.cell 1
    have e2 := hJ2.cell 2
    have es := hJ2.lt
    go_wp2_with fail
    refine (known_any _).mono ?_
    rintro e W3 ⟨rfl, hb3⟩
    have hI3 := hI2.step hb3
    have hJ3 := hJ2.below hb3 hJ2.lt
    clear b0 b1 b2 bs e0 e1 e2 es
    have b0 := hI3.box.2 0 _ rfl
    have b1 := hI3.box.2 1 _ rfl
    have b2 := hI3.box.2 2 _ rfl
    have bs := hI3.box.1
    have e0 := hJ3.cell 0
    have e1 := hJ3.cell 1
    have e2 := hJ3.cell 2
    have es := hJ3.lt
    go_wp2_with fail
    go_ret
    exact ⟨rfl, hI3.below⟩
  cases hv : validB r
  · go_enter Try.func11, Try.ntmps11
    go_wp2_with fail
    refine (small_any r A B C a b c _ (hR0.rd h)).mono ?_
    rintro e W1 ⟨rfl, hb1⟩
    have hI1 := hR0.step hb1
    have hJ1 := hJ0.below hb1 hJ0.lt
    have b0 := hI1.box.2 0 _ rfl
    have b1 := hI1.box.2 1 _ rfl
    have b2 := hI1.box.2 2 _ rfl
    have bs := hI1.box.1
    have e0 := hJ1.cell 0
    have e1 := hJ1.cell 1
    have e2 := hJ1.cell 2
    have es := hJ1.lt
    go_wp2_with fail
    refine (small_any q A' B' C' a' b' c' _ (h'.below hI1.below)).mono ?_
    rintro e W2 ⟨rfl, hb2⟩
    have hI2 := hI1.step hb2
    have hJ2 := hJ1.below hb2 hJ1.lt
    clear b0 b1 b2 bs e0 e1 e2 es
    have b0 := hI2.box.2 0 _ rfl
    have b1 := hI2.box.2 1 _ rfl
    have b2 := hI2.box.2 2 _ rfl
    have bs := hI2.box.1
    have e0 := hJ2.cell 0
    have e1 := hJ2.cell 1
    have e2 := hJ2.cell 2
    have es := hJ2.lt
    go_wp2_with fail
    refine (rvalid_any r A B C a b c _ (hI2.rd h)).mono ?_
    rintro e W3 ⟨rfl, hb3⟩
    have hI3 := hI2.step hb3
    have hJ3 := hJ2.below hb3 hJ2.lt
    clear b0 b1 b2 bs e0 e1 e2 es
    have b0 := hI3.box.2 0 _ rfl
    have b1 := hI3.box.2 1 _ rfl
    have b2 := hI3.box.2 2 _ rfl
    have bs := hI3.box.1
    have e0 := hJ3.cell 0
    have e1 := hJ3.cell 1
    have e2 := hJ3.cell 2
    have es := hJ3.lt
    go_wp2_with fail
    refine (known_any _).mono ?_
    rintro e W4 ⟨rfl, hb4⟩
    have hI4 := hI3.step hb4
    have hJ4 := hJ3.below hb4 hJ3.lt
    clear b0 b1 b2 bs e0 e1 e2 es
    have b0 := hI4.box.2 0 _ rfl
    have b1 := hI4.box.2 1 _ rfl
    have b2 := hI4.box.2 2 _ rfl
    have bs := hI4.box.1
    have e0 := hJ4.cell 0
    have e1 := hJ4.cell 1
    have e2 := hJ4.cell 2
    have es := hJ4.lt
    go_wp2_with fail
    go_ret
    exact ⟨rfl, hI4.below⟩
  cases hv' : validB q
  · go_enter Try.func11, Try.ntmps11
    go_wp2_with fail
    refine (small_any r A B C a b c _ (hR0.rd h)).mono ?_
    rintro e W1 ⟨rfl, hb1⟩
    have hI1 := hR0.step hb1
    have hJ1 := hJ0.below hb1 hJ0.lt
    have b0 := hI1.box.2 0 _ rfl
    have b1 := hI1.box.2 1 _ rfl
    have b2 := hI1.box.2 2 _ rfl
    have bs := hI1.box.1
    have e0 := hJ1.cell 0
    have e1 := hJ1.cell 1
    have e2 := hJ1.cell 2
    have es := hJ1.lt
    go_wp2_with fail
    refine (small_any q A' B' C' a' b' c' _ (h'.below hI1.below)).mono ?_
    rintro e W2 ⟨rfl, hb2⟩
    have hI2 := hI1.step hb2
    have hJ2 := hJ1.below hb2 hJ1.lt
    clear b0 b1 b2 bs e0 e1 e2 es
    have b0 := hI2.box.2 0 _ rfl
    have b1 := hI2.box.2 1 _ rfl
    have b2 := hI2.box.2 2 _ rfl
    have bs := hI2.box.1
    have e0 := hJ2.cell 0
    have e1 := hJ2.cell 1
    have e2 := hJ2.cell 2
    have es := hJ2.lt
    go_wp2_with fail
    refine (rvalid_any r A B C a b c _ (hI2.rd h)).mono ?_
    rintro e W3 ⟨rfl, hb3⟩
    have hI3 := hI2.step hb3
    have hJ3 := hJ2.below hb3 hJ2.lt
    clear b0 b1 b2 bs e0 e1 e2 es
    have b0 := hI3.box.2 0 _ rfl
    have b1 := hI3.box.2 1 _ rfl
    have b2 := hI3.box.2 2 _ rfl
    have bs := hI3.box.1
    have e0 := hJ3.cell 0
    have e1 := hJ3.cell 1
    have e2 := hJ3.cell 2
    have es := hJ3.lt
    go_wp2_with fail
    refine (rvalid_any q A' B' C' a' b' c' _ (h'.below hI3.below)).mono ?_
    rintro e W4 ⟨rfl, hb4⟩
    have hI4 := hI3.step hb4
    have hJ4 := hJ3.below hb4 hJ3.lt
    clear b0 b1 b2 bs e0 e1 e2 es
    have b0 := hI4.box.2 0 _ rfl
    have b1 := hI4.box.2 1 _ rfl
    have b2 := hI4.box.2 2 _ rfl
    have bs := hI4.box.1
    have e0 := hJ4.cell 0
    have e1 := hJ4.cell 1
    have e2 := hJ4.cell 2
    have es := hJ4.lt
    go_wp2_with fail
    refine (known_any _).mono ?_
    rintro e W5 ⟨rfl, hb5⟩
    have hI5 := hI4.step hb5
    have hJ5 := hJ4.below hb5 hJ4.lt
    clear b0 b1 b2 bs e0 e1 e2 es
    have b0 := hI5.box.2 0 _ rfl
    have b1 := hI5.box.2 1 _ rfl
    have b2 := hI5.box.2 2 _ rfl
    have bs := hI5.box.1
    have e0 := hJ5.cell 0
    have e1 := hJ5.cell 1
    have e2 := hJ5.cell 2
    have es := hJ5.lt
    go_wp2_with fail
    go_ret
    exact ⟨rfl, hI5.below⟩
  have hVr := VR.of hv
  have hVq := VR.of hv'
  have l1 := hVr.lp
  have l4 := hVq.lp
  have HV := Lib.hid hv
  have HV' := Lib.hid hv'
  have HLB : Hid (lensOk r.ps 100000) := Lib.hid (fun p hp => ⟨(hVr.ok.lens p hp).1, by have := (hVr.ok.lens p hp).2; omega⟩)
  have HLQ : Hid (lensOk q.ps 100000) := Lib.hid (fun p hp => ⟨(hVq.ok.lens p hp).1, by have := (hVq.ok.lens p hp).2; omega⟩)
  by_cases o1 : lenSum r.ps = lenSum q.ps
  case neg =>
    have HO : Hid (lenSum r.ps ≠ lenSum q.ps ∨ inB tol 0 2000 = false) := Lib.hid (.inl o1)
    have o1' : (lenSum r.ps != lenSum q.ps) = true := by simpa using o1
    go_enter Try.func11, Try.ntmps11
    go_wp2_with fail
    refine (small_any r A B C a b c _ (hR0.rd h)).mono ?_
    rintro e W1 ⟨rfl, hb1⟩
    have hI1 := hR0.step hb1
    have hJ1 := hJ0.below hb1 hJ0.lt
    have b0 := hI1.box.2 0 _ rfl
    have b1 := hI1.box.2 1 _ rfl
    have b2 := hI1.box.2 2 _ rfl
    have bs := hI1.box.1
    have e0 := hJ1.cell 0
    have e1 := hJ1.cell 1
    have e2 := hJ1.cell 2
    have es := hJ1.lt
    go_wp2_with fail
    refine (small_any q A' B' C' a' b' c' _ (h'.below hI1.below)).mono ?_
    rintro e W2 ⟨rfl, hb2⟩
    have hI2 := hI1.step hb2
    have hJ2 := hJ1.below hb2 hJ1.lt
    clear b0 b1 b2 bs e0 e1 e2 es
    have b0 := hI2.box.2 0 _ rfl
    have b1 := hI2.box.2 1 _ rfl
    have b2 := hI2.box.2 2 _ rfl
    have bs := hI2.box.1
    have e0 := hJ2.cell 0
    have e1 := hJ2.cell 1
    have e2 := hJ2.cell 2
    have es := hJ2.lt
    go_wp2_with fail
    refine (rvalid_any r A B C a b c _ (hI2.rd h)).mono ?_
    rintro e W3 ⟨rfl, hb3⟩
    have hI3 := hI2.step hb3
    have hJ3 := hJ2.below hb3 hJ2.lt
    clear b0 b1 b2 bs e0 e1 e2 es
    have b0 := hI3.box.2 0 _ rfl
    have b1 := hI3.box.2 1 _ rfl
    have b2 := hI3.box.2 2 _ rfl
    have bs := hI3.box.1
    have e0 := hJ3.cell 0
    have e1 := hJ3.cell 1
    have e2 := hJ3.cell 2
    have es := hJ3.lt
    go_wp2_with fail
    refine (rvalid_any q A' B' C' a' b' c' _ (h'.below hI3.below)).mono ?_
    rintro e W4 ⟨rfl, hb4⟩
    have hI4 := hI3.step hb4
    have hJ4 := hJ3.below hb4 hJ3.lt
    clear b0 b1 b2 bs e0 e1 e2 es
    have b0 := hI4.box.2 0 _ rfl
    have b1 := hI4.box.2 1 _ rfl
    have b2 := hI4.box.2 2 _ rfl
    have bs := hI4.box.1
    have e0 := hJ4.cell 0
    have e1 := hJ4.cell 1
    have e2 := hJ4.cell 2
    have es := hJ4.lt
    go_wp2_with fail
    refine (Compare_out r q A B C A' B' C' a b c a' b' c' tol _ (hI4.rd h) (h'.below hI4.below) HV.out HV'.out HO.out).mono ?_
    rintro e W5 ⟨rfl, hb5⟩
    have hI5 := hI4.step hb5
    have hJ5 := hJ4.below hb5 hJ4.lt
    clear b0 b1 b2 bs e0 e1 e2 es
    have b0 := hI5.box.2 0 _ rfl
    have b1 := hI5.box.2 1 _ rfl
    have b2 := hI5.box.2 2 _ rfl
    have bs := hI5.box.1
    have e0 := hJ5.cell 0
    have e1 := hJ5.cell 1
    have e2 := hJ5.cell 2
    have es := hJ5.lt
    go_upto_region 4 with fail
    have hrd := hI5.rd h
    have hqd := h'.below hI5.below
    refine Mk4.wp_region_mk_tail 8 (fun j => match j with | 1 => some (IsV5 (.int .i64 (lenSum r.ps))) | 3 => some (IsV5 (.int .i64 (lenSum q.ps))) | _ => none) (fun j => match j with | _ => []) (by kernel_rfl) (by kernel_rfl) (by kernel_rfl) ?hmk ?_
    case hmk =>
      intro j S hS v
      split at hS <;> first | (injection hS with hS; subst hS; exact stays_isv5 _ _) | cases hS
    simp only [List.take_succ_cons, List.take_zero, List.drop_succ_cons, List.drop_zero]
    refine Mk4.wpM_reads [_] (_ :: _) _ _ _ (by kernel_rfl) (by intro j hj; rcases (show j = 0 by simp at hj; omega) with rfl; exact ⟨rfl, rfl⟩) ?_
    repeat (go_big_quiet_step (fail))
    refine wpQuiet_nil ?_
    refine Mk4.wpM_make rfl rfl rfl ?_ ?_
    · intro x hx _
      unfold Mk4.makesAt
      go_simp
      exact (rlength_any r A B C a b c x (hrd.below hx) HLB.out (by omega)).mono fun e w' ⟨he, hb⟩ => ⟨_, he, rfl, (fun _ e => by cases e), hb⟩
    rintro v ⟨_, x, hx, ⟨_, hv1, _⟩, _⟩
    obtain rfl : v = _ := hv1
    go_simp
    refine Mk4.wpM_reads [_] (_ :: _) _ _ _ (by kernel_rfl) (by intro j hj; rcases (show j = 0 by simp at hj; omega) with rfl; exact ⟨rfl, rfl⟩) ?_
    repeat (go_big_quiet_step (fail))
    refine wpQuiet_nil ?_
    refine Mk4.wpM_make rfl rfl rfl ?_ ?_
    · intro x hx _
      unfold Mk4.makesAt
      go_simp
      exact (rlength_any q A' B' C' a' b' c' x (hqd.below hx) HLQ.out (by omega)).mono fun e w' ⟨he, hb⟩ => ⟨_, he, rfl, (fun _ e => by cases e), hb⟩
    rintro v ⟨_, x', hx', ⟨_, hv1, _⟩, _⟩
    obtain rfl : v = _ := hv1
    go_simp
    refine Mk4.wpM_reads [_, _, _, _] [] _ _ _ (by kernel_rfl) (by intro j hj; rcases (show j = 0 ∨ j = 1 ∨ j = 2 ∨ j = 3 by simp at hj; omega) with rfl | rfl | rfl | rfl <;> exact ⟨rfl, rfl⟩) ?_
    repeat (go_big_quiet_step (fail))
    refine wpQuiet_nil ?_
    refine Mk4.wpM_nil ?_
    rintro W6 hb6 ⟨⟨_, _, _⟩, _, _⟩
    have hI6 := hI5.step hb6
    have hJ6 := hJ5.below hb6 hJ5.lt
    clear b0 b1 b2 bs e0 e1 e2 es
    have b0 := hI6.box.2 0 _ rfl
    have b1 := hI6.box.2 1 _ rfl
    have b2 := hI6.box.2 2 _ rfl
    have bs := hI6.box.1
    have e0 := hJ6.cell 0
    have e1 := hJ6.cell 1
    have e2 := hJ6.cell 2
    have es := hJ6.lt
    go_wp2_with fail
    refine (known_any _).mono ?_
    rintro e W7 ⟨rfl, hb7⟩
    have hI7 := hI6.step hb7
    have hJ7 := hJ6.below hb7 hJ6.lt
    clear b0 b1 b2 bs e0 e1 e2 es
    have b0 := hI7.box.2 0 _ rfl
    have b1 := hI7.box.2 1 _ rfl
    have b2 := hI7.box.2 2 _ rfl
    have bs := hI7.box.1
    have e0 := hJ7.cell 0
    have e1 := hJ7.cell 1
    have e2 := hJ7.cell 2
    have es := hJ7.lt
    go_wp2_with fail
    go_ret
    exact ⟨rfl, hI7.below⟩
  have o1' : (lenSum r.ps != lenSum q.ps) = false := by simpa using o1
  have HL := Lib.hid o1
  clear o1
  by_cases o2 : 0 ≤ tol
  case neg =>
    have HO : Hid (lenSum r.ps ≠ lenSum q.ps ∨ inB tol 0 2000 = false) := Lib.hid (.inr (by simp [inB]; omega))
    have o2' : decide (tol < 0) = true := by rw [decide_eq_true_eq]; omega
    go_enter Try.func11, Try.ntmps11
    go_wp2_with fail
    refine (small_any r A B C a b c _ (hR0.rd h)).mono ?_
    rintro e W1 ⟨rfl, hb1⟩
    have hI1 := hR0.step hb1
    have hJ1 := hJ0.below hb1 hJ0.lt
    have b0 := hI1.box.2 0 _ rfl
    have b1 := hI1.box.2 1 _ rfl
    have b2 := hI1.box.2 2 _ rfl
    have bs := hI1.box.1
    have e0 := hJ1.cell 0
    have e1 := hJ1.cell 1
    have e2 := hJ1.cell 2
    have es := hJ1.lt
    go_wp2_with fail
    refine (small_any q A' B' C' a' b' c' _ (h'.below hI1.below)).mono ?_
    rintro e W2 ⟨rfl, hb2⟩
    have hI2 := hI1.step hb2
    have hJ2 := hJ1.below hb2 hJ1.lt
    clear b0 b1 b2 bs e0 e1 e2 es
    have b0 := hI2.box.2 0 _ rfl
    have b1 := hI2.box.2 1 _ rfl
    have b2 := hI2.box.2 2 _ rfl
    have bs := hI2.box.1
    have e0 := hJ2.cell 0
    have e1 := hJ2.cell 1
    have e2 := hJ2.cell 2
    have es := hJ2.lt
    go_wp2_with fail
    refine (rvalid_any r A B C a b c _ (hI2.rd h)).mono ?_
    rintro e W3 ⟨rfl, hb3⟩
    have hI3 := hI2.step hb3
    have hJ3 := hJ2.below hb3 hJ2.lt
    clear b0 b1 b2 bs e0 e1 e2 es
    have b0 := hI3.box.2 0 _ rfl
    have b1 := hI3.box.2 1 _ rfl
    have b2 := hI3.box.2 2 _ rfl
    have bs := hI3.box.1
    have e0 := hJ3.cell 0
    have e1 := hJ3.cell 1
    have e2 := hJ3.cell 2
    have es := hJ3.lt
    go_wp2_with fail
    refine (rvalid_any q A' B' C' a' b' c' _ (h'.below hI3.below)).mono ?_
    rintro e W4 ⟨rfl, hb4⟩
    have hI4 := hI3.step hb4
    have hJ4 := hJ3.below hb4 hJ3.lt
    clear b0 b1 b2 bs e0 e1 e2 es
    have b0 := hI4.box.2 0 _ rfl
    have b1 := hI4.box.2 1 _ rfl
    have b2 := hI4.box.2 2 _ rfl
    have bs := hI4.box.1
    have e0 := hJ4.cell 0
    have e1 := hJ4.cell 1
    have e2 := hJ4.cell 2
    have es := hJ4.lt
    go_wp2_with fail
    refine (Compare_out r q A B C A' B' C' a b c a' b' c' tol _ (hI4.rd h) (h'.below hI4.below) HV.out HV'.out HO.out).mono ?_
    rintro e W5 ⟨rfl, hb5⟩
    have hI5 := hI4.step hb5
    have hJ5 := hJ4.below hb5 hJ4.lt
    clear b0 b1 b2 bs e0 e1 e2 es
    have b0 := hI5.box.2 0 _ rfl
    have b1 := hI5.box.2 1 _ rfl
    have b2 := hI5.box.2 2 _ rfl
    have bs := hI5.box.1
    have e0 := hJ5.cell 0
    have e1 := hJ5.cell 1
    have e2 := hJ5.cell 2
    have es := hJ5.lt
    go_upto_region 4 with fail
    have hrd := hI5.rd h
    have hqd := h'.below hI5.below
    refine Mk4.wp_region_mk_tail 8 (fun j => match j with | 1 => some (IsV5 (.int .i64 (lenSum r.ps))) | 3 => some (IsV5 (.int .i64 (lenSum q.ps))) | _ => none) (fun j => match j with | _ => []) (by kernel_rfl) (by kernel_rfl) (by kernel_rfl) ?hmk ?_
    case hmk =>
      intro j S hS v
      split at hS <;> first | (injection hS with hS; subst hS; exact stays_isv5 _ _) | cases hS
    simp only [List.take_succ_cons, List.take_zero, List.drop_succ_cons, List.drop_zero]
    refine Mk4.wpM_reads [_] (_ :: _) _ _ _ (by kernel_rfl) (by intro j hj; rcases (show j = 0 by simp at hj; omega) with rfl; exact ⟨rfl, rfl⟩) ?_
    repeat (go_big_quiet_step (fail))
    refine wpQuiet_nil ?_
    refine Mk4.wpM_make rfl rfl rfl ?_ ?_
    · intro x hx _
      unfold Mk4.makesAt
      go_simp
      exact (rlength_any r A B C a b c x (hrd.below hx) HLB.out (by omega)).mono fun e w' ⟨he, hb⟩ => ⟨_, he, rfl, (fun _ e => by cases e), hb⟩
    rintro v ⟨_, x, hx, ⟨_, hv1, _⟩, _⟩
    obtain rfl : v = _ := hv1
    go_simp
    refine Mk4.wpM_reads [_] (_ :: _) _ _ _ (by kernel_rfl) (by intro j hj; rcases (show j = 0 by simp at hj; omega) with rfl; exact ⟨rfl, rfl⟩) ?_
    repeat (go_big_quiet_step (fail))
    refine wpQuiet_nil ?_
    refine Mk4.wpM_make rfl rfl rfl ?_ ?_
    · intro x hx _
      unfold Mk4.makesAt
      go_simp
      exact (rlength_any q A' B' C' a' b' c' x (hqd.below hx) HLQ.out (by omega)).mono fun e w' ⟨he, hb⟩ => ⟨_, he, rfl, (fun _ e => by cases e), hb⟩
    rintro v ⟨_, x', hx', ⟨_, hv1, _⟩, _⟩
    obtain rfl : v = _ := hv1
    go_simp
    refine Mk4.wpM_reads [_, _, _, _] [] _ _ _ (by kernel_rfl) (by intro j hj; rcases (show j = 0 ∨ j = 1 ∨ j = 2 ∨ j = 3 by simp at hj; omega) with rfl | rfl | rfl | rfl <;> exact ⟨rfl, rfl⟩) ?_
    repeat (go_big_quiet_step (fail))
    refine wpQuiet_nil ?_
    refine Mk4.wpM_nil ?_
    rintro W6 hb6 ⟨⟨_, _, _⟩, _, _⟩
    have hI6 := hI5.step hb6
    have hJ6 := hJ5.below hb6 hJ5.lt
    clear b0 b1 b2 bs e0 e1 e2 es
    have b0 := hI6.box.2 0 _ rfl
    have b1 := hI6.box.2 1 _ rfl
    have b2 := hI6.box.2 2 _ rfl
    have bs := hI6.box.1
    have e0 := hJ6.cell 0
    have e1 := hJ6.cell 1
    have e2 := hJ6.cell 2
    have es := hJ6.lt
    go_wp2_with fail
    refine (known_any _).mono ?_
    rintro e W7 ⟨rfl, hb7⟩
    have hI7 := hI6.step hb7
    have hJ7 := hJ6.below hb7 hJ6.lt
    clear b0 b1 b2 bs e0 e1 e2 es
    have b0 := hI7.box.2 0 _ rfl
    have b1 := hI7.box.2 1 _ rfl
    have b2 := hI7.box.2 2 _ rfl
    have bs := hI7.box.1
    have e0 := hJ7.cell 0
    have e1 := hJ7.cell 1
    have e2 := hJ7.cell 2
    have es := hJ7.lt
    go_wp2_with fail
    go_ret
    exact ⟨rfl, hI7.below⟩
  by_cases o3 : tol ≤ 2000
  case neg =>
    have HO : Hid (lenSum r.ps ≠ lenSum q.ps ∨ inB tol 0 2000 = false) := Lib.hid (.inr (by simp [inB]; omega))
    have o2' : decide (tol < 0) = false := by rw [decide_eq_false_iff_not]; omega
    have o3' : decide (2000 < tol) = true := by rw [decide_eq_true_eq]; omega
    go_enter Try.func11, Try.ntmps11
    go_wp2_with fail
    refine (small_any r A B C a b c _ (hR0.rd h)).mono ?_
    rintro e W1 ⟨rfl, hb1⟩
    have hI1 := hR0.step hb1
    have hJ1 := hJ0.below hb1 hJ0.lt
    have b0 := hI1.box.2 0 _ rfl
    have b1 := hI1.box.2 1 _ rfl
    have b2 := hI1.box.2 2 _ rfl
    have bs := hI1.box.1
    have e0 := hJ1.cell 0
    have e1 := hJ1.cell 1
    have e2 := hJ1.cell 2
    have es := hJ1.lt
    go_wp2_with fail
    refine (small_any q A' B' C' a' b' c' _ (h'.below hI1.below)).mono ?_
    rintro e W2 ⟨rfl, hb2⟩
    have hI2 := hI1.step hb2
    have hJ2 := hJ1.below hb2 hJ1.lt
    clear b0 b1 b2 bs e0 e1 e2 es
    have b0 := hI2.box.2 0 _ rfl
    have b1 := hI2.box.2 1 _ rfl
    have b2 := hI2.box.2 2 _ rfl
    have bs := hI2.box.1
    have e0 := hJ2.cell 0
    have e1 := hJ2.cell 1
    have e2 := hJ2.cell 2
    have es := hJ2.lt
    go_wp2_with fail
    refine (rvalid_any r A B C a b c _ (hI2.rd h)).mono ?_
    rintro e W3 ⟨rfl, hb3⟩
    have hI3 := hI2.step hb3
    have hJ3 := hJ2.below hb3 hJ2.lt
    clear b0 b1 b2 bs e0 e1 e2 es
    have b0 := hI3.box.2 0 _ rfl
    have b1 := hI3.box.2 1 _ rfl
    have b2 := hI3.box.2 2 _ rfl
    have bs := hI3.box.1
    have e0 := hJ3.cell 0
    have e1 := hJ3.cell 1
    have e2 := hJ3.cell 2
    have es := hJ3.lt
    go_wp2_with fail
    refine (rvalid_any q A' B' C' a' b' c' _ (h'.below hI3.below)).mono ?_
    rintro e W4 ⟨rfl, hb4⟩
    have hI4 := hI3.step hb4
    have hJ4 := hJ3.below hb4 hJ3.lt
    clear b0 b1 b2 bs e0 e1 e2 es
    have b0 := hI4.box.2 0 _ rfl
    have b1 := hI4.box.2 1 _ rfl
    have b2 := hI4.box.2 2 _ rfl
    have bs := hI4.box.1
    have e0 := hJ4.cell 0
    have e1 := hJ4.cell 1
    have e2 := hJ4.cell 2
    have es := hJ4.lt
    go_wp2_with fail
    refine (Compare_out r q A B C A' B' C' a b c a' b' c' tol _ (hI4.rd h) (h'.below hI4.below) HV.out HV'.out HO.out).mono ?_
    rintro e W5 ⟨rfl, hb5⟩
    have hI5 := hI4.step hb5
    have hJ5 := hJ4.below hb5 hJ4.lt
    clear b0 b1 b2 bs e0 e1 e2 es
    have b0 := hI5.box.2 0 _ rfl
    have b1 := hI5.box.2 1 _ rfl
    have b2 := hI5.box.2 2 _ rfl
    have bs := hI5.box.1
    have e0 := hJ5.cell 0
    have e1 := hJ5.cell 1
    have e2 := hJ5.cell 2
    have es := hJ5.lt
    go_upto_region 4 with fail
    go_region_held3 (fun w' => w'.cell? ⟨w.heap.size, 0, none⟩ = some (.slice A r.ps.length a) ∧ w'.cell? ⟨w.heap.size, 1, none⟩ = some (.slice B r.cs.length b) ∧ w'.cell? ⟨w.heap.size, 2, none⟩ = some (.slice C r.js.length c) ∧ w'.cell? ⟨w.heap.size + 1, 0, none⟩ = some (.slice A' q.ps.length a') ∧ w'.cell? ⟨w.heap.size + 1, 1, none⟩ = some (.slice B' q.cs.length b') ∧ w'.cell? ⟨w.heap.size + 1, 2, none⟩ = some (.slice C' q.js.length c')) (go_keep)
      (first | (go_at_call 21; refine (rlength_any q A' B' C' a' b' c' _ (h'.below hI6.below) HLQ.out (by omega)).mono ?_; rintro e W7 ⟨rfl, hb7⟩; have hI7 := hI6.step hb7; have hJ7 := hJ6.below hb7 hJ6.lt; clear b0 b1 b2 e0 e1 e2; have b0 := hI7.box.2 0 _ rfl; have b1 := hI7.box.2 1 _ rfl; have b2 := hI7.box.2 2 _ rfl; have e0 := hJ7.cell 0; have e1 := hJ7.cell 1; have e2 := hJ7.cell 2) | (go_at_call 21; refine (rlength_any r A B C a b c _ ((hI5.step (below_drew _ _)).rd h) HLB.out (by omega)).mono ?_; rintro e W6 ⟨rfl, hb6⟩; have hI6 := (hI5.step (below_drew _ _)).step hb6; have hJ6 := (hJ5.below (below_drew _ _) hJ5.lt).below hb6 hJ5.lt; clear b0 b1 b2 e0 e1 e2; have b0 := hI6.box.2 0 _ rfl; have b1 := hI6.box.2 1 _ rfl; have b2 := hI6.box.2 2 _ rfl; have e0 := hJ6.cell 0; have e1 := hJ6.cell 1; have e2 := hJ6.cell 2))
    clear b0 b1 b2 bs e0 e1 e2 es
    have b0 := hI7.box.2 0 _ rfl
    have b1 := hI7.box.2 1 _ rfl
    have b2 := hI7.box.2 2 _ rfl
    have bs := hI7.box.1
    have e0 := hJ7.cell 0
    have e1 := hJ7.cell 1
    have e2 := hJ7.cell 2
    have es := hJ7.lt
    go_wp2_with fail
    refine (known_any _).mono ?_
    rintro e W8 ⟨rfl, hb8⟩
    have hI8 := hI7.step hb8
    have hJ8 := hJ7.below hb8 hJ7.lt
    clear b0 b1 b2 bs e0 e1 e2 es
    have b0 := hI8.box.2 0 _ rfl
    have b1 := hI8.box.2 1 _ rfl
    have b2 := hI8.box.2 2 _ rfl
    have bs := hI8.box.1
    have e0 := hJ8.cell 0
    have e1 := hJ8.cell 1
    have e2 := hJ8.cell 2
    have es := hJ8.lt
    go_wp2_with fail
    go_ret
    exact ⟨rfl, hI8.below⟩
  have o2' : decide (tol < 0) = false := by rw [decide_eq_false_iff_not]; omega
  have o3' : decide (2000 < tol) = false := by rw [decide_eq_false_iff_not]; omega
  have hcl := cmpL_len tol r q hVr
  have HCS := Lib.hid (cmpL_self r.ps)
  go_enter Try.func11, Try.ntmps11
  go_wp2_with fail
  refine (small_any r A B C a b c _ (hR0.rd h)).mono ?_
  rintro e W1 ⟨rfl, hb1⟩
  have hI1 := hR0.step hb1
  have hJ1 := hJ0.below hb1 hJ0.lt
  have b0 := hI1.box.2 0 _ rfl
  have b1 := hI1.box.2 1 _ rfl
  have b2 := hI1.box.2 2 _ rfl
  have bs := hI1.box.1
  have e0 := hJ1.cell 0
  have e1 := hJ1.cell 1
  have e2 := hJ1.cell 2
  have es := hJ1.lt
  go_wp2_with fail
  refine (small_any q A' B' C' a' b' c' _ (h'.below hI1.below)).mono ?_
  rintro e W2 ⟨rfl, hb2⟩
  have hI2 := hI1.step hb2
  have hJ2 := hJ1.below hb2 hJ1.lt
  clear b0 b1 b2 bs e0 e1 e2 es
  have b0 := hI2.box.2 0 _ rfl
  have b1 := hI2.box.2 1 _ rfl
  have b2 := hI2.box.2 2 _ rfl
  have bs := hI2.box.1
  have e0 := hJ2.cell 0
  have e1 := hJ2.cell 1
  have e2 := hJ2.cell 2
  have es := hJ2.lt
  go_wp2_with fail
  refine (rvalid_any r A B C a b c _ (hI2.rd h)).mono ?_
  rintro e W3 ⟨rfl, hb3⟩
  have hI3 := hI2.step hb3
  have hJ3 := hJ2.below hb3 hJ2.lt
  clear b0 b1 b2 bs e0 e1 e2 es
  have b0 := hI3.box.2 0 _ rfl
  have b1 := hI3.box.2 1 _ rfl
  have b2 := hI3.box.2 2 _ rfl
  have bs := hI3.box.1
  have e0 := hJ3.cell 0
  have e1 := hJ3.cell 1
  have e2 := hJ3.cell 2
  have es := hJ3.lt
  go_wp2_with fail
  refine (rvalid_any q A' B' C' a' b' c' _ (h'.below hI3.below)).mono ?_
  rintro e W4 ⟨rfl, hb4⟩
  have hI4 := hI3.step hb4
  have hJ4 := hJ3.below hb4 hJ3.lt
  clear b0 b1 b2 bs e0 e1 e2 es
  have b0 := hI4.box.2 0 _ rfl
  have b1 := hI4.box.2 1 _ rfl
  have b2 := hI4.box.2 2 _ rfl
  have bs := hI4.box.1
  have e0 := hJ4.cell 0
  have e1 := hJ4.cell 1
  have e2 := hJ4.cell 2
  have es := hJ4.lt
  go_wp2_with fail
  refine (Compare_good r q A B C A' B' C' a b c a' b' c' tol _ (hI4.rd h) (h'.below hI4.below) HV.out HV'.out HL.out o2 o3).mono ?_
  rintro e W5 ⟨⟨v, rfl, hO⟩, hb5⟩
  have hI5 := hI4.step hb5
  have hJ5 := hJ4.below hb5 hJ4.lt
  clear b0 b1 b2 bs e0 e1 e2 es
  have b0 := hI5.box.2 0 _ rfl
  have b1 := hI5.box.2 1 _ rfl
  have b2 := hI5.box.2 2 _ rfl
  have bs := hI5.box.1
  have e0 := hJ5.cell 0
  have e1 := hJ5.cell 1
  have e2 := hJ5.cell 2
  have es := hJ5.lt
  obtain ⟨VA, vc, rfl⟩ := hO.form
  go_upto_region 4 with fail
  go_region_held3 (fun w' => w'.cell? ⟨w.heap.size, 0, none⟩ = some (.slice A r.ps.length a) ∧ w'.cell? ⟨w.heap.size, 1, none⟩ = some (.slice B r.cs.length b) ∧ w'.cell? ⟨w.heap.size, 2, none⟩ = some (.slice C r.js.length c) ∧ w'.cell? ⟨w.heap.size + 1, 0, none⟩ = some (.slice A' q.ps.length a') ∧ w'.cell? ⟨w.heap.size + 1, 1, none⟩ = some (.slice B' q.cs.length b') ∧ w'.cell? ⟨w.heap.size + 1, 2, none⟩ = some (.slice C' q.js.length c')) (go_keep)
    (first | (go_at_call 21; refine (rlength_any q A' B' C' a' b' c' _ (h'.below hI6.below) HLQ.out (by omega)).mono ?_; rintro e W7 ⟨rfl, hb7⟩; have hI7 := hI6.step hb7; have hJ7 := hJ6.below hb7 hJ6.lt; clear b0 b1 b2 e0 e1 e2; have b0 := hI7.box.2 0 _ rfl; have b1 := hI7.box.2 1 _ rfl; have b2 := hI7.box.2 2 _ rfl; have e0 := hJ7.cell 0; have e1 := hJ7.cell 1; have e2 := hJ7.cell 2) | (go_at_call 21; refine (rlength_any r A B C a b c _ ((hI5.step (below_drew _ _)).rd h) HLB.out (by omega)).mono ?_; rintro e W6 ⟨rfl, hb6⟩; have hI6 := (hI5.step (below_drew _ _)).step hb6; have hJ6 := (hJ5.below (below_drew _ _) hJ5.lt).below hb6 hJ5.lt; clear b0 b1 b2 e0 e1 e2; have b0 := hI6.box.2 0 _ rfl; have b1 := hI6.box.2 1 _ rfl; have b2 := hI6.box.2 2 _ rfl; have e0 := hJ6.cell 0; have e1 := hJ6.cell 1; have e2 := hJ6.cell 2))
  clear b0 b1 b2 bs e0 e1 e2 es
  have b0 := hI7.box.2 0 _ rfl
  have b1 := hI7.box.2 1 _ rfl
  have b2 := hI7.box.2 2 _ rfl
  have bs := hI7.box.1
  have e0 := hJ7.cell 0
  have e1 := hJ7.cell 1
  have e2 := hJ7.cell 2
  have es := hJ7.lt
  have hO7 := (hO.below (below_drew _ _)).below (bthen hb6 hb7)
  go_wp2_with fail
  refine (rcompare_any r q A B C A' B' C' a b c a' b' c' tol _ (hI7.rd h) (h'.below hI7.below) HV.out HV'.out HL.out o2 o3).mono ?_
  rintro e W8 ⟨⟨v, rfl, hQ⟩, hb8⟩
  have hI8 := hI7.step hb8
  have hJ8 := hJ7.below hb8 hJ7.lt
  clear b0 b1 b2 bs e0 e1 e2 es
  have b0 := hI8.box.2 0 _ rfl
  have b1 := hI8.box.2 1 _ rfl
  have b2 := hI8.box.2 2 _ rfl
  have bs := hI8.box.1
  have e0 := hJ8.cell 0
  have e1 := hJ8.cell 1
  have e2 := hJ8.cell 2
  have es := hJ8.lt
  obtain ⟨VQ, vq, rfl⟩ := hQ.form
  have hO8 := hO7.below hb8
  obtain ⟨L, hL⟩ : ∃ L, L = cmpL tol r.ps q.ps := ⟨_, rfl⟩
  rw [← hL] at hO8 hQ hcl
  simp only [← hL]
  clear hL hO hO7
  have hrO := hO8.rd dfV_len
  have hrQ := hQ.rd dfV_len
  go_wp2_with fail
  clear b0 b1 b2 bs e0 e1 e2 es
  go_loopw [10] (fun i W => ∃ m : Nat, m ≤ L.length ∧ i = .int .i64 m ∧ Below W8.heap.size W8 W) (fun i _ => L.length - (intOf i).toNat)
  case atStart => exact ⟨0, Nat.zero_le _, rfl, Below.refl _ _⟩
  case round =>
    rename World => Wl
    obtain ⟨m, hm, rfl, hbl⟩ := hrel
    by_cases hlt : m < L.length
    · obtain ⟨d, hd⟩ := getElem?_ex hlt
      obtain ⟨db, dof, rfl, hdb, d0, d1⟩ := (hrO.below hbl).atD hd
      obtain ⟨gb, gof, rfl, hgb, g0, g1⟩ := (hrQ.below hbl).atD hd
      clear hd
      have f1 : (m : Int) < L.length := by omega
      have f2 : (0 : Int) ≤ (m : Int) := by omega
      go_wp2_with fail
      go_quiet (fail)
      go_wp2
      go_roundw
      case rel => exact ⟨m + 1, by omega, by go_num, bdrewN hbl _⟩
      case measure => simp [intOf]; omega
    · obtain rfl : m = L.length := by omega
      have hIl := hI8.step hbl
      have b0 := hIl.box.2 0 _ rfl
      have b1 := hIl.box.2 1 _ rfl
      have b2 := hIl.box.2 2 _ rfl
      have bs := hIl.box.1
      go_wp2_with fail
      refine (Compare_good r r A B C A B C a b c a b c 0 _ (hIl.rd h) (hIl.rd h) HV.out HV.out rfl (by omega) (by omega)).mono ?_
      rintro e Wm ⟨⟨v, rfl, hZ⟩, hbm⟩
      rw [HCS.out] at hZ
      obtain ⟨VZ, vz, rfl⟩ := hZ.form
      simp only [List.length_nil]
      go_wp2_with fail
      refine (known_any _).mono ?_
      rintro e Wk ⟨rfl, hbk⟩
      go_wp2_with fail
      go_ret
      exact ⟨rfl, bthen (bthen hIl.below hbm) hbk⟩

end Go.Proofs.Ytbdjmaogbpdkpaa

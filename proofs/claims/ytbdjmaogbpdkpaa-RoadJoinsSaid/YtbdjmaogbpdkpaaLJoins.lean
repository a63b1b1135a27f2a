import Derived.Test.YtbdjmaogbpdkpaaKnown
import Derived.Test.YtbdjmaogbpdkpaaRSame
import Derived.Test.YtbdjmaogbpdkpaaRJoin
import Derived.Test.YtbdjmaogbpdkpaaRRevr
/-
  The law RoadJoins, walked: it answers true.
-/
namespace Go.Proofs.Ytbdjmaogbpdkpaa
open Go Go.RowKit Go.Shelf
set_option linter.unusedVariables false
set_option linter.unusedSimpArgs false
attribute [local go_sem] Later.cell Later.cell1 Later.new1 Later.frozen Later.frozen1

theorem rev_rev (r : Road) : revR (revR r) = r := by
  have hs := lenSum_rev r.ps
  have e0 : lenSum (revR r).ps = lenSum r.ps := hs
  unfold revR at e0 ⊢
  rw [e0]
  obtain ⟨ps, cs, js⟩ := r
  simp only [List.map_reverse, List.reverse_reverse, List.map_map, Road.mk.injEq]
  refine ⟨?_, ?_, ?_⟩
  · rw [List.map_congr_left (g := id), List.map_id]
    intro p _
    obtain ⟨a, b, c, d, e⟩ := p
    simp [revP]
  · rw [List.map_congr_left (g := id), List.map_id]
    intro p _
    obtain ⟨a, b⟩ := p
    simp [revC]
    omega
  · rw [List.map_congr_left (g := id), List.map_id]
    intro p _
    obtain ⟨a, b, c⟩ := p
    simp [revJ]
    omega
theorem small_len {r : Road} (hs : smallB r = true) (hv : validB r = true) : r.ps.length ≤ 20 ∧ r.cs.length ≤ 20 ∧ r.js.length ≤ 20 ∧ lenSum r.ps ≤ 800 := by
  simp only [smallB, Bool.and_eq_true, decide_eq_true_eq] at hs
  obtain ⟨⟨⟨s1, s2⟩, s3⟩, s4⟩ := hs
  have hl := (validB_ok hv).1.okLen
  have h40 : lensOk r.ps 40 := fun p hp => by
    have h1 := hl p hp
    have h2 := List.all_eq_true.1 s4 p hp
    simp [pieceSmall] at h2
    omega
  have := (lenSum_bd r.ps 40 h40).2
  omega
theorem small_fits {r q : Road} (hs : smallB r = true) (hv : validB r = true) (hs' : smallB q = true) (hv' : validB q = true) : fitsR (joinR r q) = true := by
  obtain ⟨a1, a2, a3, a4⟩ := small_len hs hv
  obtain ⟨b1, b2, b3, b4⟩ := small_len hs' hv'
  have c1 := joinC_len (lenSum r.ps) q.cs r.cs
  have c2 := joinJ_len (lenSum r.ps) q.js r.js
  have d0 : (joinR r q).ps.length ≤ 2000 := by
    show (r.ps ++ q.ps).length ≤ 2000
    rw [List.length_append]
    omega
  have d1 : (joinR r q).cs.length ≤ 1000 := by
    show (joinC (lenSum r.ps) r.cs q.cs).length ≤ 1000
    omega
  have d2 : (joinR r q).js.length ≤ 200 := by
    show (joinJ (lenSum r.ps) r.js q.js).length ≤ 200
    omega
  have d3 : lenSum (joinR r q).ps ≤ 100000 := by
    show lenSum (r.ps ++ q.ps) ≤ 100000
    rw [lenSum_append]
    omega
  simp only [fitsR, Bool.and_eq_true, decide_eq_true_eq]
  exact ⟨⟨⟨d0, d1⟩, d2⟩, d3⟩
theorem joinR_len {r q : Road} (h : fitsR (joinR r q) = true) : (joinR r q).ps.length ≤ 2000 ∧ (joinR r q).cs.length ≤ 1000 ∧ (joinR r q).js.length ≤ 200 := by
  simp only [fitsR, Bool.and_eq_true, decide_eq_true_eq] at h
  omega

set_option maxRecDepth 100000 in
set_option maxHeartbeats 16000000 in
theorem joinslaw_any (r : Road) (A B C : Option Addr) (a b c : Nat) (q : Road) (A' B' C' : Option Addr) (a' b' c' : Nat) (w : World) (h : RdRoad w r A B C) (h' : RdRoad w q A' B' C') :
    Calls Try.prog 13 #[.agg #[.slice A r.ps.length a, .slice B r.cs.length b, .slice C r.js.length c], .agg #[.slice A' q.ps.length a', .slice B' q.cs.length b', .slice C' q.js.length c']] w fun e w' => e = .returned (.bool true) ∧ Below w.heap.size w w' := by
  have hR0 : InR w ((w.alloc (.cells #[.slice A r.ps.length a, .slice B r.cs.length b, .slice C r.js.length c] 26)).alloc (.cells #[.slice A' q.ps.length a', .slice B' q.cs.length b', .slice C' q.js.length c'] 26)) r A B C a b c := (InR.new w r A B C a b c).step (balloc _ _)
  have hJ0 : Blk ((w.alloc (.cells #[.slice A r.ps.length a, .slice B r.cs.length b, .slice C r.js.length c] 26)).alloc (.cells #[.slice A' q.ps.length a', .slice B' q.cs.length b', .slice C' q.js.length c'] 26)) (w.heap.size + 1) 26 #[.slice A' q.ps.length a', .slice B' q.cs.length b', .slice C' q.js.length c'] := blk_at _ _ _ _ (by simp)
  cases hs : smallB r
  · go_enter Try.func13, Try.ntmps13
    go_wp2_with fail
    refine (small_any r A B C a b c _ (hR0.rd h)).mono ?_
    rintro e W1 ⟨rfl, hb1⟩
    have hI1 := hR0.step hb1
    have hJ1 := hJ0.below hb1 hJ0.lt
    have b0 := hI1.box.2 0 _ rfl
    have b1 := hI1.box.2 1 _ rfl
    have b2 := hI1.box.2 2 _ rfl
    have bs := hI1.box.1
    have e0 := hJ1.cell 0
    have e1 := hJ1.cell 1
    have e2 := hJ1.cell 2
    have es := hJ1.lt
    go_wp2_with fail
    refine (known_any _).mono ?_
    rintro e W2 ⟨rfl, hb2⟩
    have hI2 := hI1.step hb2
    have hJ2 := hJ1.below hb2 hJ1.lt
    clear b0 b1 b2 bs e0 e1 e2 es
    have b0 := hI2.box.2 0 _ rfl
    have b1 := hI2.box.2 1 _ rfl
    have b2 := hI2.box.2 2 _ rfl
    have bs := hI2.box.1
    have e0 := hJ2.cell 0
    have e1 := hJ2.cell 1
    have e2 := hJ2.cell 2
    have es := hJ2.lt
    go_wp2_with fail
    go_ret
    exact ⟨rfl, hI2.below⟩
  cases hs' : smallB q
  · go_enter Try.func13, Try.ntmps13
    go_wp2_with fail
    refine (small_any r A B C a b c _ (hR0.rd h)).mono ?_
    rintro e W1 ⟨rfl, hb1⟩
    have hI1 := hR0.step hb1
    have hJ1 := hJ0.below hb1 hJ0.lt
    have b0 := hI1.box.2 0 _ rfl
    have b1 := hI1.box.2 1 _ rfl
    have b2 := hI1.box.2 2 _ rfl
    have bs := hI1.box.1
    have e0 := hJ1.cell 0
    have e1 := hJ1.cell 1
    have e2 := hJ1.cell 2
    have es := hJ1.lt
    go_wp2_with fail
    refine (small_any q A' B' C' a' b' c' _ (h'.below hI1.below)).mono ?_
    rintro e W2 ⟨rfl, hb2⟩
    have hI2 := hI1.step hb2
    have hJ2 := hJ1.below hb2 hJ1.lt
    clear b0 b1 b2 bs e0 e1 e2 es
    have b0 := hI2.box.2 0 _ rfl
    have b1 := hI2.box.2 1 _ rfl
    have b2 := hI2.box.2 2 _ rfl
    have bs := hI2.box.1
    have e0 := hJ2.cell 0
    have e1 := hJ2.cell 1
    have e2 := hJ2.cell 2
    have es := hJ2.lt
    go_wp2_with fail
    refine (known_any _).mono ?_
    rintro e W3 ⟨rfl, hb3⟩
    have hI3 := hI2.step hb3
    have hJ3 := hJ2.below hb3 hJ2.lt
    clear b0 b1 b2 bs e0 e1 e2 es
    have b0 := hI3.box.2 0 _ rfl
    have b1 := hI3.box.2 1 _ rfl
    have b2 := hI3.box.2 2 _ rfl
    have bs := hI3.box.1
    have e0 := hJ3.cell 0
    have e1 := hJ3.cell 1
    have e2 := hJ3.cell 2
    have es := hJ3.lt
    go_wp2_with fail
    go_ret
    exact ⟨rfl, hI3.below⟩
  cases hv : validB r
  · go_enter Try.func13, Try.ntmps13
    go_wp2_with fail
    refine (small_any r A B C a b c _ (hR0.rd h)).mono ?_
    rintro e W1 ⟨rfl, hb1⟩
    have hI1 := hR0.step hb1
    have hJ1 := hJ0.below hb1 hJ0.lt
    have b0 := hI1.box.2 0 _ rfl
    have b1 := hI1.box.2 1 _ rfl
    have b2 := hI1.box.2 2 _ rfl
    have bs := hI1.box.1
    have e0 := hJ1.cell 0
    have e1 := hJ1.cell 1
    have e2 := hJ1.cell 2
    have es := hJ1.lt
    go_wp2_with fail
    refine (small_any q A' B' C' a' b' c' _ (h'.below hI1.below)).mono ?_
    rintro e W2 ⟨rfl, hb2⟩
    have hI2 := hI1.step hb2
    have hJ2 := hJ1.below hb2 hJ1.lt
    clear b0 b1 b2 bs e0 e1 e2 es
    have b0 := hI2.box.2 0 _ rfl
    have b1 := hI2.box.2 1 _ rfl
    have b2 := hI2.box.2 2 _ rfl
    have bs := hI2.box.1
    have e0 := hJ2.cell 0
    have e1 := hJ2.cell 1
    have e2 := hJ2.cell 2
    have es := hJ2.lt
    go_wp2_with fail
    refine (rvalid_any r A B C a b c _ (hI2.rd h)).mono ?_
    rintro e W3 ⟨rfl, hb3⟩
    have hI3 := hI2.step hb3
    have hJ3 := hJ2.below hb3 hJ2.lt
    clear b0 b1 b2 bs e0 e1 e2 es
    have b0 := hI3.box.2 0 _ rfl
    have b1 := hI3.box.2 1 _ rfl
    have b2 := hI3.box.2 2 _ rfl
    have bs := hI3.box.1
    have e0 := hJ3.cell 0
    have e1 := hJ3.cell 1
    have e2 := hJ3.cell 2
    have es := hJ3.lt
    go_wp2_with fail
    refine (known_any _).mono ?_
    rintro e W4 ⟨rfl, hb4⟩
    have hI4 := hI3.step hb4
    have hJ4 := hJ3.below hb4 hJ3.lt
    clear b0 b1 b2 bs e0 e1 e2 es
    have b0 := hI4.box.2 0 _ rfl
    have b1 := hI4.box.2 1 _ rfl
    have b2 := hI4.box.2 2 _ rfl
    have bs := hI4.box.1
    have e0 := hJ4.cell 0
    have e1 := hJ4.cell 1
    have e2 := hJ4.cell 2
    have es := hJ4.lt
    go_wp2_with fail
    go_ret
    exact ⟨rfl, hI4.below⟩
  cases hv' : validB q
  · go_enter Try.func13, Try.ntmps13
    go_wp2_with fail
    refine (small_any r A B C a b c _ (hR0.rd h)).mono ?_
    rintro e W1 ⟨rfl, hb1⟩
    have hI1 := hR0.step hb1
    have hJ1 := hJ0.below hb1 hJ0.lt
    have b0 := hI1.box.2 0 _ rfl
    have b1 := hI1.box.2 1 _ rfl
    have b2 := hI1.box.2 2 _ rfl
    have bs := hI1.box.1
    have e0 := hJ1.cell 0
    have e1 := hJ1.cell 1
    have e2 := hJ1.cell 2
    have es := hJ1.lt
    go_wp2_with fail
    refine (small_any q A' B' C' a' b' c' _ (h'.below hI1.below)).mono ?_
    rintro e W2 ⟨rfl, hb2⟩
    have hI2 := hI1.step hb2
    have hJ2 := hJ1.below hb2 hJ1.lt
    clear b0 b1 b2 bs e0 e1 e2 es
    have b0 := hI2.box.2 0 _ rfl
    have b1 := hI2.box.2 1 _ rfl
    have b2 := hI2.box.2 2 _ rfl
    have bs := hI2.box.1
    have e0 := hJ2.cell 0
    have e1 := hJ2.cell 1
    have e2 := hJ2.cell 2
    have es := hJ2.lt
    go_wp2_with fail
    refine (rvalid_any r A B C a b c _ (hI2.rd h)).mono ?_
    rintro e W3 ⟨rfl, hb3⟩
    have hI3 := hI2.step hb3
    have hJ3 := hJ2.below hb3 hJ2.lt
    clear b0 b1 b2 bs e0 e1 e2 es
    have b0 := hI3.box.2 0 _ rfl
    have b1 := hI3.box.2 1 _ rfl
    have b2 := hI3.box.2 2 _ rfl
    have bs := hI3.box.1
    have e0 := hJ3.cell 0
    have e1 := hJ3.cell 1
    have e2 := hJ3.cell 2
    have es := hJ3.lt
    go_wp2_with fail
    refine (rvalid_any q A' B' C' a' b' c' _ (h'.below hI3.below)).mono ?_
    rintro e W4 ⟨rfl, hb4⟩
    have hI4 := hI3.step hb4
    have hJ4 := hJ3.below hb4 hJ3.lt
    clear b0 b1 b2 bs e0 e1 e2 es
    have b0 := hI4.box.2 0 _ rfl
    have b1 := hI4.box.2 1 _ rfl
    have b2 := hI4.box.2 2 _ rfl
    have bs := hI4.box.1
    have e0 := hJ4.cell 0
    have e1 := hJ4.cell 1
    have e2 := hJ4.cell 2
    have es := hJ4.lt
    go_wp2_with fail
    refine (known_any _).mono ?_
    rintro e W5 ⟨rfl, hb5⟩
    have hI5 := hI4.step hb5
    have hJ5 := hJ4.below hb5 hJ4.lt
    clear b0 b1 b2 bs e0 e1 e2 es
    have b0 := hI5.box.2 0 _ rfl
    have b1 := hI5.box.2 1 _ rfl
    have b2 := hI5.box.2 2 _ rfl
    have bs := hI5.box.1
    have e0 := hJ5.cell 0
    have e1 := hJ5.cell 1
    have e2 := hJ5.cell 2
    have es := hJ5.lt
    go_wp2_with fail
    go_ret
    exact ⟨rfl, hI5.below⟩
  have hVr := VR.of hv
  have hVq := VR.of hv'
  have l1 := hVr.lp
  have l2 := hVr.lc
  have l3 := hVr.lj
  have l4 := hVq.lp
  have l5 := hVq.lc
  have l6 := hVq.lj
  have HV := Lib.hid hv
  have HV' := Lib.hid hv'
  have HF := Lib.hid (small_fits hs hv hs' hv')
  have HVX := Lib.hid (validB_rev r hv)
  have HRR := Lib.hid (rev_rev r)
  have hjl := joinR_len HF.out
  obtain ⟨j1, j2, j3⟩ := hjl
  have hVx := VR.of HVX.out
  have x1 := hVx.lp
  have x2 := hVx.lc
  have x3 := hVx.lj
  clear hVx
  go_enter Try.func13, Try.ntmps13
  go_wp2_with fail
  refine (small_any r A B C a b c _ (hR0.rd h)).mono ?_
  rintro e W1 ⟨rfl, hb1⟩
  have hI1 := hR0.step hb1
  have hJ1 := hJ0.below hb1 hJ0.lt
  have b0 := hI1.box.2 0 _ rfl
  have b1 := hI1.box.2 1 _ rfl
  have b2 := hI1.box.2 2 _ rfl
  have bs := hI1.box.1
  have e0 := hJ1.cell 0
  have e1 := hJ1.cell 1
  have e2 := hJ1.cell 2
  have es := hJ1.lt
  go_wp2_with fail
  refine (small_any q A' B' C' a' b' c' _ (h'.below hI1.below)).mono ?_
  rintro e W2 ⟨rfl, hb2⟩
  have hI2 := hI1.step hb2
  have hJ2 := hJ1.below hb2 hJ1.lt
  clear b0 b1 b2 bs e0 e1 e2 es
  have b0 := hI2.box.2 0 _ rfl
  have b1 := hI2.box.2 1 _ rfl
  have b2 := hI2.box.2 2 _ rfl
  have bs := hI2.box.1
  have e0 := hJ2.cell 0
  have e1 := hJ2.cell 1
  have e2 := hJ2.cell 2
  have es := hJ2.lt
  go_wp2_with fail
  refine (rvalid_any r A B C a b c _ (hI2.rd h)).mono ?_
  rintro e W3 ⟨rfl, hb3⟩
  have hI3 := hI2.step hb3
  have hJ3 := hJ2.below hb3 hJ2.lt
  clear b0 b1 b2 bs e0 e1 e2 es
  have b0 := hI3.box.2 0 _ rfl
  have b1 := hI3.box.2 1 _ rfl
  have b2 := hI3.box.2 2 _ rfl
  have bs := hI3.box.1
  have e0 := hJ3.cell 0
  have e1 := hJ3.cell 1
  have e2 := hJ3.cell 2
  have es := hJ3.lt
  go_wp2_with fail
  refine (rvalid_any q A' B' C' a' b' c' _ (h'.below hI3.below)).mono ?_
  rintro e W4 ⟨rfl, hb4⟩
  have hI4 := hI3.step hb4
  have hJ4 := hJ3.below hb4 hJ3.lt
  clear b0 b1 b2 bs e0 e1 e2 es
  have b0 := hI4.box.2 0 _ rfl
  have b1 := hI4.box.2 1 _ rfl
  have b2 := hI4.box.2 2 _ rfl
  have bs := hI4.box.1
  have e0 := hJ4.cell 0
  have e1 := hJ4.cell 1
  have e2 := hJ4.cell 2
  have es := hJ4.lt
  have hq4 := h'.below hI4.below
  obtain ⟨jr, hjr⟩ : ∃ x, x = joinR r q := ⟨_, rfl⟩
  obtain ⟨x, hx⟩ : ∃ x, x = revR r := ⟨_, rfl⟩
  rw [← hjr] at j1 j2 j3
  rw [← hx] at HVX HRR x1 x2 x3
  have HJR := Lib.hid hjr
  have HX := Lib.hid hx
  clear hjr hx
  go_wp2_with fail
  refine (Join_any r q A B C A' B' C' a b c a' b' c' _ (hI4.rd h) hq4 HV.out HV'.out).mono ?_
  rintro e W5 ⟨hcase, hb5⟩
  rcases hcase with ⟨-, u0, u1, u2, rfl, hO5⟩ | ⟨hf, -⟩
  case inr => rw [HF.out] at hf; cases hf
  rw [← HJR.out] at hO5
  obtain ⟨A1, B1, C1, a1, b1', c1, rfl, rfl, rfl⟩ := hO5.formR
  have hRC := (hO5.rdR (by omega) (by omega) (by omega)).below (balloc W5 (.cells #[.slice A1 jr.ps.length a1, .slice B1 jr.cs.length b1', .slice C1 jr.js.length c1] 26))
  have hC6 : Blk (W5.alloc (.cells #[.slice A1 jr.ps.length a1, .slice B1 jr.cs.length b1', .slice C1 jr.js.length c1] 26)) W5.heap.size 26 #[.slice A1 jr.ps.length a1, .slice B1 jr.cs.length b1', .slice C1 jr.js.length c1] := Blk.new _ _ _
  have hI6 := (hI4.step hb5).step (balloc W5 (.cells #[.slice A1 jr.ps.length a1, .slice B1 jr.cs.length b1', .slice C1 jr.js.length c1] 26))
  have hJ6 := (hJ4.below hb5 hJ4.lt).alloc (.cells #[.slice A1 jr.ps.length a1, .slice B1 jr.cs.length b1', .slice C1 jr.js.length c1] 26)
  go_upto_region 4 with fail
  obtain ⟨W6, hW6⟩ : ∃ X, X = W5.alloc (.cells #[.slice A1 jr.ps.length a1, .slice B1 jr.cs.length b1', .slice C1 jr.js.length c1] 26) := ⟨_, rfl⟩
  rw [← hW6] at hRC hC6 hI6 hJ6 ⊢
  obtain ⟨NC, hNC⟩ : ∃ X, X = W5.heap.size := ⟨_, rfl⟩
  rw [← hNC] at hC6 ⊢
  clear hW6 hNC b0 b1 b2 bs e0 e1 e2 es hO5 hb5
  have b0 := hI6.box.2 0 _ rfl
  have b1 := hI6.box.2 1 _ rfl
  have b2 := hI6.box.2 2 _ rfl
  have bs := hI6.box.1
  have e0 := hJ6.cell 0
  have e1 := hJ6.cell 1
  have e2 := hJ6.cell 2
  have es := hJ6.lt
  have hq6 := h'.below hI6.below
  go_wp2_with fail
  refine (rjoin_any r q A B C A' B' C' a b c a' b' c' _ (hI6.rd h) hq6 HV.out HV'.out).mono ?_
  rintro e W7 ⟨⟨u0, u1, u2, rfl, hO7⟩, hb7⟩
  rw [← HJR.out] at hO7
  obtain ⟨A2, B2, C2, a2, b2', c2, rfl, rfl, rfl⟩ := hO7.formR
  obtain ⟨W8, hW8⟩ : ∃ X, X = W7.alloc (.cells #[.slice A2 jr.ps.length a2, .slice B2 jr.cs.length b2', .slice C2 jr.js.length c2] 26) := ⟨_, rfl⟩
  have hb78 : Below W7.heap.size W7 W8 := by rw [hW8]; exact balloc _ _
  have hRD := (hO7.rdR (by omega) (by omega) (by omega)).below hb78
  obtain ⟨ND, hND⟩ : ∃ X, X = W7.heap.size := ⟨_, rfl⟩
  have hD8 : Blk W8 ND 26 #[.slice A2 jr.ps.length a2, .slice B2 jr.cs.length b2', .slice C2 jr.js.length c2] := by rw [hW8, hND]; exact Blk.new _ _ _
  have hb68 := bthen hb7 hb78
  have hI8 := hI6.step hb68
  have hJ8 := hJ6.below hb68 hJ6.lt
  have hC8 := hC6.below hb68 hC6.lt
  have hRC8 := hRC.below hb68
  go_upto_region 5 with fail
  rw [← hW8, ← hND]
  clear hW8 hND b0 b1 b2 bs e0 e1 e2 es hO7 hb7 hb78 hb68
  have b0 := hI8.box.2 0 _ rfl
  have b1 := hI8.box.2 1 _ rfl
  have b2 := hI8.box.2 2 _ rfl
  have bs := hI8.box.1
  have e0 := hJ8.cell 0
  have e1 := hJ8.cell 1
  have e2 := hJ8.cell 2
  have es := hJ8.lt
  go_wp2_with fail
  refine (Reverse_good r A B C a b c _ (hI8.rd h) HV.out).mono ?_
  rintro e W9 ⟨⟨u0, u1, u2, rfl, hO9⟩, hb9⟩
  rw [← HX.out] at hO9
  obtain ⟨A3, B3, C3, a3, b3', c3, rfl, rfl, rfl⟩ := hO9.formR
  obtain ⟨W10, hW10⟩ : ∃ X, X = W9.alloc (.cells #[.slice A3 x.ps.length a3, .slice B3 x.cs.length b3', .slice C3 x.js.length c3] 26) := ⟨_, rfl⟩
  have hb910 : Below W9.heap.size W9 W10 := by rw [hW10]; exact balloc _ _
  have hRX := (hO9.rdR (by omega) (by omega) (by omega)).below hb910
  obtain ⟨NX, hNX⟩ : ∃ X, X = W9.heap.size := ⟨_, rfl⟩
  have hX10 : Blk W10 NX 26 #[.slice A3 x.ps.length a3, .slice B3 x.cs.length b3', .slice C3 x.js.length c3] := by rw [hW10, hNX]; exact Blk.new _ _ _
  have hb810 := bthen hb9 hb910
  have hI10 := hI8.step hb810
  have hJ10 := hJ8.below hb810 hJ8.lt
  have hC10 := hC8.below hb810 hC8.lt
  have hD10 := hD8.below hb810 hD8.lt
  have hRC10 := hRC8.below hb810
  have hRD10 := hRD.below hb810
  go_upto_region 6 with fail
  rw [← hW10, ← hNX]
  clear hW10 hNX b0 b1 b2 bs e0 e1 e2 es hO9 hb9 hb910 hb810
  have x0 := hX10.cell 0
  have x1' := hX10.cell 1
  have x2' := hX10.cell 2
  have xl := hX10.lt
  go_wp2_with fail
  refine (Reverse_good x A3 B3 C3 a3 b3' c3 _ hRX HVX.out).mono ?_
  rintro e W11 ⟨⟨u0, u1, u2, rfl, hO11⟩, hb11⟩
  rw [HRR.out] at hO11
  obtain ⟨A4, B4, C4, a4, b4', c4, rfl, rfl, rfl⟩ := hO11.formR
  obtain ⟨W12, hW12⟩ : ∃ X, X = W11.alloc (.cells #[.slice A4 r.ps.length a4, .slice B4 r.cs.length b4', .slice C4 r.js.length c4] 26) := ⟨_, rfl⟩
  have hb1112 : Below W11.heap.size W11 W12 := by rw [hW12]; exact balloc _ _
  have hRY := (hO11.rdR (by omega) (by omega) (by omega)).below hb1112
  obtain ⟨NY, hNY⟩ : ∃ X, X = W11.heap.size := ⟨_, rfl⟩
  have hY12 : Blk W12 NY 26 #[.slice A4 r.ps.length a4, .slice B4 r.cs.length b4', .slice C4 r.js.length c4] := by rw [hW12, hNY]; exact Blk.new _ _ _
  have hb1012 := bthen hb11 hb1112
  have hI12 := hI10.step hb1012
  have hC12 := hC10.below hb1012 hC10.lt
  have hD12 := hD10.below hb1012 hD10.lt
  have hX12 := hX10.below hb1012 hX10.lt
  have hRC12 := hRC10.below hb1012
  have hRD12 := hRD10.below hb1012
  have hRX12 := hRX.below hb1012
  have hRY12 := hRY
  go_upto_region 7 with fail
  rw [← hW12, ← hNY]
  clear hW12 hNY x0 x1' x2' xl hO11 hb11 hb1112 hb1012 hRY hRX hRC10 hRD10 hRC8 hRC hRD hX10 hD10 hC10 hD8 hC8 hC6 hJ10 hJ8 hJ6 hI10 hI8 hI6
  have b0 := hI12.box.2 0 _ rfl
  have b1 := hI12.box.2 1 _ rfl
  have b2 := hI12.box.2 2 _ rfl
  have f0 := hC12.cell 0
  have f1 := hC12.cell 1
  have f2 := hC12.cell 2
  have g0 := hD12.cell 0
  have g1 := hD12.cell 1
  have g2 := hD12.cell 2
  have x0 := hX12.cell 0
  have x1 := hX12.cell 1
  have x2 := hX12.cell 2
  have y0 := hY12.cell 0
  have y1 := hY12.cell 1
  have y2 := hY12.cell 2
  go_region_held3 (fun w' => w'.cell? ⟨w.heap.size, 0, none⟩ = some (.slice A r.ps.length a) ∧ w'.cell? ⟨w.heap.size, 1, none⟩ = some (.slice B r.cs.length b) ∧ w'.cell? ⟨w.heap.size, 2, none⟩ = some (.slice C r.js.length c) ∧ w'.cell? ⟨NC, 0, none⟩ = some (.slice A1 jr.ps.length a1) ∧ w'.cell? ⟨NC, 1, none⟩ = some (.slice B1 jr.cs.length b1') ∧ w'.cell? ⟨NC, 2, none⟩ = some (.slice C1 jr.js.length c1) ∧ w'.cell? ⟨ND, 0, none⟩ = some (.slice A2 jr.ps.length a2) ∧ w'.cell? ⟨ND, 1, none⟩ = some (.slice B2 jr.cs.length b2') ∧ w'.cell? ⟨ND, 2, none⟩ = some (.slice C2 jr.js.length c2) ∧ w'.cell? ⟨NX, 0, none⟩ = some (.slice A3 x.ps.length a3) ∧ w'.cell? ⟨NX, 1, none⟩ = some (.slice B3 x.cs.length b3') ∧ w'.cell? ⟨NX, 2, none⟩ = some (.slice C3 x.js.length c3) ∧ w'.cell? ⟨NY, 0, none⟩ = some (.slice A4 r.ps.length a4) ∧ w'.cell? ⟨NY, 1, none⟩ = some (.slice B4 r.cs.length b4') ∧ w'.cell? ⟨NY, 2, none⟩ = some (.slice C4 r.js.length c4)) (go_keep)
    (first
      | (go_at_call 35; refine (rsame_eq r A4 B4 C4 A B C a4 b4' c4 a b c _ hRY15 (hI15.rd h)).mono ?_; rintro e W16 ⟨rfl, hb16⟩; have hI16 := hI15.step hb16; have hC16 := hC15.below hb16 hC15.lt; have hD16 := hD15.below hb16 hD15.lt; have hX16 := hX15.below hb16 hX15.lt; have hY16 := hY15.below hb16 hY15.lt; have hRC16 := hRC15.below hb16; have hRD16 := hRD15.below hb16; have hRX16 := hRX15.below hb16; have hRY16 := hRY15.below hb16; clear b0 b1 b2 f0 f1 f2 g0 g1 g2 x0 x1 x2 y0 y1 y2; have b0 := hI16.box.2 0 _ rfl; have b1 := hI16.box.2 1 _ rfl; have b2 := hI16.box.2 2 _ rfl; have f0 := hC16.cell 0; have f1 := hC16.cell 1; have f2 := hC16.cell 2; have g0 := hD16.cell 0; have g1 := hD16.cell 1; have g2 := hD16.cell 2; have x0 := hX16.cell 0; have x1 := hX16.cell 1; have x2 := hX16.cell 2; have y0 := hY16.cell 0; have y1 := hY16.cell 1; have y2 := hY16.cell 2)
      | (go_at_call 35; refine (rsame_eq x A3 B3 C3 A5 B5 C5 a3 b3' c3 a5 b5' c5 _ hRX14 hRZ).mono ?_; rintro e W15 ⟨rfl, hb15⟩; have hI15 := hI14.step hb15; have hC15 := hC14.below hb15 hC14.lt; have hD15 := hD14.below hb15 hD14.lt; have hX15 := hX14.below hb15 hX14.lt; have hY15 := hY14.below hb15 hY14.lt; have hRC15 := hRC14.below hb15; have hRD15 := hRD14.below hb15; have hRX15 := hRX14.below hb15; have hRY15 := hRY14.below hb15; clear b0 b1 b2 f0 f1 f2 g0 g1 g2 x0 x1 x2 y0 y1 y2; have b0 := hI15.box.2 0 _ rfl; have b1 := hI15.box.2 1 _ rfl; have b2 := hI15.box.2 2 _ rfl; have f0 := hC15.cell 0; have f1 := hC15.cell 1; have f2 := hC15.cell 2; have g0 := hD15.cell 0; have g1 := hD15.cell 1; have g2 := hD15.cell 2; have x0 := hX15.cell 0; have x1 := hX15.cell 1; have x2 := hX15.cell 2; have y0 := hY15.cell 0; have y1 := hY15.cell 1; have y2 := hY15.cell 2)
      | (go_at_call 35; refine (rsame_eq jr A1 B1 C1 A2 B2 C2 a1 b1' c1 a2 b2' c2 _ (hRC12.below (below_drew _ _)) (hRD12.below (below_drew _ _))).mono ?_; rintro e W13 ⟨rfl, hb13⟩; have hI13 := (hI12.step (below_drew _ _)).step hb13; have hC13 := (hC12.below (below_drew _ _) hC12.lt).below hb13 hC12.lt; have hD13 := (hD12.below (below_drew _ _) hD12.lt).below hb13 hD12.lt; have hX13 := (hX12.below (below_drew _ _) hX12.lt).below hb13 hX12.lt; have hY13 := (hY12.below (below_drew _ _) hY12.lt).below hb13 hY12.lt; have hRC13 := (hRC12.below (below_drew _ _)).below hb13; have hRD13 := (hRD12.below (below_drew _ _)).below hb13; have hRX13 := (hRX12.below (below_drew _ _)).below hb13; have hRY13 := (hRY12.below (below_drew _ _)).below hb13; clear b0 b1 b2 f0 f1 f2 g0 g1 g2 x0 x1 x2 y0 y1 y2; have b0 := hI13.box.2 0 _ rfl; have b1 := hI13.box.2 1 _ rfl; have b2 := hI13.box.2 2 _ rfl; have f0 := hC13.cell 0; have f1 := hC13.cell 1; have f2 := hC13.cell 2; have g0 := hD13.cell 0; have g1 := hD13.cell 1; have g2 := hD13.cell 2; have x0 := hX13.cell 0; have x1 := hX13.cell 1; have x2 := hX13.cell 2; have y0 := hY13.cell 0; have y1 := hY13.cell 1; have y2 := hY13.cell 2)
      | (go_at_call 42; refine (rreverse_any r A B C a b c _ (hI13.rd h) HV.out).mono ?_; rintro e W14 ⟨⟨u0, u1, u2, rfl, hO14⟩, hb14⟩; rw [← HX.out] at hO14; obtain ⟨A5, B5, C5, a5, b5', c5, rfl, rfl, rfl⟩ := hO14.formR; have hRZ := hO14.rdR (by omega) (by omega) (by omega); have hI14 := hI13.step hb14; have hC14 := hC13.below hb14 hC13.lt; have hD14 := hD13.below hb14 hD13.lt; have hX14 := hX13.below hb14 hX13.lt; have hY14 := hY13.below hb14 hY13.lt; have hRC14 := hRC13.below hb14; have hRD14 := hRD13.below hb14; have hRX14 := hRX13.below hb14; have hRY14 := hRY13.below hb14; clear b0 b1 b2 f0 f1 f2 g0 g1 g2 x0 x1 x2 y0 y1 y2; have b0 := hI14.box.2 0 _ rfl; have b1 := hI14.box.2 1 _ rfl; have b2 := hI14.box.2 2 _ rfl; have f0 := hC14.cell 0; have f1 := hC14.cell 1; have f2 := hC14.cell 2; have g0 := hD14.cell 0; have g1 := hD14.cell 1; have g2 := hD14.cell 2; have x0 := hX14.cell 0; have x1 := hX14.cell 1; have x2 := hX14.cell 2; have y0 := hY14.cell 0; have y1 := hY14.cell 1; have y2 := hY14.cell 2)
      | (go_at_call 19; refine (known_any _).mono ?_; rintro e W17 ⟨rfl, hb17⟩; have hI17 := hI16.step hb17; clear b0 b1 b2 f0 f1 f2 g0 g1 g2 x0 x1 x2 y0 y1 y2; have b0 := hI17.box.2 0 _ rfl; have b1 := hI17.box.2 1 _ rfl; have b2 := hI17.box.2 2 _ rfl; have hC17 := hC16.below hb17 hC16.lt; have hD17 := hD16.below hb17 hD16.lt; have hX17 := hX16.below hb17 hX16.lt; have hY17 := hY16.below hb17 hY16.lt; have f0 := hC17.cell 0; have f1 := hC17.cell 1; have f2 := hC17.cell 2; have g0 := hD17.cell 0; have g1 := hD17.cell 1; have g2 := hD17.cell 2; have x0 := hX17.cell 0; have x1 := hX17.cell 1; have x2 := hX17.cell 2; have y0 := hY17.cell 0; have y1 := hY17.cell 1; have y2 := hY17.cell 2))
  go_wp2_with fail
  go_ret
  exact ⟨rfl, hI17.below⟩

end Go.Proofs.Ytbdjmaogbpdkpaa

import Derived.Test.YtbdjmaogbpdkpaaKnown
import Derived.Test.YtbdjmaogbpdkpaaRSame
import Derived.Test.YtbdjmaogbpdkpaaPartW
import Derived.Test.YtbdjmaogbpdkpaaNone
/-
  The law RoadParts, walked: it answers true.
-/
namespace Go.Proofs.Ytbdjmaogbpdkpaa
open Go Go.RowKit Go.Shelf
set_option linter.unusedVariables false
set_option linter.unusedSimpArgs false
attribute [local go_sem] Later.cell Later.cell1 Later.new1 Later.frozen Later.frozen1

theorem small_len2 {r : Road} (hs : smallB r = true) : r.ps.length ≤ 20 ∧ r.cs.length ≤ 20 ∧ r.js.length ≤ 20 := by
  simp only [smallB, Bool.and_eq_true, decide_eq_true_eq] at hs
  obtain ⟨⟨⟨s1, s2⟩, s3⟩, s4⟩ := hs
  exact ⟨s1, s2, s3⟩
theorem part_lens (r : Road) (f t : Int) : (partR r f t).ps.length ≤ r.ps.length ∧ (partR r f t).cs.length ≤ r.cs.length ∧ (partR r f t).js.length ≤ r.js.length :=
  ⟨partL_len f t r.ps 0, cutC_len f t r.cs, cutJ_len f t r.js⟩
theorem parts_fit (r : Road) (t : Int) (hs : smallB r = true) (hv : validB r = true) (h0 : 0 < t) (h1 : t < lenSum r.ps) :
    let j := joinR (partR r 0 t) (partR r t (lenSum r.ps)); fitsR j = true ∧ okLen j.ps ∧ j.ps.length ≤ 40 ∧ j.cs.length ≤ 40 ∧ j.js.length ≤ 40 := by
  obtain ⟨a1, a2, a3⟩ := small_len2 hs
  have p1 := part_lens r 0 t
  have p2 := part_lens r t (lenSum r.ps)
  have v1 := partR_valid r 0 t hv (by omega) h0 (by omega)
  have v2 := partR_valid r t (lenSum r.ps) hv (by omega) h1 (by omega)
  have hln := (VR.of hv).ln
  have c1 := joinC_len (lenSum (partR r 0 t).ps) (partR r t (lenSum r.ps)).cs (partR r 0 t).cs
  have c2 := joinJ_len (lenSum (partR r 0 t).ps) (partR r t (lenSum r.ps)).js (partR r 0 t).js
  have d0 : (joinR (partR r 0 t) (partR r t (lenSum r.ps))).ps.length ≤ 40 := by
    show ((partR r 0 t).ps ++ (partR r t (lenSum r.ps)).ps).length ≤ 40
    rw [List.length_append]
    omega
  have d1 : (joinR (partR r 0 t) (partR r t (lenSum r.ps))).cs.length ≤ 40 := by
    show (joinC (lenSum (partR r 0 t).ps) (partR r 0 t).cs (partR r t (lenSum r.ps)).cs).length ≤ 40
    omega
  have d2 : (joinR (partR r 0 t) (partR r t (lenSum r.ps))).js.length ≤ 40 := by
    show (joinJ (lenSum (partR r 0 t).ps) (partR r 0 t).js (partR r t (lenSum r.ps)).js).length ≤ 40
    omega
  have d3 : lenSum (joinR (partR r 0 t) (partR r t (lenSum r.ps))).ps ≤ 100000 := by
    show lenSum ((partR r 0 t).ps ++ (partR r t (lenSum r.ps)).ps) ≤ 100000
    rw [lenSum_append, v1.2, v2.2]
    omega
  refine ⟨?_, ?_, d0, d1, d2⟩
  · simp only [fitsR, Bool.and_eq_true, decide_eq_true_eq]
    exact ⟨⟨⟨by omega, by omega⟩, by omega⟩, d3⟩
  · intro p hp
    have hp' : p ∈ (partR r 0 t).ps ++ (partR r t (lenSum r.ps)).ps := hp
    rcases List.mem_append.1 hp' with h | h
    · exact (validB_ok v1.1).1.okLen p h
    · exact (validB_ok v2.1).1.okLen p h

set_option maxRecDepth 100000 in
set_option maxHeartbeats 16000000 in
theorem partslaw_any (r : Road) (A B C : Option Addr) (a b c : Nat) (f t : Int) (w : World) (h : RdRoad w r A B C) :
    Calls Try.prog 14 #[.agg #[.slice A r.ps.length a, .slice B r.cs.length b, .slice C r.js.length c], .int .i64 f, .int .i64 t] w fun e w' => e = .returned (.bool true) ∧ Below w.heap.size w w' := by
  have hR0 : InR w (w.alloc (.cells #[.slice A r.ps.length a, .slice B r.cs.length b, .slice C r.js.length c] 26)) r A B C a b c := InR.new w r A B C a b c
  cases hs : smallB r
  · go_enter Try.func14, Try.ntmps14
    go_wp2_with fail
    refine (small_any r A B C a b c _ (hR0.rd h)).mono ?_
    rintro e W1 ⟨rfl, hb1⟩
    have hI1 := hR0.step hb1
    have b0 := hI1.box.2 0 _ rfl
    have b1 := hI1.box.2 1 _ rfl
    have b2 := hI1.box.2 2 _ rfl
    have bs := hI1.box.1
    go_wp2_with fail
    refine (known_any _).mono ?_
    rintro e W2 ⟨rfl, hb2⟩
    clear b0 b1 b2 bs
    have hI2 := hI1.step hb2
    have b0 := hI2.box.2 0 _ rfl
    have b1 := hI2.box.2 1 _ rfl
    have b2 := hI2.box.2 2 _ rfl
    have bs := hI2.box.1
    go_wp2_with fail
    go_ret
    exact ⟨rfl, hI2.below⟩
  cases hv : validB r
  · go_enter Try.func14, Try.ntmps14
    go_wp2_with fail
    refine (small_any r A B C a b c _ (hR0.rd h)).mono ?_
    rintro e W1 ⟨rfl, hb1⟩
    have hI1 := hR0.step hb1
    have b0 := hI1.box.2 0 _ rfl
    have b1 := hI1.box.2 1 _ rfl
    have b2 := hI1.box.2 2 _ rfl
    have bs := hI1.box.1
    go_wp2_with fail
    refine (rvalid_any r A B C a b c _ (hI1.rd h)).mono ?_
    rintro e W2 ⟨rfl, hb2⟩
    clear b0 b1 b2 bs
    have hI2 := hI1.step hb2
    have b0 := hI2.box.2 0 _ rfl
    have b1 := hI2.box.2 1 _ rfl
    have b2 := hI2.box.2 2 _ rfl
    have bs := hI2.box.1
    go_wp2_with fail
    refine (known_any _).mono ?_
    rintro e W3 ⟨rfl, hb3⟩
    clear b0 b1 b2 bs
    have hI3 := hI2.step hb3
    have b0 := hI3.box.2 0 _ rfl
    have b1 := hI3.box.2 1 _ rfl
    have b2 := hI3.box.2 2 _ rfl
    have bs := hI3.box.1
    go_wp2_with fail
    go_ret
    exact ⟨rfl, hI3.below⟩
  have hVr := VR.of hv
  have hok := hVr.ok
  have l1 := hVr.lp
  have l2 := hVr.lc
  have l3 := hVr.lj
  have l4 := hVr.ln
  have HLB : Hid (lensOk r.ps 100000) := Lib.hid (fun p hp => ⟨(hok.lens p hp).1, by have := (hok.lens p hp).2; omega⟩)
  have HOL := Lib.hid hok.okLen
  have HV := Lib.hid hv
  have HSM := Lib.hid hs
  by_cases o1 : f < 0
  · go_enter Try.func14, Try.ntmps14
    go_wp2_with fail
    refine (small_any r A B C a b c _ (hR0.rd h)).mono ?_
    rintro e W1 ⟨rfl, hb1⟩
    have hI1 := hR0.step hb1
    have b0 := hI1.box.2 0 _ rfl
    have b1 := hI1.box.2 1 _ rfl
    have b2 := hI1.box.2 2 _ rfl
    have bs := hI1.box.1
    go_wp2_with fail
    refine (rvalid_any r A B C a b c _ (hI1.rd h)).mono ?_
    rintro e W2 ⟨rfl, hb2⟩
    clear b0 b1 b2 bs
    have hI2 := hI1.step hb2
    have b0 := hI2.box.2 0 _ rfl
    have b1 := hI2.box.2 1 _ rfl
    have b2 := hI2.box.2 2 _ rfl
    have bs := hI2.box.1
    go_wp2_with fail
    refine (Part_out r A B C a b c f t _ (hI2.rd h) HV.out (by omega)).mono ?_
    rintro e W3 ⟨rfl, hb3⟩
    clear b0 b1 b2 bs
    have hI3 := hI2.step hb3
    have b0 := hI3.box.2 0 _ rfl
    have b1 := hI3.box.2 1 _ rfl
    have b2 := hI3.box.2 2 _ rfl
    have bs := hI3.box.1
    obtain ⟨W4, hW⟩ : ∃ X, X = W3.alloc (.cells #[.slice none 0 0, .slice none 0 0, .slice none 0 0] 26) := ⟨_, rfl⟩
    have hb4 : Below W3.heap.size W3 W4 := by rw [hW]; exact balloc _ _
    obtain ⟨NP, hN⟩ : ∃ X, X = W3.heap.size := ⟨_, rfl⟩
    have hP4 : Blk W4 NP 26 #[.slice none 0 0, .slice none 0 0, .slice none 0 0] := by rw [hW, hN]; exact Blk.new _ _ _
    go_upto_region 4 with fail
    rw [← hW, ← hN]
    clear hW hN
    clear b0 b1 b2 bs
    have hI4 := hI3.step hb4
    have b0 := hI4.box.2 0 _ rfl
    have b1 := hI4.box.2 1 _ rfl
    have b2 := hI4.box.2 2 _ rfl
    have bs := hI4.box.1
    have qp0 := hP4.cell 0
    have qp1 := hP4.cell 1
    have qp2 := hP4.cell 2
    have qpl := hP4.lt
    go_wp2_with fail
    refine (rlength_any r A B C a b c _ (hI4.rd h) HLB.out (by omega)).mono ?_
    rintro e W5 ⟨rfl, hb5⟩
    clear b0 b1 b2 bs qp0 qp1 qp2 qpl
    have hI5 := hI4.step hb5
    have hP5 := hP4.below hb5 hP4.lt
    have b0 := hI5.box.2 0 _ rfl
    have b1 := hI5.box.2 1 _ rfl
    have b2 := hI5.box.2 2 _ rfl
    have bs := hI5.box.1
    have qp0 := hP5.cell 0
    have qp1 := hP5.cell 1
    have qp2 := hP5.cell 2
    have qpl := hP5.lt
    go_wp2_with fail
    refine (none_nil _).mono ?_
    rintro e W6 ⟨rfl, hb6⟩
    clear b0 b1 b2 bs qp0 qp1 qp2 qpl
    have hI6 := hI5.step hb6
    have hP6 := hP5.below hb6 hP5.lt
    have b0 := hI6.box.2 0 _ rfl
    have b1 := hI6.box.2 1 _ rfl
    have b2 := hI6.box.2 2 _ rfl
    have bs := hI6.box.1
    have qp0 := hP6.cell 0
    have qp1 := hP6.cell 1
    have qp2 := hP6.cell 2
    have qpl := hP6.lt
    go_wp2_with fail
    refine (known_any _).mono ?_
    rintro e W7 ⟨rfl, hb7⟩
    clear b0 b1 b2 bs qp0 qp1 qp2 qpl
    have hI7 := hI6.step hb7
    have hP7 := hP6.below hb7 hP6.lt
    have b0 := hI7.box.2 0 _ rfl
    have b1 := hI7.box.2 1 _ rfl
    have b2 := hI7.box.2 2 _ rfl
    have bs := hI7.box.1
    have qp0 := hP7.cell 0
    have qp1 := hP7.cell 1
    have qp2 := hP7.cell 2
    have qpl := hP7.lt
    go_wp2_with fail
    go_ret
    exact ⟨rfl, hI7.below⟩
  by_cases o2 : t ≤ f
  · go_enter Try.func14, Try.ntmps14
    go_wp2_with fail
    refine (small_any r A B C a b c _ (hR0.rd h)).mono ?_
    rintro e W1 ⟨rfl, hb1⟩
    have hI1 := hR0.step hb1
    have b0 := hI1.box.2 0 _ rfl
    have b1 := hI1.box.2 1 _ rfl
    have b2 := hI1.box.2 2 _ rfl
    have bs := hI1.box.1
    go_wp2_with fail
    refine (rvalid_any r A B C a b c _ (hI1.rd h)).mono ?_
    rintro e W2 ⟨rfl, hb2⟩
    clear b0 b1 b2 bs
    have hI2 := hI1.step hb2
    have b0 := hI2.box.2 0 _ rfl
    have b1 := hI2.box.2 1 _ rfl
    have b2 := hI2.box.2 2 _ rfl
    have bs := hI2.box.1
    go_wp2_with fail
    refine (Part_out r A B C a b c f t _ (hI2.rd h) HV.out (by omega)).mono ?_
    rintro e W3 ⟨rfl, hb3⟩
    clear b0 b1 b2 bs
    have hI3 := hI2.step hb3
    have b0 := hI3.box.2 0 _ rfl
    have b1 := hI3.box.2 1 _ rfl
    have b2 := hI3.box.2 2 _ rfl
    have bs := hI3.box.1
    obtain ⟨W4, hW⟩ : ∃ X, X = W3.alloc (.cells #[.slice none 0 0, .slice none 0 0, .slice none 0 0] 26) := ⟨_, rfl⟩
    have hb4 : Below W3.heap.size W3 W4 := by rw [hW]; exact balloc _ _
    obtain ⟨NP, hN⟩ : ∃ X, X = W3.heap.size := ⟨_, rfl⟩
    have hP4 : Blk W4 NP 26 #[.slice none 0 0, .slice none 0 0, .slice none 0 0] := by rw [hW, hN]; exact Blk.new _ _ _
    go_upto_region 4 with fail
    rw [← hW, ← hN]
    clear hW hN
    clear b0 b1 b2 bs
    have hI4 := hI3.step hb4
    have b0 := hI4.box.2 0 _ rfl
    have b1 := hI4.box.2 1 _ rfl
    have b2 := hI4.box.2 2 _ rfl
    have bs := hI4.box.1
    have qp0 := hP4.cell 0
    have qp1 := hP4.cell 1
    have qp2 := hP4.cell 2
    have qpl := hP4.lt
    go_wp2_with fail
    refine (rlength_any r A B C a b c _ (hI4.rd h) HLB.out (by omega)).mono ?_
    rintro e W5 ⟨rfl, hb5⟩
    clear b0 b1 b2 bs qp0 qp1 qp2 qpl
    have hI5 := hI4.step hb5
    have hP5 := hP4.below hb5 hP4.lt
    have b0 := hI5.box.2 0 _ rfl
    have b1 := hI5.box.2 1 _ rfl
    have b2 := hI5.box.2 2 _ rfl
    have bs := hI5.box.1
    have qp0 := hP5.cell 0
    have qp1 := hP5.cell 1
    have qp2 := hP5.cell 2
    have qpl := hP5.lt
    go_wp2_with fail
    refine (none_nil _).mono ?_
    rintro e W6 ⟨rfl, hb6⟩
    clear b0 b1 b2 bs qp0 qp1 qp2 qpl
    have hI6 := hI5.step hb6
    have hP6 := hP5.below hb6 hP5.lt
    have b0 := hI6.box.2 0 _ rfl
    have b1 := hI6.box.2 1 _ rfl
    have b2 := hI6.box.2 2 _ rfl
    have bs := hI6.box.1
    have qp0 := hP6.cell 0
    have qp1 := hP6.cell 1
    have qp2 := hP6.cell 2
    have qpl := hP6.lt
    go_wp2_with fail
    refine (known_any _).mono ?_
    rintro e W7 ⟨rfl, hb7⟩
    clear b0 b1 b2 bs qp0 qp1 qp2 qpl
    have hI7 := hI6.step hb7
    have hP7 := hP6.below hb7 hP6.lt
    have b0 := hI7.box.2 0 _ rfl
    have b1 := hI7.box.2 1 _ rfl
    have b2 := hI7.box.2 2 _ rfl
    have bs := hI7.box.1
    have qp0 := hP7.cell 0
    have qp1 := hP7.cell 1
    have qp2 := hP7.cell 2
    have qpl := hP7.lt
    go_wp2_with fail
    go_ret
    exact ⟨rfl, hI7.below⟩
  by_cases o3 : lenSum r.ps < t
  · go_enter Try.func14, Try.ntmps14
    go_wp2_with fail
    refine (small_any r A B C a b c _ (hR0.rd h)).mono ?_
    rintro e W1 ⟨rfl, hb1⟩
    have hI1 := hR0.step hb1
    have b0 := hI1.box.2 0 _ rfl
    have b1 := hI1.box.2 1 _ rfl
    have b2 := hI1.box.2 2 _ rfl
    have bs := hI1.box.1
    go_wp2_with fail
    refine (rvalid_any r A B C a b c _ (hI1.rd h)).mono ?_
    rintro e W2 ⟨rfl, hb2⟩
    clear b0 b1 b2 bs
    have hI2 := hI1.step hb2
    have b0 := hI2.box.2 0 _ rfl
    have b1 := hI2.box.2 1 _ rfl
    have b2 := hI2.box.2 2 _ rfl
    have bs := hI2.box.1
    go_wp2_with fail
    refine (Part_out r A B C a b c f t _ (hI2.rd h) HV.out (by omega)).mono ?_
    rintro e W3 ⟨rfl, hb3⟩
    clear b0 b1 b2 bs
    have hI3 := hI2.step hb3
    have b0 := hI3.box.2 0 _ rfl
    have b1 := hI3.box.2 1 _ rfl
    have b2 := hI3.box.2 2 _ rfl
    have bs := hI3.box.1
    obtain ⟨W4, hW⟩ : ∃ X, X = W3.alloc (.cells #[.slice none 0 0, .slice none 0 0, .slice none 0 0] 26) := ⟨_, rfl⟩
    have hb4 : Below W3.heap.size W3 W4 := by rw [hW]; exact balloc _ _
    obtain ⟨NP, hN⟩ : ∃ X, X = W3.heap.size := ⟨_, rfl⟩
    have hP4 : Blk W4 NP 26 #[.slice none 0 0, .slice none 0 0, .slice none 0 0] := by rw [hW, hN]; exact Blk.new _ _ _
    go_upto_region 4 with fail
    rw [← hW, ← hN]
    clear hW hN
    clear b0 b1 b2 bs
    have hI4 := hI3.step hb4
    have b0 := hI4.box.2 0 _ rfl
    have b1 := hI4.box.2 1 _ rfl
    have b2 := hI4.box.2 2 _ rfl
    have bs := hI4.box.1
    have qp0 := hP4.cell 0
    have qp1 := hP4.cell 1
    have qp2 := hP4.cell 2
    have qpl := hP4.lt
    go_wp2_with fail
    refine (rlength_any r A B C a b c _ (hI4.rd h) HLB.out (by omega)).mono ?_
    rintro e W5 ⟨rfl, hb5⟩
    clear b0 b1 b2 bs qp0 qp1 qp2 qpl
    have hI5 := hI4.step hb5
    have hP5 := hP4.below hb5 hP4.lt
    have b0 := hI5.box.2 0 _ rfl
    have b1 := hI5.box.2 1 _ rfl
    have b2 := hI5.box.2 2 _ rfl
    have bs := hI5.box.1
    have qp0 := hP5.cell 0
    have qp1 := hP5.cell 1
    have qp2 := hP5.cell 2
    have qpl := hP5.lt
    go_wp2_with fail
    refine (none_nil _).mono ?_
    rintro e W6 ⟨rfl, hb6⟩
    clear b0 b1 b2 bs qp0 qp1 qp2 qpl
    have hI6 := hI5.step hb6
    have hP6 := hP5.below hb6 hP5.lt
    have b0 := hI6.box.2 0 _ rfl
    have b1 := hI6.box.2 1 _ rfl
    have b2 := hI6.box.2 2 _ rfl
    have bs := hI6.box.1
    have qp0 := hP6.cell 0
    have qp1 := hP6.cell 1
    have qp2 := hP6.cell 2
    have qpl := hP6.lt
    go_wp2_with fail
    refine (known_any _).mono ?_
    rintro e W7 ⟨rfl, hb7⟩
    clear b0 b1 b2 bs qp0 qp1 qp2 qpl
    have hI7 := hI6.step hb7
    have hP7 := hP6.below hb7 hP6.lt
    have b0 := hI7.box.2 0 _ rfl
    have b1 := hI7.box.2 1 _ rfl
    have b2 := hI7.box.2 2 _ rfl
    have bs := hI7.box.1
    have qp0 := hP7.cell 0
    have qp1 := hP7.cell 1
    have qp2 := hP7.cell 2
    have qpl := hP7.lt
    go_wp2_with fail
    go_ret
    exact ⟨rfl, hI7.below⟩
  obtain ⟨pr, hpr⟩ : ∃ x, x = partR r f t := ⟨_, rfl⟩
  have hpl := part_lens r f t
  rw [← hpr] at hpl
  obtain ⟨p1, p2, p3⟩ := hpl
  have HPR := Lib.hid hpr
  clear hpr
  by_cases o4 : t = lenSum r.ps
  · have o5 : (t == lenSum r.ps) = true := by simpa using o4
    have HO4 := Lib.hid o4
    clear o4
    go_enter Try.func14, Try.ntmps14
    go_wp2_with fail
    refine (small_any r A B C a b c _ (hR0.rd h)).mono ?_
    rintro e W1 ⟨rfl, hb1⟩
    have hI1 := hR0.step hb1
    have b0 := hI1.box.2 0 _ rfl
    have b1 := hI1.box.2 1 _ rfl
    have b2 := hI1.box.2 2 _ rfl
    have bs := hI1.box.1
    go_wp2_with fail
    refine (rvalid_any r A B C a b c _ (hI1.rd h)).mono ?_
    rintro e W2 ⟨rfl, hb2⟩
    clear b0 b1 b2 bs
    have hI2 := hI1.step hb2
    have b0 := hI2.box.2 0 _ rfl
    have b1 := hI2.box.2 1 _ rfl
    have b2 := hI2.box.2 2 _ rfl
    have bs := hI2.box.1
    go_wp2_with fail
    refine (Part_good r A B C a b c f t _ (hI2.rd h) HV.out (by omega) (by omega) (by omega)).mono ?_
    rintro e W3 ⟨⟨u0, u1, u2, rfl, hO⟩, hb3⟩
    clear b0 b1 b2 bs
    have hI3 := hI2.step hb3
    have b0 := hI3.box.2 0 _ rfl
    have b1 := hI3.box.2 1 _ rfl
    have b2 := hI3.box.2 2 _ rfl
    have bs := hI3.box.1
    rw [← HPR.out] at hO
    obtain ⟨AP, BP, CP, aP', bP', cP', rfl, rfl, rfl⟩ := hO.formR
    obtain ⟨W4, hW⟩ : ∃ X, X = W3.alloc (.cells #[.slice AP pr.ps.length aP', .slice BP pr.cs.length bP', .slice CP pr.js.length cP'] 26) := ⟨_, rfl⟩
    have hb4 : Below W3.heap.size W3 W4 := by rw [hW]; exact balloc _ _
    obtain ⟨NP, hN⟩ : ∃ X, X = W3.heap.size := ⟨_, rfl⟩
    have hP4 : Blk W4 NP 26 #[.slice AP pr.ps.length aP', .slice BP pr.cs.length bP', .slice CP pr.js.length cP'] := by rw [hW, hN]; exact Blk.new _ _ _
    have hRP4 := (hO.rdR (by omega) (by omega) (by omega)).below hb4
    go_upto_region 4 with fail
    rw [← hW, ← hN]
    clear hW hN
    clear b0 b1 b2 bs
    have hI4 := hI3.step hb4
    have b0 := hI4.box.2 0 _ rfl
    have b1 := hI4.box.2 1 _ rfl
    have b2 := hI4.box.2 2 _ rfl
    have bs := hI4.box.1
    have qp0 := hP4.cell 0
    have qp1 := hP4.cell 1
    have qp2 := hP4.cell 2
    have qpl := hP4.lt
    go_wp2_with fail
    refine (rlength_any r A B C a b c _ (hI4.rd h) HLB.out (by omega)).mono ?_
    rintro e W5 ⟨rfl, hb5⟩
    clear b0 b1 b2 bs qp0 qp1 qp2 qpl
    have hI5 := hI4.step hb5
    have hP5 := hP4.below hb5 hP4.lt
    have hRP5 := hRP4.below hb5
    have b0 := hI5.box.2 0 _ rfl
    have b1 := hI5.box.2 1 _ rfl
    have b2 := hI5.box.2 2 _ rfl
    have bs := hI5.box.1
    have qp0 := hP5.cell 0
    have qp1 := hP5.cell 1
    have qp2 := hP5.cell 2
    have qpl := hP5.lt
    clear hO
    go_upto_region 7 with fail
    go_region_held3 (fun w' => w'.cell? ⟨w.heap.size, 0, none⟩ = some (.slice A r.ps.length a) ∧ w'.cell? ⟨w.heap.size, 1, none⟩ = some (.slice B r.cs.length b) ∧ w'.cell? ⟨w.heap.size, 2, none⟩ = some (.slice C r.js.length c) ∧ w'.cell? ⟨NP, 0, none⟩ = some (.slice AP pr.ps.length aP') ∧ w'.cell? ⟨NP, 1, none⟩ = some (.slice BP pr.cs.length bP') ∧ w'.cell? ⟨NP, 2, none⟩ = some (.slice CP pr.js.length cP')) (go_keep)
      (first
        | (go_at_call 35; refine (rsame_eq pr AP BP CP AZ BZ CZ aP' bP' cP' aZ' bZ' cZ' _ hRP6 hRZ).mono ?_; rintro e W7 ⟨rfl, hb7⟩; have hI7 := hI6.step hb7; have hP7 := hP6.below hb7 hP6.lt; have hRP7 := hRP6.below hb7; clear b0 b1 b2 qp0 qp1 qp2; have b0 := hI7.box.2 0 _ rfl; have b1 := hI7.box.2 1 _ rfl; have b2 := hI7.box.2 2 _ rfl; have qp0 := hP7.cell 0; have qp1 := hP7.cell 1; have qp2 := hP7.cell 2)
        | (go_at_call 44; refine (rpart_any r A B C a b c f t _ ((hI5.step (below_drew _ _)).rd h) HV.out (by omega) (by omega) (by omega) (by omega)).mono ?_; rintro e W6 ⟨⟨u0, u1, u2, rfl, hOZ⟩, hb6⟩; rw [← HPR.out] at hOZ; obtain ⟨AZ, BZ, CZ, aZ', bZ', cZ', rfl, rfl, rfl⟩ := hOZ.formR; have hRZ := hOZ.rdR (by omega) (by omega) (by omega); have hI6 := (hI5.step (below_drew _ _)).step hb6; have hP6 := (hP5.below (below_drew _ _) hP5.lt).below hb6 hP5.lt; have hRP6 := (hRP5.below (below_drew _ _)).below hb6; clear b0 b1 b2 qp0 qp1 qp2; have b0 := hI6.box.2 0 _ rfl; have b1 := hI6.box.2 1 _ rfl; have b2 := hI6.box.2 2 _ rfl; have qp0 := hP6.cell 0; have qp1 := hP6.cell 1; have qp2 := hP6.cell 2))
    clear hOZ hRZ
    go_wp2_with fail
    refine (known_any _).mono ?_
    rintro e W8 ⟨rfl, hb8⟩
    clear b0 b1 b2 bs qp0 qp1 qp2 qpl
    have hI8 := hI7.step hb8
    have hP8 := hP7.below hb8 hP7.lt
    have hRP8 := hRP7.below hb8
    have b0 := hI8.box.2 0 _ rfl
    have b1 := hI8.box.2 1 _ rfl
    have b2 := hI8.box.2 2 _ rfl
    have bs := hI8.box.1
    have qp0 := hP8.cell 0
    have qp1 := hP8.cell 1
    have qp2 := hP8.cell 2
    have qpl := hP8.lt
    go_wp2_with fail
    go_ret
    exact ⟨rfl, hI8.below⟩
  have o5 : (t == lenSum r.ps) = false := by simpa using o4
  have o6 : t < lenSum r.ps := by omega
  have hj := parts_fit r t hs hv (by omega) (by omega)
  have hjn := rnm_parts r t hv (by omega) (by omega)
  have hv1 := (partR_valid r 0 t hv (by omega) (by omega) (by omega)).1
  have hv2 := (partR_valid r t (lenSum r.ps) hv (by omega) (by omega) (by omega)).1
  have hpa := part_lens r 0 t
  have hpb := part_lens r t (lenSum r.ps)
  obtain ⟨xa, hxa⟩ : ∃ x, x = partR r 0 t := ⟨_, rfl⟩
  obtain ⟨xb, hxb⟩ : ∃ x, x = partR r t (lenSum r.ps) := ⟨_, rfl⟩
  rw [← hxa, ← hxb] at hj hjn
  rw [← hxa] at hv1 hpa
  rw [← hxb] at hv2 hpb
  obtain ⟨xj, hxj⟩ : ∃ x, x = joinR xa xb := ⟨_, rfl⟩
  simp only [← hxj] at hj hjn
  have HXA := Lib.hid hxa
  have HXB := Lib.hid hxb
  have HXJ := Lib.hid hxj
  clear hxa hxb hxj
  obtain ⟨hj1, hj2, j1, j2, j3⟩ := hj
  obtain ⟨pa1, pa2, pa3⟩ := hpa
  obtain ⟨pb1, pb2, pb3⟩ := hpb
  have HJ1 := Lib.hid hj1
  have HJ2 := Lib.hid hj2
  have HV1 := Lib.hid hv1
  have HV2 := Lib.hid hv2
  clear hj1 hj2 hv1 hv2
  obtain ⟨nm, hnm⟩ : ∃ x, x = rnmR r := ⟨_, rfl⟩
  have hnv := VR.of (validB_nrm r hv)
  rw [← rnm_nrm] at hnv
  rw [← hnm] at hjn hnv
  have n1 := hnv.lp
  have n2 := hnv.lc
  have n3 := hnv.lj
  have HNM := Lib.hid hnm
  have HJN := Lib.hid hjn
  clear hnm hjn hnv o4
  go_enter Try.func14, Try.ntmps14
  go_wp2_with fail
  refine (small_any r A B C a b c _ (hR0.rd h)).mono ?_
  rintro e W1 ⟨rfl, hb1⟩
  have hI1 := hR0.step hb1
  have b0 := hI1.box.2 0 _ rfl
  have b1 := hI1.box.2 1 _ rfl
  have b2 := hI1.box.2 2 _ rfl
  have bs := hI1.box.1
  go_wp2_with fail
  refine (rvalid_any r A B C a b c _ (hI1.rd h)).mono ?_
  rintro e W2 ⟨rfl, hb2⟩
  clear b0 b1 b2 bs
  have hI2 := hI1.step hb2
  have b0 := hI2.box.2 0 _ rfl
  have b1 := hI2.box.2 1 _ rfl
  have b2 := hI2.box.2 2 _ rfl
  have bs := hI2.box.1
  go_wp2_with fail
  refine (Part_good r A B C a b c f t _ (hI2.rd h) HV.out (by omega) (by omega) (by omega)).mono ?_
  rintro e W3 ⟨⟨u0, u1, u2, rfl, hO⟩, hb3⟩
  clear b0 b1 b2 bs
  have hI3 := hI2.step hb3
  have b0 := hI3.box.2 0 _ rfl
  have b1 := hI3.box.2 1 _ rfl
  have b2 := hI3.box.2 2 _ rfl
  have bs := hI3.box.1
  rw [← HPR.out] at hO
  obtain ⟨AP, BP, CP, aP', bP', cP', rfl, rfl, rfl⟩ := hO.formR
  obtain ⟨W4, hW⟩ : ∃ X, X = W3.alloc (.cells #[.slice AP pr.ps.length aP', .slice BP pr.cs.length bP', .slice CP pr.js.length cP'] 26) := ⟨_, rfl⟩
  have hb4 : Below W3.heap.size W3 W4 := by rw [hW]; exact balloc _ _
  obtain ⟨NP, hN⟩ : ∃ X, X = W3.heap.size := ⟨_, rfl⟩
  have hP4 : Blk W4 NP 26 #[.slice AP pr.ps.length aP', .slice BP pr.cs.length bP', .slice CP pr.js.length cP'] := by rw [hW, hN]; exact Blk.new _ _ _
  have hRP4 := (hO.rdR (by omega) (by omega) (by omega)).below hb4
  go_upto_region 4 with fail
  rw [← hW, ← hN]
  clear hW hN
  clear b0 b1 b2 bs
  have hI4 := hI3.step hb4
  have b0 := hI4.box.2 0 _ rfl
  have b1 := hI4.box.2 1 _ rfl
  have b2 := hI4.box.2 2 _ rfl
  have bs := hI4.box.1
  have qp0 := hP4.cell 0
  have qp1 := hP4.cell 1
  have qp2 := hP4.cell 2
  have qpl := hP4.lt
  go_wp2_with fail
  refine (rlength_any r A B C a b c _ (hI4.rd h) HLB.out (by omega)).mono ?_
  rintro e W5 ⟨rfl, hb5⟩
  clear b0 b1 b2 bs qp0 qp1 qp2 qpl
  have hI5 := hI4.step hb5
  have hP5 := hP4.below hb5 hP4.lt
  have hRP5 := hRP4.below hb5
  have b0 := hI5.box.2 0 _ rfl
  have b1 := hI5.box.2 1 _ rfl
  have b2 := hI5.box.2 2 _ rfl
  have bs := hI5.box.1
  have qp0 := hP5.cell 0
  have qp1 := hP5.cell 1
  have qp2 := hP5.cell 2
  have qpl := hP5.lt
  clear hO
  go_upto_region 7 with fail
  go_region_held3 (fun w' => w'.cell? ⟨w.heap.size, 0, none⟩ = some (.slice A r.ps.length a) ∧ w'.cell? ⟨w.heap.size, 1, none⟩ = some (.slice B r.cs.length b) ∧ w'.cell? ⟨w.heap.size, 2, none⟩ = some (.slice C r.js.length c) ∧ w'.cell? ⟨NP, 0, none⟩ = some (.slice AP pr.ps.length aP') ∧ w'.cell? ⟨NP, 1, none⟩ = some (.slice BP pr.cs.length bP') ∧ w'.cell? ⟨NP, 2, none⟩ = some (.slice CP pr.js.length cP')) (go_keep)
    (first
      | (go_at_call 35; refine (rsame_eq pr AP BP CP AZ BZ CZ aP' bP' cP' aZ' bZ' cZ' _ hRP6 hRZ).mono ?_; rintro e W7 ⟨rfl, hb7⟩; have hI7 := hI6.step hb7; have hP7 := hP6.below hb7 hP6.lt; have hRP7 := hRP6.below hb7; clear b0 b1 b2 qp0 qp1 qp2; have b0 := hI7.box.2 0 _ rfl; have b1 := hI7.box.2 1 _ rfl; have b2 := hI7.box.2 2 _ rfl; have qp0 := hP7.cell 0; have qp1 := hP7.cell 1; have qp2 := hP7.cell 2)
      | (go_at_call 44; refine (rpart_any r A B C a b c f t _ ((hI5.step (below_drew _ _)).rd h) HV.out (by omega) (by omega) (by omega) (by omega)).mono ?_; rintro e W6 ⟨⟨u0, u1, u2, rfl, hOZ⟩, hb6⟩; rw [← HPR.out] at hOZ; obtain ⟨AZ, BZ, CZ, aZ', bZ', cZ', rfl, rfl, rfl⟩ := hOZ.formR; have hRZ := hOZ.rdR (by omega) (by omega) (by omega); have hI6 := (hI5.step (below_drew _ _)).step hb6; have hP6 := (hP5.below (below_drew _ _) hP5.lt).below hb6 hP5.lt; have hRP6 := (hRP5.below (below_drew _ _)).below hb6; clear b0 b1 b2 qp0 qp1 qp2; have b0 := hI6.box.2 0 _ rfl; have b1 := hI6.box.2 1 _ rfl; have b2 := hI6.box.2 2 _ rfl; have qp0 := hP6.cell 0; have qp1 := hP6.cell 1; have qp2 := hP6.cell 2))
  clear hOZ hRZ
  go_wp2_with fail
  refine (Part_good r A B C a b c 0 t _ (hI7.rd h) HV.out (by omega) (by omega) (by omega)).mono ?_
  rintro e W8 ⟨⟨u0, u1, u2, rfl, hOa⟩, hb8⟩
  clear b0 b1 b2 bs qp0 qp1 qp2 qpl
  have hI8 := hI7.step hb8
  have hP8 := hP7.below hb8 hP7.lt
  have hRP8 := hRP7.below hb8
  have b0 := hI8.box.2 0 _ rfl
  have b1 := hI8.box.2 1 _ rfl
  have b2 := hI8.box.2 2 _ rfl
  have bs := hI8.box.1
  have qp0 := hP8.cell 0
  have qp1 := hP8.cell 1
  have qp2 := hP8.cell 2
  have qpl := hP8.lt
  rw [← HXA.out] at hOa
  obtain ⟨AD, BD, CD, aD', bD', cD', rfl, rfl, rfl⟩ := hOa.formR
  obtain ⟨W9, hW⟩ : ∃ X, X = W8.alloc (.cells #[.slice AD xa.ps.length aD', .slice BD xa.cs.length bD', .slice CD xa.js.length cD'] 26) := ⟨_, rfl⟩
  have hb9 : Below W8.heap.size W8 W9 := by rw [hW]; exact balloc _ _
  obtain ⟨ND, hN⟩ : ∃ X, X = W8.heap.size := ⟨_, rfl⟩
  have hD9 : Blk W9 ND 26 #[.slice AD xa.ps.length aD', .slice BD xa.cs.length bD', .slice CD xa.js.length cD'] := by rw [hW, hN]; exact Blk.new _ _ _
  have hRD9 := (hOa.rdR (by omega) (by omega) (by omega)).below hb9
  go_upto_region 12 with fail
  rw [← hW, ← hN]
  clear hW hN
  clear b0 b1 b2 bs qp0 qp1 qp2 qpl
  have hI9 := hI8.step hb9
  have hP9 := hP8.below hb9 hP8.lt
  have hRP9 := hRP8.below hb9
  have b0 := hI9.box.2 0 _ rfl
  have b1 := hI9.box.2 1 _ rfl
  have b2 := hI9.box.2 2 _ rfl
  have bs := hI9.box.1
  have qp0 := hP9.cell 0
  have qp1 := hP9.cell 1
  have qp2 := hP9.cell 2
  have qpl := hP9.lt
  have qd0 := hD9.cell 0
  have qd1 := hD9.cell 1
  have qd2 := hD9.cell 2
  have qdl := hD9.lt
  go_wp2_with fail
  refine (Part_good r A B C a b c t (lenSum r.ps) _ (hI9.rd h) HV.out (by omega) (by omega) (by omega)).mono ?_
  rintro e W10 ⟨⟨u0, u1, u2, rfl, hOb⟩, hb10⟩
  clear b0 b1 b2 bs qp0 qp1 qp2 qpl qd0 qd1 qd2 qdl
  have hI10 := hI9.step hb10
  have hP10 := hP9.below hb10 hP9.lt
  have hRP10 := hRP9.below hb10
  have hD10 := hD9.below hb10 hD9.lt
  have hRD10 := hRD9.below hb10
  have b0 := hI10.box.2 0 _ rfl
  have b1 := hI10.box.2 1 _ rfl
  have b2 := hI10.box.2 2 _ rfl
  have bs := hI10.box.1
  have qp0 := hP10.cell 0
  have qp1 := hP10.cell 1
  have qp2 := hP10.cell 2
  have qpl := hP10.lt
  have qd0 := hD10.cell 0
  have qd1 := hD10.cell 1
  have qd2 := hD10.cell 2
  have qdl := hD10.lt
  rw [← HXB.out] at hOb
  obtain ⟨AE, BE, CE, aE', bE', cE', rfl, rfl, rfl⟩ := hOb.formR
  obtain ⟨W11, hW⟩ : ∃ X, X = W10.alloc (.cells #[.slice AE xb.ps.length aE', .slice BE xb.cs.length bE', .slice CE xb.js.length cE'] 26) := ⟨_, rfl⟩
  have hb11 : Below W10.heap.size W10 W11 := by rw [hW]; exact balloc _ _
  obtain ⟨NE, hN⟩ : ∃ X, X = W10.heap.size := ⟨_, rfl⟩
  have hE11 : Blk W11 NE 26 #[.slice AE xb.ps.length aE', .slice BE xb.cs.length bE', .slice CE xb.js.length cE'] := by rw [hW, hN]; exact Blk.new _ _ _
  have hRE11 := (hOb.rdR (by omega) (by omega) (by omega)).below hb11
  go_upto_region 13 with fail
  rw [← hW, ← hN]
  clear hW hN
  clear b0 b1 b2 bs qp0 qp1 qp2 qpl qd0 qd1 qd2 qdl
  have hI11 := hI10.step hb11
  have hP11 := hP10.below hb11 hP10.lt
  have hRP11 := hRP10.below hb11
  have hD11 := hD10.below hb11 hD10.lt
  have hRD11 := hRD10.below hb11
  have b0 := hI11.box.2 0 _ rfl
  have b1 := hI11.box.2 1 _ rfl
  have b2 := hI11.box.2 2 _ rfl
  have bs := hI11.box.1
  have qp0 := hP11.cell 0
  have qp1 := hP11.cell 1
  have qp2 := hP11.cell 2
  have qpl := hP11.lt
  have qd0 := hD11.cell 0
  have qd1 := hD11.cell 1
  have qd2 := hD11.cell 2
  have qdl := hD11.lt
  have qe0 := hE11.cell 0
  have qe1 := hE11.cell 1
  have qe2 := hE11.cell 2
  have qel := hE11.lt
  clear hOa hOb
  go_wp2_with fail
  refine (Join_any xa xb AD BD CD AE BE CE aD' bD' cD' aE' bE' cE' _ hRD11 hRE11 HV1.out HV2.out).mono ?_
  rintro e W12 ⟨hcase, hb12⟩
  clear b0 b1 b2 bs qp0 qp1 qp2 qpl qd0 qd1 qd2 qdl qe0 qe1 qe2 qel
  have hI12 := hI11.step hb12
  have hP12 := hP11.below hb12 hP11.lt
  have hRP12 := hRP11.below hb12
  have hD12 := hD11.below hb12 hD11.lt
  have hRD12 := hRD11.below hb12
  have hE12 := hE11.below hb12 hE11.lt
  have hRE12 := hRE11.below hb12
  have b0 := hI12.box.2 0 _ rfl
  have b1 := hI12.box.2 1 _ rfl
  have b2 := hI12.box.2 2 _ rfl
  have bs := hI12.box.1
  have qp0 := hP12.cell 0
  have qp1 := hP12.cell 1
  have qp2 := hP12.cell 2
  have qpl := hP12.lt
  have qd0 := hD12.cell 0
  have qd1 := hD12.cell 1
  have qd2 := hD12.cell 2
  have qdl := hD12.lt
  have qe0 := hE12.cell 0
  have qe1 := hE12.cell 1
  have qe2 := hE12.cell 2
  have qel := hE12.lt
  rw [← HXJ.out] at hcase
  rcases hcase with ⟨-, u0, u1, u2, rfl, hOj⟩ | ⟨hf, -⟩
  case inr => rw [HJ1.out] at hf; cases hf
  obtain ⟨AJ, BJ, CJ, aJ', bJ', cJ', rfl, rfl, rfl⟩ := hOj.formR
  obtain ⟨W13, hW⟩ : ∃ X, X = W12.alloc (.cells #[.slice AJ xj.ps.length aJ', .slice BJ xj.cs.length bJ', .slice CJ xj.js.length cJ'] 26) := ⟨_, rfl⟩
  have hb13 : Below W12.heap.size W12 W13 := by rw [hW]; exact balloc _ _
  obtain ⟨NJ, hN⟩ : ∃ X, X = W12.heap.size := ⟨_, rfl⟩
  have hJ13 : Blk W13 NJ 26 #[.slice AJ xj.ps.length aJ', .slice BJ xj.cs.length bJ', .slice CJ xj.js.length cJ'] := by rw [hW, hN]; exact Blk.new _ _ _
  have hRJ13 := (hOj.rdR (by omega) (by omega) (by omega)).below hb13
  go_upto_region 14 with fail
  rw [← hW, ← hN]
  clear hW hN
  clear b0 b1 b2 bs qp0 qp1 qp2 qpl qd0 qd1 qd2 qdl qe0 qe1 qe2 qel
  have hI13 := hI12.step hb13
  have hP13 := hP12.below hb13 hP12.lt
  have hRP13 := hRP12.below hb13
  have hD13 := hD12.below hb13 hD12.lt
  have hRD13 := hRD12.below hb13
  have hE13 := hE12.below hb13 hE12.lt
  have hRE13 := hRE12.below hb13
  have b0 := hI13.box.2 0 _ rfl
  have b1 := hI13.box.2 1 _ rfl
  have b2 := hI13.box.2 2 _ rfl
  have bs := hI13.box.1
  have qp0 := hP13.cell 0
  have qp1 := hP13.cell 1
  have qp2 := hP13.cell 2
  have qpl := hP13.lt
  have qd0 := hD13.cell 0
  have qd1 := hD13.cell 1
  have qd2 := hD13.cell 2
  have qdl := hD13.lt
  have qe0 := hE13.cell 0
  have qe1 := hE13.cell 1
  have qe2 := hE13.cell 2
  have qel := hE13.lt
  have qj0 := hJ13.cell 0
  have qj1 := hJ13.cell 1
  have qj2 := hJ13.cell 2
  have qjl := hJ13.lt
  clear hOj
  go_region_held3 (fun w' => w'.cell? ⟨w.heap.size, 0, none⟩ = some (.slice A r.ps.length a) ∧ w'.cell? ⟨w.heap.size, 1, none⟩ = some (.slice B r.cs.length b) ∧ w'.cell? ⟨w.heap.size, 2, none⟩ = some (.slice C r.js.length c) ∧ w'.cell? ⟨NP, 0, none⟩ = some (.slice AP pr.ps.length aP') ∧ w'.cell? ⟨NP, 1, none⟩ = some (.slice BP pr.cs.length bP') ∧ w'.cell? ⟨NP, 2, none⟩ = some (.slice CP pr.js.length cP') ∧ w'.cell? ⟨ND, 0, none⟩ = some (.slice AD xa.ps.length aD') ∧ w'.cell? ⟨ND, 1, none⟩ = some (.slice BD xa.cs.length bD') ∧ w'.cell? ⟨ND, 2, none⟩ = some (.slice CD xa.js.length cD') ∧ w'.cell? ⟨NE, 0, none⟩ = some (.slice AE xb.ps.length aE') ∧ w'.cell? ⟨NE, 1, none⟩ = some (.slice BE xb.cs.length bE') ∧ w'.cell? ⟨NE, 2, none⟩ = some (.slice CE xb.js.length cE') ∧ w'.cell? ⟨NJ, 0, none⟩ = some (.slice AJ xj.ps.length aJ') ∧ w'.cell? ⟨NJ, 1, none⟩ = some (.slice BJ xj.cs.length bJ') ∧ w'.cell? ⟨NJ, 2, none⟩ = some (.slice CJ xj.js.length cJ')) (go_keep)
    (first
      | (go_at_call 35; refine (rsame_eq nm AY BY CY AX BX CX aY' bY' cY' aX' bX' cX' _ hRY2 hRX).mono ?_; rintro e W16 ⟨rfl, hb16⟩; have hI16 := hI15.step hb16; have hP16 := hP15.below hb16 hP15.lt; have hRP16 := hRP15.below hb16; have hD16 := hD15.below hb16 hD15.lt; have hRD16 := hRD15.below hb16; have hE16 := hE15.below hb16 hE15.lt; have hRE16 := hRE15.below hb16; have hJ16 := hJ15.below hb16 hJ15.lt; have hRJ16 := hRJ15.below hb16; clear b0 b1 b2 qp0 qp1 qp2 qd0 qd1 qd2 qe0 qe1 qe2 qj0 qj1 qj2; have b0 := hI16.box.2 0 _ rfl; have b1 := hI16.box.2 1 _ rfl; have b2 := hI16.box.2 2 _ rfl; have qp0 := hP16.cell 0; have qp1 := hP16.cell 1; have qp2 := hP16.cell 2; have qd0 := hD16.cell 0; have qd1 := hD16.cell 1; have qd2 := hD16.cell 2; have qe0 := hE16.cell 0; have qe1 := hE16.cell 1; have qe2 := hE16.cell 2; have qj0 := hJ16.cell 0; have qj1 := hJ16.cell 1; have qj2 := hJ16.cell 2)
      | (go_at_call 36; refine (rnormal_any r A B C a b c _ (hI14.rd h) HOL.out (by omega) (by omega) (by omega)).mono ?_; rintro e W15 ⟨⟨u0, u1, u2, rfl, hOX⟩, hb15⟩; rw [← HNM.out] at hOX; obtain ⟨AX, BX, CX, aX', bX', cX', rfl, rfl, rfl⟩ := hOX.formR; have hRX := hOX.rdR (by omega) (by omega) (by omega); have hRY2 := hRY.below hb15; have hI15 := hI14.step hb15; have hP15 := hP14.below hb15 hP14.lt; have hRP15 := hRP14.below hb15; have hD15 := hD14.below hb15 hD14.lt; have hRD15 := hRD14.below hb15; have hE15 := hE14.below hb15 hE14.lt; have hRE15 := hRE14.below hb15; have hJ15 := hJ14.below hb15 hJ14.lt; have hRJ15 := hRJ14.below hb15; clear b0 b1 b2 qp0 qp1 qp2 qd0 qd1 qd2 qe0 qe1 qe2 qj0 qj1 qj2; have b0 := hI15.box.2 0 _ rfl; have b1 := hI15.box.2 1 _ rfl; have b2 := hI15.box.2 2 _ rfl; have qp0 := hP15.cell 0; have qp1 := hP15.cell 1; have qp2 := hP15.cell 2; have qd0 := hD15.cell 0; have qd1 := hD15.cell 1; have qd2 := hD15.cell 2; have qe0 := hE15.cell 0; have qe1 := hE15.cell 1; have qe2 := hE15.cell 2; have qj0 := hJ15.cell 0; have qj1 := hJ15.cell 1; have qj2 := hJ15.cell 2)
      | (go_at_call 36; refine (rnormal_any xj AJ BJ CJ aJ' bJ' cJ' _ (hRJ13.below (below_drew _ _)) HJ2.out (by omega) (by omega) (by omega)).mono ?_; rintro e W14 ⟨⟨u0, u1, u2, rfl, hOY⟩, hb14⟩; rw [HJN.out] at hOY; obtain ⟨AY, BY, CY, aY', bY', cY', rfl, rfl, rfl⟩ := hOY.formR; have hRY := hOY.rdR (by omega) (by omega) (by omega); have hI14 := (hI13.step (below_drew _ _)).step hb14; have hP14 := (hP13.below (below_drew _ _) hP13.lt).below hb14 hP13.lt; have hRP14 := (hRP13.below (below_drew _ _)).below hb14; have hD14 := (hD13.below (below_drew _ _) hD13.lt).below hb14 hD13.lt; have hRD14 := (hRD13.below (below_drew _ _)).below hb14; have hE14 := (hE13.below (below_drew _ _) hE13.lt).below hb14 hE13.lt; have hRE14 := (hRE13.below (below_drew _ _)).below hb14; have hJ14 := (hJ13.below (below_drew _ _) hJ13.lt).below hb14 hJ13.lt; have hRJ14 := (hRJ13.below (below_drew _ _)).below hb14; clear b0 b1 b2 qp0 qp1 qp2 qd0 qd1 qd2 qe0 qe1 qe2 qj0 qj1 qj2; have b0 := hI14.box.2 0 _ rfl; have b1 := hI14.box.2 1 _ rfl; have b2 := hI14.box.2 2 _ rfl; have qp0 := hP14.cell 0; have qp1 := hP14.cell 1; have qp2 := hP14.cell 2; have qd0 := hD14.cell 0; have qd1 := hD14.cell 1; have qd2 := hD14.cell 2; have qe0 := hE14.cell 0; have qe1 := hE14.cell 1; have qe2 := hE14.cell 2; have qj0 := hJ14.cell 0; have qj1 := hJ14.cell 1; have qj2 := hJ14.cell 2)
      | (go_at_call 19; refine (known_any _).mono ?_; rintro e W17 ⟨rfl, hb17⟩; have hI17 := hI16.step hb17; have hP17 := hP16.below hb17 hP16.lt; have hRP17 := hRP16.below hb17; have hD17 := hD16.below hb17 hD16.lt; have hRD17 := hRD16.below hb17; have hE17 := hE16.below hb17 hE16.lt; have hRE17 := hRE16.below hb17; have hJ17 := hJ16.below hb17 hJ16.lt; have hRJ17 := hRJ16.below hb17; clear b0 b1 b2 qp0 qp1 qp2 qd0 qd1 qd2 qe0 qe1 qe2 qj0 qj1 qj2; have b0 := hI17.box.2 0 _ rfl; have b1 := hI17.box.2 1 _ rfl; have b2 := hI17.box.2 2 _ rfl; have qp0 := hP17.cell 0; have qp1 := hP17.cell 1; have qp2 := hP17.cell 2; have qd0 := hD17.cell 0; have qd1 := hD17.cell 1; have qd2 := hD17.cell 2; have qe0 := hE17.cell 0; have qe1 := hE17.cell 1; have qe2 := hE17.cell 2; have qj0 := hJ17.cell 0; have qj1 := hJ17.cell 1; have qj2 := hJ17.cell 2))
  go_wp2_with fail
  go_ret
  exact ⟨rfl, hI17.below⟩

end Go.Proofs.Ytbdjmaogbpdkpaa

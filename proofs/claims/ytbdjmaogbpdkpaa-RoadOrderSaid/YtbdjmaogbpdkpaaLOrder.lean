import Derived.Test.YtbdjmaogbpdkpaaKnown
import Derived.Test.YtbdjmaogbpdkpaaLCorners
import Derived.Test.YtbdjmaogbpdkpaaOrd
/-
  The law RoadOrder, walked: it answers true.
-/
namespace Go.Proofs.Ytbdjmaogbpdkpaa
set_option linter.unusedVariables false
set_option linter.unusedSimpArgs false
open Go.RowKit Go.Shelf

theorem field52_1 (w : World) (l t r d s : Int) : (Instr.field 52 (.agg #[.int .i64 l, .int .i64 t, .int .i64 r, .int .i64 d, .int .i64 s]) 1).run Try.prog w = .ok (.int .i64 t) w := by kernel_rfl
attribute [local go_sem] field52_1 wide_fn wide_depth Oper.semAt_some Later.cell Later.cell1 Later.new1 Later.frozen Later.frozen1 max_ints min_ints

theorem cell_far {w : World} {p : Addr} {u : Value} {b o : Nat} (h : b ≠ p.block) : (w.setCell p u).cell? ⟨b, o, none⟩ = w.cell? ⟨b, o, none⟩ := by
  unfold World.cell?
  rw [Below.heap_setCell w p u b h]

theorem rat_p (r : Road) (A B C : Option Addr) (a b c : Nat) (x : Int) (w : World) (h : RdRoad w r A B C) (hok : okPs r) (hx0 : 0 ≤ x) (hx1 : x < lenSum r.ps) :
    Calls Try.prog 29 #[.agg #[.slice A r.ps.length a, .slice B r.cs.length b, .slice C r.js.length c], .int .i64 x] w fun e w' => e = .returned (.agg #[.int .i64 (atP r.ps x).len, .int .i64 (atP r.ps x).turn, .int .i64 (atP r.ps x).rad, .int .i64 (atP r.ps x).wid, .int .i64 (atP r.ps x).sur]) ∧ Below w.heap.size w w' :=
  (rat_any r A B C a b c x w h hok hx0 hx1).mono fun _ _ ⟨⟨k, p, hf, hp, e⟩, hb⟩ => ⟨by rw [e, atP_find r.ps x k p (fun q hq => (hok.lens q hq).1) hf hp], hb⟩

set_option maxRecDepth 100000 in
set_option maxHeartbeats 16000000 in
theorem orderlaw_any (r : Road) (A B C : Option Addr) (a b c : Nat) (gap least more : Int) (w : World) (h : RdRoad w r A B C) :
    Calls Try.prog 6 #[.agg #[.slice A r.ps.length a, .slice B r.cs.length b, .slice C r.js.length c], .agg #[.int .i64 gap, .int .i64 least], .int .i64 more] w fun e w' => e = .returned (.bool true) ∧ Below w.heap.size w w' := by
  have hR0 : InR w ((w.alloc (.cells #[.slice A r.ps.length a, .slice B r.cs.length b, .slice C r.js.length c] 26)).alloc (.cells #[.int .i64 gap, .int .i64 least] 41)) r A B C a b c := (InR.new w r A B C a b c).step (balloc _ _)
  have hB0 : Box ((w.alloc (.cells #[.slice A r.ps.length a, .slice B r.cs.length b, .slice C r.js.length c] 26)).alloc (.cells #[.int .i64 gap, .int .i64 least] 41)) (w.heap.size + 1) [.int .i64 gap, .int .i64 least] := by
    have := Box.new (w.alloc (.cells #[.slice A r.ps.length a, .slice B r.cs.length b, .slice C r.js.length c] 26)) [.int .i64 gap, .int .i64 least] 41
    rwa [World.size_alloc] at this
  have hK0 : Blk ((w.alloc (.cells #[.slice A r.ps.length a, .slice B r.cs.length b, .slice C r.js.length c] 26)).alloc (.cells #[.int .i64 gap, .int .i64 least] 41)) (w.heap.size + 1) 41 #[.int .i64 gap, .int .i64 least] := blk_at _ _ _ _ (by simp)
  cases hs : smallB r
  · go_enter Try.func6, Try.ntmps6
    go_wp2_with fail
    refine (small_any r A B C a b c _ (hR0.rd h)).mono ?_
    rintro e W1 ⟨rfl, hb1⟩
    have hI1 := hR0.step hb1
    have hB0_1 := hB0.below hb1
    have b0 := hI1.box.2 0 _ rfl
    have b1 := hI1.box.2 1 _ rfl
    have b2 := hI1.box.2 2 _ rfl
    have bs := hI1.box.1
    have c0_0 := hB0_1.2 0 _ rfl
    have c0_1 := hB0_1.2 1 _ rfl
    have cs0 := hB0_1.1
    go_wp2_with fail
    refine (known_any _).mono ?_
    rintro e W2 ⟨rfl, hb2⟩
    have hI2 := hI1.step hb2
    have hB0_2 := hB0_1.below hb2
    clear b0 b1 b2 bs c0_0 c0_1 cs0
    have b0 := hI2.box.2 0 _ rfl
    have b1 := hI2.box.2 1 _ rfl
    have b2 := hI2.box.2 2 _ rfl
    have bs := hI2.box.1
    have c0_0 := hB0_2.2 0 _ rfl
    have c0_1 := hB0_2.2 1 _ rfl
    have cs0 := hB0_2.1
    go_wp2_with fail
    go_ret
    exact ⟨rfl, hI2.below⟩
  cases hv : validB r
  · go_enter Try.func6, Try.ntmps6
    go_wp2_with fail
    refine (small_any r A B C a b c _ (hR0.rd h)).mono ?_
    rintro e W1 ⟨rfl, hb1⟩
    have hI1 := hR0.step hb1
    have hB0_1 := hB0.below hb1
    have b0 := hI1.box.2 0 _ rfl
    have b1 := hI1.box.2 1 _ rfl
    have b2 := hI1.box.2 2 _ rfl
    have bs := hI1.box.1
    have c0_0 := hB0_1.2 0 _ rfl
    have c0_1 := hB0_1.2 1 _ rfl
    have cs0 := hB0_1.1
    go_wp2_with fail
    refine (rvalid_any r A B C a b c _ (hI1.rd h)).mono ?_
    rintro e W2 ⟨rfl, hb2⟩
    have hI2 := hI1.step hb2
    have hB0_2 := hB0_1.below hb2
    clear b0 b1 b2 bs c0_0 c0_1 cs0
    have b0 := hI2.box.2 0 _ rfl
    have b1 := hI2.box.2 1 _ rfl
    have b2 := hI2.box.2 2 _ rfl
    have bs := hI2.box.1
    have c0_0 := hB0_2.2 0 _ rfl
    have c0_1 := hB0_2.2 1 _ rfl
    have cs0 := hB0_2.1
    go_wp2_with fail
    refine (known_any _).mono ?_
    rintro e W3 ⟨rfl, hb3⟩
    have hI3 := hI2.step hb3
    have hB0_3 := hB0_2.below hb3
    clear b0 b1 b2 bs c0_0 c0_1 cs0
    have b0 := hI3.box.2 0 _ rfl
    have b1 := hI3.box.2 1 _ rfl
    have b2 := hI3.box.2 2 _ rfl
    have bs := hI3.box.1
    have c0_0 := hB0_3.2 0 _ rfl
    have c0_1 := hB0_3.2 1 _ rfl
    have cs0 := hB0_3.1
    go_wp2_with fail
    go_ret
    exact ⟨rfl, hI3.below⟩
  have hok := (validB_ok hv).1
  have hlb : lensOk r.ps 100000 := fun p hp => ⟨(hok.lens p hp).1, by have := (hok.lens p hp).2; omega⟩
  have HLB := Lib.hid hlb
  have HV := Lib.hid hv
  have hlen := hok.2
  have hlen2 := (validB_ok hv).2.2.1
  have hln := (hok.beg r.ps.length).1
  rw [List.take_length] at hln
  clear hlb
  cases hbo : bendsOk gap least
  · go_enter Try.func6, Try.ntmps6
    go_wp2_with fail
    refine (small_any r A B C a b c _ (hR0.rd h)).mono ?_
    rintro e W1 ⟨rfl, hb1⟩
    have hI1 := hR0.step hb1
    have hB0_1 := hB0.below hb1
    have b0 := hI1.box.2 0 _ rfl
    have b1 := hI1.box.2 1 _ rfl
    have b2 := hI1.box.2 2 _ rfl
    have bs := hI1.box.1
    have c0_0 := hB0_1.2 0 _ rfl
    have c0_1 := hB0_1.2 1 _ rfl
    have cs0 := hB0_1.1
    go_wp2_with fail
    refine (rvalid_any r A B C a b c _ (hI1.rd h)).mono ?_
    rintro e W2 ⟨rfl, hb2⟩
    have hI2 := hI1.step hb2
    have hB0_2 := hB0_1.below hb2
    clear b0 b1 b2 bs c0_0 c0_1 cs0
    have b0 := hI2.box.2 0 _ rfl
    have b1 := hI2.box.2 1 _ rfl
    have b2 := hI2.box.2 2 _ rfl
    have bs := hI2.box.1
    have c0_0 := hB0_2.2 0 _ rfl
    have c0_1 := hB0_2.2 1 _ rfl
    have cs0 := hB0_2.1
    go_wp2_with fail
    refine (rbends_any gap least _).mono ?_
    rintro e W3 ⟨rfl, hb3⟩
    have hI3 := hI2.step hb3
    have hB0_3 := hB0_2.below hb3
    clear b0 b1 b2 bs c0_0 c0_1 cs0
    have b0 := hI3.box.2 0 _ rfl
    have b1 := hI3.box.2 1 _ rfl
    have b2 := hI3.box.2 2 _ rfl
    have bs := hI3.box.1
    have c0_0 := hB0_3.2 0 _ rfl
    have c0_1 := hB0_3.2 1 _ rfl
    have cs0 := hB0_3.1
    go_wp2_with fail
    refine (known_any _).mono ?_
    rintro e W4 ⟨rfl, hb4⟩
    have hI4 := hI3.step hb4
    have hB0_4 := hB0_3.below hb4
    clear b0 b1 b2 bs c0_0 c0_1 cs0
    have b0 := hI4.box.2 0 _ rfl
    have b1 := hI4.box.2 1 _ rfl
    have b2 := hI4.box.2 2 _ rfl
    have bs := hI4.box.1
    have c0_0 := hB0_4.2 0 _ rfl
    have c0_1 := hB0_4.2 1 _ rfl
    have cs0 := hB0_4.1
    go_wp2_with fail
    go_ret
    exact ⟨rfl, hI4.below⟩
  by_cases hm0 : more < 0
  · go_enter Try.func6, Try.ntmps6
    go_wp2_with fail
    refine (small_any r A B C a b c _ (hR0.rd h)).mono ?_
    rintro e W1 ⟨rfl, hb1⟩
    have hI1 := hR0.step hb1
    have hB0_1 := hB0.below hb1
    have b0 := hI1.box.2 0 _ rfl
    have b1 := hI1.box.2 1 _ rfl
    have b2 := hI1.box.2 2 _ rfl
    have bs := hI1.box.1
    have c0_0 := hB0_1.2 0 _ rfl
    have c0_1 := hB0_1.2 1 _ rfl
    have cs0 := hB0_1.1
    go_wp2_with fail
    refine (rvalid_any r A B C a b c _ (hI1.rd h)).mono ?_
    rintro e W2 ⟨rfl, hb2⟩
    have hI2 := hI1.step hb2
    have hB0_2 := hB0_1.below hb2
    clear b0 b1 b2 bs c0_0 c0_1 cs0
    have b0 := hI2.box.2 0 _ rfl
    have b1 := hI2.box.2 1 _ rfl
    have b2 := hI2.box.2 2 _ rfl
    have bs := hI2.box.1
    have c0_0 := hB0_2.2 0 _ rfl
    have c0_1 := hB0_2.2 1 _ rfl
    have cs0 := hB0_2.1
    go_wp2_with fail
    refine (rbends_any gap least _).mono ?_
    rintro e W3 ⟨rfl, hb3⟩
    have hI3 := hI2.step hb3
    have hB0_3 := hB0_2.below hb3
    clear b0 b1 b2 bs c0_0 c0_1 cs0
    have b0 := hI3.box.2 0 _ rfl
    have b1 := hI3.box.2 1 _ rfl
    have b2 := hI3.box.2 2 _ rfl
    have bs := hI3.box.1
    have c0_0 := hB0_3.2 0 _ rfl
    have c0_1 := hB0_3.2 1 _ rfl
    have cs0 := hB0_3.1
    go_wp2_with fail
    refine (known_any _).mono ?_
    rintro e W4 ⟨rfl, hb4⟩
    have hI4 := hI3.step hb4
    have hB0_4 := hB0_3.below hb4
    clear b0 b1 b2 bs c0_0 c0_1 cs0
    have b0 := hI4.box.2 0 _ rfl
    have b1 := hI4.box.2 1 _ rfl
    have b2 := hI4.box.2 2 _ rfl
    have bs := hI4.box.1
    have c0_0 := hB0_4.2 0 _ rfl
    have c0_1 := hB0_4.2 1 _ rfl
    have cs0 := hB0_4.1
    go_wp2_with fail
    go_ret
    exact ⟨rfl, hI4.below⟩
  by_cases hm1 : 10000 < more
  · go_enter Try.func6, Try.ntmps6
    go_wp2_with fail
    refine (small_any r A B C a b c _ (hR0.rd h)).mono ?_
    rintro e W1 ⟨rfl, hb1⟩
    have hI1 := hR0.step hb1
    have hB0_1 := hB0.below hb1
    have b0 := hI1.box.2 0 _ rfl
    have b1 := hI1.box.2 1 _ rfl
    have b2 := hI1.box.2 2 _ rfl
    have bs := hI1.box.1
    have c0_0 := hB0_1.2 0 _ rfl
    have c0_1 := hB0_1.2 1 _ rfl
    have cs0 := hB0_1.1
    go_wp2_with fail
    refine (rvalid_any r A B C a b c _ (hI1.rd h)).mono ?_
    rintro e W2 ⟨rfl, hb2⟩
    have hI2 := hI1.step hb2
    have hB0_2 := hB0_1.below hb2
    clear b0 b1 b2 bs c0_0 c0_1 cs0
    have b0 := hI2.box.2 0 _ rfl
    have b1 := hI2.box.2 1 _ rfl
    have b2 := hI2.box.2 2 _ rfl
    have bs := hI2.box.1
    have c0_0 := hB0_2.2 0 _ rfl
    have c0_1 := hB0_2.2 1 _ rfl
    have cs0 := hB0_2.1
    go_wp2_with fail
    refine (rbends_any gap least _).mono ?_
    rintro e W3 ⟨rfl, hb3⟩
    have hI3 := hI2.step hb3
    have hB0_3 := hB0_2.below hb3
    clear b0 b1 b2 bs c0_0 c0_1 cs0
    have b0 := hI3.box.2 0 _ rfl
    have b1 := hI3.box.2 1 _ rfl
    have b2 := hI3.box.2 2 _ rfl
    have bs := hI3.box.1
    have c0_0 := hB0_3.2 0 _ rfl
    have c0_1 := hB0_3.2 1 _ rfl
    have cs0 := hB0_3.1
    go_wp2_with fail
    refine (known_any _).mono ?_
    rintro e W4 ⟨rfl, hb4⟩
    have hI4 := hI3.step hb4
    have hB0_4 := hB0_3.below hb4
    clear b0 b1 b2 bs c0_0 c0_1 cs0
    have b0 := hI4.box.2 0 _ rfl
    have b1 := hI4.box.2 1 _ rfl
    have b2 := hI4.box.2 2 _ rfl
    have bs := hI4.box.1
    have c0_0 := hB0_4.2 0 _ rfl
    have c0_1 := hB0_4.2 1 _ rfl
    have cs0 := hB0_4.1
    go_wp2_with fail
    go_ret
    exact ⟨rfl, hI4.below⟩
  have hm0' : decide (more < 0) = false := by simpa using hm0
  have hm1' : decide (10000 < more) = false := by simpa using hm1
  have hbb : 0 ≤ gap ∧ gap ≤ 1000 ∧ 1 ≤ least ∧ least ≤ 10000 := by
    simp only [bendsOk, inB, Bool.and_eq_true, decide_eq_true_eq] at hbo
    omega
  have g1 := hbb.1
  have g2 := hbb.2.1
  have g3 := hbb.2.2.1
  have g4 := hbb.2.2.2
  clear hbb
  have hcl := cornersS_len r hok gap least
  have HCS := Lib.hid (corners_same r gap least hok)
  have HMO := Lib.hid ((corners_same r gap (min 10000 (least + more)) hok).trans (cornersS_more r gap least (min 10000 (least + more)) (by omega)))
  have hord := cornersS_ord r hok gap least
  go_enter Try.func6, Try.ntmps6
  go_wp2_with fail
  refine (small_any r A B C a b c _ (hR0.rd h)).mono ?_
  rintro e W1 ⟨rfl, hb1⟩
  have hI1 := hR0.step hb1
  have hB0_1 := hB0.below hb1
  have b0 := hI1.box.2 0 _ rfl
  have b1 := hI1.box.2 1 _ rfl
  have b2 := hI1.box.2 2 _ rfl
  have bs := hI1.box.1
  have c0_0 := hB0_1.2 0 _ rfl
  have c0_1 := hB0_1.2 1 _ rfl
  have cs0 := hB0_1.1
  go_wp2_with fail
  refine (rvalid_any r A B C a b c _ (hI1.rd h)).mono ?_
  rintro e W2 ⟨rfl, hb2⟩
  have hI2 := hI1.step hb2
  have hB0_2 := hB0_1.below hb2
  clear b0 b1 b2 bs c0_0 c0_1 cs0
  have b0 := hI2.box.2 0 _ rfl
  have b1 := hI2.box.2 1 _ rfl
  have b2 := hI2.box.2 2 _ rfl
  have bs := hI2.box.1
  have c0_0 := hB0_2.2 0 _ rfl
  have c0_1 := hB0_2.2 1 _ rfl
  have cs0 := hB0_2.1
  go_wp2_with fail
  refine (rbends_any gap least _).mono ?_
  rintro e W3 ⟨rfl, hb3⟩
  have hI3 := hI2.step hb3
  have hB0_3 := hB0_2.below hb3
  clear b0 b1 b2 bs c0_0 c0_1 cs0
  have b0 := hI3.box.2 0 _ rfl
  have b1 := hI3.box.2 1 _ rfl
  have b2 := hI3.box.2 2 _ rfl
  have bs := hI3.box.1
  have c0_0 := hB0_3.2 0 _ rfl
  have c0_1 := hB0_3.2 1 _ rfl
  have cs0 := hB0_3.1
  go_wp2_with fail
  refine (corners_walk r A B C a b c gap least _ (hI3.rd h) HV.out g1 g2 g3 g4).mono ?_
  rintro e W4 ⟨⟨v, rfl, hO⟩, hb4⟩
  have hI4 := hI3.step hb4
  have hB0_4 := hB0_3.below hb4
  clear b0 b1 b2 bs c0_0 c0_1 cs0
  have b0 := hI4.box.2 0 _ rfl
  have b1 := hI4.box.2 1 _ rfl
  have b2 := hI4.box.2 2 _ rfl
  have bs := hI4.box.1
  have c0_0 := hB0_4.2 0 _ rfl
  have c0_1 := hB0_4.2 1 _ rfl
  have cs0 := hB0_4.1
  rw [HCS.out] at hO
  generalize hcs : cornersS r gap least = cs at hO hcl hord HMO
  clear hcs
  obtain ⟨VA, va, rfl⟩ := hO.form
  have HOC := Lib.hid hord.1
  have HPW := Lib.hid hord.2
  clear hord
  have hbox4 := hB0_4
  have hK4 : Blk W4 (w.heap.size + 1) 41 #[.int .i64 gap, .int .i64 least] := (((hK0.below hb1 hK0.lt).below hb2 (Nat.lt_of_lt_of_le hK0.lt hb1.size)).below hb3 (Nat.lt_of_lt_of_le hK0.lt (Nat.le_trans hb1.size hb2.size))).below hb4 (Nat.lt_of_lt_of_le hK0.lt (Nat.le_trans hb1.size (Nat.le_trans hb2.size hb3.size)))
  have hw3 : w.heap.size + 1 < W3.heap.size := hB0_3.1
  clear hB0_1 hB0_2 hB0_3 hb1 hb2 hb3 hI1 hI2 hI3
  have hR4 := hO.rd coV_len
  go_wp2_with fail
  go_loopw [9, 10] (fun l i wr => ∃ k : Nat, k ≤ cs.length ∧ i = .int .i64 k ∧ l = .int .i64 (lastTo cs k) ∧ Below W4.heap.size W4 wr) (fun _ i _ => cs.length - (intOf i).toNat)
  case atStart => exact ⟨0, Nat.zero_le _, rfl, rfl, Below.refl _ _⟩
  case round =>
    rename World => wo
    obtain ⟨k, hk, rfl, rfl, hB5⟩ := hrel
    have hI5 := hI4.step hB5
    have hx5 := hbox4.below hB5
    clear b0 b1 b2 bs c0_0 c0_1 cs0
    have hlb := lastTo_bd cs HOC.out hln k
    have hl1 := hlb.1
    have hl2 := hlb.2
    clear hlb
    have s5 := hB5.size
    have b0 := hI5.box.2 0 _ rfl
    have b1 := hI5.box.2 1 _ rfl
    have b2 := hI5.box.2 2 _ rfl
    have bs := hI5.box.1
    have c0 := hx5.2 0 _ rfl
    have c1 := hx5.2 1 _ rfl
    have cs0 := hx5.1
    by_cases hlt : k < cs.length
    · obtain ⟨x, hx⟩ := getElem?_ex hlt
      have hOx := HOC.out x (List.mem_of_getElem? hx)
      have hlf := lastTo_le cs HOC.out HPW.out k x hx
      have HLS := Lib.hid (lastTo_succ cs k x hx)
      obtain ⟨gb, go, hGA, hgl, d0, d1, d2, d3, d4, d5, d6⟩ := (hR4.below hB5).at7 hx
      subst hGA
      have x1 := hOx.f0
      have x2 := hOx.ft
      have x3 := hOx.tn
      have x4 := hOx.al
      have x5 := hOx.ri
      have x6 := hOx.ro
      have e1 : decide (x.fr < lastTo cs k) = false := by simpa using hlf
      have e2 : decide (x.to ≤ x.fr) = false := by simpa using x2
      have e3 : decide (lenSum r.ps < x.to) = false := by simpa using x3
      have e4 : decide (x.ang < least) = false := by simpa using x4
      have e5 : decide (x.inn < x.rad) = false := by simpa using x5
      have e6 : decide (x.out < x.rad) = false := by simpa using x6
      clear hx
      go_upto_region 11 with fail
      have hI6 := hI5.step (balloc wo (.cells #[.int .i64 x.fr, .int .i64 x.to, .int .i64 x.turn, .int .i64 x.rad, .int .i64 x.inn, .int .i64 x.out, .int .i64 x.ang] 50))
      have hx6 := hx5.below (balloc wo (.cells #[.int .i64 x.fr, .int .i64 x.to, .int .i64 x.turn, .int .i64 x.rad, .int .i64 x.inn, .int .i64 x.out, .int .i64 x.ang] 50))
      have bX := Blk.new wo 50 #[.int .i64 x.fr, .int .i64 x.to, .int .i64 x.turn, .int .i64 x.rad, .int .i64 x.inn, .int .i64 x.out, .int .i64 x.ang]
      have hB6 : Below W4.heap.size W4 (wo.alloc (.cells #[.int .i64 x.fr, .int .i64 x.to, .int .i64 x.turn, .int .i64 x.rad, .int .i64 x.inn, .int .i64 x.out, .int .i64 x.ang] 50)) := bthen hB5 (balloc _ _)
      obtain ⟨N, hN⟩ : ∃ N, N = wo.heap.size := ⟨_, rfl⟩
      obtain ⟨W6, hW6⟩ : ∃ W6, W6 = wo.alloc (.cells #[.int .i64 x.fr, .int .i64 x.to, .int .i64 x.turn, .int .i64 x.rad, .int .i64 x.inn, .int .i64 x.out, .int .i64 x.ang] 50) := ⟨_, rfl⟩
      rw [← hW6] at hI6 hx6 bX hB6 ⊢
      rw [← hN] at bX ⊢
      clear hW6 b0 b1 b2 bs c0 c1 cs0 d0 d1 d2 d3 d4 d5 d6 hN
      have b0 := hI6.box.2 0 _ rfl
      have b1 := hI6.box.2 1 _ rfl
      have b2 := hI6.box.2 2 _ rfl
      have bs := hI6.box.1
      have c0 := hx6.2 0 _ rfl
      have c1 := hx6.2 1 _ rfl
      have cs0 := hx6.1
      have d0 := bX.cell 0
      have d1 := bX.cell 1
      have d2 := bX.cell 2
      have d3 := bX.cell 3
      have d4 := bX.cell 4
      have d5 := bX.cell 5
      have d6 := bX.cell 6
      have ds := bX.lt
      refine wp_region_later (by kernel_rfl) (by kernel_rfl) ?_
      repeat (go_big_quiet_step ((go_at_call 21; exact later_out (rlength_any r A B C a b c _ (hI6.rd h |>.below (Later.b _)) HLB.out (by omega)))))
      refine wpQuiet_nil ?_
      rintro _ ⟨y7, rfl⟩
      replace hI6 := hI6.step y7.b
      replace hx6 := hx6.below y7.b
      replace bX := bX.below y7.b ds
      replace hB6 := bthen hB6 y7.b
      obtain ⟨W7, hW7⟩ : ∃ W7, W7 = y7.w := ⟨_, rfl⟩
      rw [← hW7] at hI6 hx6 bX hB6 ⊢
      clear hW7 b0 b1 b2 bs c0 c1 cs0 d0 d1 d2 d3 d4 d5 d6 ds e1 e2 e3 e4 e5 e6
      have b0 := hI6.box.2 0 _ rfl
      have b1 := hI6.box.2 1 _ rfl
      have b2 := hI6.box.2 2 _ rfl
      have bs := hI6.box.1
      have d0 := bX.cell 0
      have d1 := bX.cell 1
      have HUP := Lib.hid hOx.upe
      have u1 := up_bd r hok x.fr
      have u2 := up_bd r hok x.to
      have hmb : -30000000000 ≤ x.turn * x.ang ∧ x.turn * x.ang ≤ 30000000000 := by rw [← HUP.out]; omega
      have f1 : IntKind.i64.wrap (x.turn * x.ang) = x.turn * x.ang := IntWalk.i64_in _ (by omega)
      clear hmb u1 u2
      have f2 : ((atP r.ps x.fr).turn != x.turn) = false := by rw [hOx.h1.atP hok (by omega) (by omega)]; simp
      have f3 : ((atP r.ps (x.to - 1)).turn != x.turn) = false := by rw [hOx.h2.atP hok (by omega) (by omega)]; simp
      have xt1 : -1 ≤ x.turn := by have := hOx.tu; omega
      have xt2 : x.turn ≤ 1 := by have := hOx.tu; omega
      go_upto_region 15 with (go_at_call 23; refine (turning_good r A B C a b c x.fr x.to _ (hI6.rd h) HV.out (by omega) (by omega) (by omega)).mono ?_; rw [HUP.out]; rintro e W8 ⟨rfl, hb8⟩)
      replace hI6 := hI6.step hb8
      replace hx6 := hx6.below hb8
      replace bX := bX.below hb8 bX.lt
      replace hB6 := bthen hB6 hb8
      clear b0 b1 b2 bs d0 d1 hb8
      have b0 := hI6.box.2 0 _ rfl
      have b1 := hI6.box.2 1 _ rfl
      have b2 := hI6.box.2 2 _ rfl
      have bs := hI6.box.1
      have d0 := bX.cell 0
      have d1 := bX.cell 1
      have d2 := bX.cell 2
      have d6 := bX.cell 6
      have ds := bX.lt
      refine wp_region_later (by kernel_rfl) (by kernel_rfl) ?_
      repeat (go_big_quiet_step ((go_at_call 29; exact later_out (rat_p r A B C a b c _ _ (hI6.rd h |>.below (Later.b _)) hok (by omega) (by omega)))))
      refine wpQuiet_nil ?_
      rintro _ ⟨y9, rfl⟩
      replace hI6 := hI6.step y9.b
      replace hx6 := hx6.below y9.b
      replace bX := bX.below y9.b ds
      replace hB6 := bthen hB6 y9.b
      obtain ⟨W9, hW9⟩ : ∃ W9, W9 = y9.w := ⟨_, rfl⟩
      rw [← hW9] at hI6 hx6 bX hB6 ⊢
      clear hW9 b0 b1 b2 bs d0 d1 d2 d6 ds f1 f2 f3
      have d0 := bX.cell 0
      have hNT := Lib.hid hOx.h3
      go_wp2_with fail
      go_loopw [14] (fun p wr => ∃ y : Int, p = .int .i64 y ∧ x.fr ≤ y ∧ y ≤ x.to ∧ Below W9.heap.size W9 wr) (fun p _ => (x.to - intOf p).toNat)
      case atStart => exact ⟨x.fr, rfl, by omega, by omega, Below.refl _ _⟩
      case round =>
        rename World => wi
        obtain ⟨y, rfl, y1, y2, hBi⟩ := hrel
        have hIi := hI6.step hBi
        have bXi := bX.below hBi bX.lt
        clear d0
        have b0 := hIi.box.2 0 _ rfl
        have b1 := hIi.box.2 1 _ rfl
        have b2 := hIi.box.2 2 _ rfl
        have bs := hIi.box.1
        have d1 := bXi.cell 1
        have d2 := bXi.cell 2
        have ds := bXi.lt
        by_cases hy : y < x.to
        · have f4 : ((atP r.ps y).turn == -x.turn) = false := by
            have := (hNT.out y y1 hy).atP hok (by omega) (by omega)
            simpa using this
          go_wp2_with fail
          refine wp_region_later (by kernel_rfl) (by kernel_rfl) ?_
          repeat (go_big_quiet_step ((go_at_call 29; exact later_out (rat_p r A B C a b c _ _ (hIi.rd h |>.below (Later.b _)) hok (by omega) (by omega)))))
          refine wpQuiet_nil ?_
          rintro _ ⟨y10, rfl⟩
          go_wp2_with fail
          go_roundw
          case rel => exact ⟨y + 1, rfl, by omega, by omega, bthen hBi y10.b⟩
          case measure => simp [intOf]; omega
        · go_wp2_with fail
          go_roundw
          case rel => exact ⟨k + 1, by omega, by go_num, by rw [HLS.out], bthen hB6 hBi⟩
          case measure => simp [intOf]; omega
    · obtain rfl : k = cs.length := by omega
      have hK5 := hK4.below hB5 hK4.lt
      have kf := hK5.frozen 1
      have f1 : IntKind.i64.wrap (least + more) = least + more := IntWalk.i64_in _ (by omega)
      go_upto_region 23 with fail
      have hI10 := hI5.step2 ((Below.refl (w.heap.size + 1) wo).setCell (p := ⟨w.heap.size + 1, 1, none⟩) (Nat.le_refl _) (.int .i64 (min 10000 (least + more))))
      have hB10 := (hK5.set_ 1 (.int .i64 (min 10000 (least + more)))).box (cs := [.int .i64 gap, .int .i64 (min 10000 (least + more))])
      have hR10 : Rd 7 coV (wo.setCell ⟨w.heap.size + 1, 1, none⟩ (.int .i64 (min 10000 (least + more)))) VA cs := by
        intro i x hx
        obtain ⟨b', o', e', hlt', hc'⟩ := (hR4.below hB5) i x hx
        have hge := (hO.lt b' (by rw [e']; rfl)).1
        have hbs := hB0_4.1
        refine ⟨b', o', e', by simp [World.setCell]; exact hlt', fun q u hu => ?_⟩
        rw [cell_far (by have := hw3; simp; omega)]
        exact hc' q u hu
      obtain ⟨W10, hW10⟩ : ∃ W10, W10 = wo.setCell ⟨w.heap.size + 1, 1, none⟩ (.int .i64 (min 10000 (least + more))) := ⟨_, rfl⟩
      rw [← hW10] at hI10 hB10 hR10 ⊢
      clear hW10 b0 b1 b2 bs c0 c1 cs0 kf
      obtain ⟨nl, hnl⟩ : ∃ nl, nl = min 10000 (least + more) := ⟨_, rfl⟩
      have n1 : least ≤ nl := by omega
      have n2 : nl ≤ 10000 := by omega
      rw [← hnl] at HMO hB10 ⊢
      clear hnl
      have b0 := hI10.box.2 0 _ rfl
      have b1 := hI10.box.2 1 _ rfl
      have b2 := hI10.box.2 2 _ rfl
      have bs := hI10.box.1
      have c0 := hB10.2 0 _ rfl
      have c1 := hB10.2 1 _ rfl
      have cs0 := hB10.1
      have hff : ∀ x ∈ cs.filter (fun x => decide (nl ≤ x.ang)), nl ≤ x.ang := fun x hx => by simpa using (List.mem_filter.1 hx).2
      have HFF := Lib.hid hff
      clear hff
      go_wp2_with (go_at_call 25; refine (corners_walk r A B C a b c gap nl _ (hI10.rd h) HV.out g1 g2 (by omega) n2).mono ?_; rintro e W11 ⟨⟨v2, rfl, hO2⟩, hb11⟩; rw [HMO.out] at hO2; obtain ⟨ds, hds⟩ : ∃ ds, ds = cs.filter (fun x => decide (nl ≤ x.ang)) := ⟨_, rfl⟩; rw [← hds] at hO2; have HDS := Lib.hid hds; clear hds; obtain ⟨VD, vd, rfl⟩ := hO2.form)
      rw [← HDS.out] at HFF
      have hRC := hR10.below hb11
      have hRD := hO2.rd coV_len
      have hI11 := hI10.step hb11
      have hB11 := hB10.below hb11
      have hdl : ds.length ≤ 2000 := by
        rw [HDS.out]
        have := List.length_filter_le (fun x : Co => decide (nl ≤ x.ang)) cs
        omega
      clear b0 b1 b2 bs c0 c1 cs0
      go_loopw [17, 18] (fun q i wr => ∃ k m : Nat, k ≤ cs.length ∧ i = .int .i64 k ∧ q = .int .i64 m ∧ m ≤ ds.length ∧ Hid (m = ((cs.take k).filter fun x => decide (nl ≤ x.ang)).length) ∧ Below W11.heap.size W11 wr) (fun _ i _ => cs.length - (intOf i).toNat)
      case atStart => exact ⟨0, 0, Nat.zero_le _, rfl, rfl, Nat.zero_le _, Lib.hid (by simp), Below.refl _ _⟩
      case round =>
        rename World => wi
        obtain ⟨k, m, hk, rfl, rfl, hm, HM, hBi⟩ := hrel
        have hIi := hI11.step hBi
        have hxi := hB11.below hBi
        have c1 := hxi.2 1 _ rfl
        have cs0 := hxi.1
        by_cases hlt : k < cs.length
        · obtain ⟨x, hx⟩ := getElem?_ex hlt
          have HFA := Lib.hid (filter_at (fun x : Co => decide (nl ≤ x.ang)) cs k x hx)
          obtain ⟨gb, go, hGA, hgl, d0, d1, d2, d3, d4, d5, d6⟩ := (hRC.below hBi).at7 hx
          subst hGA
          clear hx
          by_cases hfx : nl ≤ x.ang
          · obtain ⟨hA1, hA2⟩ := HFA.out.1 (by simpa using hfx)
            rw [← HM.out, ← HDS.out] at hA1
            rw [← HM.out] at hA2
            have HA2 := Lib.hid hA2
            clear hA2
            have hml : m < ds.length := (List.getElem?_eq_some_iff.1 hA1).1
            obtain ⟨hb, ho, hHA, hhl, q0, q1, q2, q3, q4, q5, q6⟩ := (hRD.below hBi).at7 hA1
            subst hHA
            clear hA1
            have hmd : decide (m < ds.length) = true := by simpa using hml
            go_wp2_with fail
            refine wp_region_later (by kernel_rfl) (by kernel_rfl) ?_
            repeat (go_big_quiet_step (fail))
            refine wpQuiet_nil ?_
            rintro _ ⟨y10, rfl⟩
            go_wp2_with fail
            go_roundw
            case rel => exact ⟨k + 1, m + 1, by omega, by go_num, by go_num, by omega, Lib.hid HA2.out.symm, bthen hBi y10.b⟩
            case measure => simp [intOf]; omega
          · have HA2 := Lib.hid (HFA.out.2 (by simpa using hfx))
            have hle : decide (nl ≤ x.ang) = false := by simpa using hfx
            by_cases hml : m < ds.length
            · obtain ⟨y, hy⟩ := getElem?_ex hml
              have hya := HFF.out y (List.mem_of_getElem? hy)
              have hne : (y.ang == x.ang) = false := by simp; omega
              obtain ⟨hb, ho, hHA, hhl, q0, q1, q2, q3, q4, q5, q6⟩ := (hRD.below hBi).at7 hy
              subst hHA
              clear hy
              have hmd : decide (m < ds.length) = true := by simpa using hml
              go_wp2_with fail
              refine wp_region_later (by kernel_rfl) (by kernel_rfl) ?_
              repeat (go_big_quiet_step (fail))
              refine wpQuiet_nil ?_
              rintro _ ⟨y10, rfl⟩
              have c1' := (hxi.below y10.b).2 1 _ rfl
              have cs0' := (hxi.below y10.b).1
              have hgl' := Nat.lt_of_lt_of_le hgl y10.b.size
              have d6' := (y10.b.cell (p := ⟨gb, go + k * 7 + 6, none⟩) hgl).trans d6
              obtain ⟨W12, hW12⟩ : ∃ W12, W12 = y10.w := ⟨_, rfl⟩
              have hb12 := y10.b
              rw [← hW12] at c1' cs0' hgl' d6' hb12 ⊢
              clear hW12
              go_wp2_with fail
              refine wp_region_later (by kernel_rfl) (by kernel_rfl) ?_
              repeat (go_big_quiet_step (fail))
              refine wpQuiet_nil ?_
              rintro _ ⟨y11, rfl⟩
              go_wp2_with fail
              go_roundw
              case rel => exact ⟨k + 1, m, by omega, by go_num, rfl, by omega, Lib.hid (HM.out.trans HA2.out.symm), bthen (bthen hBi hb12) y11.b⟩
              case measure => simp [intOf]; omega
            · have hmd : decide (m < ds.length) = false := by simpa using hml
              go_wp2_with fail
              refine wp_region_later (by kernel_rfl) (by kernel_rfl) ?_
              repeat (go_big_quiet_step (fail))
              refine wpQuiet_nil ?_
              rintro _ ⟨y10, rfl⟩
              have c1' := (hxi.below y10.b).2 1 _ rfl
              have cs0' := (hxi.below y10.b).1
              have hgl' := Nat.lt_of_lt_of_le hgl y10.b.size
              have d6' := (y10.b.cell (p := ⟨gb, go + k * 7 + 6, none⟩) hgl).trans d6
              obtain ⟨W12, hW12⟩ : ∃ W12, W12 = y10.w := ⟨_, rfl⟩
              have hb12 := y10.b
              rw [← hW12] at c1' cs0' hgl' d6' hb12 ⊢
              clear hW12
              go_wp2_with fail
              refine wp_region_later (by kernel_rfl) (by kernel_rfl) ?_
              repeat (go_big_quiet_step (fail))
              refine wpQuiet_nil ?_
              rintro _ ⟨y11, rfl⟩
              go_wp2_with fail
              go_roundw
              case rel => exact ⟨k + 1, m, by omega, by go_num, rfl, by omega, Lib.hid (HM.out.trans HA2.out.symm), bthen (bthen hBi hb12) y11.b⟩
              case measure => simp [intOf]; omega
        · obtain rfl : k = cs.length := by omega
          have hmm := HM.out
          rw [List.take_length, ← HDS.out] at hmm
          subst hmm
          clear HM
          go_wp2_with (go_at_call 19; refine (known_any _).mono ?_; rintro e W13 ⟨rfl, hb13⟩)
          go_ret
          exact ⟨rfl, (hIi.step hb13).below⟩

end Go.Proofs.Ytbdjmaogbpdkpaa

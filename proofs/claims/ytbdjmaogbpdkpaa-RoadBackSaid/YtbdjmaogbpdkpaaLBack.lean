import Derived.Test.YtbdjmaogbpdkpaaKnown
import Derived.Test.YtbdjmaogbpdkpaaLCorners
import Derived.Test.YtbdjmaogbpdkpaaOrd
import Derived.Test.YtbdjmaogbpdkpaaBack
/-
  The law RoadBack, walked: it answers true.
-/
namespace Go.Proofs.Ytbdjmaogbpdkpaa
set_option linter.unusedVariables false
set_option linter.unusedSimpArgs false
open Go.RowKit Go.Shelf

attribute [local go_sem] Later.cell Later.cell1 Later.new1 Later.frozen Later.frozen1

theorem OwnR.rd {w : World} {base : Nat} {A B C : Option Addr} {n0 n1 n2 a b c : Nat} {r : Road} (h : OwnR w base (.slice A n0 a) (.slice B n1 b) (.slice C n2 c) r) (l0 : r.ps.length ≤ 1000000) (l1 : r.cs.length ≤ 1000000) (l2 : r.js.length ≤ 1000000) : RdRoad w r A B C :=
  ⟨h.p.rd pcV_len, h.c.rd crV_len, h.j.rd jnV_len, by omega, by omega, by omega⟩
theorem OwnR.form {w : World} {base : Nat} {v0 v1 v2 : Value} {r : Road} (h : OwnR w base v0 v1 v2 r) : ∃ A B C a b c, v0 = .slice A r.ps.length a ∧ v1 = .slice B r.cs.length b ∧ v2 = .slice C r.js.length c := by
  obtain ⟨A, a, rfl⟩ := h.p.form
  obtain ⟨B, b, rfl⟩ := h.c.form
  obtain ⟨C, c, rfl⟩ := h.j.form
  exact ⟨A, B, C, a, b, c, rfl, rfl, rfl⟩

set_option maxRecDepth 100000 in
set_option maxHeartbeats 16000000 in
theorem backlaw_any (r : Road) (A B C : Option Addr) (a b c : Nat) (gap least : Int) (w : World) (h : RdRoad w r A B C) :
    Calls Try.prog 8 #[.agg #[.slice A r.ps.length a, .slice B r.cs.length b, .slice C r.js.length c], .agg #[.int .i64 gap, .int .i64 least]] w fun e w' => e = .returned (.bool true) ∧ Below w.heap.size w w' := by
  have hR0 : InR w ((w.alloc (.cells #[.slice A r.ps.length a, .slice B r.cs.length b, .slice C r.js.length c] 26)).alloc (.cells #[.int .i64 gap, .int .i64 least] 41)) r A B C a b c := (InR.new w r A B C a b c).step (balloc _ _)
  have hB0 : Box ((w.alloc (.cells #[.slice A r.ps.length a, .slice B r.cs.length b, .slice C r.js.length c] 26)).alloc (.cells #[.int .i64 gap, .int .i64 least] 41)) (w.heap.size + 1) [.int .i64 gap, .int .i64 least] := by
    have := Box.new (w.alloc (.cells #[.slice A r.ps.length a, .slice B r.cs.length b, .slice C r.js.length c] 26)) [.int .i64 gap, .int .i64 least] 41
    rwa [World.size_alloc] at this
  cases hs : smallB r
  · go_enter Try.func8, Try.ntmps8
    go_wp2_with fail
    refine (small_any r A B C a b c _ (hR0.rd h)).mono ?_
    rintro e W1 ⟨rfl, hb1⟩
    have hI1 := hR0.step hb1
    have hB0_1 := hB0.below hb1
    have b0 := hI1.box.2 0 _ rfl
    have b1 := hI1.box.2 1 _ rfl
    have b2 := hI1.box.2 2 _ rfl
    have bs := hI1.box.1
    have c0_0 := hB0_1.2 0 _ rfl
    have c0_1 := hB0_1.2 1 _ rfl
    have cs0 := hB0_1.1
    go_wp2_with fail
    refine (known_any _).mono ?_
    rintro e W2 ⟨rfl, hb2⟩
    have hI2 := hI1.step hb2
    have hB0_2 := hB0_1.below hb2
    clear b0 b1 b2 bs c0_0 c0_1 cs0
    have b0 := hI2.box.2 0 _ rfl
    have b1 := hI2.box.2 1 _ rfl
    have b2 := hI2.box.2 2 _ rfl
    have bs := hI2.box.1
    have c0_0 := hB0_2.2 0 _ rfl
    have c0_1 := hB0_2.2 1 _ rfl
    have cs0 := hB0_2.1
    go_wp2_with fail
    go_ret
    exact ⟨rfl, hI2.below⟩
  cases hv : validB r
  · go_enter Try.func8, Try.ntmps8
    go_wp2_with fail
    refine (small_any r A B C a b c _ (hR0.rd h)).mono ?_
    rintro e W1 ⟨rfl, hb1⟩
    have hI1 := hR0.step hb1
    have hB0_1 := hB0.below hb1
    have b0 := hI1.box.2 0 _ rfl
    have b1 := hI1.box.2 1 _ rfl
    have b2 := hI1.box.2 2 _ rfl
    have bs := hI1.box.1
    have c0_0 := hB0_1.2 0 _ rfl
    have c0_1 := hB0_1.2 1 _ rfl
    have cs0 := hB0_1.1
    go_wp2_with fail
    refine (rvalid_any r A B C a b c _ (hI1.rd h)).mono ?_
    rintro e W2 ⟨rfl, hb2⟩
    have hI2 := hI1.step hb2
    have hB0_2 := hB0_1.below hb2
    clear b0 b1 b2 bs c0_0 c0_1 cs0
    have b0 := hI2.box.2 0 _ rfl
    have b1 := hI2.box.2 1 _ rfl
    have b2 := hI2.box.2 2 _ rfl
    have bs := hI2.box.1
    have c0_0 := hB0_2.2 0 _ rfl
    have c0_1 := hB0_2.2 1 _ rfl
    have cs0 := hB0_2.1
    go_wp2_with fail
    refine (known_any _).mono ?_
    rintro e W3 ⟨rfl, hb3⟩
    have hI3 := hI2.step hb3
    have hB0_3 := hB0_2.below hb3
    clear b0 b1 b2 bs c0_0 c0_1 cs0
    have b0 := hI3.box.2 0 _ rfl
    have b1 := hI3.box.2 1 _ rfl
    have b2 := hI3.box.2 2 _ rfl
    have bs := hI3.box.1
    have c0_0 := hB0_3.2 0 _ rfl
    have c0_1 := hB0_3.2 1 _ rfl
    have cs0 := hB0_3.1
    go_wp2_with fail
    go_ret
    exact ⟨rfl, hI3.below⟩
  have hok := (validB_ok hv).1
  have hlb : lensOk r.ps 100000 := fun p hp => ⟨(hok.lens p hp).1, by have := (hok.lens p hp).2; omega⟩
  have HLB := Lib.hid hlb
  have HV := Lib.hid hv
  have hlen := hok.2
  have hlen2 := (validB_ok hv).2.2.1
  have hln := (hok.beg r.ps.length).1
  rw [List.take_length] at hln
  clear hlb
  cases hbo : bendsOk gap least
  · go_enter Try.func8, Try.ntmps8
    go_wp2_with fail
    refine (small_any r A B C a b c _ (hR0.rd h)).mono ?_
    rintro e W1 ⟨rfl, hb1⟩
    have hI1 := hR0.step hb1
    have hB0_1 := hB0.below hb1
    have b0 := hI1.box.2 0 _ rfl
    have b1 := hI1.box.2 1 _ rfl
    have b2 := hI1.box.2 2 _ rfl
    have bs := hI1.box.1
    have c0_0 := hB0_1.2 0 _ rfl
    have c0_1 := hB0_1.2 1 _ rfl
    have cs0 := hB0_1.1
    go_wp2_with fail
    refine (rvalid_any r A B C a b c _ (hI1.rd h)).mono ?_
    rintro e W2 ⟨rfl, hb2⟩
    have hI2 := hI1.step hb2
    have hB0_2 := hB0_1.below hb2
    clear b0 b1 b2 bs c0_0 c0_1 cs0
    have b0 := hI2.box.2 0 _ rfl
    have b1 := hI2.box.2 1 _ rfl
    have b2 := hI2.box.2 2 _ rfl
    have bs := hI2.box.1
    have c0_0 := hB0_2.2 0 _ rfl
    have c0_1 := hB0_2.2 1 _ rfl
    have cs0 := hB0_2.1
    go_wp2_with fail
    refine (rbends_any gap least _).mono ?_
    rintro e W3 ⟨rfl, hb3⟩
    have hI3 := hI2.step hb3
    have hB0_3 := hB0_2.below hb3
    clear b0 b1 b2 bs c0_0 c0_1 cs0
    have b0 := hI3.box.2 0 _ rfl
    have b1 := hI3.box.2 1 _ rfl
    have b2 := hI3.box.2 2 _ rfl
    have bs := hI3.box.1
    have c0_0 := hB0_3.2 0 _ rfl
    have c0_1 := hB0_3.2 1 _ rfl
    have cs0 := hB0_3.1
    go_wp2_with fail
    refine (known_any _).mono ?_
    rintro e W4 ⟨rfl, hb4⟩
    have hI4 := hI3.step hb4
    have hB0_4 := hB0_3.below hb4
    clear b0 b1 b2 bs c0_0 c0_1 cs0
    have b0 := hI4.box.2 0 _ rfl
    have b1 := hI4.box.2 1 _ rfl
    have b2 := hI4.box.2 2 _ rfl
    have bs := hI4.box.1
    have c0_0 := hB0_4.2 0 _ rfl
    have c0_1 := hB0_4.2 1 _ rfl
    have cs0 := hB0_4.1
    go_wp2_with fail
    go_ret
    exact ⟨rfl, hI4.below⟩
  have hbb : 0 ≤ gap ∧ gap ≤ 1000 ∧ 1 ≤ least ∧ least ≤ 10000 := by
    simp only [bendsOk, inB, Bool.and_eq_true, decide_eq_true_eq] at hbo
    omega
  have g1 := hbb.1
  have g2 := hbb.2.1
  have g3 := hbb.2.2.1
  have g4 := hbb.2.2.2
  clear hbb
  have hcl := cornersS_len r hok gap least
  have hord := (cornersS_ord r hok gap least).1
  rw [← corners_same r gap least hok] at hcl hord
  have HCR := Lib.hid (cornersG_rev r gap least)
  have HVR := Lib.hid (validB_rev r hv)
  have hq := (validB_ok (validB_rev r hv))
  have q1 := hq.1.2
  have q2 := hq.2.2.2.1
  have q3 := hq.2.2.2.2.1
  clear hq
  obtain ⟨q, hqe⟩ : ∃ q, q = revR r := ⟨_, rfl⟩
  rw [← hqe] at HCR HVR q1 q2 q3
  have HQ := Lib.hid hqe
  clear hqe
  obtain ⟨cs, hcs⟩ : ∃ cs, cs = cornersG r gap least := ⟨_, rfl⟩
  rw [← hcs] at HCR hcl hord
  have HCS := Lib.hid hcs
  clear hcs
  go_enter Try.func8, Try.ntmps8
  go_wp2_with fail
  refine (small_any r A B C a b c _ (hR0.rd h)).mono ?_
  rintro e W1 ⟨rfl, hb1⟩
  have hI1 := hR0.step hb1
  have hB0_1 := hB0.below hb1
  have b0 := hI1.box.2 0 _ rfl
  have b1 := hI1.box.2 1 _ rfl
  have b2 := hI1.box.2 2 _ rfl
  have bs := hI1.box.1
  have c0_0 := hB0_1.2 0 _ rfl
  have c0_1 := hB0_1.2 1 _ rfl
  have cs0 := hB0_1.1
  go_wp2_with fail
  refine (rvalid_any r A B C a b c _ (hI1.rd h)).mono ?_
  rintro e W2 ⟨rfl, hb2⟩
  have hI2 := hI1.step hb2
  have hB0_2 := hB0_1.below hb2
  clear b0 b1 b2 bs c0_0 c0_1 cs0
  have b0 := hI2.box.2 0 _ rfl
  have b1 := hI2.box.2 1 _ rfl
  have b2 := hI2.box.2 2 _ rfl
  have bs := hI2.box.1
  have c0_0 := hB0_2.2 0 _ rfl
  have c0_1 := hB0_2.2 1 _ rfl
  have cs0 := hB0_2.1
  go_wp2_with fail
  refine (rbends_any gap least _).mono ?_
  rintro e W3 ⟨rfl, hb3⟩
  have hI3 := hI2.step hb3
  have hB0_3 := hB0_2.below hb3
  clear b0 b1 b2 bs c0_0 c0_1 cs0
  have b0 := hI3.box.2 0 _ rfl
  have b1 := hI3.box.2 1 _ rfl
  have b2 := hI3.box.2 2 _ rfl
  have bs := hI3.box.1
  have c0_0 := hB0_3.2 0 _ rfl
  have c0_1 := hB0_3.2 1 _ rfl
  have cs0 := hB0_3.1
  go_wp2_with fail
  refine (Reverse_good r A B C a b c _ (hI3.rd h) HV.out).mono ?_
  rintro e W4 ⟨⟨u0, u1, u2, rfl, hOR⟩, hb4⟩
  have hI4 := hI3.step hb4
  have hB0_4 := hB0_3.below hb4
  clear b0 b1 b2 bs c0_0 c0_1 cs0
  have b0 := hI4.box.2 0 _ rfl
  have b1 := hI4.box.2 1 _ rfl
  have b2 := hI4.box.2 2 _ rfl
  have bs := hI4.box.1
  have c0_0 := hB0_4.2 0 _ rfl
  have c0_1 := hB0_4.2 1 _ rfl
  have cs0 := hB0_4.1
  rw [← HQ.out] at hOR
  obtain ⟨A2, B2, C2, qa, qb, qc, rfl, rfl, rfl⟩ := hOR.form
  have HOC := Lib.hid hord
  clear hord
  have hbx := hB0_4
  clear hB0_1 hB0_2 hB0_3 hI1 hI2 hI3
  go_wp2_with fail
  have hrd5 := hOR.rd (by omega) (by omega) (by omega)
  have hbx5 := hbx.below (balloc W4 (.cells #[.slice A2 q.ps.length qa, .slice B2 q.cs.length qb, .slice C2 q.js.length qc] 26))
  have hI5 := hI4.step (balloc W4 (.cells #[.slice A2 q.ps.length qa, .slice B2 q.cs.length qb, .slice C2 q.js.length qc] 26))
  have hrq5 := hrd5.below (balloc W4 (.cells #[.slice A2 q.ps.length qa, .slice B2 q.cs.length qb, .slice C2 q.js.length qc] 26))
  have hb5 := Box.new W4 [.slice A2 q.ps.length qa, .slice B2 q.cs.length qb, .slice C2 q.js.length qc] 26
  refine (corners_walk r A B C a b c gap least _ (hI5.rd h) HV.out g1 g2 g3 g4).mono ?_
  rintro e W6 ⟨⟨v, rfl, hO⟩, hb6⟩
  rw [← HCS.out] at hO
  obtain ⟨VC, vc, rfl⟩ := hO.form
  have hI6 := hI5.step hb6
  have hbx6 := hbx5.below hb6
  have hrq6 := hrq5.below hb6
  have hb56 := hb5.below hb6
  clear b0 b1 b2 bs c0_0 c0_1 cs0
  have b0 := hb56.2 0 _ rfl
  have b1 := hb56.2 1 _ rfl
  have b2 := hb56.2 2 _ rfl
  have bs := hb56.1
  have c0 := hbx6.2 0 _ rfl
  have c1 := hbx6.2 1 _ rfl
  have cs0 := hbx6.1
  go_wp2_with fail
  refine (corners_walk q A2 B2 C2 qa qb qc gap least _ hrq6 HVR.out g1 g2 g3 g4).mono ?_
  rintro e W7 ⟨⟨v, rfl, hD⟩, hb7⟩
  have hdl : (cornersG q gap least).length = cs.length := by rw [HCR.out]; simp
  obtain ⟨VD, vd, rfl⟩ := hD.form
  rw [hdl]
  have HDL := Lib.hid hdl
  clear hdl
  have hI7 := hI6.step hb7
  have hRC := (hO.below hb7).rd coV_len
  have hRD := hD.rd coV_len
  rw [HCR.out] at hRD
  clear b0 b1 b2 bs c0 c1 cs0
  have b0 := hI7.box.2 0 _ rfl
  have b1 := hI7.box.2 1 _ rfl
  have b2 := hI7.box.2 2 _ rfl
  have bs := hI7.box.1
  go_wp2_with fail
  refine (rlength_any r A B C a b c _ (hI7.rd h) HLB.out (by omega)).mono ?_
  rintro e W8 ⟨rfl, hb8⟩
  have hI8 := hI7.step hb8
  replace hRC := hRC.below hb8
  replace hRD := hRD.below hb8
  clear b0 b1 b2 bs
  go_wp2_with fail
  go_loopw [12] (fun i wr => ∃ k : Nat, k ≤ cs.length ∧ i = .int .i64 k ∧ Below W8.heap.size W8 wr) (fun i _ => cs.length - (intOf i).toNat)
  case atStart => exact ⟨0, Nat.zero_le _, rfl, Below.refl _ _⟩
  case round =>
    rename World => wo
    obtain ⟨k, hk, rfl, hB⟩ := hrel
    by_cases hlt : k < cs.length
    · obtain ⟨y, hy⟩ := getElem?_ex (show cs.length - 1 - k < cs.length by omega)
      have hd : ((cs.map (mirC (lenSum r.ps))).reverse)[k]? = some (mirC (lenSum r.ps) y) := by
        rw [List.getElem?_reverse (by simpa using hlt), List.length_map, List.getElem?_map, hy]
        rfl
      have hOy := HOC.out y (List.mem_of_getElem? hy)
      obtain ⟨gb, go, hGA, hgl, d0, d1, d2, d3, d4, d5, d6⟩ := (hRC.below hB).at7 hy
      subst hGA
      obtain ⟨hb, ho, hHA, hhl, e0, e1, e2, e3, e4, e5, e6⟩ := (hRD.below hB).at7 hd
      subst hHA
      simp only [mirC] at e0 e1 e2 e3 e4 e5 e6
      have y1 := hOy.f0
      have y2 := hOy.ft
      have y3 := hOy.tn
      have y4 : -1 ≤ y.turn ∧ y.turn ≤ 1 := by have := hOy.tu; omega
      have y5 := y4.1
      have y6 := y4.2
      have f2 : 0 ≤ (cs.length : Int) - 1 - k := by omega
      have f3 : ((cs.length : Int) - 1 - k).toNat = cs.length - 1 - k := by omega
      have f4 : (cs.length : Int) - 1 - k < cs.length := by omega
      clear hy hd y4
      go_upto_region 13 with fail
      have bX := Blk.new wo 50 #[.int .i64 y.fr, .int .i64 y.to, .int .i64 y.turn, .int .i64 y.rad, .int .i64 y.inn, .int .i64 y.out, .int .i64 y.ang]
      have hBa := balloc wo (.cells #[.int .i64 y.fr, .int .i64 y.to, .int .i64 y.turn, .int .i64 y.rad, .int .i64 y.inn, .int .i64 y.out, .int .i64 y.ang] 50)
      obtain ⟨N, hN⟩ : ∃ N, N = wo.heap.size := ⟨_, rfl⟩
      obtain ⟨W9, hW9⟩ : ∃ W9, W9 = wo.alloc (.cells #[.int .i64 y.fr, .int .i64 y.to, .int .i64 y.turn, .int .i64 y.rad, .int .i64 y.inn, .int .i64 y.out, .int .i64 y.ang] 50) := ⟨_, rfl⟩
      have a0 := (hBa.cell (p := ⟨hb, ho + k * 7, none⟩) hhl).trans e0
      have a1 := (hBa.cell (p := ⟨hb, ho + k * 7 + 1, none⟩) hhl).trans e1
      have a2 := (hBa.cell (p := ⟨hb, ho + k * 7 + 2, none⟩) hhl).trans e2
      have a3 := (hBa.cell (p := ⟨hb, ho + k * 7 + 3, none⟩) hhl).trans e3
      have a4 := (hBa.cell (p := ⟨hb, ho + k * 7 + 4, none⟩) hhl).trans e4
      have a5 := (hBa.cell (p := ⟨hb, ho + k * 7 + 5, none⟩) hhl).trans e5
      have a6 := (hBa.cell (p := ⟨hb, ho + k * 7 + 6, none⟩) hhl).trans e6
      have hhl2 := Nat.lt_of_lt_of_le hhl hBa.size
      rw [← hW9] at bX hBa a0 a1 a2 a3 a4 a5 a6 hhl2 ⊢
      rw [← hN] at bX ⊢
      clear hW9 hN d0 d1 d2 d3 d4 d5 d6 e0 e1 e2 e3 e4 e5 e6
      have x0 := bX.cell 0
      have x1 := bX.cell 1
      have x2 := bX.cell 2
      have x3 := bX.cell 3
      have x4 := bX.cell 4
      have x5 := bX.cell 5
      have x6 := bX.cell 6
      have xl := bX.lt
      refine wp_region_later (by kernel_rfl) (by kernel_rfl) ?_
      repeat (go_big_quiet_step (fail))
      refine wpQuiet_nil ?_
      rintro _ ⟨y9, rfl⟩
      go_wp2_with fail
      go_roundw
      case rel => exact ⟨k + 1, by omega, by go_num, (bthen hB hBa).trans (y9.b.mono (Nat.le_trans hB.size hBa.size))⟩
      case measure => simp [intOf]; omega
    · obtain rfl : k = cs.length := by omega
      go_wp2_with (go_at_call 19; refine (known_any _).mono ?_; rintro e W13 ⟨rfl, hb13⟩)
      go_ret
      exact ⟨rfl, ((hI8.step hB).step hb13).below⟩

end Go.Proofs.Ytbdjmaogbpdkpaa

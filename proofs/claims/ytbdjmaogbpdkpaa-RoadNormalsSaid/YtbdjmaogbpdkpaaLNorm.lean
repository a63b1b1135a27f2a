import Derived.Test.YtbdjmaogbpdkpaaKnown
import Derived.Test.YtbdjmaogbpdkpaaNrmP
import Derived.Test.YtbdjmaogbpdkpaaRSame
import Derived.Test.YtbdjmaogbpdkpaaMk2
/-
  The law RoadNormals, walked: it answers true.
-/
namespace Go.Proofs.Ytbdjmaogbpdkpaa
open Go.RowKit Go.Shelf
set_option linter.unusedVariables false
set_option linter.unusedSimpArgs false
attribute [local go_sem] Later.cell Later.cell1 Later.new1 Later.frozen Later.frozen1

theorem rat_q (r : Road) (A B C : Option Addr) (a b c : Nat) (x : Int) (w : World) (h : RdRoad w r A B C) (hok : okPs r) (hx0 : 0 ≤ x) (hx1 : x < lenSum r.ps) :
    Calls Try.prog 29 #[.agg #[.slice A r.ps.length a, .slice B r.cs.length b, .slice C r.js.length c], .int .i64 x] w fun e w' => e = .returned (.agg #[.int .i64 (atP r.ps x).len, .int .i64 (atP r.ps x).turn, .int .i64 (atP r.ps x).rad, .int .i64 (atP r.ps x).wid, .int .i64 (atP r.ps x).sur]) ∧ Below w.heap.size w w' :=
  (rat_any r A B C a b c x w h hok hx0 hx1).mono fun _ _ ⟨⟨k, p, hf, hp, e⟩, hb⟩ => ⟨by rw [e, atP_find r.ps x k p (fun q hq => (hok.lens q hq).1) hf hp], hb⟩
def IsV (x v : Value) (_ : World) : Prop := v = x
theorem stays_isv (x v : Value) : Stays (IsV x v) := fun _ _ h _ => h

set_option maxRecDepth 100000 in
set_option maxHeartbeats 16000000 in
theorem normalslaw_any (r : Road) (A B C : Option Addr) (a b c : Nat) (w : World) (h : RdRoad w r A B C) :
    Calls Try.prog 9 #[.agg #[.slice A r.ps.length a, .slice B r.cs.length b, .slice C r.js.length c]] w fun e w' => e = .returned (.bool true) ∧ Below w.heap.size w w' := by
  have hR0 : InR w (w.alloc (.cells #[.slice A r.ps.length a, .slice B r.cs.length b, .slice C r.js.length c] 26)) r A B C a b c := InR.new w r A B C a b c
  cases hs : smallB r
  · go_enter Try.func9, Try.ntmps9
    go_wp2_with fail
    refine (small_any r A B C a b c _ (hR0.rd h)).mono ?_
    rintro e W1 ⟨rfl, hb1⟩
    have hI1 := hR0.step hb1
    have b0 := hI1.box.2 0 _ rfl
    have b1 := hI1.box.2 1 _ rfl
    have b2 := hI1.box.2 2 _ rfl
    have bs := hI1.box.1
    go_wp2_with fail
    refine (known_any _).mono ?_
    rintro e W2 ⟨rfl, hb2⟩
    have hI2 := hI1.step hb2
    clear b0 b1 b2 bs
    have b0 := hI2.box.2 0 _ rfl
    have b1 := hI2.box.2 1 _ rfl
    have b2 := hI2.box.2 2 _ rfl
    have bs := hI2.box.1
    go_wp2_with fail
    go_ret
    exact ⟨rfl, hI2.below⟩
  cases hv : validB r
  · go_enter Try.func9, Try.ntmps9
    go_wp2_with fail
    refine (small_any r A B C a b c _ (hR0.rd h)).mono ?_
    rintro e W1 ⟨rfl, hb1⟩
    have hI1 := hR0.step hb1
    have b0 := hI1.box.2 0 _ rfl
    have b1 := hI1.box.2 1 _ rfl
    have b2 := hI1.box.2 2 _ rfl
    have bs := hI1.box.1
    go_wp2_with fail
    refine (rvalid_any r A B C a b c _ (hI1.rd h)).mono ?_
    rintro e W2 ⟨rfl, hb2⟩
    have hI2 := hI1.step hb2
    clear b0 b1 b2 bs
    have b0 := hI2.box.2 0 _ rfl
    have b1 := hI2.box.2 1 _ rfl
    have b2 := hI2.box.2 2 _ rfl
    have bs := hI2.box.1
    go_wp2_with fail
    refine (known_any _).mono ?_
    rintro e W3 ⟨rfl, hb3⟩
    have hI3 := hI2.step hb3
    clear b0 b1 b2 bs
    have b0 := hI3.box.2 0 _ rfl
    have b1 := hI3.box.2 1 _ rfl
    have b2 := hI3.box.2 2 _ rfl
    have bs := hI3.box.1
    go_wp2_with fail
    go_ret
    exact ⟨rfl, hI3.below⟩
  have hok := (validB_ok hv).1
  have hlb : lensOk r.ps 100000 := fun p hp => ⟨(hok.lens p hp).1, by have := (hok.lens p hp).2; omega⟩
  have HLB := Lib.hid hlb
  have HV := Lib.hid hv
  have hlen := hok.2
  have hlen2 := (validB_ok hv).2.2.1
  have hln := (hok.beg r.ps.length).1
  rw [List.take_length] at hln
  clear hlb
  have hcl := (validB_ok hv).2.2.2.1
  have hjl := (validB_ok hv).2.2.2.2.1
  have HOL := Lib.hid hok.okLen
  have HVN := Lib.hid (validB_nrm r hv)
  have HNI := Lib.hid (nrm_idem r)
  have HNR := Lib.hid (rnm_nrm r)
  have HSN : Hid (lenSum (nrmR r).ps = lenSum r.ps) := Lib.hid (runsL_sum r.ps)
  have HAT : Hid (∀ y, 0 ≤ y → kd (atP r.ps y) = kd (atP (nrmR r).ps y)) := Lib.hid (atP_runsL r.ps hok.okLen)
  obtain ⟨n, hn⟩ : ∃ n, n = nrmR r := ⟨_, rfl⟩
  rw [← hn] at HVN HNI HNR HSN HAT
  have HN := Lib.hid hn
  clear hn
  have hokn := (validB_ok HVN.out).1
  have hnl := hokn.2
  have hncl := (validB_ok HVN.out).2.2.2.1
  have hnjl := (validB_ok HVN.out).2.2.2.2.1
  have hlbn : lensOk n.ps 100000 := fun p hp => ⟨(hokn.lens p hp).1, by have := (hokn.lens p hp).2; omega⟩
  have HLN := Lib.hid hlbn
  clear hlbn
  go_enter Try.func9, Try.ntmps9
  go_wp2_with fail
  refine (small_any r A B C a b c _ (hR0.rd h)).mono ?_
  rintro e W1 ⟨rfl, hb1⟩
  have hI1 := hR0.step hb1
  have b0 := hI1.box.2 0 _ rfl
  have b1 := hI1.box.2 1 _ rfl
  have b2 := hI1.box.2 2 _ rfl
  have bs := hI1.box.1
  go_wp2_with fail
  refine (rvalid_any r A B C a b c _ (hI1.rd h)).mono ?_
  rintro e W2 ⟨rfl, hb2⟩
  have hI2 := hI1.step hb2
  clear b0 b1 b2 bs
  have b0 := hI2.box.2 0 _ rfl
  have b1 := hI2.box.2 1 _ rfl
  have b2 := hI2.box.2 2 _ rfl
  have bs := hI2.box.1
  go_wp2_with fail
  refine (Normal_good r A B C a b c _ (hI2.rd h) HV.out).mono ?_
  rintro e W3 ⟨⟨u0, u1, u2, rfl, hOR⟩, hb3⟩
  have hI3 := hI2.step hb3
  clear b0 b1 b2 bs
  have b0 := hI3.box.2 0 _ rfl
  have b1 := hI3.box.2 1 _ rfl
  have b2 := hI3.box.2 2 _ rfl
  have bs := hI3.box.1
  rw [← HN.out] at hOR
  obtain ⟨A2, B2, C2, qa, qb, qc, rfl, rfl, rfl⟩ := hOR.formR
  have hRN := (hOR.rdR (by omega) (by omega) (by omega)).below (balloc W3 (.cells #[.slice A2 n.ps.length qa, .slice B2 n.cs.length qb, .slice C2 n.js.length qc] 26))
  have hX3 : Blk (W3.alloc (.cells #[.slice A2 n.ps.length qa, .slice B2 n.cs.length qb, .slice C2 n.js.length qc] 26)) W3.heap.size 26 #[.slice A2 n.ps.length qa, .slice B2 n.cs.length qb, .slice C2 n.js.length qc] := Blk.new _ _ _
  have hI4 := hI3.step (balloc W3 (.cells #[.slice A2 n.ps.length qa, .slice B2 n.cs.length qb, .slice C2 n.js.length qc] 26))
  go_wp2_with fail
  refine (Normal_good n A2 B2 C2 qa qb qc _ hRN HVN.out).mono ?_
  rintro e W5 ⟨⟨u0, u1, u2, rfl, hOM⟩, hb5⟩
  rw [HNI.out] at hOM
  obtain ⟨A3, B3, C3, ra, rb, rc, rfl, rfl, rfl⟩ := hOM.formR
  have hI5 := hI4.step hb5
  have hX5 := hX3.below hb5 hX3.lt
  have hRM := (hOM.rdR (by omega) (by omega) (by omega)).below (balloc W5 (.cells #[.slice A3 n.ps.length ra, .slice B3 n.cs.length rb, .slice C3 n.js.length rc] 26))
  have hY6 : Blk (W5.alloc (.cells #[.slice A3 n.ps.length ra, .slice B3 n.cs.length rb, .slice C3 n.js.length rc] 26)) W5.heap.size 26 #[.slice A3 n.ps.length ra, .slice B3 n.cs.length rb, .slice C3 n.js.length rc] := Blk.new _ _ _
  have hX6 : Blk (W5.alloc (.cells #[.slice A3 n.ps.length ra, .slice B3 n.cs.length rb, .slice C3 n.js.length rc] 26)) W3.heap.size 26 #[.slice A2 n.ps.length qa, .slice B2 n.cs.length qb, .slice C2 n.js.length qc] := hX5.alloc _
  have hI6 := hI5.step (balloc W5 (.cells #[.slice A3 n.ps.length ra, .slice B3 n.cs.length rb, .slice C3 n.js.length rc] 26))
  have hRN6 := (hRN.below hb5).below (balloc W5 (.cells #[.slice A3 n.ps.length ra, .slice B3 n.cs.length rb, .slice C3 n.js.length rc] 26))
  go_upto_region 5 with fail
  obtain ⟨W6, hW6⟩ : ∃ W6, W6 = W5.alloc (.cells #[.slice A3 n.ps.length ra, .slice B3 n.cs.length rb, .slice C3 n.js.length rc] 26) := ⟨_, rfl⟩
  rw [← hW6] at hRM hY6 hX6 hI6 hRN6 ⊢
  obtain ⟨N2, hN2⟩ : ∃ N2, N2 = W5.heap.size := ⟨_, rfl⟩
  obtain ⟨N1, hN1⟩ : ∃ N1, N1 = W3.heap.size := ⟨_, rfl⟩
  rw [← hN2] at hY6 ⊢
  rw [← hN1] at hX6 ⊢
  clear hW6 hN2 hN1 hX5 hX3 hI5 hI4 hRN hOM hb5 hOR hI3 b0 b1 b2 bs
  have hrd6 := hI6.rd h
  have b0 := hI6.box.2 0 _ rfl
  have b1 := hI6.box.2 1 _ rfl
  have b2 := hI6.box.2 2 _ rfl
  have x0 := hX6.cell 0
  have x1 := hX6.cell 1
  have x2 := hX6.cell 2
  have y0 := hY6.cell 0
  have y1 := hY6.cell 1
  have y2 := hY6.cell 2
  have hRM6 := hRM
  have hn5 : n.ps.length ≤ 100000 := by omega
  have hr5 : r.ps.length ≤ 100000 := by omega
  go_region_held3 (fun w' => w'.cell? ⟨w.heap.size, 0, none⟩ = some (.slice A r.ps.length a) ∧ w'.cell? ⟨w.heap.size, 1, none⟩ = some (.slice B r.cs.length b) ∧ w'.cell? ⟨w.heap.size, 2, none⟩ = some (.slice C r.js.length c) ∧ w'.cell? ⟨N1, 0, none⟩ = some (.slice A2 n.ps.length qa) ∧ w'.cell? ⟨N1, 1, none⟩ = some (.slice B2 n.cs.length qb) ∧ w'.cell? ⟨N1, 2, none⟩ = some (.slice C2 n.js.length qc) ∧ w'.cell? ⟨N2, 0, none⟩ = some (.slice A3 n.ps.length ra) ∧ w'.cell? ⟨N2, 1, none⟩ = some (.slice B3 n.cs.length rb) ∧ w'.cell? ⟨N2, 2, none⟩ = some (.slice C3 n.js.length rc)) (go_keep)
    (first
      | (go_at_call 36; refine (rnormal_any r A B C a b c _ (hrd6.below (below_drew _ _)) HOL.out (by omega) (by omega) (by omega)).mono ?_; rintro e W7 ⟨⟨v0, v1, v2, rfl, hO7⟩, hb7⟩; rw [HNR.out] at hO7; obtain ⟨A4, B4, C4, sa, sb, sc, rfl, rfl, rfl⟩ := hO7.formR; have hR7 := hO7.rdR (by omega) (by omega) (by omega); have hI7 := (hI6.step (below_drew _ _)).step hb7; have hX7 := (hX6.below (below_drew _ _) hX6.lt).below hb7 hX6.lt; have hY7 := (hY6.below (below_drew _ _) hY6.lt).below hb7 hY6.lt; have hRN7 := (hRN6.below (below_drew _ _)).below hb7; have hRM7 := (hRM6.below (below_drew _ _)).below hb7; clear b0 b1 b2 x0 x1 x2 y0 y1 y2; have b0 := hI7.box.2 0 _ rfl; have b1 := hI7.box.2 1 _ rfl; have b2 := hI7.box.2 2 _ rfl; have x0 := hX7.cell 0; have x1 := hX7.cell 1; have x2 := hX7.cell 2; have y0 := hY7.cell 0; have y1 := hY7.cell 1; have y2 := hY7.cell 2)
      | (go_at_call 35; refine (rsame_eq n A3 B3 C3 A2 B2 C2 ra rb rc qa qb qc _ hRM8 hRN8).mono ?_; rintro e W9 ⟨rfl, hb9⟩; have hI9 := hI8.step hb9; have hX9 := hX8.below hb9 hX8.lt; have hY9 := hY8.below hb9 hY8.lt; have hRN9 := hRN8.below hb9; have hRM9 := hRM8.below hb9; clear b0 b1 b2 x0 x1 x2 y0 y1 y2; have b0 := hI9.box.2 0 _ rfl; have b1 := hI9.box.2 1 _ rfl; have b2 := hI9.box.2 2 _ rfl; have x0 := hX9.cell 0; have x1 := hX9.cell 1; have x2 := hX9.cell 2; have y0 := hY9.cell 0; have y1 := hY9.cell 1; have y2 := hY9.cell 2)
      | (go_at_call 35; refine (rsame_eq n A2 B2 C2 A4 B4 C4 qa qb qc sa sb sc _ hRN7 hR7).mono ?_; rintro e W8 ⟨rfl, hb8⟩; have hI8 := hI7.step hb8; have hX8 := hX7.below hb8 hX7.lt; have hY8 := hY7.below hb8 hY7.lt; have hRN8 := hRN7.below hb8; have hRM8 := hRM7.below hb8; clear b0 b1 b2 x0 x1 x2 y0 y1 y2; have b0 := hI8.box.2 0 _ rfl; have b1 := hI8.box.2 1 _ rfl; have b2 := hI8.box.2 2 _ rfl; have x0 := hX8.cell 0; have x1 := hX8.cell 1; have x2 := hX8.cell 2; have y0 := hY8.cell 0; have y1 := hY8.cell 1; have y2 := hY8.cell 2)
      | (go_at_call 21; refine (rlength_any r A B C a b c _ (hI10.rd h) HLB.out hr5).mono ?_; rintro e W11 ⟨rfl, hb11⟩; have hI11 := hI10.step hb11; have hX11 := hX10.below hb11 hX10.lt; have hY11 := hY10.below hb11 hY10.lt; have hRN11 := hRN10.below hb11; have hRM11 := hRM10.below hb11; clear b0 b1 b2 x0 x1 x2 y0 y1 y2; have b0 := hI11.box.2 0 _ rfl; have b1 := hI11.box.2 1 _ rfl; have b2 := hI11.box.2 2 _ rfl; have x0 := hX11.cell 0; have x1 := hX11.cell 1; have x2 := hX11.cell 2; have y0 := hY11.cell 0; have y1 := hY11.cell 1; have y2 := hY11.cell 2)
      | (go_at_call 21; refine (rlength_any n A2 B2 C2 qa qb qc _ hRN9 HLN.out hn5).mono ?_; rintro e W10 ⟨rfl, hb10⟩; rw [HSN.out]; have hI10 := hI9.step hb10; have hX10 := hX9.below hb10 hX9.lt; have hY10 := hY9.below hb10 hY9.lt; have hRN10 := hRN9.below hb10; have hRM10 := hRM9.below hb10; clear b0 b1 b2 x0 x1 x2 y0 y1 y2; have b0 := hI10.box.2 0 _ rfl; have b1 := hI10.box.2 1 _ rfl; have b2 := hI10.box.2 2 _ rfl; have x0 := hX10.cell 0; have x1 := hX10.cell 1; have x2 := hX10.cell 2; have y0 := hY10.cell 0; have y1 := hY10.cell 1; have y2 := hY10.cell 2))
  have hRN11 := hRN10.below hb11
  have hr11 := hI11.rd h
  clear b0 b1 b2 x0 x1 x2 y0 y1 y2
  go_wp2_with fail
  go_loopw [7] (fun i W => ∃ p : Int, 0 ≤ p ∧ p ≤ lenSum r.ps ∧ i = .int .i64 p ∧ Below W11.heap.size W11 W) (fun i _ => (lenSum r.ps - intOf i).toNat)
  case atStart => exact ⟨0, Int.le_refl _, hln, rfl, Below.refl _ _⟩
  case round =>
    rename World => Wl
    obtain ⟨p, hp0, hp1, rfl, hbl⟩ := hrel
    have hIl := hI11.step hbl
    have hXl := hX11.below hbl hX11.lt
    have b0 := hIl.box.2 0 _ rfl
    have b1 := hIl.box.2 1 _ rfl
    have b2 := hIl.box.2 2 _ rfl
    by_cases hlt : p < lenSum r.ps
    · go_wp2_with fail
      refine (rlength_any r A B C a b c _ (hIl.rd h) HLB.out hr5).mono ?_
      rintro e Wa ⟨rfl, hba⟩
      have hIa := hIl.step hba
      have hXa := hXl.below hba hXl.lt
      have hra := hIa.rd h
      have hna := (hRN11.below hbl).below hba
      have hbWa := bthen hbl hba
      clear b0 b1 b2
      have b0 := hIa.box.2 0 _ rfl
      have b1 := hIa.box.2 1 _ rfl
      have b2 := hIa.box.2 2 _ rfl
      have bs := hIa.box.1
      have x0 := hXa.cell 0
      have x1 := hXa.cell 1
      have x2 := hXa.cell 2
      have xl := hXa.lt
      have hkd := HAT.out p hp0
      obtain ⟨X, hX⟩ : ∃ X, X = atP r.ps p := ⟨_, rfl⟩
      obtain ⟨Y, hY⟩ : ∃ Y, Y = atP n.ps p := ⟨_, rfl⟩
      rw [← hX, ← hY] at hkd
      obtain ⟨l1, t1, q1, d1, s1⟩ := X
      obtain ⟨l2, t2, q2, d2, s2⟩ := Y
      simp only [kd, Prod.mk.injEq] at hkd
      obtain ⟨rfl, rfl, rfl, rfl⟩ := hkd
      have HX := Lib.hid hX
      have HY := Lib.hid hY
      clear hX hY
      go_upto_region 10 with fail
      refine Mk2.wp_region_mk_tail 8 (fun j => match j with | 2 => some (IsV (.agg #[.int .i64 l1, .int .i64 t1, .int .i64 q1, .int .i64 d1, .int .i64 s1])) | 5 => some (IsV (.agg #[.int .i64 l2, .int .i64 t1, .int .i64 q1, .int .i64 d1, .int .i64 s1])) | 6 => some (NewBlk Wa.heap.size 52 #[.int .i64 0, .int .i64 0, .int .i64 0, .int .i64 0, .int .i64 0]) | 7 => some (NewBlk Wa.heap.size 52 #[.int .i64 0, .int .i64 0, .int .i64 0, .int .i64 0, .int .i64 0]) | _ => none) (by kernel_rfl) (by kernel_rfl) ?hmk ?_
      case hmk =>
        intro j S hS v
        split at hS <;> first | (injection hS with hS; subst hS; first | exact stays_isv _ _ | exact stays_blk _ _ _ _) | cases hS
      simp only [List.take_succ_cons, List.take_zero, List.drop_succ_cons, List.drop_zero]
      refine Mk2.wpM_reads [_, _] (_ :: _) _ _ _ (by kernel_rfl) (by intro j hj; rcases (show j = 0 ∨ j = 1 by simp at hj; omega) with rfl | rfl <;> exact ⟨rfl, rfl⟩) ?_
      repeat (go_big_quiet_step (fail))
      refine wpQuiet_nil ?_
      refine Mk2.wpM_make rfl rfl rfl ?_ ?_
      · intro x hx
        unfold Mk2.makesAt
        go_simp
        exact (rat_q r A B C a b c p x (hra.below hx) hok hp0 hlt).mono fun e w' ⟨he, hb⟩ => ⟨_, he, by rw [← HX.out]; rfl, (fun _ e => by cases e), hb⟩
      rintro v ⟨x, hx, hv⟩
      obtain rfl : v = _ := hv
      go_simp
      refine Mk2.wpM_reads [_, _] (_ :: _) _ _ _ (by kernel_rfl) (by intro j hj; rcases (show j = 0 ∨ j = 1 by simp at hj; omega) with rfl | rfl <;> exact ⟨rfl, rfl⟩) ?_
      repeat (go_big_quiet_step (fail))
      refine wpQuiet_nil ?_
      refine Mk2.wpM_make rfl rfl rfl ?_ ?_
      · intro x hx
        unfold Mk2.makesAt
        go_simp
        exact (rat_q n A2 B2 C2 qa qb qc p x (hna.below hx) hokn hp0 (by rw [HSN.out]; exact hlt)).mono fun e w' ⟨he, hb⟩ => ⟨_, he, by rw [← HY.out]; rfl, (fun _ e => by cases e), hb⟩
      rintro v ⟨x', hx', hv⟩
      obtain rfl : v = _ := hv
      go_simp
      refine Mk2.wpM_make rfl rfl rfl ?_ ?_
      · intro x hx
        unfold Mk2.makesAt
        go_simp
        exact ⟨⟨_, rfl, hx.size, Blk.new _ _ _⟩, (fun q e => by injection e with e; injection e with e; subst e; exact ⟨Nat.le_refl _, by simp⟩), balloc _ _⟩
      rintro v ⟨xa, hxa, na, rfl, hna, hbka⟩
      go_simp
      refine Mk2.wpM_make rfl rfl rfl ?_ ?_
      · intro x hx
        unfold Mk2.makesAt
        go_simp
        exact ⟨⟨_, rfl, hx.size, Blk.new _ _ _⟩, (fun q e => by injection e with e; injection e with e; subst e; exact ⟨Nat.le_refl _, by simp⟩), balloc _ _⟩
      rintro v ⟨xb, hxb, nb, rfl, hnb, hbkb⟩
      go_simp
      refine Mk2.wpM_nil ?_
      rintro W4 hb4 ⟨⟨⟨⟨_, _, _⟩, _, _⟩, ⟨m1, em1, hm1, hk1⟩, _⟩, ⟨m2, em2, hm2, hk2⟩, hdf⟩
      have hne := hdf _ (.inr rfl) _ _ rfl rfl
      injection em1 with em1
      injection em1 with em1
      injection em1 with em1
      injection em2 with em2
      injection em2 with em2
      injection em2 with em2
      subst em1 em2
      simp only at hne
      clear b0 b1 b2 bs x0 x1 x2 xl hbka hbkb
      have f0 := hk1.frozen 0
      have f1 := hk1.frozen 1
      have f2 := hk1.frozen 2
      have f3 := hk1.frozen 3
      have f4 := hk1.frozen 4
      have g0 := hk2.frozen 0
      have g1 := hk2.frozen 1
      have g2 := hk2.frozen 2
      have g3 := hk2.frozen 3
      have g4 := hk2.frozen 4
      have z0 := hk1.cell 0
      have z1 := hk1.cell 1
      have z2 := hk1.cell 2
      have z3 := hk1.cell 3
      have z4 := hk1.cell 4
      have y0 := hk2.cell 0
      have y1 := hk2.cell 1
      have y2 := hk2.cell 2
      have y3 := hk2.cell 3
      have y4 := hk2.cell 4
      have kla := hk1.lt
      have klb := hk2.lt
      have hne2 := hne.symm
      have hz1 : Blk ((((((((((W4.setCell ⟨na, 0, none⟩ (.int .i64 l1)).setCell ⟨na, 1, none⟩ (.int .i64 t1)).setCell ⟨na, 2, none⟩ (.int .i64 q1)).setCell ⟨na, 3, none⟩ (.int .i64 d1)).setCell ⟨na, 4, none⟩ (.int .i64 s1)).setCell ⟨nb, 0, none⟩ (.int .i64 l2)).setCell ⟨nb, 1, none⟩ (.int .i64 t1)).setCell ⟨nb, 2, none⟩ (.int .i64 q1)).setCell ⟨nb, 3, none⟩ (.int .i64 d1)).setCell ⟨nb, 4, none⟩ (.int .i64 s1)) na 52 #[.int .i64 l1, .int .i64 t1, .int .i64 q1, .int .i64 d1, .int .i64 s1] := ((((((((((hk1.set_ 0 (.int .i64 l1)).set_ 1 (.int .i64 t1)).set_ 2 (.int .i64 q1)).set_ 3 (.int .i64 d1)).set_ 4 (.int .i64 s1)).far (p := ⟨nb, 0, none⟩) hne (.int .i64 l2)).far (p := ⟨nb, 1, none⟩) hne (.int .i64 t1)).far (p := ⟨nb, 2, none⟩) hne (.int .i64 q1)).far (p := ⟨nb, 3, none⟩) hne (.int .i64 d1)).far (p := ⟨nb, 4, none⟩) hne (.int .i64 s1))
      have hz2 : Blk ((((((((((W4.setCell ⟨na, 0, none⟩ (.int .i64 l1)).setCell ⟨na, 1, none⟩ (.int .i64 t1)).setCell ⟨na, 2, none⟩ (.int .i64 q1)).setCell ⟨na, 3, none⟩ (.int .i64 d1)).setCell ⟨na, 4, none⟩ (.int .i64 s1)).setCell ⟨nb, 0, none⟩ (.int .i64 l2)).setCell ⟨nb, 1, none⟩ (.int .i64 t1)).setCell ⟨nb, 2, none⟩ (.int .i64 q1)).setCell ⟨nb, 3, none⟩ (.int .i64 d1)).setCell ⟨nb, 4, none⟩ (.int .i64 s1)) nb 52 #[.int .i64 l2, .int .i64 t1, .int .i64 q1, .int .i64 d1, .int .i64 s1] := ((((((((((hk2.far (p := ⟨na, 0, none⟩) hne.symm (.int .i64 l1)).far (p := ⟨na, 1, none⟩) hne.symm (.int .i64 t1)).far (p := ⟨na, 2, none⟩) hne.symm (.int .i64 q1)).far (p := ⟨na, 3, none⟩) hne.symm (.int .i64 d1)).far (p := ⟨na, 4, none⟩) hne.symm (.int .i64 s1)).set_ 0 (.int .i64 l2)).set_ 1 (.int .i64 t1)).set_ 2 (.int .i64 q1)).set_ 3 (.int .i64 d1)).set_ 4 (.int .i64 s1))
      have hbz : Below Wa.heap.size Wa ((((((((((W4.setCell ⟨na, 0, none⟩ (.int .i64 l1)).setCell ⟨na, 1, none⟩ (.int .i64 t1)).setCell ⟨na, 2, none⟩ (.int .i64 q1)).setCell ⟨na, 3, none⟩ (.int .i64 d1)).setCell ⟨na, 4, none⟩ (.int .i64 s1)).setCell ⟨nb, 0, none⟩ (.int .i64 l2)).setCell ⟨nb, 1, none⟩ (.int .i64 t1)).setCell ⟨nb, 2, none⟩ (.int .i64 q1)).setCell ⟨nb, 3, none⟩ (.int .i64 d1)).setCell ⟨nb, 4, none⟩ (.int .i64 s1)) := ((((((((((hb4.setCell (p := ⟨na, 0, none⟩) hm1 (.int .i64 l1)).setCell (p := ⟨na, 1, none⟩) hm1 (.int .i64 t1)).setCell (p := ⟨na, 2, none⟩) hm1 (.int .i64 q1)).setCell (p := ⟨na, 3, none⟩) hm1 (.int .i64 d1)).setCell (p := ⟨na, 4, none⟩) hm1 (.int .i64 s1)).setCell (p := ⟨nb, 0, none⟩) hm2 (.int .i64 l2)).setCell (p := ⟨nb, 1, none⟩) hm2 (.int .i64 t1)).setCell (p := ⟨nb, 2, none⟩) hm2 (.int .i64 q1)).setCell (p := ⟨nb, 3, none⟩) hm2 (.int .i64 d1)).setCell (p := ⟨nb, 4, none⟩) hm2 (.int .i64 s1))
      go_upto_region 11 with fail
      obtain ⟨W5', hW5⟩ : ∃ X, X = ((((((((((W4.setCell ⟨na, 0, none⟩ (.int .i64 l1)).setCell ⟨na, 1, none⟩ (.int .i64 t1)).setCell ⟨na, 2, none⟩ (.int .i64 q1)).setCell ⟨na, 3, none⟩ (.int .i64 d1)).setCell ⟨na, 4, none⟩ (.int .i64 s1)).setCell ⟨nb, 0, none⟩ (.int .i64 l2)).setCell ⟨nb, 1, none⟩ (.int .i64 t1)).setCell ⟨nb, 2, none⟩ (.int .i64 q1)).setCell ⟨nb, 3, none⟩ (.int .i64 d1)).setCell ⟨nb, 4, none⟩ (.int .i64 s1)) := ⟨_, rfl⟩
      rw [← hW5] at hz1 hz2 hbz ⊢
      clear hW5 f0 f1 f2 f3 f4 g0 g1 g2 g3 g4 z0 z1 z2 z3 z4 y0 y1 y2 y3 y4 kla klb hk1 hk2
      have f0 := hz1.frozen 0
      have g0 := hz2.frozen 0
      have z0 := hz1.cell 0
      have y0 := hz2.cell 0
      have hv1 : Blk ((W5'.setCell ⟨na, 0, none⟩ (.int .i64 0)).setCell ⟨nb, 0, none⟩ (.int .i64 0)) na 52 #[.int .i64 0, .int .i64 t1, .int .i64 q1, .int .i64 d1, .int .i64 s1] := (hz1.set_ 0 _).far (p := ⟨nb, 0, none⟩) hne _
      have hv2 : Blk ((W5'.setCell ⟨na, 0, none⟩ (.int .i64 0)).setCell ⟨nb, 0, none⟩ (.int .i64 0)) nb 52 #[.int .i64 0, .int .i64 t1, .int .i64 q1, .int .i64 d1, .int .i64 s1] := (hz2.far (p := ⟨na, 0, none⟩) hne.symm _).set_ 0 _
      have hbv : Below Wa.heap.size Wa ((W5'.setCell ⟨na, 0, none⟩ (.int .i64 0)).setCell ⟨nb, 0, none⟩ (.int .i64 0)) := (hbz.setCell (p := ⟨na, 0, none⟩) hm1 _).setCell (p := ⟨nb, 0, none⟩) hm2 _
      go_upto_region 12 with fail
      obtain ⟨W6', hW6⟩ : ∃ X, X = (W5'.setCell ⟨na, 0, none⟩ (.int .i64 0)).setCell ⟨nb, 0, none⟩ (.int .i64 0) := ⟨_, rfl⟩
      rw [← hW6] at hv1 hv2 hbv ⊢
      clear hW6 f0 g0 z0 y0 hz1 hz2
      have z0 := hv1.cell 0
      have z1 := hv1.cell 1
      have z2 := hv1.cell 2
      have z3 := hv1.cell 3
      have z4 := hv1.cell 4
      have y0 := hv2.cell 0
      have y1 := hv2.cell 1
      have y2 := hv2.cell 2
      have y3 := hv2.cell 3
      have y4 := hv2.cell 4
      have kla := hv1.lt
      have klb := hv2.lt
      go_wp2_with fail
      go_roundw
      case rel => exact ⟨p + 1, by omega, by omega, by go_num, bthen hbWa hbv⟩
      case measure => simp [intOf]; omega
    · obtain rfl : p = lenSum r.ps := by omega
      go_wp2_with fail
      refine (rlength_any r A B C a b c _ (hIl.rd h) HLB.out hr5).mono ?_
      rintro e Wa ⟨rfl, hba⟩
      go_wp2_with fail
      refine (known_any _).mono ?_
      rintro e Wk ⟨rfl, hbk⟩
      go_wp2_with fail
      go_ret
      exact ⟨rfl, bthen (hI11.below.trans (hbl.mono hI11.below.size)) (bthen hba hbk)⟩

end Go.Proofs.Ytbdjmaogbpdkpaa

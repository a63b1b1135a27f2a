import Derived.Test.YtbdjmaogbpdkpaaCmpW
/-
  ref.Compare.
-/
namespace Go.Proofs.Ytbdjmaogbpdkpaa
open Go Go.RowKit Go.Shelf
set_option linter.unusedVariables false
set_option linter.unusedSimpArgs false
attribute [local go_sem] Later.cell Later.cell1 Later.new1 Later.frozen Later.frozen1 max_ints min_ints

theorem rat_p (r : Road) (A B C : Option Addr) (a b c : Nat) (x : Int) (w : World) (h : RdRoad w r A B C) (hok : okPs r) (hx0 : 0 ≤ x) (hx1 : x < lenSum r.ps) :
    Calls Try.prog 29 #[.agg #[.slice A r.ps.length a, .slice B r.cs.length b, .slice C r.js.length c], .int .i64 x] w fun e w' => e = .returned (.agg #[.int .i64 (atP r.ps x).len, .int .i64 (atP r.ps x).turn, .int .i64 (atP r.ps x).rad, .int .i64 (atP r.ps x).wid, .int .i64 (atP r.ps x).sur]) ∧ Below w.heap.size w w' :=
  (rat_any r A B C a b c x w h hok hx0 hx1).mono fun _ _ ⟨⟨k, p, hf, hp, e⟩, hb⟩ => ⟨by rw [e, atP_find r.ps x k p (fun q hq => (hok.lens q hq).1) hf hp], hb⟩
def IsV5 (x v : Value) (_ : World) : Prop := v = x
theorem stays_isv5 (x v : Value) : Stays (IsV5 x v) := fun _ _ h _ => h
theorem atP_mem {r : Road} (hok : okPs r) (y : Int) (h0 : 0 ≤ y) (h1 : y < lenSum r.ps) : atP r.ps y ∈ r.ps := by
  obtain ⟨k, p, hf, hp⟩ := findAt_ex r.ps y h0 h1
  rw [atP_find r.ps y k p (fun q hq => (hok.lens q hq).1) hf hp]
  exact List.mem_of_getElem? hp
theorem unit_next (tol : Int) (ps qs : List Pc) (k : Nat) : unitF (dstep tol) ps qs (k + 1) 0 [] = dstep tol (unitF (dstep tol) ps qs k 0 []) k (k + 1) (atP ps k) (atP qs k) := by
  rw [unitF_succ, Int.zero_add]

set_option maxRecDepth 100000 in
set_option maxHeartbeats 16000000 in
theorem rcompare_any (r q : Road) (A B C A' B' C' : Option Addr) (a b c a' b' c' : Nat) (tol : Int) (w : World) (h : RdRoad w r A B C) (h' : RdRoad w q A' B' C') (hv : validB r = true) (hv' : validB q = true) (ht : lenSum r.ps = lenSum q.ps) (t0 : 0 ≤ tol) (t1 : tol ≤ 2000) :
    Calls Try.prog 38 #[.agg #[.slice A r.ps.length a, .slice B r.cs.length b, .slice C r.js.length c], .agg #[.slice A' q.ps.length a', .slice B' q.cs.length b', .slice C' q.js.length c'], .int .i64 tol] w fun e w' => (∃ v, e = .returned v ∧ OwnL w' w.heap.size 72 2 dfV v (cmpL tol r.ps q.ps)) ∧ Below w.heap.size w w' := by
  obtain ⟨j0, hj, hy0, hy1, hy2⟩ := info_parts Try.info72
  have hVr := VR.of hv
  have hVq := VR.of hv'
  have hok := hVr.ok
  have hokq := hVq.ok
  have hln := hVr.ln
  have hlp := hVr.lp
  have hln0 := (hok.beg r.ps.length).1
  rw [List.take_length] at hln0
  have HT := Lib.hid ht
  have HLB : Hid (lensOk r.ps 100000) := Lib.hid (fun p hp => ⟨(hok.lens p hp).1, by have := (hok.lens p hp).2; omega⟩)
  obtain ⟨T, hT⟩ : ∃ T : Nat, (T : Int) = lenSum r.ps := ⟨(lenSum r.ps).toNat, by omega⟩
  have HC : Hid (cmpL tol r.ps q.ps = unitF (dstep tol) r.ps q.ps T 0 []) := Lib.hid (by unfold cmpL; rw [← hT]; rfl)
  have hTn : T ≤ 100000 := by omega
  have HTT := Lib.hid hT
  clear hT ht hv hv'
  obtain ⟨W0, hW0⟩ : ∃ W0, W0 = (w.alloc (.cells #[.slice A r.ps.length a, .slice B r.cs.length b, .slice C r.js.length c] 26)).alloc (.cells #[.slice A' q.ps.length a', .slice B' q.cs.length b', .slice C' q.js.length c'] 26) := ⟨_, rfl⟩
  have hR0 : InR w W0 r A B C a b c := by rw [hW0]; exact (InR.new w r A B C a b c).step (balloc _ _)
  have hJ0 : Blk W0 (w.heap.size + 1) 26 #[.slice A' q.ps.length a', .slice B' q.cs.length b', .slice C' q.js.length c'] := by rw [hW0]; exact blk_at _ _ _ _ (by simp)
  have hq0 := h'.below hR0.below
  go_enter Try.func38, Try.ntmps38
  go_upto_region 1 with fail
  rw [← hW0]
  clear hW0
  go_wp2_with fail
  go_loopw [7, 8] (fun v i W => ∃ k : Nat, k ≤ T ∧ i = .int .i64 k ∧ OwnL W W0.heap.size 72 2 dfV v (unitF (dstep tol) r.ps q.ps k 0 []) ∧ Below W0.heap.size W0 W) (fun _ i _ => T - (intOf i).toNat)
  case atStart => exact ⟨0, Nat.zero_le _, rfl, OwnL.nil _ _ _ _ _, Below.refl _ _⟩
  case round =>
    rename World => Wq
    obtain ⟨k, hk, rfl, hO, hbq⟩ := hrel
    have hIq := hR0.step hbq
    have b0 := hIq.box.2 0 _ rfl
    have b1 := hIq.box.2 1 _ rfl
    have b2 := hIq.box.2 2 _ rfl
    have bs := hIq.box.1
    have hpl := unitF_len tol r.ps q.ps k 0 []
    rw [List.length_nil, Nat.zero_add] at hpl
    obtain ⟨VA, vc, rfl⟩ := hO.form
    have HTE := HTT.out
    by_cases hlt : k < T
    · have hk0 : (0 : Int) ≤ (k : Int) := by omega
      have hk1 : (k : Int) < lenSum r.ps := by omega
      have hk2 : (k : Int) < lenSum q.ps := by rw [← HT.out]; exact hk1
      clear HTE
      go_upto_region 5 with (go_at_call 21; refine (rlength_any r A B C a b c _ (hIq.rd h) HLB.out (by omega)).mono ?_; rintro e Wa ⟨rfl, hba⟩)
      have hIa := hIq.step hba
      have hJa := hJ0.below (bthen hbq hba) hJ0.lt
      have hbWa := bthen hbq hba
      have hOa := hO.below hba
      clear b0 b1 b2 bs
      have b0 := hIa.box.2 0 _ rfl
      have b1 := hIa.box.2 1 _ rfl
      have b2 := hIa.box.2 2 _ rfl
      have bs := hIa.box.1
      have e0 := hJa.cell 0
      have e1 := hJa.cell 1
      have e2 := hJa.cell 2
      have es := hJa.lt
      have hra := hIa.rd h
      have hqa := hq0.below hbWa
      have hu1 := rad_bd hVr (atP_mem hok k hk0 hk1)
      have hu2 := rad_bd hVq (atP_mem hokq k hk0 hk2)
      have HN := Lib.hid (unit_next tol r.ps q.ps k)
      obtain ⟨X, hX⟩ : ∃ X, X = atP r.ps k := ⟨_, rfl⟩
      obtain ⟨Y, hY⟩ : ∃ Y, Y = atP q.ps k := ⟨_, rfl⟩
      rw [← hX] at hu1 HN
      rw [← hY] at hu2 HN
      obtain ⟨pl, pt, pr, pw, pu⟩ := X
      obtain ⟨ql, qt, qr, qw, qu⟩ := Y
      have HX := Lib.hid hX
      have HY := Lib.hid hY
      simp only at hu1 hu2
      obtain ⟨u1, u2⟩ := hu1
      obtain ⟨u3, u4⟩ := hu2
      clear hX hY
      obtain ⟨qs, hqs⟩ : ∃ qs, qs = unitF (dstep tol) r.ps q.ps k 0 [] := ⟨_, rfl⟩
      rw [← hqs] at HN hOa hpl ⊢
      have hqn : qs.length ≤ 100000 := by omega
      clear hqs hpl hO
      refine Mk2.wp_region_mk_tail 8 (fun j => match j with | 2 => some (IsV5 (.agg #[.int .i64 pl, .int .i64 pt, .int .i64 pr, .int .i64 pw, .int .i64 pu])) | 5 => some (IsV5 (.agg #[.int .i64 ql, .int .i64 qt, .int .i64 qr, .int .i64 qw, .int .i64 qu])) | 6 => some (NewBlk Wa.heap.size 52 #[.int .i64 0, .int .i64 0, .int .i64 0, .int .i64 0, .int .i64 0]) | 7 => some (NewBlk Wa.heap.size 52 #[.int .i64 0, .int .i64 0, .int .i64 0, .int .i64 0, .int .i64 0]) | _ => none) (by kernel_rfl) (by kernel_rfl) ?hmk ?_
      case hmk =>
        intro j S hS v
        split at hS <;> first | (injection hS with hS; subst hS; first | exact stays_isv5 _ _ | exact stays_blk _ _ _ _) | cases hS
      simp only [List.take_succ_cons, List.take_zero, List.drop_succ_cons, List.drop_zero]
      refine Mk2.wpM_reads [_, _] (_ :: _) _ _ _ (by kernel_rfl) (by intro j hj; rcases (show j = 0 ∨ j = 1 by simp at hj; omega) with rfl | rfl <;> exact ⟨rfl, rfl⟩) ?_
      repeat (go_big_quiet_step (fail))
      refine wpQuiet_nil ?_
      refine Mk2.wpM_make rfl rfl rfl ?_ ?_
      · intro x hx
        unfold Mk2.makesAt
        go_simp
        exact (rat_p r A B C a b c k x (hra.below hx) hok hk0 hk1).mono fun e w' ⟨he, hb⟩ => ⟨_, he, by rw [← HX.out]; rfl, (fun _ e => by cases e), hb⟩
      rintro v ⟨x, hx, hv⟩
      obtain rfl : v = _ := hv
      go_simp
      refine Mk2.wpM_reads [_, _] (_ :: _) _ _ _ (by kernel_rfl) (by intro j hj; rcases (show j = 0 ∨ j = 1 by simp at hj; omega) with rfl | rfl <;> exact ⟨rfl, rfl⟩) ?_
      repeat (go_big_quiet_step (fail))
      refine wpQuiet_nil ?_
      refine Mk2.wpM_make rfl rfl rfl ?_ ?_
      · intro x hx
        unfold Mk2.makesAt
        go_simp
        exact (rat_p q A' B' C' a' b' c' k x (hqa.below hx) hokq hk0 hk2).mono fun e w' ⟨he, hb⟩ => ⟨_, he, by rw [← HY.out]; rfl, (fun _ e => by cases e), hb⟩
      rintro v ⟨x', hx', hv⟩
      obtain rfl : v = _ := hv
      go_simp
      refine Mk2.wpM_make rfl rfl rfl ?_ ?_
      · intro x hx
        unfold Mk2.makesAt
        go_simp
        exact ⟨⟨_, rfl, hx.size, Blk.new _ _ _⟩, (fun q e => by injection e with e; injection e with e; subst e; exact ⟨Nat.le_refl _, by simp⟩), balloc _ _⟩
      rintro v ⟨xa, hxa, na, rfl, hna, hbka⟩
      go_simp
      refine Mk2.wpM_make rfl rfl rfl ?_ ?_
      · intro x hx
        unfold Mk2.makesAt
        go_simp
        exact ⟨⟨_, rfl, hx.size, Blk.new _ _ _⟩, (fun q e => by injection e with e; injection e with e; subst e; exact ⟨Nat.le_refl _, by simp⟩), balloc _ _⟩
      rintro v ⟨xb, hxb, nb, rfl, hnb, hbkb⟩
      go_simp
      refine Mk2.wpM_nil ?_
      rintro W4 hb4 ⟨⟨⟨⟨_, _, _⟩, _, _⟩, ⟨m1, em1, hm1, hk1'⟩, _⟩, ⟨m2, em2, hm2, hk2'⟩, hdf⟩
      have hne := hdf _ (.inr rfl) _ _ rfl rfl
      injection em1 with em1
      injection em1 with em1
      injection em1 with em1
      injection em2 with em2
      injection em2 with em2
      injection em2 with em2
      subst em1 em2
      simp only at hne
      clear b0 b1 b2 bs e0 e1 e2 es hbka hbkb hx hx' hxa hxb hna hnb
      have f0 := hk1'.frozen 0
      have f1 := hk1'.frozen 1
      have f2 := hk1'.frozen 2
      have f3 := hk1'.frozen 3
      have f4 := hk1'.frozen 4
      have g0 := hk2'.frozen 0
      have g1 := hk2'.frozen 1
      have g2 := hk2'.frozen 2
      have g3 := hk2'.frozen 3
      have g4 := hk2'.frozen 4
      have z0 := hk1'.cell 0
      have z1 := hk1'.cell 1
      have z2 := hk1'.cell 2
      have z3 := hk1'.cell 3
      have z4 := hk1'.cell 4
      have y0 := hk2'.cell 0
      have y1 := hk2'.cell 1
      have y2 := hk2'.cell 2
      have y3 := hk2'.cell 3
      have y4 := hk2'.cell 4
      have kla := hk1'.lt
      have klb := hk2'.lt
      have hne2 := hne.symm
      have hX5 : Blk ((((((((((W4.setCell ⟨na, 0, none⟩ (.int .i64 pl)).setCell ⟨na, 1, none⟩ (.int .i64 pt)).setCell ⟨na, 2, none⟩ (.int .i64 pr)).setCell ⟨na, 3, none⟩ (.int .i64 pw)).setCell ⟨na, 4, none⟩ (.int .i64 pu)).setCell ⟨nb, 0, none⟩ (.int .i64 ql)).setCell ⟨nb, 1, none⟩ (.int .i64 qt)).setCell ⟨nb, 2, none⟩ (.int .i64 qr)).setCell ⟨nb, 3, none⟩ (.int .i64 qw)).setCell ⟨nb, 4, none⟩ (.int .i64 qu)) na 52 #[.int .i64 pl, .int .i64 pt, .int .i64 pr, .int .i64 pw, .int .i64 pu] := (((((((((hk1'.set_ 0 _).set_ 1 _).set_ 2 _).set_ 3 _).set_ 4 _).far (p := ⟨nb, 0, none⟩) hne _).far (p := ⟨nb, 1, none⟩) hne _).far (p := ⟨nb, 2, none⟩) hne _).far (p := ⟨nb, 3, none⟩) hne _).far (p := ⟨nb, 4, none⟩) hne _
      have hY5 : Blk ((((((((((W4.setCell ⟨na, 0, none⟩ (.int .i64 pl)).setCell ⟨na, 1, none⟩ (.int .i64 pt)).setCell ⟨na, 2, none⟩ (.int .i64 pr)).setCell ⟨na, 3, none⟩ (.int .i64 pw)).setCell ⟨na, 4, none⟩ (.int .i64 pu)).setCell ⟨nb, 0, none⟩ (.int .i64 ql)).setCell ⟨nb, 1, none⟩ (.int .i64 qt)).setCell ⟨nb, 2, none⟩ (.int .i64 qr)).setCell ⟨nb, 3, none⟩ (.int .i64 qw)).setCell ⟨nb, 4, none⟩ (.int .i64 qu)) nb 52 #[.int .i64 ql, .int .i64 qt, .int .i64 qr, .int .i64 qw, .int .i64 qu] := (((((((((hk2'.far (p := ⟨na, 0, none⟩) hne2 _).far (p := ⟨na, 1, none⟩) hne2 _).far (p := ⟨na, 2, none⟩) hne2 _).far (p := ⟨na, 3, none⟩) hne2 _).far (p := ⟨na, 4, none⟩) hne2 _).set_ 0 _).set_ 1 _).set_ 2 _).set_ 3 _).set_ 4 _
      have hb5 : Below Wa.heap.size Wa ((((((((((W4.setCell ⟨na, 0, none⟩ (.int .i64 pl)).setCell ⟨na, 1, none⟩ (.int .i64 pt)).setCell ⟨na, 2, none⟩ (.int .i64 pr)).setCell ⟨na, 3, none⟩ (.int .i64 pw)).setCell ⟨na, 4, none⟩ (.int .i64 pu)).setCell ⟨nb, 0, none⟩ (.int .i64 ql)).setCell ⟨nb, 1, none⟩ (.int .i64 qt)).setCell ⟨nb, 2, none⟩ (.int .i64 qr)).setCell ⟨nb, 3, none⟩ (.int .i64 qw)).setCell ⟨nb, 4, none⟩ (.int .i64 qu)) := (((((((((hb4.setCell (p := ⟨na, 0, none⟩) hm1 _).setCell (p := ⟨na, 1, none⟩) hm1 _).setCell (p := ⟨na, 2, none⟩) hm1 _).setCell (p := ⟨na, 3, none⟩) hm1 _).setCell (p := ⟨na, 4, none⟩) hm1 _).setCell (p := ⟨nb, 0, none⟩) hm2 _).setCell (p := ⟨nb, 1, none⟩) hm2 _).setCell (p := ⟨nb, 2, none⟩) hm2 _).setCell (p := ⟨nb, 3, none⟩) hm2 _).setCell (p := ⟨nb, 4, none⟩) hm2 _
      go_upto_region 6 with fail
      obtain ⟨W5, hW5⟩ : ∃ X, X = ((((((((((W4.setCell ⟨na, 0, none⟩ (.int .i64 pl)).setCell ⟨na, 1, none⟩ (.int .i64 pt)).setCell ⟨na, 2, none⟩ (.int .i64 pr)).setCell ⟨na, 3, none⟩ (.int .i64 pw)).setCell ⟨na, 4, none⟩ (.int .i64 pu)).setCell ⟨nb, 0, none⟩ (.int .i64 ql)).setCell ⟨nb, 1, none⟩ (.int .i64 qt)).setCell ⟨nb, 2, none⟩ (.int .i64 qr)).setCell ⟨nb, 3, none⟩ (.int .i64 qw)).setCell ⟨nb, 4, none⟩ (.int .i64 qu)) := ⟨_, rfl⟩
      rw [← hW5] at hX5 hY5 hb5 ⊢
      clear hW5 f0 f1 f2 f3 f4 g0 g1 g2 g3 g4 z0 z1 z2 z3 z4 y0 y1 y2 y3 y4 kla klb hk1' hk2' hne hne2 hb4
      have hO5 := hOa.below hb5
      have hbW5 := bthen hbWa hb5
      have x1 := hX5.cell 1
      have x2 := hX5.cell 2
      have x3 := hX5.cell 3
      have x4 := hX5.cell 4
      have xl := hX5.lt
      have y1 := hY5.cell 1
      have y2 := hY5.cell 2
      have y3 := hY5.cell 3
      have y4 := hY5.cell 4
      have yl := hY5.lt
      go_upto_region 7 with fail
      go_cut [59] from 30 to 59 (fun c wx => c = .bool (sameT tol ⟨pl, pt, pr, pw, pu⟩ ⟨ql, qt, qr, qw, qu⟩) ∧ wx = W5)
      case first =>
        have HIB : Hid (inB (pr - qr) (-tol) tol = (decide (pr - qr ≤ tol) && decide (-(pr - qr) ≤ tol))) := Lib.hid (by unfold inB; rw [Bool.and_comm]; congr 1; rw [decide_eq_decide]; omega)
        by_cases g1 : pt = qt
        · have g1' : (pt == qt) = true := by simpa using g1
          by_cases g2 : pr - qr ≤ tol
          · by_cases g4 : -(pr - qr) ≤ tol
            · by_cases g3 : pw = qw
              · have g3' : (pw == qw) = true := by simpa using g3
                have HR : Hid (sameT tol ⟨pl, pt, pr, pw, pu⟩ ⟨ql, qt, qr, qw, qu⟩ = decide (pu = qu)) := Lib.hid (by unfold sameT; rw [HIB.out]; simp [g1, g2, g3, g4])
                clear g1 g3
                go_wp2_with fail
                go_meet
                exact ⟨by rw [HR.out]; rfl, rfl⟩
              · have g3' : (pw == qw) = false := by simpa using g3
                have HR : Hid (sameT tol ⟨pl, pt, pr, pw, pu⟩ ⟨ql, qt, qr, qw, qu⟩ = false) := Lib.hid (by unfold sameT; simp [g3])
                clear g1 g3
                go_wp2_with fail
                go_meet
                exact ⟨by rw [HR.out], rfl⟩
            · have HR : Hid (sameT tol ⟨pl, pt, pr, pw, pu⟩ ⟨ql, qt, qr, qw, qu⟩ = false) := Lib.hid (by unfold sameT; rw [HIB.out]; simp [g4])
              clear g1
              go_wp2_with fail
              go_meet
              exact ⟨by rw [HR.out], rfl⟩
          · have HR : Hid (sameT tol ⟨pl, pt, pr, pw, pu⟩ ⟨ql, qt, qr, qw, qu⟩ = false) := Lib.hid (by unfold sameT; rw [HIB.out]; simp [g2])
            clear g1
            go_wp2_with fail
            go_meet
            exact ⟨by rw [HR.out], rfl⟩
        · have g1' : (pt == qt) = false := by simpa using g1
          have HR : Hid (sameT tol ⟨pl, pt, pr, pw, pu⟩ ⟨ql, qt, qr, qw, qu⟩ = false) := Lib.hid (by simp [sameT, g1])
          clear g1
          go_wp2_with fail
          go_meet
          exact ⟨by rw [HR.out], rfl⟩
      case rest =>
        obtain ⟨rfl, hwc⟩ := hcut
        obtain rfl : W5 = wc := hwc.symm
        clear x1 x2 x3 x4 xl y1 y2 y3 y4 yl hX5 hY5
        cases hsame : sameT tol ⟨pl, pt, pr, pw, pu⟩ ⟨ql, qt, qr, qw, qu⟩
        case true =>
          have HE : Hid (unitF (dstep tol) r.ps q.ps (k + 1) 0 [] = qs) := Lib.hid (by rw [HN.out, dstep_yes hsame])
          go_wp2_with fail
          go_roundw
          case rel => exact ⟨k + 1, by omega, by go_num, by rw [HE.out]; exact hO5, hbW5⟩
          case measure => simp [intOf]; omega
        have HE : Hid (unitF (dstep tol) r.ps q.ps (k + 1) 0 [] = dadd qs k (k + 1)) := Lib.hid (by rw [HN.out, dstep_no hsame])
        clear hsame
        have hsz5 := hbW5.size
        rcases List.eq_nil_or_concat qs with rfl | ⟨ds, l, hd⟩
        · simp only [List.length_nil] at hO5 ⊢
          have h2o : W5.ownsRow W0.heap.size 72 2 (.slice VA 0 vc) 0 (([] : List Df).flatMap dfV) := hO5
          go_wp2_with (first | (at_builtin; refine wpList_append_own _ rfl _ _ 67 rfl W0.heap.size 72 j0 _ 2 16 Try.underlying67 hj hy0 hy1 hy2 rfl (by decide) (.slice VA 0 vc) 0 (([] : List Df).flatMap dfV) rfl (World.ownsRow.alloc h2o _) ⟨W5.heap.size, 0, none⟩ 1 1 (dfV ⟨(k : Int), (k : Int) + 1⟩) rfl rfl (cells_new _ (dfV ⟨(k : Int), (k : Int) + 1⟩) _ _ rfl) (by simp [dfV, Value.oneCell']) (by simp only [maxLen]; omega) (by omega) (by simp; omega) ?_; intro v' w1 hown' hgrow _))
          obtain ⟨hbn0, hOn0⟩ := after_app (x := (⟨(k : Int), (k : Int) + 1⟩ : Df)) (Below.refl _ W5) hO5 hsz5 hown' rfl hgrow
          have hOn : OwnL w1 W0.heap.size 72 2 dfV v' (dadd [] k (k + 1)) := by simpa [dadd] using hOn0
          have hbn := hbW5.trans hbn0
          go_roundw
          case rel => exact ⟨k + 1, by omega, by go_num, by rw [HE.out]; exact hOn, hbn⟩
          case measure => simp [intOf]; omega
        · rw [List.concat_eq_append] at hd
          subst hd
          obtain ⟨d, hd'⟩ : ∃ d, d = ds.length := ⟨_, rfl⟩
          have hdl : (ds ++ [l]).length = d + 1 := by simp [hd']
          have hll : (ds ++ [l])[d]? = some l := by simp [hd']
          obtain ⟨gb, hU1, hgb, hgbl, hfz⟩ := hO5.addr (by omega)
          subst hU1
          obtain ⟨b7, o7, e7, _, l0, l1⟩ := (hO5.rd dfV_len).atD hll
          injection e7 with e7
          injection e7 with e7 e8
          subst e7 e8
          simp only [Nat.zero_add] at l0 l1
          have hdn : d ≤ 100000 := by omega
          have fz1 := hfz (d * 2 + 1)
          have q2 : IntKind.i64.wrap (((d : Int) + 1) - 1) = (d : Int) := by rw [IntWalk.i64_in _ (by omega)]; omega
          have q3 : 0 ≤ (d : Int) := by omega
          have q4 : ((d : Int)).toNat = d := by omega
          have q5 : (d : Int) < (d : Int) + 1 := by omega
          have q6 : decide ((0 : Int) ≤ (d : Int)) = true := by rw [decide_eq_true_eq]; omega
          have hO6 := hO5
          rw [hdl] at hO6 ⊢
          have HDL := Lib.hid hdl
          have HD := Lib.hid hd'
          have HLL := Lib.hid hll
          clear hdl hd' hll hfz
          by_cases heq : l.to_ = (k : Int)
          · have hq1 : (l.to_ == (k : Int)) = true := by simpa using heq
            have HEQ := Lib.hid heq
            clear heq
            go_wp2_with fail
            have o1 := OwnL.store (i := d) (j := 1) (x' := ⟨l.fr, (k : Int) + 1⟩) (u := .int .i64 ((k : Int) + 1)) hO6 HDL.out.symm dfV_len HLL.out (by decide) rfl
            have e9 : (ds ++ [l]).set d ⟨l.fr, (k : Int) + 1⟩ = ds ++ [⟨l.fr, (k : Int) + 1⟩] := by rw [HD.out]; simp
            rw [e9] at o1
            have hbn : Below W0.heap.size W0 (W5.setCell ⟨gb, d * 2 + 1, none⟩ (.int .i64 ((k : Int) + 1))) := hbW5.setCell (p := ⟨gb, d * 2 + 1, none⟩) hgb _
            have HEE : Hid (dadd (ds ++ [l]) k (k + 1) = ds ++ [⟨l.fr, (k : Int) + 1⟩]) := Lib.hid (dadd_same _ _ _ _ HEQ.out)
            go_roundw
            case rel => exact ⟨k + 1, by omega, by go_num, by rw [HE.out, HEE.out]; exact o1, hbn⟩
            case measure => simp [intOf]; omega
          · have hq1 : (l.to_ == (k : Int)) = false := by simpa using heq
            have HEE : Hid (dadd (ds ++ [l]) k (k + 1) = (ds ++ [l]) ++ [⟨(k : Int), (k : Int) + 1⟩]) := Lib.hid (dadd_new _ _ _ _ heq)
            clear heq
            have h2o : W5.ownsRow W0.heap.size 72 2 (.slice (some ⟨gb, 0, none⟩) (d + 1) vc) (d + 1) ((ds ++ [l]).flatMap dfV) := by
              have := hO6
              unfold OwnL at this
              rwa [HDL.out] at this
            go_wp2_with (first | (at_builtin; refine wpList_append_own _ rfl _ _ 67 rfl W0.heap.size 72 j0 _ 2 16 Try.underlying67 hj hy0 hy1 hy2 rfl (by decide) (.slice (some ⟨gb, 0, none⟩) (d + 1) vc) (d + 1) ((ds ++ [l]).flatMap dfV) rfl (World.ownsRow.alloc h2o _) ⟨W5.heap.size, 0, none⟩ 1 1 (dfV ⟨(k : Int), (k : Int) + 1⟩) rfl rfl (cells_new _ (dfV ⟨(k : Int), (k : Int) + 1⟩) _ _ rfl) (by simp [dfV, Value.oneCell']) (by simp only [maxLen]; omega) (by omega) (by simp; omega) ?_; intro v' w1 hown' hgrow _))
            obtain ⟨hbn0, hOn0⟩ := after_app (x := (⟨(k : Int), (k : Int) + 1⟩ : Df)) (Below.refl _ W5) hO6 hsz5 hown' (by rw [HDL.out]) hgrow
            have hbn := hbW5.trans hbn0
            go_roundw
            case rel => exact ⟨k + 1, by omega, by go_num, by rw [HE.out, HEE.out]; exact hOn0, hbn⟩
            case measure => simp [intOf]; omega
    · obtain rfl : k = T := by omega
      go_wp2_with (go_at_call 21; refine (rlength_any r A B C a b c _ (hIq.rd h) HLB.out (by omega)).mono ?_; rintro e Wa ⟨rfl, hba⟩)
      go_ret
      exact ⟨⟨_, rfl, by rw [HC.out]; exact (hO.below hba).base_mono hR0.below.size⟩, bthen (bthen hR0.below hbq) hba⟩

end Go.Proofs.Ytbdjmaogbpdkpaa

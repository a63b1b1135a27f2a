import Derived.Test.YtbdjmaogbpdkpaaSgt
import Derived.WalkMore
import Derived.Deep.CutBlock
import Derived.Deep.DeepCutAuto
import Derived.Test.YtbdjmaogbpdkpaaTwoC
namespace Go.Proofs.Ytbdjmaogbpdkpaa
set_option linter.unusedVariables false
set_option linter.unusedSimpArgs false
open Go.RowKit Go.Shelf
attribute [local go_sem] wide_fn wide_depth Oper.semAt_some Later.cell Later.cell1 Later.new1 Later.frozen Later.frozen1 Two.cell TwoD.cell

set_option maxHeartbeats 400000 in
theorem mlength_q (r : Road) (A B C : Option Addr) (a b c : Nat) (G : Option Addr) (g M : Nat) (w : World) (n : Nat) (h : Meas w M r A B C a b c G g) (hn : r.ps.length ≤ 100000) :
    Calls Try.prog 54 #[.pointer (some ⟨M, 0, none⟩)] (w.drewN n) fun e w' => e = .returned (.int .i64 (lenSum r.ps)) ∧ ∃ m, w' = w.drewN m := by
  have b0 := h.box.2 0 _ rfl
  have b3 := h.box.2 3 _ rfl
  obtain ⟨gb, go, rfl, hlt, hc⟩ := h.beg.at1 (begs_at r.ps r.ps.length (Nat.le_refl _))
  rw [List.take_length] at hc
  go_enter Try.func54, Try.ntmps54
  go_wp2_with fail
  go_quiet (fail)
  go_wp2
  go_ret
  exact ⟨rfl, _, World.drewN_drewN _ _ _⟩

theorem max_ints (ats : Array TypeId) (ty : TypeId) (k k' : IntKind) (x y : Int) : Builtin.max_ ats ty #[.int k x, .int k' y] = pure (.int k (max x y)) := by
  have h1 : Builtin.max_ ats ty #[.int k x, .int k' y] = (Builtin.max2 (.int k x) (.int k' y) >>= fun s => pure s) := by simp only [Builtin.max_, List.foldlM_cons, List.foldlM_nil]
  have h2 : Builtin.max2 (.int k x) (.int k' y) = pure (.int k (if x < y then y else x)) := by simp only [Builtin.max2, gt_iff_lt]
  rw [h1, h2, show max x y = if x < y then y else x by split <;> omega]
  rfl
theorem min_ints (ats : Array TypeId) (ty : TypeId) (k k' : IntKind) (x y : Int) : Builtin.min_ ats ty #[.int k x, .int k' y] = pure (.int k (min x y)) := by
  have h1 : Builtin.min_ ats ty #[.int k x, .int k' y] = (Builtin.min2 (.int k x) (.int k' y) >>= fun s => pure s) := by simp only [Builtin.min_, List.foldlM_cons, List.foldlM_nil]
  have h2 : Builtin.min2 (.int k x) (.int k' y) = pure (.int k (if y < x then y else x)) := by simp only [Builtin.min2]
  rw [h1, h2, show min x y = if y < x then y else x by split <;> omega]
  rfl

/-- The three boxes of the way piece by piece. -/
structure SgAt (Wa W : World) (n : Nat) (g s b : Int) : Prop where
  st : Blk W n 3 #[.int .i64 g]
  se : Blk W (n + 1) 3 #[.int .i64 s]
  be : Blk W (n + 2) 3 #[.int .i64 b]
  bl : Below n Wa W
  sz : n + 4 ≤ W.heap.size
structure SgMv (n : Nat) (W W' : World) : Prop where
  ko : KeepsOthers W W'
  kp : KpB n (n + 3) W W'
theorem SgMv.refl (n : Nat) (W : World) : SgMv n W W := ⟨⟨Nat.le_refl _, fun _ _ h _ => h⟩, KpB.refl _ _ _⟩
theorem SgMv.trans {n : Nat} {A B C : World} (h : SgMv n A B) (k : SgMv n B C) : SgMv n A C := ⟨h.ko.trans k.ko, h.kp.trans k.kp⟩
theorem SgMv.later {n : Nat} {W W' : World} (h : Below W.heap.size W W') (hn : n + 4 ≤ W.heap.size) : SgMv n W W' := ⟨keeps_later h, h.mono (by omega), h.block _ (by omega)⟩
theorem SgMv.put {n : Nat} {W : World} (hn : n + 4 ≤ W.heap.size) (j : Nat) (hj : j = 1 ∨ j = 2) (v : Value) : SgMv n W (W.setCell ⟨n + j, 0, none⟩ v) :=
  ⟨KeepsOthers.setCell _ _ _, (Below.refl n W).setCell (p := ⟨n + j, 0, none⟩) (by simp) _, Below.heap_setCell _ _ _ _ (by simp; omega)⟩
theorem SgAt.later {Wa W W' : World} {n : Nat} {g s b : Int} (h : SgAt Wa W n g s b) (hb : Below W.heap.size W W') : SgAt Wa W' n g s b :=
  ⟨h.st.below hb h.st.lt, h.se.below hb h.se.lt, h.be.below hb h.be.lt, h.bl.trans (hb.mono (by have := h.sz; omega)), Nat.le_trans h.sz hb.size⟩
theorem SgAt.putS {Wa W : World} {n : Nat} {g s b : Int} (h : SgAt Wa W n g s b) (v : Int) : SgAt Wa (W.setCell ⟨n + 1, 0, none⟩ (.int .i64 v)) n g v b :=
  ⟨h.st.far (p := ⟨n + 1, 0, none⟩) (by simp) _, h.se.set_ 0 _, h.be.far (p := ⟨n + 1, 0, none⟩) (by simp) _, h.bl.setCell (p := ⟨n + 1, 0, none⟩) (by simp) _, by have := h.sz; simp [World.setCell]; exact this⟩
theorem SgAt.putB {Wa W : World} {n : Nat} {g s b : Int} (h : SgAt Wa W n g s b) (v : Int) : SgAt Wa (W.setCell ⟨n + 2, 0, none⟩ (.int .i64 v)) n g s v :=
  ⟨h.st.far (p := ⟨n + 2, 0, none⟩) (by simp) _, h.se.far (p := ⟨n + 2, 0, none⟩) (by simp) _, h.be.set_ 0 _, h.bl.setCell (p := ⟨n + 2, 0, none⟩) (by simp) _, by have := h.sz; simp [World.setCell]; exact this⟩
theorem SgAt.grown {Wa X Y : World} {n B : Nat} {g s b : Int} {row : Option Nat} (h : SgAt Wa X n g s b) (hB : n + 4 ≤ B) (hg : X.grownBy Y row) (hr : ∀ k, row = some k → B ≤ k) : SgAt Wa Y n g s b :=
  ⟨h.st.grown hg (fun e => by have := hr _ e.symm; omega), h.se.grown hg (fun e => by have := hr _ e.symm; omega), h.be.grown hg (fun e => by have := hr _ e.symm; omega),
    h.bl.grown hg (by have := h.sz; omega) (fun k e => by have := hr _ e; omega), Nat.le_trans h.sz hg.size⟩
def sgI (r : Road) (Wa : World) (n : Nat) (most fr lim : Int) (pre : List (Fin r.ps.length)) (W : World) : Prop :=
  (sgF r most fr lim pre).stop = false ∧ SgAt Wa W n (up r.ps fr) (sgF r most fr lim pre).seen (sgF r most fr lim pre).bef
def sgX (r : Road) (Wa : World) (n : Nat) (most fr lim : Int) (c : Code) (pre : List (Fin r.ps.length)) (W : World) : Prop :=
  c = .exit 2 ∧ (sgF r most fr lim pre).stop = true ∧ ∃ b, SgAt Wa W n (up r.ps fr) (sgF r most fr lim pre).seen b
theorem sgI_own (r : Road) (Wa : World) (n : Nat) (most fr lim : Int) (B : Nat) (hB : n + 4 ≤ B) : OwnFrom B (sgI r Wa n most fr lim) := fun pre X Y row hs hg hr =>
  ⟨hs.1, hs.2.grown hB hg fun k e => (hr k e).1⟩
theorem sgX_own (r : Road) (Wa : World) (n : Nat) (most fr lim : Int) (B : Nat) (hB : n + 4 ≤ B) (c : Code) : OwnFrom B (sgX r Wa n most fr lim c) := fun pre X Y row hs hg hr => by
  obtain ⟨h1, h2, b, h3⟩ := hs
  exact ⟨h1, h2, b, h3.grown hB hg fun k e => (hr k e).1⟩

theorem crs_at {r : Road} (hv : Hid (validB r = true)) {k : Nat} {c : Cr} (hc : r.cs[k]? = some c) : 0 ≤ c.at_ ∧ c.at_ ≤ lenSum r.ps := by
  have h := hv.out
  simp only [validB, Bool.and_eq_true] at h
  have h1 := h.1.2
  unfold crsOk at h1
  obtain ⟨hk, _⟩ := List.getElem?_eq_some_iff.1 hc
  have h2 := List.all_eq_true.1 h1 k (by simpa using hk)
  simp only [crAt, hc, inB, Bool.and_eq_true, decide_eq_true_eq] at h2
  exact h2.1.1
theorem crest_take {cs : List Cr} {k : Nat} {c : Cr} {fr : Int} (hc : cs[k]? = some c) (h : crestBe (cs.take k) fr = none) : (fr < c.at_ → crestBe cs fr = some c) ∧ (¬ fr < c.at_ → crestBe (cs.take (k + 1)) fr = none) := by
  obtain ⟨hk, hck⟩ := List.getElem?_eq_some_iff.1 hc
  refine ⟨fun hlt => ?_, fun hlt => ?_⟩
  · have e : cs = cs.take k ++ c :: cs.drop (k + 1) := by
      rw [← hck]
      simp
    unfold crestBe at *
    rw [e, List.find?_append, h]
    simp [hlt]
  · unfold crestBe at *
    rw [List.take_add_one, hc, List.find?_append, h]
    simp [hlt]

attribute [local go_sem] max_ints min_ints

set_option maxRecDepth 100000 in
set_option maxHeartbeats 4000000 in
theorem sight_walk (r : Road) (A B C : Option Addr) (a b c : Nat) (most mx fr : Int) (w : World) (h : RdRoad w r A B C) (hv : validB r = true) (t1 : inB most 1 10000 = true) (t2 : inB mx 1 5000 = true) (hf0 : 0 ≤ fr) (hf1 : fr ≤ lenSum r.ps) :
    Calls Try.prog 30 #[.agg #[.slice A r.ps.length a, .slice B r.cs.length b, .slice C r.js.length c], .agg #[.int .i64 most, .int .i64 mx], .int .i64 fr] w fun e w' => e = .returned (.tuple #[.int .i64 (sightV r most mx fr), .int .i64 0]) ∧ Below w.heap.size w w' := by
  have hE := checkE_true hv
  have hok := (validB_ok hv).1
  have hlen := hok.2
  have hn0 := (hok.beg r.ps.length).1
  have hn1 := (hok.beg r.ps.length).2
  rw [List.take_length] at hn0 hn1
  have m1 : 1 ≤ most ∧ most ≤ 10000 := by simpa [inB] using t1
  have m2 : 1 ≤ mx ∧ mx ≤ 5000 := by simpa [inB] using t2
  have t3 : inB fr 0 (lenSum r.ps) = true := by simp [inB]; omega
  have hval := Lib.hid hv
  have hcl := (validB_ok hv).2.2.2.1
  clear hv
  have hR0 : InR w (((w.alloc (.cells #[.slice A r.ps.length a, .slice B r.cs.length b, .slice C r.js.length c] 26)).alloc (.cells #[.int .i64 most, .int .i64 mx] 56)).alloc (.cells #[.int .i64 fr] 3)) r A B C a b c := ((InR.new w r A B C a b c).step (balloc _ _)).step (balloc _ _)
  have hB0 : Box (((w.alloc (.cells #[.slice A r.ps.length a, .slice B r.cs.length b, .slice C r.js.length c] 26)).alloc (.cells #[.int .i64 most, .int .i64 mx] 56)).alloc (.cells #[.int .i64 fr] 3)) (w.heap.size + 1) [.int .i64 most, .int .i64 mx] := by
    have := Box.new (w.alloc (.cells #[.slice A r.ps.length a, .slice B r.cs.length b, .slice C r.js.length c] 26)) [.int .i64 most, .int .i64 mx] 56
    rw [World.size_alloc] at this
    exact this.below (balloc _ _)
  have hB1 : Box (((w.alloc (.cells #[.slice A r.ps.length a, .slice B r.cs.length b, .slice C r.js.length c] 26)).alloc (.cells #[.int .i64 most, .int .i64 mx] 56)).alloc (.cells #[.int .i64 fr] 3)) (w.heap.size + 2) [.int .i64 fr] := by
    have := Box.new ((w.alloc (.cells #[.slice A r.ps.length a, .slice B r.cs.length b, .slice C r.js.length c] 26)).alloc (.cells #[.int .i64 most, .int .i64 mx] 56)) [.int .i64 fr] 3
    simp only [World.size_alloc, Nat.add_assoc, Nat.reduceAdd] at this
    exact this
  refine (callsIn_wide (n := 6)).1 ?_
  refine callsIn_of_wp_marks Try.func30 rfl trivial ?_ rfl
  simp only [Try.ntmps30, List.size_toArray, List.length_cons, List.length_nil, Nat.reduceAdd, Nat.reduceSub, Array.replicate_succ, Array.replicate_zero, List.push_toArray, List.append_toArray, List.nil_append, List.cons_append]
  refine wpIn_wide.2 ?_
  go_wp2
  apply wp_scope_straight
  go_upto_region 4 with (first | (go_at_call 48; refine (check_any r A B C a b c _ (hR0.rd h)).mono ?_; rintro e W2 ⟨rfl, hb⟩; have hI := hR0.step hb; have hBx := hB0.below hb; have hBy := hB1.below hb; have b0 := hI.box.2 0 _ rfl; have b1 := hI.box.2 1 _ rfl; have b2 := hI.box.2 2 _ rfl; have l0 := hBx.2 0 _ rfl; have l1 := hBx.2 1 _ rfl) | (go_at_call 53; refine (within_any _ _ _ _).mono ?_; rintro e w' ⟨rfl, rfl⟩) | (go_at_call 52; refine (measure_ok r A B C a b c _ (hI.rd h) hok).mono ?_; rintro e W3 ⟨M, G, g, rfl, hM1, hb3, hMe⟩; replace hI := hI.step hb3; replace hBx := hBx.below hb3; replace hBy := hBy.below hb3; clear l0 l1 b0 b1 b2; have y0 := hBy.2 0 _ rfl))
  have y1 := hBy.1
  have y2 := hBx.1
  refine wp_region_later (by kernel_rfl) (by kernel_rfl) ?_
  repeat (go_big_quiet_step (first | (go_at_call 54; exact later_out (mlength_ok r A B C a b c G g M _ (hMe.below (Later.b _)) hok)) | (go_at_call 53; exact later_out ((within_any _ _ _ _).mono fun _ _ ⟨h1, h2⟩ => ⟨h1, h2 ▸ Below.refl _ _⟩))))
  refine wpQuiet_nil ?_
  rintro _ ⟨W4, rfl⟩
  replace hI := hI.step W4.b
  replace hBx := hBx.below W4.b
  replace hBy := hBy.below W4.b
  replace hMe := hMe.below W4.b
  go_upto_region 6 with fail
  have z1 := hBx.2 1 _ rfl
  have z0 := hBy.2 0 _ rfl
  have z2 := hBx.1
  have z3 := hBy.1
  obtain ⟨W6, hW6⟩ : ∃ W6, W6 = W4.w := ⟨_, rfl⟩
  rw [← hW6] at hI hBx hBy hMe z0 z1 z2 z3 ⊢
  clear hW6
  refine wp_region_twoC_tail 7 _ (.cells #[.int .i64 0] 3) (by kernel_rfl) (by kernel_rfl) rfl rfl ?hal ?_
  case hal =>
    intro a0 n K hK0
    go_simp
    exact hK0
  simp only [List.take_succ_cons, List.take_zero, List.drop_succ_cons, List.drop_zero]
  refine wpG_reads [_, _, _] [_, _, _, _] 0 _ (by kernel_rfl) ?_
  repeat (go_big_quiet_step (fail))
  refine wpQuiet_nil ?_
  have hlen2 : r.ps.length ≤ 100000 := by omega
  have hMe2 := hMe.below (balloc W6 (.cells #[.int .i64 0] 3))
  refine ⟨.int .i64 (lenSum r.ps), .inl ⟨rfl, ?_, ?_⟩, ?_⟩
  · rintro _ ⟨n, rfl⟩
    unfold Oper.quietAt
    go_simp
    exact mlength_q r A B C a b c G g M _ n hMe hlen2
  · rintro _ ⟨n, rfl⟩
    unfold Oper.quietAt
    go_simp
    exact mlength_q r A B C a b c G g M _ n hMe2 hlen2
  go_simp
  refine wpG_reads [_, _] [_] _ _ (by kernel_rfl) ?_
  repeat (go_big_quiet_step (fail))
  refine wpQuiet_nil ?_
  refine ⟨.int .i64 (min mx (lenSum r.ps - fr)), .inl ⟨rfl, ?_, ?_⟩, ?_⟩
  · rintro _ ⟨n, rfl⟩
    unfold Oper.quietAt
    go_simp
  · rintro _ ⟨n, rfl⟩
    unfold Oper.quietAt
    go_simp
  go_simp
  intro n
  obtain ⟨W7, hW7⟩ : ∃ W7, W7 = (W6.alloc (.cells #[.int .i64 0] 3)).drewN n := ⟨_, rfl⟩
  have hB7 : Below W6.heap.size W6 W7 := by rw [hW7]; exact bdrewN (balloc _ _) _
  have bL0 : Blk W7 W6.heap.size 3 #[.int .i64 0] := by rw [hW7]; exact (Blk.new W6 3 _).drewN n
  rw [← hW7]
  clear hW7
  have c0 := bL0.cell 0
  have c1 := bL0.frozen 0
  obtain ⟨lim0, hlim0⟩ : ∃ lim0, lim0 = min mx (lenSum r.ps - fr) := ⟨_, rfl⟩
  have hl0 : 0 ≤ lim0 := by omega
  have hl1 : lim0 ≤ 5000 := by omega
  rw [← hlim0]
  have HL0 := Lib.hid hlim0
  clear hlim0 z0 z1 hMe2
  go_upto_region 7 with fail
  have bL1 : Blk (W7.setCell ⟨W6.heap.size, 0, none⟩ (.int .i64 lim0)) W6.heap.size 3 #[.int .i64 lim0] := bL0.set_ 0 _
  have hB8 : Below W6.heap.size W6 (W7.setCell ⟨W6.heap.size, 0, none⟩ (.int .i64 lim0)) := hB7.setCell (p := ⟨W6.heap.size, 0, none⟩) (Nat.le_refl _) _
  obtain ⟨W8, hW8⟩ : ∃ W8, W8 = W7.setCell ⟨W6.heap.size, 0, none⟩ (.int .i64 lim0) := ⟨_, rfl⟩
  rw [← hW8] at bL1 hB8 ⊢
  clear hW8 hB7 bL0 c0 c1
  replace hI := hI.step hB8
  replace hBx := hBx.below hB8
  replace hBy := hBy.below hB8
  have b1 := hI.box.2 1 _ rfl
  have bs := hI.box.1
  have n1 := bL1.lt
  have hs1 : w.heap.size + 2 < W6.heap.size := z3
  obtain ⟨N, hN⟩ : ∃ N, N = W6.heap.size := ⟨_, rfl⟩
  rw [← hN] at bL1 n1 hs1 hB8 ⊢
  have HN := Lib.hid hN
  clear hN
  go_upto_block 0 with fail
  go_cut [11, 52] from 52 to 66 (fun _ _ wr => Blk wr N 3 #[.int .i64 (limOf r mx fr)] ∧ Below N W8 wr)
  case first =>
    go_wp2_with fail
    go_loopw [52] (fun i wr => ∃ k : Nat, k ≤ r.cs.length ∧ i = .int .i64 k ∧ Hid (crestBe (r.cs.take k) fr = none) ∧ Blk wr N 3 #[.int .i64 lim0] ∧ Below N W8 wr) (fun i _ => r.cs.length - (intOf i).toNat)
    case atStart => exact ⟨0, Nat.zero_le _, rfl, Lib.hid (by simp [crestBe]), bL1, Below.refl _ _⟩
    case round =>
      obtain ⟨k, hk, rfl, HC, bLr, hBr⟩ := hrel
      have hIr := hI.step2 (hBr.mono (by omega))
      by_cases hlt : k < r.cs.length
      · obtain ⟨cr, hc⟩ := getElem?_ex hlt
        obtain ⟨bb, o, hA, hbb, c0, c1⟩ := (hIr.rd h).c.at2 hc
        subst hA
        have HCC := Lib.hid (crest_take hc HC.out)
        have d0 := hIr.box.2 0 _ rfl
        have d1 : wr.cell? ⟨w.heap.size + 2, 0, none⟩ = some (.int .i64 fr) := (hBr.cell (p := ⟨w.heap.size + 2, 0, none⟩) (by simp; omega)).trans (hBy.2 0 _ rfl)
        have d2 := bLr.cell 0
        have d3 := bLr.frozen 0
        have d4 := bLr.lt
        have d1b : w.heap.size + 2 < wr.heap.size := by omega
        have hcb := crs_at hval hc
        have hc1 := hcb.1
        have hc2 := hcb.2
        clear hcb hc
        have hBa : Below N W8 (wr.alloc (.cells #[.int .i64 cr.at_, .int .i64 cr.size] 86)) := hBr.alloc (by omega) _
        have bLa : Blk (wr.alloc (.cells #[.int .i64 cr.at_, .int .i64 cr.size] 86)) N 3 #[.int .i64 lim0] := bLr.alloc _
        by_cases hcr : fr < cr.at_
        · have HLC : Hid (limOf r mx fr = min lim0 (cr.at_ - fr)) := Lib.hid (by unfold limOf; rw [HCC.out.1 hcr, ← HL0.out])
          clear HCC
          go_wp2_with fail
          go_meet
          rw [HLC.out]
          exact ⟨(bLr.set_ 0 _).alloc _, (hBr.setCell (p := ⟨N, 0, none⟩) (Nat.le_refl _) _).alloc (by simp; omega) _⟩
        · have HC2 := Lib.hid (HCC.out.2 hcr)
          clear HCC
          go_wp2_with fail
          go_roundw
          case rel => exact ⟨k + 1, by omega, by go_num, HC2, bLa, hBa⟩
          case measure => simp [intOf]; omega
      · obtain rfl : k = r.cs.length := by omega
        rw [List.take_length] at HC
        have HLC : Hid (limOf r mx fr = lim0) := Lib.hid (by unfold limOf; rw [HC.out, ← HL0.out])
        clear HC
        go_wp2_with fail
        go_meet
        rw [HLC.out]
        exact ⟨bLr, hBr⟩
  case rest =>
    obtain ⟨bL2, hB9⟩ := hcut
    have hlim1 := (limOf_le r mx fr).2
    have hlim0 := limOf_nn r mx fr (by omega) hf1
    obtain ⟨lim, hlm⟩ : ∃ lim, lim = limOf r mx fr := ⟨_, rfl⟩
    rw [← hlm] at bL2 hlim0 hlim1
    have HLM := Lib.hid hlm
    clear hlm HL0 bL1 hl0 hl1
    obtain ⟨W9, hW9⟩ : ∃ W9, W9 = wc := ⟨_, rfl⟩
    subst hW9
    replace hI := hI.step2 (hB9.mono (by omega))
    replace hBx : Box W9 (w.heap.size + 1) [.int .i64 most, .int .i64 mx] := ⟨by have := hB9.size; omega, fun j u hu => (hB9.cell (p := ⟨w.heap.size + 1, j, none⟩) (by simp; omega)).trans (hBx.2 j u hu)⟩
    replace hBy : Box W9 (w.heap.size + 2) [.int .i64 fr] := ⟨by have := hB9.size; omega, fun j u hu => (hB9.cell (p := ⟨w.heap.size + 2, j, none⟩) (by simp; omega)).trans (hBy.2 j u hu)⟩
    have hMe9 : Meas W9 M r A B C a b c G g := hMe.below (by rw [← HN.out]; exact hB8.trans hB9)
    have y0 := hBy.2 0 _ rfl
    go_wp2_with (first | (go_at_call 56; refine (upto_any r A B C a b c G g M _ fr hMe9 (hI.rd h) hok (by omega) (by omega)).mono ?_; rintro e Wa ⟨rfl, hba⟩; replace hI := hI.step hba; replace hBx := hBx.below hba; replace hBy := hBy.below hba; replace hMe := hMe9.below hba; have bL := bL2.below hba bL2.lt; have y1 := hBy.2 0 _ rfl; have y2 := hBy.1) | (go_at_call 58; refine (all_any _ _).mono ?_; rintro e w' ⟨rfl, rfl⟩))
    refine wp_label ?_
    go_wp2_with (first | (go_at_call 58; refine (all_any _ _).mono ?_; rintro e w' ⟨rfl, rfl⟩))
    refine (wpIn_wide (n := 6)).1 ?_
    have bA := Blk.new (((Wa.alloc (.cells #[.int .i64 (up r.ps fr)] 3)).alloc (.cells #[.int .i64 fr] 3)).alloc (.cells #[.int .i64 0] 3)) 89 #[.pointer (some ⟨M, 0, none⟩)]
    have bT := (Blk.new ((Wa.alloc (.cells #[.int .i64 (up r.ps fr)] 3)).alloc (.cells #[.int .i64 fr] 3)) 3 #[.int .i64 0]).alloc (.cells #[.pointer (some ⟨M, 0, none⟩)] 89)
    have bE := ((Blk.new (Wa.alloc (.cells #[.int .i64 (up r.ps fr)] 3)) 3 #[.int .i64 fr]).alloc (.cells #[.int .i64 0] 3)).alloc (.cells #[.pointer (some ⟨M, 0, none⟩)] 89)
    have bS := (((Blk.new Wa 3 #[.int .i64 (up r.ps fr)]).alloc (.cells #[.int .i64 fr] 3)).alloc (.cells #[.int .i64 0] 3)).alloc (.cells #[.pointer (some ⟨M, 0, none⟩)] 89)
    have hB0 : Below Wa.heap.size Wa ((((Wa.alloc (.cells #[.int .i64 (up r.ps fr)] 3)).alloc (.cells #[.int .i64 fr] 3)).alloc (.cells #[.int .i64 0] 3)).alloc (.cells #[.pointer (some ⟨M, 0, none⟩)] 89)) := bthen (bthen (bthen (balloc _ _) (balloc _ _)) (balloc _ _)) (balloc _ _)
    have hs0 : ((((Wa.alloc (.cells #[.int .i64 (up r.ps fr)] 3)).alloc (.cells #[.int .i64 fr] 3)).alloc (.cells #[.int .i64 0] 3)).alloc (.cells #[.pointer (some ⟨M, 0, none⟩)] 89)).heap.size = Wa.heap.size + 4 := by simp
    simp only [World.size_alloc, Nat.add_assoc, Nat.reduceAdd] at bA bT bE
    obtain ⟨W0, hW0⟩ : ∃ W0, (((Wa.alloc (.cells #[.int .i64 (up r.ps fr)] 3)).alloc (.cells #[.int .i64 fr] 3)).alloc (.cells #[.int .i64 0] 3)).alloc (.cells #[.pointer (some ⟨M, 0, none⟩)] 89) = W0 := ⟨_, rfl⟩
    rw [hW0] at bA bT bE bS hB0 hs0 ⊢
    clear hW0
    have hnWa : ∀ W', Below Wa.heap.size Wa W' → W'.cell? ⟨w.heap.size + 1, 0, none⟩ = some (.int .i64 most) ∧ W'.cell? ⟨w.heap.size + 2, 0, none⟩ = some (.int .i64 fr) ∧ W'.cell? ⟨N, 0, none⟩ = some (.int .i64 lim) ∧ w.heap.size + 2 < W'.heap.size ∧ N < W'.heap.size := fun W' hb' => by
      have h1 := hBx.1
      have h2 := hBy.1
      have h3 := bL.lt
      exact ⟨(hb'.cell (p := ⟨w.heap.size + 1, 0, none⟩) h1).trans (hBx.2 0 _ rfl), (hb'.cell (p := ⟨w.heap.size + 2, 0, none⟩) h2).trans (hBy.2 0 _ rfl), (hb'.cell (p := ⟨N, 0, none⟩) h3).trans (bL.cell 0), Nat.lt_of_lt_of_le h2 hb'.size, Nat.lt_of_lt_of_le h3 hb'.size⟩
    have HCL := Lib.hid hnWa
    clear hnWa
    have hgb := up_bd r hok fr
    have hg1 := hgb.1
    have hg2 := hgb.2
    clear hgb
    have hrdA := hI.rd h
    have hBwW := hI.below
    have hbl0 : Below Wa.heap.size Wa W0 := hB0
    have hMWa := hMe
    refine wpIn_rangeFunc_ownH rfl (by omega) (gf := 88) (lb := #[.pointer (some ⟨Wa.heap.size + 1 + 1 + 1, 0, none⟩)]) rfl trivial (enters_of Try.func88 (by kernel_rfl) rfl)
      (all_stops Fence.wide (6 - 1) trivial rfl (by omega) (Wa.heap.size + 3) M r A B C a b c G g (by omega) Wa W0 hB0 bA hMWa hrdA) KpB.trans (KpB.put (by omega) (by omega)) (Below.refl _ _) (fun _ => rfl)
      (sgI r Wa Wa.heap.size most fr lim) (sgX r Wa Wa.heap.size most fr lim) (sgI_own r Wa Wa.heap.size most fr lim _ (by omega)) (sgX_own r Wa Wa.heap.size most fr lim _ (by omega)) ⟨rfl, bS, bE, bT, hbl0, by omega⟩
      (fun i a' W => ∃ Bx, Wa.heap.size + 3 < Bx ∧ Blk W Bx 52 #[.int .i64 r.ps[i.1].len, .int .i64 r.ps[i.1].turn, .int .i64 r.ps[i.1].rad, .int .i64 r.ps[i.1].wid, .int .i64 r.ps[i.1].sur] ∧ a' = { tmps := #[Value.agg #[Value.slice A r.ps.length a, Value.slice B r.cs.length b, Value.slice C r.js.length c], Value.agg #[Value.int IntKind.i64 most, Value.int IntKind.i64 mx], Value.int IntKind.i64 fr, Value.pointer (some { block := w.heap.size, off := 0 }), Value.pointer (some { block := w.heap.size + 1, off := 0 }), Value.pointer (some { block := w.heap.size + 1 + 1, off := 0 }), Value.int IntKind.i64 0, Value.int IntKind.i64 0, Value.pointer (some { block := M, off := 0 }), Value.pointer (some { block := N, off := 0 }), undef, u11, Value.pointer (some { block := Wa.heap.size, off := 0 }), Value.pointer (some { block := Wa.heap.size + 1, off := 0 }), Value.pointer (some { block := Wa.heap.size + 1 + 1, off := 0 }), .int .i64 (lenSum (r.ps.take i.1)), .pointer (some ⟨Bx, 0, none⟩), undef, undef, undef, Value.agg #[Value.slice A r.ps.length a, Value.slice B r.cs.length b, Value.slice C r.js.length c], Value.int IntKind.i64 0, Value.bool false, Value.bool false, Value.pointer (some { block := w.heap.size + 1, off := 0 }), Value.int IntKind.i64 most, Value.bool true, Value.bool false, Value.bool false, Value.bool false, Value.pointer (some { block := w.heap.size + 1, off := 1 }), Value.int IntKind.i64 mx, Value.bool true, Value.bool false, Value.bool false, Value.agg #[Value.slice A r.ps.length a, Value.slice B r.cs.length b, Value.slice C r.js.length c], Value.pointer (some { block := M, off := 0 }), Value.int IntKind.i64 fr, Value.pointer (some { block := M, off := 0 }), Value.int IntKind.i64 (lenSum r.ps), Value.bool true, Value.bool false, Value.pointer (some { block := w.heap.size + 1, off := 1 }), Value.int IntKind.i64 mx, Value.pointer (some { block := M, off := 0 }), Value.int IntKind.i64 (lenSum r.ps), Value.int IntKind.i64 fr, Value.int IntKind.i64 (lenSum r.ps - fr), Value.int IntKind.i64 lim0, Value.pointer (some { block := w.heap.size, off := 1 }), Value.slice B r.cs.length b, Value.int IntKind.i64 ↑r.cs.length, u52, u53, u54, u55, u56, u57, u58, u59, u60, u61, u62, u63, u64, u65, u66, Value.pointer (some { block := M, off := 0 }), Value.int IntKind.i64 fr, Value.int IntKind.i64 (up r.ps fr), Value.int IntKind.i64 fr, Value.pointer (some { block := M, off := 0 }), Value.func (Fn.func 88) #[] #[Value.pointer (some { block := Wa.heap.size + 1 + 1 + 1, off := 0 })], .int .i64 (lenSum (r.ps.take i.1)), .agg #[.int .i64 r.ps[i.1].len, .int .i64 r.ps[i.1].turn, .int .i64 r.ps[i.1].rad, .int .i64 r.ps[i.1].wid, .int .i64 r.ps[i.1].sur], undef, undef, undef, undef, undef, undef, undef, undef, undef, undef, undef, undef, undef, undef, undef, undef, undef, undef, undef, undef, undef, undef, undef, undef, undef, undef, undef, undef, undef, undef, undef, undef, undef, undef, undef, undef, undef, undef, undef, undef, undef, undef, undef, undef, undef, undef, undef, undef, undef, undef, undef, undef, undef, undef, undef, undef, undef, undef, undef], defers := [] })
      ?ax ?assign ?body ?done ?stop
    case ax =>
      intro i a' _ X Y row hs hg hr'
      obtain ⟨Bx, h1, h2, h3⟩ := hs
      refine ⟨Bx, h1, h2.grown hg (fun e => ?_), h3⟩
      obtain ⟨-, o, ho, hc⟩ := hr' _ e.symm
      rw [show X.heap[Bx]? = _ from h2] at ho
      cases ho
      cases hc
    case assign =>
      rintro l pre i W K ⟨hst, hS⟩ hK
      have hsz := hS.sz
      simp only [encs]
      gi_wp2
      exact hK _ _ ((KeepsOthers.alloc _ _).from _) ⟨(Below.refl _ W).alloc (by omega) _, Below.heap_alloc _ _ _ (by omega)⟩ ⟨hst, hS.later (balloc _ _)⟩ ⟨W.heap.size, by omega, Blk.new W 52 _, rfl⟩
    case body =>
      rintro l pre i a' W hl ⟨rec, hrec⟩ ⟨hst, hS⟩ ⟨Bx, hBxn, bP, rfl⟩ hlt
      have hNl : N < Wa.heap.size := bL.lt
      have hsb := sgF_bef_bd r hok most fr lim pre
      have hss := sgF_seen_bd r most fr lim hlim0 pre
      have hbeg := hok.beg i.1
      obtain ⟨i1, i2, i3, i4, i5, i6⟩ := hok.at i.2
      clear i6
      have HST := sgF_snoc r most fr lim pre i hst
      unfold sgStep at HST
      generalize hbef : (sgF r most fr lim pre).bef = bef at HST hS hsb
      generalize hseen : (sgF r most fr lim pre).seen = seen at HST hS hss
      clear hbef hseen
      generalize hpi : r.ps[i.1] = p at HST bP i1 i2 i3 i4 i5 ⊢
      generalize hsi : lenSum (r.ps.take i.1) = s at HST hbeg ⊢
      clear hpi hsi
      replace HST := Lib.hid HST
      have s1 : -20000000000 ≤ bef := by have := hsb.1; omega
      have s2 : bef ≤ 20000000000 := by have := hsb.2; omega
      have s3 := hss.1
      have s4 := hss.2
      have s5 := hbeg.1
      have s6 := hbeg.2
      clear hsb hss hbeg
      have hwb := trn_bd p.turn p.rad p.len (by omega) i3 i4 i5
      have wb1 : -6000000 ≤ trn p.turn p.rad p.len := by omega
      have wb2 : trn p.turn p.rad p.len ≤ 6000000 := by omega
      clear hwb
      have hsz := hS.sz
      have p0 := bP.cell 0
      have p1 := bP.cell 1
      have p2 := bP.cell 2
      have p3 := bP.cell 3
      have p4 := bP.cell 4
      have hp := bP.lt
      by_cases hle : s + p.len ≤ fr
      · have HST2 := Lib.hid (HST.out.trans (if_pos hle))
        clear HST
        gi_wp2_with (gi_at_call 61; refine (CallsIn.inRound l (callsIn_wide.2 (turned_any _ _ _ _ _ _ _ (by omega) (by omega) (by omega) (by omega) i5))).mono ?_; rintro e W1 ⟨rfl, hb1⟩; have hS1 := hS.later hb1; have bP1 := bP.below hb1 hp; obtain ⟨e1, e2, e3, e4, e5⟩ := HCL.out W1 hS1.bl; have q0 := bP1.cell 0; have hsz1 := hS1.sz; have b0 := hS1.be.cell 0; have bf := hS1.be.frozen 0)
        have hmv := (SgMv.later hb1 hsz).trans (SgMv.put (W := W1) hsz1 2 (.inr rfl) (.int .i64 (bef + trn p.turn p.rad p.len)))
        refine ⟨hmv.ko.from _, hmv.kp, ?_⟩
        unfold sgI
        rw [HST2.out]
        exact ⟨rfl, hS1.putB _⟩
      · have HST2 := Lib.hid (HST.out.trans (if_neg hle))
        clear HST
        gi_wp2_with (gi_at_call 61; refine (CallsIn.inRound l (callsIn_wide.2 (turned_any _ _ _ _ _ _ _ (by omega) (by omega) (by omega) (by omega) i5))).mono ?_; rintro e W1 ⟨rfl, hb1⟩; have hS1 := hS.later hb1; have bP1 := bP.below hb1 hp; obtain ⟨e1, e2, e3, e4, e5⟩ := HCL.out W1 hS1.bl; have q0 := bP1.cell 0; have hsz1 := hS1.sz; have b0 := hS1.be.cell 0; have bf := hS1.be.frozen 0)
        gi_loopw [18] (fun q wr => ∃ (z : Int) (sn : Int), q = .int .i64 z ∧ max fr s ≤ z ∧ z ≤ max (max fr s) (min (s + p.len) (fr + lim) + 1) ∧ fr ≤ sn ∧ sn ≤ fr + lim ∧ Hid (sgScan p s bef (up r.ps fr) most fr lim seen = scan (badAt p s bef (up r.ps fr) most) (min (s + p.len) (fr + lim) + 1 - z).toNat z sn) ∧ SgAt Wa wr Wa.heap.size (up r.ps fr) sn bef ∧ SgMv Wa.heap.size W1 wr ∧ Blk wr Bx 52 #[.int .i64 p.len, .int .i64 p.turn, .int .i64 p.rad, .int .i64 p.wid, .int .i64 p.sur]) (fun q _ => (min (s + p.len) (fr + lim) + 1 - intOf q).toNat)
        case atStart => exact ⟨_, seen, rfl, Int.le_refl _, by omega, s3, s4, Lib.hid rfl, hS1, SgMv.refl _ _, bP1⟩
        case round =>
          obtain ⟨z, sn, rfl, z1, z2, z3, z4, HSC, hSw, hMw, bPw⟩ := hrel
          obtain ⟨d1, d2, d3, d4, d5⟩ := HCL.out wr hSw.bl
          have w0 := bPw.cell 0
          have w1 := bPw.cell 1
          have w2 := bPw.cell 2
          have w3 := bPw.cell 3
          have w4 := bPw.cell 4
          have wl := bPw.lt
          have wsz := hSw.sz
          have k0 : Wa.heap.size < wr.heap.size := by omega
          have k1 : Wa.heap.size + 1 < wr.heap.size := by omega
          have k2 : Wa.heap.size + 2 < wr.heap.size := by omega
          have x0 := hSw.st.cell 0
          have x1 := hSw.se.cell 0
          have x2 := hSw.be.cell 0
          have x3 := hSw.se.frozen 0
          have x4 := hSw.be.frozen 0
          clear q0 b0 bf e1 e2 e3 e4 e5
          by_cases hz : z ≤ min (s + p.len) (fr + lim)
          · have hzb := trn_bd p.turn p.rad (z - s) (by omega) i3 i4 i5
            have u1 : -6000000 ≤ trn p.turn p.rad (z - s) := by omega
            have u2 : trn p.turn p.rad (z - s) ≤ 6000000 := by omega
            clear hzb
            gi_wp2_with fail
            refine wpIn_region_later (by kernel_rfl) (by kernel_rfl) (by kernel_rfl) ?_
            repeat (gi_big_quiet_step ((gi_at_call 61; exact later_in (turned_any _ _ _ _ _ _ _ (by omega) (by omega) (by omega) (by omega) i5))))
            refine wpQuietIn_nil ?_
            rintro _ ⟨y, rfl⟩
            have hSy := hSw.later y.b
            have hMy := hMw.trans (SgMv.later y.b wsz)
            have bPy := bPw.below y.b wl
            have y1 := hSy.se.cell 0
            have y2 := hSy.se.frozen 0
            have ysz := hSy.sz
            obtain ⟨c1, c2, c3, c4, c5⟩ := HCL.out y.w hSy.bl
            obtain ⟨W3, hW3⟩ : ∃ W3, W3 = y.w := ⟨_, rfl⟩
            rw [← hW3] at hSy hMy bPy y1 y2 ysz c1 c2 c3 c4 c5 ⊢
            clear hW3 w0 w1 w2 w3 w4 x0 x1 x2 x3 x4 d1 d2 d3 d4 d5
            obtain ⟨v, hv⟩ : ∃ v, v = bef + trn p.turn p.rad (z - s) - up r.ps fr := ⟨_, rfl⟩
            have hbad : badAt p s bef (up r.ps fr) most z = decide (most < max v (-v)) := by rw [hv]; rfl
            have v1 : -100000000000 ≤ v := by omega
            have v2 : v ≤ 100000000000 := by omega
            rw [← hv]
            clear hv
            have HBAD := Lib.hid hbad
            clear hbad
            by_cases hb : most < max v (-v)
            · gi_wp2_with fail
              have hsc : sgScan p s bef (up r.ps fr) most fr lim seen = (sn, true) := by
                rw [HSC.out, show (min (s + p.len) (fr + lim) + 1 - z).toNat = (min (s + p.len) (fr + lim) - z).toNat + 1 by omega]
                exact scan_true (by rw [HBAD.out]; simpa using hb)
              refine ⟨((SgMv.later hb1 hsz).trans hMy).ko.from _, rfl, ?_, bef, ?_⟩
              · rw [HST2.out, hsc]
                rfl
              · rw [HST2.out, hsc]
                exact hSy
            · gi_wp2_with fail
              go_roundw
              case rel =>
                refine ⟨z + 1, z, rfl, by omega, by omega, by omega, by omega, Lib.hid ?_, hSy.putS z, hMy.trans (SgMv.put ysz 1 (.inl rfl) _), bPy.far (p := ⟨Wa.heap.size + 1, 0, none⟩) (by simp; omega) _⟩
                rw [HSC.out, show (min (s + p.len) (fr + lim) + 1 - z).toNat = (min (s + p.len) (fr + lim) + 1 - (z + 1)).toNat + 1 by omega]
                exact scan_false (by rw [HBAD.out]; simpa using hb)
              case measure => simp [intOf]; omega
          · have HSD : Hid (sgScan p s bef (up r.ps fr) most fr lim seen = (sn, false)) := Lib.hid (by
              rw [HSC.out, show (min (s + p.len) (fr + lim) + 1 - z).toNat = 0 by omega]
              rfl)
            clear HSC
            have hmv := ((SgMv.later hb1 hsz).trans hMw).trans (SgMv.put (W := wr) wsz 2 (.inr rfl) (.int .i64 (bef + trn p.turn p.rad p.len)))
            have hSz := hSw.putB (bef + trn p.turn p.rad p.len)
            by_cases hgt : fr + lim < s + p.len
            · gi_wp2_with fail
              refine ⟨hmv.ko.from _, rfl, ?_, bef + trn p.turn p.rad p.len, ?_⟩
              · rw [HST2.out, HSD.out]
                simpa using hgt
              · rw [HST2.out, HSD.out]
                exact hSz
            · gi_wp2_with fail
              refine ⟨hmv.ko.from _, hmv.kp, ?_⟩
              unfold sgI
              rw [HST2.out, HSD.out]
              exact ⟨by simpa using hgt, hSz⟩
    case done =>
      rintro D xs W hD rfl ⟨hst, hS⟩ hK
      obtain ⟨e1, e2, e3, e4, e5⟩ := HCL.out W hS.bl
      have hss := sgF_seen_bd r most fr lim hlim0 (List.finRange r.ps.length)
      have hfin := sgF_all r hok most mx fr (by omega) (by omega) hf0 hf1
      rw [← HLM.out] at hfin
      generalize hseen : (sgF r most fr lim (List.finRange r.ps.length)).seen = seen at hfin hS hss
      have s3 := hss.1
      have s4 := hss.2
      clear hss hseen
      have x1 := hS.se.cell 0
      have HF := Lib.hid hfin
      clear hfin
      go_wp2_with fail
      simp only [Exit.noGoto]
      refine ⟨by simp, .inl ⟨_, _, rfl, run_takeDeferred hK, ?_⟩⟩
      exact ⟨_, results_tmp2 rfl _ _ _, by rw [← HF.out]; rfl, hBwW.trans ((hS.bl.mono hBwW.size).trans (belowK_b (w := w) (by have := hBwW.size; have := hS.sz; omega) W D _ _ (by have := hBwW.size; omega) hK rfl rfl))⟩
    case stop =>
      rintro D c pre W hD ⟨k, hk, rfl⟩ ⟨rfl, hst, b0, hS⟩ hK
      obtain ⟨e1, e2, e3, e4, e5⟩ := HCL.out W hS.bl
      have hss := sgF_seen_bd r most fr lim hlim0 (upto r.ps.length k)
      have hfin := sgF_part r hok most mx fr (by omega) (by omega) hf0 hf1 k hk (by rw [← HLM.out]; exact hst)
      rw [← HLM.out] at hfin
      generalize hseen : (sgF r most fr lim (upto r.ps.length k)).seen = seen at hfin hS hss
      have s3 := hss.1
      have s4 := hss.2
      clear hss hseen hst
      have x1 := hS.se.cell 0
      have HF := Lib.hid hfin
      clear hfin
      gi_wp2_with fail
      go_wp2_with fail
      simp only [Exit.noGoto]
      refine ⟨by simp, .inl ⟨_, _, rfl, run_takeDeferred hK, ?_⟩⟩
      exact ⟨_, results_tmp2 rfl _ _ _, by rw [← HF.out]; rfl, hBwW.trans ((hS.bl.mono hBwW.size).trans (belowK_b (w := w) (by have := hBwW.size; have := hS.sz; omega) W D _ _ (by have := hBwW.size; omega) hK rfl rfl))⟩

end Go.Proofs.Ytbdjmaogbpdkpaa

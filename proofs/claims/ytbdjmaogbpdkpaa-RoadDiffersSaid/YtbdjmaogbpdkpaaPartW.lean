import Derived.Test.YtbdjmaogbpdkpaaRPart
import Derived.Test.YtbdjmaogbpdkpaaSig
/-
  road.Part.
-/
namespace Go.Proofs.Ytbdjmaogbpdkpaa
open Go Go.RowKit Go.Shelf
set_option linter.unusedVariables false
set_option linter.unusedSimpArgs false
attribute [local go_sem] wide_fn wide_depth Oper.semAt_some Later.cell Later.cell1 Later.new1 Later.frozen Later.frozen1 max_ints min_ints

/-- What of the pieces named lies between f and t. -/
def prtL (r : Road) (f t : Int) (pre : List (Fin r.ps.length)) : List Pc := pre.flatMap fun i => cutP f t (lenSum (r.ps.take i.1)) r.ps[i.1]
theorem prtL_snoc (r : Road) (f t : Int) (pre : List (Fin r.ps.length)) (i : Fin r.ps.length) : prtL r f t (pre ++ [i]) = prtL r f t pre ++ cutP f t (lenSum (r.ps.take i.1)) r.ps[i.1] := by
  unfold prtL
  rw [List.flatMap_append]
  simp
theorem prtL_len (r : Road) (f t : Int) (pre : List (Fin r.ps.length)) : (prtL r f t pre).length ≤ pre.length := by
  unfold prtL
  induction pre with
  | nil => simp
  | cons x pre ih =>
    rw [List.flatMap_cons, List.length_append, List.length_cons]
    have : (cutP f t (lenSum (r.ps.take x.1)) r.ps[x.1]).length ≤ 1 := by unfold cutP; split <;> simp
    omega
theorem prtL_upto (r : Road) (f t : Int) : ∀ k, k ≤ r.ps.length → prtL r f t (upto r.ps.length k) = partL f t 0 (r.ps.take k) := by
  intro k
  induction k with
  | zero => intro _; simp [upto, prtL, partL]
  | succ k ih =>
    intro hk
    have hlt : k < r.ps.length := by omega
    rw [upto_succ ⟨k, hlt⟩, prtL_snoc, ih (by omega), partL_succ f t r.ps k _ (List.getElem?_eq_getElem hlt)]
theorem prtL_all (r : Road) (f t : Int) : prtL r f t (List.finRange r.ps.length) = partL f t 0 r.ps := by
  rw [← upto_all, prtL_upto r f t _ (Nat.le_refl _), List.take_length]

/-- What stands while the pieces are gathered: the box at n, the row behind it. -/
def prI (r : Road) (f t : Int) (Wb : World) (n : Nat) (pre : List (Fin r.ps.length)) (W : World) : Prop :=
  (∃ v, Blk W n 26 #[v, .slice none 0 0, .slice none 0 0] ∧ OwnL W (n + 2) 52 5 pcV v (prtL r f t pre)) ∧ Below n Wb W ∧ n + 2 ≤ W.heap.size
theorem prI_own (r : Road) (f t : Int) (Wb : World) (n B : Nat) (hn : n = Wb.heap.size) (hB : n + 1 ≤ B) : OwnFrom B (prI r f t Wb n) := fun pre X Y row hs hg hr => by
  obtain ⟨⟨v, h1, h2⟩, h3, h4⟩ := hs
  refine ⟨⟨v, h1.grown hg (fun e => by have := (hr _ e.symm).1; omega), h2.other hg ?_⟩, h3.grown hg (by omega) (fun k e => by have := (hr _ e).1; omega), Nat.le_trans h4 hg.size⟩
  cases hv : v.ownBlock with
  | none => exact .inl rfl
  | some q =>
    refine .inr fun e => ?_
    obtain ⟨-, o, ho, hc⟩ := hr q e.symm
    rcases h2.2 with ⟨rfl, _⟩ | ⟨g', cap', cur', rfl, _, hh', _⟩
    · simp [Value.ownBlock] at hv
    · have : g' = q := by simpa [Value.ownBlock] using hv
      subst this
      rw [ho] at hh'
      injection hh' with hh'
      rw [hh'] at hc
      cases hc
/-- The box at n names another row than the block B. -/
def Apart (W : World) (n B : Nat) : Prop := ∀ v, Blk W n 26 #[v, .slice none 0 0, .slice none 0 0] → v.ownBlock ≠ some B
theorem Blk.inj {W : World} {n : Nat} {t t' : TypeId} {c c' : Array Value} (h : Blk W n t c) (h' : Blk W n t' c') : c = c' := by
  unfold Blk at h h'
  rw [h] at h'
  injection h' with h'
  injection h' with h'
theorem prI_round {r : Road} {f t : Int} {Wb : World} {n m : Nat} {pre : List (Fin r.ps.length)} {i : Fin r.ps.length} {W w1 : World} {v v' : Value} {x : Pc} {qs : List Pc} {tmp : Obj} (hn : n = Wb.heap.size) (h1 : Blk W n 26 #[v, .slice none 0 0, .slice none 0 0]) (h2 : OwnL W (n + 2) 52 5 pcV v qs) (h3 : Below n Wb W) (h4 : n + 2 ≤ W.heap.size)
    (hgrow : (W.alloc tmp).grownBy w1 v.ownBlock) (hown' : w1.ownsRow (n + 2) 52 5 v' m (qs.flatMap pcV ++ pcV x)) (hm : m = qs.length + 1) (hqs : qs = prtL r f t pre) (he : cutP f t (lenSum (r.ps.take i.1)) r.ps[i.1] = [x]) :
    KeepsOthers W (w1.setCell ⟨n, 0, none⟩ v') ∧ KpB n (n + 1) W (w1.setCell ⟨n, 0, none⟩ v') ∧ prI r f t Wb n (pre ++ [i]) (w1.setCell ⟨n, 0, none⟩ v') := by
  subst hqs
  have hk1 := h1.kept2 h2 (by omega) hgrow
  have hO : OwnL w1 (n + 2) 52 5 pcV v' (prtL r f t pre ++ [x]) := OwnL.snoc hown' hm
  have hb1 : Below n W w1 := ((Below.refl n W).alloc (by omega) tmp).trans (((h2.below (balloc W tmp)).grown_below (by simp; omega) hgrow).mono (by omega))
  have hb2 : Below n W (w1.setCell ⟨n, 0, none⟩ v') := hb1.setCell (p := ⟨n, 0, none⟩) (Nat.le_refl _) _
  refine ⟨((KeepsOthers.alloc W tmp).trans (KeepsOthers.of_grownBy hgrow ?_)).trans (KeepsOthers.setCell _ _ _), ⟨hb2, ?_⟩, ⟨v', hk1.set_ 0 _, ?_⟩, h3.trans hb2, by have := hb2.size; omega⟩
  · intro j o hj ho
    rcases h2.2 with ⟨rfl, _⟩ | ⟨g', cap', cur', rfl, _, hh', _⟩
    · simp [Value.ownBlock] at hj
    · have : g' = j := by simpa [Value.ownBlock] using hj
      subst this
      have hlt := (h2.lt g' hj).2
      rw [Below.heap_alloc W tmp g' hlt, hh'] at ho
      injection ho with ho
      rw [← ho]
      rfl
  · rw [Below.heap_setCell _ _ _ _ (by simp)]
    refine (hgrow.block (n + 1) (by simp; omega) ?_).trans (Below.heap_alloc W tmp (n + 1) (by omega))
    intro e
    have := (h2.lt (n + 1) e.symm).1
    omega
  · rw [prtL_snoc, he]
    refine hO.other (grownBy_setCell' w1 n v') ?_
    cases hv : v'.ownBlock with
    | none => exact .inl rfl
    | some q =>
      have := (hO.lt q hv).1
      exact .inr (by simp; omega)
theorem KpB.of_later {n m : Nat} {W W' : World} (hb : Below W.heap.size W W') (hn : n ≤ W.heap.size) (hm : m < W.heap.size) : KpB n m W W' := ⟨hb.mono hn, hb.block m hm⟩
theorem RvSt.putObj {W3 W : World} {n : Nat} {v0 v1 v2 : Value} {ps : List Pc} {cs : List Cr} {js : List Jn} (h : RvSt W3 W n v0 v1 v2 ps cs js) : RvSt W3 W n v0 v1 v2 ps cs js := h

theorem def_grown {α : Type} {W w1 : World} {D base : Nat} {x : Option (List Deferred)} {e : TypeId} {k : Nat} {f : α → List Value} {v : Value} {xs : List α} {tmp : Obj} (h : W.heap[D]? = some (.deferred x)) (hO : OwnL W base e k f v xs) (hg : (W.alloc tmp).grownBy w1 v.ownBlock) : w1.heap[D]? = some (.deferred x) := by
  have hlt : D < W.heap.size := (Array.getElem?_eq_some_iff.1 h).1
  have h2 : (W.alloc tmp).heap[D]? = some (.deferred x) := (Below.heap_alloc W tmp D hlt).trans h
  refine (hg.block D (by simp; omega) (fun e => ?_)).trans h2
  rcases hO.2 with ⟨rfl, _⟩ | ⟨g', cap', cur', rfl, _, hh', _⟩
  · simp [Value.ownBlock] at e
  · have : D = g' := by simpa [Value.ownBlock] using e
    subst this
    rw [h] at hh'
    cases hh'
theorem def_set {W : World} {D : Nat} {x : Option (List Deferred)} (h : W.heap[D]? = some (.deferred x)) (p : Addr) (u : Value) : (W.setCell p u).heap[D]? = some (.deferred x) := by
  simp only [World.setCell, Array.getElem?_modify]
  split
  · rw [h]; rfl
  · exact h
theorem def_below {W W' : World} {D : Nat} {x : Option (List Deferred)} (h : W.heap[D]? = some (.deferred x)) (hb : Below W.heap.size W W') : W'.heap[D]? = some (.deferred x) := (hb.block D (Array.getElem?_eq_some_iff.1 h).1).trans h
theorem Blk.putObj {W : World} {g D : Nat} {t : TypeId} {cs : Array Value} {x : Option (List Deferred)} (h : Blk W g t cs) (hD : W.heap[D]? = some (.deferred x)) (o : Obj) : Blk (W.putObj D o) g t cs := by
  refine (World.putObj_heap_other ?_).trans h
  rintro rfl
  unfold Blk at h
  rw [h] at hD
  cases hD
theorem OwnR.putObj {W : World} {base D : Nat} {v0 v1 v2 : Value} {r : Road} {x : Option (List Deferred)} (h : OwnR W base v0 v1 v2 r) (hD : W.heap[D]? = some (.deferred x)) (o : Obj) : OwnR (W.putObj D o) base v0 v1 v2 r := ⟨h.p.putObj hD o, h.c.putObj hD o, h.j.putObj hD o⟩

set_option maxRecDepth 100000 in
set_option maxHeartbeats 8000000 in
theorem Part_out (r : Road) (A B C : Option Addr) (a b c : Nat) (f t : Int) (w : World) (h : RdRoad w r A B C) (hv : validB r = true) (ho : f < 0 ∨ t ≤ f ∨ lenSum r.ps < t) :
    Calls Try.prog 43 #[.agg #[.slice A r.ps.length a, .slice B r.cs.length b, .slice C r.js.length c], .int .i64 f, .int .i64 t] w fun e w' => e = .returned (.tuple #[.agg #[.slice none 0 0, .slice none 0 0, .slice none 0 0], .int .i64 2]) ∧ Below w.heap.size w w' := by
  have hE := checkE_true hv
  have hV := VR.of hv
  have hok := hV.ok
  have hlp := hV.lp
  have hlc := hV.lc
  have hlj := hV.lj
  have hln := hV.ln
  have HV := Lib.hid hv
  clear hv
  obtain ⟨W0, hW0⟩ : ∃ W0, W0 = (((w.alloc (.cells #[.slice A r.ps.length a, .slice B r.cs.length b, .slice C r.js.length c] 26)).alloc (.cells #[.int .i64 f] 3)).alloc (.cells #[.int .i64 t] 3)).alloc (.cells #[.slice none 0 0, .slice none 0 0, .slice none 0 0] 26) := ⟨_, rfl⟩
  have hR0 : InR w W0 r A B C a b c := by rw [hW0]; exact (((InR.new w r A B C a b c).step (balloc _ _)).step (balloc _ _)).step (balloc _ _)
  have hF0 : Blk W0 (w.heap.size + 1) 3 #[.int .i64 f] := by rw [hW0]; exact ((blk_at _ _ _ _ (by simp)).alloc _).alloc _
  have hT0 : Blk W0 (w.heap.size + 2) 3 #[.int .i64 t] := by rw [hW0]; exact (blk_at _ _ _ _ (by simp)).alloc _
  have hK0 : Blk W0 (w.heap.size + 3) 26 #[.slice none 0 0, .slice none 0 0, .slice none 0 0] := by rw [hW0]; exact blk_at _ _ _ _ (by simp)
  have b0 := hR0.box.2 0 _ rfl
  have b1 := hR0.box.2 1 _ rfl
  have b2 := hR0.box.2 2 _ rfl
  have bs := hR0.box.1
  go_enter Try.func43, Try.ntmps43
  go_upto_region 1 with fail
  rw [← hW0]
  clear hW0
  go_upto_region 5 with (first
    | (go_at_call 48; refine (check_any r A B C a b c _ (hR0.rd h)).mono ?_; rintro e W1 ⟨rfl, hb1⟩; have hI1 := hR0.step hb1; have hK1 := hK0.below hb1 hK0.lt; have hF1 := hF0.below hb1 hF0.lt; have hT1 := hT0.below hb1 hT0.lt; clear b0 b1 b2 bs; have b0 := hI1.box.2 0 _ rfl; have b1 := hI1.box.2 1 _ rfl; have b2 := hI1.box.2 2 _ rfl; have bs := hI1.box.1)
    | (go_at_call 52; refine (measure_ok r A B C a b c _ (hI1.rd h) hok).mono ?_; rintro e W2 ⟨M, G, g, rfl, hM1, hb2, hMe⟩; have hI2 := hI1.step hb2; have hK2 := hK1.below hb2 hK1.lt; have hF2 := hF1.below hb2 hF1.lt; have hT2 := hT1.below hb2 hT1.lt; clear b0 b1 b2 bs))
  have c0 := hF2.cell 0
  have cl := hF2.lt
  have d0 := hT2.cell 0
  have dl := hT2.lt
  by_cases o1 : f < 0
  · have t1 : decide (f < 0) = true := by simpa using o1
    go_quiet ((go_at_call 54; exact mlength_q r A B C a b c G g M _ _ hMe (by omega)))
    have hb3 := bdrewN (Below.refl W2.heap.size W2) nq
    have hK3 := hK2.drewN nq
    have k0 := hK3.frozen 0
    have k1 := hK3.frozen 1
    have k2 := hK3.frozen 2
    have e0 := hK3.cell 0
    have e1 := hK3.cell 1
    have e2 := hK3.cell 2
    have kl := hK3.lt
    go_wp2_with fail
    have hKz := ((hK3.set_ 0 (.slice none 0 0)).set_ 1 (.slice none 0 0)).set_ 2 (.slice none 0 0)
    have hB2 : Below w.heap.size w ((((W2.drewN nq).setCell ⟨w.heap.size + 3, 0, none⟩ (.slice none 0 0)).setCell ⟨w.heap.size + 3, 1, none⟩ (.slice none 0 0)).setCell ⟨w.heap.size + 3, 2, none⟩ (.slice none 0 0)) := (((bdrewN hI2.below nq).setCell (p := ⟨w.heap.size + 3, 0, none⟩) (by simp) _).setCell (p := ⟨w.heap.size + 3, 1, none⟩) (by simp) _).setCell (p := ⟨w.heap.size + 3, 2, none⟩) (by simp) _
    have r0 := hKz.cell 0
    have r1 := hKz.cell 1
    have r2 := hKz.cell 2
    have rl := hKz.lt
    refine bodyPost_ret (v := .tuple #[.agg #[.slice none 0 0, .slice none 0 0, .slice none 0 0], .int .i64 2]) ?_ rfl ⟨rfl, hB2⟩
    simp [results, Try.results43, go_sem, r0, r1, r2, rl]
  have t1 : decide (f < 0) = false := by simpa using o1
  by_cases o2 : t ≤ f
  · have t2 : decide (t ≤ f) = true := by simpa using o2
    go_quiet ((go_at_call 54; exact mlength_q r A B C a b c G g M _ _ hMe (by omega)))
    have hb3 := bdrewN (Below.refl W2.heap.size W2) nq
    have hK3 := hK2.drewN nq
    have k0 := hK3.frozen 0
    have k1 := hK3.frozen 1
    have k2 := hK3.frozen 2
    have e0 := hK3.cell 0
    have e1 := hK3.cell 1
    have e2 := hK3.cell 2
    have kl := hK3.lt
    go_wp2_with fail
    have hKz := ((hK3.set_ 0 (.slice none 0 0)).set_ 1 (.slice none 0 0)).set_ 2 (.slice none 0 0)
    have hB2 : Below w.heap.size w ((((W2.drewN nq).setCell ⟨w.heap.size + 3, 0, none⟩ (.slice none 0 0)).setCell ⟨w.heap.size + 3, 1, none⟩ (.slice none 0 0)).setCell ⟨w.heap.size + 3, 2, none⟩ (.slice none 0 0)) := (((bdrewN hI2.below nq).setCell (p := ⟨w.heap.size + 3, 0, none⟩) (by simp) _).setCell (p := ⟨w.heap.size + 3, 1, none⟩) (by simp) _).setCell (p := ⟨w.heap.size + 3, 2, none⟩) (by simp) _
    have r0 := hKz.cell 0
    have r1 := hKz.cell 1
    have r2 := hKz.cell 2
    have rl := hKz.lt
    refine bodyPost_ret (v := .tuple #[.agg #[.slice none 0 0, .slice none 0 0, .slice none 0 0], .int .i64 2]) ?_ rfl ⟨rfl, hB2⟩
    simp [results, Try.results43, go_sem, r0, r1, r2, rl]
  · have t2 : decide (t ≤ f) = false := by simpa using o2
    have t3 : decide (lenSum r.ps < t) = true := by rw [decide_eq_true_eq]; omega
    go_quiet ((go_at_call 54; exact mlength_q r A B C a b c G g M _ _ hMe (by omega)))
    have hb3 := bdrewN (Below.refl W2.heap.size W2) nq
    have hK3 := hK2.drewN nq
    have k0 := hK3.frozen 0
    have k1 := hK3.frozen 1
    have k2 := hK3.frozen 2
    have e0 := hK3.cell 0
    have e1 := hK3.cell 1
    have e2 := hK3.cell 2
    have kl := hK3.lt
    go_wp2_with fail
    have hKz := ((hK3.set_ 0 (.slice none 0 0)).set_ 1 (.slice none 0 0)).set_ 2 (.slice none 0 0)
    have hB2 : Below w.heap.size w ((((W2.drewN nq).setCell ⟨w.heap.size + 3, 0, none⟩ (.slice none 0 0)).setCell ⟨w.heap.size + 3, 1, none⟩ (.slice none 0 0)).setCell ⟨w.heap.size + 3, 2, none⟩ (.slice none 0 0)) := (((bdrewN hI2.below nq).setCell (p := ⟨w.heap.size + 3, 0, none⟩) (by simp) _).setCell (p := ⟨w.heap.size + 3, 1, none⟩) (by simp) _).setCell (p := ⟨w.heap.size + 3, 2, none⟩) (by simp) _
    have r0 := hKz.cell 0
    have r1 := hKz.cell 1
    have r2 := hKz.cell 2
    have rl := hKz.lt
    refine bodyPost_ret (v := .tuple #[.agg #[.slice none 0 0, .slice none 0 0, .slice none 0 0], .int .i64 2]) ?_ rfl ⟨rfl, hB2⟩
    simp [results, Try.results43, go_sem, r0, r1, r2, rl]

set_option maxRecDepth 100000 in
set_option maxHeartbeats 16000000 in
theorem Part_good (r : Road) (A B C : Option Addr) (a b c : Nat) (f t : Int) (w : World) (h : RdRoad w r A B C) (hv : validB r = true) (hf0 : 0 ≤ f) (hft : f < t) (htl : t ≤ lenSum r.ps) :
    Calls Try.prog 43 #[.agg #[.slice A r.ps.length a, .slice B r.cs.length b, .slice C r.js.length c], .int .i64 f, .int .i64 t] w fun e w' => (∃ v0 v1 v2, e = .returned (.tuple #[.agg #[v0, v1, v2], .int .i64 0]) ∧ OwnR w' w.heap.size v0 v1 v2 (partR r f t)) ∧ Below w.heap.size w w' := by
  obtain ⟨i0, hi0, hz00, hz01, hz02⟩ := info_parts Try.info52
  obtain ⟨i1, hi1, hz10, hz11, hz12⟩ := info_parts Try.info86
  obtain ⟨i2, hi2, hz20, hz21, hz22⟩ := info_parts Try.info88
  have hE := checkE_true hv
  have hV := VR.of hv
  have hok := hV.ok
  have hlp := hV.lp
  have hlc := hV.lc
  have hlj := hV.lj
  have hln := hV.ln
  have HV := Lib.hid hv
  clear hv
  obtain ⟨W0, hW0⟩ : ∃ W0, W0 = (((w.alloc (.cells #[.slice A r.ps.length a, .slice B r.cs.length b, .slice C r.js.length c] 26)).alloc (.cells #[.int .i64 f] 3)).alloc (.cells #[.int .i64 t] 3)).alloc (.cells #[.slice none 0 0, .slice none 0 0, .slice none 0 0] 26) := ⟨_, rfl⟩
  have hR0 : InR w W0 r A B C a b c := by rw [hW0]; exact (((InR.new w r A B C a b c).step (balloc _ _)).step (balloc _ _)).step (balloc _ _)
  have hF0 : Blk W0 (w.heap.size + 1) 3 #[.int .i64 f] := by rw [hW0]; exact ((blk_at _ _ _ _ (by simp)).alloc _).alloc _
  have hT0 : Blk W0 (w.heap.size + 2) 3 #[.int .i64 t] := by rw [hW0]; exact (blk_at _ _ _ _ (by simp)).alloc _
  have hK0 : Blk W0 (w.heap.size + 3) 26 #[.slice none 0 0, .slice none 0 0, .slice none 0 0] := by rw [hW0]; exact blk_at _ _ _ _ (by simp)
  have b0 := hR0.box.2 0 _ rfl
  have b1 := hR0.box.2 1 _ rfl
  have b2 := hR0.box.2 2 _ rfl
  have bs := hR0.box.1
  refine (callsIn_wide (n := 6)).1 ?_
  refine callsIn_of_wp_marks Try.func43 rfl trivial ?_ rfl
  simp only [Try.ntmps43, List.size_toArray, List.length_cons, List.length_nil, Nat.reduceAdd, Nat.reduceSub, Array.replicate_succ, Array.replicate_zero, List.push_toArray, List.append_toArray, List.nil_append, List.cons_append]
  refine wpIn_wide.2 ?_
  go_upto_region 1 with fail
  rw [← hW0]
  clear hW0
  go_upto_region 5 with (first
    | (go_at_call 48; refine (check_any r A B C a b c _ (hR0.rd h)).mono ?_; rintro e W1 ⟨rfl, hb1⟩; have hI1 := hR0.step hb1; have hK1 := hK0.below hb1 hK0.lt; have hF1 := hF0.below hb1 hF0.lt; have hT1 := hT0.below hb1 hT0.lt; clear b0 b1 b2 bs; have b0 := hI1.box.2 0 _ rfl; have b1 := hI1.box.2 1 _ rfl; have b2 := hI1.box.2 2 _ rfl; have bs := hI1.box.1)
    | (go_at_call 52; refine (measure_ok r A B C a b c _ (hI1.rd h) hok).mono ?_; rintro e W2 ⟨M, G, g, rfl, hM1, hb2, hMe⟩; have hI2 := hI1.step hb2; have hK2 := hK1.below hb2 hK1.lt; have hF2 := hF1.below hb2 hF1.lt; have hT2 := hT1.below hb2 hT1.lt; clear b0 b1 b2 bs))
  have c0 := hF2.cell 0
  have cl := hF2.lt
  have d0 := hT2.cell 0
  have dl := hT2.lt
  have t1 : decide (f < 0) = false := by rw [decide_eq_false_iff_not]; omega
  have t2 : decide (t ≤ f) = false := by rw [decide_eq_false_iff_not]; omega
  have t3 : decide (lenSum r.ps < t) = false := by rw [decide_eq_false_iff_not]; omega
  go_quiet ((go_at_call 54; exact mlength_q r A B C a b c G g M _ _ hMe (by omega)))
  obtain ⟨W3, hW3⟩ : ∃ X, X = W2.drewN nq := ⟨_, rfl⟩
  have hb3 : Below W2.heap.size W2 W3 := by rw [hW3]; exact bdrewN (Below.refl _ _) nq
  rw [← hW3]
  clear hW3 c0 cl d0 dl t1 t2 t3
  have hI3 := hI2.step hb3
  have hK3 := hK2.below hb3 hK2.lt
  have hF3 := hF2.below hb3 hF2.lt
  have hT3 := hT2.below hb3 hT2.lt
  have hM3 := hMe.below hb3
  go_wp2_with (go_at_call 58; refine (all_any _ _).mono ?_; rintro e w' ⟨rfl, rfl⟩)
  refine (wpIn_wide (n := 6)).1 ?_
  have hsz := hI3.box.1
  have bV := (Blk.new W3 26 #[.slice none 0 0, .slice none 0 0, .slice none 0 0]).alloc (.cells #[.pointer (some ⟨M, 0, none⟩)] 89)
  have bA := Blk.new (W3.alloc (.cells #[.slice none 0 0, .slice none 0 0, .slice none 0 0] 26)) 89 #[.pointer (some ⟨M, 0, none⟩)]
  simp only [World.size_alloc] at bA
  have hB0' : Below W3.heap.size W3 ((W3.alloc (.cells #[.slice none 0 0, .slice none 0 0, .slice none 0 0] 26)).alloc (.cells #[.pointer (some ⟨M, 0, none⟩)] 89)) := bthen (balloc _ _) (balloc _ _)
  have hs0 : ((W3.alloc (.cells #[.slice none 0 0, .slice none 0 0, .slice none 0 0] 26)).alloc (.cells #[.pointer (some ⟨M, 0, none⟩)] 89)).heap.size = W3.heap.size + 2 := by simp
  obtain ⟨WV, hWV⟩ : ∃ X, (W3.alloc (.cells #[.slice none 0 0, .slice none 0 0, .slice none 0 0] 26)).alloc (.cells #[.pointer (some ⟨M, 0, none⟩)] 89) = X := ⟨_, rfl⟩
  rw [hWV] at bV bA hB0' hs0 ⊢
  clear hWV
  have hFl := hF3.lt
  have hTl := hT3.lt
  refine wpIn_rangeFunc_ownH rfl (by omega) (gf := 88) (lb := #[.pointer (some ⟨W3.heap.size + 1, 0, none⟩)]) rfl trivial (enters_of Try.func88 (by kernel_rfl) rfl)
    (all_stops Fence.wide (6 - 1) trivial rfl (by omega) (W3.heap.size + 1) M r A B C a b c G g (by omega) W3 WV hB0' bA hM3 (hI3.rd h)) KpB.trans (KpB.put (by omega) (by omega)) (Below.refl _ _) (fun _ => rfl)
    (prI r f t W3 W3.heap.size) (fun _ _ _ => False) (prI_own r f t W3 _ _ rfl (by omega)) (fun _ _ _ _ _ hs _ _ => hs) ⟨⟨_, bV, OwnL.nil _ _ _ _ _⟩, hB0', by omega⟩
    (fun i a' W => ∃ Bx, W3.heap.size + 1 < Bx ∧ Blk W Bx 52 #[.int .i64 r.ps[i.1].len, .int .i64 r.ps[i.1].turn, .int .i64 r.ps[i.1].rad, .int .i64 r.ps[i.1].wid, .int .i64 r.ps[i.1].sur] ∧ Apart W W3.heap.size Bx ∧ a' = { tmps := #[.agg #[.slice A r.ps.length a, .slice B r.cs.length b, .slice C r.js.length c], .int .i64 f, .int .i64 t, .pointer (some ⟨w.heap.size, 0, none⟩), .pointer (some ⟨w.heap.size + 1, 0, none⟩), .pointer (some ⟨w.heap.size + 1 + 1, 0, none⟩), .pointer (some ⟨w.heap.size + 1 + 1 + 1, 0, none⟩), .int .i64 0, .int .i64 0, .pointer (some ⟨M, 0, none⟩), .pointer (some ⟨W3.heap.size, 0, none⟩), .int .i64 (lenSum (r.ps.take i.1)), .pointer (some ⟨Bx, 0, none⟩), undef, undef, undef, undef, undef, undef, .agg #[.slice A r.ps.length a, .slice B r.cs.length b, .slice C r.js.length c], .int .i64 0, .int .i64 0, .bool false, undef, undef, .agg #[.slice A r.ps.length a, .slice B r.cs.length b, .slice C r.js.length c], .pointer (some ⟨M, 0, none⟩), .int .i64 f, .bool false, .bool false, .int .i64 f, .int .i64 t, .bool false, .bool false, .bool false, .int .i64 t, .pointer (some ⟨M, 0, none⟩), .int .i64 (lenSum r.ps), .bool false, .bool false, undef, .pointer (some ⟨M, 0, none⟩), .func (.func 88) #[] #[.pointer (some ⟨W3.heap.size + 1, 0, none⟩)], .int .i64 (lenSum (r.ps.take i.1)), .agg #[.int .i64 r.ps[i.1].len, .int .i64 r.ps[i.1].turn, .int .i64 r.ps[i.1].rad, .int .i64 r.ps[i.1].wid, .int .i64 r.ps[i.1].sur], undef, undef, undef, undef, undef, undef, undef, undef, undef, undef, undef, undef, undef, undef, undef, undef, undef, undef, undef, undef, undef, undef, undef, undef, undef, undef, undef, undef, undef, undef, undef, undef, undef, undef, undef, undef, undef, undef, undef, undef, undef, undef, undef, undef, undef, undef, undef, undef, undef, undef, undef, undef, undef, undef, undef, undef, undef, undef, undef, undef, undef, undef, undef, undef, undef, undef, undef, undef, undef, undef, undef], defers := [] })
    ?ax ?assign ?body ?done ?stop
  case ax =>
    intro i a' _ X Y row hs hg hr'
    obtain ⟨Bx, h1, h2, h2a, h3⟩ := hs
    have hxl := h2.lt
    refine ⟨Bx, h1, h2.grown hg (fun e => ?_), fun v hv => h2a v ?_, h3⟩
    · obtain ⟨-, o, ho, hc⟩ := hr' _ e.symm
      rw [show X.heap[Bx]? = _ from h2] at ho
      cases ho
      cases hc
    · unfold Blk at hv ⊢
      rw [← hv]
      exact (hg.block _ (by omega) (fun e => by have := (hr' _ e.symm).1; omega)).symm
  case assign =>
    rintro l pre i W K hst hK
    obtain ⟨⟨v, h1, h2⟩, h3, h4⟩ := hst
    simp only [encs]
    gi_wp2
    exact hK _ _ ((KeepsOthers.alloc _ _).from _) ⟨(Below.refl _ W).alloc (by omega) _, Below.heap_alloc _ _ _ (by omega)⟩ ⟨⟨v, h1.alloc _, h2.below (balloc _ _)⟩, h3.alloc (by omega) _, by simp; omega⟩ ⟨W.heap.size, by omega, Blk.new W 52 _, (fun v' hv' e => by
      have e1 := (h1.alloc _).inj hv'
      simp only [Array.mk.injEq, List.cons.injEq, and_true] at e1
      subst e1
      have := (h2.lt _ e).2
      omega), rfl⟩
  case body =>
    rintro l pre i a' W hl ⟨rec, hrec⟩ hst ⟨Bx, hBx', bP, hap, rfl⟩ hlt
    obtain ⟨⟨v, h1, h2⟩, h3, h4⟩ := hst
    have hvB := hap v h1
    clear hap
    have hF4 := hF3.below h3 hF3.lt
    have hT4 := hT3.below h3 hT3.lt
    have c0 := hF4.cell 0
    have cl := hF4.lt
    have d0 := hT4.cell 0
    have dl := hT4.lt
    have hpl := prtL_len r f t pre
    have hbeg := hok.beg i.1
    have hbg0 := hbeg.1
    have hbg1 := hbeg.2
    clear hbeg
    have hlen := hok.at i.2
    have hp0 := hlen.1
    have hp1 := hlen.2.1
    clear hlen
    have HSN := Lib.hid (prtL_snoc r f t pre i)
    obtain ⟨p, hp⟩ : ∃ x, x = r.ps[i.1] := ⟨_, rfl⟩
    obtain ⟨s, hs⟩ : ∃ x, x = lenSum (r.ps.take i.1) := ⟨_, rfl⟩
    rw [← hp] at hp0 hp1
    rw [← hs] at hbg0 hbg1
    simp only [← hp, ← hs] at bP HSN ⊢
    have HP := Lib.hid hp
    have HS := Lib.hid hs
    obtain ⟨qs, hqs⟩ : ∃ qs, qs = prtL r f t pre := ⟨_, rfl⟩
    rw [← hqs] at h2 hpl HSN
    have HQ := Lib.hid hqs
    clear hp hs hqs
    have p0 := bP.cell 0
    have pl := bP.lt
    obtain ⟨VA, vc, rfl⟩ := h2.form
    obtain ⟨bg, hbgd⟩ : ∃ bg, bg = max s f := ⟨_, rfl⟩
    obtain ⟨en, hend⟩ : ∃ en, en = min (s + p.len) t := ⟨_, rfl⟩
    have hbgf : bg = max f s := by omega
    have henf : en = min t (s + p.len) := by omega
    have hb1 : 0 ≤ bg := by omega
    have hb2' : bg ≤ 20000000 := by omega
    have he1 : 0 ≤ en := by omega
    have he2 : en ≤ 20000000 := by omega
    have HBG := Lib.hid hbgf
    have HEN := Lib.hid henf
    clear hbgf henf
    have e5 : IntKind.i64.wrap (s + p.len) = s + p.len := IntWalk.i64_in _ (by omega)
    gi_upto_region 11 with fail
    refine wpIn_region_later (by kernel_rfl) (by kernel_rfl) (by kernel_rfl) ?_
    repeat (gi_big_quiet_step (fail))
    refine wpQuietIn_nil ?_
    rintro _ ⟨y, rfl⟩
    rw [← hbgd, ← hend]
    clear hbgd hend e5
    have hbY := y.b
    obtain ⟨W7, hW7⟩ : ∃ X, X = y.w := ⟨_, rfl⟩
    rw [← hW7] at hbY ⊢
    clear hW7 c0 cl d0 dl p0 pl
    have h1' := h1.below hbY h1.lt
    have h2' := h2.below hbY
    have bP' := bP.below hbY bP.lt
    have hk7 := keeps_later hbY
    have hkp7 : KpB W3.heap.size (W3.heap.size + 1) W W7 := KpB.of_later hbY (by omega) (by omega)
    have h3' : Below W3.heap.size W3 W7 := h3.trans hkp7.1
    have h4' : W3.heap.size + 2 ≤ W7.heap.size := Nat.le_trans h4 hbY.size
    have p0 := bP'.cell 0
    have p1 := bP'.cell 1
    have p2 := bP'.cell 2
    have p3 := bP'.cell 3
    have p4 := bP'.cell 4
    have pf := bP'.frozen 0
    have pl := bP'.lt
    have m0 := h1'.cell 0
    have mf := h1'.frozen 0
    have ml := h1'.lt
    by_cases hc : bg < en
    · have HCC : Hid (cutP f t s p = [⟨en - bg, p.turn, p.rad, p.wid, p.sur⟩]) := Lib.hid (by rw [cutP_in _ _ _ _ (by rw [← HBG.out, ← HEN.out]; exact hc), HBG.out, HEN.out])
      have e6 : IntKind.i64.wrap (en - bg) = en - bg := IntWalk.i64_in _ (by omega)
      gi_upto_region 14 with fail
      have hnB : W3.heap.size ≠ Bx := by omega
      have bY : Blk (W7.setCell ⟨Bx, 0, none⟩ (.int .i64 (en - bg))) Bx 52 #[.int .i64 (en - bg), .int .i64 p.turn, .int .i64 p.rad, .int .i64 p.wid, .int .i64 p.sur] := bP'.set_ 0 _
      have h1Y := h1'.far (p := ⟨Bx, 0, none⟩) hnB (.int .i64 (en - bg))
      have h2Y := h2'.other (grown_set W7 Bx 0 (.int .i64 (en - bg))) (.inr hvB)
      have hkY := hk7.trans (KeepsOthers.setCell W7 ⟨Bx, 0, none⟩ (.int .i64 (en - bg)))
      have hbW : Below W3.heap.size W7 (W7.setCell ⟨Bx, 0, none⟩ (.int .i64 (en - bg))) := (Below.refl _ _).setCell (p := ⟨Bx, 0, none⟩) (by show W3.heap.size ≤ Bx; omega) _
      have hkpY : KpB W3.heap.size (W3.heap.size + 1) W (W7.setCell ⟨Bx, 0, none⟩ (.int .i64 (en - bg))) := hkp7.trans ⟨hbW, Below.heap_setCell _ _ _ _ (by show W3.heap.size + 1 ≠ Bx; omega)⟩
      have h3Y : Below W3.heap.size W3 (W7.setCell ⟨Bx, 0, none⟩ (.int .i64 (en - bg))) := h3.trans hkpY.1
      have h4Y : W3.heap.size + 2 ≤ (W7.setCell ⟨Bx, 0, none⟩ (.int .i64 (en - bg))).heap.size := by simpa using h4'
      obtain ⟨WY, hWY⟩ : ∃ X, X = W7.setCell ⟨Bx, 0, none⟩ (.int .i64 (en - bg)) := ⟨_, rfl⟩
      rw [← hWY] at bY h1Y h2Y hkY hkpY h3Y h4Y ⊢
      clear hWY hbW e6 p0 p1 p2 p3 p4 pf pl m0 mf ml
      have x0 := bY.cell 0
      have x1 := bY.cell 1
      have x2 := bY.cell 2
      have x3 := bY.cell 3
      have x4 := bY.cell 4
      have xl := bY.lt
      have m0 := h1Y.cell 0
      have mf := h1Y.frozen 0
      have ml := h1Y.lt
      have hqn : qs.length ≤ 2000 := by omega
      gi_wp2_with (first | (gi_at_builtin; refine wpListIn_append_own _ rfl _ _ 22 rfl (W3.heap.size + 2) 52 i0 _ 5 40 Try.underlying22 hi0 hz00 hz01 hz02 rfl (by decide) (.slice VA qs.length vc) qs.length (qs.flatMap pcV) rfl (World.ownsRow.alloc h2Y _) ⟨WY.heap.size, 0, none⟩ 1 1 (pcV ⟨en - bg, p.turn, p.rad, p.wid, p.sur⟩) rfl rfl (cells_new _ (pcV ⟨en - bg, p.turn, p.rad, p.wid, p.sur⟩) _ _ rfl) (by simp [pcV, Value.oneCell']) (by simp only [maxLen]; omega) (by omega) (by simp; omega) ?_; intro v' w1 hown' hgrow _; obtain ⟨g9, c9, rfl, _, _⟩ := World.ownsRow.form hown' (by omega); have hk1 := h1Y.kept2 h2Y (by omega) hgrow; have z0 := hk1.cell 0; have z1 := hk1.frozen 0; have zl := hk1.lt))
      obtain ⟨r1, r2, r3⟩ := prI_round (i := i) (n := W3.heap.size) rfl h1Y h2Y h3Y h4Y hgrow hown' rfl HQ.out (by rw [← HP.out, ← HS.out]; exact HCC.out)
      exact ⟨(hkY.trans r1).from _, hkpY.trans r2, r3⟩
    · have HCC : Hid (cutP f t s p = []) := Lib.hid (cutP_out _ _ _ _ (by rw [← HBG.out, ← HEN.out]; exact hc))
      have hst' : prI r f t W3 W3.heap.size (pre ++ [i]) W7 := ⟨⟨_, h1', by rw [HSN.out, HCC.out, List.append_nil]; exact h2'⟩, h3', h4'⟩
      gi_wp2_with fail
      exact ⟨hk7.from _, hkp7, hst'⟩
  case done =>
    rintro D xs W hD rfl hst hK
    obtain ⟨⟨v0, h1, h2⟩, h3, h4⟩ := hst
    rw [prtL_all] at h2
    obtain ⟨ps0, hps0⟩ : ∃ x, x = partL f t 0 r.ps := ⟨_, rfl⟩
    have HPS := Lib.hid hps0
    rw [← hps0] at h2
    clear hps0
    have rvs1 : RvSt W3 W W3.heap.size v0 (.slice none 0 0) (.slice none 0 0) ps0 [] [] := ⟨h2.base_mono (by omega), OwnL.nil _ _ _ _ _, OwnL.nil _ _ _ _ _, h1, Nat.le_refl _, h3⟩
    have hKs1 := hK
    have hI := hI3.step rvs1.bl
    have b0 := hI.box.2 0 _ rfl
    have b1 := hI.box.2 1 _ rfl
    have b2 := hI.box.2 2 _ rfl
    have bs := hI.box.1
    go_wp2_with fail
    clear hI b0 b1 b2 bs h1 h2 hK
    go_loopw [70] (fun i W => ∃ (k : Nat) (v : Value), k ≤ r.cs.length ∧ i = .int .i64 k ∧ RvSt W3 W W3.heap.size v0 v (.slice none 0 0) ps0 ((r.cs.take k).flatMap (cutC f t)) [] ∧ W.heap[D]? = some (.deferred (some []))) (fun i _ => r.cs.length - (intOf i).toNat)
    case atStart => exact ⟨0, _, Nat.zero_le _, rfl, rvs1, hKs1⟩
    case round =>
      rename World => Wq
      obtain ⟨k, v, hk, rfl, rv, hKd⟩ := hrel
      have hws := rv.bl.size
      have hI := hI3.step rv.bl
      by_cases hlt : k < r.cs.length
      · obtain ⟨x, hx⟩ := getElem?_ex hlt
        obtain ⟨xb, xo, rfl, hbb, c0, c1⟩ := (hI.rd h).c.at2 hx
        have hxo := crs_at HV hx
        have y1 := hxo.1
        have y2 := hxo.2
        clear hxo
        have HC := Lib.hid (flat_cutC f t r.cs k x hx)
        have hpn := cutC_len f t (r.cs.take k)
        have htk := List.length_take_le k r.cs
        clear hx
        obtain ⟨qs, hqs⟩ : ∃ qs, qs = (r.cs.take k).flatMap (cutC f t) := ⟨_, rfl⟩
        rw [← hqs] at HC rv hpn
        have hqn : qs.length ≤ 2000 := by omega
        clear hqs hpn htk
        obtain ⟨U, uc, rfl⟩ := rv.c.form
        have bX0 : Blk (Wq.alloc (.cells #[.int .i64 x.at_, .int .i64 x.size] 86)) Wq.heap.size 86 #[.int .i64 x.at_, .int .i64 x.size] := Blk.new _ _ _
        have hbX0 : Below Wq.heap.size Wq (Wq.alloc (.cells #[.int .i64 x.at_, .int .i64 x.size] 86)) := balloc _ _
        go_upto_region 18 with fail
        obtain ⟨WX, hWX⟩ : ∃ X, X = Wq.alloc (.cells #[.int .i64 x.at_, .int .i64 x.size] 86) := ⟨_, rfl⟩
        rw [← hWX] at bX0 hbX0 ⊢
        obtain ⟨NX, hNXe⟩ : ∃ X, X = Wq.heap.size := ⟨_, rfl⟩
        have hNX : Wq.heap.size ≤ NX := by omega
        rw [← hNXe] at bX0 ⊢
        clear hWX hNXe c0 c1
        have rvX := rv.below hbX0
        have hFq := hF3.below rvX.bl hF3.lt
        have hTq := hT3.below rvX.bl hT3.lt
        have c0 := hFq.cell 0
        have cl := hFq.lt
        have d0 := hTq.cell 0
        have dl := hTq.lt
        have x0 := bX0.cell 0
        have x1 := bX0.cell 1
        have xl := bX0.lt
        have xf := bX0.frozen 0
        cases hin : inB x.at_ f t
        · have HCC : Hid (cutC f t x = []) := Lib.hid (cutC_out hin)
          go_wp2_with (first | (go_at_call 53; refine (within_any _ _ _ _).mono ?_; rintro e w' ⟨rfl, rfl⟩))
          go_roundw
          case rel => exact ⟨k + 1, _, by omega, by go_num, by rw [HC.out, HCC.out, List.append_nil]; exact rvX, def_below hKd hbX0⟩
          case measure => simp [intOf]; omega
        · have HCC : Hid (cutC f t x = [⟨x.at_ - f, x.size⟩]) := Lib.hid (cutC_in hin)
          have e6 : IntKind.i64.wrap (x.at_ - f) = x.at_ - f := IntWalk.i64_in _ (by omega)
          go_upto_region 20 with (first | (go_at_call 53; refine (within_any _ _ _ _).mono ?_; rintro e w' ⟨rfl, rfl⟩))
          have bY : Blk (WX.setCell ⟨NX, 0, none⟩ (.int .i64 (x.at_ - f))) NX 86 #[.int .i64 (x.at_ - f), .int .i64 x.size] := bX0.set_ 0 _
          have hbY : Below Wq.heap.size Wq (WX.setCell ⟨NX, 0, none⟩ (.int .i64 (x.at_ - f))) := hbX0.setCell (p := ⟨NX, 0, none⟩) hNX _
          obtain ⟨WY, hWY⟩ : ∃ X, X = WX.setCell ⟨NX, 0, none⟩ (.int .i64 (x.at_ - f)) := ⟨_, rfl⟩
          rw [← hWY] at bY hbY ⊢
          clear hWY e6 x0 x1 xl xf c0 cl d0 dl
          have rvY := rv.below hbY
          have hws2 := rvY.bl.size
          have x0 := bY.cell 0
          have x1 := bY.cell 1
          have xl := bY.lt
          have m0 := rvY.b.cell 1
          have mf := rvY.b.frozen 1
          have ml := rvY.b.lt
          go_wp2_with (first | (at_builtin; refine wpList_append_own _ rfl _ _ 23 rfl (W3.heap.size) 86 i1 _ 2 16 Try.underlying23 hi1 hz10 hz11 hz12 rfl (by decide) (.slice U qs.length uc) qs.length (qs.flatMap crV) rfl (World.ownsRow.alloc rvY.c _) ⟨WY.heap.size, 0, none⟩ 1 1 (crV ⟨x.at_ - f, x.size⟩) rfl rfl (cells_new _ (crV ⟨x.at_ - f, x.size⟩) _ _ rfl) (by simp [crV, Value.oneCell']) (by simp only [maxLen]; omega) (by omega) (by simp; omega) ?_; intro v' w1 hown' hgrow _; obtain ⟨g9, c9, rfl, _, _⟩ := World.ownsRow.form hown' (by omega); have bn1 : Blk w1 W3.heap.size 26 _ := (rvY.b.alloc (.cells (crV ⟨x.at_ - f, x.size⟩).toArray 86)).grown hgrow (own_ne_blk rvY.c rvY.b (by decide)); have n1 := bn1.frozen 1; have n2 := bn1.cell 1; have nl := bn1.lt))
          have hO5 : OwnL w1 W3.heap.size 86 2 crV (.slice (some ⟨g9, 0, none⟩) (qs.length + 1) c9) (qs ++ [⟨x.at_ - f, x.size⟩]) := OwnL.snoc hown' rfl
          have rvn := rvY.appC hO5 hgrow
          have hKn := def_set (def_grown (def_below hKd hbY) rvY.c hgrow) ⟨W3.heap.size, 1, none⟩ (.slice (some ⟨g9, 0, none⟩) (qs.length + 1) c9)
          go_wp2_with fail
          go_roundw
          case rel => exact ⟨k + 1, _, by omega, by go_num, by rw [HC.out, HCC.out]; exact rvn, hKn⟩
          case measure => simp [intOf]; omega
      · obtain rfl : k = r.cs.length := by omega
        rw [List.take_length] at rv
        obtain ⟨cs0, hcs0⟩ : ∃ x, x = r.cs.flatMap (cutC f t) := ⟨_, rfl⟩
        have HCS := Lib.hid hcs0
        rw [← hcs0] at rv
        clear hcs0
        obtain ⟨v1, hv1⟩ : ∃ x, x = v := ⟨_, rfl⟩
        rw [← hv1] at rv
        clear hv1
        have rvs2 := rv
        have hKs2 := hKd
        clear rv rvs1 hKs1 hKd hk hlt hws
        have b0 := hI.box.2 0 _ rfl
        have b1 := hI.box.2 1 _ rfl
        have b2 := hI.box.2 2 _ rfl
        have bs := hI.box.1
        go_wp2_with fail
        clear hI b0 b1 b2 bs
        go_loopw [94] (fun i W => ∃ (k : Nat) (v : Value), k ≤ r.js.length ∧ i = .int .i64 k ∧ RvSt W3 W W3.heap.size v0 v1 v ps0 cs0 ((r.js.take k).flatMap (cutJ f t)) ∧ W.heap[D]? = some (.deferred (some []))) (fun i _ => r.js.length - (intOf i).toNat)
        case atStart => exact ⟨0, _, Nat.zero_le _, rfl, rvs2, hKs2⟩
        case round =>
          rename World => Wq
          obtain ⟨k, v, hk, rfl, rv, hKd⟩ := hrel
          have hws := rv.bl.size
          have hI := hI3.step rv.bl
          by_cases hlt : k < r.js.length
          · obtain ⟨x, hx⟩ := getElem?_ex hlt
            obtain ⟨xb, xo, rfl, hbb, c0, c1, c2⟩ := (hI.rd h).j.at3 hx
            have hxo := jns_at HV hx
            have y1 := hxo.1
            have y2 := hxo.2.1
            clear hxo
            have HC := Lib.hid (flat_cutJ f t r.js k x hx)
            have hpn := cutJ_len f t (r.js.take k)
            have htk := List.length_take_le k r.js
            clear hx
            obtain ⟨qs, hqs⟩ : ∃ qs, qs = (r.js.take k).flatMap (cutJ f t) := ⟨_, rfl⟩
            rw [← hqs] at HC rv hpn
            have hqn : qs.length ≤ 2000 := by omega
            clear hqs hpn htk
            obtain ⟨U, uc, rfl⟩ := rv.j.form
            have bX0 : Blk (Wq.alloc (.cells #[.int .i64 x.at_, .int .i64 x.arms, .int .i64 x.way] 88)) Wq.heap.size 88 #[.int .i64 x.at_, .int .i64 x.arms, .int .i64 x.way] := Blk.new _ _ _
            have hbX0 : Below Wq.heap.size Wq (Wq.alloc (.cells #[.int .i64 x.at_, .int .i64 x.arms, .int .i64 x.way] 88)) := balloc _ _
            go_upto_region 25 with fail
            obtain ⟨WX, hWX⟩ : ∃ X, X = Wq.alloc (.cells #[.int .i64 x.at_, .int .i64 x.arms, .int .i64 x.way] 88) := ⟨_, rfl⟩
            rw [← hWX] at bX0 hbX0 ⊢
            obtain ⟨NX, hNXe⟩ : ∃ X, X = Wq.heap.size := ⟨_, rfl⟩
            have hNX : Wq.heap.size ≤ NX := by omega
            rw [← hNXe] at bX0 ⊢
            clear hWX hNXe c0 c1 c2
            have rvX := rv.below hbX0
            have hFq := hF3.below rvX.bl hF3.lt
            have hTq := hT3.below rvX.bl hT3.lt
            have c0 := hFq.cell 0
            have cl := hFq.lt
            have d0 := hTq.cell 0
            have dl := hTq.lt
            have x0 := bX0.cell 0
            have x1 := bX0.cell 1
            have x2 := bX0.cell 2
            have xl := bX0.lt
            have xf := bX0.frozen 0
            cases hin : inB x.at_ f t
            · have HCC : Hid (cutJ f t x = []) := Lib.hid (cutJ_out hin)
              go_wp2_with (first | (go_at_call 53; refine (within_any _ _ _ _).mono ?_; rintro e w' ⟨rfl, rfl⟩))
              go_roundw
              case rel => exact ⟨k + 1, _, by omega, by go_num, by rw [HC.out, HCC.out, List.append_nil]; exact rvX, def_below hKd hbX0⟩
              case measure => simp [intOf]; omega
            · have HCC : Hid (cutJ f t x = [⟨x.at_ - f, x.arms, x.way⟩]) := Lib.hid (cutJ_in hin)
              have e6 : IntKind.i64.wrap (x.at_ - f) = x.at_ - f := IntWalk.i64_in _ (by omega)
              go_upto_region 27 with (first | (go_at_call 53; refine (within_any _ _ _ _).mono ?_; rintro e w' ⟨rfl, rfl⟩))
              have bY : Blk (WX.setCell ⟨NX, 0, none⟩ (.int .i64 (x.at_ - f))) NX 88 #[.int .i64 (x.at_ - f), .int .i64 x.arms, .int .i64 x.way] := bX0.set_ 0 _
              have hbY : Below Wq.heap.size Wq (WX.setCell ⟨NX, 0, none⟩ (.int .i64 (x.at_ - f))) := hbX0.setCell (p := ⟨NX, 0, none⟩) hNX _
              obtain ⟨WY, hWY⟩ : ∃ X, X = WX.setCell ⟨NX, 0, none⟩ (.int .i64 (x.at_ - f)) := ⟨_, rfl⟩
              rw [← hWY] at bY hbY ⊢
              clear hWY e6 x0 x1 x2 xl xf c0 cl d0 dl
              have rvY := rv.below hbY
              have hws2 := rvY.bl.size
              have x0 := bY.cell 0
              have x1 := bY.cell 1
              have x2 := bY.cell 2
              have xl := bY.lt
              have m0 := rvY.b.cell 2
              have mf := rvY.b.frozen 2
              have ml := rvY.b.lt
              go_wp2_with (first | (at_builtin; refine wpList_append_own _ rfl _ _ 24 rfl (W3.heap.size) 88 i2 _ 3 24 Try.underlying24 hi2 hz20 hz21 hz22 rfl (by decide) (.slice U qs.length uc) qs.length (qs.flatMap jnV) rfl (World.ownsRow.alloc rvY.j _) ⟨WY.heap.size, 0, none⟩ 1 1 (jnV ⟨x.at_ - f, x.arms, x.way⟩) rfl rfl (cells_new _ (jnV ⟨x.at_ - f, x.arms, x.way⟩) _ _ rfl) (by simp [jnV, Value.oneCell']) (by simp only [maxLen]; omega) (by omega) (by simp; omega) ?_; intro v' w1 hown' hgrow _; obtain ⟨g9, c9, rfl, _, _⟩ := World.ownsRow.form hown' (by omega); have bn1 : Blk w1 W3.heap.size 26 _ := (rvY.b.alloc (.cells (jnV ⟨x.at_ - f, x.arms, x.way⟩).toArray 88)).grown hgrow (own_ne_blk rvY.j rvY.b (by decide)); have n1 := bn1.frozen 2; have n2 := bn1.cell 2; have nl := bn1.lt))
              have hO5 : OwnL w1 W3.heap.size 88 3 jnV (.slice (some ⟨g9, 0, none⟩) (qs.length + 1) c9) (qs ++ [⟨x.at_ - f, x.arms, x.way⟩]) := OwnL.snoc hown' rfl
              have rvn := rvY.appJ hO5 hgrow
              have hKn := def_set (def_grown (def_below hKd hbY) rvY.j hgrow) ⟨W3.heap.size, 2, none⟩ (.slice (some ⟨g9, 0, none⟩) (qs.length + 1) c9)
              go_wp2_with fail
              go_roundw
              case rel => exact ⟨k + 1, _, by omega, by go_num, by rw [HC.out, HCC.out]; exact rvn, hKn⟩
              case measure => simp [intOf]; omega
          · obtain rfl : k = r.js.length := by omega
            rw [List.take_length] at rv
            obtain ⟨VA, va, rfl⟩ := rv.p.form
            obtain ⟨VB, vb, rfl⟩ := rv.c.form
            obtain ⟨VC, vc, rfl⟩ := rv.j.form
            have HR : Hid (partR r f t = ⟨ps0, cs0, r.js.flatMap (cutJ f t)⟩) := Lib.hid (by rw [HPS.out, HCS.out]; rfl)
            obtain ⟨js0, hjs0⟩ : ∃ x, x = r.js.flatMap (cutJ f t) := ⟨_, rfl⟩
            rw [← hjs0] at rv HR
            clear hjs0
            have hKq := hK3.below rv.bl hK3.lt
            have k0 := hKq.frozen 0
            have k1 := hKq.frozen 1
            have k2 := hKq.frozen 2
            have e0 := hKq.cell 0
            have e1 := hKq.cell 1
            have e2 := hKq.cell 2
            have kl := hKq.lt
            have m0 := rv.b.cell 0
            have m1 := rv.b.cell 1
            have m2 := rv.b.cell 2
            have ml := rv.b.lt
            have hKz := ((hKq.set_ 0 (.slice VA ps0.length va)).set_ 1 (.slice VB cs0.length vb)).set_ 2 (.slice VC js0.length vc)
            have hDz := def_set (def_set (def_set hKd ⟨w.heap.size + 3, 0, none⟩ (.slice VA ps0.length va)) ⟨w.heap.size + 3, 1, none⟩ (.slice VB cs0.length vb)) ⟨w.heap.size + 3, 2, none⟩ (.slice VC js0.length vc)
            have hBz : Below w.heap.size w (((Wq.setCell ⟨w.heap.size + 3, 0, none⟩ (.slice VA ps0.length va)).setCell ⟨w.heap.size + 3, 1, none⟩ (.slice VB cs0.length vb)).setCell ⟨w.heap.size + 3, 2, none⟩ (.slice VC js0.length vc)) := ((hI.below.setCell (p := ⟨w.heap.size + 3, 0, none⟩) (by simp) _).setCell (p := ⟨w.heap.size + 3, 1, none⟩) (by simp) _).setCell (p := ⟨w.heap.size + 3, 2, none⟩) (by simp) _
            have hgz := World.grownBy.trans (World.grownBy.trans (grown_set Wq (w.heap.size + 3) 0 (.slice VA ps0.length va)) (grown_set _ (w.heap.size + 3) 1 (.slice VB cs0.length vb))) (grown_set _ (w.heap.size + 3) 2 (.slice VC js0.length vc))
            have hRz : OwnR (((Wq.setCell ⟨w.heap.size + 3, 0, none⟩ (.slice VA ps0.length va)).setCell ⟨w.heap.size + 3, 1, none⟩ (.slice VB cs0.length vb)).setCell ⟨w.heap.size + 3, 2, none⟩ (.slice VC js0.length vc)) w.heap.size (.slice VA ps0.length va) (.slice VB cs0.length vb) (.slice VC js0.length vc) ⟨ps0, cs0, js0⟩ :=
              OwnR.base_mono ⟨rv.p.other hgz (.inr (own_ne_blk rv.p hKq (by decide)).symm), rv.c.other hgz (.inr (own_ne_blk rv.c hKq (by decide)).symm), rv.j.other hgz (.inr (own_ne_blk rv.j hKq (by decide)).symm)⟩ hI3.below.size
            go_wp2_with fail
            refine ⟨by simp, .inl ⟨_, _, rfl, run_takeDeferred hDz, ?_⟩⟩
            have hZp := hKz.putObj hDz (.deferred none)
            have r0 := hZp.cell 0
            have r1 := hZp.cell 1
            have r2 := hZp.cell 2
            have rl := hZp.lt
            refine ⟨.tuple #[.agg #[.slice VA ps0.length va, .slice VB cs0.length vb, .slice VC js0.length vc], .int .i64 0], ?_, ⟨_, _, _, rfl, by rw [HR.out]; exact hRz.putObj hDz _⟩, hBz.trans (belowK_b (w := WV) (by have := hI3.below.size; omega) _ D _ _ hD hDz rfl rfl)⟩
            simp [results, Try.results43, go_sem, r0, r1, r2, rl]
  case stop =>
    rintro D c pre W hD hpre hF
    exact hF.elim

end Go.Proofs.Ytbdjmaogbpdkpaa

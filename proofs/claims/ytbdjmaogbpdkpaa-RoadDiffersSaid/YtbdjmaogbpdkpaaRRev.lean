import Derived.Test.YtbdjmaogbpdkpaaRev
import Derived.Deep.CutBlock
/-
  road.Reverse.
-/
namespace Go.Proofs.Ytbdjmaogbpdkpaa
open Go.RowKit Go.Shelf
set_option linter.unusedVariables false
set_option linter.unusedSimpArgs false
attribute [local go_sem] Later.cell Later.cell1 Later.new1 Later.frozen Later.frozen1

/-- A road of the call's own. -/
structure OwnR (w : World) (base : Nat) (v0 v1 v2 : Value) (r : Road) : Prop where
  p : OwnL w base 52 5 pcV v0 r.ps
  c : OwnL w base 86 2 crV v1 r.cs
  j : OwnL w base 88 3 jnV v2 r.js
theorem OwnR.below {w w' : World} {base : Nat} {v0 v1 v2 : Value} {r : Road} (h : OwnR w base v0 v1 v2 r) (hb : Below w.heap.size w w') : OwnR w' base v0 v1 v2 r := ⟨h.p.below hb, h.c.below hb, h.j.below hb⟩
theorem OwnR.base_mono {w : World} {base b' : Nat} {v0 v1 v2 : Value} {r : Road} (h : OwnR w base v0 v1 v2 r) (hb : b' ≤ base) : OwnR w b' v0 v1 v2 r := ⟨h.p.base_mono hb, h.c.base_mono hb, h.j.base_mono hb⟩
theorem stays_own {α : Type} (base : Nat) (e : TypeId) (k : Nat) (f : α → List Value) (xs : List α) (v : Value) : Stays (fun W => OwnL W base e k f v xs) := fun w w' h hb => h.below hb
def NewBlk (base : Nat) (t : TypeId) (cs : Array Value) (v : Value) (W : World) : Prop := ∃ n, v = .pointer (some ⟨n, 0, none⟩) ∧ base ≤ n ∧ Blk W n t cs
theorem stays_blk (base : Nat) (t : TypeId) (cs : Array Value) (v : Value) : Stays (NewBlk base t cs v) := fun w w' ⟨n, e, h1, h2⟩ hb => ⟨n, e, h1, h2.below hb h2.lt⟩

def revP (p : Pc) : Pc := { p with turn := -p.turn }
def revC (n : Int) (c : Cr) : Cr := { c with at_ := n - c.at_ }
def revJ (n : Int) (j : Jn) : Jn := { at_ := n - j.at_, arms := j.arms, way := j.arms + 1 - j.way }
def revR (r : Road) : Road := ⟨r.ps.reverse.map revP, r.cs.reverse.map (revC (lenSum r.ps)), r.js.reverse.map (revJ (lenSum r.ps))⟩

set_option maxHeartbeats 1000000 in
theorem Reverse_bad (r : Road) (A B C : Option Addr) (a b c : Nat) (w : World) (h : RdRoad w r A B C) (hv : validB r = false) :
    Calls Try.prog 33 #[.agg #[.slice A r.ps.length a, .slice B r.cs.length b, .slice C r.js.length c]] w fun e w' => e = .returned (.tuple #[.agg #[.slice none 0 0, .slice none 0 0, .slice none 0 0], .int .i64 2]) ∧ Below w.heap.size w w' := by
  have hE := checkE_false hv
  have hR0 : InR w ((w.alloc (.cells #[.slice A r.ps.length a, .slice B r.cs.length b, .slice C r.js.length c] 26)).alloc (.cells #[.slice none 0 0, .slice none 0 0, .slice none 0 0] 26)) r A B C a b c := (InR.new w r A B C a b c).step (balloc _ _)
  have hK0 : Blk ((w.alloc (.cells #[.slice A r.ps.length a, .slice B r.cs.length b, .slice C r.js.length c] 26)).alloc (.cells #[.slice none 0 0, .slice none 0 0, .slice none 0 0] 26)) (w.heap.size + 1) 26 #[.slice none 0 0, .slice none 0 0, .slice none 0 0] := blk_at _ _ _ _ (by simp)
  go_enter Try.func33, Try.ntmps33
  go_wp2_with (go_at_call 48; refine (check_any r A B C a b c _ (hR0.rd h)).mono ?_; rintro e W1 ⟨rfl, hb1⟩; have hI1 := hR0.step hb1; have hK1 := hK0.below hb1 hK0.lt; have k0 := hK1.frozen 0; have k1 := hK1.frozen 1; have k2 := hK1.frozen 2; have e0 := hK1.cell 0; have e1 := hK1.cell 1; have e2 := hK1.cell 2)
  have hK2 := ((hK1.set_ 0 (.slice none 0 0)).set_ 1 (.slice none 0 0)).set_ 2 (.slice none 0 0)
  have hB2 : Below w.heap.size w (((W1.setCell ⟨w.heap.size + 1, 0, none⟩ (.slice none 0 0)).setCell ⟨w.heap.size + 1, 1, none⟩ (.slice none 0 0)).setCell ⟨w.heap.size + 1, 2, none⟩ (.slice none 0 0)) := ((hI1.below.setCell (p := ⟨w.heap.size + 1, 0, none⟩) (by simp) _).setCell (p := ⟨w.heap.size + 1, 1, none⟩) (by simp) _).setCell (p := ⟨w.heap.size + 1, 2, none⟩) (by simp) _
  have r0 := hK2.cell 0
  have r1 := hK2.cell 1
  have r2 := hK2.cell 2
  have rl := hK2.lt
  refine bodyPost_ret (v := .tuple #[.agg #[.slice none 0 0, .slice none 0 0, .slice none 0 0], .int .i64 2]) ?_ rfl ⟨rfl, hB2⟩
  simp [results, Try.results33, go_sem, r0, r1, r2, rl]

/-- f done to the first k. -/
def mapTo {α : Type} (f : α → α) (k : Nat) (l : List α) : List α := (l.take k).map f ++ l.drop k
theorem mapTo_len {α : Type} (f : α → α) (k : Nat) (l : List α) : (mapTo f k l).length = l.length := by
  simp [mapTo]
  omega
theorem mapTo_zero {α : Type} (f : α → α) (l : List α) : mapTo f 0 l = l := by simp [mapTo]
theorem mapTo_all {α : Type} (f : α → α) (l : List α) : mapTo f l.length l = l.map f := by simp [mapTo]
theorem mapTo_at {α : Type} (f : α → α) (k : Nat) (l : List α) (x : α) (h : l[k]? = some x) : (mapTo f k l)[k]? = some x ∧ (mapTo f k l).set k (f x) = mapTo f (k + 1) l := by
  obtain ⟨hk, e⟩ := List.getElem?_eq_some_iff.1 h
  have hl : ((l.take k).map f).length = k := by simp; omega
  unfold mapTo
  rw [List.drop_eq_getElem_cons hk, e]
  refine ⟨?_, ?_⟩
  · rw [List.getElem?_append_right (by omega), hl, Nat.sub_self]
    rfl
  · rw [List.set_append_right _ _ (by omega), hl, Nat.sub_self, List.set_cons_zero, List.take_add_one, h]
    simp

theorem jns_at {r : Road} (hv : Hid (validB r = true)) {k : Nat} {c : Jn} (hc : r.js[k]? = some c) : 0 ≤ c.at_ ∧ c.at_ ≤ lenSum r.ps ∧ 2 ≤ c.arms ∧ c.arms ≤ 6 ∧ 1 ≤ c.way ∧ c.way ≤ c.arms := by
  have h := hv.out
  simp only [validB, Bool.and_eq_true] at h
  have h1 := h.2
  unfold jnsOk at h1
  obtain ⟨hk, _⟩ := List.getElem?_eq_some_iff.1 hc
  have h2 := List.all_eq_true.1 h1 k (by simpa using hk)
  simp only [jnAt, hc, inB, Bool.and_eq_true, decide_eq_true_eq] at h2
  exact ⟨h2.1.1.1.1, h2.1.1.1.2, h2.1.1.2.1, h2.1.1.2.2, h2.1.2.1, h2.1.2.2⟩

/-- Where road.Reverse stands: its own road in a box, and three rows. -/
structure RvSt (W3 W : World) (n : Nat) (v0 v1 v2 : Value) (ps : List Pc) (cs : List Cr) (js : List Jn) : Prop where
  p : OwnL W W3.heap.size 52 5 pcV v0 ps
  c : OwnL W W3.heap.size 86 2 crV v1 cs
  j : OwnL W W3.heap.size 88 3 jnV v2 js
  b : Blk W n 26 #[v0, v1, v2]
  nb : W3.heap.size ≤ n
  bl : Below W3.heap.size W3 W
theorem RvSt.below {W3 W W' : World} {n : Nat} {v0 v1 v2 : Value} {ps : List Pc} {cs : List Cr} {js : List Jn} (h : RvSt W3 W n v0 v1 v2 ps cs js) (hb : Below W.heap.size W W') : RvSt W3 W' n v0 v1 v2 ps cs js :=
  ⟨h.p.below hb, h.c.below hb, h.j.below hb, h.b.below hb h.b.lt, h.nb, h.bl.trans (hb.mono h.bl.size)⟩
theorem own_ne_blk {α : Type} {W : World} {base : Nat} {e : TypeId} {k n : Nat} {t : TypeId} {f : α → List Value} {v : Value} {xs : List α} {cs : Array Value} (h : OwnL W base e k f v xs) (hb : Blk W n t cs) (hne : e ≠ t) : some n ≠ v.ownBlock := (own_blk_ne h hb hne).symm
theorem own_kept {W3 W W' : World} {α : Type} {e : TypeId} {k : Nat} {f : α → List Value} {v : Value} {xs : List α} (h : OwnL W W3.heap.size e k f v xs) (hb : Below W3.heap.size W3 W) (hg : W.grownBy W' v.ownBlock) : Below W3.heap.size W3 W' := hb.trans (h.grown_below hb.size hg)
theorem RvSt.stepP {W3 W W' : World} {n : Nat} {v0 v1 v2 : Value} {ps ps' : List Pc} {cs : List Cr} {js : List Jn} (h : RvSt W3 W n v0 v1 v2 ps cs js) (ho : OwnL W' W3.heap.size 52 5 pcV v0 ps') (hg : W.grownBy W' v0.ownBlock) : RvSt W3 W' n v0 v1 v2 ps' cs js :=
  ⟨ho, h.c.other hg (h.c.ne h.p (by decide)), h.j.other hg (h.j.ne h.p (by decide)), h.b.grown hg (own_ne_blk h.p h.b (by decide)), h.nb, own_kept h.p h.bl hg⟩
theorem RvSt.stepC {W3 W W' : World} {n : Nat} {v0 v1 v2 : Value} {ps : List Pc} {cs cs' : List Cr} {js : List Jn} (h : RvSt W3 W n v0 v1 v2 ps cs js) (ho : OwnL W' W3.heap.size 86 2 crV v1 cs') (hg : W.grownBy W' v1.ownBlock) : RvSt W3 W' n v0 v1 v2 ps cs' js :=
  ⟨h.p.other hg (h.p.ne h.c (by decide)), ho, h.j.other hg (h.j.ne h.c (by decide)), h.b.grown hg (own_ne_blk h.c h.b (by decide)), h.nb, own_kept h.c h.bl hg⟩
theorem RvSt.stepJ {W3 W W' : World} {n : Nat} {v0 v1 v2 : Value} {ps : List Pc} {cs : List Cr} {js js' : List Jn} (h : RvSt W3 W n v0 v1 v2 ps cs js) (ho : OwnL W' W3.heap.size 88 3 jnV v2 js') (hg : W.grownBy W' v2.ownBlock) : RvSt W3 W' n v0 v1 v2 ps cs js' :=
  ⟨h.p.other hg (h.p.ne h.j (by decide)), h.c.other hg (h.c.ne h.j (by decide)), ho, h.b.grown hg (own_ne_blk h.j h.b (by decide)), h.nb, own_kept h.j h.bl hg⟩

set_option maxRecDepth 100000 in
set_option maxHeartbeats 8000000 in
theorem Reverse_good (r : Road) (A B C : Option Addr) (a b c : Nat) (w : World) (h : RdRoad w r A B C) (hv : validB r = true) :
    Calls Try.prog 33 #[.agg #[.slice A r.ps.length a, .slice B r.cs.length b, .slice C r.js.length c]] w fun e w' => (∃ v0 v1 v2, e = .returned (.tuple #[.agg #[v0, v1, v2], .int .i64 0]) ∧ OwnR w' w.heap.size v0 v1 v2 (revR r)) ∧ Below w.heap.size w w' := by
  have hE := checkE_true hv
  have hok := (validB_ok hv).1
  have hlen := hok.2
  have hcl := (validB_ok hv).2.2.2.1
  have hjl := (validB_ok hv).2.2.2.2.1
  have hln := (hok.beg r.ps.length).1
  have hln2 := (hok.beg r.ps.length).2
  rw [List.take_length] at hln hln2
  have HV := Lib.hid hv
  have hR0 : InR w ((w.alloc (.cells #[.slice A r.ps.length a, .slice B r.cs.length b, .slice C r.js.length c] 26)).alloc (.cells #[.slice none 0 0, .slice none 0 0, .slice none 0 0] 26)) r A B C a b c := (InR.new w r A B C a b c).step (balloc _ _)
  have hK0 : Blk ((w.alloc (.cells #[.slice A r.ps.length a, .slice B r.cs.length b, .slice C r.js.length c] 26)).alloc (.cells #[.slice none 0 0, .slice none 0 0, .slice none 0 0] 26)) (w.heap.size + 1) 26 #[.slice none 0 0, .slice none 0 0, .slice none 0 0] := blk_at _ _ _ _ (by simp)
  go_enter Try.func33, Try.ntmps33
  go_upto_region 5 with (first | (go_at_call 48; refine (check_any r A B C a b c _ (hR0.rd h)).mono ?_; rintro e W1 ⟨rfl, hb1⟩; have hI1 := hR0.step hb1; have hK1 := hK0.below hb1 hK0.lt; have b0 := hI1.box.2 0 _ rfl; have b1 := hI1.box.2 1 _ rfl; have b2 := hI1.box.2 2 _ rfl) | (go_at_call 52; refine (measure_ok r A B C a b c _ (hI1.rd h) hok).mono ?_; rintro e W2 ⟨M, G, g, rfl, hM1, hb2, hMe⟩; have hI2 := hI1.step hb2; have hK2 := hK1.below hb2 hK1.lt) | (go_at_call 54; refine (mlength_ok r A B C a b c G g M _ hMe hok).mono ?_; rintro e W3 ⟨rfl, hb3⟩; have hI3 := hI2.step hb3; have hK3 := hK2.below hb3 hK2.lt))
  clear b0 b1 b2
  have b0 := hI3.box.2 0 _ rfl
  have b1 := hI3.box.2 1 _ rfl
  have b2 := hI3.box.2 2 _ rfl
  have bs := hI3.box.1
  have hrd := hI3.rd h
  refine wp_region_mk_tail 11 (fun j => match j with | 2 => some (fun v W => OwnL W W3.heap.size 52 5 pcV v r.ps) | 5 => some (fun v W => OwnL W W3.heap.size 86 2 crV v r.cs) | 8 => some (fun v W => OwnL W W3.heap.size 88 3 jnV v r.js) | 10 => some (NewBlk W3.heap.size 26 #[.slice none 0 0, .slice none 0 0, .slice none 0 0]) | _ => none) (by kernel_rfl) (by kernel_rfl) ?hmk ?_
  case hmk =>
    intro j S hS v
    split at hS <;> first | (injection hS with hS; subst hS; first | exact stays_own _ _ _ _ _ _ | exact stays_blk _ _ _ _) | cases hS
  simp only [List.take_succ_cons, List.take_zero, List.drop_succ_cons, List.drop_zero]
  refine wpM_reads [_, _] (_ :: _) _ _ _ (by kernel_rfl) (by intro j hj; rcases (show j = 0 ∨ j = 1 by simp at hj; omega) with rfl | rfl <;> exact ⟨rfl, rfl⟩) ?_
  repeat (go_big_quiet_step (fail))
  refine wpQuiet_nil ?_
  refine wpM_make rfl rfl rfl ?_ ?_
  · intro x hx
    unfold makesAt
    go_simp
    exact (clone_p r.ps A a x (hrd.p.below hx) (by omega)).mono fun e w' ⟨⟨v, h1, h2⟩, hb⟩ => ⟨v, h1, h2.base_mono hx.size, hb⟩
  rintro v ⟨x, hx, hO0⟩
  go_simp
  obtain ⟨VA, va, rfl⟩ := hO0.form
  refine wpM_reads [_, _] (_ :: _) _ _ _ (by kernel_rfl) (by intro j hj; rcases (show j = 0 ∨ j = 1 by simp at hj; omega) with rfl | rfl <;> exact ⟨rfl, rfl⟩) ?_
  repeat (go_big_quiet_step (fail))
  refine wpQuiet_nil ?_
  refine wpM_make rfl rfl rfl ?_ ?_
  · intro x hx
    unfold makesAt
    go_simp
    exact (clone_c r.cs B b x (hrd.c.below hx) (by omega)).mono fun e w' ⟨⟨v, h1, h2⟩, hb⟩ => ⟨v, h1, h2.base_mono hx.size, hb⟩
  rintro v ⟨x, hx, hO1⟩
  go_simp
  obtain ⟨VB, vb, rfl⟩ := hO1.form
  refine wpM_reads [_, _] (_ :: _) _ _ _ (by kernel_rfl) (by intro j hj; rcases (show j = 0 ∨ j = 1 by simp at hj; omega) with rfl | rfl <;> exact ⟨rfl, rfl⟩) ?_
  repeat (go_big_quiet_step (fail))
  refine wpQuiet_nil ?_
  refine wpM_make rfl rfl rfl ?_ ?_
  · intro x hx
    unfold makesAt
    go_simp
    exact (clone_j r.js C c x (hrd.j.below hx) (by omega)).mono fun e w' ⟨⟨v, h1, h2⟩, hb⟩ => ⟨v, h1, h2.base_mono hx.size, hb⟩
  rintro v ⟨x, hx, hO2⟩
  go_simp
  obtain ⟨VC, vc, rfl⟩ := hO2.form
  refine wpM_reads [_] (_ :: _) _ _ _ (by kernel_rfl) (by intro j hj; rcases (show j = 0 by simp at hj; omega) with rfl <;> exact ⟨rfl, rfl⟩) ?_
  repeat (go_big_quiet_step (fail))
  refine wpQuiet_nil ?_
  refine wpM_make rfl rfl rfl ?_ ?_
  · intro x hx
    unfold makesAt
    go_simp
    exact ⟨⟨_, rfl, hx.size, Blk.new _ _ _⟩, balloc _ _⟩
  rintro v ⟨x, hx, n, rfl, hn, hbk⟩
  go_simp
  refine wpM_nil ?_
  rintro W4 hb4 ⟨⟨⟨h0, h1⟩, h2⟩, n', e', hn', hk'⟩
  injection e' with e'
  injection e' with e'
  injection e' with e'
  subst e'
  clear hbk hx b0 b1 b2 bs hO0 hO1 hO2
  have k0 := hk'.frozen 0
  have k1 := hk'.frozen 1
  have k2 := hk'.frozen 2
  have m0 := hk'.cell 0
  have m1 := hk'.cell 1
  have m2 := hk'.cell 2
  have kl := hk'.lt
  have rv0 : RvSt W3 (((W4.setCell ⟨n, 0, none⟩ (.slice VA r.ps.length va)).setCell ⟨n, 1, none⟩ (.slice VB r.cs.length vb)).setCell ⟨n, 2, none⟩ (.slice VC r.js.length vc)) n (.slice VA r.ps.length va) (.slice VB r.cs.length vb) (.slice VC r.js.length vc) r.ps r.cs r.js := by
    have hg := World.grownBy.trans (World.grownBy.trans (grown_set W4 n 0 (.slice VA r.ps.length va)) (grown_set _ n 1 (.slice VB r.cs.length vb))) (grown_set _ n 2 (.slice VC r.js.length vc))
    exact ⟨h0.other hg (.inr (own_ne_blk h0 hk' (by decide)).symm), h1.other hg (.inr (own_ne_blk h1 hk' (by decide)).symm), h2.other hg (.inr (own_ne_blk h2 hk' (by decide)).symm), ((hk'.set_ 0 _).set_ 1 _).set_ 2 _, hn',
      ((hb4.setCell (p := ⟨n, 0, none⟩) hn' _).setCell (p := ⟨n, 1, none⟩) hn' _).setCell (p := ⟨n, 2, none⟩) hn' _⟩
  go_upto_region 6 with fail
  obtain ⟨W5, hW5⟩ : ∃ W5, W5 = ((W4.setCell ⟨n, 0, none⟩ (.slice VA r.ps.length va)).setCell ⟨n, 1, none⟩ (.slice VB r.cs.length vb)).setCell ⟨n, 2, none⟩ (.slice VC r.js.length vc) := ⟨_, rfl⟩
  rw [← hW5] at rv0 ⊢
  clear hW5 k0 k1 k2 m0 m1 m2 h0 h1 h2 hk' hb4
  have m0 := rv0.b.cell 0
  have m1 := rv0.b.cell 1
  have m2 := rv0.b.cell 2
  go_upto_region 9 with (first
    | (go_at_call 65; refine (reverse_p r.ps _ _ _ rv0.p (by omega)).mono ?_; rintro e W6 ⟨rfl, ho6, hg6⟩; have rv1 := rv0.stepP ho6 hg6; clear m0 m1 m2; have m0 := rv1.b.cell 0; have m1 := rv1.b.cell 1; have m2 := rv1.b.cell 2)
    | (go_at_call 66; refine (reverse_c r.cs _ _ _ rv1.c (by omega)).mono ?_; rintro e W7 ⟨rfl, ho7, hg7⟩; have rv2 := rv1.stepC ho7 hg7; clear m0 m1 m2; have m0 := rv2.b.cell 0; have m1 := rv2.b.cell 1; have m2 := rv2.b.cell 2)
    | (go_at_call 67; refine (reverse_j r.js _ _ _ rv2.j (by omega)).mono ?_; rintro e W8 ⟨rfl, ho8, hg8⟩; have rv3 := rv2.stepJ ho8 hg8; clear m0 m1 m2; have m0 := rv3.b.cell 0; have m1 := rv3.b.cell 1; have m2 := rv3.b.cell 2))
  have hps := hok
  have rvA : RvSt W3 W8 n (.slice VA r.ps.length va) (.slice VB r.cs.length vb) (.slice VC r.js.length vc) (mapTo revP 0 r.ps.reverse) r.cs.reverse r.js.reverse := by rw [mapTo_zero]; exact rv3
  clear rv0 rv1 rv2
  go_wp2_with fail
  go_loopw [7, 42] (fun _ i wr => ∃ k : Nat, k ≤ r.ps.length ∧ i = .int .i64 k ∧ RvSt W3 wr n (.slice VA r.ps.length va) (.slice VB r.cs.length vb) (.slice VC r.js.length vc) (mapTo revP k r.ps.reverse) r.cs.reverse r.js.reverse) (fun _ i _ => r.ps.length - (intOf i).toNat)
  case atStart => exact ⟨0, Nat.zero_le _, rfl, rvA⟩
  case round =>
    rename World => wo
    obtain ⟨k, hk, rfl, rv⟩ := hrel
    clear m0 m1 m2
    have m0 := rv.b.cell 0
    have m1 := rv.b.cell 1
    have m2 := rv.b.cell 2
    have ml := rv.b.lt
    by_cases hlt : k < r.ps.length
    · obtain ⟨x, hx⟩ := getElem?_ex (show k < r.ps.reverse.length by simpa using hlt)
      obtain ⟨hx1, hx2⟩ := mapTo_at revP k _ x hx
      have hxo := List.all_eq_true.1 hok.1 x (List.mem_reverse.1 (List.mem_of_getElem? hx))
      have xt : -1 ≤ x.turn ∧ x.turn ≤ 1 := by
        simp only [pcOkP, pcOk, inB, Bool.and_eq_true, decide_eq_true_eq] at hxo
        omega
      have xt1 := xt.1
      have xt2 := xt.2
      obtain ⟨g, hA, hgb, hgl, hfz⟩ := rv.p.addr (by rw [mapTo_len, List.length_reverse]; omega)
      subst hA
      obtain ⟨b1, o1, e1, _, a0, a1, a2, a3, a4⟩ := (rv.p.rd pcV_len).at5 hx1
      injection e1 with e1
      injection e1 with e1 e2
      subst e1 e2
      simp only [Nat.zero_add] at a0 a1 a2 a3 a4
      have HX1 := Lib.hid hx1
      have HX2 := Lib.hid hx2
      clear hx hx1 hx2 hxo xt
      have fz := hfz (k * 5 + 1)
      clear hfz
      go_wp2_with fail
      refine wp_region_later_tail 12 (by kernel_rfl) (by kernel_rfl) ?_
      simp only [List.take_succ_cons, List.take_zero, List.drop_succ_cons, List.drop_zero]
      repeat (go_big_quiet_step (fail))
      refine wpQuiet_nil ?_
      rintro _ ⟨y, rfl⟩
      have rvy := rv.below y.b
      have fy : y.w.frozen? ⟨g, k * 5 + 1, none⟩ = false := (y.b.frozen (p := ⟨g, k * 5 + 1, none⟩) hgl).trans fz
      have ay : y.w.cell? ⟨g, k * 5 + 1, none⟩ = some (.int .i64 x.turn) := (y.b.cell (p := ⟨g, k * 5 + 1, none⟩) hgl).trans a1
      have gy := Nat.lt_of_lt_of_le hgl y.b.size
      obtain ⟨Wy, hWy⟩ : ∃ Wy, Wy = y.w := ⟨_, rfl⟩
      rw [← hWy] at rvy fy ay gy ⊢
      clear hWy
      go_wp2_with fail
      go_roundw
      case rel =>
        have o1 := OwnL.store (i := k) (j := 1) (x' := revP x) (u := .int .i64 (-x.turn)) rvy.p (by rw [mapTo_len, List.length_reverse]) pcV_len HX1.out (by decide) rfl
        rw [HX2.out] at o1
        exact ⟨k + 1, by omega, by go_num, rvy.stepP o1 (grown_set _ _ _ _)⟩
      case measure => simp [intOf]; omega
    · obtain rfl : k = r.ps.length := by omega
      have rvB : RvSt W3 wo n (.slice VA r.ps.length va) (.slice VB r.cs.length vb) (.slice VC r.js.length vc) (r.ps.reverse.map revP) (mapTo (revC (lenSum r.ps)) 0 r.cs.reverse) r.js.reverse := by
        rw [mapTo_zero]
        have := mapTo_all revP r.ps.reverse
        rw [List.length_reverse] at this
        rw [← this]
        exact rv
      clear rv rvA rv3
      go_wp2_with fail
      go_loopw [8, 61] (fun _ i wr => ∃ k : Nat, k ≤ r.cs.length ∧ i = .int .i64 k ∧ RvSt W3 wr n (.slice VA r.ps.length va) (.slice VB r.cs.length vb) (.slice VC r.js.length vc) (r.ps.reverse.map revP) (mapTo (revC (lenSum r.ps)) k r.cs.reverse) r.js.reverse) (fun _ i _ => r.cs.length - (intOf i).toNat)
      case atStart => exact ⟨0, Nat.zero_le _, rfl, rvB⟩
      case round =>
        rename World => wp
        obtain ⟨k, hk, rfl, rv⟩ := hrel
        clear m0 m1 m2 ml
        have m0 := rv.b.cell 0
        have m1 := rv.b.cell 1
        have m2 := rv.b.cell 2
        have ml := rv.b.lt
        by_cases hlt : k < r.cs.length
        · obtain ⟨x, hx⟩ := getElem?_ex (show k < r.cs.reverse.length by simpa using hlt)
          obtain ⟨hx1, hx2⟩ := mapTo_at (revC (lenSum r.ps)) k _ x hx
          obtain ⟨k', hk'⟩ := List.getElem?_of_mem (List.mem_reverse.1 (List.mem_of_getElem? hx))
          have hxo := crs_at HV hk'
          have xt1 := hxo.1
          have xt2 := hxo.2
          obtain ⟨g, hA, hgb, hgl, hfz⟩ := rv.c.addr (by rw [mapTo_len, List.length_reverse]; omega)
          subst hA
          obtain ⟨b1, o1, e1, _, a0, a1⟩ := (rv.c.rd crV_len).at2 hx1
          injection e1 with e1
          injection e1 with e1 e2
          subst e1 e2
          simp only [Nat.zero_add] at a0 a1
          have HX1 := Lib.hid hx1
          have HX2 := Lib.hid hx2
          clear hx hx1 hx2 hxo hk' k'
          have fz := hfz (k * 2)
          clear hfz
          go_wp2_with fail
          refine wp_region_later_tail 13 (by kernel_rfl) (by kernel_rfl) ?_
          simp only [List.take_succ_cons, List.take_zero, List.drop_succ_cons, List.drop_zero]
          repeat (go_big_quiet_step (fail))
          refine wpQuiet_nil ?_
          rintro _ ⟨y, rfl⟩
          have rvy := rv.below y.b
          have fy : y.w.frozen? ⟨g, k * 2, none⟩ = false := (y.b.frozen (p := ⟨g, k * 2, none⟩) hgl).trans fz
          have ay : y.w.cell? ⟨g, k * 2, none⟩ = some (.int .i64 x.at_) := (y.b.cell (p := ⟨g, k * 2, none⟩) hgl).trans a0
          have gy := Nat.lt_of_lt_of_le hgl y.b.size
          obtain ⟨Wy, hWy⟩ : ∃ Wy, Wy = y.w := ⟨_, rfl⟩
          rw [← hWy] at rvy fy ay gy ⊢
          clear hWy
          go_wp2_with fail
          go_roundw
          case rel =>
            have o1 := OwnL.store (i := k) (j := 0) (x' := revC (lenSum r.ps) x) (u := .int .i64 (lenSum r.ps - x.at_)) rvy.c (by rw [mapTo_len, List.length_reverse]) crV_len HX1.out (by decide) rfl
            rw [HX2.out] at o1
            exact ⟨k + 1, by omega, by go_num, rvy.stepC o1 (grown_set _ _ _ _)⟩
          case measure => simp [intOf]; omega
        · obtain rfl : k = r.cs.length := by omega
          have rvC : RvSt W3 wp n (.slice VA r.ps.length va) (.slice VB r.cs.length vb) (.slice VC r.js.length vc) (r.ps.reverse.map revP) (r.cs.reverse.map (revC (lenSum r.ps))) (mapTo (revJ (lenSum r.ps)) 0 r.js.reverse) := by
            rw [mapTo_zero]
            have := mapTo_all (revC (lenSum r.ps)) r.cs.reverse
            rw [List.length_reverse] at this
            rw [← this]
            exact rv
          clear rv rvB
          go_wp2_with fail
          go_loopw [9, 10, 81] (fun _ _ i wr => ∃ k : Nat, k ≤ r.js.length ∧ i = .int .i64 k ∧ RvSt W3 wr n (.slice VA r.ps.length va) (.slice VB r.cs.length vb) (.slice VC r.js.length vc) (r.ps.reverse.map revP) (r.cs.reverse.map (revC (lenSum r.ps))) (mapTo (revJ (lenSum r.ps)) k r.js.reverse)) (fun _ _ i _ => r.js.length - (intOf i).toNat)
          case atStart => exact ⟨0, Nat.zero_le _, rfl, rvC⟩
          case round =>
            rename World => wq
            obtain ⟨k, hk, rfl, rv⟩ := hrel
            clear m0 m1 m2 ml
            have m0 := rv.b.cell 0
            have m1 := rv.b.cell 1
            have m2 := rv.b.cell 2
            have ml := rv.b.lt
            by_cases hlt : k < r.js.length
            · obtain ⟨x, hx⟩ := getElem?_ex (show k < r.js.reverse.length by simpa using hlt)
              obtain ⟨hx1, hx2⟩ := mapTo_at (revJ (lenSum r.ps)) k _ x hx
              obtain ⟨k', hk'⟩ := List.getElem?_of_mem (List.mem_reverse.1 (List.mem_of_getElem? hx))
              have hxo := jns_at HV hk'
              obtain ⟨xt1, xt2, xt3, xt4, xt5, xt6⟩ := hxo
              obtain ⟨g, hA, hgb, hgl, hfz⟩ := rv.j.addr (by rw [mapTo_len, List.length_reverse]; omega)
              subst hA
              obtain ⟨b1, o1, e1, _, a0, a1, a2⟩ := (rv.j.rd jnV_len).at3 hx1
              injection e1 with e1
              injection e1 with e1 e2
              subst e1 e2
              simp only [Nat.zero_add] at a0 a1 a2
              have HX1 := Lib.hid hx1
              have HX2 := Lib.hid hx2
              clear hx hx1 hx2 hk' k'
              have fz := hfz (k * 3)
              have fz2 := hfz (k * 3 + 2)
              clear hfz
              go_wp2_with fail
              go_region
              go_wp2_with fail
              go_roundw
              case rel =>
                have o1 := OwnL.store (i := k) (j := 0) (x' := ⟨lenSum r.ps - x.at_, x.arms, x.way⟩) (u := .int .i64 (lenSum r.ps - x.at_)) rv.j (by rw [mapTo_len, List.length_reverse]) jnV_len HX1.out (by decide) rfl
                have o2 := OwnL.store (i := k) (j := 2) (x' := revJ (lenSum r.ps) x) (u := .int .i64 (x.arms + 1 - x.way)) o1 (by rw [List.length_set, mapTo_len, List.length_reverse]) jnV_len (List.getElem?_set_self (by rw [mapTo_len, List.length_reverse]; exact hlt)) (by decide) rfl
                rw [List.set_set, HX2.out] at o2
                have rvz := rv.stepJ o2 (World.grownBy.trans (grown_set wq g (k * 3 + 0) _) (grown_set _ g (k * 3 + 2) _))
                exact ⟨k + 1, by omega, by go_num, rvz.below (below_drew _ _)⟩
              case measure => simp [intOf]; omega
            · obtain rfl : k = r.js.length := by omega
              have rvD : RvSt W3 wq n (.slice VA r.ps.length va) (.slice VB r.cs.length vb) (.slice VC r.js.length vc) (revR r).ps (revR r).cs (revR r).js := by
                have := mapTo_all (revJ (lenSum r.ps)) r.js.reverse
                rw [List.length_reverse] at this
                unfold revR
                rw [← this]
                exact rv
              clear rv rvC
              have hb3w := hI3.below
              have hK9 := hK3.below rvD.bl hK3.lt
              have j0 := hK9.frozen 0
              have j1 := hK9.frozen 1
              have j2 := hK9.frozen 2
              have i0 := hK9.cell 0
              have i1 := hK9.cell 1
              have i2 := hK9.cell 2
              have il := hK9.lt
              go_wp2_with fail
              have hKz := ((hK9.set_ 0 (.slice VA r.ps.length va)).set_ 1 (.slice VB r.cs.length vb)).set_ 2 (.slice VC r.js.length vc)
              have hg := World.grownBy.trans (World.grownBy.trans (grown_set wq (w.heap.size + 1) 0 (.slice VA r.ps.length va)) (grown_set _ (w.heap.size + 1) 1 (.slice VB r.cs.length vb))) (grown_set _ (w.heap.size + 1) 2 (.slice VC r.js.length vc))
              have hR : OwnR (((wq.setCell ⟨w.heap.size + 1, 0, none⟩ (.slice VA r.ps.length va)).setCell ⟨w.heap.size + 1, 1, none⟩ (.slice VB r.cs.length vb)).setCell ⟨w.heap.size + 1, 2, none⟩ (.slice VC r.js.length vc)) w.heap.size (.slice VA r.ps.length va) (.slice VB r.cs.length vb) (.slice VC r.js.length vc) (revR r) :=
                OwnR.base_mono ⟨rvD.p.other hg (.inr (own_ne_blk rvD.p hK9 (by decide)).symm), rvD.c.other hg (.inr (own_ne_blk rvD.c hK9 (by decide)).symm), rvD.j.other hg (.inr (own_ne_blk rvD.j hK9 (by decide)).symm)⟩ hb3w.size
              have hB : Below w.heap.size w (((wq.setCell ⟨w.heap.size + 1, 0, none⟩ (.slice VA r.ps.length va)).setCell ⟨w.heap.size + 1, 1, none⟩ (.slice VB r.cs.length vb)).setCell ⟨w.heap.size + 1, 2, none⟩ (.slice VC r.js.length vc)) :=
                (((hb3w.trans (rvD.bl.mono hb3w.size)).setCell (p := ⟨w.heap.size + 1, 0, none⟩) (by simp) _).setCell (p := ⟨w.heap.size + 1, 1, none⟩) (by simp) _).setCell (p := ⟨w.heap.size + 1, 2, none⟩) (by simp) _
              have r0 := hKz.cell 0
              have r1 := hKz.cell 1
              have r2 := hKz.cell 2
              have rl := hKz.lt
              refine bodyPost_ret (v := .tuple #[.agg #[.slice VA r.ps.length va, .slice VB r.cs.length vb, .slice VC r.js.length vc], .int .i64 0]) ?_ rfl ⟨⟨_, _, _, rfl, hR⟩, hB⟩
              simp [results, Try.results33, go_sem, r0, r1, r2, rl]

end Go.Proofs.Ytbdjmaogbpdkpaa

import Derived.Test.YtbdjmaogbpdkpaaCat
import Derived.Test.YtbdjmaogbpdkpaaNrm
import Derived.Test.YtbdjmaogbpdkpaaMk3
/-
  road.Join.
-/
namespace Go.Proofs.Ytbdjmaogbpdkpaa
open Go Go.RowKit Go.Shelf
set_option linter.unusedVariables false
set_option linter.unusedSimpArgs false
attribute [local go_sem] Later.cell Later.cell1 Later.new1 Later.frozen Later.frozen1 max_ints min_ints

/-- One more crest, one more junction. -/
def caddC (a : List Cr) (c : Cr) : List Cr :=
  match a.getLast? with
  | none => [c]
  | some l => if l.at_ = c.at_ then a.dropLast ++ [{ l with size := max l.size c.size }] else a ++ [c]
def caddJ (a : List Jn) (c : Jn) : List Jn :=
  match a.getLast? with
  | none => [c]
  | some l => if l.at_ = c.at_ then a else a ++ [c]
def joinC (n : Int) (a b : List Cr) : List Cr := b.foldl (fun acc c => caddC acc { c with at_ := c.at_ + n }) a
def joinJ (n : Int) (a b : List Jn) : List Jn := b.foldl (fun acc c => caddJ acc { c with at_ := c.at_ + n }) a
def joinR (r q : Road) : Road := ⟨r.ps ++ q.ps, joinC (lenSum r.ps) r.cs q.cs, joinJ (lenSum r.ps) r.js q.js⟩

theorem OwnL.fr {α : Type} {w w0 : World} {base : Nat} {e : TypeId} {k : Nat} {f : α → List Value} {v : Value} {xs : List α} (h : OwnL w base e k f v xs) : Mk2.Fr w0 w v := by
  obtain ⟨A, c, rfl⟩ := h.form
  intro p e
  cases e
/-- A slice of two slices, new. -/
def NewTwo (u0 u1 : Value) (v : Value) (W : World) : Prop := ∃ g, v = .slice (some ⟨g, 0, none⟩) 2 2 ∧ g < W.heap.size ∧ W.cell? ⟨g, 0, none⟩ = some u0 ∧ W.cell? ⟨g, 1, none⟩ = some u1
theorem stays_two (u0 u1 v : Value) : Stays (NewTwo u0 u1 v) := fun w w' ⟨g, e, h1, h2, h3⟩ hb => ⟨g, e, Nat.lt_of_lt_of_le h1 hb.size, (hb.cell (p := ⟨g, 0, none⟩) h1).trans h2, (hb.cell (p := ⟨g, 1, none⟩) h1).trans h3⟩

theorem RvSt.appC {W3 W w1 : World} {n : Nat} {v0 v1 v2 : Value} {ps : List Pc} {cs : List Cr} {js : List Jn} {x : Cr} {g2 cap2 : Nat} {tmp : Obj} (h : RvSt W3 W n v0 v1 v2 ps cs js) (hown : OwnL w1 W3.heap.size 86 2 crV (.slice (some ⟨g2, 0, none⟩) (cs.length + 1) cap2) (cs ++ [x])) (hgrow : (W.alloc tmp).grownBy w1 v1.ownBlock) :
    RvSt W3 (w1.setCell ⟨n, 1, none⟩ (.slice (some ⟨g2, 0, none⟩) (cs.length + 1) cap2)) n v0 (.slice (some ⟨g2, 0, none⟩) (cs.length + 1) cap2) v2 ps (cs ++ [x]) js := by
  have b1 : Blk w1 n 26 #[v0, v1, v2] := (h.b.alloc tmp).grown hgrow (own_ne_blk h.c h.b (by decide))
  have p1 := (h.p.below (balloc W tmp)).other hgrow (h.p.ne h.c (by decide))
  have j1 := (h.j.below (balloc W tmp)).other hgrow (h.j.ne h.c (by decide))
  have gs := grown_set w1 n 1 (.slice (some ⟨g2, 0, none⟩) (cs.length + 1) cap2)
  have bb := (h.c.below (balloc W tmp)).grown_below (by have := h.bl.size; simp; omega) hgrow
  exact ⟨p1.other gs (.inr (own_ne_blk p1 b1 (by decide)).symm), hown.other gs (.inr (own_ne_blk hown b1 (by decide)).symm), j1.other gs (.inr (own_ne_blk j1 b1 (by decide)).symm), b1.set_ 1 _, h.nb, ((h.bl.trans ((balloc W tmp).mono h.bl.size)).trans bb).setCell (p := ⟨n, 1, none⟩) h.nb _⟩
theorem RvSt.appJ {W3 W w1 : World} {n : Nat} {v0 v1 v2 : Value} {ps : List Pc} {cs : List Cr} {js : List Jn} {x : Jn} {g2 cap2 : Nat} {tmp : Obj} (h : RvSt W3 W n v0 v1 v2 ps cs js) (hown : OwnL w1 W3.heap.size 88 3 jnV (.slice (some ⟨g2, 0, none⟩) (js.length + 1) cap2) (js ++ [x])) (hgrow : (W.alloc tmp).grownBy w1 v2.ownBlock) :
    RvSt W3 (w1.setCell ⟨n, 2, none⟩ (.slice (some ⟨g2, 0, none⟩) (js.length + 1) cap2)) n v0 v1 (.slice (some ⟨g2, 0, none⟩) (js.length + 1) cap2) ps cs (js ++ [x]) := by
  have b1 : Blk w1 n 26 #[v0, v1, v2] := (h.b.alloc tmp).grown hgrow (own_ne_blk h.j h.b (by decide))
  have p1 := (h.p.below (balloc W tmp)).other hgrow (h.p.ne h.j (by decide))
  have c1 := (h.c.below (balloc W tmp)).other hgrow (h.c.ne h.j (by decide))
  have gs := grown_set w1 n 2 (.slice (some ⟨g2, 0, none⟩) (js.length + 1) cap2)
  have bb := (h.j.below (balloc W tmp)).grown_below (by have := h.bl.size; simp; omega) hgrow
  exact ⟨p1.other gs (.inr (own_ne_blk p1 b1 (by decide)).symm), c1.other gs (.inr (own_ne_blk c1 b1 (by decide)).symm), hown.other gs (.inr (own_ne_blk hown b1 (by decide)).symm), b1.set_ 2 _, h.nb, ((h.bl.trans ((balloc W tmp).mono h.bl.size)).trans bb).setCell (p := ⟨n, 2, none⟩) h.nb _⟩
theorem caddC_same (a : List Cr) (l c : Cr) (h : l.at_ = c.at_) : caddC (a ++ [l]) c = a ++ [{ l with size := max l.size c.size }] := by simp [caddC, h]
theorem caddC_new (a : List Cr) (l c : Cr) (h : ¬ l.at_ = c.at_) : caddC (a ++ [l]) c = a ++ [l] ++ [c] := by simp [caddC, h]
theorem caddJ_same (a : List Jn) (l c : Jn) (h : l.at_ = c.at_) : caddJ (a ++ [l]) c = a ++ [l] := by simp [caddJ, h]
theorem caddJ_new (a : List Jn) (l c : Jn) (h : ¬ l.at_ = c.at_) : caddJ (a ++ [l]) c = a ++ [l] ++ [c] := by simp [caddJ, h]
theorem joinC_succ (n : Int) (a b : List Cr) (k : Nat) (x : Cr) (h : b[k]? = some x) : joinC n a (b.take (k + 1)) = caddC (joinC n a (b.take k)) { x with at_ := x.at_ + n } := by
  unfold joinC
  rw [List.take_add_one, h, List.foldl_append]
  rfl
theorem joinJ_succ (n : Int) (a b : List Jn) (k : Nat) (x : Jn) (h : b[k]? = some x) : joinJ n a (b.take (k + 1)) = caddJ (joinJ n a (b.take k)) { x with at_ := x.at_ + n } := by
  unfold joinJ
  rw [List.take_add_one, h, List.foldl_append]
  rfl

set_option maxRecDepth 100000 in
set_option maxHeartbeats 8000000 in
theorem Join_any (r q : Road) (A B C A' B' C' : Option Addr) (a b c a' b' c' : Nat) (w : World) (h : RdRoad w r A B C) (h' : RdRoad w q A' B' C') (hv : validB r = true) (hv' : validB q = true) :
    Calls Try.prog 39 #[.agg #[.slice A r.ps.length a, .slice B r.cs.length b, .slice C r.js.length c], .agg #[.slice A' q.ps.length a', .slice B' q.cs.length b', .slice C' q.js.length c']] w fun e w' => ((fitsR (joinR r q) = true ∧ ∃ v0 v1 v2, e = .returned (.tuple #[.agg #[v0, v1, v2], .int .i64 0]) ∧ OwnR w' w.heap.size v0 v1 v2 (joinR r q)) ∨ (fitsR (joinR r q) = false ∧ e = .returned (.tuple #[.agg #[.slice none 0 0, .slice none 0 0, .slice none 0 0], .int .i64 4]))) ∧ Below w.heap.size w w' := by
  obtain ⟨i1, hi1, hz10, hz11, hz12⟩ := info_parts Try.info86
  obtain ⟨i2, hi2, hz20, hz21, hz22⟩ := info_parts Try.info88
  have hE := checkE_true hv
  have hE' := checkE_true hv'
  have hok := (validB_ok hv).1
  have hlen := hok.2
  have hcl := (validB_ok hv).2.2.2.1
  have hjl := (validB_ok hv).2.2.2.2.1
  have hlen' := (validB_ok hv').1.2
  have hcl' := (validB_ok hv').2.2.2.1
  have hjl' := (validB_ok hv').2.2.2.2.1
  have hln := (hok.beg r.ps.length).1
  have hln2 := (hok.beg r.ps.length).2
  rw [List.take_length] at hln hln2
  have HV := Lib.hid hv
  have HV' := Lib.hid hv'
  clear hv hv'
  obtain ⟨W0, hW0⟩ : ∃ W0, W0 = ((w.alloc (.cells #[.slice A r.ps.length a, .slice B r.cs.length b, .slice C r.js.length c] 26)).alloc (.cells #[.slice A' q.ps.length a', .slice B' q.cs.length b', .slice C' q.js.length c'] 26)).alloc (.cells #[.slice none 0 0, .slice none 0 0, .slice none 0 0] 26) := ⟨_, rfl⟩
  have hR0 : InR w W0 r A B C a b c := by rw [hW0]; exact ((InR.new w r A B C a b c).step (balloc _ _)).step (balloc _ _)
  have hJ0 : Blk W0 (w.heap.size + 1) 26 #[.slice A' q.ps.length a', .slice B' q.cs.length b', .slice C' q.js.length c'] := by rw [hW0]; exact (blk_at _ _ _ _ (by simp)).alloc _
  have hK0 : Blk W0 (w.heap.size + 2) 26 #[.slice none 0 0, .slice none 0 0, .slice none 0 0] := by rw [hW0]; exact blk_at _ _ _ _ (by simp)
  have hr0 := h.below hR0.below
  have hq0 := h'.below hR0.below
  go_enter Try.func39, Try.ntmps39
  have b0 := hR0.box.2 0 _ rfl
  have b1 := hR0.box.2 1 _ rfl
  have b2 := hR0.box.2 2 _ rfl
  have e0 := hJ0.cell 0
  have e1 := hJ0.cell 1
  have e2 := hJ0.cell 2
  go_upto_region 1 with fail
  rw [← hW0]
  clear hW0
  go_upto_region 4 with (first
    | (go_at_call 48; refine (check_any q A' B' C' a' b' c' _ (hq0.below hb1)).mono ?_; rintro e W2 ⟨rfl, hb2⟩; have hI2 := hI1.step hb2; have hJ2 := hJ1.below hb2 hJ1.lt; have hK2 := hK1.below hb2 hK1.lt; clear b0 b1 b2 e0 e1 e2; have b0 := hI2.box.2 0 _ rfl; have b1 := hI2.box.2 1 _ rfl; have b2 := hI2.box.2 2 _ rfl; have e0 := hJ2.cell 0; have e1 := hJ2.cell 1; have e2 := hJ2.cell 2)
    | (go_at_call 48; refine (check_any r A B C a b c _ hr0).mono ?_; rintro e W1 ⟨rfl, hb1⟩; have hI1 := hR0.step hb1; have hJ1 := hJ0.below hb1 hJ0.lt; have hK1 := hK0.below hb1 hK0.lt; clear b0 b1 b2 e0 e1 e2; have b0 := hI1.box.2 0 _ rfl; have b1 := hI1.box.2 1 _ rfl; have b2 := hI1.box.2 2 _ rfl; have e0 := hJ1.cell 0; have e1 := hJ1.cell 1; have e2 := hJ1.cell 2)
    | (go_at_call 52; refine (measure_ok r A B C a b c _ (hI2.rd h) hok).mono ?_; rintro e W3 ⟨M, G, g, rfl, hM1, hb3, hMe⟩; have hI3 := hI2.step hb3; have hJ3 := hJ2.below hb3 hJ2.lt; have hK3 := hK2.below hb3 hK2.lt)
    | (go_at_call 54; refine (mlength_ok r A B C a b c G g M _ hMe hok).mono ?_; rintro e W4 ⟨rfl, hb4⟩; have hI4 := hI3.step hb4; have hJ4 := hJ3.below hb4 hJ3.lt; have hK4 := hK3.below hb4 hK3.lt; have hq4 := (((hq0.below hb1).below hb2).below hb3).below hb4; clear b0 b1 b2 e0 e1 e2; have b0 := hI4.box.2 0 _ rfl; have b1 := hI4.box.2 1 _ rfl; have b2 := hI4.box.2 2 _ rfl; have e0 := hJ4.cell 0; have e1 := hJ4.cell 1; have e2 := hJ4.cell 2))
  have hrd := hI4.rd h
  have bs := hI4.box.1
  have es := hJ4.lt
  clear e0 e1 e2
  have e0 : W4.cell? ⟨w.heap.size + 1, 0, none⟩ = some (.slice A' q.ps.length a') := hJ4.cell 0
  refine Mk3.wp_region_mk_tail 14 (fun j => match j with | 4 => some (NewTwo (.slice A r.ps.length a) (.slice A' q.ps.length a')) | 5 => some (fun v W => OwnL W W4.heap.size 52 5 pcV v (r.ps ++ q.ps)) | 8 => some (fun v W => OwnL W W4.heap.size 86 2 crV v r.cs) | 11 => some (fun v W => OwnL W W4.heap.size 88 3 jnV v r.js) | 13 => some (NewBlk W4.heap.size 26 #[.slice none 0 0, .slice none 0 0, .slice none 0 0]) | _ => none) (fun j => match j with | 5 => [4] | _ => []) (by kernel_rfl) (by kernel_rfl) (by kernel_rfl) ?hmk ?_
  case hmk =>
    intro j S hS v
    split at hS <;> first | (injection hS with hS; subst hS; first | exact stays_own _ _ _ _ _ _ | exact stays_blk _ _ _ _ | exact stays_two _ _ _) | cases hS
  simp only [List.take_succ_cons, List.take_zero, List.drop_succ_cons, List.drop_zero]
  refine Mk3.wpM_reads [_, _, _, _] (_ :: _) _ _ _ (by kernel_rfl) (by intro j hj; rcases (show j = 0 ∨ j = 1 ∨ j = 2 ∨ j = 3 by simp at hj; omega) with rfl | rfl | rfl | rfl <;> exact ⟨rfl, rfl⟩) ?_
  repeat (go_big_quiet_step (fail))
  refine wpQuiet_nil ?_
  refine Mk3.wpM_make rfl rfl rfl ?_ ?_
  · intro x hx _
    unfold Mk2.makesAt
    go_simp
    exact ⟨⟨_, rfl, by simp, by simp, by simp⟩, (fun p e => by cases e), balloc _ _⟩
  rintro v ⟨_, x, hx, ⟨_, ⟨g2, rfl, _, _, _⟩, _⟩, _⟩
  go_simp
  refine Mk3.wpM_make rfl rfl rfl ?_ ?_
  · intro x hx hd
    obtain ⟨g3, eg, hg1, hg2, hg3⟩ := (hd 4 (by simp)).2 rfl
    injection eg with eg _ _
    injection eg with eg
    injection eg with eg
    subst eg
    unfold Mk2.makesAt
    go_simp
    exact (concat_two r.ps q.ps A A' a a' g2 x hg1 hg2 hg3 (hrd.p.below hx) (hq4.p.below hx) (by omega) (by omega)).mono fun e w' ⟨⟨v, h1, h2⟩, hb⟩ => ⟨v, h1, h2.base_mono hx.size, h2.fr, hb⟩
  rintro v ⟨_, x, hx, ⟨_, hO0, _⟩, _⟩
  go_simp
  obtain ⟨V0, v0, rfl⟩ := hO0.form
  refine Mk3.wpM_reads [_, _] (_ :: _) _ _ _ (by kernel_rfl) (by intro j hj; rcases (show j = 0 ∨ j = 1 by simp at hj; omega) with rfl | rfl <;> exact ⟨rfl, rfl⟩) ?_
  repeat (go_big_quiet_step (fail))
  refine wpQuiet_nil ?_
  refine Mk3.wpM_make rfl rfl rfl ?_ ?_
  · intro x hx _
    unfold Mk2.makesAt
    go_simp
    exact (clone_c r.cs B b x (hrd.c.below hx) (by omega)).mono fun e w' ⟨⟨v, h1, h2⟩, hb⟩ => ⟨v, h1, h2.base_mono hx.size, h2.fr, hb⟩
  rintro v ⟨_, x, hx, ⟨_, hO1, _⟩, _⟩
  go_simp
  obtain ⟨V1, v1, rfl⟩ := hO1.form
  refine Mk3.wpM_reads [_, _] (_ :: _) _ _ _ (by kernel_rfl) (by intro j hj; rcases (show j = 0 ∨ j = 1 by simp at hj; omega) with rfl | rfl <;> exact ⟨rfl, rfl⟩) ?_
  repeat (go_big_quiet_step (fail))
  refine wpQuiet_nil ?_
  refine Mk3.wpM_make rfl rfl rfl ?_ ?_
  · intro x hx _
    unfold Mk2.makesAt
    go_simp
    exact (clone_j r.js C c x (hrd.j.below hx) (by omega)).mono fun e w' ⟨⟨v, h1, h2⟩, hb⟩ => ⟨v, h1, h2.base_mono hx.size, h2.fr, hb⟩
  rintro v ⟨_, x, hx, ⟨_, hO2, _⟩, _⟩
  go_simp
  obtain ⟨V2, v2, rfl⟩ := hO2.form
  refine Mk3.wpM_reads [_] (_ :: _) _ _ _ (by kernel_rfl) (by intro j hj; rcases (show j = 0 by simp at hj; omega) with rfl <;> exact ⟨rfl, rfl⟩) ?_
  repeat (go_big_quiet_step (fail))
  refine wpQuiet_nil ?_
  refine Mk3.wpM_make rfl rfl rfl ?_ ?_
  · intro x hx _
    unfold Mk2.makesAt
    go_simp
    exact ⟨⟨_, rfl, hx.size, Blk.new _ _ _⟩, (fun q e => by injection e with e; injection e with e; subst e; exact ⟨Nat.le_refl _, by simp⟩), balloc _ _⟩
  rintro v ⟨_, x, hx', ⟨_, ⟨n, rfl, hn, _⟩, _⟩, _⟩
  go_simp
  refine Mk3.wpM_nil ?_
  rintro W5 hb5 ⟨⟨⟨⟨⟨_, _, _⟩, h0, _⟩, h1, _⟩, h2, _⟩, ⟨n', e', hn', hk'⟩, _⟩
  injection e' with e'
  injection e' with e'
  injection e' with e'
  subst e'
  clear b0 b1 b2 e0 bs hx' hn
  have k0 := hk'.frozen 0
  have k1 := hk'.frozen 1
  have k2 := hk'.frozen 2
  have m0 := hk'.cell 0
  have m1 := hk'.cell 1
  have m2 := hk'.cell 2
  have kl := hk'.lt
  have rv0 : RvSt W4 (((W5.setCell ⟨n, 0, none⟩ (.slice V0 (r.ps ++ q.ps).length v0)).setCell ⟨n, 1, none⟩ (.slice V1 r.cs.length v1)).setCell ⟨n, 2, none⟩ (.slice V2 r.js.length v2)) n (.slice V0 (r.ps ++ q.ps).length v0) (.slice V1 r.cs.length v1) (.slice V2 r.js.length v2) (r.ps ++ q.ps) r.cs r.js := by
    rw [List.length_append]
    have hg := World.grownBy.trans (World.grownBy.trans (grown_set W5 n 0 (.slice V0 (r.ps.length + q.ps.length) v0)) (grown_set _ n 1 (.slice V1 r.cs.length v1))) (grown_set _ n 2 (.slice V2 r.js.length v2))
    exact ⟨h0.other hg (.inr (own_ne_blk h0 hk' (by decide)).symm), h1.other hg (.inr (own_ne_blk h1 hk' (by decide)).symm), h2.other hg (.inr (own_ne_blk h2 hk' (by decide)).symm), ((hk'.set_ 0 _).set_ 1 _).set_ 2 _, hn',
      ((hb5.setCell (p := ⟨n, 0, none⟩) hn' _).setCell (p := ⟨n, 1, none⟩) hn' _).setCell (p := ⟨n, 2, none⟩) hn' _⟩
  rw [List.length_append] at rv0
  go_upto_region 5 with fail
  obtain ⟨W6, hW6⟩ : ∃ X, X = ((W5.setCell ⟨n, 0, none⟩ (.slice V0 (r.ps.length + q.ps.length) v0)).setCell ⟨n, 1, none⟩ (.slice V1 r.cs.length v1)).setCell ⟨n, 2, none⟩ (.slice V2 r.js.length v2) := ⟨_, rfl⟩
  rw [← hW6] at rv0 ⊢
  clear hW6 k0 k1 k2 m0 m1 m2 kl h0 h1 h2 hk' hb5
  have hJ6 := hJ4.below rv0.bl hJ4.lt
  have e0 := hJ6.cell 0
  have e1 := hJ6.cell 1
  have e2 := hJ6.cell 2
  have hlq := (validB_ok HV'.out).2.2.1
  go_wp2_with fail
  clear e0 e1 e2
  go_loopw [42] (fun i W => ∃ (k : Nat) (u1 : Value), k ≤ q.cs.length ∧ i = .int .i64 k ∧ RvSt W4 W n (.slice V0 (r.ps.length + q.ps.length) v0) u1 (.slice V2 r.js.length v2) (r.ps ++ q.ps) (joinC (lenSum r.ps) r.cs (q.cs.take k)) r.js ∧ (joinC (lenSum r.ps) r.cs (q.cs.take k)).length ≤ r.cs.length + k) (fun i _ => q.cs.length - (intOf i).toNat)
  case atStart => exact ⟨0, _, Nat.zero_le _, rfl, rv0, by simp [joinC]⟩
  case round =>
    rename World => Wq
    obtain ⟨k, u1, hk, rfl, rv, hlc⟩ := hrel
    have hws := rv.bl.size
    by_cases hlt : k < q.cs.length
    · obtain ⟨x, hx⟩ := getElem?_ex hlt
      have hxo := crs_at HV' hx
      have x1 := hxo.1
      have x2 := hxo.2
      have e5 : IntKind.i64.wrap (x.at_ + lenSum r.ps) = x.at_ + lenSum r.ps := IntWalk.i64_in _ (by omega)
      have HJ := Lib.hid (joinC_succ (lenSum r.ps) r.cs q.cs k x hx)
      obtain ⟨xb, xo, rfl, hbb, c0, c1⟩ := (hq4.c.below rv.bl).at2 hx
      clear hx hxo
      obtain ⟨cs, hcs⟩ : ∃ cs, cs = joinC (lenSum r.ps) r.cs (q.cs.take k) := ⟨_, rfl⟩
      rw [← hcs] at rv hlc HJ
      clear hcs
      obtain ⟨U1, c1', rfl⟩ := rv.c.form
      have m0 := rv.b.cell 0
      have m1 := rv.b.cell 1
      have m2 := rv.b.cell 2
      have mf := rv.b.frozen 1
      have ml := rv.b.lt
      have bX : Blk (Wq.alloc (.cells #[.int .i64 (x.at_ + lenSum r.ps), .int .i64 x.size] 86)) Wq.heap.size 86 #[.int .i64 (x.at_ + lenSum r.ps), .int .i64 x.size] := Blk.new _ _ _
      have rvX := rv.below (balloc Wq (.cells #[.int .i64 (x.at_ + lenSum r.ps), .int .i64 x.size] 86))
      rcases List.eq_nil_or_concat cs with rfl | ⟨ds, l, hd⟩
      · simp only [List.length_nil] at m1 rvX ⊢
        go_upto_region 10 with fail
        obtain ⟨WX, hWX⟩ : ∃ X, X = Wq.alloc (.cells #[.int .i64 (x.at_ + lenSum r.ps), .int .i64 x.size] 86) := ⟨_, rfl⟩
        rw [← hWX] at bX rvX ⊢
        obtain ⟨NX, hNX⟩ : ∃ X, X = Wq.heap.size := ⟨_, rfl⟩
        rw [← hNX] at bX ⊢
        clear hWX hNX c0 c1 m0 m1 m2 mf
        have m0 := rvX.b.cell 0
        have m1 := rvX.b.cell 1
        have m2 := rvX.b.cell 2
        have mf := rvX.b.frozen 1
        have bxl := bX.lt
        have ml := rvX.b.lt
        refine wp_region_later (by kernel_rfl) (by kernel_rfl) ?_
        repeat (go_big_quiet_step (fail))
        refine wpQuiet_nil ?_
        rintro _ ⟨z, rfl⟩
        have rvz := rvX.below z.b
        have bz := bX.below z.b bX.lt
        obtain ⟨Wz, hWz⟩ : ∃ Wz, Wz = z.w := ⟨_, rfl⟩
        rw [← hWz] at rvz bz ⊢
        clear hWz m0 m1 m2 mf
        have m0 := rvz.b.cell 0
        have m1 := rvz.b.cell 1
        have m2 := rvz.b.cell 2
        have ml := rvz.b.lt
        have t0 := bz.cell 0
        have t1 := bz.cell 1
        have hzs := rvz.bl.size
        have hO' : Wz.ownsRow W4.heap.size 86 2 (.slice U1 0 c1') (0) ([]) := by
          have := rvz.c
          unfold OwnL at this
          exact this
        go_wp2_with (at_builtin; refine wpList_append_lies _ rfl _ _ 23 rfl W4.heap.size 86 i1 _ 2 16 Try.underlying23 hi1 hz10 hz11 hz12 rfl (by decide) (.slice U1 0 c1') (0) ([]) rfl (World.ownsRow.alloc hO' _) ⟨Wz.heap.size, 0, none⟩ 1 1 (crV ⟨x.at_ + lenSum r.ps, x.size⟩) rfl rfl (cells_new _ (crV ⟨x.at_ + lenSum r.ps, x.size⟩) _ _ (by simp)) (by simp [crV, Value.oneCell']) (by decide) (by simp only [maxLen]; omega) (by omega) (by simp; omega) _ rfl ?_; intro g5 cap5 w1 hown' hgrow hat hlt5; have bn1 : Blk w1 n 26 _ := (rvz.b.alloc (.cells (crV ⟨x.at_ + lenSum r.ps, x.size⟩).toArray 86)).grown hgrow (own_ne_blk rvz.c rvz.b (by decide)); have n1 := bn1.frozen 1; have n2 := bn1.cell 1; have nl := bn1.lt)
        have hO5 : OwnL w1 W4.heap.size 86 2 crV (.slice (some ⟨g5, 0, none⟩) (([] : List Cr).length + 1) cap5) (([] : List Cr) ++ [⟨x.at_ + lenSum r.ps, x.size⟩]) := OwnL.snoc hown' rfl
        have rvn := rvz.appC hO5 hgrow
        go_wp2_with fail
        go_roundw
        case rel => exact ⟨k + 1, _, by omega, by go_num, by rw [HJ.out, show caddC [] _ = [] ++ [_] from rfl];  exact rvn, by rw [HJ.out, show caddC [] _ = [] ++ [_] from rfl]; simp; omega⟩
        case measure => simp [intOf]; omega
      · rw [List.concat_eq_append] at hd
        subst hd
        obtain ⟨d, hd'⟩ : ∃ d, d = ds.length := ⟨_, rfl⟩
        have hdl : (ds ++ [l]).length = d + 1 := by simp [hd']
        have hll : (ds ++ [l])[d]? = some l := by simp [hd']
        obtain ⟨gb, hU1, hgb, hgbl, hfz⟩ := rv.c.addr (by omega)
        subst hU1
        obtain ⟨b7, o7, e7, _, l0, l1⟩ := (rvX.c.rd crV_len).at2 hll
        injection e7 with e7
        injection e7 with e7 e8
        subst e7 e8
        simp only [Nat.zero_add] at l0 l1
        rw [hdl] at hlc m1
        have HDL := Lib.hid hdl
        have HD := Lib.hid hd'
        have HLL := Lib.hid hll
        clear hdl hd' hll
        have q1 : IntKind.i64.wrap (((d : Int) + 1) - 1) = (d : Int) := by rw [IntWalk.i64_in _ (by omega)]; omega
        have q2 : 0 ≤ (d : Int) := by omega
        have q3 : ((d : Int)).toNat = d := by omega
        have q4 : (d : Int) < (d : Int) + 1 := by omega
        have q5 : decide ((0 : Int) < (d : Int) + 1) = true := by rw [decide_eq_true_eq]; omega
        have fz1 := hfz (d * 2 + 1)
        go_upto_region 10 with fail
        obtain ⟨WX, hWX⟩ : ∃ X, X = Wq.alloc (.cells #[.int .i64 (x.at_ + lenSum r.ps), .int .i64 x.size] 86) := ⟨_, rfl⟩
        rw [← hWX] at bX rvX l0 l1 ⊢
        obtain ⟨NX, hNX⟩ : ∃ X, X = Wq.heap.size := ⟨_, rfl⟩
        rw [← hNX] at bX ⊢
        have hgx : gb < WX.heap.size := by rw [hWX]; simp; omega
        have fzx : WX.frozen? ⟨gb, d * 2 + 1, none⟩ = false := by rw [hWX]; exact ((balloc Wq _).frozen (p := ⟨gb, d * 2 + 1, none⟩) hgbl).trans fz1
        clear hWX hNX c0 c1 m0 m1 m2 mf
        have m0 := rvX.b.cell 0
        have m1 : WX.cell? ⟨n, 1, none⟩ = some (.slice (some ⟨gb, 0, none⟩) (d + 1) c1') := by rw [← HDL.out]; exact rvX.b.cell 1
        have m2 := rvX.b.cell 2
        have mf := rvX.b.frozen 1
        have bxl := bX.lt
        have ml := rvX.b.lt
        have t0 : WX.cell? ⟨NX, 0, none⟩ = some (.int .i64 (x.at_ + lenSum r.ps)) := bX.cell 0
        have t1 : WX.cell? ⟨NX, 1, none⟩ = some (.int .i64 x.size) := bX.cell 1
        by_cases heq : l.at_ = x.at_ + lenSum r.ps
        · have hq1 : (l.at_ == x.at_ + lenSum r.ps) = true := by simpa using heq
          have HEQ := Lib.hid heq
          clear heq
          refine wp_region_later (by kernel_rfl) (by kernel_rfl) ?_
          repeat (go_big_quiet_step (fail))
          refine wpQuiet_nil ?_
          rintro _ ⟨z, rfl⟩
          have rvz := rvX.below z.b
          have bz := bX.below z.b bX.lt
          have l0z : z.w.cell? ⟨gb, d * 2, none⟩ = some (.int .i64 l.at_) := (z.b.cell (p := ⟨gb, d * 2, none⟩) hgx).trans l0
          have l1z : z.w.cell? ⟨gb, d * 2 + 1, none⟩ = some (.int .i64 l.size) := (z.b.cell (p := ⟨gb, d * 2 + 1, none⟩) hgx).trans l1
          have fzz : z.w.frozen? ⟨gb, d * 2 + 1, none⟩ = false := (z.b.frozen (p := ⟨gb, d * 2 + 1, none⟩) hgx).trans fzx
          have hgz := Nat.lt_of_lt_of_le hgx z.b.size
          obtain ⟨Wz, hWz⟩ : ∃ Wz, Wz = z.w := ⟨_, rfl⟩
          rw [← hWz] at rvz bz l0z l1z fzz hgz ⊢
          clear hWz m0 m1 m2 mf t0 t1 l0 l1 fzx
          have m0 := rvz.b.cell 0
          have m1 : Wz.cell? ⟨n, 1, none⟩ = some (.slice (some ⟨gb, 0, none⟩) (d + 1) c1') := by rw [← HDL.out]; exact rvz.b.cell 1
          have m2 := rvz.b.cell 2
          have ml := rvz.b.lt
          have bzl := bz.lt
          have t0 : Wz.cell? ⟨NX, 0, none⟩ = some (.int .i64 (x.at_ + lenSum r.ps)) := bz.cell 0
          have t1 : Wz.cell? ⟨NX, 1, none⟩ = some (.int .i64 x.size) := bz.cell 1
          go_upto_region 11 with fail
          refine wp_region_later_tail 16 (by kernel_rfl) (by kernel_rfl) ?_
          simp only [List.take_succ_cons, List.take_zero, List.drop_succ_cons, List.drop_zero]
          repeat (go_big_quiet_step (fail))
          refine wpQuiet_nil ?_
          rintro _ ⟨y2, rfl⟩
          have rvy := rvz.below y2.b
          have l1y : y2.w.cell? ⟨gb, d * 2 + 1, none⟩ = some (.int .i64 l.size) := (y2.b.cell (p := ⟨gb, d * 2 + 1, none⟩) hgz).trans l1z
          have fzy : y2.w.frozen? ⟨gb, d * 2 + 1, none⟩ = false := (y2.b.frozen (p := ⟨gb, d * 2 + 1, none⟩) hgz).trans fzz
          have hgy := Nat.lt_of_lt_of_le hgz y2.b.size
          obtain ⟨Wy, hWy⟩ : ∃ Wy, Wy = y2.w := ⟨_, rfl⟩
          rw [← hWy] at rvy l1y fzy hgy ⊢
          clear hWy m0 m1 m2 t0 t1 l0z l1z fzz
          go_wp2_with fail
          go_roundw
          case rel =>
            have o1 := OwnL.store (i := d) (j := 1) (x' := ⟨l.at_, max l.size x.size⟩) (u := .int .i64 (max l.size x.size)) rvy.c rfl crV_len HLL.out (by decide) rfl
            have e9 : (ds ++ [l]).set d ⟨l.at_, max l.size x.size⟩ = ds ++ [⟨l.at_, max l.size x.size⟩] := by rw [HD.out]; simp
            rw [e9] at o1
            refine ⟨k + 1, .slice (some ⟨gb, 0, none⟩) (ds ++ [l]).length c1', by omega, by go_num, ?_, ?_⟩
            · rw [HJ.out, caddC_same ds l _ HEQ.out]
              exact rvy.stepC o1 (grown_set _ _ _ _)
            · rw [HJ.out, caddC_same ds l _ HEQ.out]
              have := HD.out
              simp
              omega
          case measure => simp [intOf]; omega
        · have hq1 : (l.at_ == x.at_ + lenSum r.ps) = false := by simpa using heq
          have HEQ := Lib.hid heq
          clear heq
          refine wp_region_later (by kernel_rfl) (by kernel_rfl) ?_
          repeat (go_big_quiet_step (fail))
          refine wpQuiet_nil ?_
          rintro _ ⟨z, rfl⟩
          have rvz := rvX.below z.b
          have bz := bX.below z.b bX.lt
          obtain ⟨Wz, hWz⟩ : ∃ Wz, Wz = z.w := ⟨_, rfl⟩
          rw [← hWz] at rvz bz ⊢
          clear hWz m0 m1 m2 mf t0 t1 l0 l1 fzx
          have m0 := rvz.b.cell 0
          have m1 : Wz.cell? ⟨n, 1, none⟩ = some (.slice (some ⟨gb, 0, none⟩) (d + 1) c1') := by rw [← HDL.out]; exact rvz.b.cell 1
          have m2 := rvz.b.cell 2
          have ml := rvz.b.lt
          have t0 : Wz.cell? ⟨NX, 0, none⟩ = some (.int .i64 (x.at_ + lenSum r.ps)) := bz.cell 0
          have t1 : Wz.cell? ⟨NX, 1, none⟩ = some (.int .i64 x.size) := bz.cell 1
          have hzs := rvz.bl.size
          rw [HDL.out] at rvz
          have hO' : Wz.ownsRow W4.heap.size 86 2 (.slice (some ⟨gb, 0, none⟩) (d + 1) c1') (d + 1) ((ds ++ [l]).flatMap crV) := by
            have := rvz.c
            unfold OwnL at this
            rwa [HDL.out] at this
          go_wp2_with (at_builtin; refine wpList_append_lies _ rfl _ _ 23 rfl W4.heap.size 86 i1 _ 2 16 Try.underlying23 hi1 hz10 hz11 hz12 rfl (by decide) (.slice (some ⟨gb, 0, none⟩) (d + 1) c1') (d + 1) ((ds ++ [l]).flatMap crV) rfl (World.ownsRow.alloc hO' _) ⟨Wz.heap.size, 0, none⟩ 1 1 (crV ⟨x.at_ + lenSum r.ps, x.size⟩) rfl rfl (cells_new _ (crV ⟨x.at_ + lenSum r.ps, x.size⟩) _ _ (by simp)) (by simp [crV, Value.oneCell']) (by decide) (by simp only [maxLen]; omega) (by omega) (by simp; omega) _ rfl ?_; intro g5 cap5 w1 hown' hgrow hat hlt5; have bn1 : Blk w1 n 26 _ := (rvz.b.alloc (.cells (crV ⟨x.at_ + lenSum r.ps, x.size⟩).toArray 86)).grown hgrow (own_ne_blk rvz.c rvz.b (by decide)); have n1 := bn1.frozen 1; have n2 := bn1.cell 1; have nl := bn1.lt)
          have hO5 : OwnL w1 W4.heap.size 86 2 crV (.slice (some ⟨g5, 0, none⟩) ((ds ++ [l]).length + 1) cap5) ((ds ++ [l]) ++ [⟨x.at_ + lenSum r.ps, x.size⟩]) := by
            have := OwnL.snoc (xs := ds ++ [l]) (x := (⟨x.at_ + lenSum r.ps, x.size⟩ : Cr)) hown' (by rw [HDL.out])
            rw [HDL.out]
            exact this
          have rvn := rvz.appC (v1 := .slice (some ⟨gb, 0, none⟩) (d + 1) c1') hO5 hgrow
          rw [HDL.out] at rvn
          go_wp2_with fail
          go_roundw
          case rel =>
            refine ⟨k + 1, .slice (some ⟨g5, 0, none⟩) (d + 1 + 1) cap5, by omega, by go_num, ?_, ?_⟩
            · rw [HJ.out, caddC_new ds l _ HEQ.out]
              exact rvn
            · rw [HJ.out, caddC_new ds l _ HEQ.out]
              have := HD.out
              simp
              omega
          case measure => simp [intOf]; omega
    · obtain rfl : k = q.cs.length := by omega
      rw [List.take_length] at rv hlc
      have hJq := hJ4.below rv.bl hJ4.lt
      have e0 := hJq.cell 0
      have e1 := hJq.cell 1
      have e2 := hJq.cell 2
      obtain ⟨cs, hcs⟩ : ∃ cs, cs = joinC (lenSum r.ps) r.cs q.cs := ⟨_, rfl⟩
      rw [← hcs] at rv hlc
      have HCS := Lib.hid hcs
      clear hcs
      go_wp2_with fail
      clear e0 e1 e2
      obtain ⟨cs0, hcs0⟩ : ∃ c, c = cs := ⟨_, rfl⟩
      rw [← hcs0] at rv hlc HCS
      clear hcs0
      have rv1 := rv
      have hlc1 := hlc
      clear rv hlc hlt hk
      go_loopw [94] (fun i W => ∃ (k : Nat) (u2 : Value), k ≤ q.js.length ∧ i = .int .i64 k ∧ RvSt W4 W n (.slice V0 (r.ps.length + q.ps.length) v0) u1 u2 (r.ps ++ q.ps) cs0 (joinJ (lenSum r.ps) r.js (q.js.take k)) ∧ (joinJ (lenSum r.ps) r.js (q.js.take k)).length ≤ r.js.length + k) (fun i _ => q.js.length - (intOf i).toNat)
      case atStart => exact ⟨0, _, Nat.zero_le _, rfl, rv1, by simp [joinJ]⟩
      case round =>
        rename World => Wq
        obtain ⟨k, u2, hk, rfl, rv, hlc⟩ := hrel
        have hws := rv.bl.size
        by_cases hlt : k < q.js.length
        · obtain ⟨x, hx⟩ := getElem?_ex hlt
          have hxo := jns_at HV' hx
          have x1 := hxo.1
          have x2 := hxo.2.1
          have e5 : IntKind.i64.wrap (x.at_ + lenSum r.ps) = x.at_ + lenSum r.ps := IntWalk.i64_in _ (by omega)
          have HJ := Lib.hid (joinJ_succ (lenSum r.ps) r.js q.js k x hx)
          obtain ⟨xb, xo, rfl, hbb, c0, c1, c2⟩ := (hq4.j.below rv.bl).at3 hx
          clear hx hxo
          obtain ⟨cs, hcs⟩ : ∃ cs, cs = joinJ (lenSum r.ps) r.js (q.js.take k) := ⟨_, rfl⟩
          rw [← hcs] at rv hlc HJ
          clear hcs
          obtain ⟨U1, c1', rfl⟩ := rv.j.form
          have m0 := rv.b.cell 0
          have m1 := rv.b.cell 1
          have m2 := rv.b.cell 2
          have mf := rv.b.frozen 2
          have ml := rv.b.lt
          have bX : Blk (Wq.alloc (.cells #[.int .i64 (x.at_ + lenSum r.ps), .int .i64 x.arms, .int .i64 x.way] 88)) Wq.heap.size 88 #[.int .i64 (x.at_ + lenSum r.ps), .int .i64 x.arms, .int .i64 x.way] := Blk.new _ _ _
          have rvX := rv.below (balloc Wq (.cells #[.int .i64 (x.at_ + lenSum r.ps), .int .i64 x.arms, .int .i64 x.way] 88))
          rcases List.eq_nil_or_concat cs with rfl | ⟨ds, l, hd⟩
          · simp only [List.length_nil] at m2 rvX ⊢
            go_upto_region 19 with fail
            obtain ⟨WX, hWX⟩ : ∃ X, X = Wq.alloc (.cells #[.int .i64 (x.at_ + lenSum r.ps), .int .i64 x.arms, .int .i64 x.way] 88) := ⟨_, rfl⟩
            rw [← hWX] at bX rvX ⊢
            obtain ⟨NX, hNX⟩ : ∃ X, X = Wq.heap.size := ⟨_, rfl⟩
            rw [← hNX] at bX ⊢
            clear hWX hNX c0 c1 c2 m0 m1 m2 mf
            have m0 := rvX.b.cell 0
            have m1 := rvX.b.cell 1
            have m2 := rvX.b.cell 2
            have mf := rvX.b.frozen 2
            have bxl := bX.lt
            have ml := rvX.b.lt
            refine wp_region_later (by kernel_rfl) (by kernel_rfl) ?_
            repeat (go_big_quiet_step (fail))
            refine wpQuiet_nil ?_
            rintro _ ⟨z, rfl⟩
            have rvz := rvX.below z.b
            have bz := bX.below z.b bX.lt
            obtain ⟨Wz, hWz⟩ : ∃ Wz, Wz = z.w := ⟨_, rfl⟩
            rw [← hWz] at rvz bz ⊢
            clear hWz m0 m1 m2 mf
            have m0 := rvz.b.cell 0
            have m1 := rvz.b.cell 1
            have m2 := rvz.b.cell 2
            have ml := rvz.b.lt
            have t0 := bz.cell 0
            have t1 := bz.cell 1
            have t2 := bz.cell 2
            have hzs := rvz.bl.size
            have hO' : Wz.ownsRow W4.heap.size 88 3 (.slice U1 0 c1') (0) ([]) := by
              have := rvz.j
              unfold OwnL at this
              exact this
            go_wp2_with (at_builtin; refine wpList_append_lies _ rfl _ _ 24 rfl W4.heap.size 88 i2 _ 3 24 Try.underlying24 hi2 hz20 hz21 hz22 rfl (by decide) (.slice U1 0 c1') (0) ([]) rfl (World.ownsRow.alloc hO' _) ⟨Wz.heap.size, 0, none⟩ 1 1 (jnV ⟨x.at_ + lenSum r.ps, x.arms, x.way⟩) rfl rfl (cells_new _ (jnV ⟨x.at_ + lenSum r.ps, x.arms, x.way⟩) _ _ (by simp)) (by simp [jnV, Value.oneCell']) (by decide) (by simp only [maxLen]; omega) (by omega) (by simp; omega) _ rfl ?_; intro g5 cap5 w1 hown' hgrow hat hlt5; have bn1 : Blk w1 n 26 _ := (rvz.b.alloc (.cells (jnV ⟨x.at_ + lenSum r.ps, x.arms, x.way⟩).toArray 88)).grown hgrow (own_ne_blk rvz.j rvz.b (by decide)); have n1 := bn1.frozen 2; have n2 := bn1.cell 2; have nl := bn1.lt)
            have hO5 : OwnL w1 W4.heap.size 88 3 jnV (.slice (some ⟨g5, 0, none⟩) (([] : List Jn).length + 1) cap5) (([] : List Jn) ++ [⟨x.at_ + lenSum r.ps, x.arms, x.way⟩]) := OwnL.snoc hown' rfl
            have rvn := rvz.appJ hO5 hgrow
            go_wp2_with fail
            go_roundw
            case rel => exact ⟨k + 1, _, by omega, by go_num, by rw [HJ.out, show caddJ [] _ = [] ++ [_] from rfl];  exact rvn, by rw [HJ.out, show caddJ [] _ = [] ++ [_] from rfl]; simp; omega⟩
            case measure => simp [intOf]; omega
          · rw [List.concat_eq_append] at hd
            subst hd
            obtain ⟨d, hd'⟩ : ∃ d, d = ds.length := ⟨_, rfl⟩
            have hdl : (ds ++ [l]).length = d + 1 := by simp [hd']
            have hll : (ds ++ [l])[d]? = some l := by simp [hd']
            obtain ⟨gb, hU1, hgb, hgbl, hfz⟩ := rv.j.addr (by omega)
            subst hU1
            obtain ⟨b7, o7, e7, _, l0, l1, l2⟩ := (rvX.j.rd jnV_len).at3 hll
            injection e7 with e7
            injection e7 with e7 e8
            subst e7 e8
            simp only [Nat.zero_add] at l0 l1 l2
            rw [hdl] at hlc m2
            have HDL := Lib.hid hdl
            have HD := Lib.hid hd'
            have HLL := Lib.hid hll
            clear hdl hd' hll
            have q1 : IntKind.i64.wrap (((d : Int) + 1) - 1) = (d : Int) := by rw [IntWalk.i64_in _ (by omega)]; omega
            have q2 : 0 ≤ (d : Int) := by omega
            have q3 : ((d : Int)).toNat = d := by omega
            have q4 : (d : Int) < (d : Int) + 1 := by omega
            have q5 : decide ((0 : Int) < (d : Int) + 1) = true := by rw [decide_eq_true_eq]; omega
            have fz1 := hfz (d * 3 + 1)
            go_upto_region 19 with fail
            obtain ⟨WX, hWX⟩ : ∃ X, X = Wq.alloc (.cells #[.int .i64 (x.at_ + lenSum r.ps), .int .i64 x.arms, .int .i64 x.way] 88) := ⟨_, rfl⟩
            rw [← hWX] at bX rvX l0 l1 ⊢
            obtain ⟨NX, hNX⟩ : ∃ X, X = Wq.heap.size := ⟨_, rfl⟩
            rw [← hNX] at bX ⊢
            have hgx : gb < WX.heap.size := by rw [hWX]; simp; omega
            have fzx : WX.frozen? ⟨gb, d * 3 + 1, none⟩ = false := by rw [hWX]; exact ((balloc Wq _).frozen (p := ⟨gb, d * 3 + 1, none⟩) hgbl).trans fz1
            clear hWX hNX c0 c1 c2 m0 m1 m2 mf
            have m0 := rvX.b.cell 0
            have m1 := rvX.b.cell 1
            have m2 : WX.cell? ⟨n, 2, none⟩ = some (.slice (some ⟨gb, 0, none⟩) (d + 1) c1') := by rw [← HDL.out]; exact rvX.b.cell 2
            have mf := rvX.b.frozen 2
            have bxl := bX.lt
            have ml := rvX.b.lt
            have t0 : WX.cell? ⟨NX, 0, none⟩ = some (.int .i64 (x.at_ + lenSum r.ps)) := bX.cell 0
            by_cases heq : l.at_ = x.at_ + lenSum r.ps
            · have hq1 : (l.at_ == x.at_ + lenSum r.ps) = true := by simpa using heq
              have HEQ := Lib.hid heq
              clear heq
              refine wp_region_later (by kernel_rfl) (by kernel_rfl) ?_
              repeat (go_big_quiet_step (fail))
              refine wpQuiet_nil ?_
              rintro _ ⟨z, rfl⟩
              have rvz := rvX.below z.b
              have bz := bX.below z.b bX.lt
              have l0z : z.w.cell? ⟨gb, d * 3, none⟩ = some (.int .i64 l.at_) := (z.b.cell (p := ⟨gb, d * 3, none⟩) hgx).trans l0
              have fzz : z.w.frozen? ⟨gb, d * 3 + 1, none⟩ = false := (z.b.frozen (p := ⟨gb, d * 3 + 1, none⟩) hgx).trans fzx
              have hgz := Nat.lt_of_lt_of_le hgx z.b.size
              obtain ⟨Wz, hWz⟩ : ∃ Wz, Wz = z.w := ⟨_, rfl⟩
              rw [← hWz] at rvz bz l0z fzz hgz ⊢
              clear hWz m0 m1 m2 mf t0 l0 l1 l2 fzx
              have m0 := rvz.b.cell 0
              have m1 := rvz.b.cell 1
              have m2 : Wz.cell? ⟨n, 2, none⟩ = some (.slice (some ⟨gb, 0, none⟩) (d + 1) c1') := by rw [← HDL.out]; exact rvz.b.cell 2
              have ml := rvz.b.lt
              have bzl := bz.lt
              have t0 : Wz.cell? ⟨NX, 0, none⟩ = some (.int .i64 (x.at_ + lenSum r.ps)) := bz.cell 0
              have t1 : Wz.cell? ⟨NX, 1, none⟩ = some (.int .i64 x.arms) := bz.cell 1
              have t2 : Wz.cell? ⟨NX, 2, none⟩ = some (.int .i64 x.way) := bz.cell 2
              go_wp2_with fail
              go_roundw
              case rel =>
                refine ⟨k + 1, .slice (some ⟨gb, 0, none⟩) (ds ++ [l]).length c1', by omega, by go_num, ?_, ?_⟩
                · rw [HJ.out, caddJ_same ds l _ HEQ.out]
                  exact rvz
                · rw [HJ.out, caddJ_same ds l _ HEQ.out]
                  have := HDL.out
                  omega
              case measure => simp [intOf]; omega
            · have hq1 : (l.at_ == x.at_ + lenSum r.ps) = false := by simpa using heq
              have HEQ := Lib.hid heq
              clear heq
              refine wp_region_later (by kernel_rfl) (by kernel_rfl) ?_
              repeat (go_big_quiet_step (fail))
              refine wpQuiet_nil ?_
              rintro _ ⟨z, rfl⟩
              have rvz := rvX.below z.b
              have bz := bX.below z.b bX.lt
              obtain ⟨Wz, hWz⟩ : ∃ Wz, Wz = z.w := ⟨_, rfl⟩
              rw [← hWz] at rvz bz ⊢
              clear hWz m0 m1 m2 mf t0 l0 l1 l2 fzx
              have m0 := rvz.b.cell 0
              have m1 := rvz.b.cell 1
              have m2 : Wz.cell? ⟨n, 2, none⟩ = some (.slice (some ⟨gb, 0, none⟩) (d + 1) c1') := by rw [← HDL.out]; exact rvz.b.cell 2
              have ml := rvz.b.lt
              have t0 : Wz.cell? ⟨NX, 0, none⟩ = some (.int .i64 (x.at_ + lenSum r.ps)) := bz.cell 0
              have t1 : Wz.cell? ⟨NX, 1, none⟩ = some (.int .i64 x.arms) := bz.cell 1
              have t2 : Wz.cell? ⟨NX, 2, none⟩ = some (.int .i64 x.way) := bz.cell 2
              have hzs := rvz.bl.size
              rw [HDL.out] at rvz
              have hO' : Wz.ownsRow W4.heap.size 88 3 (.slice (some ⟨gb, 0, none⟩) (d + 1) c1') (d + 1) ((ds ++ [l]).flatMap jnV) := by
                have := rvz.j
                unfold OwnL at this
                rwa [HDL.out] at this
              go_wp2_with (at_builtin; refine wpList_append_lies _ rfl _ _ 24 rfl W4.heap.size 88 i2 _ 3 24 Try.underlying24 hi2 hz20 hz21 hz22 rfl (by decide) (.slice (some ⟨gb, 0, none⟩) (d + 1) c1') (d + 1) ((ds ++ [l]).flatMap jnV) rfl (World.ownsRow.alloc hO' _) ⟨Wz.heap.size, 0, none⟩ 1 1 (jnV ⟨x.at_ + lenSum r.ps, x.arms, x.way⟩) rfl rfl (cells_new _ (jnV ⟨x.at_ + lenSum r.ps, x.arms, x.way⟩) _ _ (by simp)) (by simp [jnV, Value.oneCell']) (by decide) (by simp only [maxLen]; omega) (by omega) (by simp; omega) _ rfl ?_; intro g5 cap5 w1 hown' hgrow hat hlt5; have bn1 : Blk w1 n 26 _ := (rvz.b.alloc (.cells (jnV ⟨x.at_ + lenSum r.ps, x.arms, x.way⟩).toArray 88)).grown hgrow (own_ne_blk rvz.j rvz.b (by decide)); have n1 := bn1.frozen 2; have n2 := bn1.cell 2; have nl := bn1.lt)
              have hO5 : OwnL w1 W4.heap.size 88 3 jnV (.slice (some ⟨g5, 0, none⟩) ((ds ++ [l]).length + 1) cap5) ((ds ++ [l]) ++ [⟨x.at_ + lenSum r.ps, x.arms, x.way⟩]) := by
                have := OwnL.snoc (xs := ds ++ [l]) (x := (⟨x.at_ + lenSum r.ps, x.arms, x.way⟩ : Jn)) hown' (by rw [HDL.out])
                rw [HDL.out]
                exact this
              have rvn := rvz.appJ (v2 := .slice (some ⟨gb, 0, none⟩) (d + 1) c1') hO5 hgrow
              rw [HDL.out] at rvn
              go_wp2_with fail
              go_roundw
              case rel =>
                refine ⟨k + 1, .slice (some ⟨g5, 0, none⟩) (d + 1 + 1) cap5, by omega, by go_num, ?_, ?_⟩
                · rw [HJ.out, caddJ_new ds l _ HEQ.out]
                  exact rvn
                · rw [HJ.out, caddJ_new ds l _ HEQ.out]
                  have := HD.out
                  simp
                  omega
              case measure => simp [intOf]; omega
        · obtain rfl : k = q.js.length := by omega
          rw [List.take_length] at rv hlc
          have hKq := hK4.below rv.bl hK4.lt
          obtain ⟨js, hjs⟩ : ∃ js, js = joinJ (lenSum r.ps) r.js q.js := ⟨_, rfl⟩
          rw [← hjs] at rv hlc
          have HJR : Hid (joinR r q = ⟨r.ps ++ q.ps, cs0, js⟩) := Lib.hid (by rw [HCS.out, hjs]; rfl)
          clear hjs
          have hokq := (validB_ok HV'.out).1
          have HLL : Hid (lensOk (⟨r.ps ++ q.ps, cs0, js⟩ : Road).ps 100000) := Lib.hid (fun p hp => by
            rcases List.mem_append.1 hp with hp | hp
            · exact ⟨(hok.lens p hp).1, by have := (hok.lens p hp).2; omega⟩
            · exact ⟨(hokq.lens p hp).1, by have := (hokq.lens p hp).2; omega⟩)
          have hl1 : (⟨r.ps ++ q.ps, cs0, js⟩ : Road).ps.length ≤ 100000 := by simp; omega
          have hl2 : (⟨r.ps ++ q.ps, cs0, js⟩ : Road).cs.length ≤ 100000 := by simp; omega
          have hl3 : (⟨r.ps ++ q.ps, cs0, js⟩ : Road).js.length ≤ 100000 := by simp; omega
          obtain ⟨U1, d1, rfl⟩ := rv.c.form
          obtain ⟨U2, d2, rfl⟩ := rv.j.form
          have hRd : RdRoad Wq ⟨r.ps ++ q.ps, cs0, js⟩ V0 U1 U2 := ⟨rv.p.rd pcV_len, rv.c.rd crV_len, rv.j.rd jnV_len, by simp; omega, by simp; omega, by simp; omega⟩
          have m0 := rv.b.cell 0
          have m1 := rv.b.cell 1
          have m2 := rv.b.cell 2
          have ml := rv.b.lt
          cases hf : fitsR ⟨r.ps ++ q.ps, cs0, js⟩
          · have hf := hf
            have hC : Calls Try.prog 68 #[.agg #[.slice V0 (r.ps.length + q.ps.length) v0, .slice U1 cs0.length d1, .slice U2 js.length d2]] Wq (fun e w' => e = .returned (.tuple #[.agg #[.slice none 0 0, .slice none 0 0, .slice none 0 0], .int .i64 4]) ∧ Below Wq.heap.size Wq w') := by
              have := bounded_long ⟨r.ps ++ q.ps, cs0, js⟩ V0 U1 U2 v0 d1 d2 Wq hRd HLL.out hl1 hl2 hl3 hf
              simp only [List.length_append] at this
              exact this
            go_wp2_with fail
            refine hC.mono ?_
            rintro e Wb ⟨rfl, hbb⟩
            have rvb := rv.below hbb
            have hKb := hKq.below hbb hKq.lt
            have hIb : Below w.heap.size w Wb := bthen (hI4.below.trans (rv.bl.mono hI4.below.size)) hbb
            have k0 := hKb.frozen 0
            have k1 := hKb.frozen 1
            have k2 := hKb.frozen 2
            have e0 := hKb.cell 0
            have e1 := hKb.cell 1
            have e2 := hKb.cell 2
            have kl := hKb.lt
            have hKz := ((hKb.set_ 0 (.slice none 0 0)).set_ 1 (.slice none 0 0)).set_ 2 (.slice none 0 0)
            have hBz : Below w.heap.size w (((Wb.setCell ⟨w.heap.size + 2, 0, none⟩ (.slice none 0 0)).setCell ⟨w.heap.size + 2, 1, none⟩ (.slice none 0 0)).setCell ⟨w.heap.size + 2, 2, none⟩ (.slice none 0 0)) := ((hIb.setCell (p := ⟨w.heap.size + 2, 0, none⟩) (by simp) _).setCell (p := ⟨w.heap.size + 2, 1, none⟩) (by simp) _).setCell (p := ⟨w.heap.size + 2, 2, none⟩) (by simp) _
            have r0 := hKz.cell 0
            have r1 := hKz.cell 1
            have r2 := hKz.cell 2
            have rl := hKz.lt
            go_wp2_with fail
            refine bodyPost_ret (v := .tuple #[.agg #[.slice none 0 0, .slice none 0 0, .slice none 0 0], .int .i64 4]) ?_ rfl ⟨.inr ⟨by rw [HJR.out]; exact hf, rfl⟩, hBz⟩
            simp [results, Try.results39, go_sem, r0, r1, r2, rl]
          · have hf := hf
            have hC : Calls Try.prog 68 #[.agg #[.slice V0 (r.ps.length + q.ps.length) v0, .slice U1 cs0.length d1, .slice U2 js.length d2]] Wq (fun e w' => e = .returned (.tuple #[.agg #[.slice V0 (r.ps.length + q.ps.length) v0, .slice U1 cs0.length d1, .slice U2 js.length d2], .int .i64 0]) ∧ Below Wq.heap.size Wq w') := by
              have := bounded_ok ⟨r.ps ++ q.ps, cs0, js⟩ V0 U1 U2 v0 d1 d2 Wq hRd HLL.out hl1 hl2 hl3 hf
              simp only [List.length_append] at this
              exact this
            go_wp2_with fail
            refine hC.mono ?_
            rintro e Wb ⟨rfl, hbb⟩
            have rvb := rv.below hbb
            have hKb := hKq.below hbb hKq.lt
            have hIb : Below w.heap.size w Wb := bthen (hI4.below.trans (rv.bl.mono hI4.below.size)) hbb
            have k0 := hKb.frozen 0
            have k1 := hKb.frozen 1
            have k2 := hKb.frozen 2
            have e0 := hKb.cell 0
            have e1 := hKb.cell 1
            have e2 := hKb.cell 2
            have kl := hKb.lt
            have hKz := ((hKb.set_ 0 (.slice V0 (r.ps.length + q.ps.length) v0)).set_ 1 (.slice U1 cs0.length d1)).set_ 2 (.slice U2 js.length d2)
            have hBz : Below w.heap.size w (((Wb.setCell ⟨w.heap.size + 2, 0, none⟩ (.slice V0 (r.ps.length + q.ps.length) v0)).setCell ⟨w.heap.size + 2, 1, none⟩ (.slice U1 cs0.length d1)).setCell ⟨w.heap.size + 2, 2, none⟩ (.slice U2 js.length d2)) := ((hIb.setCell (p := ⟨w.heap.size + 2, 0, none⟩) (by simp) _).setCell (p := ⟨w.heap.size + 2, 1, none⟩) (by simp) _).setCell (p := ⟨w.heap.size + 2, 2, none⟩) (by simp) _
            have hgz := World.grownBy.trans (World.grownBy.trans (grown_set Wb (w.heap.size + 2) 0 (.slice V0 (r.ps.length + q.ps.length) v0)) (grown_set _ (w.heap.size + 2) 1 (.slice U1 cs0.length d1))) (grown_set _ (w.heap.size + 2) 2 (.slice U2 js.length d2))
            have hRz : OwnR (((Wb.setCell ⟨w.heap.size + 2, 0, none⟩ (.slice V0 (r.ps.length + q.ps.length) v0)).setCell ⟨w.heap.size + 2, 1, none⟩ (.slice U1 cs0.length d1)).setCell ⟨w.heap.size + 2, 2, none⟩ (.slice U2 js.length d2)) w.heap.size (.slice V0 (r.ps.length + q.ps.length) v0) (.slice U1 cs0.length d1) (.slice U2 js.length d2) (joinR r q) := by
              rw [HJR.out]
              exact OwnR.base_mono ⟨rvb.p.other hgz (.inr (own_ne_blk rvb.p hKb (by decide)).symm), rvb.c.other hgz (.inr (own_ne_blk rvb.c hKb (by decide)).symm), rvb.j.other hgz (.inr (own_ne_blk rvb.j hKb (by decide)).symm)⟩ hI4.below.size
            have r0 := hKz.cell 0
            have r1 := hKz.cell 1
            have r2 := hKz.cell 2
            have rl := hKz.lt
            go_wp2_with fail
            refine bodyPost_ret (v := .tuple #[.agg #[.slice V0 (r.ps.length + q.ps.length) v0, .slice U1 cs0.length d1, .slice U2 js.length d2], .int .i64 0]) ?_ rfl ⟨.inl ⟨by rw [HJR.out]; exact hf, _, _, _, rfl, hRz⟩, hBz⟩
            simp [results, Try.results39, go_sem, r0, r1, r2, rl]

end Go.Proofs.Ytbdjmaogbpdkpaa

import Derived.Test.YtbdjmaogbpdkpaaRPcs
import Derived.Test.YtbdjmaogbpdkpaaRRev
import Derived.Deep.Upon
/-
  The reference's normal road.
-/
namespace Go.Proofs.Ytbdjmaogbpdkpaa
open Go Go.RowKit Go.Shelf
set_option linter.unusedVariables false
set_option linter.unusedSimpArgs false
attribute [local go_sem] Later.cell Later.cell1 Later.new1 Later.frozen Later.frozen1

/-- An append of a whole slice onto nil. -/
theorem app_nil {α : Type} {P : Program} (t ty e : TypeId) (i : TypeInfo) (z : Value) (k bytes : Nat) (f : α → List Value) (ht : P.underlying t = some (.slice e)) (hi : P.info? e = some i) (hz : i.zero = some z)
    (hsize : i.size = k) (hby : i.bytes = bytes) (hzs : z.cells.size = k) (hsz : 0 < k) (hk : ∀ x, (f x).length = k) (xs : List α) (h1 : ∀ u ∈ xs.flatMap f, u.oneCell' = true) (hn : xs.length ≤ 1000000) (hb : bytes ≤ 1000) (A : Option Addr) (c : Nat) (w : World) (h : Rd k f w A xs) :
    ∃ v w', (Builtin.append_ #[t, t] ty #[.slice none 0 0, .slice A xs.length c]).run P w = .ok v w' ∧ OwnL w' w.heap.size e k f v xs ∧ Below w.heap.size w w' := by
  cases A with
  | none =>
    have h0 : xs = [] := by
      cases xs with
      | nil => rfl
      | cons x xs =>
        obtain ⟨b, o, hA, _⟩ := h 0 x rfl
        cases hA
    subst h0
    exact ⟨_, _, run_append_nothing w t t ty e i ht hi none 0 0 (Nat.le_refl _) _ (Src.ofNil _ ht c), OwnL.nil _ _ _ _ _, Below.refl _ _⟩
  | some ad =>
    obtain ⟨v', w', hr, h2, h3, _, h5⟩ := run_append_own_at (P := P) w w.heap.size t ty e i z k bytes ht hi hz hsize hby hzs hsz (.slice none 0 0) 0 [] (World.ownsRow_nil _ _ _ _) ad xs.length c (xs.flatMap f) (flat_len hk xs) (h.news hk hsz) h1 (by simp only [maxLen]; omega) (by
      have := Nat.mul_le_mul hn hb
      rw [Nat.zero_add]; exact Nat.le_trans this (by decide)) (Nat.le_refl _)
    rw [Nat.zero_add, List.nil_append] at h2
    exact ⟨v', w', hr, h2, (Below.refl _ _).grown h3 (Nat.le_refl _) (fun q hq => by cases hq)⟩
theorem makes_app {α : Type} {P : Program} {o : Oper} {a : Act} {w : World} {B : Nat} (s x : Operand) (t e : TypeId) (i : TypeInfo) (z : Value) (k bytes : Nat) (f : α → List Value) (ho : o.op = .call { callee := .builtin .append, args := #[s, x], argTypes := #[t, t] }) (ht : P.underlying t = some (.slice e)) (hi : P.info? e = some i) (hz : i.zero = some z)
    (hsize : i.size = k) (hby : i.bytes = bytes) (hzs : z.cells.size = k) (hsz : 0 < k) (hk : ∀ x, (f x).length = k) (xs : List α) (h1 : ∀ u ∈ xs.flatMap f, u.oneCell' = true) (hn : xs.length ≤ 1000000) (hb : bytes ≤ 1000) (A : Option Addr) (c : Nat)
    (hs : a.eval s = .slice none 0 0) (hx : a.eval x = .slice A xs.length c) (h : Rd k f w A xs) (hB : B ≤ w.heap.size) : makesAt P o a w (fun v W => OwnL W B e k f v xs) := by
  obtain ⟨v', w', hr, h2, h3⟩ := app_nil t o.type e i z k bytes f ht hi hz hsize hby hzs hsz hk xs h1 hn hb A c w h
  unfold makesAt execOp
  simp only [ho, resolve, invoke, builtin, Sem.run_bind, Sem.run_pure, Result.andThen_ok, List.map_toArray, List.map_cons, List.map_nil, hs, hx, hr]
  exact ⟨h2.base_mono hB, h3⟩

/-- The reference's normal road. -/
def rnmR (r : Road) : Road := ⟨pcsL r.ps, r.cs, r.js⟩

set_option maxRecDepth 100000 in
set_option maxHeartbeats 8000000 in
theorem rnormal_any (r : Road) (A B C : Option Addr) (a b c : Nat) (w : World) (h : RdRoad w r A B C) (hok : okLen r.ps) (hn : r.ps.length ≤ 2000) (hcl : r.cs.length ≤ 1000) (hjl : r.js.length ≤ 1000) :
    Calls Try.prog 36 #[.agg #[.slice A r.ps.length a, .slice B r.cs.length b, .slice C r.js.length c]] w fun e w' => (∃ v0 v1 v2, e = .returned (.agg #[v0, v1, v2]) ∧ OwnR w' w.heap.size v0 v1 v2 (rnmR r)) ∧ Below w.heap.size w w' := by
  obtain ⟨i1, hi1, hz10, hz11, hz12⟩ := info_parts Try.info86
  obtain ⟨i2, hi2, hz20, hz21, hz22⟩ := info_parts Try.info88
  have HOK := Lib.hid hok
  clear hok
  have hR0 : InR w ((w.alloc (.cells #[.slice A r.ps.length a, .slice B r.cs.length b, .slice C r.js.length c] 26)).alloc (.cells #[.slice none 0 0, .slice none 0 0, .slice none 0 0] 26)) r A B C a b c := (InR.new w r A B C a b c).step (balloc _ _)
  have hK0 : Blk ((w.alloc (.cells #[.slice A r.ps.length a, .slice B r.cs.length b, .slice C r.js.length c] 26)).alloc (.cells #[.slice none 0 0, .slice none 0 0, .slice none 0 0] 26)) (w.heap.size + 1) 26 #[.slice none 0 0, .slice none 0 0, .slice none 0 0] := blk_at _ _ _ _ (by simp)
  go_enter Try.func36, Try.ntmps36
  go_upto_region 1 with fail
  obtain ⟨W0, hW0⟩ : ∃ W0, W0 = (w.alloc (.cells #[.slice A r.ps.length a, .slice B r.cs.length b, .slice C r.js.length c] 26)).alloc (.cells #[.slice none 0 0, .slice none 0 0, .slice none 0 0] 26) := ⟨_, rfl⟩
  rw [← hW0] at hR0 hK0 ⊢
  clear hW0
  have b0 := hR0.box.2 0 _ rfl
  have b1 := hR0.box.2 1 _ rfl
  have b2 := hR0.box.2 2 _ rfl
  have bs := hR0.box.1
  have hrd := hR0.rd h
  refine wp_region_mk_tail 10 (fun j => match j with | 2 => some (fun v W => OwnL W W0.heap.size 52 5 pcV v (pcsL r.ps)) | 5 => some (fun v W => OwnL W W0.heap.size 86 2 crV v r.cs) | 8 => some (fun v W => OwnL W W0.heap.size 88 3 jnV v r.js) | _ => none) (by kernel_rfl) (by kernel_rfl) ?hmk ?_
  case hmk =>
    intro j S hS v
    split at hS <;> first | (injection hS with hS; subst hS; exact stays_own _ _ _ _ _ _) | cases hS
  simp only [List.take_succ_cons, List.take_zero, List.drop_succ_cons, List.drop_zero]
  refine wpM_reads [_, _] (_ :: _) _ _ _ (by kernel_rfl) (by intro j hj; rcases (show j = 0 ∨ j = 1 by simp at hj; omega) with rfl | rfl <;> exact ⟨rfl, rfl⟩) ?_
  repeat (go_big_quiet_step (fail))
  refine wpQuiet_nil ?_
  refine wpM_make rfl rfl rfl ?_ ?_
  · intro x hx
    unfold makesAt
    go_simp
    exact (rpieces_any r.ps A a x (hrd.p.below hx) HOK.out (by omega)).mono fun e w' ⟨⟨v, h1, h2⟩, hb⟩ => ⟨v, h1, h2.base_mono hx.size, hb⟩
  rintro v ⟨x, hx, hO0⟩
  go_simp
  obtain ⟨VA, va, rfl⟩ := hO0.form
  refine wpM_reads [_, _] (_ :: _) _ _ _ (by kernel_rfl) (by intro j hj; rcases (show j = 0 ∨ j = 1 by simp at hj; omega) with rfl | rfl <;> exact ⟨rfl, rfl⟩) ?_
  repeat (go_big_quiet_step (fail))
  refine wpQuiet_nil ?_
  refine wpM_make rfl rfl rfl ?_ ?_
  · intro x hx
    exact makes_app _ _ 23 86 i1 _ 2 16 crV rfl Try.underlying23 hi1 hz10 hz11 hz12 rfl (by decide) crV_len r.cs (crV_one r.cs) (by omega) (by decide) B b rfl rfl (hrd.c.below hx) hx.size
  rintro v ⟨x, hx, hO1⟩
  go_simp
  obtain ⟨VB, vb, rfl⟩ := hO1.form
  refine wpM_reads [_, _] (_ :: _) _ _ _ (by kernel_rfl) (by intro j hj; rcases (show j = 0 ∨ j = 1 by simp at hj; omega) with rfl | rfl <;> exact ⟨rfl, rfl⟩) ?_
  repeat (go_big_quiet_step (fail))
  refine wpQuiet_nil ?_
  refine wpM_make rfl rfl rfl ?_ ?_
  · intro x hx
    exact makes_app _ _ 24 88 i2 _ 3 24 jnV rfl Try.underlying24 hi2 hz20 hz21 hz22 rfl (by decide) jnV_len r.js (jnV_one r.js) (by omega) (by decide) C c rfl rfl (hrd.j.below hx) hx.size
  rintro v ⟨x, hx, hO2⟩
  go_simp
  obtain ⟨VC, vc, rfl⟩ := hO2.form
  refine wpM_reads [_] [] _ _ _ (by kernel_rfl) (by intro j hj; rcases (show j = 0 by simp at hj; omega) with rfl <;> exact ⟨rfl, rfl⟩) ?_
  repeat (go_big_quiet_step (fail))
  refine wpQuiet_nil ?_
  refine wpM_nil ?_
  rintro W4 hb4 ⟨⟨h0, h1⟩, h2⟩
  clear hO0 hO1 hO2 hx b0 b1 b2 bs
  have hI4 := hR0.step hb4
  have hK4 := hK0.below hb4 hK0.lt
  have k0 := hK4.frozen 0
  have k1 := hK4.frozen 1
  have k2 := hK4.frozen 2
  have e0 := hK4.cell 0
  have e1 := hK4.cell 1
  have e2 := hK4.cell 2
  have kl := hK4.lt
  have hws := hR0.below.size
  have hOR : OwnR W4 w.heap.size (.slice VA (pcsL r.ps).length va) (.slice VB r.cs.length vb) (.slice VC r.js.length vc) (rnmR r) := ⟨h0.base_mono hws, h1.base_mono hws, h2.base_mono hws⟩
  have hKz := ((hK4.set_ 0 (.slice VA (pcsL r.ps).length va)).set_ 1 (.slice VB r.cs.length vb)).set_ 2 (.slice VC r.js.length vc)
  have hg := World.grownBy.trans (World.grownBy.trans (grown_set W4 (w.heap.size + 1) 0 (.slice VA (pcsL r.ps).length va)) (grown_set _ (w.heap.size + 1) 1 (.slice VB r.cs.length vb))) (grown_set _ (w.heap.size + 1) 2 (.slice VC r.js.length vc))
  have hR : OwnR (((W4.setCell ⟨w.heap.size + 1, 0, none⟩ (.slice VA (pcsL r.ps).length va)).setCell ⟨w.heap.size + 1, 1, none⟩ (.slice VB r.cs.length vb)).setCell ⟨w.heap.size + 1, 2, none⟩ (.slice VC r.js.length vc)) w.heap.size (.slice VA (pcsL r.ps).length va) (.slice VB r.cs.length vb) (.slice VC r.js.length vc) (rnmR r) :=
    ⟨hOR.p.other hg (.inr (own_ne_blk hOR.p hK4 (by decide)).symm), hOR.c.other hg (.inr (own_ne_blk hOR.c hK4 (by decide)).symm), hOR.j.other hg (.inr (own_ne_blk hOR.j hK4 (by decide)).symm)⟩
  have hB : Below w.heap.size w (((W4.setCell ⟨w.heap.size + 1, 0, none⟩ (.slice VA (pcsL r.ps).length va)).setCell ⟨w.heap.size + 1, 1, none⟩ (.slice VB r.cs.length vb)).setCell ⟨w.heap.size + 1, 2, none⟩ (.slice VC r.js.length vc)) := ((hI4.below.setCell (p := ⟨w.heap.size + 1, 0, none⟩) (by simp) _).setCell (p := ⟨w.heap.size + 1, 1, none⟩) (by simp) _).setCell (p := ⟨w.heap.size + 1, 2, none⟩) (by simp) _
  have r0 := hKz.cell 0
  have r1 := hKz.cell 1
  have r2 := hKz.cell 2
  have rl := hKz.lt
  go_wp2_with fail
  refine bodyPost_ret (v := .agg #[.slice VA (pcsL r.ps).length va, .slice VB r.cs.length vb, .slice VC r.js.length vc]) ?_ rfl ⟨⟨_, _, _, rfl, hR⟩, hB⟩
  simp [results, Try.results36, go_sem, r0, r1, r2, rl]

end Go.Proofs.Ytbdjmaogbpdkpaa

import Derived.Test.YtbdjmaogbpdkpaaRNorm
import Derived.Lib.AppendZerosOnto
/-
  slices.Grow of nil, slices.Concat of two.
-/
namespace Go.Proofs.Ytbdjmaogbpdkpaa
open Go Go.RowKit Go.Shelf
set_option linter.unusedVariables false
set_option linter.unusedSimpArgs false

theorem wpList_zeros {ops : Array Oper} {rest : List Oper} {o : Oper} {a : Act} {w : World} {Q : Exit → Act → World → Prop} (hgd : o.guard = none) (s x : Operand) (ho : o.op = .call { callee := .builtin .append, args := #[s, x], argTypes := #[22, 3] }) (m : Nat) (h0 : 0 < m) (hm : m ≤ 1000000)
    (hs : a.eval s = .slice none 0 0) (hx : a.eval x = .int .i64 m)
    (hh : ∀ (G : Nat) (cs : Array Value), m ≤ G → G ≤ maxLen → cs.size = G * 5 → wpList Try.prog ops Q rest (a.put o.dst (.slice (some ⟨w.heap.size, 0, none⟩) m G)) (w.drew.alloc (.cells cs 52))) : wpList Try.prog ops Q (o :: rest) a w := by
  obtain ⟨i0, hi, hz0, hz1, hz2⟩ := info_parts Try.info52
  have hgc := grownCap_ge w (0 + m) 0 52
  have hgm : grownCap w (0 + m) 0 52 ≤ maxLen := grownCap_le_maxLen w (0 + m) 0 52 (by simp only [maxLen]; omega)
  have hr := fun ty => Lib.run_append_grow_zeros w 22 3 ty 52 i0 _ .i64 .i64 Try.underlying22 Try.underlying3 hi hz0 none 0 0 [] (by simp [Builtin.firstCells]) m h0 (by rw [hz1]; decide) (by omega) (by omega) (by rw [hz2]; omega) (growslice_fits (by omega) (by rw [hz2]; omega))
  rw [Nat.zero_add] at hr hgc hgm
  refine wpList_plain hgd fun K hK => ?_
  unfold Oper.wp execOp
  simp only [ho, resolve, invoke, builtin, Sem.run_bind, Sem.run_pure, Result.andThen_ok, List.map_toArray, List.map_cons, List.map_nil, hs, hx, hr]
  refine hK _ _ (hh _ _ hgc hgm ?_)
  simp only [Array.size_append, size_zeroCells]
  simp [Value.cells]
  omega
set_option maxRecDepth 100000 in
set_option maxHeartbeats 2000000 in
theorem grow_nil (m : Nat) (w : World) (hm : m ≤ 1000000) :
    Calls Try.prog 94 #[.slice none 0 0, .int .i64 m] w fun e w' => (∃ v, e = .returned v ∧ OwnL w' w.heap.size 52 5 pcV v []) ∧ Below w.heap.size w w' := by
  rcases Nat.eq_zero_or_pos m with rfl | h0
  · go_enter Try.func94, Try.ntmps94
    go_wp2
    go_ret
    exact ⟨⟨_, rfl, OwnL.nil _ _ _ _ _⟩, Below.refl _ _⟩
  · have h1 : ¬ ((m : Int) < 0) := by omega
    go_enter Try.func94, Try.ntmps94
    go_wp2_with (at_builtin; refine wpList_zeros rfl _ _ rfl m h0 hm rfl rfl ?_; intro G cs hG1 hG2 hcs; have hmx : G ≤ 9223372036854775807 := by simp only [maxLen] at hG2; omega)
    go_ret
    refine ⟨⟨_, rfl, by simp, .inr ⟨w.heap.size, G, cs, rfl, Nat.le_refl _, heap_alloc_new w.drew _, Nat.zero_le _, hG2, hcs, by simp⟩⟩, ?_⟩
    exact (below_drew w _).trans (balloc w.drew _)

/-- An append of a whole slice onto a row of the call's own. -/
theorem app_own {α : Type} {P : Program} (t ty e : TypeId) (i : TypeInfo) (z : Value) (k bytes : Nat) (f : α → List Value) (ht : P.underlying t = some (.slice e)) (hi : P.info? e = some i) (hz : i.zero = some z)
    (hsize : i.size = k) (hby : i.bytes = bytes) (hzs : z.cells.size = k) (hsz : 0 < k) (hk : ∀ x, (f x).length = k) (xs ys : List α) (h1 : ∀ u ∈ ys.flatMap f, u.oneCell' = true) (hn : xs.length + ys.length ≤ 1000000) (hb : bytes ≤ 1000) (A : Option Addr) (c : Nat) (w : World) (v : Value) (base : Nat) (hB : base ≤ w.heap.size) (ho : OwnL w base e k f v xs) (h : Rd k f w A ys) :
    ∃ v' w', (Builtin.append_ #[t, t] ty #[v, .slice A ys.length c]).run P w = .ok v' w' ∧ OwnL w' base e k f v' (xs ++ ys) ∧ w.grownBy w' v.ownBlock := by
  cases A with
  | none =>
    have h0 : ys = [] := by
      cases ys with
      | nil => rfl
      | cons x xs =>
        obtain ⟨b, o, hA, _⟩ := h 0 x rfl
        cases hA
    subst h0
    obtain ⟨V, cv, rfl⟩ := ho.form
    refine ⟨_, _, run_append_nothing w t t ty e i ht hi V xs.length cv ?_ _ (Src.ofNil _ ht c), by rw [List.append_nil]; exact ho, World.grownBy.refl _ _⟩
    rcases ho.2 with ⟨h2, h3⟩ | ⟨g, cap, cur, h2, _, _, h3, _⟩
    · omega
    · injection h2 with h4 h5 h6
      omega
  | some ad =>
    obtain ⟨v', w', hr, h2, h3, _, h5⟩ := run_append_own_at (P := P) w base t ty e i z k bytes ht hi hz hsize hby hzs hsz v xs.length (xs.flatMap f) ho ad ys.length c (ys.flatMap f) (flat_len hk ys) (h.news hk hsz) h1 (by simp only [maxLen]; omega) (by
      have := Nat.mul_le_mul hn hb
      exact Nat.le_trans this (by decide)) hB
    refine ⟨v', w', hr, ?_, h3⟩
    unfold OwnL
    rw [List.length_append, List.flatMap_append]
    exact h2
theorem wpList_app {α : Type} {P : Program} {ops : Array Oper} {rest : List Oper} {o : Oper} {a : Act} {w : World} {Q : Exit → Act → World → Prop} (hgd : o.guard = none) (s x : Operand) (t e : TypeId) (i : TypeInfo) (z : Value) (k bytes : Nat) (f : α → List Value) (ho : o.op = .call { callee := .builtin .append, args := #[s, x], argTypes := #[t, t] }) (ht : P.underlying t = some (.slice e)) (hi : P.info? e = some i) (hz : i.zero = some z)
    (hsize : i.size = k) (hby : i.bytes = bytes) (hzs : z.cells.size = k) (hsz : 0 < k) (hk : ∀ x, (f x).length = k) (xs ys : List α) (h1 : ∀ u ∈ ys.flatMap f, u.oneCell' = true) (hn : xs.length + ys.length ≤ 1000000) (hb : bytes ≤ 1000) (A : Option Addr) (c : Nat) (v : Value) (base : Nat)
    (hs : a.eval s = v) (hx : a.eval x = .slice A ys.length c) (hB : base ≤ w.heap.size) (hO : OwnL w base e k f v xs) (h : Rd k f w A ys)
    (hh : ∀ v' w', OwnL w' base e k f v' (xs ++ ys) → w.grownBy w' v.ownBlock → wpList P ops Q rest (a.put o.dst v') w') : wpList P ops Q (o :: rest) a w := by
  refine wpList_plain hgd fun K hK => ?_
  obtain ⟨v', w', hr, h2, h3⟩ := app_own t o.type e i z k bytes f ht hi hz hsize hby hzs hsz hk xs ys h1 hn hb A c w v base hB hO h
  unfold Oper.wp execOp
  simp only [ho, resolve, invoke, builtin, Sem.run_bind, Sem.run_pure, Result.andThen_ok, List.map_toArray, List.map_cons, List.map_nil, hs, hx, hr]
  exact hK _ _ (hh v' w' h2 h3)

set_option maxRecDepth 100000 in
set_option maxHeartbeats 4000000 in
/-- slices.Concat of two rows of pieces. -/
theorem concat_two (xs ys : List Pc) (A B : Option Addr) (a b ob : Nat) (w : World) (hob : ob < w.heap.size) (h0 : w.cell? ⟨ob, 0, none⟩ = some (.slice A xs.length a)) (h1 : w.cell? ⟨ob, 1, none⟩ = some (.slice B ys.length b))
    (hx : Rd 5 pcV w A xs) (hy : Rd 5 pcV w B ys) (lx : xs.length ≤ 2000) (ly : ys.length ≤ 2000) :
    Calls Try.prog 73 #[.slice (some ⟨ob, 0, none⟩) 2 2] w fun e w' => (∃ v, e = .returned v ∧ OwnL w' w.heap.size 52 5 pcV v (xs ++ ys)) ∧ Below w.heap.size w w' := by
  obtain ⟨i0, hi, hz0, hz1, hz2⟩ := info_parts Try.info52
  go_enter Try.func73, Try.ntmps73
  go_wp2_with fail
  go_loopw [3, 11] (fun s i W => Below w.heap.size w W ∧ ((i = .int .i64 0 ∧ s = .int .i64 0) ∨ (i = .int .i64 1 ∧ s = .int .i64 xs.length) ∨ (i = .int .i64 2 ∧ s = .int .i64 ((xs.length + ys.length : Nat) : Int)))) (fun _ i _ => 2 - (intOf i).toNat)
  case atStart => exact ⟨Below.refl _ _, .inl ⟨rfl, rfl⟩⟩
  case round =>
    rename World => W
    obtain ⟨hb, hs⟩ := hrel
    have c0 := (hb.cell (p := ⟨ob, 0, none⟩) hob).trans h0
    have c1 := (hb.cell (p := ⟨ob, 1, none⟩) hob).trans h1
    rcases hs with ⟨rfl, rfl⟩ | ⟨rfl, rfl⟩ | ⟨rfl, rfl⟩
    · go_wp2_with fail
      go_roundw
      case rel => exact ⟨hb, .inr (.inl ⟨rfl, by simp⟩)⟩
      case measure => simp [intOf]
    · go_wp2_with fail
      go_roundw
      case rel => exact ⟨hb, .inr (.inr ⟨rfl, by go_num⟩)⟩
      case measure => simp [intOf]
    · clear c0 c1
      go_wp2_with fail
      refine (grow_nil (xs.length + ys.length) W (by omega)).mono ?_
      rintro e W1 ⟨⟨v, rfl, hO⟩, hb1⟩
      have hbw := bthen hb hb1
      have hbs := hb.size
      go_wp2_with fail
      go_loopw [6, 27] (fun v i W' => Below w.heap.size w W' ∧ ((i = .int .i64 0 ∧ OwnL W' w.heap.size 52 5 pcV v []) ∨ (i = .int .i64 1 ∧ OwnL W' w.heap.size 52 5 pcV v xs) ∨ (i = .int .i64 2 ∧ OwnL W' w.heap.size 52 5 pcV v (xs ++ ys)))) (fun _ i _ => 2 - (intOf i).toNat)
      case atStart => exact ⟨hbw, .inl ⟨rfl, hO.base_mono hbs⟩⟩
      case round =>
        rename World => W2
        obtain ⟨hb2, hs⟩ := hrel
        have c0 := (hb2.cell (p := ⟨ob, 0, none⟩) hob).trans h0
        have c1 := (hb2.cell (p := ⟨ob, 1, none⟩) hob).trans h1
        have hb2s := hb2.size
        rcases hs with ⟨rfl, hO2⟩ | ⟨rfl, hO2⟩ | ⟨rfl, hO2⟩
        · go_wp2_with (at_builtin; refine wpList_app rfl _ _ 22 52 i0 _ 5 40 pcV rfl Try.underlying22 hi hz0 hz1 hz2 rfl (by decide) pcV_len [] xs (pcV_one xs) (by simp; omega) (by decide) A a _ w.heap.size rfl rfl hb2s hO2 (hx.below hb2) ?_; intro v' w' hO3 hg3)
          go_roundw
          case rel => exact ⟨hb2.trans (hO2.grown_below hb2s hg3), .inr (.inl ⟨rfl, hO3⟩)⟩
          case measure => simp [intOf]
        · go_wp2_with (at_builtin; refine wpList_app rfl _ _ 22 52 i0 _ 5 40 pcV rfl Try.underlying22 hi hz0 hz1 hz2 rfl (by decide) pcV_len xs ys (pcV_one ys) (by omega) (by decide) B b _ w.heap.size rfl rfl hb2s hO2 (hy.below hb2) ?_; intro v' w' hO3 hg3)
          go_roundw
          case rel => exact ⟨hb2.trans (hO2.grown_below hb2s hg3), .inr (.inr ⟨rfl, hO3⟩)⟩
          case measure => simp [intOf]
        · clear c0 c1
          go_wp2_with fail
          go_ret
          exact ⟨⟨_, rfl, hO2⟩, hb2⟩

end Go.Proofs.Ytbdjmaogbpdkpaa

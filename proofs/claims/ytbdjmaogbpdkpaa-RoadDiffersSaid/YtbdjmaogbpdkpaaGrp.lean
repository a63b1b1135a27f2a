import Derived.Test.YtbdjmaogbpdkpaaRefE
import Derived.Deep.AppendLies
import Derived.Deep.RegionLaw
namespace Go.Proofs.Ytbdjmaogbpdkpaa
open Go.RowKit

theorem OwnL.ne {α β : Type} {w : World} {b b' : Nat} {e e' : TypeId} {k k' : Nat} {f : α → List Value} {f' : β → List Value} {v v' : Value} {xs : List α} {ys : List β} (h : OwnL w b e k f v xs) (h' : OwnL w b' e' k' f' v' ys) (hne : e ≠ e') : v.ownBlock = none ∨ v.ownBlock ≠ v'.ownBlock := by
  rcases h.2 with ⟨rfl, _⟩ | ⟨g, cap, cur, rfl, _, hh, _⟩
  · exact .inl rfl
  · refine .inr fun hk => ?_
    rcases h'.2 with ⟨rfl, _⟩ | ⟨g', cap', cur', rfl, _, hh', _⟩
    · simp [Value.ownBlock] at hk
    · have : g = g' := by simpa [Value.ownBlock] using hk
      subst this
      rw [hh] at hh'
      injection hh' with hh'
      injection hh' with _ ht
      exact hne ht

/-- The groups that are closed, and the one that is still open. -/
structure Grp {α : Type} (w : World) (b0 : Nat) (e : TypeId) (k : Nat) (f : α → List Value) (svs : List Value) (vl : Value) (closed : List (List α)) (cur : List α) (bl : Nat) : Prop where
  n : svs.length = closed.length
  c : ∀ (i : Nat) (g : List α), closed[i]? = some g → ∃ sv, svs[i]? = some sv ∧ OwnL w b0 e k f sv g ∧ ∀ q, sv.ownBlock = some q → q < bl
  l : OwnL w bl e k f vl cur
  b : b0 ≤ bl

section
variable {α : Type} {w w' : World} {b0 bl : Nat} {e t : TypeId} {k : Nat} {f : α → List Value} {svs : List Value} {vl vo : Value} {closed : List (List α)} {cur : List α}
theorem Grp.below (h : Grp w b0 e k f svs vl closed cur bl) (hb : Below w.heap.size w w') : Grp w' b0 e k f svs vl closed cur bl :=
  ⟨h.n, fun i g hg => by
    obtain ⟨sv, h1, h2, h3⟩ := h.c i g hg
    exact ⟨sv, h1, h2.below hb, h3⟩, h.l.below hb, h.b⟩
/-- A step that turns the outer row alone. -/
theorem Grp.outer (h : Grp w b0 e k f svs vl closed cur bl) {ys : List Value} {b1 : Nat} (ho : OwnL w b1 t 1 (fun u => [u]) vo ys) (hne : e ≠ t) (hg : w.grownBy w' vo.ownBlock) : Grp w' b0 e k f svs vl closed cur bl :=
  ⟨h.n, fun i g hgi => by
    obtain ⟨sv, h1, h2, h3⟩ := h.c i g hgi
    exact ⟨sv, h1, h2.other hg (h2.ne ho hne), h3⟩, h.l.other hg (h.l.ne ho hne), h.b⟩
/-- A step that turns the open group's row alone: the closed ones lie as they lay. -/
theorem Grp.inner (h : Grp w b0 e k f svs vl closed cur bl) {vl' : Value} {cur' : List α} (hg : w.grownBy w' vl.ownBlock) (hl : OwnL w' bl e k f vl' cur') : Grp w' b0 e k f svs vl' closed cur' bl :=
  ⟨h.n, fun i g hgi => by
    obtain ⟨sv, h1, h2, h3⟩ := h.c i g hgi
    refine ⟨sv, h1, h2.other hg ?_, h3⟩
    cases hs : sv.ownBlock with
    | none => exact .inl rfl
    | some q =>
      refine .inr fun hk => ?_
      have h4 := h3 q hs
      have h5 := (h.l.lt q hk.symm).1
      omega, hl, h.b⟩
/-- The open group is closed, and a new one begun in a block beyond. -/
theorem Grp.close (h : Grp w b0 e k f svs vl closed cur bl) {vl' : Value} {cur' : List α} {bl' : Nat} (hl : OwnL w bl' e k f vl' cur') (hb : ∀ q, vl.ownBlock = some q → q < bl') (hbl : bl ≤ bl') : Grp w b0 e k f (svs ++ [vl]) vl' (closed ++ [cur]) cur' bl' :=
  ⟨by simp [h.n], fun i g hgi => by
    by_cases hi : i < closed.length
    · rw [List.getElem?_append_left hi] at hgi
      obtain ⟨sv, h1, h2, h3⟩ := h.c i g hgi
      exact ⟨sv, by rw [List.getElem?_append_left (by rw [h.n]; exact hi)]; exact h1, h2, fun q hq => by have := h3 q hq; omega⟩
    · rw [List.getElem?_append_right (by omega)] at hgi
      have hz : i - closed.length = 0 := by
        have := (List.getElem?_eq_some_iff.1 hgi).1
        simp at this
        omega
      rw [hz] at hgi
      simp only [List.getElem?_cons_zero, Option.some.injEq] at hgi
      subst hgi
      exact ⟨vl, by rw [List.getElem?_append_right (by rw [h.n]; omega), h.n, hz]; rfl, h.l.base_mono h.b, hb⟩, hl, by have := h.b; omega⟩
end

/-- One element more, behind the groups gs. -/
def gadd {α : Type} (tg : α → α → Bool) (gs : List (List α)) (x : α) : List (List α) :=
  match gs.getLast? with
  | some g => match g.getLast? with
    | some y => if tg y x = true then gs.dropLast ++ [g ++ [x]] else gs ++ [[x]]
    | none => gs ++ [[x]]
  | none => [[x]]
def grouped {α : Type} (tg : α → α → Bool) (l : List α) : List (List α) := l.foldl (gadd tg) []
theorem grouped_take_succ {α : Type} (tg : α → α → Bool) (l : List α) (k : Nat) (x : α) (hx : l[k]? = some x) : grouped tg (l.take (k + 1)) = gadd tg (grouped tg (l.take k)) x := by
  unfold grouped
  rw [List.take_add_one, hx, List.foldl_append]
  rfl
theorem gadd_same {α : Type} (tg : α → α → Bool) (cl : List (List α)) (g : List α) (y x : α) (h : tg y x = true) : gadd tg (cl ++ [g ++ [y]]) x = cl ++ [g ++ [y] ++ [x]] := by
  unfold gadd
  simp [h]
theorem gadd_new {α : Type} (tg : α → α → Bool) (cl : List (List α)) (g : List α) (y x : α) (h : tg y x = false) : gadd tg (cl ++ [g ++ [y]]) x = cl ++ [g ++ [y]] ++ [[x]] := by
  unfold gadd
  simp [h]
theorem gadd_first {α : Type} (tg : α → α → Bool) (x : α) : gadd tg [] x = [[x]] := rfl
/-- The groups hold the list; the last group's last element is the list's. -/
theorem grouped_last {α : Type} (tg : α → α → Bool) (l : List α) : ∀ k, k ≤ l.length → (grouped tg (l.take k)).flatten = l.take k ∧ ∀ g ∈ grouped tg (l.take k), g ≠ [] := by
  intro k
  induction k with
  | zero => intro _; simp [grouped]
  | succ k ih =>
    intro hk
    obtain ⟨h1, h2⟩ := ih (by omega)
    obtain ⟨x, hx⟩ := getElem?_ex (show k < l.length by omega)
    rw [grouped_take_succ tg l k x hx]
    have ht : l.take (k + 1) = l.take k ++ [x] := by rw [List.take_add_one, hx]; rfl
    rw [ht]
    generalize grouped tg (l.take k) = gs at h1 h2 ⊢
    rw [← h1]
    unfold gadd
    split
    · rename_i g hg
      obtain ⟨cl, rfl⟩ : ∃ cl, gs = cl ++ [g] := by
        have hne : gs ≠ [] := by rintro rfl; simp at hg
        rcases nil_or_snoc gs with rfl | ⟨cl, g', rfl⟩
        · simp at hg
        · simp at hg
          exact ⟨cl, by rw [hg]⟩
      split
      · split
        · refine ⟨by simp, fun g' hg' => ?_⟩
          simp only [List.dropLast_concat, List.mem_append, List.mem_singleton] at hg'
          rcases hg' with hg' | rfl
          · exact h2 g' (by simp [hg'])
          · simp
        · refine ⟨by simp, fun g' hg' => ?_⟩
          simp only [List.mem_append, List.mem_singleton] at hg'
          rcases hg' with hg' | rfl
          · exact h2 g' (by simpa using hg')
          · simp
      · refine ⟨by simp, fun g' hg' => ?_⟩
        simp only [List.mem_append, List.mem_singleton] at hg'
        rcases hg' with hg' | rfl
        · exact h2 g' (by simpa using hg')
        · simp
    · rename_i hg
      have : gs = [] := by simpa using hg
      subst this
      simp

/-- What a call of grouped hands back: a slice of slices. -/
structure GroupsAt {α : Type} (w : World) (b0 : Nat) (t e : TypeId) (k : Nat) (f : α → List Value) (v : Value) (gss : List (List α)) : Prop where
  ex : ∃ svs : List Value, OwnL w b0 t 1 (fun u => [u]) v svs ∧ svs.length = gss.length ∧ ∀ (i : Nat) (g : List α), gss[i]? = some g → ∃ sv, svs[i]? = some sv ∧ OwnL w b0 e k f sv g

/-! ### The bends -/
structure Bd where
  p : Pc
  fr : Int
def bdV (b : Bd) : List Value := [.int .i64 b.p.len, .int .i64 b.p.turn, .int .i64 b.p.rad, .int .i64 b.p.wid, .int .i64 b.p.sur, .int .i64 b.fr]
theorem bdV_len (b : Bd) : (bdV b).length = 6 := rfl
theorem pcV_len (b : Pc) : (pcV b).length = 5 := rfl
def tgB (gap : Int) (x y : Bd) : Bool := decide (x.p.turn = y.p.turn) && decide (y.fr - x.fr - x.p.len ≤ gap)
/-- A bend's numbers are in their ranges. -/
def okBd (b : Bd) : Prop := 1 ≤ b.p.len ∧ b.p.len ≤ 5000 ∧ -1 ≤ b.p.turn ∧ b.p.turn ≤ 1 ∧ 0 ≤ b.fr ∧ b.fr ≤ 10000000

set_option maxHeartbeats 400000 in
theorem together_any (x y : Bd) (gap least : Int) (bx : Nat) (w : World) (hx : okBd x) (hy : okBd y) (hb : Box w bx [.int .i64 gap, .int .i64 least]) (hg0 : 0 ≤ gap) (hg1 : gap ≤ 1000) :
    Calls Try.prog 60 #[.agg #[.int .i64 x.p.len, .int .i64 x.p.turn, .int .i64 x.p.rad, .int .i64 x.p.wid, .int .i64 x.p.sur, .int .i64 x.fr], .agg #[.int .i64 y.p.len, .int .i64 y.p.turn, .int .i64 y.p.rad, .int .i64 y.p.wid, .int .i64 y.p.sur, .int .i64 y.fr], .pointer (some ⟨bx, 0, none⟩)] w fun e w' => e = .returned (.bool (tgB gap x y)) ∧ Below w.heap.size w w' := by
  obtain ⟨x1, x2, x3, x4, x5, x6⟩ := hx
  obtain ⟨y1, y2, y3, y4, y5, y6⟩ := hy
  have hbl := hb.1
  have g0 := hb.2 0 _ rfl
  by_cases t1 : x.p.turn = y.p.turn
  · have t1' : (x.p.turn == y.p.turn) = true := by simpa using t1
    by_cases t2 : y.fr - x.fr - x.p.len ≤ gap
    · have t2' : decide (y.fr - x.fr - x.p.len ≤ gap) = true := by simpa using t2
      have T1 := Lib.hid t1
      clear t1
      go_enter Try.func60, Try.ntmps60
      go_wp2
      go_ret
      exact ⟨by simp [tgB, T1.out, t2], bthen (balloc _ _) (balloc _ _)⟩
    · have t2' : decide (y.fr - x.fr - x.p.len ≤ gap) = false := by simpa using t2
      have T1 := Lib.hid t1
      clear t1
      go_enter Try.func60, Try.ntmps60
      go_wp2
      go_ret
      exact ⟨by simp only [tgB, t2']; simp, bthen (balloc _ _) (balloc _ _)⟩
  · have t1' : (x.p.turn == y.p.turn) = false := by simpa using t1
    go_enter Try.func60, Try.ntmps60
    go_wp2
    go_ret
    exact ⟨by simp [tgB, t1], bthen (balloc _ _) (balloc _ _)⟩

end Go.Proofs.Ytbdjmaogbpdkpaa

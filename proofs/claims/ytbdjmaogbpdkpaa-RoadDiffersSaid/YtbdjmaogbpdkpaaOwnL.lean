import Derived.Test.YtbdjmaogbpdkpaaFind
namespace Go.Proofs.Ytbdjmaogbpdkpaa
open Go.RowKit

theorem flat_len {α : Type} {k : Nat} {f : α → List Value} (hk : ∀ x, (f x).length = k) (xs : List α) : (xs.flatMap f).length = xs.length * k := by
  induction xs with
  | nil => simp
  | cons x xs ih =>
    rw [List.flatMap_cons, List.length_append, hk, ih, List.length_cons, Nat.add_mul, Nat.one_mul, Nat.add_comm]
theorem flat_get {α : Type} {k : Nat} {f : α → List Value} (hk : ∀ x, (f x).length = k) (xs : List α) : ∀ (i j : Nat) (x : α) (u : Value), xs[i]? = some x → (f x)[j]? = some u → (xs.flatMap f)[i * k + j]? = some u := by
  induction xs with
  | nil => intro i j x u h; simp at h
  | cons y xs ih =>
    intro i j x u h hu
    have hj : j < k := by
      rw [← hk x]
      exact (List.getElem?_eq_some_iff.1 hu).1
    rw [List.flatMap_cons]
    cases i with
    | zero =>
      simp only [List.getElem?_cons_zero, Option.some.injEq] at h
      subst h
      rw [Nat.zero_mul, Nat.zero_add, List.getElem?_append_left (by rw [hk]; exact hj)]
      exact hu
    | succ i =>
      rw [List.getElem?_append_right (by rw [hk, Nat.add_mul]; omega), hk]
      have := ih i j x u (by simpa using h) hu
      rwa [show (i + 1) * k + j - k = i * k + j by rw [Nat.add_mul]; omega]
theorem flat_set {α : Type} {k : Nat} {f : α → List Value} (hk : ∀ x, (f x).length = k) (xs : List α) : ∀ (i j : Nat) (x x' : α) (u : Value), xs[i]? = some x → j < k → (f x).set j u = f x' → (xs.flatMap f).set (i * k + j) u = (xs.set i x').flatMap f := by
  induction xs with
  | nil => intro i j x x' u h; simp at h
  | cons y xs ih =>
    intro i j x x' u h hj hu
    cases i with
    | zero =>
      simp only [List.getElem?_cons_zero, Option.some.injEq] at h
      subst h
      rw [Nat.zero_mul, Nat.zero_add, List.set_cons_zero, List.flatMap_cons, List.flatMap_cons, List.set_append_left _ _ (by rw [hk]; exact hj), hu]
    | succ i =>
      rw [List.flatMap_cons, List.set_cons_succ, List.flatMap_cons, List.set_append_right _ _ (by rw [hk, Nat.add_mul]; omega), hk]
      rw [show (i + 1) * k + j - k = i * k + j by rw [Nat.add_mul]; omega, ih i j x x' u (by simpa using h) hj hu]

/-- v is a slice of the call's own, in a block from base on, that holds xs (k cells each). -/
def OwnL {α : Type} (w : World) (base : Nat) (e : TypeId) (k : Nat) (f : α → List Value) (v : Value) (xs : List α) : Prop := w.ownsRow base e k v xs.length (xs.flatMap f)

section
variable {α : Type} {w w' : World} {base : Nat} {e : TypeId} {k : Nat} {f : α → List Value} {v : Value} {xs : List α}
theorem OwnL.nil (w : World) (base : Nat) (e : TypeId) (k : Nat) (f : α → List Value) : OwnL w base e k f (.slice none 0 0) [] := World.ownsRow_nil w base e k
theorem OwnL.form (h : OwnL w base e k f v xs) : ∃ A cap, v = .slice A xs.length cap := by
  rcases h.2 with ⟨rfl, h0⟩ | ⟨g, cap, cur, rfl, _⟩
  · exact ⟨none, 0, by rw [h0]⟩
  · exact ⟨_, cap, rfl⟩
theorem OwnL.form1 (h : OwnL w base e k f v xs) (hn : xs ≠ []) : ∃ g cap, v = .slice (some ⟨g, 0, none⟩) xs.length cap ∧ base ≤ g ∧ g < w.heap.size := by
  rcases h.2 with ⟨rfl, h0⟩ | ⟨g, cap, cur, rfl, hb, hh, _⟩
  · exact absurd (List.eq_nil_of_length_eq_zero h0) hn
  · exact ⟨g, cap, rfl, hb, (Array.getElem?_eq_some_iff.1 hh).1⟩
theorem OwnL.below (h : OwnL w base e k f v xs) (hb : Below w.heap.size w w') : OwnL w' base e k f v xs :=
  World.ownsRow.kept h (row := none) ⟨hb.os, hb.tape, hb.output, hb.size, fun i hi _ => hb.block i hi⟩ (by cases v.ownBlock <;> simp)
theorem OwnL.base_mono (h : OwnL w base e k f v xs) {b' : Nat} (hb : b' ≤ base) : OwnL w b' e k f v xs := by
  refine ⟨h.1, ?_⟩
  rcases h.2 with h0 | ⟨g, cap, cur, hv, hg, hrest⟩
  · exact .inl h0
  · exact .inr ⟨g, cap, cur, hv, Nat.le_trans hb hg, hrest⟩
theorem OwnL.rd {A : Option Addr} {n c : Nat} (h : OwnL w base e k f (.slice A n c) xs) (hk : ∀ x, (f x).length = k) : Rd k f w A xs := by
  intro i x hx
  have hne : xs ≠ [] := by
    rintro rfl
    simp at hx
  obtain ⟨g, cap, hv, hb, hlt⟩ := h.form1 hne
  injection hv with h1 h2 h3
  subst h1
  refine ⟨g, 0, rfl, hlt, fun j u hu => ?_⟩
  have := World.ownsRow.cells h (g := g) rfl (i * k + j) u (flat_get hk xs i j x u hx hu)
  have e1 : (⟨g, 0, none⟩ : Addr).add (i * k + j) = ⟨g, 0 + i * k + j, none⟩ := by
    unfold Addr.add
    split
    · rename_i h0
      simp only [Addr.mk.injEq, true_and, and_true]
      omega
    · simp only [Addr.mk.injEq, true_and, and_true]
      omega
  rw [← e1]
  exact this
theorem OwnL.snoc {x : α} {xs : List α} {n : Nat} (h : w.ownsRow base e k v n (xs.flatMap f ++ f x)) (hn : n = xs.length + 1) : OwnL w base e k f v (xs ++ [x]) := by
  subst hn
  unfold OwnL
  rw [List.length_append, List.flatMap_append]
  simpa using h
theorem OwnL.store {g n c : Nat} (h : OwnL w base e k f (.slice (some ⟨g, 0, none⟩) n c) xs) (hn : n = xs.length) (hk : ∀ x, (f x).length = k) {i j : Nat} {x x' : α} {u : Value} (hx : xs[i]? = some x) (hj : j < k) (hu : (f x).set j u = f x') :
    OwnL (w.setCell ⟨g, i * k + j, none⟩ u) base e k f (.slice (some ⟨g, 0, none⟩) n c) (xs.set i x') := by
  subst hn
  have h2 := World.ownsRow.stored h (i * k + j) u
  rw [flat_set hk xs i j x x' u hx hj hu] at h2
  unfold OwnL
  rw [List.length_set]
  exact h2.1
theorem OwnL.other (h : OwnL w base e k f v xs) {row : Option Nat} (hg : w.grownBy w' row) (hne : v.ownBlock = none ∨ v.ownBlock ≠ row) : OwnL w' base e k f v xs := World.ownsRow.kept h hg hne
theorem OwnL.lt (h : OwnL w base e k f v xs) : ∀ g, v.ownBlock = some g → base ≤ g ∧ g < w.heap.size := World.ownsRow.lt h
/-- What an append to the row leaves alone: all that lay below the row's base. -/
theorem OwnL.grown_below {w1 : World} (h : OwnL w base e k f v xs) (hB : base ≤ w.heap.size) (hg : w.grownBy w1 v.ownBlock) : Below base w w1 :=
  (Below.refl base w).grown hg hB fun g hg' => (h.lt g hg').1
end

/-- The cells that a new block holds. -/
theorem cells_new (w : World) (cs : List Value) (t : TypeId) (n : Nat) (h : n = w.heap.size) : ∀ j u, cs[j]? = some u → (w.alloc (.cells cs.toArray t)).cell? ((⟨n, 0, none⟩ : Addr).add j) = some u := by
  subst h
  intro j u hu
  have e1 : (⟨w.heap.size, 0, none⟩ : Addr).add j = ⟨w.heap.size, j, none⟩ := by
    unfold Addr.add
    split
    · rename_i h0
      subst h0
      rfl
    · simp
  rw [e1, World.cell?_alloc_new]
  simpa using hu

/-! ### Corners -/
structure Co where
  fr : Int
  to : Int
  turn : Int
  rad : Int
  inn : Int
  out : Int
  ang : Int
def coV (c : Co) : List Value := [.int .i64 c.fr, .int .i64 c.to, .int .i64 c.turn, .int .i64 c.rad, .int .i64 c.inn, .int .i64 c.out, .int .i64 c.ang]
theorem coV_len (c : Co) : (coV c).length = 7 := rfl
theorem Rd.at7 {w : World} {A : Option Addr} {ps : List Co} (h : Rd 7 coV w A ps) {i : Nat} {p : Co} (hp : ps[i]? = some p) : ∃ b o, A = some ⟨b, o, none⟩ ∧ b < w.heap.size ∧
    w.cell? ⟨b, o + i * 7, none⟩ = some (.int .i64 p.fr) ∧ w.cell? ⟨b, o + i * 7 + 1, none⟩ = some (.int .i64 p.to) ∧ w.cell? ⟨b, o + i * 7 + 2, none⟩ = some (.int .i64 p.turn) ∧ w.cell? ⟨b, o + i * 7 + 3, none⟩ = some (.int .i64 p.rad) ∧ w.cell? ⟨b, o + i * 7 + 4, none⟩ = some (.int .i64 p.inn) ∧ w.cell? ⟨b, o + i * 7 + 5, none⟩ = some (.int .i64 p.out) ∧ w.cell? ⟨b, o + i * 7 + 6, none⟩ = some (.int .i64 p.ang) := by
  obtain ⟨b, o, rfl, hlt, hc⟩ := h i p hp
  exact ⟨b, o, rfl, hlt, hc 0 _ rfl, hc 1 _ rfl, hc 2 _ rfl, hc 3 _ rfl, hc 4 _ rfl, hc 5 _ rfl, hc 6 _ rfl⟩
theorem Try.info50 : (Try.prog.info? 50).map (fun i => (i.zero, i.size, i.bytes)) = some (some (.agg #[.int .i64 0, .int .i64 0, .int .i64 0, .int .i64 0, .int .i64 0, .int .i64 0, .int .i64 0]), 7, 56) := by kernel_rfl

set_option maxHeartbeats 400000 in
set_option maxRecDepth 100000 in
/-- SameCorners of two lists that are one. -/
theorem samecorners_any (A B : Option Addr) (a b : Nat) (xs : List Co) (w : World) (hA : Rd 7 coV w A xs) (hB : Rd 7 coV w B xs) (hn : xs.length ≤ 9223372036854775807) :
    Calls Try.prog 27 #[.slice A xs.length a, .slice B xs.length b] w fun e w' => e = .returned (.bool true) ∧ Below w.heap.size w w' := by
  go_enter Try.func27, Try.ntmps27
  go_wp2
  go_loopw [5] (fun i wr => ∃ k : Nat, k ≤ xs.length ∧ i = .int .i64 k ∧ Below w.heap.size w wr) (fun i _ => xs.length - (intOf i).toNat)
  case atStart => exact ⟨0, Nat.zero_le _, rfl, Below.refl _ _⟩
  case round =>
    obtain ⟨k, hk, rfl, hW⟩ := hrel
    by_cases hlt : k < xs.length
    · obtain ⟨p, hp⟩ := getElem?_ex hlt
      obtain ⟨ba, oa, e1, h1, c0, c1, c2, c3, c4, c5, c6⟩ := (hA.below hW).at7 hp
      obtain ⟨bb, ob, e2, h2, d0, d1, d2, d3, d4, d5, d6⟩ := (hB.below hW).at7 hp
      subst e1 e2
      clear hp
      have f1 : (k : Int) < xs.length := by omega
      have f2 : (0 : Int) ≤ (k : Int) := by omega
      go_wp2_with fail
      go_quiet (fail)
      go_wp2
      go_roundw
      case rel => exact ⟨k + 1, by omega, by go_num, bdrewN hW _⟩
      case measure => simp [intOf]; omega
    · go_wp2
      go_ret
      exact ⟨rfl, hW⟩

end Go.Proofs.Ytbdjmaogbpdkpaa

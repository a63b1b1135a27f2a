import Derived.Test.YtbdjmaogbpdkpaaLeaf
import Derived.Lib.Hide
import Derived.Laws.OwnMore
import Derived.Deep.Draws
import Derived.Laws.Rows
import Derived.Maps.AppendAt
namespace Go.Proofs.Ytbdjmaogbpdkpaa
set_option linter.unusedVariables false
set_option linter.unusedSimpArgs false
open Go.RowKit

structure Cr where
  at_ : Int
  size : Int
structure Jn where
  at_ : Int
  arms : Int
  way : Int
structure Road where
  ps : List Pc
  cs : List Cr
  js : List Jn

def pcV (p : Pc) : List Value := [.int .i64 p.len, .int .i64 p.turn, .int .i64 p.rad, .int .i64 p.wid, .int .i64 p.sur]
def crV (c : Cr) : List Value := [.int .i64 c.at_, .int .i64 c.size]
def jnV (j : Jn) : List Value := [.int .i64 j.at_, .int .i64 j.arms, .int .i64 j.way]

/-- A slice's elements (k cells each) lie at the address. -/
def Rd {α : Type} (k : Nat) (f : α → List Value) (w : World) (A : Option Addr) (xs : List α) : Prop :=
  ∀ i x, xs[i]? = some x → ∃ b o, A = some ⟨b, o, none⟩ ∧ b < w.heap.size ∧ ∀ j u, (f x)[j]? = some u → w.cell? ⟨b, o + i * k + j, none⟩ = some u

theorem Rd.below {α : Type} {k : Nat} {f : α → List Value} {w w' : World} {A : Option Addr} {xs : List α} (h : Rd k f w A xs) (hb : Below w.heap.size w w') : Rd k f w' A xs := by
  intro i x hx
  obtain ⟨b, o, rfl, hlt, hc⟩ := h i x hx
  exact ⟨b, o, rfl, Nat.lt_of_lt_of_le hlt hb.size, fun j u hu => (hb.cell (p := ⟨b, o + i * k + j, none⟩) hlt).trans (hc j u hu)⟩
/-- The same, the world having turned at or beyond a block above the row. -/
theorem Rd.keep {α : Type} {k : Nat} {f : α → List Value} {w w1 w' : World} {A : Option Addr} {xs : List α} (h : Rd k f w A xs) {B : Nat} (hb : Below B w w1) (hB : w.heap.size ≤ B) : Rd k f w1 A xs :=
  h.below (hb.mono hB)
theorem Rd.at5 {w : World} {A : Option Addr} {ps : List Pc} (h : Rd 5 pcV w A ps) {i : Nat} {p : Pc} (hp : ps[i]? = some p) : ∃ b o, A = some ⟨b, o, none⟩ ∧ b < w.heap.size ∧
    w.cell? ⟨b, o + i * 5, none⟩ = some (.int .i64 p.len) ∧ w.cell? ⟨b, o + i * 5 + 1, none⟩ = some (.int .i64 p.turn) ∧ w.cell? ⟨b, o + i * 5 + 2, none⟩ = some (.int .i64 p.rad) ∧ w.cell? ⟨b, o + i * 5 + 3, none⟩ = some (.int .i64 p.wid) ∧ w.cell? ⟨b, o + i * 5 + 4, none⟩ = some (.int .i64 p.sur) := by
  obtain ⟨b, o, rfl, hlt, hc⟩ := h i p hp
  exact ⟨b, o, rfl, hlt, hc 0 _ rfl, hc 1 _ rfl, hc 2 _ rfl, hc 3 _ rfl, hc 4 _ rfl⟩
theorem Rd.at2 {w : World} {A : Option Addr} {ps : List Cr} (h : Rd 2 crV w A ps) {i : Nat} {p : Cr} (hp : ps[i]? = some p) : ∃ b o, A = some ⟨b, o, none⟩ ∧ b < w.heap.size ∧
    w.cell? ⟨b, o + i * 2, none⟩ = some (.int .i64 p.at_) ∧ w.cell? ⟨b, o + i * 2 + 1, none⟩ = some (.int .i64 p.size) := by
  obtain ⟨b, o, rfl, hlt, hc⟩ := h i p hp
  exact ⟨b, o, rfl, hlt, hc 0 _ rfl, hc 1 _ rfl⟩
theorem Rd.at3 {w : World} {A : Option Addr} {ps : List Jn} (h : Rd 3 jnV w A ps) {i : Nat} {p : Jn} (hp : ps[i]? = some p) : ∃ b o, A = some ⟨b, o, none⟩ ∧ b < w.heap.size ∧
    w.cell? ⟨b, o + i * 3, none⟩ = some (.int .i64 p.at_) ∧ w.cell? ⟨b, o + i * 3 + 1, none⟩ = some (.int .i64 p.arms) ∧ w.cell? ⟨b, o + i * 3 + 2, none⟩ = some (.int .i64 p.way) := by
  obtain ⟨b, o, rfl, hlt, hc⟩ := h i p hp
  exact ⟨b, o, rfl, hlt, hc 0 _ rfl, hc 1 _ rfl, hc 2 _ rfl⟩

/-- A road's three slices lie in the world; none of them is longer than an int can say. -/
structure RdRoad (w : World) (r : Road) (A B C : Option Addr) : Prop where
  p : Rd 5 pcV w A r.ps
  c : Rd 2 crV w B r.cs
  j : Rd 3 jnV w C r.js
  lp : r.ps.length ≤ 9223372036854775807
  lc : r.cs.length ≤ 9223372036854775807
  lj : r.js.length ≤ 9223372036854775807
theorem RdRoad.below {w w' : World} {r : Road} {A B C : Option Addr} (h : RdRoad w r A B C) (hb : Below w.heap.size w w') : RdRoad w' r A B C :=
  ⟨h.p.below hb, h.c.below hb, h.j.below hb, h.lp, h.lc, h.lj⟩

theorem balloc (w : World) (o : Obj) : Below w.heap.size w (w.alloc o) := (Below.refl _ _).alloc (Nat.le_refl _) _
/-- From the caller's world on: first one step, then another that leaves all alone that the first has left. -/
theorem bthen {a b c : World} (h : Below a.heap.size a b) (k : Below b.heap.size b c) : Below a.heap.size a c := h.trans (k.mono h.size)
theorem bdrewN {B : Nat} {w W : World} (h : Below B w W) (n : Nat) : Below B w (W.drewN n) := ⟨h.os, h.tape, h.output, h.size, h.block⟩
theorem cell_box {W : World} {cs : Array Value} {t : TypeId} {wr : World} (hb : Below (W.heap.size + 1) (W.alloc (.cells cs t)) wr) (j : Nat) : wr.cell? ⟨W.heap.size, j, none⟩ = (W.alloc (.cells cs t)).cell? ⟨W.heap.size, j, none⟩ := hb.cell (Nat.lt_succ_self _)
/-- A box laid first of all, the steps behind it. -/
theorem bbox {W : World} {o : Obj} {wr : World} (hb : Below (W.heap.size + 1) (W.alloc o) wr) : Below W.heap.size W wr := (balloc W o).trans (hb.mono (by omega))

/-- A block of the call's own: its first cells. -/
def Box (w : World) (n : Nat) (vs : List Value) : Prop := n < w.heap.size ∧ ∀ j u, vs[j]? = some u → w.cell? ⟨n, j, none⟩ = some u
theorem Box.below {w w' : World} {n : Nat} {vs : List Value} (h : Box w n vs) (hb : Below w.heap.size w w') : Box w' n vs :=
  ⟨Nat.lt_of_lt_of_le h.1 hb.size, fun j u hu => (hb.cell (p := ⟨n, j, none⟩) h.1).trans (h.2 j u hu)⟩
theorem Box.new (w : World) (cs : List Value) (t : TypeId) : Box (w.alloc (.cells cs.toArray t)) w.heap.size cs := by
  refine ⟨by simp, fun j u hu => ?_⟩
  rw [World.cell?_alloc_new]
  simpa using hu
/-- Where a call stands that has boxed its road and made nothing else that counts. -/
structure InR (w wr : World) (r : Road) (A B C : Option Addr) (a b c : Nat) : Prop where
  below : Below w.heap.size w wr
  box : Box wr w.heap.size [.slice A r.ps.length a, .slice B r.cs.length b, .slice C r.js.length c]
theorem InR.new (w : World) (r : Road) (A B C : Option Addr) (a b c : Nat) : InR w (w.alloc (.cells #[.slice A r.ps.length a, .slice B r.cs.length b, .slice C r.js.length c] 26)) r A B C a b c :=
  ⟨balloc _ _, Box.new w [.slice A r.ps.length a, .slice B r.cs.length b, .slice C r.js.length c] 26⟩
theorem InR.step {w wr w2 : World} {r : Road} {A B C : Option Addr} {a b c : Nat} (h : InR w wr r A B C a b c) (hb : Below wr.heap.size wr w2) : InR w w2 r A B C a b c := ⟨bthen h.below hb, h.box.below hb⟩
theorem InR.rd {w wr : World} {r : Road} {A B C : Option Addr} {a b c : Nat} (h : InR w wr r A B C a b c) (hr : RdRoad w r A B C) : RdRoad wr r A B C := hr.below h.below

def Blk (w : World) (g : Nat) (t : TypeId) (cs : Array Value) : Prop := w.heap[g]? = some (.cells cs t (0, 0))

section
variable {w w' : World} {g : Nat} {t : TypeId} {cs : Array Value}
theorem Blk.lt (h : Blk w g t cs) : g < w.heap.size := by
  rcases Nat.lt_or_ge g w.heap.size with hlt | hge
  · exact hlt
  · unfold Blk at h; rw [Array.getElem?_eq_none hge] at h; cases h
theorem Blk.cell (h : Blk w g t cs) (i : Nat) : w.cell? ⟨g, i, none⟩ = cs[i]? := cell_of_row w g i cs t (0, 0) h
theorem Blk.frozen (h : Blk w g t cs) (i : Nat) : w.frozen? ⟨g, i, none⟩ = false := by
  unfold Blk at h
  simp [World.frozen?, h]
theorem Blk.new (w : World) (t : TypeId) (cs : Array Value) : Blk (w.alloc (.cells cs t)) w.heap.size t cs := heap_alloc_new w _
theorem Blk.drew (h : Blk w g t cs) : Blk w.drew g t cs := h
theorem Blk.drewN (h : Blk w g t cs) (n : Nat) : Blk (w.drewN n) g t cs := h
theorem Blk.alloc (h : Blk w g t cs) (o : Obj) : Blk (w.alloc o) g t cs := (Below.heap_alloc w o g h.lt).trans h
theorem Blk.set_ (h : Blk w g t cs) (i : Nat) (u : Value) : Blk (w.setCell ⟨g, i, none⟩ u) g t (cs.setIfInBounds i u) := by
  unfold Blk at h ⊢
  simp [World.setCell, Array.getElem?_modify, h]
theorem Blk.far (h : Blk w g t cs) {p : Addr} (hp : g ≠ p.block) (u : Value) : Blk (w.setCell p u) g t cs := (Below.heap_setCell w p u g hp).trans h
theorem Blk.below {B : Nat} (h : Blk w g t cs) (hb : Below B w w') (hg : g < B) : Blk w' g t cs := (hb.block g hg).trans h
theorem Blk.grown {row : Option Nat} (h : Blk w g t cs) (hb : w.grownBy w' row) (hg : some g ≠ row) : Blk w' g t cs := (hb.block g h.lt hg).trans h
theorem Blk.ne_ {g' : Nat} {t' : TypeId} {cs' : Array Value} (h : Blk w g t cs) (h' : Blk w g' t' cs') (hne : t ≠ t') : g ≠ g' := by
  rintro rfl
  unfold Blk at h h'
  rw [h] at h'
  injection h' with h'
  injection h' with _ ht
  exact hne ht
theorem own_blk_ne {base : Nat} {e : TypeId} {size n : Nat} {v : Value} {xs : List Value} (h : w.ownsRow base e size v n xs) (hg : Blk w g t cs) (hne : e ≠ t) : v.ownBlock ≠ some g := by
  rcases h.2 with ⟨rfl, _⟩ | ⟨g', cap, cur, rfl, _, hh, _⟩
  · simp [Value.ownBlock]
  · intro he
    have : g' = g := by simpa [Value.ownBlock] using he
    subst this
    exact Blk.ne_ (t := e) hh hg hne rfl
end

theorem Blk.box {w : World} {g : Nat} {t : TypeId} {cs : List Value} (h : Blk w g t cs.toArray) : Box w g cs :=
  ⟨h.lt, fun j u hu => by rw [h.cell]; simpa using hu⟩

def lenSum (ps : List Pc) : Int := (ps.map Pc.len).sum
theorem lenSum_take_succ (ps : List Pc) (k : Nat) (p : Pc) (hp : ps[k]? = some p) : lenSum (ps.take (k + 1)) = lenSum (ps.take k) + p.len := by
  unfold lenSum
  rw [List.take_add_one, hp]
  simp only [Option.toList_some, List.map_append, List.map_cons, List.map_nil, List.sum_append, List.sum_cons, List.sum_nil]
  omega
def lensOk (ps : List Pc) (m : Int) : Prop := ∀ p ∈ ps, 0 ≤ p.len ∧ p.len ≤ m
theorem lenSum_bd (ps : List Pc) (m : Int) (h : lensOk ps m) : 0 ≤ lenSum ps ∧ lenSum ps ≤ ps.length * m := by
  induction ps with
  | nil => simp [lenSum]
  | cons p ps ih =>
    have h1 := h p (by simp)
    have h2 := ih (fun q hq => h q (by simp [hq]))
    simp only [lenSum, List.map_cons, List.sum_cons, List.length_cons] at h2 ⊢
    rw [Int.natCast_add, Int.add_mul]
    simp only [Int.natCast_one, Int.one_mul]
    omega
theorem lensOk.take {ps : List Pc} {m : Int} (h : lensOk ps m) (k : Nat) : lensOk (ps.take k) m := fun p hp => h p (List.mem_of_mem_take hp)
theorem lensOk.at {ps : List Pc} {m : Int} (h : lensOk ps m) {k : Nat} {p : Pc} (hp : ps[k]? = some p) : 0 ≤ p.len ∧ p.len ≤ m := h p (List.mem_of_getElem? hp)
theorem getElem?_ex {α : Type} {xs : List α} {k : Nat} (h : k < xs.length) : ∃ x, xs[k]? = some x := ⟨xs[k], List.getElem?_eq_getElem h⟩

theorem all_take_succ {α : Type} (f : α → Bool) {xs : List α} {k : Nat} {x : α} (hx : xs[k]? = some x) (h : (xs.take k).all f = true) (h1 : f x = true) : (xs.take (k + 1)).all f = true := by
  rw [List.take_add_one, hx, List.all_append, h]
  simp [h1]
theorem all_false_at {α : Type} (f : α → Bool) {xs : List α} {k : Nat} {x : α} (hx : xs[k]? = some x) (h1 : f x = false) : xs.all f = false := by
  rw [List.all_eq_false]
  exact ⟨x, List.mem_of_getElem? hx, by simp [h1]⟩
theorem all_take_len {α : Type} (f : α → Bool) {xs : List α} {k : Nat} (hk : k ≤ xs.length) (hn : ¬ k < xs.length) (h : (xs.take k).all f = true) : xs.all f = true := by
  rw [List.take_of_length_le (by omega)] at h
  exact h

def pieceSmall (p : Pc) : Bool := !(decide (40 < p.len) && decide (p.len ≤ 5000))
def smallB (r : Road) : Bool := decide (r.ps.length ≤ 20) && decide (r.cs.length ≤ 20) && decide (r.js.length ≤ 20) && r.ps.all pieceSmall

def pcOkP (p : Pc) : Bool := pcOk p.len p.turn p.rad p.wid p.sur
/-- The element i of a list may stand where it does: its place is one, its other numbers are in their ranges, and it lies behind the one before it. -/
def crAt (n : Int) (cs : List Cr) (i : Nat) : Bool :=
  match cs[i]? with
  | none => true
  | some c => inB c.at_ 0 n && inB c.size 1 3 && (i == 0 || !decide (c.at_ ≤ ((cs[i - 1]?).getD ⟨0, 0⟩).at_))
def jnAt (n : Int) (js : List Jn) (i : Nat) : Bool :=
  match js[i]? with
  | none => true
  | some c => inB c.at_ 0 n && inB c.arms 2 6 && inB c.way 1 c.arms && (i == 0 || !decide (c.at_ ≤ ((js[i - 1]?).getD ⟨0, 0, 0⟩).at_))
def crsOk (n : Int) (cs : List Cr) : Bool := (List.range cs.length).all (crAt n cs)
def jnsOk (n : Int) (js : List Jn) : Bool := (List.range js.length).all (jnAt n js)
def validB (r : Road) : Bool :=
  decide (1 ≤ r.ps.length) && decide (r.ps.length ≤ 2000) && decide (r.cs.length ≤ 1000) && decide (r.js.length ≤ 200) && r.ps.all pcOkP && decide (lenSum r.ps ≤ 100000) && crsOk (lenSum r.ps) r.cs && jnsOk (lenSum r.ps) r.js
theorem range_all_succ (f : Nat → Bool) (k : Nat) (h : (List.range k).all f = true) (h1 : f k = true) : (List.range (k + 1)).all f = true := by
  rw [List.range_succ, List.all_append, h]
  simp [h1]
theorem range_all_false (f : Nat → Bool) {k n : Nat} (hk : k < n) (h1 : f k = false) : (List.range n).all f = false := by
  rw [List.all_eq_false]
  exact ⟨k, by simpa using hk, by simp [h1]⟩
theorem pcOk_len {p : Pc} (h : pcOkP p = true) : 1 ≤ p.len ∧ p.len ≤ 5000 := by
  simp only [pcOkP, pcOk, inB, Bool.and_eq_true, decide_eq_true_eq] at h
  omega
theorem lensOk_of_all {ps : List Pc} (h : ps.all pcOkP = true) : lensOk ps 5000 := fun p hp => by
  have := pcOk_len (List.all_eq_true.1 h p hp)
  omega

end Go.Proofs.Ytbdjmaogbpdkpaa

import Derived.Test.YtbdjmaogbpdkpaaSurW
import Derived.Test.YtbdjmaogbpdkpaaPartW
import Derived.Test.YtbdjmaogbpdkpaaMkIn7
import Derived.Sort.CutIn
/-
  road.Compare.
-/
namespace Go.Proofs.Ytbdjmaogbpdkpaa
open Go Go.RowKit Go.Shelf
set_option linter.unusedVariables false
set_option linter.unusedSimpArgs false
attribute [local go_sem] wide_fn wide_depth Oper.semAt_some Later.cell Later.cell1 Later.new1 Later.frozen Later.frozen1 max_ints min_ints

theorem Try.info72 : (Try.prog.info? 72).map (fun i => (i.zero, i.size, i.bytes)) = some (some (.agg #[.int .i64 0, .int .i64 0]), 2, 16) := by kernel_rfl

def dfs (tol : Int) (L : List St) (pre : List (Fin L.length)) : List Df := pre.foldl (fun a i => dstep tol a L[i.1].fr L[i.1].to_ L[i.1].p L[i.1].q) []
theorem dfs_snoc (tol : Int) (L : List St) (pre : List (Fin L.length)) (i : Fin L.length) : dfs tol L (pre ++ [i]) = dstep tol (dfs tol L pre) L[i.1].fr L[i.1].to_ L[i.1].p L[i.1].q := by
  unfold dfs
  rw [List.foldl_append]
  rfl
theorem dfs_len_aux (tol : Int) (L : List St) : ∀ (pre : List (Fin L.length)) (a : List Df), (pre.foldl (fun a i => dstep tol a L[i.1].fr L[i.1].to_ L[i.1].p L[i.1].q) a).length ≤ a.length + pre.length := by
  intro pre
  induction pre with
  | nil => intro a; simp
  | cons i pre ih =>
    intro a
    rw [List.foldl_cons, List.length_cons]
    have h1 := ih (dstep tol a L[i.1].fr L[i.1].to_ L[i.1].p L[i.1].q)
    have h2 := dstep_len tol a L[i.1].fr L[i.1].to_ L[i.1].p L[i.1].q
    omega
theorem dfs_len (tol : Int) (L : List St) (pre : List (Fin L.length)) : (dfs tol L pre).length ≤ pre.length := by
  have := dfs_len_aux tol L pre []
  simpa [dfs] using this
theorem dfs_upto (tol : Int) (L : List St) : ∀ k, k ≤ L.length → dfs tol L (upto L.length k) = (L.take k).foldl (fun a s => dstep tol a s.fr s.to_ s.p s.q) [] := by
  intro k
  induction k with
  | zero => intro _; simp [upto, dfs]
  | succ k ih =>
    intro hk
    have hlt : k < L.length := by omega
    rw [upto_succ ⟨k, hlt⟩, dfs_snoc, ih (by omega), List.take_add_one, List.getElem?_eq_getElem hlt, List.foldl_append]
    rfl
theorem dfs_all (tol : Int) (L : List St) : dfs tol L (List.finRange L.length) = L.foldl (fun a s => dstep tol a s.fr s.to_ s.p s.q) [] := by
  rw [← upto_all, dfs_upto tol L _ (Nat.le_refl _), List.take_length]

/-- What stands while the differences are gathered: the box at n, the row behind it. -/
def cmI (tol : Int) (L : List St) (Wb : World) (n : Nat) (pre : List (Fin L.length)) (W : World) : Prop :=
  (∃ v, Blk W n 67 #[v] ∧ OwnL W (n + 3) 72 2 dfV v (dfs tol L pre)) ∧ Below n Wb W ∧ n + 3 ≤ W.heap.size
theorem cmI_own (tol : Int) (L : List St) (Wb : World) (n B : Nat) (hn : n = Wb.heap.size) (hB : n + 1 ≤ B) : OwnFrom B (cmI tol L Wb n) := fun pre X Y row hs hg hr => by
  obtain ⟨⟨v, h1, h2⟩, h3, h4⟩ := hs
  refine ⟨⟨v, h1.grown hg (fun e => by have := (hr _ e.symm).1; omega), h2.other hg ?_⟩, h3.grown hg (by omega) (fun k e => by have := (hr _ e).1; omega), Nat.le_trans h4 hg.size⟩
  cases hv : v.ownBlock with
  | none => exact .inl rfl
  | some q =>
    refine .inr fun e => ?_
    obtain ⟨-, o, ho, hc⟩ := hr q e.symm
    rcases h2.2 with ⟨rfl, _⟩ | ⟨g', cap', cur', rfl, _, hh', _⟩
    · simp [Value.ownBlock] at hv
    · have : g' = q := by simpa [Value.ownBlock] using hv
      subst this
      rw [ho] at hh'
      injection hh' with hh'
      rw [hh'] at hc
      cases hc
theorem cm_app {tol : Int} {L : List St} {Wb : World} {n m : Nat} {pre : List (Fin L.length)} {W w1 : World} {v v' : Value} {x : Df} {qs : List Df} {tmp : Obj} (hn : n = Wb.heap.size) (h1 : Blk W n 67 #[v]) (h2 : OwnL W (n + 3) 72 2 dfV v qs) (h3 : Below n Wb W) (h4 : n + 3 ≤ W.heap.size)
    (hgrow : (W.alloc tmp).grownBy w1 v.ownBlock) (hown' : w1.ownsRow (n + 3) 72 2 v' m (qs.flatMap dfV ++ dfV x)) (hm : m = qs.length + 1) (he : dfs tol L pre = qs ++ [x]) :
    KeepsOthers W (w1.setCell ⟨n, 0, none⟩ v') ∧ KpC n (n + 1) (n + 2) W (w1.setCell ⟨n, 0, none⟩ v') ∧ cmI tol L Wb n pre (w1.setCell ⟨n, 0, none⟩ v') := by
  have hk1 := h1.kept2 h2 (by omega) hgrow
  have hO : OwnL w1 (n + 3) 72 2 dfV v' (qs ++ [x]) := OwnL.snoc hown' hm
  have hb1 : Below n W w1 := ((Below.refl n W).alloc (by omega) tmp).trans (((h2.below (balloc W tmp)).grown_below (by simp; omega) hgrow).mono (by omega))
  have hb2 : Below n W (w1.setCell ⟨n, 0, none⟩ v') := hb1.setCell (p := ⟨n, 0, none⟩) (Nat.le_refl _) _
  have hblk : ∀ k, k < W.heap.size → n < k → k < n + 3 → (w1.setCell ⟨n, 0, none⟩ v').heap[k]? = W.heap[k]? := by
    intro k hk hk1 hk2
    rw [Below.heap_setCell _ _ _ _ (by show k ≠ n; omega)]
    refine (hgrow.block k (by simp; omega) ?_).trans (Below.heap_alloc W tmp k hk)
    intro e
    have := (h2.lt k e.symm).1
    omega
  refine ⟨((KeepsOthers.alloc W tmp).trans (KeepsOthers.of_grownBy hgrow ?_)).trans (KeepsOthers.setCell _ _ _), ⟨hb2, hblk _ (by omega) (by omega) (by omega), hblk _ (by omega) (by omega) (by omega)⟩, ⟨v', hk1.set_ 0 _, ?_⟩, h3.trans hb2, by have := hb2.size; omega⟩
  · intro j o hj ho
    rcases h2.2 with ⟨rfl, _⟩ | ⟨g', cap', cur', rfl, _, hh', _⟩
    · simp [Value.ownBlock] at hj
    · have : g' = j := by simpa [Value.ownBlock] using hj
      subst this
      have hlt := (h2.lt g' hj).2
      rw [Below.heap_alloc W tmp g' hlt, hh'] at ho
      injection ho with ho
      rw [← ho]
      rfl
  · rw [he]
    refine hO.other (grownBy_setCell' w1 n v') ?_
    cases hv : v'.ownBlock with
    | none => exact .inl rfl
    | some q =>
      have := (hO.lt q hv).1
      exact .inr (by simp; omega)
theorem cm_store {tol : Int} {L : List St} {Wb : World} {n c d gb : Nat} {pre : List (Fin L.length)} {W : World} {ds : List Df} {l : Df} {to_ : Int} (hn : n = Wb.heap.size) (h1 : Blk W n 67 #[.slice (some ⟨gb, 0, none⟩) (ds ++ [l]).length c]) (h2 : OwnL W (n + 3) 72 2 dfV (.slice (some ⟨gb, 0, none⟩) (ds ++ [l]).length c) (ds ++ [l])) (h3 : Below n Wb W) (h4 : n + 3 ≤ W.heap.size) (hd : d = ds.length)
    (he : dfs tol L pre = ds ++ [⟨l.fr, to_⟩]) :
    KeepsOthers W (W.setCell ⟨gb, d * 2 + 1, none⟩ (.int .i64 to_)) ∧ KpC n (n + 1) (n + 2) W (W.setCell ⟨gb, d * 2 + 1, none⟩ (.int .i64 to_)) ∧ cmI tol L Wb n pre (W.setCell ⟨gb, d * 2 + 1, none⟩ (.int .i64 to_)) := by
  subst hd
  have hg := (h2.lt gb rfl).1
  have hll : (ds ++ [l])[ds.length]? = some l := by simp
  have o1 := OwnL.store (i := ds.length) (j := 1) (x' := ⟨l.fr, to_⟩) (u := .int .i64 to_) h2 rfl dfV_len hll (by decide) rfl
  have e9 : (ds ++ [l]).set ds.length ⟨l.fr, to_⟩ = ds ++ [⟨l.fr, to_⟩] := by simp
  rw [e9] at o1
  have hb : Below n W (W.setCell ⟨gb, ds.length * 2 + 1, none⟩ (.int .i64 to_)) := (Below.refl _ _).setCell (p := ⟨gb, ds.length * 2 + 1, none⟩) (by show n ≤ gb; omega) _
  refine ⟨KeepsOthers.setCell _ _ _, ⟨hb, Below.heap_setCell _ _ _ _ (by show n + 1 ≠ gb; omega), Below.heap_setCell _ _ _ _ (by show n + 2 ≠ gb; omega)⟩, ⟨_, h1.far (p := ⟨gb, ds.length * 2 + 1, none⟩) (by show n ≠ gb; omega) _, ?_⟩, h3.trans hb, by simpa using h4⟩
  rw [he]
  exact o1
theorem dstep_yes {tol : Int} {a : List Df} {fr to_ : Int} {p q : Pc} (h : sameT tol p q = true) : dstep tol a fr to_ p q = a := if_pos h
theorem dstep_no {tol : Int} {a : List Df} {fr to_ : Int} {p q : Pc} (h : sameT tol p q = false) : dstep tol a fr to_ p q = dadd a fr to_ := if_neg (by simp [h])
theorem rad_bd {r : Road} (hV : VR r) {p : Pc} (hp : p ∈ r.ps) : 0 ≤ p.rad ∧ p.rad ≤ 2000 := by
  obtain ⟨k, hk⟩ := List.getElem?_of_mem hp
  obtain ⟨hlt, e⟩ := List.getElem?_eq_some_iff.1 hk
  have := hV.ok.at hlt
  rw [e] at this
  by_cases h : p.turn = 0
  · have := this.2.2.2.2.2 h
    omega
  · have := this.2.2.2.2.1 h
    omega

/-- A piece's zero. -/
def zpcs : Array Value := #[.int .i64 0, .int .i64 0, .int .i64 0, .int .i64 0, .int .i64 0]
/-- What is left alone: all that lay below B, and each block of a piece, but that a zero one may come to hold P. -/
def RlP (B : Nat) (P : Array Value) (w w' : World) : Prop := Below B w w' ∧ w.heap.size ≤ w'.heap.size ∧ ∀ g cs, B ≤ g → Blk w g 52 cs → Blk w' g 52 cs ∨ (cs = zpcs ∧ Blk w' g 52 P)
theorem RlP.of_below {B : Nat} {P : Array Value} {w w' : World} (h : Below w.heap.size w w') (hB : B ≤ w.heap.size) : RlP B P w w' := ⟨h.mono hB, h.size, fun g cs _ hb => .inl (hb.below h hb.lt)⟩
theorem RlP.trans {B : Nat} {P : Array Value} {a b c : World} (h : RlP B P a b) (k : RlP B P b c) : RlP B P a c := by
  refine ⟨h.1.trans k.1, Nat.le_trans h.2.1 k.2.1, fun g cs hg hb => ?_⟩
  rcases h.2.2 g cs hg hb with h1 | ⟨rfl, h1⟩
  · exact k.2.2 g cs hg h1
  · rcases k.2.2 g P hg h1 with h2 | ⟨_, h2⟩
    · exact .inr ⟨rfl, h2⟩
    · exact .inr ⟨rfl, h2⟩
instance rlp_ok (P : Array Value) (w0 : World) : Mk7.RelOk (RlP w0.heap.size P) w0 where
  size h := h.2.1
  refl w := ⟨Below.refl _ _, Nat.le_refl _, fun g cs _ h => .inl h⟩
  trans h k := h.trans k
  below h := h.1
  drew := RlP.of_below (bdrewN (Below.refl _ _) 1) (Nat.le_refl _)
def AnyPc (B : Nat) (P : Array Value) (v : Value) (W : World) : Prop := ∃ n, v = .pointer (some ⟨n, 0, none⟩) ∧ B ≤ n ∧ (Blk W n 52 zpcs ∨ Blk W n 52 P)
def StdPc (B : Nat) (P : Array Value) (l : List Value) (v : Value) (W : World) : Prop := ∃ n, l[0]? = some (.pointer (some ⟨n, 0, none⟩)) ∧ B ≤ n ∧ Blk W n 52 P
theorem stays_anypc (B : Nat) (P : Array Value) (v : Value) : Mk7.StR (RlP B P) (AnyPc B P v) := by
  rintro w w' ⟨n, e, hn, h⟩ hr
  refine ⟨n, e, hn, ?_⟩
  rcases h with h | h
  · rcases hr.2.2 n _ hn h with h2 | ⟨_, h2⟩
    · exact .inl h2
    · exact .inr h2
  · rcases hr.2.2 n _ hn h with h2 | ⟨_, h2⟩
    · exact .inr h2
    · exact .inr h2
theorem stays_stdpc (B : Nat) (P : Array Value) (l : List Value) (v : Value) : Mk7.StR (RlP B P) (StdPc B P l v) := by
  rintro w w' ⟨n, e, hn, h⟩ hr
  refine ⟨n, e, hn, ?_⟩
  rcases hr.2.2 n _ hn h with h2 | ⟨_, h2⟩
  · exact h2
  · exact h2
theorem RlP.store {B n : Nat} {x : World} {p0 p1 p2 p3 p4 : Value} (hn : B ≤ n) (h : Blk x n 52 zpcs ∨ Blk x n 52 #[p0, p1, p2, p3, p4]) :
    RlP B #[p0, p1, p2, p3, p4] x (((((x.setCell ⟨n, 0, none⟩ p0).setCell ⟨n, 1, none⟩ p1).setCell ⟨n, 2, none⟩ p2).setCell ⟨n, 3, none⟩ p3).setCell ⟨n, 4, none⟩ p4) ∧ Blk (((((x.setCell ⟨n, 0, none⟩ p0).setCell ⟨n, 1, none⟩ p1).setCell ⟨n, 2, none⟩ p2).setCell ⟨n, 3, none⟩ p3).setCell ⟨n, 4, none⟩ p4) n 52 #[p0, p1, p2, p3, p4] := by
  have hf : Blk (((((x.setCell ⟨n, 0, none⟩ p0).setCell ⟨n, 1, none⟩ p1).setCell ⟨n, 2, none⟩ p2).setCell ⟨n, 3, none⟩ p3).setCell ⟨n, 4, none⟩ p4) n 52 #[p0, p1, p2, p3, p4] := by
    rcases h with h | h
    · exact ((((h.set_ 0 p0).set_ 1 p1).set_ 2 p2).set_ 3 p3).set_ 4 p4
    · exact ((((h.set_ 0 p0).set_ 1 p1).set_ 2 p2).set_ 3 p3).set_ 4 p4
  refine ⟨⟨?_, by simp, fun g cs hg hb => ?_⟩, hf⟩
  · exact (((((Below.refl B x).setCell (p := ⟨n, 0, none⟩) hn p0).setCell (p := ⟨n, 1, none⟩) hn p1).setCell (p := ⟨n, 2, none⟩) hn p2).setCell (p := ⟨n, 3, none⟩) hn p3).setCell (p := ⟨n, 4, none⟩) hn p4
  · by_cases e : g = n
    · subst e
      rcases h with h | h
      · exact .inr ⟨hb.inj h, hf⟩
      · rw [hb.inj h]
        exact .inl hf
    · exact .inl (((((hb.far (p := ⟨n, 0, none⟩) e p0).far (p := ⟨n, 1, none⟩) e p1).far (p := ⟨n, 2, none⟩) e p2).far (p := ⟨n, 3, none⟩) e p3).far (p := ⟨n, 4, none⟩) e p4)
theorem AnyPc.five {B : Nat} {p0 p1 p2 p3 p4 : Value} {W : World} {n : Nat} (h : Blk W n 52 zpcs ∨ Blk W n 52 #[p0, p1, p2, p3, p4]) : ∃ c0 c1 c2 c3 c4, Blk W n 52 #[c0, c1, c2, c3, c4] := by
  rcases h with h | h
  · exact ⟨_, _, _, _, _, h⟩
  · exact ⟨_, _, _, _, _, h⟩

theorem Rd.atD {w : World} {A : Option Addr} {ps : List Df} (h : Rd 2 dfV w A ps) {i : Nat} {p : Df} (hp : ps[i]? = some p) : ∃ b o, A = some ⟨b, o, none⟩ ∧ b < w.heap.size ∧
    w.cell? ⟨b, o + i * 2, none⟩ = some (.int .i64 p.fr) ∧ w.cell? ⟨b, o + i * 2 + 1, none⟩ = some (.int .i64 p.to_) := by
  obtain ⟨b, o, rfl, hlt, hc⟩ := h i p hp
  exact ⟨b, o, rfl, hlt, hc 0 _ rfl, hc 1 _ rfl⟩

set_option maxRecDepth 100000 in
set_option maxHeartbeats 16000000 in
theorem Compare_out (r q : Road) (A B C A' B' C' : Option Addr) (a b c a' b' c' : Nat) (tol : Int) (w : World) (h : RdRoad w r A B C) (h' : RdRoad w q A' B' C') (hv : validB r = true) (hv' : validB q = true) (ho : lenSum r.ps ≠ lenSum q.ps ∨ inB tol 0 2000 = false) :
    Calls Try.prog 37 #[.agg #[.slice A r.ps.length a, .slice B r.cs.length b, .slice C r.js.length c], .agg #[.slice A' q.ps.length a', .slice B' q.cs.length b', .slice C' q.js.length c'], .int .i64 tol] w fun e w' => e = .returned (.tuple #[.slice none 0 0, .int .i64 2]) ∧ Below w.heap.size w w' := by
  obtain ⟨W0, hW0⟩ : ∃ W0, W0 = ((w.alloc (.cells #[.slice A r.ps.length a, .slice B r.cs.length b, .slice C r.js.length c] 26)).alloc (.cells #[.slice A' q.ps.length a', .slice B' q.cs.length b', .slice C' q.js.length c'] 26)).alloc (.cells #[.int .i64 tol] 3) := ⟨_, rfl⟩
  have hR0 : InR w W0 r A B C a b c := by rw [hW0]; exact ((InR.new w r A B C a b c).step (balloc _ _)).step (balloc _ _)
  have hJ0 : Blk W0 (w.heap.size + 1) 26 #[.slice A' q.ps.length a', .slice B' q.cs.length b', .slice C' q.js.length c'] := by rw [hW0]; exact (blk_at _ _ _ _ (by simp)).alloc _
  have hT0 : Blk W0 (w.heap.size + 2) 3 #[.int .i64 tol] := by rw [hW0]; exact blk_at _ _ _ _ (by simp)
  have hq0 := h'.below hR0.below
  have b0 := hR0.box.2 0 _ rfl
  have b1 := hR0.box.2 1 _ rfl
  have b2 := hR0.box.2 2 _ rfl
  have bs := hR0.box.1
  have e0 := hJ0.cell 0
  have e1 := hJ0.cell 1
  have e2 := hJ0.cell 2
  have es := hJ0.lt
  go_enter Try.func37, Try.ntmps37
  go_upto_region 1 with fail
  rw [← hW0]
  clear hW0
  go_upto_region 2 with (go_at_call 71; refine (surveys_any r q A B C A' B' C' a b c a' b' c' _ (hR0.rd h) hq0 hv hv').mono ?_; rintro e W1 ⟨hcase, hb1⟩; have hI1 := hR0.step hb1; have hT1 := hT0.below hb1 hT0.lt; rcases hcase with ⟨hl, M, G, g, M', G', g', rfl, hMe, hMe'⟩ | ⟨hl, rfl⟩)
  · have hb := ho.resolve_left (by omega)
    have c0 := hT1.cell 0
    have cl := hT1.lt
    clear hl ho
    go_wp2_with (go_at_call 53; refine (within_any _ _ _ _).mono ?_; rintro e w' ⟨rfl, rfl⟩)
    go_ret2
    exact ⟨rfl, hI1.below⟩
  · clear hl ho
    go_wp2_with fail
    go_ret2
    exact ⟨rfl, hI1.below⟩

set_option maxRecDepth 100000 in
set_option maxHeartbeats 16000000 in
theorem Compare_good (r q : Road) (A B C A' B' C' : Option Addr) (a b c a' b' c' : Nat) (tol : Int) (w : World) (h : RdRoad w r A B C) (h' : RdRoad w q A' B' C') (hv : validB r = true) (hv' : validB q = true) (ht : lenSum r.ps = lenSum q.ps) (t0 : 0 ≤ tol) (t1 : tol ≤ 2000) :
    Calls Try.prog 37 #[.agg #[.slice A r.ps.length a, .slice B r.cs.length b, .slice C r.js.length c], .agg #[.slice A' q.ps.length a', .slice B' q.cs.length b', .slice C' q.js.length c'], .int .i64 tol] w fun e w' => (∃ v, e = .returned (.tuple #[v, .int .i64 0]) ∧ OwnL w' w.heap.size 72 2 dfV v (cmpL tol r.ps q.ps)) ∧ Below w.heap.size w w' := by
  obtain ⟨j0, hj, hy0, hy1, hy2⟩ := info_parts Try.info72
  obtain ⟨W0, hW0⟩ : ∃ W0, W0 = ((w.alloc (.cells #[.slice A r.ps.length a, .slice B r.cs.length b, .slice C r.js.length c] 26)).alloc (.cells #[.slice A' q.ps.length a', .slice B' q.cs.length b', .slice C' q.js.length c'] 26)).alloc (.cells #[.int .i64 tol] 3) := ⟨_, rfl⟩
  have hR0 : InR w W0 r A B C a b c := by rw [hW0]; exact ((InR.new w r A B C a b c).step (balloc _ _)).step (balloc _ _)
  have hJ0 : Blk W0 (w.heap.size + 1) 26 #[.slice A' q.ps.length a', .slice B' q.cs.length b', .slice C' q.js.length c'] := by rw [hW0]; exact (blk_at _ _ _ _ (by simp)).alloc _
  have hT0 : Blk W0 (w.heap.size + 2) 3 #[.int .i64 tol] := by rw [hW0]; exact blk_at _ _ _ _ (by simp)
  have hq0 := h'.below hR0.below
  have b0 := hR0.box.2 0 _ rfl
  have b1 := hR0.box.2 1 _ rfl
  have b2 := hR0.box.2 2 _ rfl
  have bs := hR0.box.1
  have e0 := hJ0.cell 0
  have e1 := hJ0.cell 1
  have e2 := hJ0.cell 2
  have es := hJ0.lt
  have hVr := VR.of hv
  have hVq := VR.of hv'
  have HV := Lib.hid hv
  have HV' := Lib.hid hv'
  have HT := Lib.hid ht
  have hin : inB tol 0 2000 = true := by simp [inB]; omega
  obtain ⟨L, hL⟩ : ∃ L, L = strs r.ps q.ps := ⟨_, rfl⟩
  have HL : Hid (strs r.ps q.ps = L) := Lib.hid hL.symm
  have hLl : L.length ≤ 4000 := by have := strs_len r.ps q.ps; have := hVr.lp; have := hVq.lp; rw [hL]; omega
  have HM : Hid (∀ s ∈ L, 0 ≤ s.fr ∧ s.fr < s.to_ ∧ s.to_ ≤ lenSum r.ps ∧ s.p ∈ r.ps ∧ s.q ∈ q.ps ∧ s.to_ - s.fr ≤ s.p.len) := Lib.hid (by rw [hL]; exact strs_mem r.ps q.ps (fun p hp => (hVr.ok.okLen p hp).1) (fun p hp => (hVq.ok.okLen p hp).1) ht)
  have HC : Hid (dfs tol L (List.finRange L.length) = cmpL tol r.ps q.ps) := Lib.hid (by rw [dfs_all, hL]; exact cmpL_strs tol r.ps q.ps (fun p hp => (hVr.ok.okLen p hp).1) (fun p hp => (hVq.ok.okLen p hp).1) ht)
  clear hL hv hv' ht
  refine (callsIn_wide (n := 6)).1 ?_
  refine callsIn_of_wp_marks Try.func37 rfl trivial ?_ rfl
  simp only [Try.ntmps37, List.size_toArray, List.length_cons, List.length_nil, Nat.reduceAdd, Nat.reduceSub, Array.replicate_succ, Array.replicate_zero, List.push_toArray, List.append_toArray, List.nil_append, List.cons_append]
  refine wpIn_wide.2 ?_
  go_upto_region 1 with fail
  rw [← hW0]
  clear hW0
  go_upto_region 2 with (go_at_call 71; refine (surveys_any r q A B C A' B' C' a b c a' b' c' _ (hR0.rd h) hq0 HV.out HV'.out).mono ?_; rintro e W1 ⟨hcase, hb1⟩; rcases hcase with ⟨-, M, G, g, M', G', g', rfl, hMe, hMe'⟩ | ⟨hl, rfl⟩; rotate_left; exact absurd HT.out hl; have hI1 := hR0.step hb1; have hT1 := hT0.below hb1 hT0.lt)
  have hTM : TwoM W1 r q A B C A' B' C' a b c a' b' c' G G' g g' M M' := ⟨hMe, hMe', hI1.rd h, hq0.below hb1⟩
  have c0 := hT1.cell 0
  have cl := hT1.lt
  clear b0 b1 b2 bs e0 e1 e2 es
  go_wp2_with (first | (go_at_call 53; refine (within_any _ _ _ _).mono ?_; rintro e w' ⟨rfl, rfl⟩) | (go_at_call 72; refine (stretches_any _ _ _).mono ?_; rintro e w' ⟨rfl, rfl⟩))
  refine (wpIn_wide (n := 6)).1 ?_
  have hsz := hI1.box.1
  have hTl := hT1.lt
  have bV := ((Blk.new W1 67 #[.slice none 0 0]).alloc (.cells #[.pointer (some ⟨M, 0, none⟩)] 89)).alloc (.cells #[.pointer (some ⟨M', 0, none⟩)] 89)
  have bA : Blk (((W1.alloc (.cells #[.slice none 0 0] 67)).alloc (.cells #[.pointer (some ⟨M, 0, none⟩)] 89)).alloc (.cells #[.pointer (some ⟨M', 0, none⟩)] 89)) (W1.heap.size + 1) 89 #[.pointer (some ⟨M, 0, none⟩)] := (blk_at _ _ _ _ (by simp)).alloc _
  have bA2 : Blk (((W1.alloc (.cells #[.slice none 0 0] 67)).alloc (.cells #[.pointer (some ⟨M, 0, none⟩)] 89)).alloc (.cells #[.pointer (some ⟨M', 0, none⟩)] 89)) (W1.heap.size + 2) 89 #[.pointer (some ⟨M', 0, none⟩)] := blk_at _ _ _ _ (by simp)
  have hB0' : Below W1.heap.size W1 (((W1.alloc (.cells #[.slice none 0 0] 67)).alloc (.cells #[.pointer (some ⟨M, 0, none⟩)] 89)).alloc (.cells #[.pointer (some ⟨M', 0, none⟩)] 89)) := bthen (bthen (balloc _ _) (balloc _ _)) (balloc _ _)
  have hs0 : (((W1.alloc (.cells #[.slice none 0 0] 67)).alloc (.cells #[.pointer (some ⟨M, 0, none⟩)] 89)).alloc (.cells #[.pointer (some ⟨M', 0, none⟩)] 89)).heap.size = W1.heap.size + 3 := by simp
  simp only [World.size_alloc, Nat.add_assoc, Nat.reduceAdd]
  obtain ⟨WV, hWV⟩ : ∃ X, ((W1.alloc (.cells #[.slice none 0 0] 67)).alloc (.cells #[.pointer (some ⟨M, 0, none⟩)] 89)).alloc (.cells #[.pointer (some ⟨M', 0, none⟩)] 89) = X := ⟨_, rfl⟩
  rw [hWV] at bV bA bA2 hB0' hs0 ⊢
  clear hWV
  refine wpIn_rangeFunc_ownH rfl (by omega) (gf := 93) (lb := #[.pointer (some ⟨W1.heap.size + 1, 0, none⟩), .pointer (some ⟨W1.heap.size + 2, 0, none⟩)]) rfl trivial (enters_of Try.func93 (by kernel_rfl) rfl)
    (strs_stops Fence.wide (6 - 1) trivial rfl (by omega) (W1.heap.size + 1) (W1.heap.size + 2) M M' r q A B C A' B' C' a b c a' b' c' G G' g g' HV.out HV'.out HT.out W1 WV hTM L HL hB0' bA bA2) KpC.trans (KpC.put (by omega) (by omega) (by omega)) (Below.refl _ _) (fun _ => rfl)
    (cmI tol L W1 W1.heap.size) (fun _ _ _ => False) (cmI_own tol L W1 _ _ rfl (by omega)) (fun _ _ _ _ _ hs _ _ => hs) ⟨⟨_, bV, OwnL.nil _ _ _ _ _⟩, hB0', by omega⟩
    (fun i act W => ∃ Bx, W1.heap.size + 2 < Bx ∧ Blk W Bx 121 #[.int .i64 L[i.1].fr, .int .i64 L[i.1].to_, .int .i64 L[i.1].p.len, .int .i64 L[i.1].p.turn, .int .i64 L[i.1].p.rad, .int .i64 L[i.1].p.wid, .int .i64 L[i.1].p.sur, .int .i64 L[i.1].q.len, .int .i64 L[i.1].q.turn, .int .i64 L[i.1].q.rad, .int .i64 L[i.1].q.wid, .int .i64 L[i.1].q.sur] ∧ act = { tmps := #[.agg #[.slice A r.ps.length a, .slice B r.cs.length b, .slice C r.js.length c], .agg #[.slice A' q.ps.length a', .slice B' q.cs.length b', .slice C' q.js.length c'], .int .i64 tol, .pointer (some ⟨w.heap.size, 0, none⟩), .pointer (some ⟨w.heap.size + 1, 0, none⟩), .pointer (some ⟨w.heap.size + 1 + 1, 0, none⟩), .slice none 0 0, .int .i64 0, .pointer (some ⟨M, 0, none⟩), .pointer (some ⟨M', 0, none⟩), .int .i64 0, .pointer (some ⟨W1.heap.size, 0, none⟩), .pointer (some ⟨Bx, 0, none⟩), undef, undef, undef, .tuple #[.pointer (some ⟨M, 0, none⟩), .pointer (some ⟨M', 0, none⟩), .int .i64 0], .agg #[.slice A r.ps.length a, .slice B r.cs.length b, .slice C r.js.length c], .agg #[.slice A' q.ps.length a', .slice B' q.cs.length b', .slice C' q.js.length c'], .tuple #[.pointer (some ⟨M, 0, none⟩), .pointer (some ⟨M', 0, none⟩), .int .i64 0], .pointer (some ⟨M, 0, none⟩), .pointer (some ⟨M', 0, none⟩), .int .i64 0, .int .i64 0, .bool false, .bool false, .int .i64 tol, .bool true, .bool false, .bool false, .pointer (some ⟨M, 0, none⟩), .pointer (some ⟨M', 0, none⟩), .func (.func 93) #[] #[.pointer (some ⟨W1.heap.size + 1, 0, none⟩), .pointer (some ⟨W1.heap.size + 2, 0, none⟩)], .agg #[.int .i64 L[i.1].fr, .int .i64 L[i.1].to_, .int .i64 L[i.1].p.len, .int .i64 L[i.1].p.turn, .int .i64 L[i.1].p.rad, .int .i64 L[i.1].p.wid, .int .i64 L[i.1].p.sur, .int .i64 L[i.1].q.len, .int .i64 L[i.1].q.turn, .int .i64 L[i.1].q.rad, .int .i64 L[i.1].q.wid, .int .i64 L[i.1].q.sur], undef, undef, undef, undef, undef, undef, undef, undef, undef, undef, undef, undef, undef, undef, undef, undef, undef, undef, undef, undef, undef, undef, undef, undef, undef, undef, undef, undef, undef, undef, undef, undef, undef, undef, undef, undef, undef, undef, undef, undef, undef, undef, undef, undef, undef, undef, undef, undef, undef, undef, undef, undef, undef, undef, undef, undef, undef, undef, undef, undef, undef, undef, undef, undef, undef, undef, undef], defers := [] })
    ?ax ?assign ?body ?done ?stop
  case ax =>
    intro i act _ X Y row hs hg hr'
    obtain ⟨Bx, h1, h2, h3⟩ := hs
    refine ⟨Bx, h1, h2.grown hg (fun e => ?_), h3⟩
    obtain ⟨-, o, ho, hc⟩ := hr' _ e.symm
    rw [show X.heap[Bx]? = _ from h2] at ho
    cases ho
    cases hc
  case assign =>
    rintro l pre i W K hst hK
    obtain ⟨⟨v, h1, h2⟩, h3, h4⟩ := hst
    simp only [encS]
    gi_wp2
    exact hK _ _ ((KeepsOthers.alloc _ _).from _) ⟨(Below.refl _ W).alloc (by omega) _, Below.heap_alloc _ _ _ (by omega), Below.heap_alloc _ _ _ (by omega)⟩ ⟨⟨v, h1.alloc _, h2.below (balloc _ _)⟩, h3.alloc (by omega) _, by simp; omega⟩ ⟨W.heap.size, by omega, Blk.new W 121 _, rfl⟩
  case body =>
    rintro l pre i act W hl ⟨rec, hrec⟩ hst ⟨Bx, hBx', bP, rfl⟩ hlt
    obtain ⟨⟨v, h1, h2⟩, h3, h4⟩ := hst
    have hpl := dfs_len tol L pre
    have HSN := Lib.hid (dfs_snoc tol L pre i)
    have hsm := HM.out L[i.1] (List.getElem_mem i.2)
    obtain ⟨s1, s2, s3, s4, s5, s6⟩ := hsm
    have hr1 := rad_bd hVr s4
    have hr2 := rad_bd hVq s5
    obtain ⟨s, hs⟩ : ∃ x, x = L[i.1] := ⟨_, rfl⟩
    rw [← hs] at s1 s2 s3 s6 hr1 hr2
    clear s4 s5
    simp only [← hs] at bP HSN ⊢
    clear hs
    obtain ⟨fr, to_, ⟨pl, pt, pr, pw, pu⟩, ⟨ql, qt, qr, qw, qu⟩⟩ := s
    simp only at s1 s2 s3 s6 hr1 hr2 bP HSN ⊢
    obtain ⟨u1, u2⟩ := hr1
    obtain ⟨u3, u4⟩ := hr2
    obtain ⟨qs, hqs⟩ : ∃ qs, qs = dfs tol L pre := ⟨_, rfl⟩
    rw [← hqs] at h2 hpl HSN
    have hqn : qs.length ≤ 4000 := by omega
    have HQ := Lib.hid hqs
    clear hqs hpl
    have q0 := bP.cell 0
    have q1 := bP.cell 1
    have q2 := bP.cell 2
    have q3 := bP.cell 3
    have q4 := bP.cell 4
    have q5 := bP.cell 5
    have q6 := bP.cell 6
    have q7 := bP.cell 7
    have q8 := bP.cell 8
    have q9 := bP.cell 9
    have q10 := bP.cell 10
    have q11 := bP.cell 11
    have qL := bP.lt
    gi_upto_region 7 with fail
    refine Mk7.wpIn_region_mk_tail (Rl := RlP W.heap.size #[.int .i64 pl, .int .i64 pt, .int .i64 pr, .int .i64 pw, .int .i64 pu]) 9 (fun j => match j with | 6 => some (fun _ => AnyPc W.heap.size #[.int .i64 pl, .int .i64 pt, .int .i64 pr, .int .i64 pw, .int .i64 pu]) | 7 => some (fun _ => AnyPc W.heap.size #[.int .i64 pl, .int .i64 pt, .int .i64 pr, .int .i64 pw, .int .i64 pu]) | 8 => some (StdPc W.heap.size #[.int .i64 pl, .int .i64 pt, .int .i64 pr, .int .i64 pw, .int .i64 pu]) | _ => none) (fun j => match j with | 8 => [6] | _ => []) (by kernel_rfl) (by kernel_rfl) (by kernel_rfl) (by kernel_rfl) ?hmk ?_
    case hmk =>
      intro j S hS l v
      split at hS <;> first | (injection hS with hS; subst hS; first | exact stays_anypc _ _ _ | exact stays_stdpc _ _ _ _) | cases hS
    simp only [List.take_succ_cons, List.take_zero, List.drop_succ_cons, List.drop_zero]
    refine Mk7.wpM_reads [_, _, _, _, _, _] (_ :: _) _ _ _ (by kernel_rfl) (by intro j hj; rcases (show j = 0 ∨ j = 1 ∨ j = 2 ∨ j = 3 ∨ j = 4 ∨ j = 5 by simp at hj; omega) with rfl | rfl | rfl | rfl | rfl | rfl <;> exact ⟨rfl, rfl⟩) ?_
    repeat (go_big_quiet_step (fail))
    refine wpQuiet_nil ?_
    refine Mk7.wpM_make rfl rfl rfl ?_ ?_
    · intro x hx _
      unfold Mk7.makesAt
      go_simp
      exact ⟨⟨_, rfl, hx.1.size, .inl (Blk.new _ _ _)⟩, (fun q e => by injection e with e; injection e with e; subst e; exact ⟨Nat.le_refl _, by simp⟩), RlP.of_below (balloc _ _) hx.1.size⟩
    rintro v1 ⟨_, x1, hx1, ⟨_, ⟨na, rfl, hna, _⟩, _⟩, _⟩
    go_simp
    refine Mk7.wpM_make rfl rfl rfl ?_ ?_
    · intro x hx _
      unfold Mk7.makesAt
      go_simp
      exact ⟨⟨_, rfl, hx.1.size, .inl (Blk.new _ _ _)⟩, (fun q e => by injection e with e; injection e with e; subst e; exact ⟨Nat.le_refl _, by simp⟩), RlP.of_below (balloc _ _) hx.1.size⟩
    rintro v2 ⟨_, x2, hx2, ⟨_, ⟨nb, rfl, hnb, _⟩, _⟩, _⟩
    go_simp
    refine Mk7.wpM_make rfl rfl rfl ?_ ?_
    · intro x hx hd
      obtain ⟨n', e', hn', hk'⟩ := (hd 6 (by simp)).1.2 rfl
      injection e' with e'
      injection e' with e'
      injection e' with e'
      subst e'
      obtain ⟨c0, c1, c2, c3, c4, hk5⟩ := AnyPc.five (B := W.heap.size) hk'
      have f0 := hk5.frozen 0
      have f1 := hk5.frozen 1
      have f2 := hk5.frozen 2
      have f3 := hk5.frozen 3
      have f4 := hk5.frozen 4
      have z0 := hk5.cell 0
      have z1 := hk5.cell 1
      have z2 := hk5.cell 2
      have z3 := hk5.cell 3
      have z4 := hk5.cell 4
      have kl := hk5.lt
      have hst := RlP.store (x := x) hn' hk'
      unfold Mk7.makesAt
      go_simp
      first | exact ⟨⟨na, rfl, hn', hst.2⟩, hst.1⟩ | exact ⟨na, rfl, hn', hst.2⟩
    rintro v3 _
    go_simp
    refine Mk7.wpM_nil ?_
    rintro W4 hb4 hG
    obtain ⟨⟨⟨_, ⟨m1, em1, hm1, hk1⟩, _⟩, ⟨m2, em2, hm2, hk2⟩, hdf⟩, ⟨m3, em3, hm3, hk3⟩, _⟩ := hG
    have hne := hdf _ (.inr rfl) _ _ rfl rfl
    have em3' : (some (Value.pointer (some ⟨na, 0, none⟩)) : Option Value) = some (.pointer (some ⟨m3, 0, none⟩)) := em3
    injection em3' with em3'
    injection em3' with em3'
    injection em3' with em3'
    injection em3' with em3'
    injection em2 with em2
    injection em2 with em2
    injection em2 with em2
    subst em3' em2
    simp only at hne
    clear hk1 hm1 em1 em3 hdf m1 hx1 hx2 hna hnb
    obtain ⟨c0, c1, c2, c3, c4, hk5⟩ := AnyPc.five (B := W.heap.size) hk2
    have f0 := hk5.frozen 0
    have f1 := hk5.frozen 1
    have f2 := hk5.frozen 2
    have f3 := hk5.frozen 3
    have f4 := hk5.frozen 4
    have z0 := hk5.cell 0
    have z1 := hk5.cell 1
    have z2 := hk5.cell 2
    have z3 := hk5.cell 3
    have z4 := hk5.cell 4
    have kl := hk5.lt
    have hY5 : Blk (((((W4.setCell ⟨nb, 0, none⟩ (.int .i64 ql)).setCell ⟨nb, 1, none⟩ (.int .i64 qt)).setCell ⟨nb, 2, none⟩ (.int .i64 qr)).setCell ⟨nb, 3, none⟩ (.int .i64 qw)).setCell ⟨nb, 4, none⟩ (.int .i64 qu)) nb 52 #[.int .i64 ql, .int .i64 qt, .int .i64 qr, .int .i64 qw, .int .i64 qu] := ((((hk5.set_ 0 _).set_ 1 _).set_ 2 _).set_ 3 _).set_ 4 _
    have hX5 : Blk (((((W4.setCell ⟨nb, 0, none⟩ (.int .i64 ql)).setCell ⟨nb, 1, none⟩ (.int .i64 qt)).setCell ⟨nb, 2, none⟩ (.int .i64 qr)).setCell ⟨nb, 3, none⟩ (.int .i64 qw)).setCell ⟨nb, 4, none⟩ (.int .i64 qu)) na 52 #[.int .i64 pl, .int .i64 pt, .int .i64 pr, .int .i64 pw, .int .i64 pu] := ((((hk3.far (p := ⟨nb, 0, none⟩) hne _).far (p := ⟨nb, 1, none⟩) hne _).far (p := ⟨nb, 2, none⟩) hne _).far (p := ⟨nb, 3, none⟩) hne _).far (p := ⟨nb, 4, none⟩) hne _
    have hb5 : Below W.heap.size W (((((W4.setCell ⟨nb, 0, none⟩ (.int .i64 ql)).setCell ⟨nb, 1, none⟩ (.int .i64 qt)).setCell ⟨nb, 2, none⟩ (.int .i64 qr)).setCell ⟨nb, 3, none⟩ (.int .i64 qw)).setCell ⟨nb, 4, none⟩ (.int .i64 qu)) := ((((hb4.1.setCell (p := ⟨nb, 0, none⟩) hm2 _).setCell (p := ⟨nb, 1, none⟩) hm2 _).setCell (p := ⟨nb, 2, none⟩) hm2 _).setCell (p := ⟨nb, 3, none⟩) hm2 _).setCell (p := ⟨nb, 4, none⟩) hm2 _
    gi_upto_region 8 with fail
    obtain ⟨W5, hW5⟩ : ∃ X, X = (((((W4.setCell ⟨nb, 0, none⟩ (.int .i64 ql)).setCell ⟨nb, 1, none⟩ (.int .i64 qt)).setCell ⟨nb, 2, none⟩ (.int .i64 qr)).setCell ⟨nb, 3, none⟩ (.int .i64 qw)).setCell ⟨nb, 4, none⟩ (.int .i64 qu)) := ⟨_, rfl⟩
    rw [← hW5] at hX5 hY5 hb5 ⊢
    clear hW5 f0 f1 f2 f3 f4 z0 z1 z2 z3 z4 kl hk5 hk2 hk3 hb4 q0 q1 q2 q3 q4 q5 q6 q7 q8 q9 q10 q11 qL hne
    have hT5 := hT1.below (h3.trans (hb5.mono (by omega))) hT1.lt
    have h1' := h1.below hb5 h1.lt
    have h2' := h2.below hb5
    have bP' := bP.below hb5 bP.lt
    have hk7 := keeps_later hb5
    have hkp7 : KpC W1.heap.size (W1.heap.size + 1) (W1.heap.size + 2) W W5 := KpC.of_later hb5 (by omega) (by omega) (by omega)
    have h3' : Below W1.heap.size W1 W5 := h3.trans hkp7.1
    have h4' : W1.heap.size + 3 ≤ W5.heap.size := Nat.le_trans h4 hb5.size
    clear h1 h2 h3 h4 bP hb5
    have x1 := hX5.cell 1
    have x2 := hX5.cell 2
    have x3 := hX5.cell 3
    have x4 := hX5.cell 4
    have xl := hX5.lt
    have y1 := hY5.cell 1
    have y2 := hY5.cell 2
    have y3 := hY5.cell 3
    have y4 := hY5.cell 4
    have yl := hY5.lt
    have c0' := hT5.cell 0
    have cl' := hT5.lt
    gi_cut [69] from 40 (fun c wx => c = .bool (sameT tol ⟨pl, pt, pr, pw, pu⟩ ⟨ql, qt, qr, qw, qu⟩) ∧ wx = W5)
    case first =>
      have e5 : IntKind.i64.wrap (pr - qr) = pr - qr := IntWalk.i64_in _ (by omega)
      have e6 : IntKind.i64.wrap (-tol) = -tol := IntWalk.i64_in _ (by omega)
      by_cases g1 : pt = qt
      · have g1' : (pt == qt) = true := by simpa using g1
        cases g2 : inB (pr - qr) (-tol) tol
        · have HR : Hid (sameT tol ⟨pl, pt, pr, pw, pu⟩ ⟨ql, qt, qr, qw, qu⟩ = false) := Lib.hid (by simp [sameT, g2])
          clear g1
          gi_wp2_with (first | (gi_at_call 53; refine (CallsIn.inRound _ (callsIn_wide.2 (within_any _ _ _ _))).mono ?_; rintro e w' ⟨rfl, rfl⟩))
          gi_meet
          exact ⟨by rw [HR.out], rfl⟩
        · by_cases g3 : pw = qw
          · have g3' : (pw == qw) = true := by simpa using g3
            have HR : Hid (sameT tol ⟨pl, pt, pr, pw, pu⟩ ⟨ql, qt, qr, qw, qu⟩ = decide (pu = qu)) := Lib.hid (by simp [sameT, g1, g2, g3])
            clear g1 g3
            gi_wp2_with (first | (gi_at_call 53; refine (CallsIn.inRound _ (callsIn_wide.2 (within_any _ _ _ _))).mono ?_; rintro e w' ⟨rfl, rfl⟩))
            gi_meet
            exact ⟨by rw [HR.out]; rfl, rfl⟩
          · have g3' : (pw == qw) = false := by simpa using g3
            have HR : Hid (sameT tol ⟨pl, pt, pr, pw, pu⟩ ⟨ql, qt, qr, qw, qu⟩ = false) := Lib.hid (by simp [sameT, g3])
            clear g1 g3
            gi_wp2_with (first | (gi_at_call 53; refine (CallsIn.inRound _ (callsIn_wide.2 (within_any _ _ _ _))).mono ?_; rintro e w' ⟨rfl, rfl⟩))
            gi_meet
            exact ⟨by rw [HR.out], rfl⟩
      · have g1' : (pt == qt) = false := by simpa using g1
        have HR : Hid (sameT tol ⟨pl, pt, pr, pw, pu⟩ ⟨ql, qt, qr, qw, qu⟩ = false) := Lib.hid (by simp [sameT, g1])
        clear g1
        gi_wp2_with fail
        gi_meet
        exact ⟨by rw [HR.out], rfl⟩
    case rest =>
      obtain ⟨rfl, hwc⟩ := hcut
      obtain rfl : W5 = wc := hwc.symm
      cases hsame : sameT tol ⟨pl, pt, pr, pw, pu⟩ ⟨ql, qt, qr, qw, qu⟩
      case true =>
        have hst' : cmI tol L W1 W1.heap.size (pre ++ [i]) W5 := ⟨⟨_, h1', by rw [HSN.out, dstep_yes hsame]; exact h2'⟩, h3', h4'⟩
        gi_wp2_with fail
        exact ⟨hk7.from _, hkp7, hst'⟩
      have HE : Hid (dfs tol L (pre ++ [i]) = dadd qs fr to_) := Lib.hid (by rw [HSN.out, dstep_no hsame])
      clear hsame x1 x2 x3 x4 xl y1 y2 y3 y4 yl c0' cl'
      obtain ⟨VA, vc, rfl⟩ := h2'.form
      have m0 := h1'.cell 0
      have mf := h1'.frozen 0
      have ml := h1'.lt
      have q0 := bP'.cell 0
      have q1 := bP'.cell 1
      have qL := bP'.lt
      rcases List.eq_nil_or_concat qs with rfl | ⟨ds, l, hd⟩
      · simp only [List.length_nil] at m0 h1' h2' ⊢
        gi_upto_region 10 with fail
        refine wpIn_region_later (by kernel_rfl) (by kernel_rfl) (by kernel_rfl) ?_
        repeat (gi_big_quiet_step (fail))
        refine wpQuietIn_nil ?_
        rintro _ ⟨z, rfl⟩
        have hbz := z.b
        obtain ⟨Wz, hWz⟩ : ∃ X, X = z.w := ⟨_, rfl⟩
        rw [← hWz] at hbz ⊢
        clear hWz m0 mf ml q0 q1 qL
        have h1z := h1'.below hbz h1'.lt
        have h2z : OwnL Wz (W1.heap.size + 3) 72 2 dfV (.slice VA 0 vc) ([] : List Df) := h2'.below hbz
        have bPz := bP'.below hbz bP'.lt
        have hkz := hk7.trans (keeps_later hbz)
        have hkpz := hkp7.trans (KpC.of_later hbz (by omega) (by omega) (by omega))
        have h3z : Below W1.heap.size W1 Wz := h3'.trans (hbz.mono (by omega))
        have h4z : W1.heap.size + 3 ≤ Wz.heap.size := Nat.le_trans h4' hbz.size
        have m0 := h1z.cell 0
        have mf := h1z.frozen 0
        have ml := h1z.lt
        have q0 := bPz.cell 0
        have q1 := bPz.cell 1
        have qL := bPz.lt
        have h2o : Wz.ownsRow (W1.heap.size + 3) 72 2 (.slice VA 0 vc) 0 (([] : List Df).flatMap dfV) := h2z
        gi_wp2_with (first | (gi_at_builtin; refine wpListIn_append_own _ rfl _ _ 67 rfl (W1.heap.size + 3) 72 j0 _ 2 16 Try.underlying67 hj hy0 hy1 hy2 rfl (by decide) (.slice VA 0 vc) 0 (([] : List Df).flatMap dfV) rfl (World.ownsRow.alloc h2o _) ⟨Wz.heap.size, 0, none⟩ 1 1 (dfV ⟨fr, to_⟩) rfl rfl (cells_new _ (dfV ⟨fr, to_⟩) _ _ rfl) (by simp [dfV, Value.oneCell']) (by simp only [maxLen]; omega) (by omega) (by simp; omega) ?_; intro v' w1 hown' hgrow _; obtain ⟨g9, c9, rfl, _, _⟩ := World.ownsRow.form hown' (by omega); have hk1 := h1z.kept2 h2z (by omega) hgrow; have z0 := hk1.cell 0; have z1 := hk1.frozen 0; have zl := hk1.lt))
        obtain ⟨r1, r2, r3⟩ := cm_app (L := L) (tol := tol) (pre := pre ++ [i]) (n := W1.heap.size) (x := ⟨fr, to_⟩) rfl h1z h2z h3z h4z hgrow hown' rfl (by rw [HE.out]; simp [dadd])
        exact ⟨(hkz.trans r1).from _, hkpz.trans r2, r3⟩
      · rw [List.concat_eq_append] at hd
        subst hd
        obtain ⟨d, hd'⟩ : ∃ d, d = ds.length := ⟨_, rfl⟩
        have hdl : (ds ++ [l]).length = d + 1 := by simp [hd']
        have hll : (ds ++ [l])[d]? = some l := by simp [hd']
        obtain ⟨gb, hU1, hgb, hgbl, hfz⟩ := h2'.addr (by omega)
        subst hU1
        obtain ⟨b7, o7, e7, _, l0, l1⟩ := (h2'.rd dfV_len).atD hll
        injection e7 with e7
        injection e7 with e7 e8
        subst e7 e8
        simp only [Nat.zero_add] at l0 l1
        have hdn : d ≤ 4000 := by omega
        have m0' : W5.cell? ⟨W1.heap.size, 0, none⟩ = some (.slice (some ⟨gb, 0, none⟩) (d + 1) vc) := by rw [← hdl]; exact m0
        have HDL := Lib.hid hdl
        have HD := Lib.hid hd'
        have HLL := Lib.hid hll
        have fz1 := hfz (d * 2 + 1)
        clear hdl hd' hll m0 hfz
        have q2 : IntKind.i64.wrap (((d : Int) + 1) - 1) = (d : Int) := by rw [IntWalk.i64_in _ (by omega)]; omega
        have q3 : 0 ≤ (d : Int) := by omega
        have q4 : ((d : Int)).toNat = d := by omega
        have q5 : (d : Int) < (d : Int) + 1 := by omega
        have q6 : decide ((0 : Int) < (d : Int) + 1) = true := by rw [decide_eq_true_eq]; omega
        by_cases heq : l.to_ = fr
        · have hq1 : (l.to_ == fr) = true := by simpa using heq
          have HEQ := Lib.hid heq
          clear heq
          gi_upto_region 10 with fail
          refine wpIn_region_later (by kernel_rfl) (by kernel_rfl) (by kernel_rfl) ?_
          repeat (gi_big_quiet_step (fail))
          refine wpQuietIn_nil ?_
          rintro _ ⟨z, rfl⟩
          have hbz := z.b
          obtain ⟨Wz, hWz⟩ : ∃ X, X = z.w := ⟨_, rfl⟩
          rw [← hWz] at hbz ⊢
          have m0z : Wz.cell? ⟨W1.heap.size, 0, none⟩ = some (.slice (some ⟨gb, 0, none⟩) (d + 1) vc) := (hbz.cell (p := ⟨W1.heap.size, 0, none⟩) ml).trans m0'
          have l1z : Wz.cell? ⟨gb, d * 2 + 1, none⟩ = some (.int .i64 l.to_) := (hbz.cell (p := ⟨gb, d * 2 + 1, none⟩) hgbl).trans l1
          have fzz : Wz.frozen? ⟨gb, d * 2 + 1, none⟩ = false := (hbz.frozen (p := ⟨gb, d * 2 + 1, none⟩) hgbl).trans fz1
          have hgz := Nat.lt_of_lt_of_le hgbl hbz.size
          clear hWz m0' mf ml q0 q1 qL l0 l1 fz1
          have h1z := h1'.below hbz h1'.lt
          have h2z := h2'.below hbz
          have bPz := bP'.below hbz bP'.lt
          have hkz := hk7.trans (keeps_later hbz)
          have hkpz := hkp7.trans (KpC.of_later hbz (by omega) (by omega) (by omega))
          have h3z : Below W1.heap.size W1 Wz := h3'.trans (hbz.mono (by omega))
          have h4z : W1.heap.size + 3 ≤ Wz.heap.size := Nat.le_trans h4' hbz.size
          have ml := h1z.lt
          have q0 := bPz.cell 0
          have q1 := bPz.cell 1
          have qL := bPz.lt
          gi_wp2_with fail
          obtain ⟨r1, r2, r3⟩ := cm_store (L := L) (tol := tol) (pre := pre ++ [i]) (n := W1.heap.size) (to_ := to_) rfl h1z h2z h3z h4z HD.out (by rw [HE.out, dadd_same _ _ _ _ HEQ.out])
          exact ⟨(hkz.trans r1).from _, hkpz.trans r2, r3⟩
        · have hq1 : (l.to_ == fr) = false := by simpa using heq
          have HEQ := Lib.hid heq
          clear heq
          gi_upto_region 10 with fail
          refine wpIn_region_later (by kernel_rfl) (by kernel_rfl) (by kernel_rfl) ?_
          repeat (gi_big_quiet_step (fail))
          refine wpQuietIn_nil ?_
          rintro _ ⟨z, rfl⟩
          have hbz := z.b
          obtain ⟨Wz, hWz⟩ : ∃ X, X = z.w := ⟨_, rfl⟩
          rw [← hWz] at hbz ⊢
          have m0z : Wz.cell? ⟨W1.heap.size, 0, none⟩ = some (.slice (some ⟨gb, 0, none⟩) (d + 1) vc) := (hbz.cell (p := ⟨W1.heap.size, 0, none⟩) ml).trans m0'
          clear hWz m0' mf ml q0 q1 qL l0 l1 fz1
          have h1z := h1'.below hbz h1'.lt
          have h2z := h2'.below hbz
          have bPz := bP'.below hbz bP'.lt
          have hkz := hk7.trans (keeps_later hbz)
          have hkpz := hkp7.trans (KpC.of_later hbz (by omega) (by omega) (by omega))
          have h3z : Below W1.heap.size W1 Wz := h3'.trans (hbz.mono (by omega))
          have h4z : W1.heap.size + 3 ≤ Wz.heap.size := Nat.le_trans h4' hbz.size
          have mf := h1z.frozen 0
          have ml := h1z.lt
          have q0 := bPz.cell 0
          have q1 := bPz.cell 1
          have qL := bPz.lt
          have h2o : Wz.ownsRow (W1.heap.size + 3) 72 2 (.slice (some ⟨gb, 0, none⟩) (d + 1) vc) (d + 1) ((ds ++ [l]).flatMap dfV) := by
            have := h2z
            unfold OwnL at this
            rwa [HDL.out] at this
          rw [HDL.out] at h1z h2z
          gi_wp2_with (first | (gi_at_builtin; refine wpListIn_append_own _ rfl _ _ 67 rfl (W1.heap.size + 3) 72 j0 _ 2 16 Try.underlying67 hj hy0 hy1 hy2 rfl (by decide) (.slice (some ⟨gb, 0, none⟩) (d + 1) vc) (d + 1) ((ds ++ [l]).flatMap dfV) rfl (World.ownsRow.alloc h2o _) ⟨Wz.heap.size, 0, none⟩ 1 1 (dfV ⟨fr, to_⟩) rfl rfl (cells_new _ (dfV ⟨fr, to_⟩) _ _ rfl) (by simp [dfV, Value.oneCell']) (by simp only [maxLen]; omega) (by omega) (by simp; omega) ?_; intro v' w1 hown' hgrow _; obtain ⟨g9, c9, rfl, _, _⟩ := World.ownsRow.form hown' (by omega); have hk1 := h1z.kept2 h2z (by omega) hgrow; have z0 := hk1.cell 0; have z1 := hk1.frozen 0; have zl := hk1.lt))
          obtain ⟨r1, r2, r3⟩ := cm_app (L := L) (tol := tol) (pre := pre ++ [i]) (n := W1.heap.size) (x := ⟨fr, to_⟩) rfl h1z h2z h3z h4z hgrow hown' (by rw [HDL.out]) (by rw [HE.out, dadd_new _ _ _ _ HEQ.out])
          exact ⟨(hkz.trans r1).from _, hkpz.trans r2, r3⟩
  case done =>
    rintro D xs W hD rfl hst hK
    obtain ⟨⟨v0, h1, h2⟩, h3, h4⟩ := hst
    rw [HC.out] at h2
    have m0 := h1.cell 0
    have ml := h1.lt
    have hI := hI1.step h3
    go_wp2_with fail
    refine ⟨by simp, .inl ⟨_, _, rfl, run_takeDeferred hK, ?_⟩⟩
    exact ⟨_, results_tmp2 rfl _ _ _, ⟨_, rfl, (h2.base_mono (by have := hI1.below.size; omega)).putObj hK _⟩, hI.below.trans (belowK_b (w := WV) (by have := hI1.below.size; omega) _ D _ _ hD hK rfl rfl)⟩
  case stop =>
    rintro D c pre W hD hpre hF
    exact hF.elim

end Go.Proofs.Ytbdjmaogbpdkpaa

import Derived.Test.YtbdjmaogbpdkpaaGrpB
import Derived.Test.YtbdjmaogbpdkpaaTwo
import Derived.Sort.CutIn
namespace Go.Proofs.Ytbdjmaogbpdkpaa
open Go.RowKit Go.Shelf
attribute [local go_sem] wide_fn wide_depth Oper.semAt_some Later.cell Later.cell1 Later.new1 Later.frozen Later.frozen1 Two.cell

/-- The bend that a piece is, if it is one. -/
def bdOf (p : Pc) (at_ : Int) : Option Bd := if p.turn = 0 then none else some ⟨p, at_⟩
def bnds (r : Road) (pre : List (Fin r.ps.length)) : List Bd := pre.filterMap fun i => bdOf r.ps[i.1] (lenSum (r.ps.take i.1))
theorem bnds_snoc (r : Road) (pre : List (Fin r.ps.length)) (i : Fin r.ps.length) : bnds r (pre ++ [i]) = bnds r pre ++ (bdOf r.ps[i.1] (lenSum (r.ps.take i.1))).toList := by
  unfold bnds
  rw [List.filterMap_append]
  congr 1
theorem bnds_len (r : Road) (pre : List (Fin r.ps.length)) : (bnds r pre).length ≤ pre.length := List.length_filterMap_le _ _
theorem bnds_ok (r : Road) (h : okPs r) (pre : List (Fin r.ps.length)) : ∀ x ∈ bnds r pre, okBd x ∧ 5 ≤ x.p.rad ∧ x.p.rad ≤ 2000 := by
  intro x hx
  unfold bnds at hx
  obtain ⟨i, _, hi⟩ := List.mem_filterMap.1 hx
  have h1 := h.at i.2
  have h2 := h.beg i.1
  unfold bdOf at hi
  split at hi
  · cases hi
  · rename_i hne
    injection hi with hi
    subst hi
    exact ⟨⟨h1.1, h1.2.1, h1.2.2.1, h1.2.2.2.1, h2.1, h2.2⟩, h1.2.2.2.2.1 hne⟩

/-- What stands while the bends are gathered: the box at n, the row behind it. -/
def corI (r : Road) (Wb : World) (n : Nat) (pre : List (Fin r.ps.length)) (W : World) : Prop :=
  (∃ v, Blk W n 96 #[v] ∧ OwnL W (n + 2) 101 6 bdV v (bnds r pre)) ∧ Below n Wb W ∧ n + 2 ≤ W.heap.size
theorem corI_own (r : Road) (Wb : World) (n B : Nat) (hn : n = Wb.heap.size) (hB : n + 1 ≤ B) : OwnFrom B (corI r Wb n) := fun pre X Y row hs hg hr => by
  obtain ⟨⟨v, h1, h2⟩, h3, h4⟩ := hs
  refine ⟨⟨v, h1.grown hg (fun e => by have := (hr _ e.symm).1; omega), h2.other hg ?_⟩, h3.grown hg (by omega) (fun k e => by have := (hr _ e).1; omega), Nat.le_trans h4 hg.size⟩
  cases hv : v.ownBlock with
  | none => exact .inl rfl
  | some q =>
    refine .inr fun e => ?_
    obtain ⟨-, o, ho, hc⟩ := hr q e.symm
    rcases h2.2 with ⟨rfl, _⟩ | ⟨g', cap', cur', rfl, _, hh', _⟩
    · simp [Value.ownBlock] at hv
    · have : g' = q := by simpa [Value.ownBlock] using hv
      subst this
      rw [ho] at hh'
      injection hh' with hh'
      rw [hh'] at hc
      cases hc

theorem Blk.kept2 {W w1 : World} {n : Nat} {t : TypeId} {cs : Array Value} {e : TypeId} {k : Nat} {α : Type} {f : α → List Value} {v : Value} {xs : List α} {m : Nat} {tmp : Obj} (h1 : Blk W n t cs) (h2 : OwnL W m e k f v xs) (hm : n < m) (hg : (W.alloc tmp).grownBy w1 v.ownBlock) : Blk w1 n t cs :=
  (h1.alloc tmp).grown hg fun e => by have := (h2.lt n e.symm).1; omega
theorem cor_round {r : Road} {Wb : World} {n m B : Nat} {pre : List (Fin r.ps.length)} {i : Fin r.ps.length} {W w1 : World} {v v' : Value} {x : Bd} {bs : List Bd} {tmp : Obj} (hn : n = Wb.heap.size) (h1 : Blk W n 96 #[v]) (h2 : OwnL W (n + 2) 101 6 bdV v bs) (h3 : Below n Wb W) (h4 : n + 2 ≤ W.heap.size)
    (hgrow : (W.alloc tmp).grownBy w1 v.ownBlock) (hown' : w1.ownsRow (n + 2) 101 6 v' m (bs.flatMap bdV ++ bdV x)) (hm : m = bs.length + 1) (hbs : bs = bnds r pre) (he : bdOf r.ps[i.1] (lenSum (r.ps.take i.1)) = some x) :
    KeepsFrom B W (w1.setCell ⟨n, 0, none⟩ v') ∧ KpB n (n + 1) W (w1.setCell ⟨n, 0, none⟩ v') ∧ corI r Wb n (pre ++ [i]) (w1.setCell ⟨n, 0, none⟩ v') := by
  subst hbs
  have hk1 := h1.kept2 h2 (by omega) hgrow
  have hO : OwnL w1 (n + 2) 101 6 bdV v' (bnds r pre ++ [x]) := OwnL.snoc hown' hm
  have hb1 : Below n W w1 := ((Below.refl n W).alloc (by omega) tmp).trans (((h2.below (balloc W tmp)).grown_below (by simp; omega) hgrow).mono (by omega))
  have hb2 : Below n W (w1.setCell ⟨n, 0, none⟩ v') := hb1.setCell (p := ⟨n, 0, none⟩) (Nat.le_refl _) _
  refine ⟨(((KeepsOthers.alloc W tmp).trans (KeepsOthers.of_grownBy hgrow ?_)).trans (KeepsOthers.setCell _ _ _)).from _, ⟨hb2, ?_⟩, ⟨v', hk1.set_ 0 _, ?_⟩, h3.trans hb2, by have := hb2.size; omega⟩
  · intro j o hj ho
    rcases h2.2 with ⟨rfl, _⟩ | ⟨g', cap', cur', rfl, _, hh', _⟩
    · simp [Value.ownBlock] at hj
    · have : g' = j := by simpa [Value.ownBlock] using hj
      subst this
      have hlt := (h2.lt g' hj).2
      rw [Below.heap_alloc W tmp g' hlt, hh'] at ho
      injection ho with ho
      rw [← ho]
      rfl
  · rw [Below.heap_setCell _ _ _ _ (by simp)]
    refine (hgrow.block (n + 1) (by simp; omega) ?_).trans (Below.heap_alloc W tmp (n + 1) (by omega))
    intro e
    have := (h2.lt (n + 1) e.symm).1
    omega
  · rw [bnds_snoc, he]
    refine hO.other (grownBy_setCell' w1 n v') ?_
    cases hv : v'.ownBlock with
    | none => exact .inl rfl
    | some q =>
      have := (hO.lt q hv).1
      exact .inr (by simp; omega)

theorem OwnL.putObj {α : Type} {w : World} {b : Nat} {e : TypeId} {k : Nat} {f : α → List Value} {v : Value} {xs : List α} (h : OwnL w b e k f v xs) {D : Nat} {x : Option (List Deferred)} (hD : w.heap[D]? = some (.deferred x)) (o : Obj) : OwnL (w.putObj D o) b e k f v xs := by
  refine h.other (grownBy_putObj' _ D _) ?_
  rcases h.2 with ⟨e1, _⟩ | ⟨g', cap', cur', e1, _, hh', _⟩
  · rw [e1]; exact .inl rfl
  · rw [e1]
    refine .inr fun e => ?_
    have : g' = D := by simpa [Value.ownBlock] using e
    subst this
    rw [hD] at hh'
    cases hh'
def minR (g : List Bd) (m0 : Int) : Int := g.foldl (fun m b => min m b.p.rad) m0
def turnS (g : List Bd) : Int := (g.map fun b => trn b.p.turn b.p.rad b.p.len).sum
theorem minR_take (g : List Bd) (j : Nat) (b : Bd) (h : g[j]? = some b) (m0 : Int) : minR (g.take (j + 1)) m0 = min (minR (g.take j) m0) b.p.rad := by
  unfold minR
  rw [List.take_add_one, h, List.foldl_append]
  rfl
theorem turnS_take (g : List Bd) (j : Nat) (b : Bd) (h : g[j]? = some b) : turnS (g.take (j + 1)) = turnS (g.take j) + trn b.p.turn b.p.rad b.p.len := by
  unfold turnS
  rw [List.take_add_one, h, List.map_append, List.sum_append]
  simp
theorem turnS_bd (g : List Bd) (hg : ∀ x ∈ g, okBd x ∧ 5 ≤ x.p.rad ∧ x.p.rad ≤ 2000) : -(5000001 * g.length) ≤ turnS g ∧ turnS g ≤ 5000001 * g.length := by
  induction g with
  | nil => simp [turnS]
  | cons b g ih =>
    have h1 := ih (fun x hx => hg x (by simp [hx]))
    obtain ⟨⟨b1, b2, b3, b4, b5, b6⟩, b7, b8⟩ := hg b (by simp)
    have h2 := trn_bd b.p.turn b.p.rad b.p.len (by omega) b3 b4 (fun _ => ⟨b7, b8⟩)
    simp only [turnS, List.map_cons, List.sum_cons, List.length_cons] at h1 ⊢
    omega
theorem minR_bd (g : List Bd) (hg : ∀ x ∈ g, okBd x ∧ 5 ≤ x.p.rad ∧ x.p.rad ≤ 2000) : ∀ m0, 5 ≤ m0 → m0 ≤ 2000 → 5 ≤ minR g m0 ∧ minR g m0 ≤ 2000 := by
  induction g with
  | nil => intro m0 h0 h1; exact ⟨h0, h1⟩
  | cons b g ih =>
    intro m0 h0 h1
    have := (hg b (by simp)).2
    exact ih (fun x hx => hg x (by simp [hx])) (min m0 b.p.rad) (by omega) (by omega)
def coG (a z : Bd) (g : List Bd) : Co := ⟨a.fr, z.fr + z.p.len, z.p.turn, minR g z.p.rad, a.p.rad, z.p.rad, max (turnS g) (-turnS g)⟩
def keepG (least : Int) (g : List Bd) : Option Co :=
  match g.head?, g.getLast? with
  | some a, some z => if least ≤ max (turnS g) (-turnS g) then some (coG a z g) else none
  | _, _ => none
theorem keepG_of (least : Int) (g : List Bd) (a z : Bd) (ha : g[0]? = some a) (hz : g[g.length - 1]? = some z) : keepG least g = if least ≤ max (turnS g) (-turnS g) then some (coG a z g) else none := by
  unfold keepG
  rw [List.head?_eq_getElem?, ha, List.getLast?_eq_getElem?, hz]
/-- The corners of a road, by its groups of bends. -/
def cornersG (r : Road) (gap least : Int) : List Co := (grouped (tgB gap) (bnds r (List.finRange r.ps.length))).filterMap (keepG least)

set_option maxRecDepth 100000 in
set_option maxHeartbeats 4000000 in
theorem corners_walk (r : Road) (A B C : Option Addr) (a b c : Nat) (gap least : Int) (w : World) (h : RdRoad w r A B C) (hv : validB r = true) (hg0 : 0 ≤ gap) (hg1 : gap ≤ 1000) (hl0 : 1 ≤ least) (hl1 : least ≤ 10000) :
    Calls Try.prog 25 #[.agg #[.slice A r.ps.length a, .slice B r.cs.length b, .slice C r.js.length c], .agg #[.int .i64 gap, .int .i64 least]] w fun e w' => (∃ v, e = .returned (.tuple #[v, .int .i64 0]) ∧ OwnL w' w.heap.size 50 7 coV v (cornersG r gap least)) ∧ Below w.heap.size w w' := by
  have hE := checkE_true hv
  have hok := (validB_ok hv).1
  have hlen := hok.2
  clear hv
  obtain ⟨j0, hj, hy0, hy1, hy2⟩ := info_parts Try.info101
  obtain ⟨i0, hi, hz0, hz1, hz2⟩ := info_parts Try.info50
  have t1 : inB gap 0 1000 = true := by simp [inB]; omega
  have t2 : inB least 1 10000 = true := by simp [inB]; omega
  have hR0 : InR w ((w.alloc (.cells #[.slice A r.ps.length a, .slice B r.cs.length b, .slice C r.js.length c] 26)).alloc (.cells #[.int .i64 gap, .int .i64 least] 41)) r A B C a b c := (InR.new w r A B C a b c).step (balloc _ _)
  have hB0 : Box ((w.alloc (.cells #[.slice A r.ps.length a, .slice B r.cs.length b, .slice C r.js.length c] 26)).alloc (.cells #[.int .i64 gap, .int .i64 least] 41)) (w.heap.size + 1) [.int .i64 gap, .int .i64 least] := by
    have := Box.new (w.alloc (.cells #[.slice A r.ps.length a, .slice B r.cs.length b, .slice C r.js.length c] 26)) [.int .i64 gap, .int .i64 least] 41
    rwa [World.size_alloc] at this
  refine (callsIn_wide (n := 6)).1 ?_
  refine callsIn_of_wp_marks Try.func25 rfl trivial ?_ rfl
  simp only [Try.ntmps25, List.size_toArray, List.length_cons, List.length_nil, Nat.reduceAdd, Nat.reduceSub, Array.replicate_succ, Array.replicate_zero, List.push_toArray, List.append_toArray, List.nil_append, List.cons_append]
  gi_wp2_with (first | (gi_at_call 48; refine (callsIn_wide.2 (check_any r A B C a b c _ (hR0.rd h))).mono ?_; rintro e W2 ⟨rfl, hb⟩; have hI := hR0.step hb; have hBx := hB0.below hb; have b0 := hI.box.2 0 _ rfl; have b1 := hI.box.2 1 _ rfl; have b2 := hI.box.2 2 _ rfl; have l0 := hBx.2 0 _ rfl; have l1 := hBx.2 1 _ rfl) | (gi_at_call 53; refine (callsIn_wide.2 (within_any _ _ _ _)).mono ?_; rintro e w' ⟨rfl, rfl⟩) | (gi_at_call 52; refine (callsIn_wide.2 (measure_ok r A B C a b c _ (hI.rd h) hok)).mono ?_; rintro e W3 ⟨M, G, g, rfl, hM1, hb3, hMe⟩; replace hI := hI.step hb3; replace hBx := hBx.below hb3; clear l0 l1 b0 b1 b2) | (gi_at_call 58; refine (callsIn_wide.2 (all_any _ _)).mono ?_; rintro e w' ⟨rfl, rfl⟩))
  have hsz := hI.box.1
  have hsz1 := hBx.1
  have bV := (Blk.new W3 96 #[.slice none 0 0]).alloc (.cells #[.pointer (some ⟨M, 0, none⟩)] 89)
  have bA := Blk.new (W3.alloc (.cells #[.slice none 0 0] 96)) 89 #[.pointer (some ⟨M, 0, none⟩)]
  simp only [World.size_alloc] at bA
  have hB0' : Below W3.heap.size W3 ((W3.alloc (.cells #[.slice none 0 0] 96)).alloc (.cells #[.pointer (some ⟨M, 0, none⟩)] 89)) := bthen (balloc _ _) (balloc _ _)
  have hs0 : ((W3.alloc (.cells #[.slice none 0 0] 96)).alloc (.cells #[.pointer (some ⟨M, 0, none⟩)] 89)).heap.size = W3.heap.size + 2 := by simp
  obtain ⟨W0, hW0⟩ : ∃ W0, (W3.alloc (.cells #[.slice none 0 0] 96)).alloc (.cells #[.pointer (some ⟨M, 0, none⟩)] 89) = W0 := ⟨_, rfl⟩
  rw [hW0] at bV bA hB0' hs0 ⊢
  clear hW0
  refine wpIn_rangeFunc_ownH rfl (by omega) (gf := 88) (lb := #[.pointer (some ⟨W3.heap.size + 1, 0, none⟩)]) rfl trivial (enters_of Try.func88 (by kernel_rfl) rfl)
    (all_stops Fence.wide (6 - 1) trivial rfl (by omega) (W3.heap.size + 1) M r A B C a b c G g (by have := hok.2; omega) W3 W0 hB0' bA hMe (hI.rd h)) KpB.trans (KpB.put (by omega) (by omega)) (Below.refl _ _) (fun _ => rfl)
    (corI r W3 W3.heap.size) (fun _ _ _ => False) (corI_own r W3 _ _ rfl (by omega)) (fun _ _ _ _ _ hs _ _ => hs) ⟨⟨_, bV, OwnL.nil _ _ _ _ _⟩, hB0', by omega⟩
    (fun i a' W => ∃ Bx, W3.heap.size + 1 < Bx ∧ Blk W Bx 52 #[.int .i64 r.ps[i.1].len, .int .i64 r.ps[i.1].turn, .int .i64 r.ps[i.1].rad, .int .i64 r.ps[i.1].wid, .int .i64 r.ps[i.1].sur] ∧ a' = { tmps := #[.agg #[.slice A r.ps.length a, .slice B r.cs.length b, .slice C r.js.length c], .agg #[.int .i64 gap, .int .i64 least], .pointer (some ⟨w.heap.size, 0, none⟩), .pointer (some ⟨w.heap.size + 1, 0, none⟩), .slice none 0 0, .int .i64 0, .pointer (some ⟨M, 0, none⟩), .pointer (some ⟨W3.heap.size, 0, none⟩), .int .i64 (lenSum (r.ps.take i.1)), .pointer (some ⟨Bx, 0, none⟩), undef, undef, undef, undef, undef, undef, undef, undef, .agg #[.slice A r.ps.length a, .slice B r.cs.length b, .slice C r.js.length c], .int .i64 0, .bool false, .bool false, .pointer (some ⟨w.heap.size + 1, 0, none⟩), .int .i64 gap, .bool true, .bool false, .bool false, .bool false, .pointer (some ⟨w.heap.size + 1, 1, none⟩), .int .i64 least, .bool true, .bool false, .bool false, .agg #[.slice A r.ps.length a, .slice B r.cs.length b, .slice C r.js.length c], .pointer (some ⟨M, 0, none⟩), .pointer (some ⟨M, 0, none⟩), .func (.func 88) #[] #[.pointer (some ⟨W3.heap.size + 1, 0, none⟩)], .int .i64 (lenSum (r.ps.take i.1)), .agg #[.int .i64 r.ps[i.1].len, .int .i64 r.ps[i.1].turn, .int .i64 r.ps[i.1].rad, .int .i64 r.ps[i.1].wid, .int .i64 r.ps[i.1].sur], undef, undef, undef, undef, undef, undef, undef, undef, undef, undef, undef, undef, undef, undef, undef, undef, undef, undef, undef, undef, undef, undef, undef, undef, undef, undef, undef, undef, undef, undef, undef, undef, undef, undef, undef, undef, undef, undef, undef, undef, undef, undef, undef, undef, undef, undef, undef, undef, undef, undef, undef, undef, undef, undef, undef, undef, undef, undef, undef, undef, undef, undef, undef, undef, undef, undef, undef, undef, undef, undef, undef, undef, undef, undef, undef, undef, undef, undef, undef, undef, undef, undef, undef, undef, undef, undef], defers := [] })
    ?ax ?assign ?body ?done ?stop
  case ax =>
    intro i a' _ X Y row hs hg hr'
    obtain ⟨Bx, h1, h2, h3⟩ := hs
    refine ⟨Bx, h1, h2.grown hg (fun e => ?_), h3⟩
    obtain ⟨-, o, ho, hc⟩ := hr' _ e.symm
    rw [show X.heap[Bx]? = _ from h2] at ho
    cases ho
    cases hc
  case assign =>
    rintro l pre i W K hcor hK
    obtain ⟨⟨v, h1, h2⟩, h3, h4⟩ := hcor
    simp only [encs]
    gi_wp2
    exact hK _ _ ((KeepsOthers.alloc _ _).from _) ⟨(Below.refl _ W).alloc (by omega) _, Below.heap_alloc _ _ _ (by omega)⟩ ⟨⟨v, h1.alloc _, h2.below (balloc _ _)⟩, h3.alloc (by omega) _, by simp; omega⟩ ⟨W.heap.size, by omega, Blk.new W 52 _, rfl⟩
  case body =>
    rintro l pre i a' W hl ⟨rec, hrec⟩ hcor ⟨Bx, hBx', bP, rfl⟩ hlt
    have hcor2 := hcor
    obtain ⟨⟨v, h1, h2⟩, h3, h4⟩ := hcor
    have p0 := bP.cell 0
    have p1 := bP.cell 1
    have p2 := bP.cell 2
    have p3 := bP.cell 3
    have p4 := bP.cell 4
    have hp := bP.lt
    have v0 := h1.cell 0
    have v1 := h1.frozen 0
    have vl := h1.lt
    have hpl := bnds_len r pre
    by_cases ht : r.ps[i.1].turn = 0
    · have ht' : (r.ps[i.1].turn == 0) = true := by simpa using ht
      have he : bnds r (pre ++ [i]) = bnds r pre := by rw [bnds_snoc, bdOf, if_pos ht]; simp
      have HE := Lib.hid he
      clear ht he
      gi_wp2
      exact ⟨KeepsFrom.refl _ _, ⟨Below.refl _ _, rfl⟩, by unfold corI; rw [HE.out]; exact hcor2⟩
    · have ht' : (r.ps[i.1].turn == 0) = false := by simpa using ht
      have he : bdOf r.ps[i.1] (lenSum (r.ps.take i.1)) = some ⟨r.ps[i.1], lenSum (r.ps.take i.1)⟩ := by rw [bdOf, if_neg ht]
      have HE := Lib.hid he
      clear ht he
      obtain ⟨bs, hbs⟩ : ∃ bs, bs = bnds r pre := ⟨_, rfl⟩
      rw [← hbs] at h2 hpl
      have HBS := Lib.hid hbs
      clear hbs
      obtain ⟨VA, vcap, rfl⟩ := h2.form
      clear hcor2
      gi_wp2_with (first | (gi_at_builtin; refine wpListIn_append_own _ rfl _ _ 96 rfl (W3.heap.size + 2) 101 j0 _ 6 48 Try.underlying96 hj hy0 hy1 hy2 rfl (by decide) (.slice VA bs.length vcap) bs.length (bs.flatMap bdV) rfl (World.ownsRow.alloc h2 _) ⟨W.heap.size, 0, none⟩ 1 1 (bdV ⟨r.ps[i.1], lenSum (r.ps.take i.1)⟩) rfl rfl (cells_new _ (bdV ⟨r.ps[i.1], lenSum (r.ps.take i.1)⟩) _ _ rfl) (by simp [bdV, Value.oneCell']) (by simp only [maxLen]; omega) (by omega) (by simp; omega) ?_; intro v' w1 hown' hgrow _; obtain ⟨g9, c9, rfl, _, _⟩ := World.ownsRow.form hown' (by omega); have hk1 := h1.kept2 h2 (by omega) hgrow; have z0 := hk1.cell 0; have z1 := hk1.frozen 0))
      exact cor_round rfl h1 h2 h3 h4 hgrow hown' rfl HBS.out HE.out
  case done =>
    rintro D xs W hD rfl hcor hK
    obtain ⟨⟨v, h1, h2⟩, h3, h4⟩ := hcor
    have hbw : Below W3.heap.size W3 W := h3
    have hIw := hI.step hbw
    have hBw := hBx.below hbw
    have v0 := h1.cell 0
    have vl := h1.lt
    obtain ⟨bs, hbs⟩ : ∃ bs, bs = bnds r (List.finRange r.ps.length) := ⟨_, rfl⟩
    have hbok := bnds_ok r hok (List.finRange r.ps.length)
    have hbl := bnds_len r (List.finRange r.ps.length)
    rw [List.length_finRange] at hbl
    rw [← hbs] at h2 hbok hbl
    have HBS := Lib.hid hbs
    clear hbs
    obtain ⟨VA, vcap, rfl⟩ := h2.form
    have hrd := h2.rd bdV_len
    have hw2 := h2.lt
    gi_wp2_with (first | (gi_at_call 59; refine (callsIn_wide.2 (groupedB_any bs VA vcap gap least (w.heap.size + 1) W hrd (fun x hx => (hbok x hx).1) (by omega) hBw hg0 hg1)).mono ?_; rintro e W5 ⟨⟨vo, rfl, hG⟩, hb5⟩; obtain ⟨svs, hsv, hsl, hgr⟩ := hG.ex; obtain ⟨OA, ocap, rfl⟩ := hsv.form; have HSL := Lib.hid hsl; clear hsl))
    obtain ⟨gss, hgss⟩ : ∃ gss, gss = grouped (tgB gap) bs := ⟨_, rfl⟩
    have hsl := HSL.out
    clear HSL
    rw [← hgss] at hsl hgr
    have hgl := grouped_last (tgB gap) bs bs.length (Nat.le_refl _)
    rw [List.take_length, ← hgss] at hgl
    have hgn : gss.length ≤ 2000 := by
      have : gss.length ≤ gss.flatten.length := by
        have := hgl.2
        clear hgl hgss hsl hgr
        induction gss with
        | nil => simp
        | cons g gs ih =>
          have h1 := ih (fun x hx => this x (by simp [hx]))
          have h2 := List.length_pos_iff.2 (this g (by simp))
          simp only [List.flatten_cons, List.length_append, List.length_cons]
          omega
      rw [hgl.1] at this
      omega
    have hgm : ∀ g ∈ gss, g.length ≤ 2000 ∧ ∀ x ∈ g, x ∈ bs := by
      intro g hg
      have h1 : g.length ≤ bs.length := by
        rw [← hgl.1]
        exact (List.sublist_flatten_of_mem hg).length_le
      exact ⟨by omega, fun x hx => by rw [← hgl.1]; exact List.mem_flatten.2 ⟨g, hg, hx⟩⟩
    have hgne := hgl.2
    have HGS := Lib.hid hgss
    clear hgss hgl
    have hsv' := hsv
    rw [hsl] at hsv
    rw [hsl]
    have hw5 := hb5.size
    gi_loopw [10, 52] (fun v i wo => ∃ k : Nat, k ≤ gss.length ∧ i = .int .i64 k ∧ Below W5.heap.size W5 wo ∧ OwnL wo W5.heap.size 50 7 coV v ((gss.take k).filterMap (keepG least))) (fun _ i _ => gss.length - (intOf i).toNat)
    case atStart => exact ⟨0, Nat.zero_le _, rfl, Below.refl _ _, OwnL.nil _ _ _ _ _⟩
    case round =>
      rename World => wo
      obtain ⟨k, hk, rfl, hB6, hown⟩ := hrel
      have hws := hB6.size
      obtain ⟨VO, capo, rfl⟩ := hown.form
      by_cases hlt : k < gss.length
      · obtain ⟨g, hg⟩ := getElem?_ex hlt
        obtain ⟨sv, hsvk, hog⟩ := hgr k g hg
        have hgmem := List.mem_of_getElem? hg
        have hgn2 := (hgm g hgmem).1
        have hgok : ∀ x ∈ g, okBd x ∧ 5 ≤ x.p.rad ∧ x.p.rad ≤ 2000 := fun x hx => hbok x ((hgm g hgmem).2 x hx)
        have hglen := List.length_pos_iff.2 (hgne g hgmem)
        obtain ⟨GA, gcap, rfl⟩ := hog.form
        obtain ⟨ob, oo, hOA, hobl, hoc⟩ := (hsv'.rd (fun _ => rfl)).below hB6 k _ hsvk
        subst hOA
        have oc0 := hoc 0 _ rfl
        simp only [Nat.mul_one, Nat.add_zero] at oc0
        obtain ⟨fa, hfa⟩ := getElem?_ex hglen
        obtain ⟨za, hza⟩ := getElem?_ex (show g.length - 1 < g.length by omega)
        have hrg := (hog.rd bdV_len).below hB6
        obtain ⟨gb, go, hGA, hgbl, c0, c1, c2, c3, c4, c5⟩ := hrg.at6 hfa
        subst hGA
        obtain ⟨gb', go', hGA, _, d0, d1, d2, d3, d4, d5⟩ := hrg.at6 hza
        injection hGA with hGA
        injection hGA with hGA1 hGA2
        subst hGA1 hGA2
        simp only [Nat.zero_mul, Nat.add_zero] at c0 c1 c2 c3 c4 c5
        have f1 : IntKind.i64.wrap ((g.length : Int) - 1) = (g.length : Int) - 1 := IntWalk.i64_in _ (by omega)
        have f2 : 0 ≤ (g.length : Int) - 1 := by omega
        have f3 : ((g.length : Int) - 1).toNat = g.length - 1 := by omega
        have f4 : (g.length : Int) - 1 < g.length := by omega
        obtain ⟨⟨a1, a2, a3, a4, a5, a6⟩, a7, a8⟩ := hgok fa (List.mem_of_getElem? hfa)
        obtain ⟨⟨z1, z2, z3, z4, z5, z6⟩, z7, z8⟩ := hgok za (List.mem_of_getElem? hza)
        have HFA := Lib.hid hfa
        have HZA := Lib.hid hza
        have HG := Lib.hid hg
        clear hfa hza hg
        have g0 : (0 : Int) < g.length := by omega
        gi_wp2_with fail
        refine wpIn_region_two_tail 25 _ (.cells #[.int .i64 0, .int .i64 0, .int .i64 0, .int .i64 0, .int .i64 0, .int .i64 0, .int .i64 0] 50) (by kernel_rfl) (by kernel_rfl) rfl rfl ?hal ?_
        case hal =>
          intro a0 K hK0
          refine ⟨fun f hf => (by simp [Oper.about] at hf), ?_⟩
          go_simp
          rw [World.size_alloc] at hK0
          exact hK0
        simp only [List.take_succ_cons, List.take_zero, List.drop_succ_cons, List.drop_zero]
        repeat (gi_big_quiet_step (fail))
        refine wpQuietIn_nil ?_
        gi_wp2_with fail
        have bC : Blk ((wo.alloc (.cells #[.int .i64 za.p.len, .int .i64 za.p.turn, .int .i64 za.p.rad, .int .i64 za.p.wid, .int .i64 za.p.sur, .int .i64 za.fr] 101)).alloc (.cells #[.int .i64 fa.fr, .int .i64 (za.fr + za.p.len), .int .i64 za.p.turn, .int .i64 (za.p.rad), .int .i64 fa.p.rad, .int .i64 za.p.rad, .int .i64 0] 50)).drew (wo.heap.size + 1) 50 #[.int .i64 fa.fr, .int .i64 (za.fr + za.p.len), .int .i64 za.p.turn, .int .i64 (za.p.rad), .int .i64 fa.p.rad, .int .i64 za.p.rad, .int .i64 0] := by
          have := Blk.new (wo.alloc (.cells #[.int .i64 za.p.len, .int .i64 za.p.turn, .int .i64 za.p.rad, .int .i64 za.p.wid, .int .i64 za.p.sur, .int .i64 za.fr] 101)) 50 #[.int .i64 fa.fr, .int .i64 (za.fr + za.p.len), .int .i64 za.p.turn, .int .i64 (za.p.rad), .int .i64 fa.p.rad, .int .i64 za.p.rad, .int .i64 0]
          rw [World.size_alloc] at this
          exact this
        have B7 : Below wo.heap.size wo ((wo.alloc (.cells #[.int .i64 za.p.len, .int .i64 za.p.turn, .int .i64 za.p.rad, .int .i64 za.p.wid, .int .i64 za.p.sur, .int .i64 za.fr] 101)).alloc (.cells #[.int .i64 fa.fr, .int .i64 (za.fr + za.p.len), .int .i64 za.p.turn, .int .i64 (za.p.rad), .int .i64 fa.p.rad, .int .i64 za.p.rad, .int .i64 0] 50)).drew := (bthen (balloc _ _) (balloc _ _)).drew
        obtain ⟨W7, hW7⟩ : ∃ W7, W7 = ((wo.alloc (.cells #[.int .i64 za.p.len, .int .i64 za.p.turn, .int .i64 za.p.rad, .int .i64 za.p.wid, .int .i64 za.p.sur, .int .i64 za.fr] 101)).alloc (.cells #[.int .i64 fa.fr, .int .i64 (za.fr + za.p.len), .int .i64 za.p.turn, .int .i64 (za.p.rad), .int .i64 fa.p.rad, .int .i64 za.p.rad, .int .i64 0] 50)).drew := ⟨_, rfl⟩
        rw [← hW7] at bC B7 ⊢
        clear hW7 c0 c1 c2 c3 c4 c5 d0 d1 d2 d3 d4 d5 oc0
        gi_loopw [15, 89] (fun t i wr => ∃ j : Nat, j ≤ g.length ∧ i = .int .i64 j ∧ t = .int .i64 (turnS (g.take j)) ∧ Blk wr (wo.heap.size + 1) 50 #[.int .i64 fa.fr, .int .i64 (za.fr + za.p.len), .int .i64 za.p.turn, .int .i64 (minR (g.take j) za.p.rad), .int .i64 fa.p.rad, .int .i64 za.p.rad, .int .i64 0] ∧ Below (wo.heap.size + 1) W7 wr) (fun _ i _ => g.length - (intOf i).toNat)
        case atStart => exact ⟨0, Nat.zero_le _, rfl, by simp [turnS], by simpa [minR] using bC, Below.refl _ _⟩
        case round =>
          obtain ⟨j, hj, rfl, rfl, bC2, B8⟩ := hrel
          have B78 : Below wo.heap.size wo wr := B7.trans (B8.mono (by omega))
          have hs8 := B78.size
          have hs9 := bC2.lt
          have htb := turnS_bd (g.take j) (fun x hx => hgok x (List.mem_of_mem_take hx))
          have hmb := minR_bd (g.take j) (fun x hx => hgok x (List.mem_of_mem_take hx)) za.p.rad z7 z8
          have hlj := List.length_take_le j g
          have s1 : -20000000000 ≤ turnS (g.take j) := by have := htb.1; have := List.length_take_le' j g; omega
          have s2 : turnS (g.take j) ≤ 20000000000 := by have := htb.2; have := List.length_take_le' j g; omega
          have m1 := hmb.1
          have m2 := hmb.2
          clear htb hmb hlj
          by_cases hlt2 : j < g.length
          · obtain ⟨b1, hb1⟩ := getElem?_ex hlt2
            obtain ⟨gb', go', hGA, hgb2, c0, c1, c2, c3, c4, c5⟩ := (hrg.below B78).at6 hb1
            injection hGA with hGA
            injection hGA with hGA1 hGA2
            subst hGA1 hGA2
            obtain ⟨⟨e1, e2, e3, e4, e5, e6⟩, e7, e8⟩ := hgok b1 (List.mem_of_getElem? hb1)
            have HM := Lib.hid (minR_take g j b1 hb1 za.p.rad)
            have HT := Lib.hid (turnS_take g j b1 hb1)
            clear hb1
            have q3 := bC2.cell 3
            have q3f := bC2.frozen 3
            have htr := trn_bd b1.p.turn b1.p.rad b1.p.len (by omega) e3 e4 (fun _ => ⟨e7, e8⟩)
            have u1 : -6000000 ≤ trn b1.p.turn b1.p.rad b1.p.len := by omega
            have u2 : trn b1.p.turn b1.p.rad b1.p.len ≤ 6000000 := by omega
            clear htr
            obtain ⟨mr, hmr⟩ : ∃ mr, mr = minR (g.take j) za.p.rad := ⟨_, rfl⟩
            rw [← hmr] at bC2 HM m1 m2 q3
            clear hmr
            obtain ⟨tt, htt⟩ : ∃ tt, tt = turnS (g.take j) := ⟨_, rfl⟩
            rw [← htt] at HT s1 s2 ⊢
            clear htt
            by_cases hmn : b1.p.rad < mr
            · gi_wp2_with (first | (gi_at_call 61; refine (callsIn_wide.2 (turned_any _ _ _ _ _ _ _ (by omega) (by omega) (by omega) (by omega) (fun _ => ⟨e7, e8⟩))).mono ?_; rintro e W9 ⟨rfl, hb9⟩))
              have bC3 : Blk ((wr.setCell ⟨wo.heap.size + 1, 3, none⟩ (.int .i64 b1.p.rad)).alloc (.cells #[.int .i64 b1.p.len, .int .i64 b1.p.turn, .int .i64 b1.p.rad, .int .i64 b1.p.wid, .int .i64 b1.p.sur, .int .i64 b1.fr] 101)) (wo.heap.size + 1) 50 #[.int .i64 fa.fr, .int .i64 (za.fr + za.p.len), .int .i64 za.p.turn, .int .i64 (b1.p.rad), .int .i64 fa.p.rad, .int .i64 za.p.rad, .int .i64 0] := (bC2.set_ 3 _).alloc _
              have B9 : Below (wo.heap.size + 1) wr ((wr.setCell ⟨wo.heap.size + 1, 3, none⟩ (.int .i64 b1.p.rad)).alloc (.cells #[.int .i64 b1.p.len, .int .i64 b1.p.turn, .int .i64 b1.p.rad, .int .i64 b1.p.wid, .int .i64 b1.p.sur, .int .i64 b1.fr] 101)) := ((Below.refl (wo.heap.size + 1) wr).setCell (p := ⟨wo.heap.size + 1, 3, none⟩) (Nat.le_refl _) _).alloc (by have := ((Below.refl (wo.heap.size + 1) wr).setCell (p := ⟨wo.heap.size + 1, 3, none⟩) (Nat.le_refl _) (.int .i64 b1.p.rad)).size; omega) _
              go_roundw
              case rel => exact ⟨j + 1, by omega, by go_num, by rw [HT.out], by rw [HM.out, show min mr b1.p.rad = b1.p.rad by omega]; exact bC3.below hb9 bC3.lt, B8.trans (B9.trans (hb9.mono (by have := B9.size; omega)))⟩
              case measure => simp [intOf]; omega
            · gi_wp2_with (first | (gi_at_call 61; refine (callsIn_wide.2 (turned_any _ _ _ _ _ _ _ (by omega) (by omega) (by omega) (by omega) (fun _ => ⟨e7, e8⟩))).mono ?_; rintro e W9 ⟨rfl, hb9⟩))
              have bC3 : Blk ((wr.setCell ⟨wo.heap.size + 1, 3, none⟩ (.int .i64 mr)).alloc (.cells #[.int .i64 b1.p.len, .int .i64 b1.p.turn, .int .i64 b1.p.rad, .int .i64 b1.p.wid, .int .i64 b1.p.sur, .int .i64 b1.fr] 101)) (wo.heap.size + 1) 50 #[.int .i64 fa.fr, .int .i64 (za.fr + za.p.len), .int .i64 za.p.turn, .int .i64 (mr), .int .i64 fa.p.rad, .int .i64 za.p.rad, .int .i64 0] := (bC2.set_ 3 _).alloc _
              have B9 : Below (wo.heap.size + 1) wr ((wr.setCell ⟨wo.heap.size + 1, 3, none⟩ (.int .i64 mr)).alloc (.cells #[.int .i64 b1.p.len, .int .i64 b1.p.turn, .int .i64 b1.p.rad, .int .i64 b1.p.wid, .int .i64 b1.p.sur, .int .i64 b1.fr] 101)) := ((Below.refl (wo.heap.size + 1) wr).setCell (p := ⟨wo.heap.size + 1, 3, none⟩) (Nat.le_refl _) _).alloc (by have := ((Below.refl (wo.heap.size + 1) wr).setCell (p := ⟨wo.heap.size + 1, 3, none⟩) (Nat.le_refl _) (.int .i64 mr)).size; omega) _
              go_roundw
              case rel => exact ⟨j + 1, by omega, by go_num, by rw [HT.out], by rw [HM.out, show min mr b1.p.rad = mr by omega]; exact bC3.below hb9 bC3.lt, B8.trans (B9.trans (hb9.mono (by have := B9.size; omega)))⟩
              case measure => simp [intOf]; omega
          · obtain rfl : j = g.length := by omega
            rw [List.take_length] at bC2 s1 s2 m1 m2
            simp only [List.take_length]
            have HKG := Lib.hid (keepG_of least g fa za HFA.out HZA.out)
            have HFM := Lib.hid (fm_take_succ (keepG least) gss k g HG.out)
            have hlo : ((gss.take k).filterMap (keepG least)).length ≤ 2000 := by
              have := List.length_filterMap_le (keepG least) (gss.take k)
              have := List.length_take_le k gss
              omega
            obtain ⟨os, hos⟩ : ∃ os, os = (gss.take k).filterMap (keepG least) := ⟨_, rfl⟩
            rw [← hos] at hown HFM hlo ⊢
            clear hos
            obtain ⟨mr, hmr⟩ : ∃ mr, mr = minR g za.p.rad := ⟨_, rfl⟩
            obtain ⟨tt, htt⟩ : ∃ tt, tt = turnS g := ⟨_, rfl⟩
            have hcg : coG fa za g = ⟨fa.fr, za.fr + za.p.len, za.p.turn, mr, fa.p.rad, za.p.rad, max tt (-tt)⟩ := by rw [hmr, htt]; rfl
            rw [hcg, ← htt] at HKG
            rw [← hmr] at bC2 m1 m2
            rw [← htt] at s1 s2 ⊢
            clear hmr htt hcg
            have q6 := bC2.cell 6
            have q6f := bC2.frozen 6
            have hBr : Below w.heap.size w wr := (hIw.below.trans (hb5.mono (by have := hIw.below.size; omega))).trans ((hB6.mono (by have := hIw.below.size; omega)).trans (B78.mono (by have := hIw.below.size; omega)))
            have hbx5 := ((hBw.below hb5).below (hB6.mono (Nat.le_refl _))).below B78
            have l1 := hbx5.2 1 _ rfl
            have hs10 := hbx5.1
            by_cases hmx : tt < -tt
            · rw [show max tt (-tt) = -tt by omega] at HKG
              have bC4 : Blk (wr.setCell ⟨wo.heap.size + 1, 6, none⟩ (.int .i64 (-tt))) (wo.heap.size + 1) 50 #[.int .i64 fa.fr, .int .i64 (za.fr + za.p.len), .int .i64 za.p.turn, .int .i64 (mr), .int .i64 fa.p.rad, .int .i64 za.p.rad, .int .i64 (-tt)] := bC2.set_ 6 _
              have hB4 : Below (wo.heap.size + 1) wr (wr.setCell ⟨wo.heap.size + 1, 6, none⟩ (.int .i64 (-tt))) := (Below.refl _ wr).setCell (p := ⟨wo.heap.size + 1, 6, none⟩) (Nat.le_refl _) _
              have hB4' : Below wo.heap.size wo (wr.setCell ⟨wo.heap.size + 1, 6, none⟩ (.int .i64 (-tt))) := B78.trans (hB4.mono (by omega))
              have hown4 := hown.below hB4'
              have w1' : -20000000000 ≤ -tt := by omega
              have w2' : -tt ≤ 20000000000 := by omega
              gi_upto_region 24 with fail
              obtain ⟨W5', hW5⟩ : ∃ W5', W5' = wr.setCell ⟨wo.heap.size + 1, 6, none⟩ (.int .i64 (-tt)) := ⟨_, rfl⟩
              rw [← hW5] at bC4 hB4 hB4' hown4 ⊢
              clear hW5
              have l1' := (hbx5.2 1 _ rfl)
              have l2 : W5'.cell? ⟨w.heap.size + 1, 1, none⟩ = some (.int .i64 least) := (hB4.cell (p := ⟨w.heap.size + 1, 1, none⟩) (by simp; omega)).trans l1
              have x0 := bC4.cell 0
              have x1 := bC4.cell 1
              have x2 := bC4.cell 2
              have x3 := bC4.cell 3
              have x4 := bC4.cell 4
              have x5 := bC4.cell 5
              have x6 := bC4.cell 6
              have hs11 := hB4'.size
              have hs12 := hB4.size
              clear l1 l1' q6 q6f bC4 hrg hog hsv'
              by_cases hle : least ≤ -tt
              · have HKK : Hid (keepG least g = some ⟨fa.fr, za.fr + za.p.len, za.p.turn, mr, fa.p.rad, za.p.rad, -tt⟩) := Lib.hid (by rw [HKG.out]; exact if_pos hle)
                have hle' : decide (least ≤ -tt) = true := by simpa using hle
                gi_wp2_with (first | (gi_at_builtin; refine wpListIn_append_own _ rfl _ _ 42 rfl W5.heap.size 50 i0 _ 7 56 Try.underlying42 hi hz0 hz1 hz2 rfl (by decide) (.slice VO os.length capo) os.length (os.flatMap coV) rfl (World.ownsRow.alloc hown4 _) ⟨W5'.heap.size, 0, none⟩ 1 1 (coV ⟨fa.fr, za.fr + za.p.len, za.p.turn, mr, fa.p.rad, za.p.rad, -tt⟩) rfl rfl (cells_new _ (coV ⟨fa.fr, za.fr + za.p.len, za.p.turn, mr, fa.p.rad, za.p.rad, -tt⟩) _ _ rfl) (by simp [coV, Value.oneCell']) (by simp only [maxLen]; omega) (by omega) (by simp; omega) ?_; intro v' w1 hown' hgrow _))
                obtain ⟨hB10, ho6⟩ := after_app (x := ⟨fa.fr, za.fr + za.p.len, za.p.turn, mr, fa.p.rad, za.p.rad, -tt⟩) (Below.refl _ W5') hown4 (by omega) hown' rfl hgrow
                go_roundw
                case rel => exact ⟨k + 1, by omega, by go_num, hB6.trans ((hB4'.mono (by omega)).trans hB10), by rw [HFM.out, HKK.out]; exact ho6⟩
                case measure => simp [intOf]; omega
              · have HKK : Hid (keepG least g = none) := Lib.hid (by rw [HKG.out]; exact if_neg hle)
                have hle' : decide (least ≤ -tt) = false := by simpa using hle
                gi_wp2_with fail
                go_roundw
                case rel => exact ⟨k + 1, by omega, by go_num, bthen hB6 hB4', by rw [HFM.out, HKK.out]; simpa using hown4⟩
                case measure => simp [intOf]; omega
            · rw [show max tt (-tt) = tt by omega] at HKG
              have bC4 : Blk (wr.setCell ⟨wo.heap.size + 1, 6, none⟩ (.int .i64 (tt))) (wo.heap.size + 1) 50 #[.int .i64 fa.fr, .int .i64 (za.fr + za.p.len), .int .i64 za.p.turn, .int .i64 (mr), .int .i64 fa.p.rad, .int .i64 za.p.rad, .int .i64 (tt)] := bC2.set_ 6 _
              have hB4 : Below (wo.heap.size + 1) wr (wr.setCell ⟨wo.heap.size + 1, 6, none⟩ (.int .i64 (tt))) := (Below.refl _ wr).setCell (p := ⟨wo.heap.size + 1, 6, none⟩) (Nat.le_refl _) _
              have hB4' : Below wo.heap.size wo (wr.setCell ⟨wo.heap.size + 1, 6, none⟩ (.int .i64 (tt))) := B78.trans (hB4.mono (by omega))
              have hown4 := hown.below hB4'
              have w1' : -20000000000 ≤ tt := by omega
              have w2' : tt ≤ 20000000000 := by omega
              gi_upto_region 24 with fail
              obtain ⟨W5', hW5⟩ : ∃ W5', W5' = wr.setCell ⟨wo.heap.size + 1, 6, none⟩ (.int .i64 (tt)) := ⟨_, rfl⟩
              rw [← hW5] at bC4 hB4 hB4' hown4 ⊢
              clear hW5
              have l1' := (hbx5.2 1 _ rfl)
              have l2 : W5'.cell? ⟨w.heap.size + 1, 1, none⟩ = some (.int .i64 least) := (hB4.cell (p := ⟨w.heap.size + 1, 1, none⟩) (by simp; omega)).trans l1
              have x0 := bC4.cell 0
              have x1 := bC4.cell 1
              have x2 := bC4.cell 2
              have x3 := bC4.cell 3
              have x4 := bC4.cell 4
              have x5 := bC4.cell 5
              have x6 := bC4.cell 6
              have hs11 := hB4'.size
              have hs12 := hB4.size
              clear l1 l1' q6 q6f bC4 hrg hog hsv'
              by_cases hle : least ≤ tt
              · have HKK : Hid (keepG least g = some ⟨fa.fr, za.fr + za.p.len, za.p.turn, mr, fa.p.rad, za.p.rad, tt⟩) := Lib.hid (by rw [HKG.out]; exact if_pos hle)
                have hle' : decide (least ≤ tt) = true := by simpa using hle
                gi_wp2_with (first | (gi_at_builtin; refine wpListIn_append_own _ rfl _ _ 42 rfl W5.heap.size 50 i0 _ 7 56 Try.underlying42 hi hz0 hz1 hz2 rfl (by decide) (.slice VO os.length capo) os.length (os.flatMap coV) rfl (World.ownsRow.alloc hown4 _) ⟨W5'.heap.size, 0, none⟩ 1 1 (coV ⟨fa.fr, za.fr + za.p.len, za.p.turn, mr, fa.p.rad, za.p.rad, tt⟩) rfl rfl (cells_new _ (coV ⟨fa.fr, za.fr + za.p.len, za.p.turn, mr, fa.p.rad, za.p.rad, tt⟩) _ _ rfl) (by simp [coV, Value.oneCell']) (by simp only [maxLen]; omega) (by omega) (by simp; omega) ?_; intro v' w1 hown' hgrow _))
                obtain ⟨hB10, ho6⟩ := after_app (x := ⟨fa.fr, za.fr + za.p.len, za.p.turn, mr, fa.p.rad, za.p.rad, tt⟩) (Below.refl _ W5') hown4 (by omega) hown' rfl hgrow
                go_roundw
                case rel => exact ⟨k + 1, by omega, by go_num, hB6.trans ((hB4'.mono (by omega)).trans hB10), by rw [HFM.out, HKK.out]; exact ho6⟩
                case measure => simp [intOf]; omega
              · have HKK : Hid (keepG least g = none) := Lib.hid (by rw [HKG.out]; exact if_neg hle)
                have hle' : decide (least ≤ tt) = false := by simpa using hle
                gi_wp2_with fail
                go_roundw
                case rel => exact ⟨k + 1, by omega, by go_num, bthen hB6 hB4', by rw [HFM.out, HKK.out]; simpa using hown4⟩
                case measure => simp [intOf]; omega
      · obtain rfl : k = gss.length := by omega
        rw [List.take_length] at hown ⊢
        have HCG : Hid (gss.filterMap (keepG least) = cornersG r gap least) := Lib.hid (by rw [HGS.out, HBS.out]; rfl)
        rw [HCG.out] at hown ⊢
        have hKf : wo.heap[D]? = some (.deferred (some [])) := by
          have hD' := (Array.getElem?_eq_some_iff.1 hK).1
          exact (hB6.block D (by omega)).trans ((hb5.block D hD').trans hK)
        have hBw' : Below w.heap.size w wo := (hIw.below.trans (hb5.mono (by have := hIw.below.size; omega))).trans (hB6.mono (by have := hIw.below.size; omega))
        gi_wp2_with fail
        refine ⟨by simp, .inl ⟨_, _, rfl, run_takeDeferred hKf, ?_⟩⟩
        exact ⟨_, results_tmp2 rfl _ _ _, ⟨_, rfl, (hown.base_mono (by have := hIw.below.size; omega)).putObj hKf _⟩, hBw'.trans (belowK_b (w := W0) (by omega) _ D _ _ hD hKf rfl rfl)⟩
  case stop =>
    rintro D c pre W hD hpre hF
    exact hF.elim

end Go.Proofs.Ytbdjmaogbpdkpaa

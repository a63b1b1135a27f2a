import Derived.Test.YtbdjmaogbpdkpaaAll
namespace Go.Proofs.Ytbdjmaogbpdkpaa
open Go.RowKit Go.Shelf
theorem wide_fn (k : Nat) : Fence.wide.fn k = True := rfl
theorem wide_depth : Fence.wide.depth = none := rfl
attribute [local go_sem] wide_fn wide_depth Oper.semAt_some Later.cell Later.cell1 Later.new1 Later.frozen Later.frozen1

theorem grown_later {w w1 : World} (h : Below w.heap.size w w1) : w.grownBy w1 none := ⟨h.os, h.tape, h.output, h.size, fun i hi _ => h.block i hi⟩

/-- m.all() hands back a value that yields the pieces with their beginnings. -/
theorem all_stops (F : Fence) (n : Nat) (h88 : F.fn 88) (hro : F.round = none) (hn : 1 ≤ n) (Bs M : Nat) (r : Road) (A B C : Option Addr) (a b c : Nat) (G : Option Addr) (g : Nat) (hlen : r.ps.length ≤ 100000) (wa w : World)
    (hb : Below wa.heap.size wa w) (hBs : Blk w Bs 89 #[.pointer (some ⟨M, 0, none⟩)]) (hM : Meas wa M r A B C a b c G g) (hr : RdRoad wa r A B C) :
    SeqStopsK F n Try.prog 88 #[.pointer (some ⟨Bs, 0, none⟩)] (encs r) (KpB wa.heap.size Bs) (fun ys => ys = List.finRange r.ps.length) (fun pre => ∃ k, k ≤ r.ps.length ∧ pre = upto r.ps.length k) r.ps.length w := fun l J Jx W hW hJ _ hY h0 => by
  have hbW : Below wa.heap.size wa W := hb.trans (hW.mono hb.size)
  refine all1_in F n h88 hro hn l Bs wa.heap.size M r A B C a b c G g hlen J Jx hY (fun pre W' W'' hj hb' => hJ _ _ _ none hj (grown_later hb') (fun r e => by cases e)) W
    (hBs.below hW hBs.lt) hM.box.1 hbW.size (hM.box.below hbW) ?_ ?_ h0
  · intro k hk
    obtain ⟨gb, go, e, hlt, hc⟩ := hM.beg.at1 (begs_at r.ps k (by omega))
    exact ⟨gb, go, e, hlt, (hbW.cell (p := ⟨gb, go + k, none⟩) hlt).trans hc⟩
  · intro k hk
    obtain ⟨bb, o, e, hlt, c0, c1, c2, c3, c4⟩ := hr.p.at5 (List.getElem?_eq_getElem hk)
    exact ⟨bb, o, e, hlt, (hbW.cell (p := ⟨bb, _, none⟩) hlt).trans c0, (hbW.cell (p := ⟨bb, _, none⟩) hlt).trans c1, (hbW.cell (p := ⟨bb, _, none⟩) hlt).trans c2, (hbW.cell (p := ⟨bb, _, none⟩) hlt).trans c3, (hbW.cell (p := ⟨bb, _, none⟩) hlt).trans c4⟩

theorem later_in {P : Program} {f : FuncId} {args : Array Value} {w0 : World} {x : Later w0} {v : Value} {n l : Nat} (h : Calls P f args x.w fun e w' => e = .returned v ∧ Below x.w.heap.size x.w w') :
    CallsIn (Fence.wide.inRound l) n P f args x.w fun e w'' => e = .returned v ∧ ∃ y : Later w0, w'' = y.w :=
  (CallsIn.inRound l (callsIn_wide.2 h)).mono fun _ _ he => later_calls x he

/-- What the piece i adds to the turning up to a place. -/
def upF (r : Road) (x : Int) (i : Fin r.ps.length) : Int :=
  if lenSum (r.ps.take i.1) < x then trn r.ps[i.1].turn r.ps[i.1].rad (min r.ps[i.1].len (x - lenSum (r.ps.take i.1))) else 0
def upS (r : Road) (x : Int) (pre : List (Fin r.ps.length)) : Int := (pre.map (upF r x)).sum
theorem upS_snoc (r : Road) (x : Int) (pre : List (Fin r.ps.length)) (i : Fin r.ps.length) : upS r x (pre ++ [i]) = upS r x pre + upF r x i := by simp [upS]

/-- All pieces are as defined. -/
def okPs (r : Road) : Prop := r.ps.all pcOkP = true ∧ r.ps.length ≤ 2000
theorem okPs.at {r : Road} (h : okPs r) {i : Nat} (hi : i < r.ps.length) : 1 ≤ r.ps[i].len ∧ r.ps[i].len ≤ 5000 ∧ -1 ≤ r.ps[i].turn ∧ r.ps[i].turn ≤ 1 ∧ (r.ps[i].turn ≠ 0 → 5 ≤ r.ps[i].rad ∧ r.ps[i].rad ≤ 2000) ∧ (r.ps[i].turn = 0 → r.ps[i].rad = 0) := by
  have := List.all_eq_true.1 h.1 _ (List.getElem_mem hi)
  simp only [pcOkP, pcOk, inB, Bool.and_eq_true, decide_eq_true_eq] at this
  obtain ⟨⟨⟨⟨h1, h2⟩, h3⟩, h4⟩, h5⟩ := this
  refine ⟨h1.1, h1.2, h2.1, h2.2, fun hne => ?_, fun he => ?_⟩
  · rw [if_neg hne] at h5
    simpa using h5
  · rw [if_pos he] at h5
    simpa using h5
theorem trn_bd (t r m : Int) (h0 : 0 ≤ m) (ht0 : -1 ≤ t) (ht1 : t ≤ 1) (hr : t ≠ 0 → 5 ≤ r ∧ r ≤ 2000) : -(1000 * m + 1) ≤ trn t r m ∧ trn t r m ≤ 1000 * m + 1 := by
  unfold trn
  split
  · omega
  · rename_i hne
    have := rnd_bd (1000 * m) r (by omega) (by have := hr hne; omega)
    have ht : t = -1 ∨ t = 1 := by omega
    rcases ht with rfl | rfl <;> omega
theorem upF_bd (r : Road) (h : okPs r) (x : Int) (i : Fin r.ps.length) : -5000001 ≤ upF r x i ∧ upF r x i ≤ 5000001 := by
  unfold upF
  have h1 := h.at i.2
  split
  · have := trn_bd r.ps[i.1].turn r.ps[i.1].rad (min r.ps[i.1].len (x - lenSum (r.ps.take i.1))) (by omega) h1.2.2.1 h1.2.2.2.1 h1.2.2.2.2.1
    omega
  · omega
theorem upS_bd (r : Road) (h : okPs r) (x : Int) (pre : List (Fin r.ps.length)) : -(5000001 * pre.length) ≤ upS r x pre ∧ upS r x pre ≤ 5000001 * pre.length := by
  induction pre with
  | nil => simp [upS]
  | cons i pre ih =>
    have := upF_bd r h x i
    simp only [upS, List.map_cons, List.sum_cons, List.length_cons] at ih ⊢
    omega
theorem okPs.lens {r : Road} (h : okPs r) : lensOk r.ps 5000 := lensOk_of_all h.1
theorem okPs.beg {r : Road} (h : okPs r) (k : Nat) : 0 ≤ lenSum (r.ps.take k) ∧ lenSum (r.ps.take k) ≤ 10000000 := by
  have := lenSum_bd _ _ (h.lens.take k)
  have := List.length_take_le k r.ps
  have := List.length_take_le' k r.ps
  have := h.2
  omega

def upI (r : Road) (w : World) (x : Int) (pre : List (Fin r.ps.length)) (W : World) : Prop :=
  Blk W w.heap.size 3 #[.int .i64 x] ∧ Blk W (w.heap.size + 1) 3 #[.int .i64 (upS r x pre)] ∧ Below w.heap.size w W ∧ w.heap.size + 3 ≤ W.heap.size
def upX (r : Road) (w : World) (x : Int) (c : Code) (pre : List (Fin r.ps.length)) (W : World) : Prop :=
  c = .exit 0 ∧ upI r w x pre W ∧ ∃ ys y, pre = ys ++ [y] ∧ x ≤ lenSum (r.ps.take y.1)

theorem upI_own (r : Road) (w : World) (x : Int) (B : Nat) (hB : w.heap.size + 2 ≤ B) : OwnFrom B (upI r w x) := fun pre X Y row hs hg hr => by
  obtain ⟨h1, h2, h3, h4⟩ := hs
  exact ⟨h1.grown hg (fun e => by have := (hr _ e.symm).1; omega), h2.grown hg (fun e => by have := (hr _ e.symm).1; omega), h3.grown hg h3.size (fun k e => by have := (hr _ e).1; omega), Nat.le_trans h4 hg.size⟩
theorem upX_own (r : Road) (w : World) (x : Int) (B : Nat) (hB : w.heap.size + 2 ≤ B) (c : Code) : OwnFrom B (upX r w x c) := fun pre X Y row hs hg hr =>
  ⟨hs.1, upI_own r w x B hB pre X Y row hs.2.1 hg hr, hs.2.2⟩

theorem keeps_later {W W' : World} (h : Below W.heap.size W W') : KeepsOthers W W' := ⟨h.size, fun k _ hk _ => (h.block k (Array.getElem?_eq_some_iff.1 hk).1).trans hk⟩
theorem up_round {r : Road} {w : World} {x : Int} {pre : List (Fin r.ps.length)} {i : Fin r.ps.length} {W : World} (y : Later W) {v : Int} (bX : Blk W w.heap.size 3 #[.int .i64 x]) (bS : Blk W (w.heap.size + 1) 3 #[.int .i64 (upS r x pre)]) (hB : Below w.heap.size w W)
    (hs : w.heap.size + 3 ≤ W.heap.size) (e : upS r x (pre ++ [i]) = v) :
    KeepsFrom (w.heap.size + 3) W (y.w.setCell ⟨w.heap.size + 1, 0, none⟩ (.int .i64 v)) ∧ KpB w.heap.size (w.heap.size + 2) W (y.w.setCell ⟨w.heap.size + 1, 0, none⟩ (.int .i64 v)) ∧ upI r w x (pre ++ [i]) (y.w.setCell ⟨w.heap.size + 1, 0, none⟩ (.int .i64 v)) := by
  have h1 := y.b.mono hB.size
  have h2 : Below w.heap.size W (y.w.setCell ⟨w.heap.size + 1, 0, none⟩ (.int .i64 v)) := h1.setCell (p := ⟨w.heap.size + 1, 0, none⟩) (by simp) _
  refine ⟨((keeps_later y.b).trans (KeepsOthers.setCell _ _ _)).from _, ⟨h2, ?_⟩, ?_, ?_, hB.trans h2, by have := y.b.size; simp [World.setCell]; omega⟩
  · exact (Below.heap_setCell _ _ _ _ (by simp)).trans (y.b.block _ (by omega))
  · exact (bX.below y.b bX.lt).far (p := ⟨w.heap.size + 1, 0, none⟩) (by simp) _
  · rw [e]
    exact (bS.below y.b bS.lt).set_ 0 _

set_option maxRecDepth 100000 in
set_option maxHeartbeats 2000000 in
theorem upto_walk (r : Road) (A B C : Option Addr) (a b c : Nat) (G : Option Addr) (g M : Nat) (w : World) (x : Int) (hM : Meas w M r A B C a b c G g) (hr : RdRoad w r A B C) (hok : okPs r) (hx0 : 0 ≤ x) (hx1 : x ≤ 100000000) :
    Calls Try.prog 56 #[.pointer (some ⟨M, 0, none⟩), .int .i64 x] w fun e w' => ∃ pre, (pre = List.finRange r.ps.length ∨ ((∃ k, k ≤ r.ps.length ∧ pre = upto r.ps.length k) ∧ ∃ ys y, pre = ys ++ [y] ∧ x ≤ lenSum (r.ps.take y.1))) ∧ e = .returned (.int .i64 (upS r x pre)) ∧ Below w.heap.size w w' := by
  refine (callsIn_wide (n := 6)).1 ?_
  refine callsIn_of_wp_marks Try.func56 rfl trivial ?_ rfl
  simp only [Try.ntmps56, List.size_toArray, List.length_cons, List.length_nil, Nat.reduceAdd, Nat.reduceSub, Array.replicate_succ, Array.replicate_zero, List.push_toArray, List.append_toArray, List.nil_append, List.cons_append]
  gi_wp2_with (gi_at_call 58; refine (callsIn_wide.2 (all_any _ _)).mono ?_; rintro e w' ⟨rfl, rfl⟩)
  have bX := ((Blk.new w 3 #[.int .i64 x]).alloc (.cells #[.int .i64 0] 3)).alloc (.cells #[.pointer (some ⟨M, 0, none⟩)] 89)
  have bS := (Blk.new (w.alloc (.cells #[.int .i64 x] 3)) 3 #[.int .i64 0]).alloc (.cells #[.pointer (some ⟨M, 0, none⟩)] 89)
  have bA := Blk.new ((w.alloc (.cells #[.int .i64 x] 3)).alloc (.cells #[.int .i64 0] 3)) 89 #[.pointer (some ⟨M, 0, none⟩)]
  simp only [World.size_alloc] at bS bA
  have hB0 : Below w.heap.size w (((w.alloc (.cells #[.int .i64 x] 3)).alloc (.cells #[.int .i64 0] 3)).alloc (.cells #[.pointer (some ⟨M, 0, none⟩)] 89)) := (((Below.refl _ w).alloc (Nat.le_refl _) _).alloc (by simp) _).alloc (by simp; omega) _
  have hsz : (((w.alloc (.cells #[.int .i64 x] 3)).alloc (.cells #[.int .i64 0] 3)).alloc (.cells #[.pointer (some ⟨M, 0, none⟩)] 89)).heap.size = w.heap.size + 3 := by simp
  obtain ⟨W0, hW0⟩ : ∃ W0, ((w.alloc (.cells #[.int .i64 x] 3)).alloc (.cells #[.int .i64 0] 3)).alloc (.cells #[.pointer (some ⟨M, 0, none⟩)] 89) = W0 := ⟨_, rfl⟩
  rw [hW0] at bX bS bA hB0 hsz ⊢
  clear hW0
  simp only [Nat.add_assoc, Nat.reduceAdd] at bA
  refine wpIn_rangeFunc_ownH rfl (by omega) (gf := 88) (lb := #[.pointer (some ⟨w.heap.size + 1 + 1, 0, none⟩)]) rfl trivial (enters_of Try.func88 (by kernel_rfl) rfl)
    (all_stops Fence.wide (6 - 1) trivial rfl (by omega) (w.heap.size + 2) M r A B C a b c G g (by have := hok.2; omega) w W0 hB0 bA hM hr) KpB.trans (KpB.put (by omega) (by omega)) (Below.refl _ _) (fun _ => rfl)
    (upI r w x) (upX r w x) (upI_own r w x _ (by omega)) (upX_own r w x _ (by omega)) ⟨bX, bS, hB0, by omega⟩
    (fun i a' W => ∃ Bx, w.heap.size + 2 < Bx ∧ Blk W Bx 52 #[.int .i64 r.ps[i.1].len, .int .i64 r.ps[i.1].turn, .int .i64 r.ps[i.1].rad, .int .i64 r.ps[i.1].wid, .int .i64 r.ps[i.1].sur] ∧ a' = { tmps := #[.pointer (some ⟨M, 0, none⟩), .int .i64 x, undef, .pointer (some ⟨w.heap.size, 0, none⟩), .int .i64 0, .pointer (some ⟨w.heap.size + 1, 0, none⟩), .int .i64 (lenSum (r.ps.take i.1)), .pointer (some ⟨Bx, 0, none⟩), .pointer (some ⟨M, 0, none⟩), .func (.func 88) #[] #[.pointer (some ⟨w.heap.size + 1 + 1, 0, none⟩)], .int .i64 (lenSum (r.ps.take i.1)), .agg #[.int .i64 r.ps[i.1].len, .int .i64 r.ps[i.1].turn, .int .i64 r.ps[i.1].rad, .int .i64 r.ps[i.1].wid, .int .i64 r.ps[i.1].sur], undef, undef, undef, undef, undef, undef, undef, undef, undef, undef, undef, undef, undef, undef], defers := [] })
    ?ax ?assign ?body ?done ?stop
  case ax =>
    intro i a' _ X Y row hs hg hr'
    obtain ⟨Bx, h1, h2, h3⟩ := hs
    refine ⟨Bx, h1, h2.grown hg (fun e => ?_), h3⟩
    obtain ⟨-, o, ho, hc⟩ := hr' _ e.symm
    rw [show X.heap[Bx]? = _ from h2] at ho
    cases ho
    cases hc
  case assign =>
    rintro l pre i W K ⟨bX1, bS1, hB1, hsW⟩ hK
    simp only [encs]
    gi_wp2
    exact hK _ _ ((KeepsOthers.alloc _ _).from _) ⟨(Below.refl _ W).alloc hB1.size _, Below.heap_alloc _ _ _ (by omega)⟩ ⟨bX1.alloc _, bS1.alloc _, hB1.alloc hB1.size _, by simp; omega⟩ ⟨W.heap.size, by omega, Blk.new W 52 _, rfl⟩
  case body =>
    rintro l pre i a' W hl ⟨rec, hrec⟩ ⟨bX1, bS1, hB1, hsW⟩ ⟨Bx, hBx, bP, rfl⟩ hlt
    have hxc := bX1.cell 0
    have hsc := bS1.cell 0
    have hsf := bS1.frozen 0
    have p0 := bP.cell 0
    have p1 := bP.cell 1
    have p2 := bP.cell 2
    have p3 := bP.cell 3
    have p4 := bP.cell 4
    have hx := bX1.lt
    have hs := bS1.lt
    have hp := bP.lt
    have hi := hok.at i.2
    obtain ⟨i1, i2, i3, i4, i5, i6⟩ := hi
    clear i6
    have hbeg := hok.beg i.1
    have g1 := hbeg.1
    have g2 := hbeg.2
    clear hbeg
    have hsb := upS_bd r hok x pre
    have s1 : -(20000000000) ≤ upS r x pre := by have := hsb.1; have := hok.2; omega
    have s2 : upS r x pre ≤ 20000000000 := by have := hsb.2; have := hok.2; omega
    clear hsb
    by_cases hc : x ≤ lenSum (r.ps.take i.1)
    · have hc' : decide (x ≤ lenSum (r.ps.take i.1)) = true := by simpa using hc
      gi_wp2
      refine ⟨KeepsFrom.refl _ _, rfl, ⟨bX1, ?_, hB1, hsW⟩, pre, i, rfl, hc⟩
      have e : upS r x (pre ++ [i]) = upS r x pre := by
        rw [upS_snoc, upF, if_neg (by omega)]
        omega
      rw [e]
      exact bS1
    · have hc' : decide (x ≤ lenSum (r.ps.take i.1)) = false := by simpa using hc
      have hf : upF r x i = trn r.ps[i.1].turn r.ps[i.1].rad (min r.ps[i.1].len (x - lenSum (r.ps.take i.1))) := by rw [upF, if_pos (by omega)]
      have hub := upF_bd r hok x i
      rw [hf] at hub
      have HS : Hid (upS r x (pre ++ [i]) = upS r x pre + trn r.ps[i.1].turn r.ps[i.1].rad (min r.ps[i.1].len (x - lenSum (r.ps.take i.1)))) := Lib.hid (by rw [upS_snoc, hf])
      clear hf
      by_cases hm : x - lenSum (r.ps.take i.1) < r.ps[i.1].len
      · have hmn : min r.ps[i.1].len (x - lenSum (r.ps.take i.1)) = x - lenSum (r.ps.take i.1) := by omega
        rw [hmn] at hub HS
        have u1 := hub.1
        have u2 := hub.2
        clear hub hmn
        gi_wp2
        refine wpIn_region_later_tail 10 (by kernel_rfl) (by kernel_rfl) (by kernel_rfl) ?_
        simp only [List.take_succ_cons, List.take_zero, List.drop_succ_cons, List.drop_zero]
        repeat (gi_big_quiet_step ((gi_at_call 61; exact later_in (turned_any _ _ _ _ _ _ _ (by omega) (by omega) (by omega) (by omega) i5))))
        refine wpQuietIn_nil ?_
        rintro _ ⟨y, rfl⟩
        gi_wp2
        exact up_round y bX1 bS1 hB1 hsW HS.out
      · have hmn : min r.ps[i.1].len (x - lenSum (r.ps.take i.1)) = r.ps[i.1].len := by omega
        rw [hmn] at hub HS
        have u1 := hub.1
        have u2 := hub.2
        clear hub hmn
        gi_wp2
        refine wpIn_region_later_tail 10 (by kernel_rfl) (by kernel_rfl) (by kernel_rfl) ?_
        simp only [List.take_succ_cons, List.take_zero, List.drop_succ_cons, List.drop_zero]
        repeat (gi_big_quiet_step ((gi_at_call 61; exact later_in (turned_any _ _ _ _ _ _ _ (by omega) (by omega) (by omega) (by omega) i5))))
        refine wpQuietIn_nil ?_
        rintro _ ⟨y, rfl⟩
        gi_wp2
        exact up_round y bX1 bS1 hB1 hsW HS.out
  case done =>
    rintro D xs W hD rfl ⟨bX1, bS1, hB1, hsW⟩ hK
    have hsc := bS1.cell 0
    gi_wp2
    refine ⟨by simp, .inl ⟨_, _, rfl, run_takeDeferred hK, ?_⟩⟩
    exact ⟨_, results_tmp rfl _ _ _, _, .inl rfl, rfl, hB1.trans (belowK_b (w := W0) (by omega) W D _ _ hD hK rfl rfl)⟩
  case stop =>
    rintro D c pre W hD hpre ⟨rfl, ⟨bX1, bS1, hB1, hsW⟩, ys, z, hz1, hz2⟩ hK
    have hsc := bS1.cell 0
    have HZ := Lib.hid hz1
    clear hz1
    gi_wp2
    refine ⟨by simp, .inl ⟨_, _, rfl, run_takeDeferred hK, ?_⟩⟩
    exact ⟨_, results_tmp rfl _ _ _, _, .inr ⟨hpre, ys, z, HZ.out, hz2⟩, rfl, hB1.trans (belowK_b (w := W0) (by omega) W D _ _ hD hK rfl rfl)⟩

/-- The turning up to a place. -/
def up : List Pc → Int → Int
  | [], _ => 0
  | p :: ps, x => if x ≤ 0 then 0 else trn p.turn p.rad (min x p.len) + up ps (x - p.len)

/-- What the piece p adds, s meters behind its beginning. -/
def upG (p : Pc) (s x : Int) : Int := if s < x then trn p.turn p.rad (min p.len (x - s)) else 0
/-- The same sum by the beginnings. -/
def upL : List Pc → Int → Int → Int
  | [], _, _ => 0
  | p :: ps, s, x => upG p s x + upL ps (s + p.len) x
theorem upL_zero (ps : List Pc) : ∀ s x : Int, x ≤ s → (∀ p ∈ ps, 0 ≤ p.len) → upL ps s x = 0 := by
  induction ps with
  | nil => intro s x _ _; rfl
  | cons p ps ih =>
    intro s x h hl
    have := hl p (by simp)
    simp only [upL, upG, if_neg (show ¬ s < x by omega)]
    rw [ih (s + p.len) x (by omega) (fun q hq => hl q (by simp [hq]))]
    rfl
theorem upL_up (ps : List Pc) : ∀ s x : Int, (∀ p ∈ ps, 0 ≤ p.len) → upL ps s x = up ps (x - s) := by
  induction ps with
  | nil => intro s x _; rfl
  | cons p ps ih =>
    intro s x hl
    by_cases h : s < x
    · simp only [upL, up, upG, if_pos h, if_neg (show ¬ x - s ≤ 0 by omega)]
      rw [ih _ _ (fun q hq => hl q (by simp [hq])), Int.min_comm p.len (x - s), show x - (s + p.len) = x - s - p.len by omega]
    · rw [upL_zero _ _ _ (by omega) hl]
      simp only [up, if_pos (show x - s ≤ 0 by omega)]
theorem upL_append (ps qs : List Pc) : ∀ s x : Int, upL (ps ++ qs) s x = upL ps s x + upL qs (s + lenSum ps) x := by
  induction ps with
  | nil => intro s x; simp [upL, lenSum]
  | cons p ps ih =>
    intro s x
    simp only [List.cons_append, upL, ih, lenSum, List.map_cons, List.sum_cons]
    rw [show s + p.len + (List.map Pc.len ps).sum = s + (p.len + (List.map Pc.len ps).sum) by omega]
    omega
theorem upS_upto (r : Road) (x : Int) : ∀ k, k ≤ r.ps.length → upS r x (upto r.ps.length k) = upL (r.ps.take k) 0 x := by
  intro k
  induction k with
  | zero => intro _; simp [upto, upS, upL]
  | succ k ih =>
    intro hk
    have hlt : k < r.ps.length := by omega
    rw [upto_succ ⟨k, hlt⟩, upS_snoc, ih (by omega), List.take_add_one, List.getElem?_eq_getElem hlt]
    rw [upL_append]
    simp only [Option.toList_some, upL, upG, upF, Int.zero_add, Int.add_zero]
theorem upS_all (r : Road) (x : Int) (hl : ∀ p ∈ r.ps, 0 ≤ p.len) : upS r x (List.finRange r.ps.length) = up r.ps x := by
  rw [← upto_all, upS_upto r x _ (Nat.le_refl _), List.take_length, upL_up _ _ _ hl, Int.sub_zero]
theorem lenSum_nonneg (ps : List Pc) (hl : ∀ p ∈ ps, 0 ≤ p.len) : 0 ≤ lenSum ps := by
  induction ps with
  | nil => simp [lenSum]
  | cons p ps ih =>
    have h1 := hl p (by simp)
    have h2 := ih (fun q hq => hl q (by simp [hq]))
    simp only [lenSum, List.map_cons, List.sum_cons] at h2 ⊢
    omega
theorem upS_part (r : Road) (x : Int) (hl : ∀ p ∈ r.ps, 0 ≤ p.len) (k : Nat) (hk : k ≤ r.ps.length) (ys : List (Fin r.ps.length)) (y : Fin r.ps.length) (e : upto r.ps.length k = ys ++ [y]) (hy : x ≤ lenSum (r.ps.take y.1)) : upS r x (upto r.ps.length k) = up r.ps x := by
  rw [upS_upto r x k hk]
  have hk0 : k ≠ 0 := by
    rintro rfl
    simp [upto] at e
  obtain ⟨k, rfl⟩ : ∃ j, k = j + 1 := ⟨k - 1, by omega⟩
  have hlt : k < r.ps.length := by omega
  rw [upto_succ ⟨k, hlt⟩] at e
  have hy' : (⟨k, hlt⟩ : Fin r.ps.length) = y := by
    have := List.append_inj_right' e rfl
    simpa using this
  subst hy'
  have h1 := upL_up r.ps 0 x hl
  rw [Int.sub_zero] at h1
  rw [← h1]
  conv => rhs; rw [← List.take_append_drop (k + 1) r.ps]
  rw [upL_append, Int.zero_add, upL_zero (r.ps.drop (k + 1)) _ x]
  · omega
  · have h2 := lenSum_take_succ r.ps k _ (List.getElem?_eq_getElem hlt)
    have h3 := hl r.ps[k] (List.getElem_mem hlt)
    simp only at hy
    omega
  · exact fun p hp => hl p (List.mem_of_mem_drop hp)

theorem upto_any (r : Road) (A B C : Option Addr) (a b c : Nat) (G : Option Addr) (g M : Nat) (w : World) (x : Int) (hM : Meas w M r A B C a b c G g) (hr : RdRoad w r A B C) (hok : okPs r) (hx0 : 0 ≤ x) (hx1 : x ≤ 100000000) :
    Calls Try.prog 56 #[.pointer (some ⟨M, 0, none⟩), .int .i64 x] w fun e w' => e = .returned (.int .i64 (up r.ps x)) ∧ Below w.heap.size w w' := by
  refine (upto_walk r A B C a b c G g M w x hM hr hok hx0 hx1).mono ?_
  have hl : ∀ p ∈ r.ps, 0 ≤ p.len := fun p hp => (hok.lens p hp).1
  rintro e w' ⟨pre, rfl | ⟨⟨k, hk, rfl⟩, ys, y, e1, e2⟩, rfl, hb⟩
  · exact ⟨by rw [upS_all r x hl], hb⟩
  · exact ⟨by rw [upS_part r x hl k hk ys y e1 e2], hb⟩

end Go.Proofs.Ytbdjmaogbpdkpaa

import Derived.Test.YtbdjmaogbpdkpaaRoadA
import Derived.RangeFuncBox
namespace Go.Proofs.Ytbdjmaogbpdkpaa
open Go.RowKit

theorem Try.info3 : (Try.prog.info? 3).map (fun i => (i.zero, i.size, i.bytes)) = some (some (.int .i64 0), 1, 8) := by kernel_rfl

theorem blk_at (w : World) (t : TypeId) (cs : Array Value) (n : Nat) (h : n = w.heap.size) : Blk (w.alloc (.cells cs t)) n t cs := by
  subst h
  exact Blk.new _ _ _

theorem cell_one_at (w : World) (x : Value) (t : TypeId) (n : Nat) (h : n = w.heap.size) : ∀ j u, [x][j]? = some u → (w.alloc (.cells #[x] t)).cell? ((⟨n, 0, none⟩ : Addr).add j) = some u := by
  subst h
  exact cell_one_new w x t

def ints (l : List Int) : List Value := l.map fun x => .int .i64 x
/-- The beginnings of the pieces before k. -/
def begTo (ps : List Pc) (k : Nat) : List Int := (List.range k).map fun i => lenSum (ps.take i)
def begs (ps : List Pc) : List Int := begTo ps (ps.length + 1)
theorem begTo_succ (ps : List Pc) (k : Nat) : begTo ps (k + 1) = begTo ps k ++ [lenSum (ps.take k)] := by
  unfold begTo
  rw [List.range_succ, List.map_append]
  rfl
theorem begTo_length (ps : List Pc) (k : Nat) : (begTo ps k).length = k := by simp [begTo]

theorem meas_app {W w1 : World} {M : Nat} {p c j v v' : Value} {k m : Nat} {xs ys : List Value} {tmp : Obj} (hb : Blk W M 94 #[p, c, j, v]) (hr : W.ownsRow (M + 1) 3 1 v k xs)
    (hown' : w1.ownsRow (M + 1) 3 1 v' m ys) (hg : (W.alloc tmp).grownBy w1 v.ownBlock) :
    Blk w1 M 94 #[p, c, j, v] ∧ Blk (w1.setCell ⟨M, 3, none⟩ v') M 94 #[p, c, j, v'] ∧ (w1.setCell ⟨M, 3, none⟩ v').ownsRow (M + 1) 3 1 v' m ys ∧ Below M W (w1.setCell ⟨M, 3, none⟩ v') := by
  have h1 : Blk w1 M 94 #[p, c, j, v] := (hb.alloc tmp).grown hg (own_blk_ne hr hb (by decide)).symm
  refine ⟨h1, h1.set_ 3 v', ownsRow_setCell_below hown' (Nat.lt_succ_self _) _, ?_⟩
  refine Below.setCell (B := M) ?_ (p := ⟨M, 3, none⟩) (Nat.le_refl _) v'
  have hM := hb.lt
  refine ((Below.refl M W).alloc (Nat.le_of_lt hM) tmp).grown hg (by simp; omega) fun q hq => ?_
  have := hr.lt q hq
  omega

/-- A block laid just ahead of an append to a row of another type lies on behind it. -/
theorem own_new {W w1 : World} {base : Nat} {e t : TypeId} {size k : Nat} {v : Value} {xs : List Value} {pc : Array Value} {tmp : Obj} (hr : W.ownsRow base e size v k xs) (hne : e ≠ t) (hg : ((W.alloc (.cells pc t)).alloc tmp).grownBy w1 v.ownBlock) : Blk w1 W.heap.size t pc :=
  ((Blk.new W t pc).alloc tmp).grown hg (own_blk_ne ((hr.alloc _).alloc tmp) ((Blk.new W t pc).alloc tmp) hne).symm

theorem InR.step2 {w wr w2 : World} {r : Road} {A B C : Option Addr} {a b c : Nat} (h : InR w wr r A B C a b c) (hb : Below (w.heap.size + 1) wr w2) : InR w w2 r A B C a b c :=
  ⟨h.below.trans (hb.mono (by omega)), ⟨Nat.lt_of_lt_of_le h.box.1 hb.size, fun j u hu => (hb.cell (p := ⟨w.heap.size, j, none⟩) (Nat.lt_succ_self _)).trans (h.box.2 j u hu)⟩⟩

/-- A measured road: its block, and the row of the beginnings. -/
structure Meas (w : World) (M : Nat) (r : Road) (A B C : Option Addr) (a b c : Nat) (G : Option Addr) (g : Nat) : Prop where
  box : Box w M [.slice A r.ps.length a, .slice B r.cs.length b, .slice C r.js.length c, .slice G (r.ps.length + 1) g]
  beg : Rd 1 (fun x => [.int .i64 x]) w G (begs r.ps)
theorem Meas.below {w w' : World} {M : Nat} {r : Road} {A B C : Option Addr} {a b c : Nat} {G : Option Addr} {g : Nat} (h : Meas w M r A B C a b c G g) (hb : Below w.heap.size w w') : Meas w' M r A B C a b c G g :=
  ⟨h.box.below hb, h.beg.below hb⟩

theorem Rd_of_own {w : World} {base : Nat} {G : Option Addr} {n g : Nat} {l : List Int} (h : w.ownsRow base 3 1 (.slice G n g) n (ints l)) : Rd 1 (fun x => [.int .i64 x]) w G l := by
  intro i x hx
  have hl : l.length = n := by have := h.1; simpa [ints] using this
  have hi : i < l.length := (List.getElem?_eq_some_iff.1 hx).1
  rcases h.2 with ⟨_, h0⟩ | ⟨gb, cap, cur, hv, hb, hh, hrest⟩
  · omega
  · injection hv with h1
    subst h1
    refine ⟨gb, 0, rfl, (Array.getElem?_eq_some_iff.1 hh).1, fun j u hu => ?_⟩
    have hj : j = 0 := by
      rcases j with _ | j
      · rfl
      · simp at hu
    subst hj
    have := h.cells (g := gb) rfl i (.int .i64 x) (by simp [ints, hx])
    simp only [List.getElem?_cons_zero, Option.some.injEq] at hu
    subst hu
    have e : (⟨gb, 0, none⟩ : Addr).add i = ⟨gb, 0 + i * 1 + 0, none⟩ := by
      unfold Addr.add
      split
      · rename_i h0
        subst h0
        rfl
      · simp
    rw [← e]
    exact this

set_option maxRecDepth 100000 in
set_option maxHeartbeats 1000000 in
theorem measure_any (r : Road) (A B C : Option Addr) (a b c : Nat) (w : World) (h : RdRoad w r A B C) (hl : lensOk r.ps 100000) (hn : r.ps.length ≤ 100000) :
    Calls Try.prog 52 #[.agg #[.slice A r.ps.length a, .slice B r.cs.length b, .slice C r.js.length c]] w fun e w' => ∃ M G g, e = .returned (.pointer (some ⟨M, 0, none⟩)) ∧ w.heap.size ≤ M ∧ Below w.heap.size w w' ∧ Meas w' M r A B C a b c G g := by
  obtain ⟨i0, hi, hz0, hz1, hz2⟩ := info_parts Try.info3
  go_enter Try.func52, Try.ntmps52
  go_wp2
  go_loopw [4, 13] (fun n i wr => ∃ k v, k ≤ r.ps.length ∧ i = .int .i64 k ∧ n = .int .i64 (lenSum (r.ps.take k)) ∧ InR w wr r A B C a b c ∧ Blk wr (w.heap.size + 1) 94 #[.slice A r.ps.length a, .slice B r.cs.length b, .slice C r.js.length c, v] ∧ wr.ownsRow (w.heap.size + 2) 3 1 v k (ints (begTo r.ps k))) (fun _ i _ => r.ps.length - (intOf i).toNat)
  case atStart => exact ⟨0, .slice none 0 0, Nat.zero_le _, rfl, rfl, (InR.new _ _ _ _ _ _ _ _).step (balloc _ _), blk_at _ _ _ _ (by simp), World.ownsRow_nil _ _ _ _⟩
  case round =>
    obtain ⟨k, v, hk, rfl, rfl, hI, hM, hown⟩ := hrel
    have hb := lenSum_bd _ _ (hl.take k)
    have hb0 := hb.1
    have hb1 : lenSum (r.ps.take k) ≤ 10000000000 := by
      have := hb.2
      have := List.length_take_le k r.ps
      omega
    clear hb
    have hMlt := hM.lt
    have m3 := hM.cell 3
    have f3 := hM.frozen 3
    by_cases hlt : k < r.ps.length
    · obtain ⟨p, hp⟩ := getElem?_ex hlt
      obtain ⟨bb, o, hA, hbb, c0, c1, c2, c3, c4⟩ := (hI.rd h).p.at5 hp
      subst hA
      have hq := hl.at hp
      have hq0 := hq.1
      have hq1 := hq.2
      clear hq
      have HT := Lib.hid (lenSum_take_succ r.ps k p hp)
      clear hp
      go_wp2_with (first | (at_builtin; refine wpList_append_own _ rfl _ _ 65 rfl (w.heap.size + 2) 3 i0 (.int .i64 0) 1 8 Try.underlying65 hi hz0 hz1 hz2 rfl (by decide) v k (ints (begTo r.ps k)) rfl ((hown.alloc _).alloc _) ⟨wr.heap.size + 1, 0, none⟩ 1 1 [.int .i64 (lenSum (r.ps.take k))] rfl rfl (cell_one_at _ _ _ _ (by simp)) (by simp [Value.oneCell']) (by simp only [maxLen]; omega) (by omega) (by simp; omega) ?_; intro v' w1 hown' hgrow _; obtain ⟨g', cap', rfl⟩ := ownsRow_succ hown'; obtain ⟨q1, q2, q3, q4⟩ := meas_app (hM.alloc _) (hown.alloc _) hown' hgrow; have e3 := q1.cell 3; have ef := q1.frozen 3; have qp := own_new hown (by decide) hgrow; have qp0 := qp.cell 0; have hz1 := qp.lt))
      go_roundw
      case rel => exact ⟨k + 1, _, by omega, by go_num, by rw [HT.out], hI.step2 (((Below.refl _ _).alloc (by omega) _).trans q4), q2, by rw [begTo_succ]; simpa [ints] using q3⟩
      case measure => simp [intOf]; omega
    · obtain rfl : k = r.ps.length := by omega
      rw [List.take_length] at hb0 hb1
      simp only [List.take_length]
      go_wp2_with (first | (at_builtin; refine wpList_append_own _ rfl _ _ 65 rfl (w.heap.size + 2) 3 i0 (.int .i64 0) 1 8 Try.underlying65 hi hz0 hz1 hz2 rfl (by decide) v r.ps.length (ints (begTo r.ps r.ps.length)) rfl (hown.alloc _) ⟨wr.heap.size, 0, none⟩ 1 1 [.int .i64 (lenSum r.ps)] rfl rfl (cell_one_at _ _ _ _ (by simp)) (by simp [Value.oneCell']) (by simp only [maxLen]; omega) (by omega) (by simp; omega) ?_; intro v' w1 hown' hgrow _; obtain ⟨g', cap', rfl⟩ := ownsRow_succ hown'; obtain ⟨q1, q2, q3, q4⟩ := meas_app hM hown hown' hgrow; have e3 := q1.cell 3; have ef := q1.frozen 3))
      go_ret
      refine ⟨w.heap.size + 1, some ⟨g', 0, none⟩, cap', by simp, by omega, hI.below.trans (q4.mono (by omega)), ⟨Blk.box (cs := [_, _, _, _]) q2, ?_⟩⟩
      have hb : begs r.ps = begTo r.ps r.ps.length ++ [lenSum r.ps] := by
        unfold begs
        rw [begTo_succ, List.take_length]
      rw [hb]
      refine Rd_of_own (n := r.ps.length + 1) (g := cap') (base := w.heap.size + 2) ?_
      simpa [ints] using q3

end Go.Proofs.Ytbdjmaogbpdkpaa

import Derived.RangeFuncNested
import Derived.RangeFuncBound
import Derived.RangeFuncCalls
import Derived.RangeFuncLeaves
import Derived.Shelf.Abstract
import Derived.Shelf.RegionOpen
import Derived.WalkKit
import Derived.OwnWalkIn
import Derived.TacticsInMore
import Derived.LoopNIn
import Derived.LoopIn
import Derived.Test.YtbdjmaogbpdkpaaMeas
import Derived.Test.YtbdjmaogbpdkpaaLater
namespace Go.Proofs.Ytbdjmaogbpdkpaa
open Go.RowKit Go.Shelf
attribute [local go_sem] Oper.semAt_some Later.cell Later.cell1 Later.new1

theorem Rd.at1 {w : World} {A : Option Addr} {xs : List Int} (h : Rd 1 (fun x => [Value.int .i64 x]) w A xs) {i : Nat} {p : Int} (hp : xs[i]? = some p) : ∃ b o, A = some ⟨b, o, none⟩ ∧ b < w.heap.size ∧ w.cell? ⟨b, o + i, none⟩ = some (.int .i64 p) := by
  obtain ⟨b, o, rfl, hlt, hc⟩ := h i p hp
  exact ⟨b, o, rfl, hlt, by simpa using hc 0 _ rfl⟩
theorem begs_at (ps : List Pc) (k : Nat) (hk : k ≤ ps.length) : (begs ps)[k]? = some (lenSum (ps.take k)) := by
  unfold begs begTo
  rw [List.getElem?_map, List.getElem?_range (by omega)]
  rfl

set_option maxHeartbeats 400000 in
theorem mlength_any (r : Road) (A B C : Option Addr) (a b c : Nat) (G : Option Addr) (g M : Nat) (w : World) (h : Meas w M r A B C a b c G g) (hn : r.ps.length ≤ 100000) :
    Calls Try.prog 54 #[.pointer (some ⟨M, 0, none⟩)] w fun e w' => e = .returned (.int .i64 (lenSum r.ps)) ∧ Below w.heap.size w w' := by
  have b0 := h.box.2 0 _ rfl
  have b3 := h.box.2 3 _ rfl
  obtain ⟨gb, go, rfl, hlt, hc⟩ := h.beg.at1 (begs_at r.ps r.ps.length (Nat.le_refl _))
  rw [List.take_length] at hc
  go_enter Try.func54, Try.ntmps54
  go_wp2_with fail
  go_quiet (fail)
  go_wp2
  go_ret
  exact ⟨rfl, bdrewN (Below.refl _ _) _⟩

set_option maxHeartbeats 400000 in
theorem all_any (p : Option Addr) (w : World) :
    Calls Try.prog 58 #[.pointer p] w fun e w' => e = .returned (.func (.func 88) #[] #[.pointer (some ⟨w.heap.size, 0, none⟩)]) ∧ w.alloc (.cells #[.pointer p] 89) = w' := by
  go_enter Try.func58, Try.ntmps58
  go_wp2
  go_ret
  exact ⟨rfl, rfl⟩

/-- What a round keeps: what lay below n₀, and one block besides. -/
def KpB (n₀ Bs : Nat) (W W' : World) : Prop := Below n₀ W W' ∧ W'.heap[Bs]? = W.heap[Bs]?
theorem KpB.trans {n₀ Bs : Nat} {A B C : World} (h : KpB n₀ Bs A B) (k : KpB n₀ Bs B C) : KpB n₀ Bs A C := ⟨h.1.trans k.1, k.2.trans h.2⟩
theorem KpB.refl (n₀ Bs : Nat) (W : World) : KpB n₀ Bs W W := ⟨Below.refl _ _, rfl⟩
theorem KpB.put {n₀ Bs : Nat} {w : World} (hn : n₀ ≤ w.heap.size) (hB : Bs < w.heap.size) (W : World) (l : Nat) (o o' : Obj) (hl : w.heap.size ≤ l) (h : W.heap[l]? = some o) (h1 : o.isCells = false) (h2 : o.isWalk = false) : KpB n₀ Bs W (W.putObj l o') :=
  ⟨belowK_b hn W l o o' hl h h1 h2, World.putObj_heap_other (by omega)⟩

def zpc : Pc := ⟨0, 0, 0, 0, 0⟩
/-- What is handed to the loop's body: the beginning of the piece i, and the piece. -/
def encs (r : Road) (i : Fin r.ps.length) : Array Value :=
  #[.int .i64 (lenSum (r.ps.take i.1)), .agg #[.int .i64 r.ps[i.1].len, .int .i64 r.ps[i.1].turn, .int .i64 r.ps[i.1].rad, .int .i64 r.ps[i.1].wid, .int .i64 r.ps[i.1].sur]]

/-- The first k indices. -/
def upto (n k : Nat) : List (Fin n) := (List.finRange n).take k
theorem upto_succ {n : Nat} (k : Fin n) : upto n (k.1 + 1) = upto n k.1 ++ [k] := by
  unfold upto
  rw [List.take_add_one]
  congr 1
  rw [List.getElem?_eq_getElem (by simp)]
  simp
theorem upto_all (n : Nat) : upto n n = List.finRange n := by
  unfold upto
  exact List.take_of_length_le (by simp)
theorem upto_length {n k : Nat} (h : k ≤ n) : (upto n k).length = k := by simp [upto]; omega

set_option maxRecDepth 100000 in
set_option maxHeartbeats 2000000 in
theorem all1_in (F : Fence) (n : Nat) (h88 : F.fn 88) (hro : F.round = none) (hn : 1 ≤ n) (l Bs n₀ M : Nat) (r : Road) (A B C : Option Addr) (a b c : Nat) (G : Option Addr) (g : Nat) (hlen : r.ps.length ≤ 100000)
    (J Jx : List (Fin r.ps.length) → World → Prop)
    (hY : ∀ pre x W, J pre W → pre.length < r.ps.length → YieldAt F (n - 1) Try.prog l (encs r x) W fun e W' =>
      (e = .returned (.bool true) ∧ J (pre ++ [x]) W' ∧ KpB n₀ Bs W W') ∨ (e = .returned (.bool false) ∧ Jx (pre ++ [x]) W'))
    (hJ : ∀ pre W' W'', J pre W' → Below W'.heap.size W' W'' → J pre W'')
    (W : World) (hBs : Blk W Bs 89 #[.pointer (some ⟨M, 0, none⟩)]) (hMn : M < n₀) (hn₀ : n₀ ≤ W.heap.size) (hM : Box W M [.slice A r.ps.length a, .slice B r.cs.length b, .slice C r.js.length c, .slice G (r.ps.length + 1) g])
    (hG : ∀ k, k < r.ps.length → ∃ b o, G = some ⟨b, o, none⟩ ∧ b < n₀ ∧ W.cell? ⟨b, o + k, none⟩ = some (.int .i64 (lenSum (r.ps.take k))))
    (hA : ∀ k (hk : k < r.ps.length), ∃ b o, A = some ⟨b, o, none⟩ ∧ b < n₀ ∧ W.cell? ⟨b, o + k * 5, none⟩ = some (.int .i64 r.ps[k].len) ∧ W.cell? ⟨b, o + k * 5 + 1, none⟩ = some (.int .i64 r.ps[k].turn) ∧ W.cell? ⟨b, o + k * 5 + 2, none⟩ = some (.int .i64 r.ps[k].rad) ∧ W.cell? ⟨b, o + k * 5 + 3, none⟩ = some (.int .i64 r.ps[k].wid) ∧ W.cell? ⟨b, o + k * 5 + 4, none⟩ = some (.int .i64 r.ps[k].sur))
    (h0 : J [] W) :
    CallsIn F n Try.prog 88 #[.func (.yield l) #[] #[], .pointer (some ⟨Bs, 0, none⟩)] W fun e W' => (∃ v, e = .returned v) ∧
      ((∃ ys, ys = List.finRange r.ps.length ∧ J ys W') ∨ (∃ pre, (∃ k, k ≤ r.ps.length ∧ pre = upto r.ps.length k) ∧ Jx pre W')) := by
  refine callsIn_of_wp Try.func88 rfl h88 ?_ hro
  simp only [Try.ntmps88, List.size_toArray, List.length_cons, List.length_nil, Nat.reduceAdd, Nat.reduceSub, Array.replicate_succ, Array.replicate_zero, List.push_toArray, List.append_toArray, List.nil_append, List.cons_append]
  have p0 := hBs.cell 0
  have m0 := hM.2 0 _ rfl
  gi_wp2
  gi_loopw [11] (fun i wr => ∃ k : Nat, k ≤ r.ps.length ∧ i = .int .i64 k ∧ J (upto r.ps.length k) wr ∧ KpB n₀ Bs W wr ∧ W.heap.size ≤ wr.heap.size)
    (fun i _ => r.ps.length - (intOf i).toNat)
  case atStart => exact ⟨0, Nat.zero_le _, rfl, h0, KpB.refl _ _ _, Nat.le_refl _⟩
  case round =>
    obtain ⟨k, hk, rfl, hJs, hnx, hsz⟩ := hrel
    have hBw : Blk wr Bs 89 #[.pointer (some ⟨M, 0, none⟩)] := hnx.2.trans hBs
    have q0 := hBw.cell 0
    have qlt := hBw.lt
    have e3 : wr.cell? ⟨M, 3, none⟩ = _ := (hnx.1.cell (p := ⟨M, 3, none⟩) hMn).trans (hM.2 3 _ rfl)
    by_cases hlt : k < r.ps.length
    · obtain ⟨gb, go, rfl, hgb, hg⟩ := hG k hlt
      obtain ⟨ab, ao, rfl, hab, c0, c1, c2, c3, c4⟩ := hA k hlt
      replace hg := (hnx.1.cell (p := ⟨gb, go + k, none⟩) hgb).trans hg
      replace c0 := (hnx.1.cell (p := ⟨ab, ao + k * 5, none⟩) hab).trans c0
      replace c1 := (hnx.1.cell (p := ⟨ab, ao + k * 5 + 1, none⟩) hab).trans c1
      replace c2 := (hnx.1.cell (p := ⟨ab, ao + k * 5 + 2, none⟩) hab).trans c2
      replace c3 := (hnx.1.cell (p := ⟨ab, ao + k * 5 + 3, none⟩) hab).trans c3
      replace c4 := (hnx.1.cell (p := ⟨ab, ao + k * 5 + 4, none⟩) hab).trans c4
      have f1 : 0 ≤ (k : Int) := by omega
      have f2 : (k : Int) < r.ps.length + 1 := by omega
      have f3 : ((k : Int)).toNat = k := by omega
      have hMw : M < wr.heap.size := by omega
      have hgw : gb < wr.heap.size := by omega
      have HJ := Lib.hid hJs
      clear hJs
      gi_wp2
      refine wpIn_region_later_tail 9 (by kernel_rfl) (by kernel_rfl) (by kernel_rfl) ?_
      simp only [List.take_succ_cons, List.take_zero, List.drop_succ_cons, List.drop_zero]
      repeat (gi_big_quiet_step (fail))
      refine wpQuietIn_nil ?_
      rintro _ ⟨x, rfl⟩
      have hxb : Below wr.heap.size wr x.w := (balloc wr _).trans (x.b.mono (by simp))
      obtain ⟨fn, tmps, assign, body, hy, hR⟩ := hY _ ⟨k, hlt⟩ x.w (hJ _ _ _ HJ.out hxb) (by rw [upto_length hk]; exact hlt)
      dsimp only [encs] at hy
      gi_wp2
      refine hR.mono ?_
      rintro e W3 (⟨rfl, hJ3, hk3⟩ | ⟨rfl, hJx3⟩)
      · gi_wp2
        go_roundw
        case rel => exact ⟨k + 1, by omega, by go_num, by rw [upto_succ ⟨k, hlt⟩]; exact hJ3, (hnx.trans ⟨hxb.mono (by omega), hxb.block _ qlt⟩).trans hk3, by have := hk3.1.size; have := hxb.size; omega⟩
        case measure => simp [intOf]; omega
      · gi_wp2
        refine bodyPost_ret (results_none rfl _ _ _) rfl ?_
        exact ⟨⟨_, rfl⟩, .inr ⟨_, ⟨k + 1, by omega, (upto_succ ⟨k, hlt⟩).symm⟩, hJx3⟩⟩
    · obtain rfl : k = r.ps.length := by omega
      gi_wp2
      go_end0
      exact ⟨⟨_, rfl⟩, .inl ⟨_, rfl, by rw [upto_all] at hJs; exact hJs⟩⟩

end Go.Proofs.Ytbdjmaogbpdkpaa

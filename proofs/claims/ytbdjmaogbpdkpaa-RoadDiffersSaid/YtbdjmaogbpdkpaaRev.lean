import Derived.Test.YtbdjmaogbpdkpaaClo
import Derived.RegionTactic
import Derived.BigRegion
import Derived.ChangeAlike
/-
  slices.Reverse of slices of pieces, crests and junctions that the call's caller owns.
-/
namespace Go.Proofs.Ytbdjmaogbpdkpaa
open Go.RowKit Go.Shelf
set_option linter.unusedVariables false
set_option linter.unusedSimpArgs false
attribute [local go_sem] Later.cell Later.cell1 Later.new1 Later.frozen Later.frozen1

/-- What lies after the pairs before i have changed places. -/
def swp {α : Type} (xs ys : List α) (i j : Int) : Prop := ys.length = xs.length ∧ ∀ t : Nat, t < xs.length → ys[t]? = if (t : Int) < i ∨ j < t then xs[xs.length - 1 - t]? else xs[t]?
theorem swp_end {α : Type} {xs ys : List α} {i j : Int} (h : swp xs ys i j) (hij : i + j = xs.length - 1) (hle : j ≤ i) : ys = xs.reverse := by
  refine List.ext_getElem? fun t => ?_
  by_cases ht : t < xs.length
  · rw [h.2 t ht, List.getElem?_reverse ht]
    split
    · rfl
    · congr 1
      omega
  · rw [List.getElem?_eq_none (by rw [h.1]; omega), List.getElem?_eq_none (by simpa using ht)]
theorem swp_start {α : Type} (xs : List α) : swp xs xs 0 ((xs.length : Int) - 1) := ⟨rfl, fun t ht => by rw [if_neg (by omega)]⟩
theorem swp_step {α : Type} {xs ys : List α} {i j : Nat} {x y : α} (h : swp xs ys i j) (hij : i + j + 1 = xs.length) (hlt : i < j) (hx : ys[i]? = some x) (hy : ys[j]? = some y) : swp xs ((ys.set i y).set j x) (i + 1) (j - 1) := by
  have hx' := h.2 i (by omega)
  have hy' := h.2 j (by omega)
  rw [if_neg (by omega)] at hx' hy'
  refine ⟨by simp [h.1], fun t ht => ?_⟩
  rw [List.getElem?_set]
  by_cases e1 : j = t
  · subst e1
    rw [if_pos rfl, if_pos (by simp [h.1]; omega), if_pos (by omega), show xs.length - 1 - j = i by omega, ← hx', hx]
  · rw [if_neg e1, List.getElem?_set]
    by_cases e2 : i = t
    · subst e2
      rw [if_pos rfl, if_pos (by rw [h.1]; omega), if_pos (by omega), show xs.length - 1 - i = j by omega, ← hy', hy]
    · rw [if_neg e2, h.2 t ht]
      by_cases c : (t : Int) < i ∨ (j : Int) < t
      · rw [if_pos c, if_pos (by omega)]
      · rw [if_neg c, if_neg (by omega)]
theorem grown_set (w : World) (g q : Nat) (u : Value) : w.grownBy (w.setCell ⟨g, q, none⟩ u) (some g) :=
  ⟨rfl, rfl, rfl, by simp [World.setCell], fun k _ hne => Below.heap_setCell _ _ _ _ (fun e => hne (by rw [e]))⟩
theorem grown_drew' (w : World) (row : Option Nat) : w.grownBy w.drew row := ⟨rfl, rfl, rfl, Nat.le_refl _, fun _ _ _ => rfl⟩
theorem below_drew (w : World) (B : Nat) : Below B w w.drew := ⟨rfl, rfl, rfl, Nat.le_refl _, fun _ _ => rfl⟩
theorem grown_refl' (w : World) (row : Option Nat) : w.grownBy w row := ⟨rfl, rfl, rfl, Nat.le_refl _, fun _ _ _ => rfl⟩
theorem OwnL.addr {α : Type} {w : World} {base : Nat} {e : TypeId} {k : Nat} {f : α → List Value} {A : Option Addr} {n c : Nat} {xs : List α} (h : OwnL w base e k f (.slice A n c) xs) (hn : 0 < xs.length) : ∃ g, A = some ⟨g, 0, none⟩ ∧ base ≤ g ∧ g < w.heap.size ∧ ∀ q, w.frozen? ⟨g, q, none⟩ = false := by
  rcases h.2 with ⟨e1, e2⟩ | ⟨g', cap'', cur, e1, hb, hh, _⟩
  · omega
  · injection e1 with e1
    subst e1
    exact ⟨g', rfl, hb, Blk.lt (t := e) hh, fun q => Blk.frozen (t := e) hh q⟩

theorem OwnL.set_p {w : World} {base g n c : Nat} {xs : List Pc} (h : OwnL w base 52 5 pcV (.slice (some ⟨g, 0, none⟩) n c) xs) (hn : n = xs.length) {i : Nat} {x : Pc} (hx : xs[i]? = some x) (y : Pc) :
    OwnL (((((w.setCell ⟨g, i * 5, none⟩ (.int .i64 y.len)).setCell ⟨g, i * 5 + 1, none⟩ (.int .i64 y.turn)).setCell ⟨g, i * 5 + 2, none⟩ (.int .i64 y.rad)).setCell ⟨g, i * 5 + 3, none⟩ (.int .i64 y.wid)).setCell ⟨g, i * 5 + 4, none⟩ (.int .i64 y.sur)) base 52 5 pcV (.slice (some ⟨g, 0, none⟩) n c) (xs.set i y) := by
  have hi := (List.getElem?_eq_some_iff.1 hx).1
  have h0 := OwnL.store (i := i) (j := 0) (x' := (⟨y.len, x.turn, x.rad, x.wid, x.sur⟩ : Pc)) (u := .int .i64 y.len) h hn pcV_len hx (by decide) rfl
  have h1 := OwnL.store (i := i) (j := 1) (x' := (⟨y.len, y.turn, x.rad, x.wid, x.sur⟩ : Pc)) (u := .int .i64 y.turn) h0 (by simp [hn]) pcV_len (List.getElem?_set_self (by simp [hi])) (by decide) rfl
  have h2 := OwnL.store (i := i) (j := 2) (x' := (⟨y.len, y.turn, y.rad, x.wid, x.sur⟩ : Pc)) (u := .int .i64 y.rad) h1 (by simp [hn]) pcV_len (List.getElem?_set_self (by simp [hi])) (by decide) rfl
  have h3 := OwnL.store (i := i) (j := 3) (x' := (⟨y.len, y.turn, y.rad, y.wid, x.sur⟩ : Pc)) (u := .int .i64 y.wid) h2 (by simp [hn]) pcV_len (List.getElem?_set_self (by simp [hi])) (by decide) rfl
  have h4 := OwnL.store (i := i) (j := 4) (x' := (⟨y.len, y.turn, y.rad, y.wid, y.sur⟩ : Pc)) (u := .int .i64 y.sur) h3 (by simp [hn]) pcV_len (List.getElem?_set_self (by simp [hi])) (by decide) rfl
  simp only [List.set_set] at h4
  exact h4

set_option maxRecDepth 100000 in
set_option maxHeartbeats 4000000 in
theorem reverse_p (xs : List Pc) (v : Value) (base : Nat) (w : World) (h : OwnL w base 52 5 pcV v xs) (hn : xs.length ≤ 1000000) :
    Calls Try.prog 65 #[v] w fun e w' => e = .returned (.tuple #[]) ∧ OwnL w' base 52 5 pcV v xs.reverse ∧ w.grownBy w' v.ownBlock := by
  obtain ⟨A, cap, rfl⟩ := h.form
  go_enter Try.func65, Try.ntmps65
  go_wp2
  go_loopw [2, 3] (fun i j wr => ∃ (zi zj : Int) (ys : List Pc), i = .int .i64 zi ∧ j = .int .i64 zj ∧ 0 ≤ zi ∧ zi + zj = xs.length - 1 ∧ zi ≤ zj + 2 ∧ zi ≤ xs.length ∧ Hid (swp xs ys zi zj) ∧ OwnL wr base 52 5 pcV (.slice A xs.length cap) ys ∧ w.grownBy wr (Value.slice A xs.length cap).ownBlock) (fun i _ _ => xs.length - (intOf i).toNat)
  case atStart => exact ⟨0, (xs.length : Int) - 1, xs, rfl, rfl, by omega, by omega, by omega, by omega, Lib.hid (swp_start xs), h, grown_refl' _ _⟩
  case round =>
    obtain ⟨zi, zj, ys, rfl, rfl, z1, z2, z3, z4, HS, hO, hG⟩ := hrel
    by_cases hlt : zi < zj
    · obtain ⟨i, rfl⟩ : ∃ i : Nat, zi = i := ⟨zi.toNat, by omega⟩
      obtain ⟨j, rfl⟩ : ∃ j : Nat, zj = j := ⟨zj.toNat, by omega⟩
      have hyl := HS.out.1
      obtain ⟨x, hx⟩ := getElem?_ex (show i < ys.length by omega)
      obtain ⟨y, hy⟩ := getElem?_ex (show j < ys.length by omega)
      obtain ⟨g, hA, hgb, hgl, hfz⟩ := hO.addr (by omega)
      subst hA
      have hR := hO.rd pcV_len
      obtain ⟨b1, o1, e1, _, a0, a1, a2, a3, a4⟩ := hR.at5 hx
      injection e1 with e1
      injection e1 with e1 e2
      subst e1 e2
      obtain ⟨b1, o1, e1, _, c0, c1, c2, c3, c4⟩ := hR.at5 hy
      injection e1 with e1
      injection e1 with e1 e2
      subst e1 e2
      simp only [Nat.zero_add] at a0 a1 a2 a3 a4 c0 c1 c2 c3 c4
      have f0 := hfz (i * 5)
      have k0 := hfz (j * 5)
      have f1 := hfz (i * 5 + 1)
      have k1 := hfz (j * 5 + 1)
      have f2 := hfz (i * 5 + 2)
      have k2 := hfz (j * 5 + 2)
      have f3 := hfz (i * 5 + 3)
      have k3 := hfz (j * 5 + 3)
      have f4 := hfz (i * 5 + 4)
      have k4 := hfz (j * 5 + 4)
      have HX := Lib.hid hx
      have HY := Lib.hid hy
      have HYL := Lib.hid hyl
      clear hfz hx hy hyl
      go_wp2_with fail
      go_region
      go_wp2_with fail
      go_roundw
      case rel =>
        have o1 := hO.set_p HYL.out.symm HX.out y
        have o2 := o1.set_p (by simp [HYL.out]) (i := j) (x := y) (by rw [List.getElem?_set_ne (by omega)]; exact HY.out) x
        have o3 := o2.below (below_drew _ _)
        refine ⟨(i : Int) + 1, (j : Int) - 1, (ys.set i y).set j x, rfl, rfl, by omega, by omega, by omega, by omega, Lib.hid (swp_step HS.out (by omega) (by omega) HX.out HY.out), o3, ?_⟩
        show w.grownBy _ (some g)
        refine World.grownBy.trans (b := wr) hG ?_
        refine World.grownBy.trans ?_ (grown_drew' _ _)
        iterate 9 (refine World.grownBy.trans ?_ (grown_set _ _ _ _))
        exact grown_set _ _ _ _
      case measure => simp [intOf]; omega
    · go_wp2_with fail
      refine bodyPost_end (results_none rfl _ _ _) rfl ?_
      have e := swp_end HS.out (by omega) (by omega)
      subst e
      exact ⟨rfl, hO, hG⟩

theorem OwnL.set_c {w : World} {base g n c : Nat} {xs : List Cr} (h : OwnL w base 86 2 crV (.slice (some ⟨g, 0, none⟩) n c) xs) (hn : n = xs.length) {i : Nat} {x : Cr} (hx : xs[i]? = some x) (y : Cr) :
    OwnL ((w.setCell ⟨g, i * 2, none⟩ (.int .i64 y.at_)).setCell ⟨g, i * 2 + 1, none⟩ (.int .i64 y.size)) base 86 2 crV (.slice (some ⟨g, 0, none⟩) n c) (xs.set i y) := by
  have hi := (List.getElem?_eq_some_iff.1 hx).1
  have h0 := OwnL.store (i := i) (j := 0) (x' := (⟨y.at_, x.size⟩ : Cr)) (u := .int .i64 y.at_) h hn crV_len hx (by decide) rfl
  have h1 := OwnL.store (i := i) (j := 1) (x' := (⟨y.at_, y.size⟩ : Cr)) (u := .int .i64 y.size) h0 (by simp [hn]) crV_len (List.getElem?_set_self (by simp [hi])) (by decide) rfl
  simp only [List.set_set] at h1
  exact h1

set_option maxRecDepth 100000 in
set_option maxHeartbeats 4000000 in
theorem reverse_c (xs : List Cr) (v : Value) (base : Nat) (w : World) (h : OwnL w base 86 2 crV v xs) (hn : xs.length ≤ 1000000) :
    Calls Try.prog 66 #[v] w fun e w' => e = .returned (.tuple #[]) ∧ OwnL w' base 86 2 crV v xs.reverse ∧ w.grownBy w' v.ownBlock := by
  obtain ⟨A, cap, rfl⟩ := h.form
  go_enter Try.func66, Try.ntmps66
  go_wp2
  go_loopw [2, 3] (fun i j wr => ∃ (zi zj : Int) (ys : List Cr), i = .int .i64 zi ∧ j = .int .i64 zj ∧ 0 ≤ zi ∧ zi + zj = xs.length - 1 ∧ zi ≤ zj + 2 ∧ zi ≤ xs.length ∧ Hid (swp xs ys zi zj) ∧ OwnL wr base 86 2 crV (.slice A xs.length cap) ys ∧ w.grownBy wr (Value.slice A xs.length cap).ownBlock) (fun i _ _ => xs.length - (intOf i).toNat)
  case atStart => exact ⟨0, (xs.length : Int) - 1, xs, rfl, rfl, by omega, by omega, by omega, by omega, Lib.hid (swp_start xs), h, grown_refl' _ _⟩
  case round =>
    obtain ⟨zi, zj, ys, rfl, rfl, z1, z2, z3, z4, HS, hO, hG⟩ := hrel
    by_cases hlt : zi < zj
    · obtain ⟨i, rfl⟩ : ∃ i : Nat, zi = i := ⟨zi.toNat, by omega⟩
      obtain ⟨j, rfl⟩ : ∃ j : Nat, zj = j := ⟨zj.toNat, by omega⟩
      have hyl := HS.out.1
      obtain ⟨x, hx⟩ := getElem?_ex (show i < ys.length by omega)
      obtain ⟨y, hy⟩ := getElem?_ex (show j < ys.length by omega)
      obtain ⟨g, hA, hgb, hgl, hfz⟩ := hO.addr (by omega)
      subst hA
      have hR := hO.rd crV_len
      obtain ⟨b1, o1, e1, _, a0, a1⟩ := hR.at2 hx
      injection e1 with e1
      injection e1 with e1 e2
      subst e1 e2
      obtain ⟨b1, o1, e1, _, c0, c1⟩ := hR.at2 hy
      injection e1 with e1
      injection e1 with e1 e2
      subst e1 e2
      simp only [Nat.zero_add] at a0 a1 c0 c1
      have f0 := hfz (i * 2)
      have k0 := hfz (j * 2)
      have f1 := hfz (i * 2 + 1)
      have k1 := hfz (j * 2 + 1)
      have HX := Lib.hid hx
      have HY := Lib.hid hy
      have HYL := Lib.hid hyl
      clear hfz hx hy hyl
      go_wp2_with fail
      go_region
      go_wp2_with fail
      go_roundw
      case rel =>
        have o1 := hO.set_c HYL.out.symm HX.out y
        have o2 := o1.set_c (by simp [HYL.out]) (i := j) (x := y) (by rw [List.getElem?_set_ne (by omega)]; exact HY.out) x
        have o3 := o2.below (below_drew _ _)
        refine ⟨(i : Int) + 1, (j : Int) - 1, (ys.set i y).set j x, rfl, rfl, by omega, by omega, by omega, by omega, Lib.hid (swp_step HS.out (by omega) (by omega) HX.out HY.out), o3, ?_⟩
        show w.grownBy _ (some g)
        refine World.grownBy.trans (b := wr) hG ?_
        refine World.grownBy.trans ?_ (grown_drew' _ _)
        iterate 3 (refine World.grownBy.trans ?_ (grown_set _ _ _ _))
        exact grown_set _ _ _ _
      case measure => simp [intOf]; omega
    · go_wp2_with fail
      refine bodyPost_end (results_none rfl _ _ _) rfl ?_
      have e := swp_end HS.out (by omega) (by omega)
      subst e
      exact ⟨rfl, hO, hG⟩

theorem OwnL.set_j {w : World} {base g n c : Nat} {xs : List Jn} (h : OwnL w base 88 3 jnV (.slice (some ⟨g, 0, none⟩) n c) xs) (hn : n = xs.length) {i : Nat} {x : Jn} (hx : xs[i]? = some x) (y : Jn) :
    OwnL (((w.setCell ⟨g, i * 3, none⟩ (.int .i64 y.at_)).setCell ⟨g, i * 3 + 1, none⟩ (.int .i64 y.arms)).setCell ⟨g, i * 3 + 2, none⟩ (.int .i64 y.way)) base 88 3 jnV (.slice (some ⟨g, 0, none⟩) n c) (xs.set i y) := by
  have hi := (List.getElem?_eq_some_iff.1 hx).1
  have h0 := OwnL.store (i := i) (j := 0) (x' := (⟨y.at_, x.arms, x.way⟩ : Jn)) (u := .int .i64 y.at_) h hn jnV_len hx (by decide) rfl
  have h1 := OwnL.store (i := i) (j := 1) (x' := (⟨y.at_, y.arms, x.way⟩ : Jn)) (u := .int .i64 y.arms) h0 (by simp [hn]) jnV_len (List.getElem?_set_self (by simp [hi])) (by decide) rfl
  have h2 := OwnL.store (i := i) (j := 2) (x' := (⟨y.at_, y.arms, y.way⟩ : Jn)) (u := .int .i64 y.way) h1 (by simp [hn]) jnV_len (List.getElem?_set_self (by simp [hi])) (by decide) rfl
  simp only [List.set_set] at h2
  exact h2

set_option maxRecDepth 100000 in
set_option maxHeartbeats 4000000 in
theorem reverse_j (xs : List Jn) (v : Value) (base : Nat) (w : World) (h : OwnL w base 88 3 jnV v xs) (hn : xs.length ≤ 1000000) :
    Calls Try.prog 67 #[v] w fun e w' => e = .returned (.tuple #[]) ∧ OwnL w' base 88 3 jnV v xs.reverse ∧ w.grownBy w' v.ownBlock := by
  obtain ⟨A, cap, rfl⟩ := h.form
  go_enter Try.func67, Try.ntmps67
  go_wp2
  go_loopw [2, 3] (fun i j wr => ∃ (zi zj : Int) (ys : List Jn), i = .int .i64 zi ∧ j = .int .i64 zj ∧ 0 ≤ zi ∧ zi + zj = xs.length - 1 ∧ zi ≤ zj + 2 ∧ zi ≤ xs.length ∧ Hid (swp xs ys zi zj) ∧ OwnL wr base 88 3 jnV (.slice A xs.length cap) ys ∧ w.grownBy wr (Value.slice A xs.length cap).ownBlock) (fun i _ _ => xs.length - (intOf i).toNat)
  case atStart => exact ⟨0, (xs.length : Int) - 1, xs, rfl, rfl, by omega, by omega, by omega, by omega, Lib.hid (swp_start xs), h, grown_refl' _ _⟩
  case round =>
    obtain ⟨zi, zj, ys, rfl, rfl, z1, z2, z3, z4, HS, hO, hG⟩ := hrel
    by_cases hlt : zi < zj
    · obtain ⟨i, rfl⟩ : ∃ i : Nat, zi = i := ⟨zi.toNat, by omega⟩
      obtain ⟨j, rfl⟩ : ∃ j : Nat, zj = j := ⟨zj.toNat, by omega⟩
      have hyl := HS.out.1
      obtain ⟨x, hx⟩ := getElem?_ex (show i < ys.length by omega)
      obtain ⟨y, hy⟩ := getElem?_ex (show j < ys.length by omega)
      obtain ⟨g, hA, hgb, hgl, hfz⟩ := hO.addr (by omega)
      subst hA
      have hR := hO.rd jnV_len
      obtain ⟨b1, o1, e1, _, a0, a1, a2⟩ := hR.at3 hx
      injection e1 with e1
      injection e1 with e1 e2
      subst e1 e2
      obtain ⟨b1, o1, e1, _, c0, c1, c2⟩ := hR.at3 hy
      injection e1 with e1
      injection e1 with e1 e2
      subst e1 e2
      simp only [Nat.zero_add] at a0 a1 a2 c0 c1 c2
      have f0 := hfz (i * 3)
      have k0 := hfz (j * 3)
      have f1 := hfz (i * 3 + 1)
      have k1 := hfz (j * 3 + 1)
      have f2 := hfz (i * 3 + 2)
      have k2 := hfz (j * 3 + 2)
      have HX := Lib.hid hx
      have HY := Lib.hid hy
      have HYL := Lib.hid hyl
      clear hfz hx hy hyl
      go_wp2_with fail
      go_region
      go_wp2_with fail
      go_roundw
      case rel =>
        have o1 := hO.set_j HYL.out.symm HX.out y
        have o2 := o1.set_j (by simp [HYL.out]) (i := j) (x := y) (by rw [List.getElem?_set_ne (by omega)]; exact HY.out) x
        have o3 := o2.below (below_drew _ _)
        refine ⟨(i : Int) + 1, (j : Int) - 1, (ys.set i y).set j x, rfl, rfl, by omega, by omega, by omega, by omega, Lib.hid (swp_step HS.out (by omega) (by omega) HX.out HY.out), o3, ?_⟩
        show w.grownBy _ (some g)
        refine World.grownBy.trans (b := wr) hG ?_
        refine World.grownBy.trans ?_ (grown_drew' _ _)
        iterate 5 (refine World.grownBy.trans ?_ (grown_set _ _ _ _))
        exact grown_set _ _ _ _
      case measure => simp [intOf]; omega
    · go_wp2_with fail
      refine bodyPost_end (results_none rfl _ _ _) rfl ?_
      have e := swp_end HS.out (by omega) (by omega)
      subst e
      exact ⟨rfl, hO, hG⟩

end Go.Proofs.Ytbdjmaogbpdkpaa

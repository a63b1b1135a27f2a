import Derived.Test.YtbdjmaogbpdkpaaBase
import Derived.Deep.Slices
import Derived.Deep.Fields
import Derived.ChangeSame
import Derived.Lib.SmallJoins
import Derived.ProofKit
namespace Go.Proofs.Ytbdjmaogbpdkpaa
open Go.RowKit Go.Joins Go.ChangeShapes Go.WideShapes Go.Deep

section
variable {H : Type} {enc : TypeId × Value → H} {P : Program} {w : World} {base : Nat} {spare : Nat → Bool} {held : Bool}
theorem open_slice_fields {t e : TypeId} {fs : Array Field} {fuel : Nat} {cs : List Value} {x : DataW H × List MemPlace} (ht : P.underlying t = some (.slice e)) (he : P.underlying e = some (.struct fs))
    (hone : oneCellFields P fs = true) (hC : P.cellsOf e = fs.size) (h : DataW.trod enc P w base spare held fuel t cs = some x) :
    (cs = [.slice none 0 0] ∧ x = (.nil, [])) ∨
    ∃ (a : Addr) (len cap m : Nat) (D : Nat → DataW H) (Pl : Nat → List MemPlace), cs = [.slice (some a) len cap] ∧ base ≤ a.block ∧ len ≤ cap ∧ cap ≤ maxLen ∧ m = (if spare a.block then cap else len) ∧
      x = (.slice ((List.range len).map D) ((List.range (m - len)).map fun j => D (len + j)), MemPlace.row a (m * fs.size) ++ (List.range m).flatMap Pl) ∧
      ∀ i, i < m → ∃ (ys : List (DataW H × List MemPlace)) (n : Nat), D i = .agg (ys.map (·.1)) ∧ Pl i = ys.flatMap (·.2) ∧ ys.length = fs.size ∧
        ∀ (j : Nat) (f : Field), fs[j]? = some f → ∃ (v : Value) (y : DataW H × List MemPlace), w.cell? (a.add (i * fs.size + j)) = some v ∧ ys[j]? = some y ∧ DataW.trod enc P w base spare held n f.type [v] = some y := by
  rcases open_slice ht h with h0 | ⟨a, len, cap, m, n, D, Pl, hcs, hb, hl, hm, hmm, hx, hi⟩
  · exact .inl h0
  · refine .inr ⟨a, len, cap, m, D, Pl, hcs, hb, hl, hm, hmm, by rw [hC] at hx; exact hx, fun i him => ?_⟩
    obtain ⟨cs', hc, ht'⟩ := hi i him
    rw [hC] at hc
    obtain ⟨ys, n', hn', hy, hlen, hyl, hf⟩ := DataW.trod_struct he ht'
    obtain ⟨_, hcl, hat⟩ := World.cells?_some hc
    simp only [Prod.mk.injEq] at hy
    refine ⟨ys, n', hy.1, hy.2, hyl, fun j f hj => ?_⟩
    obtain ⟨ho, hk⟩ := hone_of hone j f hj
    have hjl : j < fs.size := (Array.getElem?_eq_some_iff.1 hj).1
    have hcell := hat j hjl
    have hv : cs'[j]? = some (cs'[j]'(by omega)) := List.getElem?_eq_getElem (by omega)
    have h1 := hf j f hj
    rw [ho, hk] at h1
    have hone' : (cs'.drop j).take 1 = [cs'[j]'(by omega)] := by
      rw [List.drop_eq_getElem_cons (by omega)]
      rfl
    rw [hone'] at h1
    have hys : ys[j]? = some (ys[j]'(by omega)) := List.getElem?_eq_getElem (by omega)
    refine ⟨_, _, ?_, hys, h1.trans hys⟩
    rw [← Go.Deep.add_add, hcell, hv]

open Classical in
/-- A slice of structs of whole numbers: its cells. -/
theorem open_rows_ints {t e : TypeId} {fs : Array Field} {fuel : Nat} {v : Value} {x : DataW H × List MemPlace} (ht : P.underlying t = some (.slice e)) (he : P.underlying e = some (.struct fs))
    (hone : oneCellFields P fs = true) (hC : P.cellsOf e = fs.size) (hsz : 0 < fs.size) (hint : ∀ (j : Nat) (f : Field), fs[j]? = some f → P.underlying f.type = some (.int .i64)) (h : DataW.trod enc P w base spare held fuel t [v] = some x) :
    ∃ (A : Option Addr) (len cap : Nat) (X : Nat → Nat → Int), v = .slice A len cap ∧ len ≤ 9223372036854775807 ∧
      ∀ i, i < len → ∃ b o, A = some ⟨b, o, none⟩ ∧ b < w.heap.size ∧ ∀ j, j < fs.size → w.cell? ⟨b, o + i * fs.size + j, none⟩ = some (.int .i64 (X i j)) := by
  rcases open_slice_fields ht he hone hC h with ⟨h0, _⟩ | ⟨a, len, cap, m, D, Pl, hcs, hb, hl, hm, hmm, hx, hi⟩
  · injection h0 with h0
    subst h0
    exact ⟨none, 0, 0, fun _ _ => 0, rfl, by omega, fun i hi => absurd hi (by omega)⟩
  · injection hcs with hcs
    subst hcs
    have hlm : len ≤ m := by rw [hmm]; split <;> omega
    have key : ∀ i, i < len → ∀ j, j < fs.size → ∃ z, w.cell? (a.add (i * fs.size + j)) = some (.int .i64 z) := by
      intro i hil j hj
      obtain ⟨ys, n, _, _, _, hf⟩ := hi i (by omega)
      obtain ⟨v, y, hc, hy, hty⟩ := hf j fs[j] (Array.getElem?_eq_getElem hj)
      obtain ⟨z, hz, _, _⟩ := DataW.trod_int (hint j fs[j] (Array.getElem?_eq_getElem hj)) hty
      injection hz with hz
      subst hz
      exact ⟨z, hc⟩
    obtain ⟨b, o, sp⟩ := a
    by_cases hn : 0 < len
    · obtain ⟨z, hz⟩ := key 0 hn 0 hsz
      have hspot : sp = none := by simpa [Addr.add] using World.cell?_spot hz
      subst hspot
      have hblt : b < w.heap.size := by
        rcases Nat.lt_or_ge b w.heap.size with h' | h'
        · exact h'
        · rw [show (⟨b, o, none⟩ : Addr).add (0 * fs.size + 0) = ⟨b, o, none⟩ by simp [Addr.add]] at hz
          unfold World.cell? at hz
          rw [Array.getElem?_eq_none h'] at hz
          cases hz
      have hadd : ∀ k, (⟨b, o, none⟩ : Addr).add k = ⟨b, o + k, none⟩ := fun k => by
        unfold Addr.add
        split
        · rename_i h0; subst h0; rfl
        · rfl
      refine ⟨some ⟨b, o, none⟩, len, cap, fun i j => if hz : ∃ z, w.cell? ((⟨b, o, none⟩ : Addr).add (i * fs.size + j)) = some (.int .i64 z) then hz.choose else 0, rfl, by unfold maxLen at hm; omega, fun i hil => ⟨b, o, rfl, hblt, fun j hj => ?_⟩⟩
      have hk := key i hil j hj
      dsimp only
      rw [dif_pos hk, ← hk.choose_spec, hadd, Nat.add_assoc]
    · exact ⟨some ⟨b, o, sp⟩, len, cap, fun _ _ => 0, rfl, by unfold maxLen at hm; omega, fun i hil => absurd hil (by omega)⟩
end

theorem open_two {H : Type} {enc : TypeId × Value → H} {P : Program} {w : World} {base : Nat} {spare : Nat → Bool} {held : Bool} {r : Reach} {b0 : Nat} {t : TypeId} {f0 f1 : Field} {v : Value} {d : DataW H} {p : List MemPlace} (hs : P.underlying t = some (.struct #[f0, f1])) (hone : oneCellFields P #[f0, f1] = true) (hC : P.cellsOf t = 2)
    (h0 : P.underlying f0.type = some (.int .i64)) (h1 : P.underlying f1.type = some (.int .i64)) (hv : Value.okWide P w r b0 t v) (h : DataW.Trod enc P w base spare held t v d p) : ∃ x y : Int, v = .agg #[.int .i64 x, .int .i64 y] := by
  obtain ⟨v0, v1, y0, y1, n, rfl, _, _, t0, t1⟩ := open_agg2 hs hone hC hv h
  obtain ⟨x, hx, _, _⟩ := DataW.trod_int h0 t0
  obtain ⟨y, hy, _, _⟩ := DataW.trod_int h1 t1
  injection hx with hx
  injection hy with hy
  exact ⟨x, y, by rw [hx, hy]⟩
theorem Rd_of_rows {α : Type} {k : Nat} {f : α → List Value} {w : World} {A : Option Addr} {len n : Nat} {X : Nat → Nat → Int} (g : (Nat → Int) → α) (hn : n = k) (hg : ∀ y j u, (f (g y))[j]? = some u → j < k ∧ u = .int .i64 (y j))
    (h : ∀ i, i < len → ∃ b o, A = some ⟨b, o, none⟩ ∧ b < w.heap.size ∧ ∀ j, j < n → w.cell? ⟨b, o + i * n + j, none⟩ = some (.int .i64 (X i j))) : Rd k f w A ((List.range len).map fun i => g (X i)) := by
  subst hn
  intro i x hx
  rw [List.getElem?_map] at hx
  by_cases hi : i < len
  · rw [List.getElem?_range hi] at hx
    injection hx with hx
    subst hx
    obtain ⟨b, o, rfl, hlt, hc⟩ := h i hi
    refine ⟨b, o, rfl, hlt, fun j u hu => ?_⟩
    obtain ⟨h1, h2⟩ := hg _ _ _ hu
    rw [h2]
    exact hc j h1
  · rw [List.getElem?_eq_none (by simpa using hi)] at hx
    cases hx

set_option maxRecDepth 100000 in
theorem open_road {H : Type} {enc : TypeId × Value → H} {W : World} {r0 : Reach} {b0 : Nat} {base : Nat} {spare : Nat → Bool} {held : Bool} {v : Value} {d : DataW H} {p : List MemPlace} (hv : Value.okWide Try.prog W r0 b0 26 v) (h : DataW.Trod enc Try.prog W base spare held 26 v d p) :
    ∃ (r : Road) (A B C : Option Addr) (a b c : Nat), v = .agg #[.slice A r.ps.length a, .slice B r.cs.length b, .slice C r.js.length c] ∧ RdRoad W r A B C := by
  obtain ⟨v0, v1, v2, y0, y1, y2, n, rfl, _, _, t0, t1, t2⟩ := open_agg3 Try.underlying26 (by kernel_rfl) (by kernel_rfl) hv h
  obtain ⟨A, la, ca, X, rfl, hl1, hX⟩ := open_rows_ints (fs := _) Try.underlying22 Try.underlying52 (by kernel_rfl) (by kernel_rfl) (by decide) (by
    intro j f hj
    have : j < 5 := (Array.getElem?_eq_some_iff.1 hj).1
    rcases (show j = 0 ∨ j = 1 ∨ j = 2 ∨ j = 3 ∨ j = 4 by omega) with rfl | rfl | rfl | rfl | rfl <;> (simp at hj; subst hj; exact Try.underlying3)) t0
  obtain ⟨B, lb, cb, Y, rfl, hl2, hY⟩ := open_rows_ints (fs := _) Try.underlying23 Try.underlying86 (by kernel_rfl) (by kernel_rfl) (by decide) (by
    intro j f hj
    have : j < 2 := (Array.getElem?_eq_some_iff.1 hj).1
    rcases (show j = 0 ∨ j = 1 by omega) with rfl | rfl <;> (simp at hj; subst hj; exact Try.underlying3)) t1
  obtain ⟨C, lc, cc, Z, rfl, hl3, hZ⟩ := open_rows_ints (fs := _) Try.underlying24 Try.underlying88 (by kernel_rfl) (by kernel_rfl) (by decide) (by
    intro j f hj
    have : j < 3 := (Array.getElem?_eq_some_iff.1 hj).1
    rcases (show j = 0 ∨ j = 1 ∨ j = 2 by omega) with rfl | rfl | rfl <;> (simp at hj; subst hj; exact Try.underlying3)) t2
  refine ⟨⟨(List.range la).map fun i => ⟨X i 0, X i 1, X i 2, X i 3, X i 4⟩, (List.range lb).map fun i => ⟨Y i 0, Y i 1⟩, (List.range lc).map fun i => ⟨Z i 0, Z i 1, Z i 2⟩⟩, A, B, C, ca, cb, cc, by simp, ?_⟩
  refine ⟨Rd_of_rows (k := 5) (f := pcV) (fun y => (⟨y 0, y 1, y 2, y 3, y 4⟩ : Pc)) rfl ?_ hX, Rd_of_rows (k := 2) (f := crV) (fun y => (⟨y 0, y 1⟩ : Cr)) rfl ?_ hY, Rd_of_rows (k := 3) (f := jnV) (fun y => (⟨y 0, y 1, y 2⟩ : Jn)) rfl ?_ hZ, by simpa using hl1, by simpa using hl2, by simpa using hl3⟩
  · intro y j u hu
    rcases j with _ | _ | _ | _ | _ | j <;> simp [pcV] at hu <;> exact ⟨by omega, hu.symm⟩
  · intro y j u hu
    rcases j with _ | _ | j <;> simp [crV] at hu <;> exact ⟨by omega, hu.symm⟩
  · intro y j u hu
    rcases j with _ | _ | _ | j <;> simp [jnV] at hu <;> exact ⟨by omega, hu.symm⟩

end Go.Proofs.Ytbdjmaogbpdkpaa

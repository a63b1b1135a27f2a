import Derived.Test.YtbdjmaogbpdkpaaOpen
namespace Go.Proofs.Ytbdjmaogbpdkpaa
open Go.RowKit Go.Joins Go.ChangeShapes Go.WideShapes Go.Deep

set_option maxRecDepth 100000 in
/-- A slice of whole numbers: its cells. -/
theorem open_list {H : Type} {enc : TypeId × Value → H} {W : World} {r0 : Reach} {b0 : Nat} {base : Nat} {spare : Nat → Bool} {held : Bool} {v : Value} {d : DataW H} {p : List MemPlace} (hv : Value.okWide Try.prog W r0 b0 65 v) (h : DataW.Trod enc Try.prog W base spare held 65 v d p) :
    ∃ (A : Option Addr) (xs : List Int) (c : Nat), v = .slice A xs.length c ∧ Rd 1 (fun x => [Value.int .i64 x]) W A xs ∧ xs.length ≤ 9223372036854775807 := by
  obtain ⟨A, n, c, rfl⟩ := okWide_slice Try.underlying65 hv
  obtain ⟨fuel, hf⟩ := h
  rcases open_ints Try.underlying65 Try.underlying3 (by kernel_rfl) hf with ⟨hc, _⟩ | ⟨a, len, cap, zs, hc, hb, hl, hm, hzl, hx, hcell, hwf⟩
  · simp [Value.cells] at hc
    obtain ⟨rfl, rfl, rfl⟩ := hc
    exact ⟨none, [], 0, rfl, fun i x hx => by simp at hx, by simp⟩
  · simp [Value.cells] at hc
    obtain ⟨rfl, rfl, rfl⟩ := hc
    have hlm : n ≤ zs.length := by rw [hzl]; split <;> omega
    obtain ⟨b, o, sp⟩ := a
    have hadd : ∀ k, (⟨b, o, none⟩ : Addr).add k = ⟨b, o + k, none⟩ := fun k => by
      unfold Addr.add
      split
      · rename_i h0; subst h0; rfl
      · rfl
    refine ⟨some ⟨b, o, sp⟩, zs.take n, c, by rw [List.length_take_of_le hlm], ?_, by rw [List.length_take_of_le hlm]; unfold maxLen at hm; omega⟩
    intro i x hx
    have hi : i < n := by
      have := (List.getElem?_eq_some_iff.1 hx).1
      simp at this
      omega
    rw [List.getElem?_take_of_lt hi] at hx
    have hci := hcell i (by omega)
    have e1 : zs.getD i 0 = x := by rw [List.getD_eq_getElem?_getD, hx]; rfl
    rw [e1] at hci
    have hspot : sp = none := by
      have := World.cell?_spot (hcell 0 (by omega))
      unfold Addr.add at this
      rw [if_pos rfl] at this
      exact this
    subst hspot
    rw [hadd] at hci
    refine ⟨b, o, rfl, ?_, fun j u hu => ?_⟩
    · rcases Nat.lt_or_ge b W.heap.size with h' | h'
      · exact h'
      · unfold World.cell? at hci
        rw [Array.getElem?_eq_none h'] at hci
        cases hci
    · rcases j with _ | j
      · simp at hu
        subst hu
        rw [Nat.mul_one, Nat.add_zero]
        exact hci
      · simp at hu

end Go.Proofs.Ytbdjmaogbpdkpaa

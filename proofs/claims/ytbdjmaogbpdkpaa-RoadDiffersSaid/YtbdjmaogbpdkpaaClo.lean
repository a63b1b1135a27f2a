import Derived.Test.YtbdjmaogbpdkpaaMk
import Derived.Test.YtbdjmaogbpdkpaaEx
/-
  slices.Clone of slices of pieces, crests and junctions.
-/
namespace Go.Proofs.Ytbdjmaogbpdkpaa
open Go.RowKit Go.Shelf
set_option linter.unusedVariables false
set_option linter.unusedSimpArgs false

theorem Try.info52 : (Try.prog.info? 52).map (fun i => (i.zero, i.size, i.bytes)) = some (some (.agg #[.int .i64 0, .int .i64 0, .int .i64 0, .int .i64 0, .int .i64 0]), 5, 40) := by kernel_rfl
theorem Try.info86 : (Try.prog.info? 86).map (fun i => (i.zero, i.size, i.bytes)) = some (some (.agg #[.int .i64 0, .int .i64 0]), 2, 16) := by kernel_rfl
theorem Try.info88 : (Try.prog.info? 88).map (fun i => (i.zero, i.size, i.bytes)) = some (some (.agg #[.int .i64 0, .int .i64 0, .int .i64 0]), 3, 24) := by kernel_rfl

/-- A row's cells, as an append asks them. -/
theorem Rd.news {α : Type} {k : Nat} {f : α → List Value} (hk : ∀ x, (f x).length = k) (hk0 : 0 < k) {w : World} {ad : Addr} {xs : List α} (h : Rd k f w (some ad) xs) : ∀ j u, (xs.flatMap f)[j]? = some u → w.cell? (ad.add j) = some u := by
  intro j u hu
  have hj : j < xs.length * k := by
    have := (List.getElem?_eq_some_iff.1 hu).1
    rwa [flat_len hk] at this
  have hi : j / k < xs.length := Nat.div_lt_of_lt_mul (by rw [Nat.mul_comm]; exact hj)
  obtain ⟨x, hx⟩ := getElem?_ex hi
  have hq : j % k < (f x).length := by rw [hk]; exact Nat.mod_lt _ hk0
  obtain ⟨u', hu'⟩ := getElem?_ex hq
  have e := flat_get hk xs (j / k) (j % k) x u' hx hu'
  have hjk : j / k * k + j % k = j := by rw [Nat.mul_comm]; exact Nat.div_add_mod j k
  rw [hjk, hu] at e
  injection e with e
  subst e
  obtain ⟨b, o, hA, hlt, hc⟩ := h _ _ hx
  injection hA with hA
  subst hA
  have := hc _ _ hu'
  have e2 : (⟨b, o, none⟩ : Addr).add j = ⟨b, o + j / k * k + j % k, none⟩ := by
    unfold Addr.add
    split
    · rename_i h0
      subst h0
      simp
    · rw [Nat.add_assoc, hjk]
  rw [e2]
  exact this
theorem pcV_one (xs : List Pc) : ∀ u ∈ xs.flatMap pcV, u.oneCell' = true := by
  intro u hu
  obtain ⟨x, _, hx⟩ := List.mem_flatMap.1 hu
  simp only [pcV, List.mem_cons, List.not_mem_nil, or_false] at hx
  rcases hx with rfl | rfl | rfl | rfl | rfl <;> rfl
theorem crV_one (xs : List Cr) : ∀ u ∈ xs.flatMap crV, u.oneCell' = true := by
  intro u hu
  obtain ⟨x, _, hx⟩ := List.mem_flatMap.1 hu
  simp only [crV, List.mem_cons, List.not_mem_nil, or_false] at hx
  rcases hx with rfl | rfl <;> rfl
theorem jnV_one (xs : List Jn) : ∀ u ∈ xs.flatMap jnV, u.oneCell' = true := by
  intro u hu
  obtain ⟨x, _, hx⟩ := List.mem_flatMap.1 hu
  simp only [jnV, List.mem_cons, List.not_mem_nil, or_false] at hx
  rcases hx with rfl | rfl | rfl <;> rfl
theorem crV_len (b : Cr) : (crV b).length = 2 := rfl
theorem jnV_len (b : Jn) : (jnV b).length = 3 := rfl
theorem own_empty (w : World) (e : TypeId) (k n : Nat) (hn : n = w.heap.size) : (w.alloc (.cells #[] e)).ownsRow n e k (.slice (some ⟨n, 0, none⟩) 0 0) 0 [] := by
  subst hn
  exact ⟨by simp, .inr ⟨w.heap.size, 0, #[], rfl, Nat.le_refl _, Blk.new w e #[], Nat.le_refl _, by simp [maxLen], by simp, by simp⟩⟩

set_option maxRecDepth 100000 in
set_option maxHeartbeats 1000000 in
theorem clone_p (xs : List Pc) (A : Option Addr) (c : Nat) (w : World) (h : Rd 5 pcV w A xs) (hn : xs.length ≤ 1000000) :
    Calls Try.prog 62 #[.slice A xs.length c] w fun e w' => (∃ v, e = .returned v ∧ OwnL w' w.heap.size 52 5 pcV v xs) ∧ Below w.heap.size w w' := by
  obtain ⟨i0, hi, hz0, hz1, hz2⟩ := info_parts Try.info52
  cases A with
  | none =>
    have h0 : xs = [] := by
      cases xs with
      | nil => rfl
      | cons x xs =>
        obtain ⟨b, o, hA, _⟩ := h 0 x rfl
        cases hA
    subst h0
    have hq := fun (w : World) => Lib.run_eql_slice_nil (P := Try.prog) w 22 52 none 0 c 0 0 Try.underlying22
    go_enter Try.func62, Try.ntmps62
    go_wp2
    go_ret
    exact ⟨⟨_, rfl, OwnL.nil _ _ _ _ _⟩, Below.refl _ _⟩
  | some ad =>
    have hq := fun (w : World) => Lib.run_eql_slice_nil (P := Try.prog) w 22 52 (some ad) xs.length c 0 0 Try.underlying22
    have hnews := (h.below (balloc w (.cells #[] 52))).news pcV_len (by omega)
    have HN := Lib.hid hnews
    have HL := Lib.hid (flat_len (k := 5) (f := pcV) pcV_len xs)
    have HO := Lib.hid (own_empty w 52 5 w.heap.size rfl)
    clear hnews
    go_enter Try.func62, Try.ntmps62
    go_wp2_with (at_builtin; refine wpList_append_own _ rfl _ _ 22 rfl w.heap.size 52 i0 _ 5 40 Try.underlying22 hi hz0 hz1 hz2 rfl (by decide) (.slice (some ⟨w.heap.size, 0, none⟩) 0 0) 0 [] rfl HO.out ad xs.length c (xs.flatMap pcV) rfl HL.out HN.out (pcV_one xs) (by simp only [maxLen]; omega) (by omega) (by simp) ?_; intro v' w1 hown' hgrow _)
    go_ret
    rw [Nat.zero_add, List.nil_append] at hown'
    refine ⟨⟨_, rfl, hown'⟩, (balloc w (.cells #[] 52)).grown hgrow (by simp) (fun q hq => ?_)⟩
    simp [Value.ownBlock] at hq
    omega

set_option maxRecDepth 100000 in
set_option maxHeartbeats 1000000 in
theorem clone_c (xs : List Cr) (A : Option Addr) (c : Nat) (w : World) (h : Rd 2 crV w A xs) (hn : xs.length ≤ 1000000) :
    Calls Try.prog 63 #[.slice A xs.length c] w fun e w' => (∃ v, e = .returned v ∧ OwnL w' w.heap.size 86 2 crV v xs) ∧ Below w.heap.size w w' := by
  obtain ⟨i0, hi, hz0, hz1, hz2⟩ := info_parts Try.info86
  cases A with
  | none =>
    have h0 : xs = [] := by
      cases xs with
      | nil => rfl
      | cons x xs =>
        obtain ⟨b, o, hA, _⟩ := h 0 x rfl
        cases hA
    subst h0
    have hq := fun (w : World) => Lib.run_eql_slice_nil (P := Try.prog) w 23 86 none 0 c 0 0 Try.underlying23
    go_enter Try.func63, Try.ntmps63
    go_wp2
    go_ret
    exact ⟨⟨_, rfl, OwnL.nil _ _ _ _ _⟩, Below.refl _ _⟩
  | some ad =>
    have hq := fun (w : World) => Lib.run_eql_slice_nil (P := Try.prog) w 23 86 (some ad) xs.length c 0 0 Try.underlying23
    have hnews := (h.below (balloc w (.cells #[] 86))).news crV_len (by omega)
    have HN := Lib.hid hnews
    have HL := Lib.hid (flat_len (k := 2) (f := crV) crV_len xs)
    have HO := Lib.hid (own_empty w 86 2 w.heap.size rfl)
    clear hnews
    go_enter Try.func63, Try.ntmps63
    go_wp2_with (at_builtin; refine wpList_append_own _ rfl _ _ 23 rfl w.heap.size 86 i0 _ 2 16 Try.underlying23 hi hz0 hz1 hz2 rfl (by decide) (.slice (some ⟨w.heap.size, 0, none⟩) 0 0) 0 [] rfl HO.out ad xs.length c (xs.flatMap crV) rfl HL.out HN.out (crV_one xs) (by simp only [maxLen]; omega) (by omega) (by simp) ?_; intro v' w1 hown' hgrow _)
    go_ret
    rw [Nat.zero_add, List.nil_append] at hown'
    refine ⟨⟨_, rfl, hown'⟩, (balloc w (.cells #[] 86)).grown hgrow (by simp) (fun q hq => ?_)⟩
    simp [Value.ownBlock] at hq
    omega

set_option maxRecDepth 100000 in
set_option maxHeartbeats 1000000 in
theorem clone_j (xs : List Jn) (A : Option Addr) (c : Nat) (w : World) (h : Rd 3 jnV w A xs) (hn : xs.length ≤ 1000000) :
    Calls Try.prog 64 #[.slice A xs.length c] w fun e w' => (∃ v, e = .returned v ∧ OwnL w' w.heap.size 88 3 jnV v xs) ∧ Below w.heap.size w w' := by
  obtain ⟨i0, hi, hz0, hz1, hz2⟩ := info_parts Try.info88
  cases A with
  | none =>
    have h0 : xs = [] := by
      cases xs with
      | nil => rfl
      | cons x xs =>
        obtain ⟨b, o, hA, _⟩ := h 0 x rfl
        cases hA
    subst h0
    have hq := fun (w : World) => Lib.run_eql_slice_nil (P := Try.prog) w 24 88 none 0 c 0 0 Try.underlying24
    go_enter Try.func64, Try.ntmps64
    go_wp2
    go_ret
    exact ⟨⟨_, rfl, OwnL.nil _ _ _ _ _⟩, Below.refl _ _⟩
  | some ad =>
    have hq := fun (w : World) => Lib.run_eql_slice_nil (P := Try.prog) w 24 88 (some ad) xs.length c 0 0 Try.underlying24
    have hnews := (h.below (balloc w (.cells #[] 88))).news jnV_len (by omega)
    have HN := Lib.hid hnews
    have HL := Lib.hid (flat_len (k := 3) (f := jnV) jnV_len xs)
    have HO := Lib.hid (own_empty w 88 3 w.heap.size rfl)
    clear hnews
    go_enter Try.func64, Try.ntmps64
    go_wp2_with (at_builtin; refine wpList_append_own _ rfl _ _ 24 rfl w.heap.size 88 i0 _ 3 24 Try.underlying24 hi hz0 hz1 hz2 rfl (by decide) (.slice (some ⟨w.heap.size, 0, none⟩) 0 0) 0 [] rfl HO.out ad xs.length c (xs.flatMap jnV) rfl HL.out HN.out (jnV_one xs) (by simp only [maxLen]; omega) (by omega) (by simp) ?_; intro v' w1 hown' hgrow _)
    go_ret
    rw [Nat.zero_add, List.nil_append] at hown'
    refine ⟨⟨_, rfl, hown'⟩, (balloc w (.cells #[] 88)).grown hgrow (by simp) (fun q hq => ?_)⟩
    simp [Value.ownBlock] at hq
    omega

end Go.Proofs.Ytbdjmaogbpdkpaa

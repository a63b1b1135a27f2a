import Derived.Test.YtbdjmaogbpdkpaaKnown
import Derived.Test.YtbdjmaogbpdkpaaNone
/-
  The law RoadMany, walked: it answers true.
-/
namespace Go.Proofs.Ytbdjmaogbpdkpaa
set_option linter.unusedVariables false
set_option linter.unusedSimpArgs false
open Go Go.RowKit Go.Shelf
attribute [local go_sem] Later.cell Later.cell1 Later.new1 Later.frozen Later.frozen1 max_ints min_ints

/-- The piece i of a road of pieces of one length. -/
def pcM (L d : Int) (i : Nat) : Pc := ⟨L, 0, 0, d + (i : Int) % 2, 1⟩
def psM (L d : Int) (n : Nat) : List Pc := (List.range n).map (pcM L d)
theorem psM_len (L d : Int) (n : Nat) : (psM L d n).length = n := by simp [psM]
theorem psM_snoc (L d : Int) (n : Nat) : psM L d (n + 1) = psM L d n ++ [pcM L d n] := by simp [psM, List.range_succ]
theorem psM_sum (L d : Int) (n : Nat) : lenSum (psM L d n) = n * L := by
  induction n with
  | zero => simp [psM, lenSum]
  | succ n ih =>
    rw [psM_snoc, lenSum_append, ih]
    have e : (((n + 1 : Nat)) : Int) = (n : Int) + 1 := by omega
    rw [e, Int.add_mul, Int.one_mul]
    simp [lenSum, pcM]
theorem psM_mem (L d : Int) (n : Nat) : ∀ p ∈ psM L d n, p.len = L ∧ p.turn = 0 ∧ p.rad = 0 ∧ d ≤ p.wid ∧ p.wid ≤ d + 1 ∧ p.sur = 1 := by
  intro p hp
  simp only [psM, List.mem_map] at hp
  obtain ⟨i, _, rfl⟩ := hp
  refine ⟨rfl, rfl, rfl, ?_, ?_, rfl⟩ <;> simp only [pcM] <;> omega
theorem many_valid (L d : Int) (n : Nat) (l1 : 1 ≤ L) (l2 : L ≤ 5000) (n1 : 1 ≤ n) (n2 : n ≤ 2000) (hs : (n : Int) * L ≤ 100000) (d1 : 15 ≤ d) (d2 : d ≤ 299) : validB ⟨psM L d n, [], []⟩ = true := by
  simp only [validB, Bool.and_eq_true, decide_eq_true_eq, psM_len, psM_sum]
  refine ⟨⟨⟨⟨⟨⟨⟨n1, n2⟩, by simp⟩, by simp⟩, ?_⟩, hs⟩, rfl⟩, rfl⟩
  rw [List.all_eq_true]
  intro p hp
  obtain ⟨e1, e2, e3, e4, e5, e6⟩ := psM_mem L d n p hp
  simp only [pcOkP, pcOk, inB, e1, e2, e3, e6, Bool.and_eq_true, decide_eq_true_eq]
  simp
  omega
theorem many_fits (L : Int) (a b : Nat) : fitsR (joinR ⟨psM L 20 a, [], []⟩ ⟨psM L 40 b, [], []⟩) = (decide (a + b ≤ 2000) && decide (((a : Int) + b) * L ≤ 100000)) := by
  have e : joinR ⟨psM L 20 a, [], []⟩ ⟨psM L 40 b, [], []⟩ = ⟨psM L 20 a ++ psM L 40 b, [], []⟩ := rfl
  rw [e]
  simp only [fitsR, List.length_append, psM_len, lenSum_append, psM_sum, Int.add_mul]
  simp

theorem OwnL.base_le0 {W w : World} {b : Nat} (hb : Below b w W) : w.heap.size ≤ W.heap.size := hb.size

set_option maxRecDepth 100000 in
set_option maxHeartbeats 16000000 in
theorem manylaw_any (a b L : Int) (w : World) :
    Calls Try.prog 12 #[.int .i64 a, .int .i64 b, .int .i64 L] w fun e w' => e = .returned (.bool true) ∧ Below w.heap.size w w' := by
  obtain ⟨j0, hj, hy0, hy1, hy2⟩ := info_parts Try.info52
  by_cases g1 : 1 ≤ a
  case neg =>
    go_enter Try.func12, Try.ntmps12
    go_wp2_with fail
    refine (known_any _).mono ?_
    rintro e W1 ⟨rfl, hb1⟩
    go_wp2_with fail
    go_ret
    exact ⟨rfl, hb1⟩
  by_cases g2 : 1 ≤ b
  case neg =>
    go_enter Try.func12, Try.ntmps12
    go_wp2_with fail
    refine (known_any _).mono ?_
    rintro e W1 ⟨rfl, hb1⟩
    go_wp2_with fail
    go_ret
    exact ⟨rfl, hb1⟩
  by_cases g3 : a ≤ 2000
  case neg =>
    go_enter Try.func12, Try.ntmps12
    go_wp2_with fail
    refine (known_any _).mono ?_
    rintro e W1 ⟨rfl, hb1⟩
    go_wp2_with fail
    go_ret
    exact ⟨rfl, hb1⟩
  by_cases g4 : b ≤ 2000
  case neg =>
    go_enter Try.func12, Try.ntmps12
    go_wp2_with fail
    refine (known_any _).mono ?_
    rintro e W1 ⟨rfl, hb1⟩
    go_wp2_with fail
    go_ret
    exact ⟨rfl, hb1⟩
  by_cases g5 : 1 ≤ L
  case neg =>
    go_enter Try.func12, Try.ntmps12
    go_wp2_with fail
    refine (known_any _).mono ?_
    rintro e W1 ⟨rfl, hb1⟩
    go_wp2_with fail
    go_ret
    exact ⟨rfl, hb1⟩
  by_cases g6 : L ≤ 5000
  case neg =>
    go_enter Try.func12, Try.ntmps12
    go_wp2_with fail
    refine (known_any _).mono ?_
    rintro e W1 ⟨rfl, hb1⟩
    go_wp2_with fail
    go_ret
    exact ⟨rfl, hb1⟩
  by_cases g7 : a * L ≤ 100000
  case neg =>
    have m1 := Int.mul_nonneg (show 0 ≤ a by omega) (show 0 ≤ L by omega)
    have m2 : a * L ≤ 10000000 := by have := Int.mul_le_mul (show a ≤ 2000 by omega) (show L ≤ 5000 by omega) (by omega) (by omega); omega
    go_enter Try.func12, Try.ntmps12
    go_wp2_with fail
    refine (known_any _).mono ?_
    rintro e W1 ⟨rfl, hb1⟩
    go_wp2_with fail
    go_ret
    exact ⟨rfl, hb1⟩
  by_cases g8 : b * L ≤ 100000
  case neg =>
    have m1 := Int.mul_nonneg (show 0 ≤ a by omega) (show 0 ≤ L by omega)
    have m2 : a * L ≤ 10000000 := by have := Int.mul_le_mul (show a ≤ 2000 by omega) (show L ≤ 5000 by omega) (by omega) (by omega); omega
    have m3 := Int.mul_nonneg (show 0 ≤ b by omega) (show 0 ≤ L by omega)
    have m4 : b * L ≤ 10000000 := by have := Int.mul_le_mul (show b ≤ 2000 by omega) (show L ≤ 5000 by omega) (by omega) (by omega); omega
    go_enter Try.func12, Try.ntmps12
    go_wp2_with fail
    refine (known_any _).mono ?_
    rintro e W1 ⟨rfl, hb1⟩
    go_wp2_with fail
    go_ret
    exact ⟨rfl, hb1⟩
  have m1 := Int.mul_nonneg (show 0 ≤ a by omega) (show 0 ≤ L by omega)
  have m3 := Int.mul_nonneg (show 0 ≤ b by omega) (show 0 ≤ L by omega)
  obtain ⟨na, rfl⟩ : ∃ n : Nat, a = n := ⟨a.toNat, by omega⟩
  obtain ⟨nb, rfl⟩ : ∃ n : Nat, b = n := ⟨b.toNat, by omega⟩
  have HVA : Hid (validB ⟨psM L 20 na, [], []⟩ = true) := Lib.hid (many_valid L 20 na g5 g6 (by omega) (by omega) g7 (by omega) (by omega))
  have HVB : Hid (validB ⟨psM L 40 nb, [], []⟩ = true) := Lib.hid (many_valid L 40 nb g5 g6 (by omega) (by omega) g8 (by omega) (by omega))
  have HF := Lib.hid (many_fits L na nb)
  go_enter Try.func12, Try.ntmps12
  have hX0 : Blk ((w.alloc (.cells #[.slice none 0 0, .slice none 0 0, .slice none 0 0] 26)).alloc (.cells #[.slice none 0 0, .slice none 0 0, .slice none 0 0] 26)) w.heap.size 26 #[.slice none 0 0, .slice none 0 0, .slice none 0 0] := (Blk.new _ _ _).alloc _
  have hY0 : Blk ((w.alloc (.cells #[.slice none 0 0, .slice none 0 0, .slice none 0 0] 26)).alloc (.cells #[.slice none 0 0, .slice none 0 0, .slice none 0 0] 26)) (w.heap.size + 1) 26 #[.slice none 0 0, .slice none 0 0, .slice none 0 0] := blk_at _ _ _ _ (by simp)
  go_wp2_with fail
  go_loopw [9] (fun i W => ∃ (k : Nat) (v : Value), k ≤ na ∧ i = .int .i64 k ∧ Blk W w.heap.size 26 #[v, .slice none 0 0, .slice none 0 0] ∧ Blk W (w.heap.size + 1) 26 #[.slice none 0 0, .slice none 0 0, .slice none 0 0] ∧ OwnL W (w.heap.size + 2) 52 5 pcV v (psM L 20 k) ∧ Below w.heap.size w W) (fun i _ => na - (intOf i).toNat)
  case atStart => exact ⟨0, _, Nat.zero_le _, rfl, hX0, hY0, OwnL.nil _ _ _ _ _, bthen (balloc _ _) (balloc _ _)⟩
  case round =>
    clear hX0 hY0
    rename World => W
    obtain ⟨k, v, hk, rfl, hX, hY, hO, hb⟩ := hrel
    have hYl := hY.lt
    have hbW := hb
    by_cases hlt : k < na
    · obtain ⟨VV, cv, rfl⟩ := hO.form
      have HP := Lib.hid (psM_snoc L 20 k)
      have hpl := psM_len L 20 k
      obtain ⟨ps, hps⟩ : ∃ ps, ps = psM L 20 k := ⟨_, rfl⟩
      rw [← hps] at hO hX HP hpl
      have hpn : ps.length ≤ 2000 := by omega
      clear hps hpl
      have d0 := hX.cell 0
      have hxl := hX.lt
      have q0 : (0 : Int) ≤ (k : Int) := by omega
      have q1 : (k : Int) ≤ 2000 := by omega
      have hO' : W.ownsRow (w.heap.size + 2) 52 5 (.slice VV ps.length cv) ps.length (ps.flatMap pcV) := hO
      have hne := own_ne_blk hO hX (by decide)
      have hne2 := own_ne_blk hO hY (by decide)
      go_wp2_with (at_builtin; refine wpList_append_lies _ rfl _ _ 22 rfl (w.heap.size + 2) 52 j0 _ 5 40 Try.underlying22 hj hy0 hy1 hy2 rfl (by decide) (.slice VV ps.length cv) ps.length (ps.flatMap pcV) rfl (World.ownsRow.alloc hO' _) ⟨W.heap.size, 0, none⟩ 1 1 (pcV ⟨L, 0, 0, 20 + (k : Int) % 2, 1⟩) rfl rfl (cells_new _ (pcV ⟨L, 0, 0, 20 + (k : Int) % 2, 1⟩) _ _ (by simp)) (by simp [pcV, Value.oneCell']) (by decide) (by simp only [maxLen]; omega) (by omega) (by simp; omega) _ rfl ?_; intro g2 cap2 w1 hown' hgrow hat hlt3; have hX1 : Blk w1 w.heap.size 26 #[.slice VV ps.length cv, .slice none 0 0, .slice none 0 0] := (hX.alloc _).grown hgrow hne; have hY1 := (hY.alloc (.cells (pcV ⟨L, 0, 0, 20 + (k : Int) % 2, 1⟩).toArray 52)).grown hgrow hne2; have y1 := hX1.frozen 0; have y2 := hX1.cell 0; have yl := hX1.lt)
      have hO2 : OwnL w1 (w.heap.size + 2) 52 5 pcV (.slice (some ⟨g2, 0, none⟩) (ps.length + 1) cap2) (ps ++ [pcM L 20 k]) := OwnL.snoc hown' rfl
      have hb2 : Below (w.heap.size + 2) (W.alloc (.cells (pcV ⟨L, 0, 0, 20 + (k : Int) % 2, 1⟩).toArray 52)) w1 := OwnL.grown_below (k := 5) (f := pcV) (xs := ps) (World.ownsRow.alloc hO' _) (by simp; omega) hgrow
      have hgg := grown_set w1 w.heap.size 0 (.slice (some ⟨g2, 0, none⟩) (ps.length + 1) cap2)
      have hO3 := hO2.other hgg (.inr (own_ne_blk hO2 hX1 (by decide)).symm)
      have hX3 := hX1.set_ 0 (.slice (some ⟨g2, 0, none⟩) (ps.length + 1) cap2)
      have hY3 := hY1.far (p := ⟨w.heap.size, 0, none⟩) (by simp) (.slice (some ⟨g2, 0, none⟩) (ps.length + 1) cap2)
      have hb0 : Below w.heap.size w w1 := (bthen hb (balloc W _)).trans (hb2.mono (by omega))
      have hb3 : Below w.heap.size w (w1.setCell ⟨w.heap.size, 0, none⟩ (.slice (some ⟨g2, 0, none⟩) (ps.length + 1) cap2)) := hb0.setCell (p := ⟨w.heap.size, 0, none⟩) (by simp) _
      go_wp2_with fail
      go_roundw
      case rel => exact ⟨k + 1, _, by omega, by go_num, hX3, hY3, by rw [HP.out]; exact hO3, hb3⟩
      case measure => simp [intOf]; omega
    · obtain rfl : na = k := by omega
      go_wp2_with fail
      obtain ⟨VX, cx, rfl⟩ := hO.form
      clear hk hlt
      go_loopw [10] (fun i W2 => ∃ (m : Nat) (v : Value), m ≤ nb ∧ i = .int .i64 m ∧ Blk W2 w.heap.size 26 #[.slice VX (psM L 20 na).length cx, .slice none 0 0, .slice none 0 0] ∧ Blk W2 (w.heap.size + 1) 26 #[v, .slice none 0 0, .slice none 0 0] ∧ OwnL W2 (w.heap.size + 2) 52 5 pcV (.slice VX (psM L 20 na).length cx) (psM L 20 na) ∧ OwnL W2 W.heap.size 52 5 pcV v (psM L 40 m) ∧ Below w.heap.size w W2 ∧ W.heap.size ≤ W2.heap.size) (fun i _ => nb - (intOf i).toNat)
      case atStart => exact ⟨0, _, Nat.zero_le _, rfl, hX, hY, hO, OwnL.nil _ _ _ _ _, hb, Nat.le_refl _⟩
      case round =>
        rename World => W2
        clear hX hY hb
        obtain ⟨k, v, hk, rfl, hX, hY, hOx, hOy, hb, hws⟩ := hrel
        by_cases hlt : k < nb
        · obtain ⟨VV, cv, rfl⟩ := hOy.form
          have HP := Lib.hid (psM_snoc L 40 k)
          have hpl := psM_len L 40 k
          obtain ⟨ps, hps⟩ : ∃ ps, ps = psM L 40 k := ⟨_, rfl⟩
          rw [← hps] at hOy hY HP hpl
          have hpn : ps.length ≤ 2000 := by omega
          clear hps hpl
          have d0 := hY.cell 0
          have hyl := hY.lt
          have q0 : (0 : Int) ≤ (k : Int) := by omega
          have q1 : (k : Int) ≤ 2000 := by omega
          have hO' : W2.ownsRow W.heap.size 52 5 (.slice VV ps.length cv) ps.length (ps.flatMap pcV) := hOy
          have hne := own_ne_blk hOy hX (by decide)
          have hne2 := own_ne_blk hOy hY (by decide)
          have hne3 : (Value.slice VX (psM L 20 na).length cx).ownBlock = none ∨ (Value.slice VX (psM L 20 na).length cx).ownBlock ≠ (Value.slice VV ps.length cv).ownBlock := by
            cases hv : (Value.slice VX (psM L 20 na).length cx).ownBlock with
            | none => exact .inl rfl
            | some g =>
              refine .inr fun e => ?_
              have a1 := (hO.lt g hv).2
              have a2 := (hOy.lt g e.symm).1
              omega
          go_wp2_with (at_builtin; refine wpList_append_lies _ rfl _ _ 22 rfl W.heap.size 52 j0 _ 5 40 Try.underlying22 hj hy0 hy1 hy2 rfl (by decide) (.slice VV ps.length cv) ps.length (ps.flatMap pcV) rfl (World.ownsRow.alloc hO' _) ⟨W2.heap.size, 0, none⟩ 1 1 (pcV ⟨L, 0, 0, 40 + (k : Int) % 2, 1⟩) rfl rfl (cells_new _ (pcV ⟨L, 0, 0, 40 + (k : Int) % 2, 1⟩) _ _ (by simp)) (by simp [pcV, Value.oneCell']) (by decide) (by simp only [maxLen]; omega) (by omega) (by simp; omega) _ rfl ?_; intro g2 cap2 w1 hown' hgrow hat hlt3; have hX1 := (hX.alloc (.cells (pcV ⟨L, 0, 0, 40 + (k : Int) % 2, 1⟩).toArray 52)).grown hgrow hne; have hY1 : Blk w1 (w.heap.size + 1) 26 #[.slice VV ps.length cv, .slice none 0 0, .slice none 0 0] := (hY.alloc _).grown hgrow hne2; have y1 := hY1.frozen 0; have y2 := hY1.cell 0; have yl := hY1.lt)
          have hO2 : OwnL w1 W.heap.size 52 5 pcV (.slice (some ⟨g2, 0, none⟩) (ps.length + 1) cap2) (ps ++ [pcM L 40 k]) := OwnL.snoc hown' rfl
          have hb2 : Below W.heap.size (W2.alloc (.cells (pcV ⟨L, 0, 0, 40 + (k : Int) % 2, 1⟩).toArray 52)) w1 := OwnL.grown_below (k := 5) (f := pcV) (xs := ps) (World.ownsRow.alloc hO' _) (by simp; omega) hgrow
          have hgg := grown_set w1 (w.heap.size + 1) 0 (.slice (some ⟨g2, 0, none⟩) (ps.length + 1) cap2)
          have hO3 := hO2.other hgg (.inr (own_ne_blk hO2 hY1 (by decide)).symm)
          have hOx1 := (hOx.below (balloc W2 (.cells (pcV ⟨L, 0, 0, 40 + (k : Int) % 2, 1⟩).toArray 52))).other hgrow hne3
          have hOx3 := hOx1.other hgg (.inr (own_ne_blk hOx1 hY1 (by decide)).symm)
          have hY3 := hY1.set_ 0 (.slice (some ⟨g2, 0, none⟩) (ps.length + 1) cap2)
          have hX3 := hX1.far (p := ⟨w.heap.size + 1, 0, none⟩) (by simp) (.slice (some ⟨g2, 0, none⟩) (ps.length + 1) cap2)
          have hws0 := hbW.size
          have hb0 : Below w.heap.size w w1 := (bthen hb (balloc W2 _)).trans (hb2.mono hws0)
          have hb3 : Below w.heap.size w (w1.setCell ⟨w.heap.size + 1, 0, none⟩ (.slice (some ⟨g2, 0, none⟩) (ps.length + 1) cap2)) := hb0.setCell (p := ⟨w.heap.size + 1, 0, none⟩) (by simp) _
          have hsz1 := hb2.size
          go_wp2_with fail
          go_roundw
          case rel => exact ⟨k + 1, _, by omega, by go_num, hX3, hY3, hOx3, by rw [HP.out]; exact hO3, hb3, by simp at hsz1 ⊢; omega⟩
          case measure => simp [intOf]; omega
        · obtain rfl : nb = k := by omega
          obtain ⟨VY, cy, rfl⟩ := hOy.form
          have lx := psM_len L 20 na
          have ly := psM_len L 40 nb
          have hrx : RdRoad W2 ⟨psM L 20 na, [], []⟩ VX none none := ⟨hOx.rd pcV_len, Rd_nil _ _ _ _, Rd_nil _ _ _ _, by show (psM L 20 na).length ≤ _; omega, by simp, by simp⟩
          have hry : RdRoad W2 ⟨psM L 40 nb, [], []⟩ VY none none := ⟨hOy.rd pcV_len, Rd_nil _ _ _ _, Rd_nil _ _ _ _, by show (psM L 40 nb).length ≤ _; omega, by simp, by simp⟩
          have hJ : Calls Try.prog 39 #[.agg #[.slice VX (psM L 20 na).length cx, .slice none 0 0, .slice none 0 0], .agg #[.slice VY (psM L 40 nb).length cy, .slice none 0 0, .slice none 0 0]] W2 fun e w' => ((fitsR (joinR ⟨psM L 20 na, [], []⟩ ⟨psM L 40 nb, [], []⟩) = true ∧ ∃ v0 v1 v2, e = .returned (.tuple #[.agg #[v0, v1, v2], .int .i64 0]) ∧ OwnR w' W2.heap.size v0 v1 v2 (joinR ⟨psM L 20 na, [], []⟩ ⟨psM L 40 nb, [], []⟩)) ∨ (fitsR (joinR ⟨psM L 20 na, [], []⟩ ⟨psM L 40 nb, [], []⟩) = false ∧ e = .returned (.tuple #[.agg #[.slice none 0 0, .slice none 0 0, .slice none 0 0], .int .i64 4]))) ∧ Below W2.heap.size W2 w' :=
            Join_any ⟨psM L 20 na, [], []⟩ ⟨psM L 40 nb, [], []⟩ VX none none VY none none cx 0 0 cy 0 0 W2 hrx hry HVA.out HVB.out
          have hsum : ((na : Int) + nb) * L = na * L + nb * L := Int.add_mul _ _ _
          have hm5 : 0 ≤ ((na : Int) + nb) * L := by omega
          have hm6 : ((na : Int) + nb) * L ≤ 1000000 := by omega
          have hlj : (joinR ⟨psM L 20 na, [], []⟩ ⟨psM L 40 nb, [], []⟩).ps.length = na + nb := by
            show (psM L 20 na ++ psM L 40 nb).length = _
            rw [List.length_append, lx, ly]
          have HLJ := Lib.hid hlj
          clear hsum lx ly hlj hrx hry
          have d0 := hX.cell 0
          have d1 := hX.cell 1
          have d2 := hX.cell 2
          have e0 := hY.cell 0
          have e1 := hY.cell 1
          have e2 := hY.cell 2
          have hxl := hX.lt
          have hyl := hY.lt
          go_wp2_with fail
          refine hJ.mono ?_
          clear hJ d0 d1 d2 e0 e1 e2 hxl hyl hX hY hO hOx hOy
          rintro e W3 ⟨hcase, hb3⟩
          have hb4 := bthen hb hb3
          by_cases f1 : na + nb ≤ 2000
          case neg =>
            rcases hcase with ⟨hf, -⟩ | ⟨-, rfl⟩
            · rw [HF.out] at hf; simp [f1] at hf
            have f1' : decide ((2000 : Int) < (na : Int) + nb) = true := by simp; omega
            have f1'' : (2000 : Int) < (na : Int) + nb := by omega
            go_wp2_with (first | (go_at_call 40; refine (none_nil _).mono ?_; rintro e W5 ⟨rfl, hb5⟩) | (go_at_call 19; refine (known_any _).mono ?_; rintro e W6 ⟨rfl, hb6⟩))
            go_ret
            exact ⟨rfl, bthen (bthen (bthen hb4 (balloc _ _)) hb5) hb6⟩
          by_cases f2 : ((na : Int) + nb) * L ≤ 100000
          case neg =>
            rcases hcase with ⟨hf, -⟩ | ⟨-, rfl⟩
            · rw [HF.out] at hf; simp [f2] at hf
            have f1'' : (na : Int) + nb ≤ 2000 := by omega
            go_wp2_with (first | (go_at_call 40; refine (none_nil _).mono ?_; rintro e W5 ⟨rfl, hb5⟩) | (go_at_call 19; refine (known_any _).mono ?_; rintro e W6 ⟨rfl, hb6⟩))
            go_ret
            exact ⟨rfl, bthen (bthen (bthen hb4 (balloc _ _)) hb5) hb6⟩
          · rcases hcase with ⟨-, v0, v1, v2, rfl, hOR⟩ | ⟨hf, -⟩
            case inr => rw [HF.out] at hf; simp [f1, f2] at hf
            obtain ⟨NA, NB, NC, ca, cb, cc, rfl, rfl, rfl⟩ := hOR.formR
            rw [HLJ.out]
            clear hOR
            have f1'' : (na : Int) + nb ≤ 2000 := by omega
            have e7 : IntKind.i64.wrap ((na : Int) + nb) = (na : Int) + nb := IntWalk.i64_in _ (by omega)
            go_wp2_with (go_at_call 19; refine (known_any _).mono ?_; rintro e W6 ⟨rfl, hb6⟩)
            go_ret
            exact ⟨rfl, bthen (bthen hb4 (balloc _ _)) hb6⟩

end Go.Proofs.Ytbdjmaogbpdkpaa

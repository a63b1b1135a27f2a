import Derived.Test.YtbdjmaogbpdkpaaKnown
import Derived.Test.YtbdjmaogbpdkpaaNrm
/-
  The law RoadLong, walked: it answers true.
-/
namespace Go.Proofs.Ytbdjmaogbpdkpaa
set_option linter.unusedVariables false
set_option linter.unusedSimpArgs false
open Go.RowKit Go.Shelf
attribute [local go_sem] Later.cell Later.cell1 Later.new1 Later.frozen Later.frozen1 max_ints min_ints

/-- A straight piece. -/
def pcL (d z : Int) : Pc := ⟨z, 0, 0, d, 1⟩
def psL (d : Int) (xs : List Int) : List Pc := xs.map (pcL d)
theorem psL_len (d : Int) (xs : List Int) : (psL d xs).length = xs.length := by simp [psL]
theorem psL_snoc (d : Int) (xs : List Int) (k : Nat) (z : Int) (h : xs[k]? = some z) : psL d (xs.take (k + 1)) = psL d (xs.take k) ++ [⟨z, 0, 0, d, 1⟩] := by
  simp [psL, List.take_add_one, h, pcL]
theorem grouped_like (x : Pc) : ∀ (ps : List Pc), (∀ p ∈ ps, ∀ q ∈ ps, tgP p q = true) → ps ≠ [] → ∀ k, 0 < k → k ≤ ps.length → grouped tgP (ps.take k) = [ps.take k] := by
  intro ps h hne k
  induction k with
  | zero => intro h0; omega
  | succ k ih =>
    intro _ hk
    obtain ⟨p, hp⟩ := getElem?_ex (show k < ps.length by omega)
    rw [grouped_take_succ tgP ps k p hp]
    by_cases h0 : k = 0
    · subst h0
      rw [List.take_zero, List.take_add_one, hp]
      simp [grouped, gadd_first]
    · rw [ih (by omega) (by omega)]
      obtain ⟨y, hy⟩ := getElem?_ex (show k - 1 < ps.length by omega)
      have e : ps.take k = ps.take (k - 1) ++ [y] := by
        conv => lhs; rw [show k = k - 1 + 1 by omega, List.take_add_one, hy]
        simp
      have := gadd_same tgP [] (ps.take (k - 1)) y p (h y (List.mem_of_getElem? hy) p (List.mem_of_getElem? hp))
      rw [List.nil_append, ← e] at this
      rw [this, List.take_add_one, hp]
      simp
theorem runsL_like (d : Int) (xs : List Int) (hne : xs ≠ []) : runsL (psL d xs) = chunkL (pcL d (xs.head hne)) (lenSum (psL d xs)) := by
  have hne2 : psL d xs ≠ [] := by simpa [psL] using hne
  have hg := grouped_like (pcL d 0) (psL d xs) (by
    intro p hp q hq
    simp only [psL, List.mem_map] at hp hq
    obtain ⟨z, _, rfl⟩ := hp
    obtain ⟨y, _, rfl⟩ := hq
    simp [tgP, pcL]) hne2 (psL d xs).length (List.length_pos_iff.2 hne2) (Nat.le_refl _)
  rw [List.take_length] at hg
  unfold runsL
  rw [hg]
  cases xs with
  | nil => exact absurd rfl hne
  | cons x xs => simp [psL, runOf]
theorem chunk_len (p : Pc) : ∀ (m : Nat) (n : Int), n.toNat ≤ m → 1 ≤ n → ((chunkL p n).length : Int) = (n + 5000 - 1) / 5000 := by
  intro m
  induction m with
  | zero => intro n h h0; omega
  | succ m ih =>
    intro n h h0
    by_cases hn : 5000 < n
    · rw [chunkL_more p n hn, List.length_cons]
      have := ih (n - 5000) (by omega) (by omega)
      omega
    · rw [chunkL_one p n hn]
      simp
      omega
theorem chunk_at (p : Pc) : ∀ (m : Nat) (n : Int), n.toNat ≤ m → 1 ≤ n → ∀ k, k < (chunkL p n).length → (chunkL p n)[k]? = some { p with len := min 5000 (n - k * 5000) } := by
  intro m
  induction m with
  | zero => intro n h h0; omega
  | succ m ih =>
    intro n h h0 k hk
    by_cases hn : 5000 < n
    · rw [chunkL_more p n hn] at hk ⊢
      cases k with
      | zero => simp; omega
      | succ k =>
        rw [List.getElem?_cons_succ, ih (n - 5000) (by omega) (by omega) k (by simpa using hk)]
        simp
        omega
    · rw [chunkL_one p n hn] at hk ⊢
      have : k = 0 := by simpa using hk
      subst this
      simp
      omega
theorem long_valid (d : Int) (xs : List Int) (h8 : xs.length ≤ 8) (h1 : 1 ≤ xs.length) (d1 : 15 ≤ d) (d2 : d ≤ 300) (hx : ∀ z ∈ xs, 1 ≤ z ∧ z ≤ 5000) : validB ⟨psL d xs, [], []⟩ = true ∧ 1 ≤ lenSum (psL d xs) ∧ lenSum (psL d xs) ≤ 40000 := by
  have hok : okLen (psL d xs) := by
    intro p hp
    simp only [psL, List.mem_map] at hp
    obtain ⟨z, hz, rfl⟩ := hp
    exact hx z hz
  have hl := lenSum_ok _ hok
  rw [psL_len] at hl
  refine ⟨?_, by omega, by omega⟩
  simp only [validB, Bool.and_eq_true, decide_eq_true_eq, psL_len]
  refine ⟨⟨⟨⟨⟨⟨⟨h1, by omega⟩, by simp⟩, by simp⟩, ?_⟩, by omega⟩, rfl⟩, rfl⟩
  rw [List.all_eq_true]
  intro p hp
  simp only [psL, List.mem_map] at hp
  obtain ⟨z, hz, rfl⟩ := hp
  obtain ⟨a1, a2⟩ := hx z hz
  simp [pcOkP, pcOk, inB, pcL, a1, a2, d1, d2]

set_option maxRecDepth 100000 in
set_option maxHeartbeats 16000000 in
theorem longlaw_any (A : Option Addr) (xs : List Int) (a : Nat) (d : Int) (w : World) (hA : Rd 1 (fun x => [Value.int .i64 x]) w A xs) (hn : xs.length ≤ 9223372036854775807) :
    Calls Try.prog 10 #[.slice A xs.length a, .int .i64 d] w fun e w' => e = .returned (.bool true) ∧ Below w.heap.size w w' := by
  obtain ⟨j0, hj, hy0, hy1, hy2⟩ := info_parts Try.info52
  by_cases g1 : xs.length ≤ 8
  case neg =>
    go_enter Try.func10, Try.ntmps10
    go_wp2_with fail
    refine (known_any _).mono ?_
    rintro e W1 ⟨rfl, hb1⟩
    go_wp2_with fail
    go_ret
    exact ⟨rfl, hb1⟩
  by_cases g2 : 1 ≤ xs.length
  case neg =>
    go_enter Try.func10, Try.ntmps10
    go_wp2_with fail
    refine (known_any _).mono ?_
    rintro e W1 ⟨rfl, hb1⟩
    go_wp2_with fail
    go_ret
    exact ⟨rfl, hb1⟩
  by_cases g3 : 15 ≤ d
  case neg =>
    go_enter Try.func10, Try.ntmps10
    go_wp2_with fail
    refine (known_any _).mono ?_
    rintro e W1 ⟨rfl, hb1⟩
    go_wp2_with fail
    go_ret
    exact ⟨rfl, hb1⟩
  by_cases g4 : d ≤ 300
  case neg =>
    go_enter Try.func10, Try.ntmps10
    go_wp2_with fail
    refine (known_any _).mono ?_
    rintro e W1 ⟨rfl, hb1⟩
    go_wp2_with fail
    go_ret
    exact ⟨rfl, hb1⟩
  go_enter Try.func10, Try.ntmps10
  have hB0 : Blk (w.alloc (.cells #[.slice none 0 0, .slice none 0 0, .slice none 0 0] 26)) w.heap.size 26 #[.slice none 0 0, .slice none 0 0, .slice none 0 0] := Blk.new _ _ _
  go_wp2_with fail
  go_loopw [6, 7] (fun s i W => ∃ (k : Nat) (v : Value), k ≤ xs.length ∧ i = .int .i64 k ∧ s = .int .i64 (lenSum (psL d (xs.take k))) ∧ (∀ z ∈ xs.take k, 1 ≤ z ∧ z ≤ 5000) ∧ Blk W w.heap.size 26 #[v, .slice none 0 0, .slice none 0 0] ∧ OwnL W (w.heap.size + 1) 52 5 pcV v (psL d (xs.take k)) ∧ Below w.heap.size w W ∧ w.heap.size < W.heap.size) (fun _ i _ => xs.length - (intOf i).toNat)
  case atStart => exact ⟨0, _, Nat.zero_le _, rfl, rfl, by simp, hB0, OwnL.nil _ _ _ _ _, balloc _ _, by simp⟩
  case round =>
    rename World => W
    obtain ⟨k, v, hk, rfl, rfl, hx, hB, hO, hb, hW⟩ := hrel
    have HX := Lib.hid hx
    clear hx
    by_cases hlt : k < xs.length
    · obtain ⟨z, hz⟩ := getElem?_ex hlt
      obtain ⟨ab, ao, rfl, hab, hac⟩ := (hA.below hb).at1 hz
      by_cases z1 : 1 ≤ z
      case neg =>
        go_wp2_with fail
        refine (known_any _).mono ?_
        rintro e W1 ⟨rfl, hb1⟩
        go_wp2_with fail
        go_ret
        exact ⟨rfl, bthen hb hb1⟩
      by_cases z2 : z ≤ 5000
      case neg =>
        go_wp2_with fail
        refine (known_any _).mono ?_
        rintro e W1 ⟨rfl, hb1⟩
        go_wp2_with fail
        go_ret
        exact ⟨rfl, bthen hb hb1⟩
      have HZ := Lib.hid hz
      clear hz
      have hok : okLen (psL d (xs.take k)) := by
        intro p hp
        simp only [psL, List.mem_map] at hp
        obtain ⟨y, hy, rfl⟩ := hp
        exact HX.out y hy
      have hl := lenSum_ok _ hok
      have hl1 := hl.1
      have hl2 := hl.2
      rw [psL_len, List.length_take_of_le hk] at hl1 hl2
      clear hl
      obtain ⟨VV, cv, rfl⟩ := hO.form
      have HP := Lib.hid (psL_snoc d xs k z HZ.out)
      have hpl : (psL d (xs.take k)).length = k := by rw [psL_len, List.length_take_of_le hk]
      obtain ⟨ps, hps⟩ : ∃ ps, ps = psL d (xs.take k) := ⟨_, rfl⟩
      rw [← hps] at hO hl1 hl2 hB HP hpl ⊢
      have HPS := Lib.hid hps
      clear hps
      have hpn : ps.length ≤ 8 := by omega
      have HPL := Lib.hid hpl
      clear hpl
      have d0 := hB.cell 0
      have f0 := hB.frozen 0
      have hO' : W.ownsRow (w.heap.size + 1) 52 5 (.slice VV ps.length cv) ps.length (ps.flatMap pcV) := hO
      have hne := own_ne_blk hO hB (by decide)
      go_wp2_with fail
      go_region_law (go_loud (refine step_append_lies _ rfl _ _ _ rfl (w.heap.size + 1) 52 j0 _ 5 40 Try.underlying22 hj hy0 hy1 hy2 rfl (by decide) (.slice VV ps.length cv) ps.length (ps.flatMap pcV) rfl (World.ownsRow.alloc (World.ownsRow.drew hO') _) ⟨W.heap.size, 0, none⟩ 1 1 (pcV ⟨z, 0, 0, d, 1⟩) rfl rfl (cells_new _ (pcV ⟨z, 0, 0, d, 1⟩) _ _ (by simp)) (by simp [pcV, Value.oneCell']) (by decide) (by simp only [maxLen]; omega) (by omega) (by simp; omega) _ rfl ?_; intro g2 cap2 w1 hown' hgrow hat hlt3; have hB1 : Blk w1 w.heap.size 26 #[.slice VV ps.length cv, .slice none 0 0, .slice none 0 0] := (hB.drew.alloc _).grown hgrow hne; have y1 := hB1.frozen 0; have y2 := hB1.cell 0))
      all_goals
        have hO2 : OwnL w1 (w.heap.size + 1) 52 5 pcV (.slice (some ⟨g2, 0, none⟩) (ps.length + 1) cap2) (ps ++ [⟨z, 0, 0, d, 1⟩]) := OwnL.snoc hown' rfl
        have hb2 : Below (w.heap.size + 1) (W.drew.alloc (.cells (pcV ⟨z, 0, 0, d, 1⟩).toArray 52)) w1 := OwnL.grown_below (k := 5) (f := pcV) (xs := ps) (World.ownsRow.alloc (World.ownsRow.drew hO') _) (by simp; omega) hgrow
        have hgs := hgrow.size
        have hw1 : w.heap.size < w1.heap.size := by simp at hgs; omega
        have hgg := grown_set w1 w.heap.size 0 (.slice (some ⟨g2, 0, none⟩) (ps.length + 1) cap2)
        have hO3 := hO2.other hgg (.inr (own_ne_blk hO2 hB1 (by decide)).symm)
        have hB3 := hB1.set_ 0 (.slice (some ⟨g2, 0, none⟩) (ps.length + 1) cap2)
        have hb0 : Below w.heap.size w w1 := (hb.drew.trans ((balloc W.drew _).mono (by show _ ≤ W.heap.size; omega))).trans (hb2.mono (by omega))
        have hb3 : Below w.heap.size w (w1.setCell ⟨w.heap.size, 0, none⟩ (.slice (some ⟨g2, 0, none⟩) (ps.length + 1) cap2)) := hb0.setCell (p := ⟨w.heap.size, 0, none⟩) (by simp) _
        go_wp2_with fail
        go_roundw
        case rel =>
          refine ⟨k + 1, _, by omega, by go_num, ?_, ?_, hB3, ?_, hb3, by simpa using hw1⟩
          · rw [HP.out]; simp [lenSum]
          · intro y hy
            rw [List.take_add_one, HZ.out] at hy
            rcases List.mem_append.1 hy with hy | hy
            · exact HX.out y hy
            · simp at hy; subst hy; exact ⟨z1, z2⟩
          · rw [HP.out]; exact hO3
        case measure => simp [intOf]; omega
    · obtain rfl : k = xs.length := by omega
      rw [List.take_length] at hO ⊢
      have hxs := HX.out
      rw [List.take_length] at hxs
      obtain ⟨hv, s1, s2⟩ := long_valid d xs g1 g2 g3 g4 hxs
      have hxne : xs ≠ [] := List.length_pos_iff.1 g2
      have HR := Lib.hid (runsL_like d xs hxne)
      have HC := Lib.hid (chunk_len (pcL d (xs.head hxne)) _ (lenSum (psL d xs)) (Nat.le_refl _) s1)
      have HA := Lib.hid (chunk_at (pcL d (xs.head hxne)) _ (lenSum (psL d xs)) (Nat.le_refl _) s1)
      obtain ⟨S, hS⟩ : ∃ S, S = lenSum (psL d xs) := ⟨_, rfl⟩
      obtain ⟨VV, cv, rfl⟩ := hO.form
      have hN : Calls Try.prog 34 #[.agg #[.slice VV (psL d xs).length cv, .slice none 0 0, .slice none 0 0]] W fun e w' => (∃ v0 v1 v2, e = .returned (.tuple #[.agg #[v0, v1, v2], .int .i64 0]) ∧ OwnR w' W.heap.size v0 v1 v2 (nrmR ⟨psL d xs, [], []⟩)) ∧ Below W.heap.size W w' :=
        Normal_good ⟨psL d xs, [], []⟩ VV none none cv 0 0 W ⟨hO.rd pcV_len, Rd_nil _ _ _ _, Rd_nil _ _ _ _, by show (psL d xs).length ≤ _; rw [psL_len]; omega, by simp, by simp⟩ hv
      have HS := Lib.hid hS
      clear hv
      rw [← hS] at HR HC HA s1 s2 ⊢
      clear hS hxs
      have d0 := hB.cell 0
      have d1 := hB.cell 1
      have d2 := hB.cell 2
      go_wp2_with fail
      refine hN.mono ?_
      rintro e W2 ⟨⟨v0, v1, v2, rfl, hOR⟩, hb2⟩
      obtain ⟨L, hL⟩ : ∃ L, L = chunkL (pcL d (xs.head hxne)) S := ⟨_, rfl⟩
      rw [← hL] at HC HA HR
      obtain ⟨NA, NB, NC, na, nb, nc, rfl, rfl, rfl⟩ := hOR.formR
      have hOL : OwnL W2 W.heap.size 52 5 pcV (.slice NA (nrmR ⟨psL d xs, [], []⟩).ps.length na) L := by
        rw [← HR.out]
        exact hOR.p
      have e1 : (nrmR ⟨psL d xs, [], []⟩).ps.length = L.length := by rw [← HR.out]; rfl
      rw [e1] at hOL ⊢
      clear e1 hL hN
      have hlb : Below w.heap.size w W2 := bthen hb hb2
      have hcl := HC.out
      clear HC
      have hl9 : L.length ≤ 9 := by omega
      have hl1 : (L.length : Int) = (S + 5000 - 1).tdiv 5000 := by rw [hcl, Int.tdiv_eq_ediv_of_nonneg (by omega)]
      go_wp2_with fail
      obtain ⟨vb, hvb⟩ : ∃ v, v = Value.slice NB (nrmR ⟨psL d xs, [], []⟩).cs.length nb := ⟨_, rfl⟩
      obtain ⟨vc, hvc⟩ : ∃ v, v = Value.slice NC (nrmR ⟨psL d xs, [], []⟩).js.length nc := ⟨_, rfl⟩
      rw [← hvb, ← hvc]
      clear hvb hvc hOR d0 d1 d2 hB hO
      have hRL := (hOL.below (balloc W2 (.cells #[.slice NA L.length na, vb, vc] 26))).rd pcV_len
      have hBX : Blk (W2.alloc (.cells #[.slice NA L.length na, vb, vc] 26)) W2.heap.size 26 #[.slice NA L.length na, vb, vc] := Blk.new _ _ _
      have hbX : Below w.heap.size w (W2.alloc (.cells #[.slice NA L.length na, vb, vc] 26)) := bthen hlb (balloc _ _)
      have hxl : W2.heap.size < (W2.alloc (.cells #[.slice NA L.length na, vb, vc] 26)).heap.size := by simp
      obtain ⟨WX, hWX⟩ : ∃ WX, WX = W2.alloc (.cells #[.slice NA L.length na, vb, vc] 26) := ⟨_, rfl⟩
      rw [← hWX] at hRL hBX hbX hxl ⊢
      clear hWX
      go_loopw [10] (fun i W' => ∃ m : Nat, m ≤ L.length ∧ i = .int .i64 m ∧ Below WX.heap.size WX W') (fun i _ => L.length - (intOf i).toNat)
      case atStart => exact ⟨0, Nat.zero_le _, rfl, Below.refl _ _⟩
      case round =>
        rename World => W3
        obtain ⟨m, hm, rfl, hb3⟩ := hrel
        have hB3 := hBX.below hb3 hxl
        have d0 := hB3.cell 0
        have d1 := hB3.cell 1
        have d2 := hB3.cell 2
        by_cases hlt : m < L.length
        · have hq := HA.out m hlt
          obtain ⟨qb, qo, rfl, hqb, q0, q1, q2, q3, q4⟩ := (hRL.below hb3).at5 hq
          clear hq
          simp only [pcL] at q0 q3
          go_wp2_with fail
          go_roundw
          case rel => exact ⟨m + 1, by omega, by go_num, hb3⟩
          case measure => simp [intOf]; omega
        · obtain rfl : m = L.length := by omega
          go_wp2_with fail
          refine (known_any _).mono ?_
          rintro e W4 ⟨rfl, hb4⟩
          go_wp2_with fail
          go_ret
          exact ⟨rfl, bthen hbX (bthen hb3 hb4)⟩

end Go.Proofs.Ytbdjmaogbpdkpaa

import Derived.Test.YtbdjmaogbpdkpaaRuns
import Derived.Test.YtbdjmaogbpdkpaaRRev
import Derived.Deep.RegionHeld3
/-
  road.bounded, road.Normal.
-/
namespace Go.Proofs.Ytbdjmaogbpdkpaa
open Go.RowKit Go.Shelf
set_option linter.unusedVariables false
set_option linter.unusedSimpArgs false
attribute [local go_sem] Later.cell Later.cell1 Later.new1 Later.frozen Later.frozen1

theorem OwnR.rdR {w : World} {base : Nat} {A B C : Option Addr} {n0 n1 n2 a b c : Nat} {r : Road} (h : OwnR w base (.slice A n0 a) (.slice B n1 b) (.slice C n2 c) r) (l0 : r.ps.length ≤ 1000000) (l1 : r.cs.length ≤ 1000000) (l2 : r.js.length ≤ 1000000) : RdRoad w r A B C :=
  ⟨h.p.rd pcV_len, h.c.rd crV_len, h.j.rd jnV_len, by omega, by omega, by omega⟩
theorem OwnR.formR {w : World} {base : Nat} {v0 v1 v2 : Value} {r : Road} (h : OwnR w base v0 v1 v2 r) : ∃ A B C a b c, v0 = .slice A r.ps.length a ∧ v1 = .slice B r.cs.length b ∧ v2 = .slice C r.js.length c := by
  obtain ⟨A, a, rfl⟩ := h.p.form
  obtain ⟨B, b, rfl⟩ := h.c.form
  obtain ⟨C, c, rfl⟩ := h.j.form
  exact ⟨A, B, C, a, b, c, rfl, rfl, rfl⟩
/-- Not too long for a result. -/
def fitsR (r : Road) : Bool := decide (r.ps.length ≤ 2000) && decide (r.cs.length ≤ 1000) && decide (r.js.length ≤ 200) && decide (lenSum r.ps ≤ 100000)

set_option maxRecDepth 100000 in
set_option maxHeartbeats 4000000 in
theorem bounded_ok (r : Road) (A B C : Option Addr) (a b c : Nat) (w : World) (h : RdRoad w r A B C) (hl : lensOk r.ps 100000) (hn : r.ps.length ≤ 100000) (hcn : r.cs.length ≤ 100000) (hjn : r.js.length ≤ 100000) (hf : fitsR r = true) :
    Calls Try.prog 68 #[.agg #[.slice A r.ps.length a, .slice B r.cs.length b, .slice C r.js.length c]] w fun e w' => e = .returned (.tuple #[.agg #[.slice A r.ps.length a, .slice B r.cs.length b, .slice C r.js.length c], .int .i64 0]) ∧ Below w.heap.size w w' := by
  have hR0 : InR w ((w.alloc (.cells #[.slice A r.ps.length a, .slice B r.cs.length b, .slice C r.js.length c] 26)).alloc (.cells #[.slice none 0 0, .slice none 0 0, .slice none 0 0] 26)) r A B C a b c := (InR.new w r A B C a b c).step (balloc _ _)
  have hK0 : Blk ((w.alloc (.cells #[.slice A r.ps.length a, .slice B r.cs.length b, .slice C r.js.length c] 26)).alloc (.cells #[.slice none 0 0, .slice none 0 0, .slice none 0 0] 26)) (w.heap.size + 1) 26 #[.slice none 0 0, .slice none 0 0, .slice none 0 0] := blk_at _ _ _ _ (by simp)
  have hls := (lenSum_bd r.ps 100000 hl).1
  have hls2 : lenSum r.ps ≤ 10000000000 := by have := (lenSum_bd r.ps 100000 hl).2; omega
  have hff : r.ps.length ≤ 2000 ∧ r.cs.length ≤ 1000 ∧ r.js.length ≤ 200 ∧ lenSum r.ps ≤ 100000 := by
    simp only [fitsR, Bool.and_eq_true, decide_eq_true_eq] at hf
    omega
  obtain ⟨f1, f2, f3, f4⟩ := hff
  clear hf
  go_enter Try.func68, Try.ntmps68
  go_wp2_with (first | (go_at_call 52; refine (measure_any r A B C a b c _ (hR0.rd h) hl hn).mono ?_; rintro e W2 ⟨M, G, g, rfl, hM1, hb2, hMe⟩; have hI2 := hR0.step hb2; have hK2 := hK0.below hb2 hK0.lt) | (go_at_call 54; refine (mlength_any r A B C a b c G g M _ hMe hn).mono ?_; rintro e W3 ⟨rfl, hb3⟩; have hI3 := hI2.step hb3; have hK3 := hK2.below hb3 hK2.lt; have k0 := hK3.frozen 0; have k1 := hK3.frozen 1; have k2 := hK3.frozen 2; have e0 := hK3.cell 0; have e1 := hK3.cell 1; have e2 := hK3.cell 2; have b0 := hI3.box.2 0 _ rfl; have b1 := hI3.box.2 1 _ rfl; have b2 := hI3.box.2 2 _ rfl; have bs := hI3.box.1; have kl := hK3.lt))
  have hKz := ((hK3.set_ 0 (.slice A r.ps.length a)).set_ 1 (.slice B r.cs.length b)).set_ 2 (.slice C r.js.length c)
  have hBz : Below w.heap.size w (((W3.setCell ⟨w.heap.size + 1, 0, none⟩ (.slice A r.ps.length a)).setCell ⟨w.heap.size + 1, 1, none⟩ (.slice B r.cs.length b)).setCell ⟨w.heap.size + 1, 2, none⟩ (.slice C r.js.length c)) := ((hI3.below.setCell (p := ⟨w.heap.size + 1, 0, none⟩) (by simp) _).setCell (p := ⟨w.heap.size + 1, 1, none⟩) (by simp) _).setCell (p := ⟨w.heap.size + 1, 2, none⟩) (by simp) _
  have r0 := hKz.cell 0
  have r1 := hKz.cell 1
  have r2 := hKz.cell 2
  have rl := hKz.lt
  refine bodyPost_ret (v := .tuple #[.agg #[.slice A r.ps.length a, .slice B r.cs.length b, .slice C r.js.length c], .int .i64 0]) ?_ rfl ⟨rfl, hBz⟩
  simp [results, Try.results68, go_sem, r0, r1, r2, rl]

set_option maxRecDepth 100000 in
set_option maxHeartbeats 4000000 in
theorem bounded_long (r : Road) (A B C : Option Addr) (a b c : Nat) (w : World) (h : RdRoad w r A B C) (hl : lensOk r.ps 100000) (hn : r.ps.length ≤ 100000) (hcn : r.cs.length ≤ 100000) (hjn : r.js.length ≤ 100000) (hf : fitsR r = false) :
    Calls Try.prog 68 #[.agg #[.slice A r.ps.length a, .slice B r.cs.length b, .slice C r.js.length c]] w fun e w' => e = .returned (.tuple #[.agg #[.slice none 0 0, .slice none 0 0, .slice none 0 0], .int .i64 4]) ∧ Below w.heap.size w w' := by
  have hR0 : InR w ((w.alloc (.cells #[.slice A r.ps.length a, .slice B r.cs.length b, .slice C r.js.length c] 26)).alloc (.cells #[.slice none 0 0, .slice none 0 0, .slice none 0 0] 26)) r A B C a b c := (InR.new w r A B C a b c).step (balloc _ _)
  have hK0 : Blk ((w.alloc (.cells #[.slice A r.ps.length a, .slice B r.cs.length b, .slice C r.js.length c] 26)).alloc (.cells #[.slice none 0 0, .slice none 0 0, .slice none 0 0] 26)) (w.heap.size + 1) 26 #[.slice none 0 0, .slice none 0 0, .slice none 0 0] := blk_at _ _ _ _ (by simp)
  have hls := (lenSum_bd r.ps 100000 hl).1
  have hls2 : lenSum r.ps ≤ 10000000000 := by have := (lenSum_bd r.ps 100000 hl).2; omega
  by_cases f0 : r.ps.length ≤ 2000
  case neg =>
    clear hf
    go_enter Try.func68, Try.ntmps68
    go_wp2
    exact bodyPost_ret (v := .tuple #[.agg #[.slice none 0 0, .slice none 0 0, .slice none 0 0], .int .i64 4]) (by simp [results, Try.results68, go_sem]) rfl ⟨rfl, bthen (balloc _ _) (balloc _ _)⟩
  by_cases f1 : r.cs.length ≤ 1000
  case neg =>
    clear hf
    go_enter Try.func68, Try.ntmps68
    go_wp2
    exact bodyPost_ret (v := .tuple #[.agg #[.slice none 0 0, .slice none 0 0, .slice none 0 0], .int .i64 4]) (by simp [results, Try.results68, go_sem]) rfl ⟨rfl, bthen (balloc _ _) (balloc _ _)⟩
  by_cases f2 : r.js.length ≤ 200
  case neg =>
    clear hf
    go_enter Try.func68, Try.ntmps68
    go_wp2
    exact bodyPost_ret (v := .tuple #[.agg #[.slice none 0 0, .slice none 0 0, .slice none 0 0], .int .i64 4]) (by simp [results, Try.results68, go_sem]) rfl ⟨rfl, bthen (balloc _ _) (balloc _ _)⟩
  have f3 : ¬ lenSum r.ps ≤ 100000 := by
    intro f3
    simp [fitsR, f0, f1, f2, f3] at hf
  clear hf
  go_enter Try.func68, Try.ntmps68
  go_wp2_with (first | (go_at_call 52; refine (measure_any r A B C a b c _ (hR0.rd h) hl hn).mono ?_; rintro e W2 ⟨M, G, g, rfl, hM1, hb2, hMe⟩; have hI2 := hR0.step hb2; have hK2 := hK0.below hb2 hK0.lt) | (go_at_call 54; refine (mlength_any r A B C a b c G g M _ hMe hn).mono ?_; rintro e W3 ⟨rfl, hb3⟩; have hI3 := hI2.step hb3; have hK3 := hK2.below hb3 hK2.lt; have k0 := hK3.frozen 0; have k1 := hK3.frozen 1; have k2 := hK3.frozen 2; have e0 := hK3.cell 0; have e1 := hK3.cell 1; have e2 := hK3.cell 2; have b0 := hI3.box.2 0 _ rfl; have b1 := hI3.box.2 1 _ rfl; have b2 := hI3.box.2 2 _ rfl; have bs := hI3.box.1; have kl := hK3.lt))
  have hKz := ((hK3.set_ 0 (.slice none 0 0)).set_ 1 (.slice none 0 0)).set_ 2 (.slice none 0 0)
  have hBz : Below w.heap.size w (((W3.setCell ⟨w.heap.size + 1, 0, none⟩ (.slice none 0 0)).setCell ⟨w.heap.size + 1, 1, none⟩ (.slice none 0 0)).setCell ⟨w.heap.size + 1, 2, none⟩ (.slice none 0 0)) := ((hI3.below.setCell (p := ⟨w.heap.size + 1, 0, none⟩) (by simp) _).setCell (p := ⟨w.heap.size + 1, 1, none⟩) (by simp) _).setCell (p := ⟨w.heap.size + 1, 2, none⟩) (by simp) _
  have r0 := hKz.cell 0
  have r1 := hKz.cell 1
  have r2 := hKz.cell 2
  have rl := hKz.lt
  refine bodyPost_ret (v := .tuple #[.agg #[.slice none 0 0, .slice none 0 0, .slice none 0 0], .int .i64 4]) ?_ rfl ⟨rfl, hBz⟩
  simp [results, Try.results68, go_sem, r0, r1, r2, rl]

theorem chunk_sum (p : Pc) : ∀ (m : Nat) (n : Int), n.toNat ≤ m → lenSum (chunkL p n) = n := by
  intro m
  induction m with
  | zero => intro n h; rw [chunkL_one p n (by omega)]; simp [lenSum]
  | succ m ih =>
    intro n h
    by_cases hn : 5000 < n
    · rw [chunkL_more p n hn]
      have := ih (n - 5000) (by omega)
      have e : ∀ q qs, lenSum (q :: qs) = q.len + lenSum qs := fun q qs => by simp [lenSum]
      rw [e, this]
      dsimp only
      omega
    · rw [chunkL_one p n hn]; simp [lenSum]
theorem chunk_mem (p : Pc) : ∀ (m : Nat) (n : Int), n.toNat ≤ m → 1 ≤ n → ∀ q ∈ chunkL p n, q.turn = p.turn ∧ q.rad = p.rad ∧ q.wid = p.wid ∧ q.sur = p.sur ∧ 1 ≤ q.len ∧ q.len ≤ 5000 := by
  intro m
  induction m with
  | zero => intro n h h1; omega
  | succ m ih =>
    intro n h h1 q hq
    by_cases hn : 5000 < n
    · rw [chunkL_more p n hn] at hq
      rcases List.mem_cons.1 hq with rfl | hq
      · exact ⟨rfl, rfl, rfl, rfl, by dsimp only; omega, by dsimp only; omega⟩
      · exact ih (n - 5000) (by omega) (by omega) q hq
    · rw [chunkL_one p n hn] at hq
      obtain rfl : q = _ := by simpa using hq
      exact ⟨rfl, rfl, rfl, rfl, by dsimp only; omega, by dsimp only; omega⟩
theorem lenSum_append (ps qs : List Pc) : lenSum (ps ++ qs) = lenSum ps + lenSum qs := by simp [lenSum]
theorem runs_sum (gss : List (List Pc)) (h : ∀ g ∈ gss, g ≠ []) : lenSum (gss.flatMap runOf) = lenSum gss.flatten := by
  induction gss with
  | nil => rfl
  | cons g gss ih =>
    rw [List.flatMap_cons, List.flatten_cons, lenSum_append, lenSum_append, ih (fun q hq => h q (by simp [hq]))]
    have hg := h g (by simp)
    cases g with
    | nil => exact absurd rfl hg
    | cons x g => rw [show runOf (x :: g) = chunkL x (lenSum (x :: g)) from rfl, chunk_sum x _ _ (Nat.le_refl _)]
theorem runsL_sum (xs : List Pc) : lenSum (runsL xs) = lenSum xs := by
  have hgl := grouped_last tgP xs xs.length (Nat.le_refl _)
  rw [List.take_length] at hgl
  unfold runsL
  rw [runs_sum _ hgl.2, hgl.1]
theorem runsL_len (xs : List Pc) (hok : okLen xs) : (runsL xs).length ≤ xs.length := by
  have hgl := grouped_last tgP xs xs.length (Nat.le_refl _)
  rw [List.take_length] at hgl
  have := runs_len (grouped tgP xs) (fun g hg x hx => hok x (by rw [← hgl.1]; exact List.mem_flatten.2 ⟨g, hg, hx⟩))
  rw [hgl.1] at this
  exact this
/-- Each of them is like a piece of the list. -/
theorem runsL_mem (xs : List Pc) (hok : okLen xs) : ∀ q ∈ runsL xs, ∃ p ∈ xs, q.turn = p.turn ∧ q.rad = p.rad ∧ q.wid = p.wid ∧ q.sur = p.sur ∧ 1 ≤ q.len ∧ q.len ≤ 5000 := by
  intro q hq
  have hgl := grouped_last tgP xs xs.length (Nat.le_refl _)
  rw [List.take_length] at hgl
  unfold runsL at hq
  obtain ⟨g, hg, hq⟩ := List.mem_flatMap.1 hq
  cases g with
  | nil => simp [runOf] at hq
  | cons x g =>
    have hx : ∀ y ∈ x :: g, y ∈ xs := fun y hy => by rw [← hgl.1]; exact List.mem_flatten.2 ⟨_, hg, hy⟩
    have hl := lenSum_ok (x :: g) (fun y hy => hok y (hx y hy))
    exact ⟨x, hx x (by simp), chunk_mem x _ (lenSum (x :: g)) (Nat.le_refl _) (by simp only [List.length_cons] at hl; omega) q hq⟩
def nrmR (r : Road) : Road := ⟨runsL r.ps, r.cs, r.js⟩
theorem okPs.okLen {r : Road} (h : okPs r) : okLen r.ps := fun p hp => pcOk_len (List.all_eq_true.1 h.1 p hp)
theorem validB_nrm (r : Road) (h : validB r = true) : validB (nrmR r) = true := by
  have hok := (validB_ok h).1
  have hs := runsL_sum r.ps
  have hl := runsL_len r.ps hok.okLen
  have hne : 1 ≤ (runsL r.ps).length := by
    have h1 := (validB_ok h).2.1
    have h2 := lenSum_ok r.ps hok.okLen
    rcases Nat.eq_zero_or_pos (runsL r.ps).length with e | e
    · rw [List.length_eq_zero_iff.1 e] at hs
      simp [lenSum] at hs
      simp only [lenSum] at h2
      omega
    · exact e
  simp only [validB, Bool.and_eq_true, decide_eq_true_eq] at h ⊢
  obtain ⟨⟨⟨⟨⟨⟨⟨h1, h2⟩, h3⟩, h4⟩, h5⟩, h6⟩, h7⟩, h8⟩ := h
  show ((((((1 ≤ (runsL r.ps).length ∧ (runsL r.ps).length ≤ 2000) ∧ r.cs.length ≤ 1000) ∧ r.js.length ≤ 200) ∧ (runsL r.ps).all pcOkP = true) ∧ lenSum (runsL r.ps) ≤ 100000) ∧ crsOk (lenSum (runsL r.ps)) r.cs = true) ∧ jnsOk (lenSum (runsL r.ps)) r.js = true
  rw [hs]
  refine ⟨⟨⟨⟨⟨⟨⟨hne, by omega⟩, h3⟩, h4⟩, ?_⟩, h6⟩, h7⟩, h8⟩
  rw [List.all_eq_true]
  intro q hq
  obtain ⟨p, hp, e1, e2, e3, e4, e5, e6⟩ := runsL_mem r.ps hok.okLen q hq
  have := List.all_eq_true.1 h5 p hp
  simp only [pcOkP, pcOk, inB, Bool.and_eq_true, decide_eq_true_eq] at this ⊢
  rw [e1, e2, e3, e4]
  exact ⟨⟨⟨⟨⟨e5, e6⟩, this.1.1.1.2⟩, this.1.1.2⟩, this.1.2⟩, this.2⟩

set_option maxRecDepth 100000 in
set_option maxHeartbeats 8000000 in
theorem Normal_good (r : Road) (A B C : Option Addr) (a b c : Nat) (w : World) (h : RdRoad w r A B C) (hv : validB r = true) :
    Calls Try.prog 34 #[.agg #[.slice A r.ps.length a, .slice B r.cs.length b, .slice C r.js.length c]] w fun e w' => (∃ v0 v1 v2, e = .returned (.tuple #[.agg #[v0, v1, v2], .int .i64 0]) ∧ OwnR w' w.heap.size v0 v1 v2 (nrmR r)) ∧ Below w.heap.size w w' := by
  have hE := checkE_true hv
  have hok := (validB_ok hv).1
  have hlen := hok.2
  have hcl := (validB_ok hv).2.2.2.1
  have hjl := (validB_ok hv).2.2.2.2.1
  have hvn := validB_ok (validB_nrm r hv)
  have hol := hok.okLen
  have HOL := Lib.hid hol
  have n1 : (nrmR r).ps.length ≤ 100000 := by have := hvn.1.2; omega
  have hnl : lensOk (nrmR r).ps 100000 := fun p hp => ⟨(hvn.1.lens p hp).1, by have := (hvn.1.lens p hp).2; omega⟩
  have hnf : fitsR (nrmR r) = true := by
    have a1 := hvn.1.2
    have a2 := hvn.2.2.1
    simp only [fitsR, Bool.and_eq_true, decide_eq_true_eq]
    exact ⟨⟨⟨a1, hcl⟩, hjl⟩, a2⟩
  have HNL := Lib.hid hnl
  have HNF := Lib.hid hnf
  clear hnl hnf hvn hol hv
  have hR0 : InR w ((w.alloc (.cells #[.slice A r.ps.length a, .slice B r.cs.length b, .slice C r.js.length c] 26)).alloc (.cells #[.slice none 0 0, .slice none 0 0, .slice none 0 0] 26)) r A B C a b c := (InR.new w r A B C a b c).step (balloc _ _)
  have hK0 : Blk ((w.alloc (.cells #[.slice A r.ps.length a, .slice B r.cs.length b, .slice C r.js.length c] 26)).alloc (.cells #[.slice none 0 0, .slice none 0 0, .slice none 0 0] 26)) (w.heap.size + 1) 26 #[.slice none 0 0, .slice none 0 0, .slice none 0 0] := blk_at _ _ _ _ (by simp)
  go_enter Try.func34, Try.ntmps34
  go_upto_region 4 with (go_at_call 48; refine (check_any r A B C a b c _ (hR0.rd h)).mono ?_; rintro e W1 ⟨rfl, hb1⟩; have hI1 := hR0.step hb1; have hK1 := hK0.below hb1 hK0.lt)
  have b0 := hI1.box.2 0 _ rfl
  have b1 := hI1.box.2 1 _ rfl
  have b2 := hI1.box.2 2 _ rfl
  have bs := hI1.box.1
  have hrd := hI1.rd h
  go_region_held3 (fun w' => w'.cell? ⟨w.heap.size, 0, none⟩ = some (.slice A r.ps.length a) ∧ w'.cell? ⟨w.heap.size, 1, none⟩ = some (.slice B r.cs.length b) ∧ w'.cell? ⟨w.heap.size, 2, none⟩ = some (.slice C r.js.length c)) (go_keep)
    (first
      | (go_at_call 69; refine (runs_any r.ps A a _ (hrd.p.below (below_drew _ _)) HOL.out (by omega)).mono ?_; rintro e W2 ⟨⟨v0, rfl, hO0⟩, hb2⟩; have hI2 := (hI1.step (below_drew _ _)).step hb2; have hK2 := (hK1.below (below_drew _ _) hK1.lt).below hb2 hK1.lt; clear b0 b1 b2; have b0 := hI2.box.2 0 _ rfl; have b1 := hI2.box.2 1 _ rfl; have b2 := hI2.box.2 2 _ rfl)
      | (go_at_call 63; refine (clone_c r.cs B b _ ((hrd.c.below (below_drew _ _)).below hb2) (by omega)).mono ?_; rintro e W3 ⟨⟨v1, rfl, hO1⟩, hb3⟩; have hI3 := hI2.step hb3; have hK3 := hK2.below hb3 hK2.lt; clear b0 b1 b2; have b0 := hI3.box.2 0 _ rfl; have b1 := hI3.box.2 1 _ rfl; have b2 := hI3.box.2 2 _ rfl)
      | (go_at_call 64; refine (clone_j r.js C c _ (((hrd.j.below (below_drew _ _)).below hb2).below hb3) (by omega)).mono ?_; rintro e W4 ⟨⟨v2, rfl, hO2⟩, hb4⟩; have hI4 := hI3.step hb4; have hK4 := hK3.below hb4 hK3.lt; clear b0 b1 b2; have b0 := hI4.box.2 0 _ rfl; have b1 := hI4.box.2 1 _ rfl; have b2 := hI4.box.2 2 _ rfl; have hOR : OwnR W4 w.heap.size v0 v1 v2 (nrmR r) := ⟨((hO0.below hb3).below hb4).base_mono (by have := hI1.below.size; simpa using this), (hO1.below hb4).base_mono hI2.below.size, hO2.base_mono hI3.below.size⟩; obtain ⟨VA, VB, VC, va, vb, vc, rfl, rfl, rfl⟩ := hOR.formR)
      | (go_at_call 68; refine (bounded_ok (nrmR r) VA VB VC va vb vc _ (hOR.rdR (by omega) (by show r.cs.length ≤ _; omega) (by show r.js.length ≤ _; omega)) HNL.out n1 (by show r.cs.length ≤ _; omega) (by show r.js.length ≤ _; omega) HNF.out).mono ?_; rintro e W5 ⟨rfl, hb5⟩; have hI5 := hI4.step hb5; have hK5 := hK4.below hb5 hK4.lt; clear b0 b1 b2; have b0 := hI5.box.2 0 _ rfl; have b1 := hI5.box.2 1 _ rfl; have b2 := hI5.box.2 2 _ rfl; have hOR5 := hOR.below hb5; have k0 := hK5.frozen 0; have k1 := hK5.frozen 1; have k2 := hK5.frozen 2; have e0 := hK5.cell 0; have e1 := hK5.cell 1; have e2 := hK5.cell 2; have kl := hK5.lt))
  have hKz := ((hK5.set_ 0 (.slice VA (nrmR r).ps.length va)).set_ 1 (.slice VB (nrmR r).cs.length vb)).set_ 2 (.slice VC (nrmR r).js.length vc)
  have hg := World.grownBy.trans (World.grownBy.trans (grown_set W5 (w.heap.size + 1) 0 (.slice VA (nrmR r).ps.length va)) (grown_set _ (w.heap.size + 1) 1 (.slice VB (nrmR r).cs.length vb))) (grown_set _ (w.heap.size + 1) 2 (.slice VC (nrmR r).js.length vc))
  have hR : OwnR (((W5.setCell ⟨w.heap.size + 1, 0, none⟩ (.slice VA (nrmR r).ps.length va)).setCell ⟨w.heap.size + 1, 1, none⟩ (.slice VB (nrmR r).cs.length vb)).setCell ⟨w.heap.size + 1, 2, none⟩ (.slice VC (nrmR r).js.length vc)) w.heap.size (.slice VA (nrmR r).ps.length va) (.slice VB (nrmR r).cs.length vb) (.slice VC (nrmR r).js.length vc) (nrmR r) :=
    ⟨hOR5.p.other hg (.inr (own_ne_blk hOR5.p hK5 (by decide)).symm), hOR5.c.other hg (.inr (own_ne_blk hOR5.c hK5 (by decide)).symm), hOR5.j.other hg (.inr (own_ne_blk hOR5.j hK5 (by decide)).symm)⟩
  have hB : Below w.heap.size w (((W5.setCell ⟨w.heap.size + 1, 0, none⟩ (.slice VA (nrmR r).ps.length va)).setCell ⟨w.heap.size + 1, 1, none⟩ (.slice VB (nrmR r).cs.length vb)).setCell ⟨w.heap.size + 1, 2, none⟩ (.slice VC (nrmR r).js.length vc)) := ((hI5.below.setCell (p := ⟨w.heap.size + 1, 0, none⟩) (by simp) _).setCell (p := ⟨w.heap.size + 1, 1, none⟩) (by simp) _).setCell (p := ⟨w.heap.size + 1, 2, none⟩) (by simp) _
  have r0 := hKz.cell 0
  have r1 := hKz.cell 1
  have r2 := hKz.cell 2
  have rl := hKz.lt
  go_wp2_with fail
  refine bodyPost_ret (v := .tuple #[.agg #[.slice VA (nrmR r).ps.length va, .slice VB (nrmR r).cs.length vb, .slice VC (nrmR r).js.length vc], .int .i64 0]) ?_ rfl ⟨⟨_, _, _, rfl, hR⟩, hB⟩
  simp [results, Try.results34, go_sem, r0, r1, r2, rl]

set_option maxHeartbeats 1000000 in
theorem Normal_bad (r : Road) (A B C : Option Addr) (a b c : Nat) (w : World) (h : RdRoad w r A B C) (hv : validB r = false) :
    Calls Try.prog 34 #[.agg #[.slice A r.ps.length a, .slice B r.cs.length b, .slice C r.js.length c]] w fun e w' => e = .returned (.tuple #[.agg #[.slice none 0 0, .slice none 0 0, .slice none 0 0], .int .i64 2]) ∧ Below w.heap.size w w' := by
  have hE := checkE_false hv
  have hR0 : InR w ((w.alloc (.cells #[.slice A r.ps.length a, .slice B r.cs.length b, .slice C r.js.length c] 26)).alloc (.cells #[.slice none 0 0, .slice none 0 0, .slice none 0 0] 26)) r A B C a b c := (InR.new w r A B C a b c).step (balloc _ _)
  have hK0 : Blk ((w.alloc (.cells #[.slice A r.ps.length a, .slice B r.cs.length b, .slice C r.js.length c] 26)).alloc (.cells #[.slice none 0 0, .slice none 0 0, .slice none 0 0] 26)) (w.heap.size + 1) 26 #[.slice none 0 0, .slice none 0 0, .slice none 0 0] := blk_at _ _ _ _ (by simp)
  go_enter Try.func34, Try.ntmps34
  go_wp2_with (go_at_call 48; refine (check_any r A B C a b c _ (hR0.rd h)).mono ?_; rintro e W1 ⟨rfl, hb1⟩; have hI1 := hR0.step hb1; have hK1 := hK0.below hb1 hK0.lt; have k0 := hK1.frozen 0; have k1 := hK1.frozen 1; have k2 := hK1.frozen 2; have e0 := hK1.cell 0; have e1 := hK1.cell 1; have e2 := hK1.cell 2)
  have hK2 := ((hK1.set_ 0 (.slice none 0 0)).set_ 1 (.slice none 0 0)).set_ 2 (.slice none 0 0)
  have hB2 : Below w.heap.size w (((W1.setCell ⟨w.heap.size + 1, 0, none⟩ (.slice none 0 0)).setCell ⟨w.heap.size + 1, 1, none⟩ (.slice none 0 0)).setCell ⟨w.heap.size + 1, 2, none⟩ (.slice none 0 0)) := ((hI1.below.setCell (p := ⟨w.heap.size + 1, 0, none⟩) (by simp) _).setCell (p := ⟨w.heap.size + 1, 1, none⟩) (by simp) _).setCell (p := ⟨w.heap.size + 1, 2, none⟩) (by simp) _
  have r0 := hK2.cell 0
  have r1 := hK2.cell 1
  have r2 := hK2.cell 2
  have rl := hK2.lt
  refine bodyPost_ret (v := .tuple #[.agg #[.slice none 0 0, .slice none 0 0, .slice none 0 0], .int .i64 2]) ?_ rfl ⟨rfl, hB2⟩
  simp [results, Try.results34, go_sem, r0, r1, r2, rl]


end Go.Proofs.Ytbdjmaogbpdkpaa

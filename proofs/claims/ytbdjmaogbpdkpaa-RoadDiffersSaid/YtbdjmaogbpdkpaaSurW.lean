import Derived.Test.YtbdjmaogbpdkpaaDifP
import Derived.Test.YtbdjmaogbpdkpaaMk4
import Derived.Test.YtbdjmaogbpdkpaaRPart
/-
  road.surveys, road.stretches.
-/
namespace Go.Proofs.Ytbdjmaogbpdkpaa
open Go Go.RowKit Go.Shelf
set_option linter.unusedVariables false
set_option linter.unusedSimpArgs false
attribute [local go_sem] wide_fn wide_depth Oper.semAt_some Later.cell Later.cell1 Later.new1 Later.frozen Later.frozen1 max_ints min_ints

/-- A measured road, by its address. -/
def MeasV (base : Nat) (r : Road) (A B C : Option Addr) (a b c : Nat) (v : Value) (W : World) : Prop := ∃ M G g, v = .pointer (some ⟨M, 0, none⟩) ∧ base ≤ M ∧ Meas W M r A B C a b c G g
theorem stays_measv (base : Nat) (r : Road) (A B C : Option Addr) (a b c : Nat) (v : Value) : Stays (MeasV base r A B C a b c v) := fun w w' ⟨M, G, g, e, h1, h2⟩ hb => ⟨M, G, g, e, h1, h2.below hb⟩

set_option maxRecDepth 100000 in
set_option maxHeartbeats 8000000 in
theorem surveys_any (r q : Road) (A B C A' B' C' : Option Addr) (a b c a' b' c' : Nat) (w : World) (h : RdRoad w r A B C) (h' : RdRoad w q A' B' C') (hv : validB r = true) (hv' : validB q = true) :
    Calls Try.prog 71 #[.agg #[.slice A r.ps.length a, .slice B r.cs.length b, .slice C r.js.length c], .agg #[.slice A' q.ps.length a', .slice B' q.cs.length b', .slice C' q.js.length c']] w fun e w' => ((lenSum r.ps = lenSum q.ps ∧ ∃ M G g M' G' g', e = .returned (.tuple #[.pointer (some ⟨M, 0, none⟩), .pointer (some ⟨M', 0, none⟩), .int .i64 0]) ∧ Meas w' M r A B C a b c G g ∧ Meas w' M' q A' B' C' a' b' c' G' g') ∨ (lenSum r.ps ≠ lenSum q.ps ∧ e = .returned (.tuple #[.pointer none, .pointer none, .int .i64 2]))) ∧ Below w.heap.size w w' := by
  have hE := checkE_true hv
  have hE' := checkE_true hv'
  have hok := (VR.of hv).ok
  have hok' := (VR.of hv').ok
  obtain ⟨W0, hW0⟩ : ∃ W0, W0 = (w.alloc (.cells #[.slice A r.ps.length a, .slice B r.cs.length b, .slice C r.js.length c] 26)).alloc (.cells #[.slice A' q.ps.length a', .slice B' q.cs.length b', .slice C' q.js.length c'] 26) := ⟨_, rfl⟩
  have hR0 : InR w W0 r A B C a b c := by rw [hW0]; exact (InR.new w r A B C a b c).step (balloc _ _)
  have hJ0 : Blk W0 (w.heap.size + 1) 26 #[.slice A' q.ps.length a', .slice B' q.cs.length b', .slice C' q.js.length c'] := by rw [hW0]; exact blk_at _ _ _ _ (by simp)
  have b0 := hR0.box.2 0 _ rfl
  have b1 := hR0.box.2 1 _ rfl
  have b2 := hR0.box.2 2 _ rfl
  have bs := hR0.box.1
  have e0 := hJ0.cell 0
  have e1 := hJ0.cell 1
  have e2 := hJ0.cell 2
  have es := hJ0.lt
  have hq0 := h'.below hR0.below
  clear hv hv'
  go_enter Try.func71, Try.ntmps71
  go_upto_region 1 with fail
  rw [← hW0]
  clear hW0
  go_upto_region 3 with (first
    | (go_at_call 48; refine (check_any q A' B' C' a' b' c' _ (hq0.below hb1)).mono ?_; rintro e W2 ⟨rfl, hb2⟩; have hI2 := hI1.step hb2; have hJ2 := hJ1.below hb2 hJ1.lt; clear b0 b1 b2 bs e0 e1 e2 es; have b0 := hI2.box.2 0 _ rfl; have b1 := hI2.box.2 1 _ rfl; have b2 := hI2.box.2 2 _ rfl; have bs := hI2.box.1; have e0 := hJ2.cell 0; have e1 := hJ2.cell 1; have e2 := hJ2.cell 2; have es := hJ2.lt)
    | (go_at_call 48; refine (check_any r A B C a b c _ (hR0.rd h)).mono ?_; rintro e W1 ⟨rfl, hb1⟩; have hI1 := hR0.step hb1; have hJ1 := hJ0.below hb1 hJ0.lt; clear b0 b1 b2 bs e0 e1 e2 es; have b0 := hI1.box.2 0 _ rfl; have b1 := hI1.box.2 1 _ rfl; have b2 := hI1.box.2 2 _ rfl; have bs := hI1.box.1; have e0 := hJ1.cell 0; have e1 := hJ1.cell 1; have e2 := hJ1.cell 2; have es := hJ1.lt))
  have hrd := hI2.rd h
  have hqd := (hq0.below hb1).below hb2
  refine Mk4.wp_region_mk_tail 5 (fun j => match j with | 1 => some (MeasV W2.heap.size r A B C a b c) | 3 => some (MeasV W2.heap.size q A' B' C' a' b' c') | _ => none) (fun j => match j with | _ => []) (by kernel_rfl) (by kernel_rfl) (by kernel_rfl) ?hmk ?_
  case hmk =>
    intro j S hS v
    split at hS <;> first | (injection hS with hS; subst hS; exact stays_measv _ _ _ _ _ _ _ _ _) | cases hS
  simp only [List.take_succ_cons, List.take_zero, List.drop_succ_cons, List.drop_zero]
  refine Mk4.wpM_reads [_] (_ :: _) _ _ _ (by kernel_rfl) (by intro j hj; rcases (show j = 0 by simp at hj; omega) with rfl; exact ⟨rfl, rfl⟩) ?_
  repeat (go_big_quiet_step (fail))
  refine wpQuiet_nil ?_
  refine Mk4.wpM_make rfl rfl rfl ?_ ?_
  · intro x hx _
    unfold Mk4.makesAt
    go_simp
    exact (measure_ok r A B C a b c x (hrd.below hx) hok).mono fun e w' ⟨M, G, g, he, hM, hb, hMe⟩ => ⟨_, he, ⟨M, G, g, rfl, Nat.le_trans hx.size hM, hMe⟩, (fun p e => by injection e with e; injection e with e; subst e; exact ⟨hM, hMe.box.1⟩), hb⟩
  rintro v ⟨_, x, hx, ⟨_, ⟨M, G, g, rfl, _⟩, _⟩, _⟩
  go_simp
  refine Mk4.wpM_reads [_] (_ :: _) _ _ _ (by kernel_rfl) (by intro j hj; rcases (show j = 0 by simp at hj; omega) with rfl; exact ⟨rfl, rfl⟩) ?_
  repeat (go_big_quiet_step (fail))
  refine wpQuiet_nil ?_
  refine Mk4.wpM_make rfl rfl rfl ?_ ?_
  · intro x hx _
    unfold Mk4.makesAt
    go_simp
    exact (measure_ok q A' B' C' a' b' c' x (hqd.below hx) hok').mono fun e w' ⟨M, G, g, he, hM, hb, hMe⟩ => ⟨_, he, ⟨M, G, g, rfl, Nat.le_trans hx.size hM, hMe⟩, (fun p e => by injection e with e; injection e with e; subst e; exact ⟨hM, hMe.box.1⟩), hb⟩
  rintro v ⟨_, x', hx', ⟨_, ⟨M', G', g', rfl, _⟩, _⟩, _⟩
  go_simp
  refine Mk4.wpM_reads [_] [] _ _ _ (by kernel_rfl) (by intro j hj; rcases (show j = 0 by simp at hj; omega) with rfl; exact ⟨rfl, rfl⟩) ?_
  repeat (go_big_quiet_step (fail))
  refine wpQuiet_nil ?_
  refine Mk4.wpM_nil ?_
  rintro W3 hb3 ⟨⟨_, ⟨M1, G1, g1, e1', hM1, hMe⟩, _⟩, ⟨M2, G2, g2, e2', hM2, hMe'⟩, _⟩
  injection e1' with e1'
  injection e1' with e1'
  injection e1' with e1'
  injection e2' with e2'
  injection e2' with e2'
  injection e2' with e2'
  subst e1' e2'
  clear b0 b1 b2 bs e0 e1 e2 es hx hx'
  have hI3 := hI2.step hb3
  by_cases hl : lenSum r.ps = lenSum q.ps
  · have hl' : (lenSum r.ps != lenSum q.ps) = false := by simpa using hl
    have HL := Lib.hid hl
    clear hl
    go_wp2_with (first
      | (go_at_call 54; refine (mlength_ok q A' B' C' a' b' c' G2 g2 M' _ (hMe'.below hb4) hok').mono ?_; rintro e W5 ⟨rfl, hb5⟩)
      | (go_at_call 54; refine (mlength_ok r A B C a b c G1 g1 M _ hMe hok).mono ?_; rintro e W4 ⟨rfl, hb4⟩))
    go_ret3
    exact ⟨.inl ⟨HL.out, _, _, _, _, _, _, rfl, (hMe.below hb4).below hb5, (hMe'.below hb4).below hb5⟩, bthen (bthen hI3.below hb4) hb5⟩
  · have hl' : (lenSum r.ps != lenSum q.ps) = true := by simpa using hl
    have HL := Lib.hid hl
    clear hl
    go_wp2_with (first
      | (go_at_call 54; refine (mlength_ok q A' B' C' a' b' c' G2 g2 M' _ (hMe'.below hb4) hok').mono ?_; rintro e W5 ⟨rfl, hb5⟩)
      | (go_at_call 54; refine (mlength_ok r A B C a b c G1 g1 M _ hMe hok).mono ?_; rintro e W4 ⟨rfl, hb4⟩))
    go_ret3
    exact ⟨.inr ⟨HL.out, rfl⟩, bthen (bthen hI3.below hb4) hb5⟩

set_option maxHeartbeats 400000 in
theorem stretches_any (p p' : Option Addr) (w : World) :
    Calls Try.prog 72 #[.pointer p, .pointer p'] w fun e w' => e = .returned (.func (.func 93) #[] #[.pointer (some ⟨w.heap.size, 0, none⟩), .pointer (some ⟨w.heap.size + 1, 0, none⟩)]) ∧ (w.alloc (.cells #[.pointer p] 89)).alloc (.cells #[.pointer p'] 89) = w' := by
  go_enter Try.func72, Try.ntmps72
  go_wp2
  go_ret
  exact ⟨rfl, rfl⟩

/-- What a round keeps: what lay below n, and two blocks besides. -/
def KpC (n B1 B2 : Nat) (W W' : World) : Prop := Below n W W' ∧ W'.heap[B1]? = W.heap[B1]? ∧ W'.heap[B2]? = W.heap[B2]?
theorem KpC.trans {n B1 B2 : Nat} {A B C : World} (h : KpC n B1 B2 A B) (k : KpC n B1 B2 B C) : KpC n B1 B2 A C := ⟨h.1.trans k.1, k.2.1.trans h.2.1, k.2.2.trans h.2.2⟩
theorem KpC.refl (n B1 B2 : Nat) (W : World) : KpC n B1 B2 W W := ⟨Below.refl _ _, rfl, rfl⟩
theorem KpC.put {n B1 B2 : Nat} {w : World} (hn : n ≤ w.heap.size) (h1 : B1 < w.heap.size) (h2 : B2 < w.heap.size) (W : World) (l : Nat) (o o' : Obj) (hl : w.heap.size ≤ l) (h : W.heap[l]? = some o) (hc : o.isCells = false) (hw : o.isWalk = false) : KpC n B1 B2 W (W.putObj l o') :=
  ⟨belowK_b hn W l o o' hl h hc hw, World.putObj_heap_other (by omega), World.putObj_heap_other (by omega)⟩
theorem KpC.of_later {n B1 B2 : Nat} {W W' : World} (hb : Below W.heap.size W W') (hn : n ≤ W.heap.size) (h1 : B1 < W.heap.size) (h2 : B2 < W.heap.size) : KpC n B1 B2 W W' := ⟨hb.mono hn, hb.block B1 h1, hb.block B2 h2⟩

def stV (s : St) : List Value := [.int .i64 s.fr, .int .i64 s.to_, .int .i64 s.p.len, .int .i64 s.p.turn, .int .i64 s.p.rad, .int .i64 s.p.wid, .int .i64 s.p.sur, .int .i64 s.q.len, .int .i64 s.q.turn, .int .i64 s.q.rad, .int .i64 s.q.wid, .int .i64 s.q.sur]
def encS (L : List St) (x : Fin L.length) : Array Value := #[.agg #[.int .i64 L[x.1].fr, .int .i64 L[x.1].to_, .int .i64 L[x.1].p.len, .int .i64 L[x.1].p.turn, .int .i64 L[x.1].p.rad, .int .i64 L[x.1].p.wid, .int .i64 L[x.1].p.sur, .int .i64 L[x.1].q.len, .int .i64 L[x.1].q.turn, .int .i64 L[x.1].q.rad, .int .i64 L[x.1].q.wid, .int .i64 L[x.1].q.sur]]

/-- A world in which two measured roads lie. -/
structure TwoM (wa : World) (r q : Road) (A B C A' B' C' : Option Addr) (a b c a' b' c' : Nat) (G G' : Option Addr) (g g' M M' : Nat) : Prop where
  m : Meas wa M r A B C a b c G g
  m' : Meas wa M' q A' B' C' a' b' c' G' g'
  rd : RdRoad wa r A B C
  rd' : RdRoad wa q A' B' C'
theorem TwoM.below {wa w' : World} {r q : Road} {A B C A' B' C' : Option Addr} {a b c a' b' c' : Nat} {G G' : Option Addr} {g g' M M' : Nat} (h : TwoM wa r q A B C A' B' C' a b c a' b' c' G G' g g' M M') (hb : Below wa.heap.size wa w') : TwoM w' r q A B C A' B' C' a b c a' b' c' G G' g g' M M' := ⟨h.m.below hb, h.m'.below hb, h.rd.below hb, h.rd'.below hb⟩

set_option maxRecDepth 100000 in
set_option maxHeartbeats 16000000 in
theorem strs1_in (F : Fence) (n : Nat) (h93 : F.fn 93) (hro : F.round = none) (hn : 1 ≤ n) (l B1 B2 M M' : Nat) (r q : Road) (A B C A' B' C' : Option Addr) (a b c a' b' c' : Nat) (G G' : Option Addr) (g g' : Nat) (hv : validB r = true) (hv' : validB q = true) (ht : lenSum r.ps = lenSum q.ps) (wa : World)
    (hT : TwoM wa r q A B C A' B' C' a b c a' b' c' G G' g g' M M') (L : List St) (HL : Hid (strs r.ps q.ps = L))
    (J Jx : List (Fin L.length) → World → Prop)
    (hY : ∀ pre x W, J pre W → pre.length < L.length → YieldAt F (n - 1) Try.prog l (encS L x) W fun e W' =>
      (e = .returned (.bool true) ∧ J (pre ++ [x]) W' ∧ KpC wa.heap.size B1 B2 W W') ∨ (e = .returned (.bool false) ∧ Jx (pre ++ [x]) W'))
    (hJ : ∀ pre W' W'', J pre W' → Below W'.heap.size W' W'' → J pre W'')
    (W : World) (hB1 : Blk W B1 89 #[.pointer (some ⟨M, 0, none⟩)]) (hB2 : Blk W B2 89 #[.pointer (some ⟨M', 0, none⟩)]) (hW : Below wa.heap.size wa W)
    (h0 : J [] W) :
    CallsIn F n Try.prog 93 #[.func (.yield l) #[] #[], .pointer (some ⟨B1, 0, none⟩), .pointer (some ⟨B2, 0, none⟩)] W fun e W' => (∃ v, e = .returned v) ∧
      ((∃ ys, ys = List.finRange L.length ∧ J ys W') ∨ (∃ pre, (∃ k, k ≤ L.length ∧ pre = upto L.length k) ∧ Jx pre W')) := by
  have hVr := VR.of hv
  have hVq := VR.of hv'
  have hlr := hVr.lp
  have hlq := hVq.lp
  have hln := hVr.ln
  have HPr : Hid (∀ p ∈ r.ps, 1 ≤ p.len) := Lib.hid (fun p hp => (hVr.ok.okLen p hp).1)
  have HPq : Hid (∀ p ∈ q.ps, 1 ≤ p.len) := Lib.hid (fun p hp => (hVq.ok.okLen p hp).1)
  have HT := Lib.hid ht
  have HS0 := Lib.hid (SAt.zero r.ps q.ps HPr.out HPq.out)
  have hlq2 := hVq.ln
  clear hv hv' ht
  refine callsIn_of_wp Try.func93 rfl h93 ?_ hro
  simp only [Try.ntmps93, List.size_toArray, List.length_cons, List.length_nil, Nat.reduceAdd, Nat.reduceSub, Array.replicate_succ, Array.replicate_zero, List.push_toArray, List.append_toArray, List.nil_append, List.cons_append]
  gi_wp2
  gi_loopw [4, 5, 6] (fun i j fr wr => ∃ (k ni nj : Nat) (f : Int), i = .int .i64 ni ∧ j = .int .i64 nj ∧ fr = .int .i64 f ∧ Hid (SAt r.ps q.ps k ni nj f) ∧ J (upto L.length k) wr ∧ KpC wa.heap.size B1 B2 W wr ∧ wa.heap.size ≤ wr.heap.size) (fun _ _ f _ => (lenSum r.ps - intOf f).toNat)
  case atStart => exact ⟨0, 0, 0, 0, rfl, rfl, rfl, HS0, h0, KpC.refl _ _ _ _, hW.size⟩
  case round =>
    obtain ⟨k, ni, nj, f, rfl, rfl, rfl, HS, hJs, hnx, hsz⟩ := hrel
    have hBa : Blk wr B1 89 _ := hnx.2.1.trans hB1
    have hBb : Blk wr B2 89 _ := hnx.2.2.trans hB2
    have hTw := hT.below (hW.trans hnx.1)
    have HJ := Lib.hid hJs
    clear hJs
    have m0 := hTw.m.box.2 0 _ rfl
    have m3 := hTw.m.box.2 3 _ rfl
    have ml := hTw.m.box.1
    have o0 := hTw.m'.box.2 0 _ rfl
    have o3 := hTw.m'.box.2 3 _ rfl
    have ol := hTw.m'.box.1
    have p0 := hBa.cell 0
    have p1 := hBb.cell 0
    have pl := hBa.lt
    have pl2 := hBb.lt
    by_cases hi : ni < r.ps.length
    · have hj := HS.out.inv.j_lt HPr.out HT.out hi
      obtain ⟨p, hp⟩ := getElem?_ex hi
      obtain ⟨s, hq⟩ := getElem?_ex hj
      obtain ⟨xb, xo, rfl, hxb, c0, c1, c2, c3, c4⟩ := hTw.rd.p.at5 hp
      obtain ⟨yb, yo, rfl, hyb, d0, d1, d2, d3, d4⟩ := hTw.rd'.p.at5 hq
      obtain ⟨gb, go, rfl, hgb, hg⟩ := hTw.m.beg.at1 (begs_at r.ps (ni + 1) (by omega))
      obtain ⟨kb, ko, rfl, hkb, hk⟩ := hTw.m'.beg.at1 (begs_at q.ps (nj + 1) (by omega))
      obtain ⟨to_, hto⟩ : ∃ x, x = min (lenSum (r.ps.take (ni + 1))) (lenSum (q.ps.take (nj + 1))) := ⟨_, rfl⟩
      obtain ⟨hlt, hLk, hnext⟩ := HS.out.next HPr.out HPq.out HT.out hi hp hq to_ hto
      have hle := take_le_sum r.ps HPr.out (ni + 1)
      have hle2 := take_le_sum q.ps HPq.out (nj + 1)
      have hf0 := HS.out.inv.f0
      obtain ⟨ea, hea⟩ : ∃ x, x = lenSum (r.ps.take (ni + 1)) := ⟨_, rfl⟩
      obtain ⟨eb, heb⟩ : ∃ x, x = lenSum (q.ps.take (nj + 1)) := ⟨_, rfl⟩
      rw [← hea] at hg hto hle hnext
      rw [← heb] at hk hto hle2 hnext
      have HEA := Lib.hid hea
      have HEB := Lib.hid heb
      clear hea heb
      have h1 : f < ea := by omega
      have h2 : f < eb := by omega
      have h3 : to_ ≤ lenSum r.ps := by omega
      have h4 : 0 ≤ to_ := by omega
      have HP := Lib.hid hp
      have HQ := Lib.hid hq
      have HN := Lib.hid hnext
      rw [HL.out] at hLk
      have HLK := Lib.hid hLk
      have hkl : k < L.length := (List.getElem?_eq_some_iff.1 hLk).1
      have hkv : L[k] = ⟨f, to_, p, s⟩ := (List.getElem?_eq_some_iff.1 hLk).2
      have HKV := Lib.hid hkv
      have HTO := Lib.hid hto
      clear hp hq hnext hLk hkv
      have f1 : IntKind.i64.wrap ((ni : Int) + 1) = (ni : Int) + 1 := IntWalk.i64_in _ (by omega)
      have f2 : (0 : Int) ≤ (ni : Int) + 1 := by omega
      have f3 : ((ni : Int) + 1).toNat = ni + 1 := by omega
      have f4 : (ni : Int) + 1 < (r.ps.length : Int) + 1 := by omega
      have f5 : IntKind.i64.wrap ((nj : Int) + 1) = (nj : Int) + 1 := IntWalk.i64_in _ (by omega)
      have f6 : (0 : Int) ≤ (nj : Int) + 1 := by omega
      have f7 : ((nj : Int) + 1).toNat = nj + 1 := by omega
      have f8 : (nj : Int) + 1 < (q.ps.length : Int) + 1 := by omega
      have f9 : (0 : Int) ≤ (ni : Int) := by omega
      have f10 : (0 : Int) ≤ (nj : Int) := by omega
      have f11 : (ni : Int) < (r.ps.length : Int) := by omega
      have f12 : (nj : Int) < (q.ps.length : Int) := by omega
      gi_upto_region 2 with fail
      refine wpIn_region_later (by kernel_rfl) (by kernel_rfl) (by kernel_rfl) ?_
      repeat (gi_big_quiet_step (fail))
      refine wpQuietIn_nil ?_
      rintro _ ⟨x, rfl⟩
      rw [← hto]
      clear hto
      have hb7 := x.b
      obtain ⟨W7, hW7⟩ : ∃ X, X = x.w := ⟨_, rfl⟩
      rw [← hW7] at hb7 ⊢
      clear hW7 m0 m3 ml o0 o3 ol p0 p1 pl pl2 c0 c1 c2 c3 c4 d0 d1 d2 d3 d4 hg hk hxb hyb hgb hkb
      have hBa7 := hBa.below hb7 hBa.lt
      have hBb7 := hBb.below hb7 hBb.lt
      have hT7 := hTw.below hb7
      have m0 := hT7.m.box.2 0 _ rfl
      have m3 := hT7.m.box.2 3 _ rfl
      have ml := hT7.m.box.1
      have o0 := hT7.m'.box.2 0 _ rfl
      have o3 := hT7.m'.box.2 3 _ rfl
      have ol := hT7.m'.box.1
      have p0 := hBa7.cell 0
      have p1 := hBb7.cell 0
      have pl := hBa7.lt
      have pl2 := hBb7.lt
      obtain ⟨xb1, xo1, ex, hxb, c0, c1, c2, c3, c4⟩ := hT7.rd.p.at5 HP.out
      injection ex with ex
      injection ex with ex1 ex2
      subst ex1 ex2
      obtain ⟨yb1, yo1, ey, hyb, d0, d1, d2, d3, d4⟩ := hT7.rd'.p.at5 HQ.out
      injection ey with ey
      injection ey with ey1 ey2
      subst ey1 ey2
      gi_upto_region 3 with fail
      refine wpIn_region_later_tail 21 (by kernel_rfl) (by kernel_rfl) (by kernel_rfl) ?_
      simp only [List.take_succ_cons, List.take_zero, List.drop_succ_cons, List.drop_zero]
      repeat (gi_big_quiet_step (fail))
      refine wpQuietIn_nil ?_
      rintro _ ⟨y, rfl⟩
      have hxb8 : Below wr.heap.size wr y.w := bthen hb7 y.b
      obtain ⟨fn, tmps, assign, body, hy, hR⟩ := hY _ ⟨k, hkl⟩ y.w (hJ _ _ _ HJ.out hxb8) (by rw [upto_length (by omega)]; exact hkl)
      simp only [encS, HKV.out] at hy
      gi_wp2
      refine hR.mono ?_
      have hn8 := KpC.of_later (n := wa.heap.size) hxb8 hsz hBa.lt hBb.lt
      have hz8 := hxb8.size
      clear m0 m3 ml o0 o3 ol p0 p1 pl pl2 c0 c1 c2 c3 c4 d0 d1 d2 d3 d4 hxb hyb
      rintro e W3 (⟨rfl, hJ3, hk3⟩ | ⟨rfl, hJx3⟩)
      · have hn3 := (hnx.trans hn8).trans hk3
        have hBa3 : Blk W3 B1 89 _ := hn3.2.1.trans hB1
        have hBb3 : Blk W3 B2 89 _ := hn3.2.2.trans hB2
        have hT3 := hT.below (hW.trans hn3.1)
        have m0 := hT3.m.box.2 0 _ rfl
        have m3 := hT3.m.box.2 3 _ rfl
        have ml := hT3.m.box.1
        have o0 := hT3.m'.box.2 0 _ rfl
        have o3 := hT3.m'.box.2 3 _ rfl
        have ol := hT3.m'.box.1
        have p0 := hBa3.cell 0
        have p1 := hBb3.cell 0
        have pl := hBa3.lt
        have pl2 := hBb3.lt
        obtain ⟨gb1, go1, eg, hgb, hg⟩ := hT3.m.beg.at1 (begs_at r.ps (ni + 1) (by omega))
        injection eg with eg
        injection eg with eg1 eg2
        subst eg1 eg2
        obtain ⟨kb1, ko1, eh, hkb, hk⟩ := hT3.m'.beg.at1 (begs_at q.ps (nj + 1) (by omega))
        injection eh with eh
        injection eh with eh1 eh2
        subst eh1 eh2
        rw [← HEA.out] at hg
        rw [← HEB.out] at hk
        have hJ4 : J (upto L.length (k + 1)) W3 := by rw [upto_succ ⟨k, hkl⟩]; exact hJ3
        have HJ4 := Lib.hid hJ4
        have hz3 := hBa3.lt
        clear hJ3 hJ4
        have hz4 : wa.heap.size ≤ W3.heap.size := (hW.trans hn3.1).size
        by_cases e1 : ea = to_
        · have e1' : (ea == to_) = true := by simpa using e1
          by_cases e2 : eb = to_
          · have e2' : (eb == to_) = true := by simpa using e2
            rw [if_pos e1, if_pos e2] at HN
            clear e1 e2
            gi_wp2_with fail
            go_roundw
            case rel => exact ⟨k + 1, ni + 1, nj + 1, to_, by go_num, by go_num, rfl, HN, HJ4.out, hn3, hz4⟩
            case measure => simp [intOf]; omega
          · have e2' : (eb == to_) = false := by simpa using e2
            rw [if_pos e1, if_neg e2] at HN
            clear e1 e2
            gi_wp2_with fail
            go_roundw
            case rel => exact ⟨k + 1, ni + 1, nj, to_, by go_num, rfl, rfl, HN, HJ4.out, hn3, hz4⟩
            case measure => simp [intOf]; omega
        · have e1' : (ea == to_) = false := by simpa using e1
          by_cases e2 : eb = to_
          · have e2' : (eb == to_) = true := by simpa using e2
            rw [if_neg e1, if_pos e2] at HN
            clear e1 e2
            gi_wp2_with fail
            go_roundw
            case rel => exact ⟨k + 1, ni, nj + 1, to_, rfl, by go_num, rfl, HN, HJ4.out, hn3, hz4⟩
            case measure => simp [intOf]; omega
          · have := HTO.out
            omega
      · gi_wp2
        refine bodyPost_ret (results_none rfl _ _ _) rfl ?_
        exact ⟨⟨_, rfl⟩, .inr ⟨_, ⟨k + 1, by omega, (upto_succ ⟨k, hkl⟩).symm⟩, hJx3⟩⟩
    · have hkL := HS.out.done (by omega)
      rw [HL.out] at hkL
      have HKL := Lib.hid hkL
      clear hkL
      gi_wp2
      go_end0
      exact ⟨⟨_, rfl⟩, .inl ⟨_, rfl, by have := HJ.out; rw [HKL.out, upto_all] at this; exact this⟩⟩

theorem strs_stops (F : Fence) (n : Nat) (h93 : F.fn 93) (hro : F.round = none) (hn : 1 ≤ n) (B1 B2 M M' : Nat) (r q : Road) (A B C A' B' C' : Option Addr) (a b c a' b' c' : Nat) (G G' : Option Addr) (g g' : Nat) (hv : validB r = true) (hv' : validB q = true) (ht : lenSum r.ps = lenSum q.ps) (wa w : World)
    (hT : TwoM wa r q A B C A' B' C' a b c a' b' c' G G' g g' M M') (L : List St) (HL : Hid (strs r.ps q.ps = L)) (hb : Below wa.heap.size wa w) (hB1 : Blk w B1 89 #[.pointer (some ⟨M, 0, none⟩)]) (hB2 : Blk w B2 89 #[.pointer (some ⟨M', 0, none⟩)]) :
    SeqStopsK F n Try.prog 93 #[.pointer (some ⟨B1, 0, none⟩), .pointer (some ⟨B2, 0, none⟩)] (encS L) (KpC wa.heap.size B1 B2) (fun ys => ys = List.finRange L.length) (fun pre => ∃ k, k ≤ L.length ∧ pre = upto L.length k) L.length w := fun l J Jx W hW hJ _ hY h0 => by
  have hbW : Below wa.heap.size wa W := hb.trans (hW.mono hb.size)
  exact strs1_in F n h93 hro hn l B1 B2 M M' r q A B C A' B' C' a b c a' b' c' G G' g g' hv hv' ht wa hT L HL J Jx hY (fun pre W' W'' hj hb' => hJ _ _ _ none hj (grown_later hb') (fun r e => by cases e)) W
    (hB1.below hW hB1.lt) (hB2.below hW hB2.lt) hbW h0

end Go.Proofs.Ytbdjmaogbpdkpaa

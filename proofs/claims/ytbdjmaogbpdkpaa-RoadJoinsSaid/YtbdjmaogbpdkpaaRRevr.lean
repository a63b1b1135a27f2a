import Derived.Test.YtbdjmaogbpdkpaaRPart
/-
  ref.Reverse.
-/
namespace Go.Proofs.Ytbdjmaogbpdkpaa
open Go Go.RowKit Go.Shelf
set_option linter.unusedVariables false
set_option linter.unusedSimpArgs false
attribute [local go_sem] Later.cell Later.cell1 Later.new1 Later.frozen Later.frozen1 max_ints min_ints

theorem rev_take {α β : Type} (f : α → β) (l : List α) (k m : Nat) (x : α) (hm : m + k + 1 = l.length) (h : l[m]? = some x) : (l.reverse.map f).take (k + 1) = (l.reverse.map f).take k ++ [f x] := by
  have h2 : l.reverse[k]? = some x := by
    rw [List.getElem?_reverse (by omega)]
    rw [show l.length - 1 - k = m by omega]
    exact h
  rw [List.take_add_one, List.getElem?_map, h2]
  rfl
theorem rev_done {α β : Type} (f : α → β) (l : List α) : (l.reverse.map f).take l.length = l.reverse.map f := List.take_of_length_le (by simp)

set_option maxRecDepth 100000 in
set_option maxHeartbeats 8000000 in
theorem rreverse_any (r : Road) (A B C : Option Addr) (a b c : Nat) (w : World) (h : RdRoad w r A B C) (hv : validB r = true) :
    Calls Try.prog 42 #[.agg #[.slice A r.ps.length a, .slice B r.cs.length b, .slice C r.js.length c]] w fun e w' => (∃ v0 v1 v2, e = .returned (.agg #[v0, v1, v2]) ∧ OwnR w' w.heap.size v0 v1 v2 (revR r)) ∧ Below w.heap.size w w' := by
  obtain ⟨i0, hi0, hz00, hz01, hz02⟩ := info_parts Try.info52
  obtain ⟨i1, hi1, hz10, hz11, hz12⟩ := info_parts Try.info86
  obtain ⟨i2, hi2, hz20, hz21, hz22⟩ := info_parts Try.info88
  have hV := VR.of hv
  have HV := Lib.hid hv
  clear hv
  have hlp := hV.lp
  have hlc := hV.lc
  have hlj := hV.lj
  have hln := hV.ln
  have hln0 := (hV.ok.beg r.ps.length).1
  rw [List.take_length] at hln0
  have hlb : lensOk r.ps 100000 := fun p hp => ⟨(hV.ok.lens p hp).1, by have := (hV.ok.lens p hp).2; omega⟩
  have HLB := Lib.hid hlb
  clear hlb
  obtain ⟨W0, hW0⟩ : ∃ W0, W0 = (w.alloc (.cells #[.slice A r.ps.length a, .slice B r.cs.length b, .slice C r.js.length c] 26)).alloc (.cells #[.slice none 0 0, .slice none 0 0, .slice none 0 0] 26) := ⟨_, rfl⟩
  have hR0 : InR w W0 r A B C a b c := by rw [hW0]; exact (InR.new w r A B C a b c).step (balloc _ _)
  have hK0 : Blk W0 (w.heap.size + 1) 26 #[.slice none 0 0, .slice none 0 0, .slice none 0 0] := by rw [hW0]; exact blk_at _ _ _ _ (by simp)
  obtain ⟨n, hn⟩ : ∃ n, n = w.heap.size + 2 := ⟨_, rfl⟩
  have hs0 : n = W0.heap.size := by rw [hW0, hn]; simp
  have rv0 := RvSt.new W0 n hs0
  go_enter Try.func42, Try.ntmps42
  go_upto_region 2 with fail
  rw [← hW0, ← hn]
  obtain ⟨W1, hW1⟩ : ∃ X, X = W0.alloc (.cells #[.slice none 0 0, .slice none 0 0, .slice none 0 0] 26) := ⟨_, rfl⟩
  rw [← hW1] at rv0 ⊢
  clear hW0 hW1 hs0 hn
  have hI := hR0.step rv0.bl
  have b0 := hI.box.2 0 _ rfl
  have b1 := hI.box.2 1 _ rfl
  have b2 := hI.box.2 2 _ rfl
  have bs := hI.box.1
  go_upto_region 3 with (go_at_call 21; refine (rlength_any r A B C a b c _ (hI.rd h) HLB.out (by omega)).mono ?_; rintro e W2 ⟨rfl, hb2⟩)
  have rv1 := rv0.below hb2
  clear hI b0 b1 b2 bs rv0 hb2
  have hI := hR0.step rv1.bl
  have b0 := hI.box.2 0 _ rfl
  have b1 := hI.box.2 1 _ rfl
  have b2 := hI.box.2 2 _ rfl
  have bs := hI.box.1
  go_wp2_with fail
  clear hI b0 b1 b2 bs
  go_loopw [5] (fun i W => ∃ (k : Nat) (j : Int) (v : Value), k ≤ r.ps.length ∧ j = (r.ps.length : Int) - 1 - k ∧ i = .int .i64 j ∧ RvSt W0 W n v (.slice none 0 0) (.slice none 0 0) ((r.ps.reverse.map revP).take k) [] []) (fun i _ => (intOf i + 1).toNat)
  case atStart => exact ⟨0, _, _, Nat.zero_le _, by simp, rfl, by simpa using rv1⟩
  case round =>
    rename World => Wq
    obtain ⟨k, j, v, hk, hj, rfl, rv⟩ := hrel
    have hws := rv.bl.size
    have hI := hR0.step rv.bl
    have b0 := hI.box.2 0 _ rfl
    have b1 := hI.box.2 1 _ rfl
    have b2 := hI.box.2 2 _ rfl
    have bs := hI.box.1
    by_cases hlt : k < r.ps.length
    · obtain ⟨m, hm⟩ : ∃ m : Nat, m + k + 1 = r.ps.length := ⟨r.ps.length - 1 - k, by omega⟩
      obtain rfl : j = (m : Int) := by omega
      clear hj
      obtain ⟨x, hx⟩ := getElem?_ex (show m < r.ps.length by omega)
      obtain ⟨xb, xo, rfl, hbb, c0, c1, c2, c3, c4⟩ := (hI.rd h).p.at5 hx
      have hxo := List.all_eq_true.1 hV.ok.1 x (List.mem_of_getElem? hx)
      have xt : -1 ≤ x.turn ∧ x.turn ≤ 1 := by
        simp only [pcOkP, pcOk, inB, Bool.and_eq_true, decide_eq_true_eq] at hxo
        omega
      have xt1 := xt.1
      have xt2 := xt.2
      clear xt hxo
      have HC := Lib.hid (rev_take revP r.ps k m x hm hx)
      have hpn : ((r.ps.reverse.map revP).take k).length ≤ k := List.length_take_le _ _
      clear hx
      obtain ⟨qs, hqs⟩ : ∃ qs, qs = (r.ps.reverse.map revP).take k := ⟨_, rfl⟩
      rw [← hqs] at HC rv hpn
      have hqn : qs.length ≤ 2000 := by omega
      have hml : m < r.ps.length := by omega
      have HM := Lib.hid hm
      clear hqs hpn hm
      obtain ⟨U, uc, rfl⟩ := rv.p.form
      have f1 : (0 : Int) ≤ (m : Int) := by omega
      have bX : Blk (Wq.alloc (.cells #[.int .i64 x.len, .int .i64 (-x.turn), .int .i64 x.rad, .int .i64 x.wid, .int .i64 x.sur] 52)) Wq.heap.size 52 #[.int .i64 x.len, .int .i64 (-x.turn), .int .i64 x.rad, .int .i64 x.wid, .int .i64 x.sur] := Blk.new _ _ _
      have hbX : Below Wq.heap.size Wq (Wq.alloc (.cells #[.int .i64 x.len, .int .i64 (-x.turn), .int .i64 x.rad, .int .i64 x.wid, .int .i64 x.sur] 52)) := balloc _ _
      go_upto_region 8 with fail
      obtain ⟨WX, hWX⟩ : ∃ X, X = Wq.alloc (.cells #[.int .i64 x.len, .int .i64 (-x.turn), .int .i64 x.rad, .int .i64 x.wid, .int .i64 x.sur] 52) := ⟨_, rfl⟩
      rw [← hWX] at bX hbX ⊢
      obtain ⟨NX, hNXe⟩ : ∃ X, X = Wq.heap.size := ⟨_, rfl⟩
      rw [← hNXe] at bX ⊢
      clear hWX hNXe c0 c1 c2 c3 c4
      have rvY := rv.below hbX
      have hws2 := rvY.bl.size
      have x0 := bX.cell 0
      have x1 := bX.cell 1
      have x2 := bX.cell 2
      have x3 := bX.cell 3
      have x4 := bX.cell 4
      have xl := bX.lt
      have m0 := rvY.b.cell 0
      have mf := rvY.b.frozen 0
      have ml := rvY.b.lt
      have hO' : WX.ownsRow W0.heap.size 52 5 (.slice U qs.length uc) qs.length (qs.flatMap pcV) := rvY.p
      go_wp2_with (at_builtin; refine wpList_append_lies _ rfl _ _ 22 rfl W0.heap.size 52 i0 _ 5 40 Try.underlying22 hi0 hz00 hz01 hz02 rfl (by decide) (.slice U qs.length uc) qs.length (qs.flatMap pcV) rfl (World.ownsRow.alloc hO' _) ⟨WX.heap.size, 0, none⟩ 1 1 (pcV ⟨x.len, -x.turn, x.rad, x.wid, x.sur⟩) rfl rfl (cells_new _ (pcV ⟨x.len, -x.turn, x.rad, x.wid, x.sur⟩) _ _ (by simp)) (by simp [pcV, Value.oneCell']) (by decide) (by simp only [maxLen]; omega) (by omega) (by simp; omega) _ rfl ?_; intro g5 cap5 w1 hown' hgrow hat hlt5; have bn1 : Blk w1 n 26 _ := (rvY.b.alloc (.cells (pcV ⟨x.len, -x.turn, x.rad, x.wid, x.sur⟩).toArray 52)).grown hgrow (own_ne_blk rvY.p rvY.b (by decide)); have n1 := bn1.frozen 0; have n2 := bn1.cell 0; have nl := bn1.lt)
      have hO5 : OwnL w1 W0.heap.size 52 5 pcV (.slice (some ⟨g5, 0, none⟩) (qs.length + 1) cap5) (qs ++ [⟨x.len, -x.turn, x.rad, x.wid, x.sur⟩]) := OwnL.snoc hown' rfl
      have rvn := rvY.appP hO5 hgrow
      go_wp2_with fail
      go_roundw
      case rel => exact ⟨k + 1, _, _, by have := HM.out; omega, by have := HM.out; omega, rfl, by rw [HC.out]; exact rvn⟩
      case measure => simp [intOf] <;> omega
    · obtain rfl : k = r.ps.length := by omega
      obtain rfl : j = -1 := by omega
      rw [rev_done] at rv
      clear rv1
      have rv1 := rv
      clear rv hj
      obtain ⟨v0, hv0⟩ : ∃ x, x = v := ⟨_, rfl⟩
      rw [← hv0] at rv1
      clear hv0
      go_wp2_with fail
      clear hI b0 b1 b2 bs hk hlt hws
      go_loopw [7] (fun i W => ∃ (k : Nat) (j : Int) (v : Value), k ≤ r.cs.length ∧ j = (r.cs.length : Int) - 1 - k ∧ i = .int .i64 j ∧ RvSt W0 W n v0 v (.slice none 0 0) (r.ps.reverse.map revP) ((r.cs.reverse.map (revC (lenSum r.ps))).take k) []) (fun i _ => (intOf i + 1).toNat)
      case atStart => exact ⟨0, _, _, Nat.zero_le _, by simp, rfl, by simpa using rv1⟩
      case round =>
        rename World => Wq
        obtain ⟨k, j, v, hk, hj, rfl, rv⟩ := hrel
        have hws := rv.bl.size
        have hI := hR0.step rv.bl
        have b0 := hI.box.2 0 _ rfl
        have b1 := hI.box.2 1 _ rfl
        have b2 := hI.box.2 2 _ rfl
        have bs := hI.box.1
        by_cases hlt : k < r.cs.length
        · obtain ⟨m, hm⟩ : ∃ m : Nat, m + k + 1 = r.cs.length := ⟨r.cs.length - 1 - k, by omega⟩
          obtain rfl : j = (m : Int) := by omega
          clear hj
          obtain ⟨x, hx⟩ := getElem?_ex (show m < r.cs.length by omega)
          obtain ⟨xb, xo, rfl, hbb, c0, c1⟩ := (hI.rd h).c.at2 hx
          have hxo := crs_at HV hx
          have xt1 := hxo.1
          have xt2 := hxo.2
          clear hxo
          have HC := Lib.hid (rev_take (revC (lenSum r.ps)) r.cs k m x hm hx)
          have hpn : ((r.cs.reverse.map (revC (lenSum r.ps))).take k).length ≤ k := List.length_take_le _ _
          clear hx
          obtain ⟨qs, hqs⟩ : ∃ qs, qs = (r.cs.reverse.map (revC (lenSum r.ps))).take k := ⟨_, rfl⟩
          rw [← hqs] at HC rv hpn
          have hqn : qs.length ≤ 2000 := by omega
          have hml : m < r.cs.length := by omega
          have HM := Lib.hid hm
          clear hqs hpn hm
          obtain ⟨U, uc, rfl⟩ := rv.c.form
          have f1 : (0 : Int) ≤ (m : Int) := by omega
          have bX : Blk (Wq.alloc (.cells #[.int .i64 (lenSum r.ps - x.at_), .int .i64 x.size] 86)) Wq.heap.size 86 #[.int .i64 (lenSum r.ps - x.at_), .int .i64 x.size] := Blk.new _ _ _
          have hbX : Below Wq.heap.size Wq (Wq.alloc (.cells #[.int .i64 (lenSum r.ps - x.at_), .int .i64 x.size] 86)) := balloc _ _
          go_upto_region 14 with fail
          obtain ⟨WX, hWX⟩ : ∃ X, X = Wq.alloc (.cells #[.int .i64 (lenSum r.ps - x.at_), .int .i64 x.size] 86) := ⟨_, rfl⟩
          rw [← hWX] at bX hbX ⊢
          obtain ⟨NX, hNXe⟩ : ∃ X, X = Wq.heap.size := ⟨_, rfl⟩
          rw [← hNXe] at bX ⊢
          clear hWX hNXe c0 c1
          have rvY := rv.below hbX
          have hws2 := rvY.bl.size
          have x0 := bX.cell 0
          have x1 := bX.cell 1
          have xl := bX.lt
          have m0 := rvY.b.cell 1
          have mf := rvY.b.frozen 1
          have ml := rvY.b.lt
          have hO' : WX.ownsRow W0.heap.size 86 2 (.slice U qs.length uc) qs.length (qs.flatMap crV) := rvY.c
          go_wp2_with (at_builtin; refine wpList_append_lies _ rfl _ _ 23 rfl W0.heap.size 86 i1 _ 2 16 Try.underlying23 hi1 hz10 hz11 hz12 rfl (by decide) (.slice U qs.length uc) qs.length (qs.flatMap crV) rfl (World.ownsRow.alloc hO' _) ⟨WX.heap.size, 0, none⟩ 1 1 (crV ⟨lenSum r.ps - x.at_, x.size⟩) rfl rfl (cells_new _ (crV ⟨lenSum r.ps - x.at_, x.size⟩) _ _ (by simp)) (by simp [crV, Value.oneCell']) (by decide) (by simp only [maxLen]; omega) (by omega) (by simp; omega) _ rfl ?_; intro g5 cap5 w1 hown' hgrow hat hlt5; have bn1 : Blk w1 n 26 _ := (rvY.b.alloc (.cells (crV ⟨lenSum r.ps - x.at_, x.size⟩).toArray 86)).grown hgrow (own_ne_blk rvY.c rvY.b (by decide)); have n1 := bn1.frozen 1; have n2 := bn1.cell 1; have nl := bn1.lt)
          have hO5 : OwnL w1 W0.heap.size 86 2 crV (.slice (some ⟨g5, 0, none⟩) (qs.length + 1) cap5) (qs ++ [⟨lenSum r.ps - x.at_, x.size⟩]) := OwnL.snoc hown' rfl
          have rvn := rvY.appC hO5 hgrow
          go_wp2_with fail
          go_roundw
          case rel => exact ⟨k + 1, _, _, by have := HM.out; omega, by have := HM.out; omega, rfl, by rw [HC.out]; exact rvn⟩
          case measure => simp [intOf] <;> omega
        · obtain rfl : k = r.cs.length := by omega
          obtain rfl : j = -1 := by omega
          rw [rev_done] at rv
          clear rv1
          have rv1 := rv
          clear rv hj
          obtain ⟨v1, hv1⟩ : ∃ x, x = v := ⟨_, rfl⟩
          rw [← hv1] at rv1
          clear hv1
          go_wp2_with fail
          clear hI b0 b1 b2 bs hk hlt hws
          go_loopw [9] (fun i W => ∃ (k : Nat) (j : Int) (v : Value), k ≤ r.js.length ∧ j = (r.js.length : Int) - 1 - k ∧ i = .int .i64 j ∧ RvSt W0 W n v0 v1 v (r.ps.reverse.map revP) (r.cs.reverse.map (revC (lenSum r.ps))) ((r.js.reverse.map (revJ (lenSum r.ps))).take k)) (fun i _ => (intOf i + 1).toNat)
          case atStart => exact ⟨0, _, _, Nat.zero_le _, by simp, rfl, by simpa using rv1⟩
          case round =>
            rename World => Wq
            obtain ⟨k, j, v, hk, hj, rfl, rv⟩ := hrel
            have hws := rv.bl.size
            have hI := hR0.step rv.bl
            have b0 := hI.box.2 0 _ rfl
            have b1 := hI.box.2 1 _ rfl
            have b2 := hI.box.2 2 _ rfl
            have bs := hI.box.1
            by_cases hlt : k < r.js.length
            · obtain ⟨m, hm⟩ : ∃ m : Nat, m + k + 1 = r.js.length := ⟨r.js.length - 1 - k, by omega⟩
              obtain rfl : j = (m : Int) := by omega
              clear hj
              obtain ⟨x, hx⟩ := getElem?_ex (show m < r.js.length by omega)
              obtain ⟨xb, xo, rfl, hbb, c0, c1, c2⟩ := (hI.rd h).j.at3 hx
              have hxo := jns_at HV hx
              obtain ⟨xt1, xt2, xt3, xt4, xt5, xt6⟩ := hxo
              have HC := Lib.hid (rev_take (revJ (lenSum r.ps)) r.js k m x hm hx)
              have hpn : ((r.js.reverse.map (revJ (lenSum r.ps))).take k).length ≤ k := List.length_take_le _ _
              clear hx
              obtain ⟨qs, hqs⟩ : ∃ qs, qs = (r.js.reverse.map (revJ (lenSum r.ps))).take k := ⟨_, rfl⟩
              rw [← hqs] at HC rv hpn
              have hqn : qs.length ≤ 2000 := by omega
              have hml : m < r.js.length := by omega
              have HM := Lib.hid hm
              clear hqs hpn hm
              obtain ⟨U, uc, rfl⟩ := rv.j.form
              have f1 : (0 : Int) ≤ (m : Int) := by omega
              have bX : Blk (Wq.alloc (.cells #[.int .i64 (lenSum r.ps - x.at_), .int .i64 x.arms, .int .i64 (x.arms + 1 - x.way)] 88)) Wq.heap.size 88 #[.int .i64 (lenSum r.ps - x.at_), .int .i64 x.arms, .int .i64 (x.arms + 1 - x.way)] := Blk.new _ _ _
              have hbX : Below Wq.heap.size Wq (Wq.alloc (.cells #[.int .i64 (lenSum r.ps - x.at_), .int .i64 x.arms, .int .i64 (x.arms + 1 - x.way)] 88)) := balloc _ _
              go_upto_region 21 with fail
              obtain ⟨WX, hWX⟩ : ∃ X, X = Wq.alloc (.cells #[.int .i64 (lenSum r.ps - x.at_), .int .i64 x.arms, .int .i64 (x.arms + 1 - x.way)] 88) := ⟨_, rfl⟩
              rw [← hWX] at bX hbX ⊢
              obtain ⟨NX, hNXe⟩ : ∃ X, X = Wq.heap.size := ⟨_, rfl⟩
              rw [← hNXe] at bX ⊢
              clear hWX hNXe c0 c1 c2
              have rvY := rv.below hbX
              have hws2 := rvY.bl.size
              have x0 := bX.cell 0
              have x1 := bX.cell 1
              have x2 := bX.cell 2
              have xl := bX.lt
              have m0 := rvY.b.cell 2
              have mf := rvY.b.frozen 2
              have ml := rvY.b.lt
              have hO' : WX.ownsRow W0.heap.size 88 3 (.slice U qs.length uc) qs.length (qs.flatMap jnV) := rvY.j
              go_wp2_with (at_builtin; refine wpList_append_lies _ rfl _ _ 24 rfl W0.heap.size 88 i2 _ 3 24 Try.underlying24 hi2 hz20 hz21 hz22 rfl (by decide) (.slice U qs.length uc) qs.length (qs.flatMap jnV) rfl (World.ownsRow.alloc hO' _) ⟨WX.heap.size, 0, none⟩ 1 1 (jnV ⟨lenSum r.ps - x.at_, x.arms, x.arms + 1 - x.way⟩) rfl rfl (cells_new _ (jnV ⟨lenSum r.ps - x.at_, x.arms, x.arms + 1 - x.way⟩) _ _ (by simp)) (by simp [jnV, Value.oneCell']) (by decide) (by simp only [maxLen]; omega) (by omega) (by simp; omega) _ rfl ?_; intro g5 cap5 w1 hown' hgrow hat hlt5; have bn1 : Blk w1 n 26 _ := (rvY.b.alloc (.cells (jnV ⟨lenSum r.ps - x.at_, x.arms, x.arms + 1 - x.way⟩).toArray 88)).grown hgrow (own_ne_blk rvY.j rvY.b (by decide)); have n1 := bn1.frozen 2; have n2 := bn1.cell 2; have nl := bn1.lt)
              have hO5 : OwnL w1 W0.heap.size 88 3 jnV (.slice (some ⟨g5, 0, none⟩) (qs.length + 1) cap5) (qs ++ [⟨lenSum r.ps - x.at_, x.arms, x.arms + 1 - x.way⟩]) := OwnL.snoc hown' rfl
              have rvn := rvY.appJ hO5 hgrow
              go_wp2_with fail
              go_roundw
              case rel => exact ⟨k + 1, _, _, by have := HM.out; omega, by have := HM.out; omega, rfl, by rw [HC.out]; exact rvn⟩
              case measure => simp [intOf] <;> omega
            · obtain rfl : k = r.js.length := by omega
              obtain rfl : j = -1 := by omega
              rw [rev_done] at rv
              clear hj
              obtain ⟨VA, va, rfl⟩ := rv.p.form
              obtain ⟨VB, vb, rfl⟩ := rv.c.form
              obtain ⟨VC, vc, rfl⟩ := rv.j.form
              have hR : RvSt W0 Wq n (.slice VA (revR r).ps.length va) (.slice VB (revR r).cs.length vb) (.slice VC (revR r).js.length vc) (revR r).ps (revR r).cs (revR r).js := rv
              have HRR : Hid (revR r = revR r) := Lib.hid rfl
              obtain ⟨q, hq⟩ : ∃ q, q = revR r := ⟨_, rfl⟩
              have e0' : (r.ps.reverse.map revP).length = q.ps.length := by rw [hq]; rfl
              have e1' : (r.cs.reverse.map (revC (lenSum r.ps))).length = q.cs.length := by rw [hq]; rfl
              have e2' : (r.js.reverse.map (revJ (lenSum r.ps))).length = q.js.length := by rw [hq]; rfl
              rw [e0', e1', e2'] at rv
              rw [← hq] at hR
              have HQ := Lib.hid hq
              clear rv HRR hq e0' e1' e2'
              have rv := hR
              clear hR
              have hKq := hK0.below rv.bl hK0.lt
              have k0 := hKq.frozen 0
              have k1 := hKq.frozen 1
              have k2 := hKq.frozen 2
              have e0 := hKq.cell 0
              have e1 := hKq.cell 1
              have e2 := hKq.cell 2
              have kl := hKq.lt
              have m0 := rv.b.cell 0
              have m1 := rv.b.cell 1
              have m2 := rv.b.cell 2
              have ml := rv.b.lt
              have hKz := ((hKq.set_ 0 (.slice VA q.ps.length va)).set_ 1 (.slice VB q.cs.length vb)).set_ 2 (.slice VC q.js.length vc)
              have hBz : Below w.heap.size w (((Wq.setCell ⟨w.heap.size + 1, 0, none⟩ (.slice VA q.ps.length va)).setCell ⟨w.heap.size + 1, 1, none⟩ (.slice VB q.cs.length vb)).setCell ⟨w.heap.size + 1, 2, none⟩ (.slice VC q.js.length vc)) := ((hI.below.setCell (p := ⟨w.heap.size + 1, 0, none⟩) (by simp) _).setCell (p := ⟨w.heap.size + 1, 1, none⟩) (by simp) _).setCell (p := ⟨w.heap.size + 1, 2, none⟩) (by simp) _
              have hgz := World.grownBy.trans (World.grownBy.trans (grown_set Wq (w.heap.size + 1) 0 (.slice VA q.ps.length va)) (grown_set _ (w.heap.size + 1) 1 (.slice VB q.cs.length vb))) (grown_set _ (w.heap.size + 1) 2 (.slice VC q.js.length vc))
              have hRz : OwnR (((Wq.setCell ⟨w.heap.size + 1, 0, none⟩ (.slice VA q.ps.length va)).setCell ⟨w.heap.size + 1, 1, none⟩ (.slice VB q.cs.length vb)).setCell ⟨w.heap.size + 1, 2, none⟩ (.slice VC q.js.length vc)) w.heap.size (.slice VA q.ps.length va) (.slice VB q.cs.length vb) (.slice VC q.js.length vc) (q) :=
                OwnR.base_mono ⟨rv.p.other hgz (.inr (own_ne_blk rv.p hKq (by decide)).symm), rv.c.other hgz (.inr (own_ne_blk rv.c hKq (by decide)).symm), rv.j.other hgz (.inr (own_ne_blk rv.j hKq (by decide)).symm)⟩ hR0.below.size
              have r0 := hKz.cell 0
              have r1 := hKz.cell 1
              have r2 := hKz.cell 2
              have rl := hKz.lt
              go_wp2_with fail
              refine bodyPost_ret (v := .agg #[.slice VA q.ps.length va, .slice VB q.cs.length vb, .slice VC q.js.length vc]) ?_ rfl ⟨⟨_, _, _, rfl, by rw [← HQ.out]; exact hRz⟩, hBz⟩
              simp [results, Try.results42, go_sem, r0, r1, r2, rl]

end Go.Proofs.Ytbdjmaogbpdkpaa

import Derived.Test.YtbdjmaogbpdkpaaPartP
/-
  ref.Part, ref.Reverse.
-/
namespace Go.Proofs.Ytbdjmaogbpdkpaa
open Go Go.RowKit Go.Shelf
set_option linter.unusedVariables false
set_option linter.unusedSimpArgs false
attribute [local go_sem] Later.cell Later.cell1 Later.new1 Later.frozen Later.frozen1 max_ints min_ints

theorem RvSt.appP {W3 W w1 : World} {n : Nat} {v0 v1 v2 : Value} {ps : List Pc} {cs : List Cr} {js : List Jn} {x : Pc} {g2 cap2 : Nat} {tmp : Obj} (h : RvSt W3 W n v0 v1 v2 ps cs js) (hown : OwnL w1 W3.heap.size 52 5 pcV (.slice (some ⟨g2, 0, none⟩) (ps.length + 1) cap2) (ps ++ [x])) (hgrow : (W.alloc tmp).grownBy w1 v0.ownBlock) :
    RvSt W3 (w1.setCell ⟨n, 0, none⟩ (.slice (some ⟨g2, 0, none⟩) (ps.length + 1) cap2)) n (.slice (some ⟨g2, 0, none⟩) (ps.length + 1) cap2) v1 v2 (ps ++ [x]) cs js := by
  have b1 : Blk w1 n 26 #[v0, v1, v2] := (h.b.alloc tmp).grown hgrow (own_ne_blk h.p h.b (by decide))
  have c1 := (h.c.below (balloc W tmp)).other hgrow (h.c.ne h.p (by decide))
  have j1 := (h.j.below (balloc W tmp)).other hgrow (h.j.ne h.p (by decide))
  have gs := grown_set w1 n 0 (.slice (some ⟨g2, 0, none⟩) (ps.length + 1) cap2)
  have bb := (h.p.below (balloc W tmp)).grown_below (by have := h.bl.size; simp; omega) hgrow
  exact ⟨hown.other gs (.inr (own_ne_blk hown b1 (by decide)).symm), c1.other gs (.inr (own_ne_blk c1 b1 (by decide)).symm), j1.other gs (.inr (own_ne_blk j1 b1 (by decide)).symm), b1.set_ 0 _, h.nb, ((h.bl.trans ((balloc W tmp).mono h.bl.size)).trans bb).setCell (p := ⟨n, 0, none⟩) h.nb _⟩
theorem RvSt.new (W3 : World) (n : Nat) (hn : n = W3.heap.size) : RvSt W3 (W3.alloc (.cells #[.slice none 0 0, .slice none 0 0, .slice none 0 0] 26)) n (.slice none 0 0) (.slice none 0 0) (.slice none 0 0) [] [] [] :=
  ⟨OwnL.nil _ _ _ _ _, OwnL.nil _ _ _ _ _, OwnL.nil _ _ _ _ _, blk_at _ _ _ _ hn, by omega, balloc _ _⟩
theorem crs_atV {r : Road} (hv : Hid (validB r = true)) {k : Nat} {c : Cr} (hc : r.cs[k]? = some c) : 0 ≤ c.at_ ∧ c.at_ ≤ lenSum r.ps := ⟨(crs_at hv hc).1, (crs_at hv hc).2⟩
/-- What holds of a valid road in numbers. -/
structure VR (r : Road) : Prop where
  ok : okPs r
  lp : r.ps.length ≤ 2000
  lc : r.cs.length ≤ 1000
  lj : r.js.length ≤ 200
  ln : lenSum r.ps ≤ 100000
  lh : validB r = true
theorem VR.of {r : Road} (hv : validB r = true) : VR r := ⟨(validB_ok hv).1, (validB_ok hv).1.2, (validB_ok hv).2.2.2.1, (validB_ok hv).2.2.2.2.1, (validB_ok hv).2.2.1, hv⟩
theorem flat_cutC (f t : Int) (cs : List Cr) (k : Nat) (x : Cr) (h : cs[k]? = some x) : (cs.take (k + 1)).flatMap (cutC f t) = (cs.take k).flatMap (cutC f t) ++ cutC f t x := flat_take_succ _ _ _ _ h
theorem flat_cutJ (f t : Int) (cs : List Jn) (k : Nat) (x : Jn) (h : cs[k]? = some x) : (cs.take (k + 1)).flatMap (cutJ f t) = (cs.take k).flatMap (cutJ f t) ++ cutJ f t x := flat_take_succ _ _ _ _ h
theorem cutC_in {f t : Int} {c : Cr} (h : inB c.at_ f t = true) : cutC f t c = [{ c with at_ := c.at_ - f }] := if_pos h
theorem cutC_out {f t : Int} {c : Cr} (h : inB c.at_ f t = false) : cutC f t c = [] := if_neg (by simp [h])
theorem cutJ_in {f t : Int} {c : Jn} (h : inB c.at_ f t = true) : cutJ f t c = [{ c with at_ := c.at_ - f }] := if_pos h
theorem cutJ_out {f t : Int} {c : Jn} (h : inB c.at_ f t = false) : cutJ f t c = [] := if_neg (by simp [h])

set_option maxRecDepth 100000 in
set_option maxHeartbeats 8000000 in
theorem rpart_any (r : Road) (A B C : Option Addr) (a b c : Nat) (f t : Int) (w : World) (h : RdRoad w r A B C) (hv : validB r = true) (hf0 : 0 ≤ f) (hf1 : f ≤ 100000) (ht0 : 0 ≤ t) (ht1 : t ≤ 100000) :
    Calls Try.prog 44 #[.agg #[.slice A r.ps.length a, .slice B r.cs.length b, .slice C r.js.length c], .int .i64 f, .int .i64 t] w fun e w' => (∃ v0 v1 v2, e = .returned (.agg #[v0, v1, v2]) ∧ OwnR w' w.heap.size v0 v1 v2 (partR r f t)) ∧ Below w.heap.size w w' := by
  obtain ⟨i0, hi0, hz00, hz01, hz02⟩ := info_parts Try.info52
  obtain ⟨i1, hi1, hz10, hz11, hz12⟩ := info_parts Try.info86
  obtain ⟨i2, hi2, hz20, hz21, hz22⟩ := info_parts Try.info88
  have hV := VR.of hv
  have HV := Lib.hid hv
  clear hv
  have hlp := hV.lp
  have hlc := hV.lc
  have hlj := hV.lj
  have hln := hV.ln
  obtain ⟨W0, hW0⟩ : ∃ W0, W0 = (w.alloc (.cells #[.slice A r.ps.length a, .slice B r.cs.length b, .slice C r.js.length c] 26)).alloc (.cells #[.slice none 0 0, .slice none 0 0, .slice none 0 0] 26) := ⟨_, rfl⟩
  have hR0 : InR w W0 r A B C a b c := by rw [hW0]; exact (InR.new w r A B C a b c).step (balloc _ _)
  have hK0 : Blk W0 (w.heap.size + 1) 26 #[.slice none 0 0, .slice none 0 0, .slice none 0 0] := by rw [hW0]; exact blk_at _ _ _ _ (by simp)
  obtain ⟨n, hn⟩ : ∃ n, n = w.heap.size + 2 := ⟨_, rfl⟩
  have hs0 : n = W0.heap.size := by rw [hW0, hn]; simp
  have rv0 := RvSt.new W0 n hs0
  go_enter Try.func44, Try.ntmps44
  go_upto_region 3 with fail
  rw [← hW0, ← hn]
  obtain ⟨W1, hW1⟩ : ∃ X, X = W0.alloc (.cells #[.slice none 0 0, .slice none 0 0, .slice none 0 0] 26) := ⟨_, rfl⟩
  rw [← hW1] at rv0 ⊢
  have HS0 := Lib.hid hs0
  clear hW0 hW1 hs0 hn
  go_wp2_with fail
  go_loopw [8, 9] (fun s i W => ∃ (k : Nat) (v : Value), k ≤ r.ps.length ∧ i = .int .i64 k ∧ s = .int .i64 (lenSum (r.ps.take k)) ∧ RvSt W0 W n v (.slice none 0 0) (.slice none 0 0) (partL f t 0 (r.ps.take k)) [] []) (fun _ i _ => r.ps.length - (intOf i).toNat)
  case atStart => exact ⟨0, _, Nat.zero_le _, rfl, rfl, rv0⟩
  case round =>
    rename World => Wq
    clear rv0
    obtain ⟨k, v, hk, rfl, rfl, rv⟩ := hrel
    have hws := rv.bl.size
    have hI := hR0.step rv.bl
    have b0 := hI.box.2 0 _ rfl
    have b1 := hI.box.2 1 _ rfl
    have b2 := hI.box.2 2 _ rfl
    have bs := hI.box.1
    have hbg := hV.ok.beg k
    have hbg0 := hbg.1
    have hbg1 := hbg.2
    clear hbg
    by_cases hlt : k < r.ps.length
    · obtain ⟨p, hp⟩ := getElem?_ex hlt
      obtain ⟨xb, xo, rfl, hbb, c0, c1, c2, c3, c4⟩ := (hI.rd h).p.at5 hp
      have hpl := hV.ok.okLen p (List.mem_of_getElem? hp)
      have hpl0 := hpl.1
      have hpl1 := hpl.2
      clear hpl
      have HT := Lib.hid (lenSum_take_succ r.ps k p hp)
      have HC := Lib.hid (partL_succ f t r.ps k p hp)
      have hpn := partL_len f t (r.ps.take k) 0
      have htk := List.length_take_le k r.ps
      clear hp
      obtain ⟨s, hs⟩ : ∃ s, s = lenSum (r.ps.take k) := ⟨_, rfl⟩
      rw [← hs] at HT HC hbg0 hbg1 ⊢
      obtain ⟨qs, hqs⟩ : ∃ qs, qs = partL f t 0 (r.ps.take k) := ⟨_, rfl⟩
      rw [← hqs] at HC rv hpn
      have hqn : qs.length ≤ 2000 := by omega
      clear hs hqs hpn htk
      obtain ⟨U, uc, rfl⟩ := rv.p.form
      obtain ⟨bg, hbgd⟩ : ∃ bg, bg = max f s := ⟨_, rfl⟩
      obtain ⟨en, hend⟩ : ∃ en, en = min t (s + p.len) := ⟨_, rfl⟩
      have hb1 : 0 ≤ bg := by omega
      have hb2 : bg ≤ 20000000 := by omega
      have he1 : 0 ≤ en := by omega
      have he2 : en ≤ 20000000 := by omega
      have HBG := Lib.hid hbgd
      have HEN := Lib.hid hend
      have e5 : IntKind.i64.wrap (s + p.len) = s + p.len := IntWalk.i64_in _ (by omega)
      go_upto_region 7 with fail
      go_quiet (fail)
      rw [← hbgd, ← hend]
      clear hbgd hend e5
      have bX0 : Blk (Wq.alloc (.cells #[.int .i64 p.len, .int .i64 p.turn, .int .i64 p.rad, .int .i64 p.wid, .int .i64 p.sur] 52)) Wq.heap.size 52 #[.int .i64 p.len, .int .i64 p.turn, .int .i64 p.rad, .int .i64 p.wid, .int .i64 p.sur] := Blk.new _ _ _
      have hbX0 : Below Wq.heap.size Wq (Wq.alloc (.cells #[.int .i64 p.len, .int .i64 p.turn, .int .i64 p.rad, .int .i64 p.wid, .int .i64 p.sur] 52)) := balloc _ _
      obtain ⟨WX, hWX⟩ : ∃ X, X = (Wq.alloc (.cells #[.int .i64 p.len, .int .i64 p.turn, .int .i64 p.rad, .int .i64 p.wid, .int .i64 p.sur] 52)).drewN nq := ⟨_, rfl⟩
      rw [← hWX]
      have bX : Blk WX Wq.heap.size 52 #[.int .i64 p.len, .int .i64 p.turn, .int .i64 p.rad, .int .i64 p.wid, .int .i64 p.sur] := by rw [hWX]; exact bX0.drewN nq
      have hbX : Below Wq.heap.size Wq WX := by rw [hWX]; exact bdrewN hbX0 nq
      obtain ⟨NX, hNXe⟩ : ∃ X, X = Wq.heap.size := ⟨_, rfl⟩
      have hNX : Wq.heap.size ≤ NX := by omega
      rw [← hNXe] at bX ⊢
      clear hWX hNXe bX0 hbX0 c0 c1 c2 c3 c4
      have x0 := bX.cell 0
      have x1 := bX.cell 1
      have x2 := bX.cell 2
      have x3 := bX.cell 3
      have x4 := bX.cell 4
      have xl := bX.lt
      have xf := bX.frozen 0
      have m0 := (rv.below hbX).b.cell 0
      have mf := (rv.below hbX).b.frozen 0
      have ml := (rv.below hbX).b.lt
      go_upto_region 9 with fail
      by_cases hc : bg < en
      · have HCC : Hid (cutP f t s p = [⟨en - bg, p.turn, p.rad, p.wid, p.sur⟩]) := Lib.hid (by rw [cutP_in _ _ _ _ (by rw [← HBG.out, ← HEN.out]; exact hc), HBG.out, HEN.out])
        have e6 : IntKind.i64.wrap (en - bg) = en - bg := IntWalk.i64_in _ (by omega)
        go_upto_region 11 with fail
        have bY : Blk (WX.setCell ⟨NX, 0, none⟩ (.int .i64 (en - bg))) NX 52 #[.int .i64 (en - bg), .int .i64 p.turn, .int .i64 p.rad, .int .i64 p.wid, .int .i64 p.sur] := bX.set_ 0 _
        have hbY : Below Wq.heap.size Wq (WX.setCell ⟨NX, 0, none⟩ (.int .i64 (en - bg))) := hbX.setCell (p := ⟨NX, 0, none⟩) hNX _
        obtain ⟨WY, hWY⟩ : ∃ X, X = WX.setCell ⟨NX, 0, none⟩ (.int .i64 (en - bg)) := ⟨_, rfl⟩
        rw [← hWY] at bY hbY ⊢
        clear hWY e6 x0 x1 x2 x3 x4 xl xf m0 mf ml
        have rvY := rv.below hbY
        have hws2 := rvY.bl.size
        have x0 := bY.cell 0
        have x1 := bY.cell 1
        have x2 := bY.cell 2
        have x3 := bY.cell 3
        have x4 := bY.cell 4
        have xl := bY.lt
        have m0 := rvY.b.cell 0
        have mf := rvY.b.frozen 0
        have ml := rvY.b.lt
        have hO' : WY.ownsRow W0.heap.size 52 5 (.slice U qs.length uc) qs.length (qs.flatMap pcV) := rvY.p
        go_wp2_with (at_builtin; refine wpList_append_lies _ rfl _ _ 22 rfl W0.heap.size 52 i0 _ 5 40 Try.underlying22 hi0 hz00 hz01 hz02 rfl (by decide) (.slice U qs.length uc) qs.length (qs.flatMap pcV) rfl (World.ownsRow.alloc hO' _) ⟨WY.heap.size, 0, none⟩ 1 1 (pcV ⟨en - bg, p.turn, p.rad, p.wid, p.sur⟩) rfl rfl (cells_new _ (pcV ⟨en - bg, p.turn, p.rad, p.wid, p.sur⟩) _ _ (by simp)) (by simp [pcV, Value.oneCell']) (by decide) (by simp only [maxLen]; omega) (by omega) (by simp; omega) _ rfl ?_; intro g5 cap5 w1 hown' hgrow hat hlt5; have bn1 : Blk w1 n 26 _ := (rvY.b.alloc (.cells (pcV ⟨en - bg, p.turn, p.rad, p.wid, p.sur⟩).toArray 52)).grown hgrow (own_ne_blk rvY.p rvY.b (by decide)); have n1 := bn1.frozen 0; have n2 := bn1.cell 0; have nl := bn1.lt)
        have hO5 : OwnL w1 W0.heap.size 52 5 pcV (.slice (some ⟨g5, 0, none⟩) (qs.length + 1) cap5) (qs ++ [⟨en - bg, p.turn, p.rad, p.wid, p.sur⟩]) := OwnL.snoc hown' rfl
        have rvn := rvY.appP hO5 hgrow
        go_wp2_with fail
        go_roundw
        case rel => exact ⟨k + 1, _, by omega, by go_num, by rw [HT.out], by rw [HC.out, HCC.out]; exact rvn⟩
        case measure => simp [intOf]; omega
      · have HCC : Hid (cutP f t s p = []) := Lib.hid (cutP_out _ _ _ _ (by rw [← HBG.out, ← HEN.out]; exact hc))
        go_wp2_with fail
        go_roundw
        case rel => exact ⟨k + 1, _, by omega, by go_num, by rw [HT.out], by rw [HC.out, HCC.out, List.append_nil]; exact rv.below hbX⟩
        case measure => simp [intOf]; omega
    · obtain rfl : k = r.ps.length := by omega
      rw [List.take_length] at rv
      rw [List.take_length] at hbg0 hbg1 ⊢
      have rv1 := rv
      clear rv hbg0 hbg1 hI b0 b1 b2 bs hk hlt hws
      obtain ⟨ps0, hps0⟩ : ∃ x, x = partL f t 0 r.ps := ⟨_, rfl⟩
      have HPS := Lib.hid hps0
      rw [← hps0] at rv1
      clear hps0
      obtain ⟨v0, hv0⟩ : ∃ x, x = v := ⟨_, rfl⟩
      rw [← hv0] at rv1
      clear hv0
      have hI := hR0.step rv1.bl
      have b0 := hI.box.2 0 _ rfl
      have b1 := hI.box.2 1 _ rfl
      have b2 := hI.box.2 2 _ rfl
      have bs := hI.box.1
      go_wp2_with fail
      clear hI b0 b1 b2 bs
      go_loopw [13] (fun i W => ∃ (k : Nat) (v : Value), k ≤ r.cs.length ∧ i = .int .i64 k ∧ RvSt W0 W n v0 v (.slice none 0 0) ps0 ((r.cs.take k).flatMap (cutC f t)) []) (fun i _ => r.cs.length - (intOf i).toNat)
      case atStart => exact ⟨0, _, Nat.zero_le _, rfl, rv1⟩
      case round =>
        rename World => Wq
        obtain ⟨k, v, hk, rfl, rv⟩ := hrel
        have hws := rv.bl.size
        have hI := hR0.step rv.bl
        have b0 := hI.box.2 0 _ rfl
        have b1 := hI.box.2 1 _ rfl
        have b2 := hI.box.2 2 _ rfl
        have bs := hI.box.1
        by_cases hlt : k < r.cs.length
        · obtain ⟨x, hx⟩ := getElem?_ex hlt
          obtain ⟨xb, xo, rfl, hbb, c0, c1⟩ := (hI.rd h).c.at2 hx
          have hxo := crs_at HV hx
          have y1 := hxo.1
          have y2 := hxo.2
          clear hxo
          have HC := Lib.hid (flat_cutC f t r.cs k x hx)
          have hpn := cutC_len f t (r.cs.take k)
          have htk := List.length_take_le k r.cs
          clear hx
          obtain ⟨qs, hqs⟩ : ∃ qs, qs = (r.cs.take k).flatMap (cutC f t) := ⟨_, rfl⟩
          rw [← hqs] at HC rv hpn
          have hqn : qs.length ≤ 2000 := by omega
          clear hqs hpn htk
          obtain ⟨U, uc, rfl⟩ := rv.c.form
          have bX0 : Blk (Wq.alloc (.cells #[.int .i64 x.at_, .int .i64 x.size] 86)) Wq.heap.size 86 #[.int .i64 x.at_, .int .i64 x.size] := Blk.new _ _ _
          have hbX0 : Below Wq.heap.size Wq (Wq.alloc (.cells #[.int .i64 x.at_, .int .i64 x.size] 86)) := balloc _ _
          go_upto_region 16 with fail
          obtain ⟨WX, hWX⟩ : ∃ X, X = Wq.alloc (.cells #[.int .i64 x.at_, .int .i64 x.size] 86) := ⟨_, rfl⟩
          rw [← hWX] at bX0 hbX0 ⊢
          obtain ⟨NX, hNXe⟩ : ∃ X, X = Wq.heap.size := ⟨_, rfl⟩
          have hNX : Wq.heap.size ≤ NX := by omega
          rw [← hNXe] at bX0 ⊢
          clear hWX hNXe c0 c1
          have x0 := bX0.cell 0
          have x1 := bX0.cell 1
          have xl := bX0.lt
          have xf := bX0.frozen 0
          cases hin : inB x.at_ f t
          · have HCC : Hid (cutC f t x = []) := Lib.hid (cutC_out hin)
            go_wp2_with (go_at_call 50; refine (in_any _ _ _ _).mono ?_; rintro e w' ⟨rfl, rfl⟩)
            go_roundw
            case rel => exact ⟨k + 1, _, by omega, by go_num, by rw [HC.out, HCC.out, List.append_nil]; exact rv.below hbX0⟩
            case measure => simp [intOf]; omega
          · have HCC : Hid (cutC f t x = [⟨x.at_ - f, x.size⟩]) := Lib.hid (cutC_in hin)
            have e6 : IntKind.i64.wrap (x.at_ - f) = x.at_ - f := IntWalk.i64_in _ (by omega)
            go_upto_region 18 with (go_at_call 50; refine (in_any _ _ _ _).mono ?_; rintro e w' ⟨rfl, rfl⟩)
            have bY : Blk (WX.setCell ⟨NX, 0, none⟩ (.int .i64 (x.at_ - f))) NX 86 #[.int .i64 (x.at_ - f), .int .i64 x.size] := bX0.set_ 0 _
            have hbY : Below Wq.heap.size Wq (WX.setCell ⟨NX, 0, none⟩ (.int .i64 (x.at_ - f))) := hbX0.setCell (p := ⟨NX, 0, none⟩) hNX _
            obtain ⟨WY, hWY⟩ : ∃ X, X = WX.setCell ⟨NX, 0, none⟩ (.int .i64 (x.at_ - f)) := ⟨_, rfl⟩
            rw [← hWY] at bY hbY ⊢
            clear hWY e6 x0 x1 xl xf
            have rvY := rv.below hbY
            have hws2 := rvY.bl.size
            have x0 := bY.cell 0
            have x1 := bY.cell 1
            have xl := bY.lt
            have m0 := rvY.b.cell 1
            have mf := rvY.b.frozen 1
            have ml := rvY.b.lt
            have hO' : WY.ownsRow W0.heap.size 86 2 (.slice U qs.length uc) qs.length (qs.flatMap crV) := rvY.c
            go_wp2_with (at_builtin; refine wpList_append_lies _ rfl _ _ 23 rfl W0.heap.size 86 i1 _ 2 16 Try.underlying23 hi1 hz10 hz11 hz12 rfl (by decide) (.slice U qs.length uc) qs.length (qs.flatMap crV) rfl (World.ownsRow.alloc hO' _) ⟨WY.heap.size, 0, none⟩ 1 1 (crV ⟨x.at_ - f, x.size⟩) rfl rfl (cells_new _ (crV ⟨x.at_ - f, x.size⟩) _ _ (by simp)) (by simp [crV, Value.oneCell']) (by decide) (by simp only [maxLen]; omega) (by omega) (by simp; omega) _ rfl ?_; intro g5 cap5 w1 hown' hgrow hat hlt5; have bn1 : Blk w1 n 26 _ := (rvY.b.alloc (.cells (crV ⟨x.at_ - f, x.size⟩).toArray 86)).grown hgrow (own_ne_blk rvY.c rvY.b (by decide)); have n1 := bn1.frozen 1; have n2 := bn1.cell 1; have nl := bn1.lt)
            have hO5 : OwnL w1 W0.heap.size 86 2 crV (.slice (some ⟨g5, 0, none⟩) (qs.length + 1) cap5) (qs ++ [⟨x.at_ - f, x.size⟩]) := OwnL.snoc hown' rfl
            have rvn := rvY.appC hO5 hgrow
            go_wp2_with fail
            go_roundw
            case rel => exact ⟨k + 1, _, by omega, by go_num, by rw [HC.out, HCC.out]; exact rvn⟩
            case measure => simp [intOf]; omega
        · obtain rfl : k = r.cs.length := by omega
          rw [List.take_length] at rv
          have hI2 := hI
          clear hk hlt hws
          obtain ⟨cs0, hcs0⟩ : ∃ x, x = r.cs.flatMap (cutC f t) := ⟨_, rfl⟩
          have HCS := Lib.hid hcs0
          rw [← hcs0] at rv
          clear hcs0
          obtain ⟨v1, hv1⟩ : ∃ x, x = v := ⟨_, rfl⟩
          rw [← hv1] at rv
          clear hv1
          have rv2 := rv
          clear rv rv1
          go_wp2_with fail
          clear hI hI2 b0 b1 b2 bs
          go_loopw [15] (fun i W => ∃ (k : Nat) (v : Value), k ≤ r.js.length ∧ i = .int .i64 k ∧ RvSt W0 W n v0 v1 v ps0 cs0 ((r.js.take k).flatMap (cutJ f t))) (fun i _ => r.js.length - (intOf i).toNat)
          case atStart => exact ⟨0, _, Nat.zero_le _, rfl, rv2⟩
          case round =>
            rename World => Wq
            obtain ⟨k, v, hk, rfl, rv⟩ := hrel
            have hws := rv.bl.size
            have hI := hR0.step rv.bl
            have b0 := hI.box.2 0 _ rfl
            have b1 := hI.box.2 1 _ rfl
            have b2 := hI.box.2 2 _ rfl
            have bs := hI.box.1
            by_cases hlt : k < r.js.length
            · obtain ⟨x, hx⟩ := getElem?_ex hlt
              obtain ⟨xb, xo, rfl, hbb, c0, c1, c2⟩ := (hI.rd h).j.at3 hx
              have hxo := jns_at HV hx
              have y1 := hxo.1
              have y2 := hxo.2.1
              clear hxo
              have HC := Lib.hid (flat_cutJ f t r.js k x hx)
              have hpn := cutJ_len f t (r.js.take k)
              have htk := List.length_take_le k r.js
              clear hx
              obtain ⟨qs, hqs⟩ : ∃ qs, qs = (r.js.take k).flatMap (cutJ f t) := ⟨_, rfl⟩
              rw [← hqs] at HC rv hpn
              have hqn : qs.length ≤ 2000 := by omega
              clear hqs hpn htk
              obtain ⟨U, uc, rfl⟩ := rv.j.form
              have bX0 : Blk (Wq.alloc (.cells #[.int .i64 x.at_, .int .i64 x.arms, .int .i64 x.way] 88)) Wq.heap.size 88 #[.int .i64 x.at_, .int .i64 x.arms, .int .i64 x.way] := Blk.new _ _ _
              have hbX0 : Below Wq.heap.size Wq (Wq.alloc (.cells #[.int .i64 x.at_, .int .i64 x.arms, .int .i64 x.way] 88)) := balloc _ _
              go_upto_region 23 with fail
              obtain ⟨WX, hWX⟩ : ∃ X, X = Wq.alloc (.cells #[.int .i64 x.at_, .int .i64 x.arms, .int .i64 x.way] 88) := ⟨_, rfl⟩
              rw [← hWX] at bX0 hbX0 ⊢
              obtain ⟨NX, hNXe⟩ : ∃ X, X = Wq.heap.size := ⟨_, rfl⟩
              have hNX : Wq.heap.size ≤ NX := by omega
              rw [← hNXe] at bX0 ⊢
              clear hWX hNXe c0 c1 c2
              have x0 := bX0.cell 0
              have x1 := bX0.cell 1
              have x2 := bX0.cell 2
              have xl := bX0.lt
              have xf := bX0.frozen 0
              cases hin : inB x.at_ f t
              · have HCC : Hid (cutJ f t x = []) := Lib.hid (cutJ_out hin)
                go_wp2_with (go_at_call 50; refine (in_any _ _ _ _).mono ?_; rintro e w' ⟨rfl, rfl⟩)
                go_roundw
                case rel => exact ⟨k + 1, _, by omega, by go_num, by rw [HC.out, HCC.out, List.append_nil]; exact rv.below hbX0⟩
                case measure => simp [intOf]; omega
              · have HCC : Hid (cutJ f t x = [⟨x.at_ - f, x.arms, x.way⟩]) := Lib.hid (cutJ_in hin)
                have e6 : IntKind.i64.wrap (x.at_ - f) = x.at_ - f := IntWalk.i64_in _ (by omega)
                go_upto_region 25 with (go_at_call 50; refine (in_any _ _ _ _).mono ?_; rintro e w' ⟨rfl, rfl⟩)
                have bY : Blk (WX.setCell ⟨NX, 0, none⟩ (.int .i64 (x.at_ - f))) NX 88 #[.int .i64 (x.at_ - f), .int .i64 x.arms, .int .i64 x.way] := bX0.set_ 0 _
                have hbY : Below Wq.heap.size Wq (WX.setCell ⟨NX, 0, none⟩ (.int .i64 (x.at_ - f))) := hbX0.setCell (p := ⟨NX, 0, none⟩) hNX _
                obtain ⟨WY, hWY⟩ : ∃ X, X = WX.setCell ⟨NX, 0, none⟩ (.int .i64 (x.at_ - f)) := ⟨_, rfl⟩
                rw [← hWY] at bY hbY ⊢
                clear hWY e6 x0 x1 x2 xl xf
                have rvY := rv.below hbY
                have hws2 := rvY.bl.size
                have x0 := bY.cell 0
                have x1 := bY.cell 1
                have x2 := bY.cell 2
                have xl := bY.lt
                have m0 := rvY.b.cell 2
                have mf := rvY.b.frozen 2
                have ml := rvY.b.lt
                have hO' : WY.ownsRow W0.heap.size 88 3 (.slice U qs.length uc) qs.length (qs.flatMap jnV) := rvY.j
                go_wp2_with (at_builtin; refine wpList_append_lies _ rfl _ _ 24 rfl W0.heap.size 88 i2 _ 3 24 Try.underlying24 hi2 hz20 hz21 hz22 rfl (by decide) (.slice U qs.length uc) qs.length (qs.flatMap jnV) rfl (World.ownsRow.alloc hO' _) ⟨WY.heap.size, 0, none⟩ 1 1 (jnV ⟨x.at_ - f, x.arms, x.way⟩) rfl rfl (cells_new _ (jnV ⟨x.at_ - f, x.arms, x.way⟩) _ _ (by simp)) (by simp [jnV, Value.oneCell']) (by decide) (by simp only [maxLen]; omega) (by omega) (by simp; omega) _ rfl ?_; intro g5 cap5 w1 hown' hgrow hat hlt5; have bn1 : Blk w1 n 26 _ := (rvY.b.alloc (.cells (jnV ⟨x.at_ - f, x.arms, x.way⟩).toArray 88)).grown hgrow (own_ne_blk rvY.j rvY.b (by decide)); have n1 := bn1.frozen 2; have n2 := bn1.cell 2; have nl := bn1.lt)
                have hO5 : OwnL w1 W0.heap.size 88 3 jnV (.slice (some ⟨g5, 0, none⟩) (qs.length + 1) cap5) (qs ++ [⟨x.at_ - f, x.arms, x.way⟩]) := OwnL.snoc hown' rfl
                have rvn := rvY.appJ hO5 hgrow
                go_wp2_with fail
                go_roundw
                case rel => exact ⟨k + 1, _, by omega, by go_num, by rw [HC.out, HCC.out]; exact rvn⟩
                case measure => simp [intOf]; omega
            · obtain rfl : k = r.js.length := by omega
              rw [List.take_length] at rv
              obtain ⟨VA, va, rfl⟩ := rv.p.form
              obtain ⟨VB, vb, rfl⟩ := rv.c.form
              obtain ⟨VC, vc, rfl⟩ := rv.j.form
              have HR : Hid (partR r f t = ⟨ps0, cs0, r.js.flatMap (cutJ f t)⟩) := Lib.hid (by rw [HPS.out, HCS.out]; rfl)
              obtain ⟨js0, hjs0⟩ : ∃ x, x = r.js.flatMap (cutJ f t) := ⟨_, rfl⟩
              rw [← hjs0] at rv HR
              clear hjs0
              have hKq := hK0.below rv.bl hK0.lt
              have k0 := hKq.frozen 0
              have k1 := hKq.frozen 1
              have k2 := hKq.frozen 2
              have e0 := hKq.cell 0
              have e1 := hKq.cell 1
              have e2 := hKq.cell 2
              have kl := hKq.lt
              have m0 := rv.b.cell 0
              have m1 := rv.b.cell 1
              have m2 := rv.b.cell 2
              have ml := rv.b.lt
              have hKz := ((hKq.set_ 0 (.slice VA ps0.length va)).set_ 1 (.slice VB cs0.length vb)).set_ 2 (.slice VC js0.length vc)
              have hBz : Below w.heap.size w (((Wq.setCell ⟨w.heap.size + 1, 0, none⟩ (.slice VA ps0.length va)).setCell ⟨w.heap.size + 1, 1, none⟩ (.slice VB cs0.length vb)).setCell ⟨w.heap.size + 1, 2, none⟩ (.slice VC js0.length vc)) := ((hI.below.setCell (p := ⟨w.heap.size + 1, 0, none⟩) (by simp) _).setCell (p := ⟨w.heap.size + 1, 1, none⟩) (by simp) _).setCell (p := ⟨w.heap.size + 1, 2, none⟩) (by simp) _
              have hgz := World.grownBy.trans (World.grownBy.trans (grown_set Wq (w.heap.size + 1) 0 (.slice VA ps0.length va)) (grown_set _ (w.heap.size + 1) 1 (.slice VB cs0.length vb))) (grown_set _ (w.heap.size + 1) 2 (.slice VC js0.length vc))
              have hRz : OwnR (((Wq.setCell ⟨w.heap.size + 1, 0, none⟩ (.slice VA ps0.length va)).setCell ⟨w.heap.size + 1, 1, none⟩ (.slice VB cs0.length vb)).setCell ⟨w.heap.size + 1, 2, none⟩ (.slice VC js0.length vc)) w.heap.size (.slice VA ps0.length va) (.slice VB cs0.length vb) (.slice VC js0.length vc) (⟨ps0, cs0, js0⟩) :=
                OwnR.base_mono ⟨rv.p.other hgz (.inr (own_ne_blk rv.p hKq (by decide)).symm), rv.c.other hgz (.inr (own_ne_blk rv.c hKq (by decide)).symm), rv.j.other hgz (.inr (own_ne_blk rv.j hKq (by decide)).symm)⟩ hR0.below.size
              have r0 := hKz.cell 0
              have r1 := hKz.cell 1
              have r2 := hKz.cell 2
              have rl := hKz.lt
              go_wp2_with fail
              refine bodyPost_ret (v := .agg #[.slice VA ps0.length va, .slice VB cs0.length vb, .slice VC js0.length vc]) ?_ rfl ⟨⟨_, _, _, rfl, by rw [HR.out]; exact hRz⟩, hBz⟩
              simp [results, Try.results44, go_sem, r0, r1, r2, rl]

end Go.Proofs.Ytbdjmaogbpdkpaa

import Derived.Test.YtbdjmaogbpdkpaaRPart
/-
  ref.Join, ref.fits.
-/
namespace Go.Proofs.Ytbdjmaogbpdkpaa
open Go Go.RowKit Go.Shelf
set_option linter.unusedVariables false
set_option linter.unusedSimpArgs false
attribute [local go_sem] Later.cell Later.cell1 Later.new1 Later.frozen Later.frozen1 max_ints min_ints

theorem RvSt.newP {W3 W w1 : World} {n : Nat} {v0 v0' v1 v2 : Value} {ps ps' : List Pc} {cs : List Cr} {js : List Jn} (h : RvSt W3 W n v0 v1 v2 ps cs js) (hown : OwnL w1 W3.heap.size 52 5 pcV v0' ps') (hgrow : W.grownBy w1 v0.ownBlock) :
    RvSt W3 (w1.setCell ⟨n, 0, none⟩ v0') n v0' v1 v2 ps' cs js := by
  have b1 : Blk w1 n 26 #[v0, v1, v2] := h.b.grown hgrow (own_ne_blk h.p h.b (by decide))
  have c1 := h.c.other hgrow (h.c.ne h.p (by decide))
  have j1 := h.j.other hgrow (h.j.ne h.p (by decide))
  have gs := grown_set w1 n 0 v0'
  have bb := h.p.grown_below h.bl.size hgrow
  exact ⟨hown.other gs (.inr (own_ne_blk hown b1 (by decide)).symm), c1.other gs (.inr (own_ne_blk c1 b1 (by decide)).symm), j1.other gs (.inr (own_ne_blk j1 b1 (by decide)).symm), b1.set_ 0 _, h.nb, (h.bl.trans bb).setCell (p := ⟨n, 0, none⟩) h.nb _⟩
/-- A road by value that the call has made. -/
def OwnRV (base : Nat) (r : Road) (v : Value) (W : World) : Prop := ∃ v0 v1 v2, v = .agg #[v0, v1, v2] ∧ OwnR W base v0 v1 v2 r
theorem stays_ownrv (base : Nat) (r : Road) (v : Value) : Stays (OwnRV base r v) := fun w w' ⟨v0, v1, v2, e, h⟩ hb => ⟨v0, v1, v2, e, h.below hb⟩
def IsV3 (x v : Value) (_ : World) : Prop := v = x
theorem stays_isv3 (x v : Value) : Stays (IsV3 x v) := fun _ _ h _ => h

set_option maxRecDepth 100000 in
set_option maxHeartbeats 4000000 in
theorem rfits_any (r : Road) (A B C : Option Addr) (a b c : Nat) (w : World) (h : RdRoad w r A B C) (hl : lensOk r.ps 100000) (hn : r.ps.length ≤ 100000) (hcn : r.cs.length ≤ 100000) (hjn : r.js.length ≤ 100000) :
    Calls Try.prog 74 #[.agg #[.slice A r.ps.length a, .slice B r.cs.length b, .slice C r.js.length c]] w fun e w' => e = .returned (.bool (fitsR r)) ∧ Below w.heap.size w w' := by
  have hR0 : InR w (w.alloc (.cells #[.slice A r.ps.length a, .slice B r.cs.length b, .slice C r.js.length c] 26)) r A B C a b c := InR.new w r A B C a b c
  by_cases f0 : r.ps.length ≤ 2000
  case neg =>
    go_enter Try.func74, Try.ntmps74
    go_wp2
    go_ret
    exact ⟨by simp [fitsR, f0], balloc _ _⟩
  by_cases f1 : r.cs.length ≤ 1000
  case neg =>
    go_enter Try.func74, Try.ntmps74
    go_wp2
    go_ret
    exact ⟨by simp [fitsR, f1], balloc _ _⟩
  by_cases f2 : r.js.length ≤ 200
  case neg =>
    go_enter Try.func74, Try.ntmps74
    go_wp2
    go_ret
    exact ⟨by simp [fitsR, f2], balloc _ _⟩
  have hb0 := (lenSum_bd r.ps 100000 hl).1
  have hb1 : lenSum r.ps ≤ 10000000000 := by have := (lenSum_bd r.ps 100000 hl).2; omega
  by_cases f3 : lenSum r.ps ≤ 100000
  · have HF : Hid (fitsR r = true) := Lib.hid (by simp [fitsR, f0, f1, f2, f3])
    rw [HF.out]
    go_enter Try.func74, Try.ntmps74
    go_wp2_with (go_at_call 21; refine (rlength_any r A B C a b c _ (hR0.rd h) hl hn).mono ?_; rintro e W2 ⟨rfl, hb2⟩)
    go_ret
    exact ⟨rfl, bthen (balloc _ _) hb2⟩
  · have HF : Hid (fitsR r = false) := Lib.hid (by simp [fitsR, f0, f1, f2, f3])
    rw [HF.out]
    go_enter Try.func74, Try.ntmps74
    go_wp2_with (go_at_call 21; refine (rlength_any r A B C a b c _ (hR0.rd h) hl hn).mono ?_; rintro e W2 ⟨rfl, hb2⟩)
    go_ret
    exact ⟨by simp [f3], bthen (balloc _ _) hb2⟩

set_option maxRecDepth 100000 in
set_option maxHeartbeats 16000000 in
theorem rjoin_any (r q : Road) (A B C A' B' C' : Option Addr) (a b c a' b' c' : Nat) (w : World) (h : RdRoad w r A B C) (h' : RdRoad w q A' B' C') (hv : validB r = true) (hv' : validB q = true) :
    Calls Try.prog 41 #[.agg #[.slice A r.ps.length a, .slice B r.cs.length b, .slice C r.js.length c], .agg #[.slice A' q.ps.length a', .slice B' q.cs.length b', .slice C' q.js.length c']] w fun e w' => (∃ v0 v1 v2, e = .returned (.tuple #[.agg #[v0, v1, v2], .bool (fitsR (joinR r q))]) ∧ OwnR w' w.heap.size v0 v1 v2 (joinR r q)) ∧ Below w.heap.size w w' := by
  obtain ⟨i0, hi0, hz00, hz01, hz02⟩ := info_parts Try.info52
  obtain ⟨i1, hi1, hz10, hz11, hz12⟩ := info_parts Try.info86
  obtain ⟨i2, hi2, hz20, hz21, hz22⟩ := info_parts Try.info88
  have hVr := VR.of hv
  have hVq := VR.of hv'
  have hok := hVr.ok
  have hokq := hVq.ok
  have hlen := hVr.lp
  have hcl := hVr.lc
  have hjl := hVr.lj
  have hlen' := hVq.lp
  have hcl' := hVq.lc
  have hjl' := hVq.lj
  have hln := (hok.beg r.ps.length).1
  have hln2 := hVr.ln
  rw [List.take_length] at hln
  have hlq := hVq.ln
  have HPW := Lib.hid (partR_whole r hv)
  have HLB : Hid (lensOk r.ps 100000) := Lib.hid (fun p hp => ⟨(hok.lens p hp).1, by have := (hok.lens p hp).2; omega⟩)
  have HV := Lib.hid hv
  have HV' := Lib.hid hv'
  clear hv hv'
  obtain ⟨W4, hW0⟩ : ∃ W4, W4 = ((w.alloc (.cells #[.slice A r.ps.length a, .slice B r.cs.length b, .slice C r.js.length c] 26)).alloc (.cells #[.slice A' q.ps.length a', .slice B' q.cs.length b', .slice C' q.js.length c'] 26)).alloc (.cells #[.slice none 0 0, .slice none 0 0, .slice none 0 0] 26) := ⟨_, rfl⟩
  have hI4 : InR w W4 r A B C a b c := by rw [hW0]; exact ((InR.new w r A B C a b c).step (balloc _ _)).step (balloc _ _)
  have hJ4 : Blk W4 (w.heap.size + 1) 26 #[.slice A' q.ps.length a', .slice B' q.cs.length b', .slice C' q.js.length c'] := by rw [hW0]; exact (blk_at _ _ _ _ (by simp)).alloc _
  have hK4 : Blk W4 (w.heap.size + 2) 26 #[.slice none 0 0, .slice none 0 0, .slice none 0 0] := by rw [hW0]; exact blk_at _ _ _ _ (by simp)
  have hq4 := h'.below hI4.below
  go_enter Try.func41, Try.ntmps41
  have b0 := hI4.box.2 0 _ rfl
  have b1 := hI4.box.2 1 _ rfl
  have b2 := hI4.box.2 2 _ rfl
  go_upto_region 1 with fail
  rw [← hW0]
  clear hW0
  have hrd := hI4.rd h
  have bs := hI4.box.1
  refine Mk3.wp_region_mk_tail 5 (fun j => match j with | 2 => some (IsV3 (.int .i64 (lenSum r.ps))) | 3 => some (OwnRV W4.heap.size r) | 4 => some (NewBlk W4.heap.size 26 #[.slice none 0 0, .slice none 0 0, .slice none 0 0]) | _ => none) (fun j => match j with | _ => []) (by kernel_rfl) (by kernel_rfl) (by kernel_rfl) ?hmk ?_
  case hmk =>
    intro j S hS v
    split at hS <;> first | (injection hS with hS; subst hS; first | exact stays_isv3 _ _ | exact stays_ownrv _ _ _ | exact stays_blk _ _ _ _) | cases hS
  simp only [List.take_succ_cons, List.take_zero, List.drop_succ_cons, List.drop_zero]
  refine Mk3.wpM_reads [_, _] (_ :: _) _ _ _ (by kernel_rfl) (by intro j hj; rcases (show j = 0 ∨ j = 1 by simp at hj; omega) with rfl | rfl <;> exact ⟨rfl, rfl⟩) ?_
  repeat (go_big_quiet_step (fail))
  refine wpQuiet_nil ?_
  refine Mk3.wpM_make rfl rfl rfl ?_ ?_
  · intro x hx _
    unfold Mk2.makesAt
    go_simp
    exact (rlength_any r A B C a b c x (hrd.below hx) HLB.out (by omega)).mono fun e w' ⟨he, hb⟩ => ⟨_, he, rfl, (fun _ e => by cases e), hb⟩
  rintro v ⟨_, x, hx, ⟨_, hv, _⟩, _⟩
  obtain rfl : v = _ := hv
  go_simp
  refine Mk3.wpM_make rfl rfl rfl ?_ ?_
  · intro x hx _
    unfold Mk2.makesAt
    go_simp
    exact (rpart_any r A B C a b c 0 (lenSum r.ps) x (hrd.below hx) HV.out (by omega) (by omega) (by omega) (by omega)).mono fun e w' ⟨⟨v0, v1, v2, he, hO⟩, hb⟩ => ⟨_, he, ⟨v0, v1, v2, rfl, by rw [HPW.out] at hO; exact hO.base_mono hx.size⟩, (fun _ e => by cases e), hb⟩
  rintro v ⟨_, x, hx, ⟨_, ⟨v0, v1, v2, rfl, _⟩, _⟩, _⟩
  go_simp
  refine Mk3.wpM_make rfl rfl rfl ?_ ?_
  · intro x hx _
    unfold Mk2.makesAt
    go_simp
    exact ⟨⟨_, rfl, hx.size, Blk.new _ _ _⟩, (fun q e => by injection e with e; injection e with e; subst e; exact ⟨Nat.le_refl _, by simp⟩), balloc _ _⟩
  rintro v ⟨_, x, hx', ⟨_, ⟨n, rfl, hn, _⟩, _⟩, _⟩
  go_simp
  refine Mk3.wpM_nil ?_
  rintro W5 hb5 ⟨⟨⟨_, _, _⟩, ⟨v0', v1', v2', ev, hOR⟩, _⟩, ⟨n', e', hn', hk'⟩, _⟩
  injection e' with e'
  injection e' with e'
  injection e' with e'
  subst e'
  simp only [Value.agg.injEq, Array.mk.injEq, List.cons.injEq, and_true] at ev
  obtain ⟨rfl, rfl, rfl⟩ := ev
  obtain ⟨V0, V1, V2, v0, v1, v2, rfl, rfl, rfl⟩ := hOR.formR
  clear b0 b1 b2 bs hx' hn
  have k0 := hk'.frozen 0
  have k1 := hk'.frozen 1
  have k2 := hk'.frozen 2
  have m0 := hk'.cell 0
  have m1 := hk'.cell 1
  have m2 := hk'.cell 2
  have kl := hk'.lt
  have rvA : RvSt W4 (((W5.setCell ⟨n, 0, none⟩ (.slice V0 r.ps.length v0)).setCell ⟨n, 1, none⟩ (.slice V1 r.cs.length v1)).setCell ⟨n, 2, none⟩ (.slice V2 r.js.length v2)) n (.slice V0 r.ps.length v0) (.slice V1 r.cs.length v1) (.slice V2 r.js.length v2) r.ps r.cs r.js := by
    have hg := World.grownBy.trans (World.grownBy.trans (grown_set W5 n 0 (.slice V0 r.ps.length v0)) (grown_set _ n 1 (.slice V1 r.cs.length v1))) (grown_set _ n 2 (.slice V2 r.js.length v2))
    exact ⟨hOR.p.other hg (.inr (own_ne_blk hOR.p hk' (by decide)).symm), hOR.c.other hg (.inr (own_ne_blk hOR.c hk' (by decide)).symm), hOR.j.other hg (.inr (own_ne_blk hOR.j hk' (by decide)).symm), ((hk'.set_ 0 _).set_ 1 _).set_ 2 _, hn',
      ((hb5.setCell (p := ⟨n, 0, none⟩) hn' _).setCell (p := ⟨n, 1, none⟩) hn' _).setCell (p := ⟨n, 2, none⟩) hn' _⟩
  go_upto_region 2 with fail
  obtain ⟨W6, hW6⟩ : ∃ X, X = ((W5.setCell ⟨n, 0, none⟩ (.slice V0 r.ps.length v0)).setCell ⟨n, 1, none⟩ (.slice V1 r.cs.length v1)).setCell ⟨n, 2, none⟩ (.slice V2 r.js.length v2) := ⟨_, rfl⟩
  rw [← hW6] at rvA ⊢
  clear hW6 k0 k1 k2 m0 m1 m2 kl hOR hk' hb5
  have hI6 := hI4.step2 (rvA.bl.mono (Nat.le_of_lt_succ (by have := hI4.box.1; omega)))
  have b0 := hI6.box.2 0 _ rfl
  have b1 := hI6.box.2 1 _ rfl
  have b2 := hI6.box.2 2 _ rfl
  have bs := hI6.box.1
  go_upto_region 3 with (go_at_call 21; refine (rlength_any r A B C a b c _ (hI6.rd h) HLB.out (by omega)).mono ?_; rintro e W7 ⟨rfl, hb7⟩)
  have rv1 := rvA.below hb7
  clear rvA
  clear b0 b1 b2 bs hI6 hb7
  have hJ7 := hJ4.below rv1.bl hJ4.lt
  have e0 := hJ7.cell 0
  have e1 := hJ7.cell 1
  have e2 := hJ7.cell 2
  have es := hJ7.lt
  have m0 := rv1.b.cell 0
  have m1 := rv1.b.cell 1
  have m2 := rv1.b.cell 2
  have mf := rv1.b.frozen 0
  have ml := rv1.b.lt
  have hbs7 := rv1.bl.size
  have hq7 := hq4.below rv1.bl
  go_wp2_with (at_builtin; refine wpList_app rfl _ _ 22 52 i0 _ 5 40 pcV rfl Try.underlying22 hi0 hz00 hz01 hz02 rfl (by decide) pcV_len r.ps q.ps (pcV_one q.ps) (by omega) (by decide) A' a' _ W4.heap.size rfl rfl hbs7 rv1.p hq7.p ?_; intro v' w1 hO3 hg3; obtain ⟨VN, vn, rfl⟩ := hO3.form; have bn1 : Blk w1 n 26 _ := rv1.b.grown hg3 (own_ne_blk rv1.p rv1.b (by decide)); have n1 := bn1.frozen 0; have n2 := bn1.cell 0; have nl := bn1.lt)
  have rv0 := rv1.newP hO3 hg3
  rw [List.length_append] at rv0
  obtain ⟨W8, hW8⟩ : ∃ X, X = w1.setCell ⟨n, 0, none⟩ (.slice VN (r.ps.length + q.ps.length) vn) := ⟨_, rfl⟩
  rw [← hW8] at rv0 ⊢
  clear hW8 hO3 hg3 bn1 n1 n2 nl m0 m1 m2 mf ml e0 e1 e2 es hq7 hJ7 rv1 hbs7
  go_loopw [8] (fun i W => ∃ (k : Nat) (u1 : Value), k ≤ q.cs.length ∧ i = .int .i64 k ∧ RvSt W4 W n (.slice VN (r.ps.length + q.ps.length) vn) u1 (.slice V2 r.js.length v2) (r.ps ++ q.ps) (joinC (lenSum r.ps) r.cs (q.cs.take k)) r.js ∧ (joinC (lenSum r.ps) r.cs (q.cs.take k)).length ≤ r.cs.length + k) (fun i _ => q.cs.length - (intOf i).toNat)
  case atStart => exact ⟨0, _, Nat.zero_le _, rfl, rv0, by simp [joinC]⟩
  case round =>
    rename World => Wq
    obtain ⟨k, u1, hk, rfl, rv, hlc⟩ := hrel
    have hws := rv.bl.size
    have hJq := hJ4.below rv.bl hJ4.lt
    have e0 := hJq.cell 0
    have e1 := hJq.cell 1
    have e2 := hJq.cell 2
    have es := hJq.lt
    by_cases hlt : k < q.cs.length
    · obtain ⟨x, hx⟩ := getElem?_ex hlt
      have hxo := crs_at HV' hx
      have x1 := hxo.1
      have x2 := hxo.2
      have e5 : IntKind.i64.wrap (x.at_ + lenSum r.ps) = x.at_ + lenSum r.ps := IntWalk.i64_in _ (by omega)
      have HJ := Lib.hid (joinC_succ (lenSum r.ps) r.cs q.cs k x hx)
      obtain ⟨xb, xo, rfl, hbb, c0, c1⟩ := (hq4.c.below rv.bl).at2 hx
      clear hx hxo
      obtain ⟨cs, hcs⟩ : ∃ cs, cs = joinC (lenSum r.ps) r.cs (q.cs.take k) := ⟨_, rfl⟩
      rw [← hcs] at rv hlc HJ
      clear hcs
      obtain ⟨U1, c1', rfl⟩ := rv.c.form
      have m0 := rv.b.cell 0
      have m1 := rv.b.cell 1
      have m2 := rv.b.cell 2
      have mf := rv.b.frozen 1
      have ml := rv.b.lt
      have bX : Blk (Wq.alloc (.cells #[.int .i64 (x.at_ + lenSum r.ps), .int .i64 x.size] 86)) Wq.heap.size 86 #[.int .i64 (x.at_ + lenSum r.ps), .int .i64 x.size] := Blk.new _ _ _
      have rvX := rv.below (balloc Wq (.cells #[.int .i64 (x.at_ + lenSum r.ps), .int .i64 x.size] 86))
      rcases List.eq_nil_or_concat cs with rfl | ⟨ds, l, hd⟩
      · simp only [List.length_nil] at m1 rvX ⊢
        go_upto_region 10 with fail
        obtain ⟨WX, hWX⟩ : ∃ X, X = Wq.alloc (.cells #[.int .i64 (x.at_ + lenSum r.ps), .int .i64 x.size] 86) := ⟨_, rfl⟩
        rw [← hWX] at bX rvX ⊢
        obtain ⟨NX, hNX⟩ : ∃ X, X = Wq.heap.size := ⟨_, rfl⟩
        rw [← hNX] at bX ⊢
        clear hWX hNX c0 c1 m0 m1 m2 mf e0 e1 e2 es
        have m0 := rvX.b.cell 0
        have m1 := rvX.b.cell 1
        have m2 := rvX.b.cell 2
        have mf := rvX.b.frozen 1
        have bxl := bX.lt
        have ml := rvX.b.lt
        refine wp_region_later (by kernel_rfl) (by kernel_rfl) ?_
        repeat (go_big_quiet_step (fail))
        refine wpQuiet_nil ?_
        rintro _ ⟨z, rfl⟩
        have rvz := rvX.below z.b
        have bz := bX.below z.b bX.lt
        obtain ⟨Wz, hWz⟩ : ∃ Wz, Wz = z.w := ⟨_, rfl⟩
        rw [← hWz] at rvz bz ⊢
        clear hWz m0 m1 m2 mf
        have m0 := rvz.b.cell 0
        have m1 := rvz.b.cell 1
        have m2 := rvz.b.cell 2
        have ml := rvz.b.lt
        have t0 := bz.cell 0
        have t1 := bz.cell 1
        have hzs := rvz.bl.size
        have hO' : Wz.ownsRow W4.heap.size 86 2 (.slice U1 0 c1') (0) ([]) := by
          have := rvz.c
          unfold OwnL at this
          exact this
        go_wp2_with (at_builtin; refine wpList_append_lies _ rfl _ _ 23 rfl W4.heap.size 86 i1 _ 2 16 Try.underlying23 hi1 hz10 hz11 hz12 rfl (by decide) (.slice U1 0 c1') (0) ([]) rfl (World.ownsRow.alloc hO' _) ⟨Wz.heap.size, 0, none⟩ 1 1 (crV ⟨x.at_ + lenSum r.ps, x.size⟩) rfl rfl (cells_new _ (crV ⟨x.at_ + lenSum r.ps, x.size⟩) _ _ (by simp)) (by simp [crV, Value.oneCell']) (by decide) (by simp only [maxLen]; omega) (by omega) (by simp; omega) _ rfl ?_; intro g5 cap5 w1 hown' hgrow hat hlt5; have bn1 : Blk w1 n 26 _ := (rvz.b.alloc (.cells (crV ⟨x.at_ + lenSum r.ps, x.size⟩).toArray 86)).grown hgrow (own_ne_blk rvz.c rvz.b (by decide)); have n1 := bn1.frozen 1; have n2 := bn1.cell 1; have nl := bn1.lt)
        have hO5 : OwnL w1 W4.heap.size 86 2 crV (.slice (some ⟨g5, 0, none⟩) (([] : List Cr).length + 1) cap5) (([] : List Cr) ++ [⟨x.at_ + lenSum r.ps, x.size⟩]) := OwnL.snoc hown' rfl
        have rvn := rvz.appC hO5 hgrow
        go_wp2_with fail
        go_roundw
        case rel => exact ⟨k + 1, _, by omega, by go_num, by rw [HJ.out, show caddC [] _ = [] ++ [_] from rfl];  exact rvn, by rw [HJ.out, show caddC [] _ = [] ++ [_] from rfl]; simp; omega⟩
        case measure => simp [intOf]; omega
      · rw [List.concat_eq_append] at hd
        subst hd
        obtain ⟨d, hd'⟩ : ∃ d, d = ds.length := ⟨_, rfl⟩
        have hdl : (ds ++ [l]).length = d + 1 := by simp [hd']
        have hll : (ds ++ [l])[d]? = some l := by simp [hd']
        obtain ⟨gb, hU1, hgb, hgbl, hfz⟩ := rv.c.addr (by omega)
        subst hU1
        obtain ⟨b7, o7, e7, _, l0, l1⟩ := (rvX.c.rd crV_len).at2 hll
        injection e7 with e7
        injection e7 with e7 e8
        subst e7 e8
        simp only [Nat.zero_add] at l0 l1
        rw [hdl] at hlc m1
        have HDL := Lib.hid hdl
        have HD := Lib.hid hd'
        have HLL := Lib.hid hll
        clear hdl hd' hll
        have q1 : IntKind.i64.wrap (((d : Int) + 1) - 1) = (d : Int) := by rw [IntWalk.i64_in _ (by omega)]; omega
        have q2 : 0 ≤ (d : Int) := by omega
        have q3 : ((d : Int)).toNat = d := by omega
        have q4 : (d : Int) < (d : Int) + 1 := by omega
        have q5 : decide ((0 : Int) ≤ (d : Int)) = true := by rw [decide_eq_true_eq]; omega
        have fz1 := hfz (d * 2 + 1)
        go_upto_region 10 with fail
        obtain ⟨WX, hWX⟩ : ∃ X, X = Wq.alloc (.cells #[.int .i64 (x.at_ + lenSum r.ps), .int .i64 x.size] 86) := ⟨_, rfl⟩
        rw [← hWX] at bX rvX l0 l1 ⊢
        obtain ⟨NX, hNX⟩ : ∃ X, X = Wq.heap.size := ⟨_, rfl⟩
        rw [← hNX] at bX ⊢
        have hgx : gb < WX.heap.size := by rw [hWX]; simp; omega
        have fzx : WX.frozen? ⟨gb, d * 2 + 1, none⟩ = false := by rw [hWX]; exact ((balloc Wq _).frozen (p := ⟨gb, d * 2 + 1, none⟩) hgbl).trans fz1
        clear hWX hNX c0 c1 m0 m1 m2 mf e0 e1 e2 es
        have m0 := rvX.b.cell 0
        have m1 : WX.cell? ⟨n, 1, none⟩ = some (.slice (some ⟨gb, 0, none⟩) (d + 1) c1') := by rw [← HDL.out]; exact rvX.b.cell 1
        have m2 := rvX.b.cell 2
        have mf := rvX.b.frozen 1
        have bxl := bX.lt
        have ml := rvX.b.lt
        have t0 : WX.cell? ⟨NX, 0, none⟩ = some (.int .i64 (x.at_ + lenSum r.ps)) := bX.cell 0
        have t1 : WX.cell? ⟨NX, 1, none⟩ = some (.int .i64 x.size) := bX.cell 1
        by_cases heq : l.at_ = x.at_ + lenSum r.ps
        · have hq1 : (l.at_ == x.at_ + lenSum r.ps) = true := by simpa using heq
          have HEQ := Lib.hid heq
          clear heq
          refine wp_region_later (by kernel_rfl) (by kernel_rfl) ?_
          repeat (go_big_quiet_step (fail))
          refine wpQuiet_nil ?_
          rintro _ ⟨z, rfl⟩
          have rvz := rvX.below z.b
          have bz := bX.below z.b bX.lt
          have l0z : z.w.cell? ⟨gb, d * 2, none⟩ = some (.int .i64 l.at_) := (z.b.cell (p := ⟨gb, d * 2, none⟩) hgx).trans l0
          have l1z : z.w.cell? ⟨gb, d * 2 + 1, none⟩ = some (.int .i64 l.size) := (z.b.cell (p := ⟨gb, d * 2 + 1, none⟩) hgx).trans l1
          have fzz : z.w.frozen? ⟨gb, d * 2 + 1, none⟩ = false := (z.b.frozen (p := ⟨gb, d * 2 + 1, none⟩) hgx).trans fzx
          have hgz := Nat.lt_of_lt_of_le hgx z.b.size
          obtain ⟨Wz, hWz⟩ : ∃ Wz, Wz = z.w := ⟨_, rfl⟩
          rw [← hWz] at rvz bz l0z l1z fzz hgz ⊢
          clear hWz m0 m1 m2 mf t0 t1 l0 l1 fzx
          have m0 := rvz.b.cell 0
          have m1 : Wz.cell? ⟨n, 1, none⟩ = some (.slice (some ⟨gb, 0, none⟩) (d + 1) c1') := by rw [← HDL.out]; exact rvz.b.cell 1
          have m2 := rvz.b.cell 2
          have ml := rvz.b.lt
          have bzl := bz.lt
          have t0 : Wz.cell? ⟨NX, 0, none⟩ = some (.int .i64 (x.at_ + lenSum r.ps)) := bz.cell 0
          have t1 : Wz.cell? ⟨NX, 1, none⟩ = some (.int .i64 x.size) := bz.cell 1
          go_upto_region 11 with fail
          refine wp_region_later_tail 14 (by kernel_rfl) (by kernel_rfl) ?_
          simp only [List.take_succ_cons, List.take_zero, List.drop_succ_cons, List.drop_zero]
          repeat (go_big_quiet_step (fail))
          refine wpQuiet_nil ?_
          rintro _ ⟨y2, rfl⟩
          have rvy := rvz.below y2.b
          have l1y : y2.w.cell? ⟨gb, d * 2 + 1, none⟩ = some (.int .i64 l.size) := (y2.b.cell (p := ⟨gb, d * 2 + 1, none⟩) hgz).trans l1z
          have fzy : y2.w.frozen? ⟨gb, d * 2 + 1, none⟩ = false := (y2.b.frozen (p := ⟨gb, d * 2 + 1, none⟩) hgz).trans fzz
          have hgy := Nat.lt_of_lt_of_le hgz y2.b.size
          obtain ⟨Wy, hWy⟩ : ∃ Wy, Wy = y2.w := ⟨_, rfl⟩
          rw [← hWy] at rvy l1y fzy hgy ⊢
          clear hWy m0 m1 m2 t0 t1 l0z l1z fzz
          go_wp2_with fail
          go_roundw
          case rel =>
            have o1 := OwnL.store (i := d) (j := 1) (x' := ⟨l.at_, max l.size x.size⟩) (u := .int .i64 (max l.size x.size)) rvy.c rfl crV_len HLL.out (by decide) rfl
            have e9 : (ds ++ [l]).set d ⟨l.at_, max l.size x.size⟩ = ds ++ [⟨l.at_, max l.size x.size⟩] := by rw [HD.out]; simp
            rw [e9] at o1
            refine ⟨k + 1, .slice (some ⟨gb, 0, none⟩) (ds ++ [l]).length c1', by omega, by go_num, ?_, ?_⟩
            · rw [HJ.out, caddC_same ds l _ HEQ.out]
              exact rvy.stepC o1 (grown_set _ _ _ _)
            · rw [HJ.out, caddC_same ds l _ HEQ.out]
              have := HD.out
              simp
              omega
          case measure => simp [intOf]; omega
        · have hq1 : (l.at_ == x.at_ + lenSum r.ps) = false := by simpa using heq
          have HEQ := Lib.hid heq
          clear heq
          refine wp_region_later (by kernel_rfl) (by kernel_rfl) ?_
          repeat (go_big_quiet_step (fail))
          refine wpQuiet_nil ?_
          rintro _ ⟨z, rfl⟩
          have rvz := rvX.below z.b
          have bz := bX.below z.b bX.lt
          obtain ⟨Wz, hWz⟩ : ∃ Wz, Wz = z.w := ⟨_, rfl⟩
          rw [← hWz] at rvz bz ⊢
          clear hWz m0 m1 m2 mf t0 t1 l0 l1 fzx
          have m0 := rvz.b.cell 0
          have m1 : Wz.cell? ⟨n, 1, none⟩ = some (.slice (some ⟨gb, 0, none⟩) (d + 1) c1') := by rw [← HDL.out]; exact rvz.b.cell 1
          have m2 := rvz.b.cell 2
          have ml := rvz.b.lt
          have t0 : Wz.cell? ⟨NX, 0, none⟩ = some (.int .i64 (x.at_ + lenSum r.ps)) := bz.cell 0
          have t1 : Wz.cell? ⟨NX, 1, none⟩ = some (.int .i64 x.size) := bz.cell 1
          have hzs := rvz.bl.size
          rw [HDL.out] at rvz
          have hO' : Wz.ownsRow W4.heap.size 86 2 (.slice (some ⟨gb, 0, none⟩) (d + 1) c1') (d + 1) ((ds ++ [l]).flatMap crV) := by
            have := rvz.c
            unfold OwnL at this
            rwa [HDL.out] at this
          go_wp2_with (at_builtin; refine wpList_append_lies _ rfl _ _ 23 rfl W4.heap.size 86 i1 _ 2 16 Try.underlying23 hi1 hz10 hz11 hz12 rfl (by decide) (.slice (some ⟨gb, 0, none⟩) (d + 1) c1') (d + 1) ((ds ++ [l]).flatMap crV) rfl (World.ownsRow.alloc hO' _) ⟨Wz.heap.size, 0, none⟩ 1 1 (crV ⟨x.at_ + lenSum r.ps, x.size⟩) rfl rfl (cells_new _ (crV ⟨x.at_ + lenSum r.ps, x.size⟩) _ _ (by simp)) (by simp [crV, Value.oneCell']) (by decide) (by simp only [maxLen]; omega) (by omega) (by simp; omega) _ rfl ?_; intro g5 cap5 w1 hown' hgrow hat hlt5; have bn1 : Blk w1 n 26 _ := (rvz.b.alloc (.cells (crV ⟨x.at_ + lenSum r.ps, x.size⟩).toArray 86)).grown hgrow (own_ne_blk rvz.c rvz.b (by decide)); have n1 := bn1.frozen 1; have n2 := bn1.cell 1; have nl := bn1.lt)
          have hO5 : OwnL w1 W4.heap.size 86 2 crV (.slice (some ⟨g5, 0, none⟩) ((ds ++ [l]).length + 1) cap5) ((ds ++ [l]) ++ [⟨x.at_ + lenSum r.ps, x.size⟩]) := by
            have := OwnL.snoc (xs := ds ++ [l]) (x := (⟨x.at_ + lenSum r.ps, x.size⟩ : Cr)) hown' (by rw [HDL.out])
            rw [HDL.out]
            exact this
          have rvn := rvz.appC (v1 := .slice (some ⟨gb, 0, none⟩) (d + 1) c1') hO5 hgrow
          rw [HDL.out] at rvn
          go_wp2_with fail
          go_roundw
          case rel =>
            refine ⟨k + 1, .slice (some ⟨g5, 0, none⟩) (d + 1 + 1) cap5, by omega, by go_num, ?_, ?_⟩
            · rw [HJ.out, caddC_new ds l _ HEQ.out]
              exact rvn
            · rw [HJ.out, caddC_new ds l _ HEQ.out]
              have := HD.out
              simp
              omega
          case measure => simp [intOf]; omega
    · obtain rfl : k = q.cs.length := by omega
      rw [List.take_length] at rv hlc
      have hJq := hJ4.below rv.bl hJ4.lt
      have e0 := hJq.cell 0
      have e1 := hJq.cell 1
      have e2 := hJq.cell 2
      have es := hJq.lt
      obtain ⟨cs, hcs⟩ : ∃ cs, cs = joinC (lenSum r.ps) r.cs q.cs := ⟨_, rfl⟩
      rw [← hcs] at rv hlc
      have HCS := Lib.hid hcs
      clear hcs
      go_wp2_with fail
      clear e0 e1 e2 es hJq
      obtain ⟨cs0, hcs0⟩ : ∃ c, c = cs := ⟨_, rfl⟩
      rw [← hcs0] at rv hlc HCS
      clear hcs0
      have rv1 := rv
      have hlc1 := hlc
      clear rv hlc hlt hk
      go_loopw [11] (fun i W => ∃ (k : Nat) (u2 : Value), k ≤ q.js.length ∧ i = .int .i64 k ∧ RvSt W4 W n (.slice VN (r.ps.length + q.ps.length) vn) u1 u2 (r.ps ++ q.ps) cs0 (joinJ (lenSum r.ps) r.js (q.js.take k)) ∧ (joinJ (lenSum r.ps) r.js (q.js.take k)).length ≤ r.js.length + k) (fun i _ => q.js.length - (intOf i).toNat)
      case atStart => exact ⟨0, _, Nat.zero_le _, rfl, rv1, by simp [joinJ]⟩
      case round =>
        rename World => Wq
        obtain ⟨k, u2, hk, rfl, rv, hlc⟩ := hrel
        have hws := rv.bl.size
        have hJq := hJ4.below rv.bl hJ4.lt
        have e0 := hJq.cell 0
        have e1 := hJq.cell 1
        have e2 := hJq.cell 2
        have es := hJq.lt
        by_cases hlt : k < q.js.length
        · obtain ⟨x, hx⟩ := getElem?_ex hlt
          have hxo := jns_at HV' hx
          have x1 := hxo.1
          have x2 := hxo.2.1
          have e5 : IntKind.i64.wrap (x.at_ + lenSum r.ps) = x.at_ + lenSum r.ps := IntWalk.i64_in _ (by omega)
          have HJ := Lib.hid (joinJ_succ (lenSum r.ps) r.js q.js k x hx)
          obtain ⟨xb, xo, rfl, hbb, c0, c1, c2⟩ := (hq4.j.below rv.bl).at3 hx
          clear hx hxo
          obtain ⟨cs, hcs⟩ : ∃ cs, cs = joinJ (lenSum r.ps) r.js (q.js.take k) := ⟨_, rfl⟩
          rw [← hcs] at rv hlc HJ
          clear hcs
          obtain ⟨U1, c1', rfl⟩ := rv.j.form
          have m0 := rv.b.cell 0
          have m1 := rv.b.cell 1
          have m2 := rv.b.cell 2
          have mf := rv.b.frozen 2
          have ml := rv.b.lt
          have bX : Blk (Wq.alloc (.cells #[.int .i64 (x.at_ + lenSum r.ps), .int .i64 x.arms, .int .i64 x.way] 88)) Wq.heap.size 88 #[.int .i64 (x.at_ + lenSum r.ps), .int .i64 x.arms, .int .i64 x.way] := Blk.new _ _ _
          have rvX := rv.below (balloc Wq (.cells #[.int .i64 (x.at_ + lenSum r.ps), .int .i64 x.arms, .int .i64 x.way] 88))
          rcases List.eq_nil_or_concat cs with rfl | ⟨ds, l, hd⟩
          · simp only [List.length_nil] at m2 rvX ⊢
            go_upto_region 19 with fail
            obtain ⟨WX, hWX⟩ : ∃ X, X = Wq.alloc (.cells #[.int .i64 (x.at_ + lenSum r.ps), .int .i64 x.arms, .int .i64 x.way] 88) := ⟨_, rfl⟩
            rw [← hWX] at bX rvX ⊢
            obtain ⟨NX, hNX⟩ : ∃ X, X = Wq.heap.size := ⟨_, rfl⟩
            rw [← hNX] at bX ⊢
            clear hWX hNX c0 c1 c2 m0 m1 m2 mf e0 e1 e2 es
            have m0 := rvX.b.cell 0
            have m1 := rvX.b.cell 1
            have m2 := rvX.b.cell 2
            have mf := rvX.b.frozen 2
            have bxl := bX.lt
            have ml := rvX.b.lt
            refine wp_region_later (by kernel_rfl) (by kernel_rfl) ?_
            repeat (go_big_quiet_step (fail))
            refine wpQuiet_nil ?_
            rintro _ ⟨z, rfl⟩
            have rvz := rvX.below z.b
            have bz := bX.below z.b bX.lt
            obtain ⟨Wz, hWz⟩ : ∃ Wz, Wz = z.w := ⟨_, rfl⟩
            rw [← hWz] at rvz bz ⊢
            clear hWz m0 m1 m2 mf
            have m0 := rvz.b.cell 0
            have m1 := rvz.b.cell 1
            have m2 := rvz.b.cell 2
            have ml := rvz.b.lt
            have t0 := bz.cell 0
            have t1 := bz.cell 1
            have t2 := bz.cell 2
            have hzs := rvz.bl.size
            have hO' : Wz.ownsRow W4.heap.size 88 3 (.slice U1 0 c1') (0) ([]) := by
              have := rvz.j
              unfold OwnL at this
              exact this
            go_wp2_with (at_builtin; refine wpList_append_lies _ rfl _ _ 24 rfl W4.heap.size 88 i2 _ 3 24 Try.underlying24 hi2 hz20 hz21 hz22 rfl (by decide) (.slice U1 0 c1') (0) ([]) rfl (World.ownsRow.alloc hO' _) ⟨Wz.heap.size, 0, none⟩ 1 1 (jnV ⟨x.at_ + lenSum r.ps, x.arms, x.way⟩) rfl rfl (cells_new _ (jnV ⟨x.at_ + lenSum r.ps, x.arms, x.way⟩) _ _ (by simp)) (by simp [jnV, Value.oneCell']) (by decide) (by simp only [maxLen]; omega) (by omega) (by simp; omega) _ rfl ?_; intro g5 cap5 w1 hown' hgrow hat hlt5; have bn1 : Blk w1 n 26 _ := (rvz.b.alloc (.cells (jnV ⟨x.at_ + lenSum r.ps, x.arms, x.way⟩).toArray 88)).grown hgrow (own_ne_blk rvz.j rvz.b (by decide)); have n1 := bn1.frozen 2; have n2 := bn1.cell 2; have nl := bn1.lt)
            have hO5 : OwnL w1 W4.heap.size 88 3 jnV (.slice (some ⟨g5, 0, none⟩) (([] : List Jn).length + 1) cap5) (([] : List Jn) ++ [⟨x.at_ + lenSum r.ps, x.arms, x.way⟩]) := OwnL.snoc hown' rfl
            have rvn := rvz.appJ hO5 hgrow
            go_wp2_with fail
            go_roundw
            case rel => exact ⟨k + 1, _, by omega, by go_num, by rw [HJ.out, show caddJ [] _ = [] ++ [_] from rfl];  exact rvn, by rw [HJ.out, show caddJ [] _ = [] ++ [_] from rfl]; simp; omega⟩
            case measure => simp [intOf]; omega
          · rw [List.concat_eq_append] at hd
            subst hd
            obtain ⟨d, hd'⟩ : ∃ d, d = ds.length := ⟨_, rfl⟩
            have hdl : (ds ++ [l]).length = d + 1 := by simp [hd']
            have hll : (ds ++ [l])[d]? = some l := by simp [hd']
            obtain ⟨gb, hU1, hgb, hgbl, hfz⟩ := rv.j.addr (by omega)
            subst hU1
            obtain ⟨b7, o7, e7, _, l0, l1, l2⟩ := (rvX.j.rd jnV_len).at3 hll
            injection e7 with e7
            injection e7 with e7 e8
            subst e7 e8
            simp only [Nat.zero_add] at l0 l1 l2
            rw [hdl] at hlc m2
            have HDL := Lib.hid hdl
            have HD := Lib.hid hd'
            have HLL := Lib.hid hll
            clear hdl hd' hll
            have q1 : IntKind.i64.wrap (((d : Int) + 1) - 1) = (d : Int) := by rw [IntWalk.i64_in _ (by omega)]; omega
            have q2 : 0 ≤ (d : Int) := by omega
            have q3 : ((d : Int)).toNat = d := by omega
            have q4 : (d : Int) < (d : Int) + 1 := by omega
            have q5 : decide ((d : Int) < 0) = false := by rw [decide_eq_false_iff_not]; omega
            have fz1 := hfz (d * 3 + 1)
            go_upto_region 19 with fail
            obtain ⟨WX, hWX⟩ : ∃ X, X = Wq.alloc (.cells #[.int .i64 (x.at_ + lenSum r.ps), .int .i64 x.arms, .int .i64 x.way] 88) := ⟨_, rfl⟩
            rw [← hWX] at bX rvX l0 l1 ⊢
            obtain ⟨NX, hNX⟩ : ∃ X, X = Wq.heap.size := ⟨_, rfl⟩
            rw [← hNX] at bX ⊢
            have hgx : gb < WX.heap.size := by rw [hWX]; simp; omega
            have fzx : WX.frozen? ⟨gb, d * 3 + 1, none⟩ = false := by rw [hWX]; exact ((balloc Wq _).frozen (p := ⟨gb, d * 3 + 1, none⟩) hgbl).trans fz1
            clear hWX hNX c0 c1 c2 m0 m1 m2 mf e0 e1 e2 es
            have m0 := rvX.b.cell 0
            have m1 := rvX.b.cell 1
            have m2 : WX.cell? ⟨n, 2, none⟩ = some (.slice (some ⟨gb, 0, none⟩) (d + 1) c1') := by rw [← HDL.out]; exact rvX.b.cell 2
            have mf := rvX.b.frozen 2
            have bxl := bX.lt
            have ml := rvX.b.lt
            have t0 : WX.cell? ⟨NX, 0, none⟩ = some (.int .i64 (x.at_ + lenSum r.ps)) := bX.cell 0
            by_cases heq : l.at_ = x.at_ + lenSum r.ps
            · have hq1 : (l.at_ != x.at_ + lenSum r.ps) = false := by simpa using heq
              have HEQ := Lib.hid heq
              clear heq
              refine wp_region_later (by kernel_rfl) (by kernel_rfl) ?_
              repeat (go_big_quiet_step (fail))
              refine wpQuiet_nil ?_
              rintro _ ⟨z, rfl⟩
              have rvz := rvX.below z.b
              have bz := bX.below z.b bX.lt
              have l0z : z.w.cell? ⟨gb, d * 3, none⟩ = some (.int .i64 l.at_) := (z.b.cell (p := ⟨gb, d * 3, none⟩) hgx).trans l0
              have fzz : z.w.frozen? ⟨gb, d * 3 + 1, none⟩ = false := (z.b.frozen (p := ⟨gb, d * 3 + 1, none⟩) hgx).trans fzx
              have hgz := Nat.lt_of_lt_of_le hgx z.b.size
              obtain ⟨Wz, hWz⟩ : ∃ Wz, Wz = z.w := ⟨_, rfl⟩
              rw [← hWz] at rvz bz l0z fzz hgz ⊢
              clear hWz m0 m1 m2 mf t0 l0 l1 l2 fzx
              have m0 := rvz.b.cell 0
              have m1 := rvz.b.cell 1
              have m2 : Wz.cell? ⟨n, 2, none⟩ = some (.slice (some ⟨gb, 0, none⟩) (d + 1) c1') := by rw [← HDL.out]; exact rvz.b.cell 2
              have ml := rvz.b.lt
              have bzl := bz.lt
              have t0 : Wz.cell? ⟨NX, 0, none⟩ = some (.int .i64 (x.at_ + lenSum r.ps)) := bz.cell 0
              have t1 : Wz.cell? ⟨NX, 1, none⟩ = some (.int .i64 x.arms) := bz.cell 1
              have t2 : Wz.cell? ⟨NX, 2, none⟩ = some (.int .i64 x.way) := bz.cell 2
              go_wp2_with fail
              go_roundw
              case rel =>
                refine ⟨k + 1, .slice (some ⟨gb, 0, none⟩) (ds ++ [l]).length c1', by omega, by go_num, ?_, ?_⟩
                · rw [HJ.out, caddJ_same ds l _ HEQ.out]
                  exact rvz
                · rw [HJ.out, caddJ_same ds l _ HEQ.out]
                  have := HDL.out
                  omega
              case measure => simp [intOf]; omega
            · have hq1 : (l.at_ != x.at_ + lenSum r.ps) = true := by simpa using heq
              have HEQ := Lib.hid heq
              clear heq
              refine wp_region_later (by kernel_rfl) (by kernel_rfl) ?_
              repeat (go_big_quiet_step (fail))
              refine wpQuiet_nil ?_
              rintro _ ⟨z, rfl⟩
              have rvz := rvX.below z.b
              have bz := bX.below z.b bX.lt
              obtain ⟨Wz, hWz⟩ : ∃ Wz, Wz = z.w := ⟨_, rfl⟩
              rw [← hWz] at rvz bz ⊢
              clear hWz m0 m1 m2 mf t0 l0 l1 l2 fzx
              have m0 := rvz.b.cell 0
              have m1 := rvz.b.cell 1
              have m2 : Wz.cell? ⟨n, 2, none⟩ = some (.slice (some ⟨gb, 0, none⟩) (d + 1) c1') := by rw [← HDL.out]; exact rvz.b.cell 2
              have ml := rvz.b.lt
              have t0 : Wz.cell? ⟨NX, 0, none⟩ = some (.int .i64 (x.at_ + lenSum r.ps)) := bz.cell 0
              have t1 : Wz.cell? ⟨NX, 1, none⟩ = some (.int .i64 x.arms) := bz.cell 1
              have t2 : Wz.cell? ⟨NX, 2, none⟩ = some (.int .i64 x.way) := bz.cell 2
              have hzs := rvz.bl.size
              rw [HDL.out] at rvz
              have hO' : Wz.ownsRow W4.heap.size 88 3 (.slice (some ⟨gb, 0, none⟩) (d + 1) c1') (d + 1) ((ds ++ [l]).flatMap jnV) := by
                have := rvz.j
                unfold OwnL at this
                rwa [HDL.out] at this
              go_wp2_with (at_builtin; refine wpList_append_lies _ rfl _ _ 24 rfl W4.heap.size 88 i2 _ 3 24 Try.underlying24 hi2 hz20 hz21 hz22 rfl (by decide) (.slice (some ⟨gb, 0, none⟩) (d + 1) c1') (d + 1) ((ds ++ [l]).flatMap jnV) rfl (World.ownsRow.alloc hO' _) ⟨Wz.heap.size, 0, none⟩ 1 1 (jnV ⟨x.at_ + lenSum r.ps, x.arms, x.way⟩) rfl rfl (cells_new _ (jnV ⟨x.at_ + lenSum r.ps, x.arms, x.way⟩) _ _ (by simp)) (by simp [jnV, Value.oneCell']) (by decide) (by simp only [maxLen]; omega) (by omega) (by simp; omega) _ rfl ?_; intro g5 cap5 w1 hown' hgrow hat hlt5; have bn1 : Blk w1 n 26 _ := (rvz.b.alloc (.cells (jnV ⟨x.at_ + lenSum r.ps, x.arms, x.way⟩).toArray 88)).grown hgrow (own_ne_blk rvz.j rvz.b (by decide)); have n1 := bn1.frozen 2; have n2 := bn1.cell 2; have nl := bn1.lt)
              have hO5 : OwnL w1 W4.heap.size 88 3 jnV (.slice (some ⟨g5, 0, none⟩) ((ds ++ [l]).length + 1) cap5) ((ds ++ [l]) ++ [⟨x.at_ + lenSum r.ps, x.arms, x.way⟩]) := by
                have := OwnL.snoc (xs := ds ++ [l]) (x := (⟨x.at_ + lenSum r.ps, x.arms, x.way⟩ : Jn)) hown' (by rw [HDL.out])
                rw [HDL.out]
                exact this
              have rvn := rvz.appJ (v2 := .slice (some ⟨gb, 0, none⟩) (d + 1) c1') hO5 hgrow
              rw [HDL.out] at rvn
              go_wp2_with fail
              go_roundw
              case rel =>
                refine ⟨k + 1, .slice (some ⟨g5, 0, none⟩) (d + 1 + 1) cap5, by omega, by go_num, ?_, ?_⟩
                · rw [HJ.out, caddJ_new ds l _ HEQ.out]
                  exact rvn
                · rw [HJ.out, caddJ_new ds l _ HEQ.out]
                  have := HD.out
                  simp
                  omega
              case measure => simp [intOf]; omega
        · obtain rfl : k = q.js.length := by omega
          rw [List.take_length] at rv hlc
          have hKq := hK4.below rv.bl hK4.lt
          obtain ⟨js, hjs⟩ : ∃ js, js = joinJ (lenSum r.ps) r.js q.js := ⟨_, rfl⟩
          rw [← hjs] at rv hlc
          have HJR : Hid (joinR r q = ⟨r.ps ++ q.ps, cs0, js⟩) := Lib.hid (by rw [HCS.out, hjs]; rfl)
          clear hjs
          have HLL : Hid (lensOk (⟨r.ps ++ q.ps, cs0, js⟩ : Road).ps 100000) := Lib.hid (fun p hp => by
            rcases List.mem_append.1 hp with hp | hp
            · exact ⟨(hok.lens p hp).1, by have := (hok.lens p hp).2; omega⟩
            · exact ⟨(hokq.lens p hp).1, by have := (hokq.lens p hp).2; omega⟩)
          have hl1 : (⟨r.ps ++ q.ps, cs0, js⟩ : Road).ps.length ≤ 100000 := by simp; omega
          have hl2 : (⟨r.ps ++ q.ps, cs0, js⟩ : Road).cs.length ≤ 100000 := by simp; omega
          have hl3 : (⟨r.ps ++ q.ps, cs0, js⟩ : Road).js.length ≤ 100000 := by simp; omega
          obtain ⟨U1, d1, rfl⟩ := rv.c.form
          obtain ⟨U2, d2, rfl⟩ := rv.j.form
          have hRd : RdRoad Wq ⟨r.ps ++ q.ps, cs0, js⟩ VN U1 U2 := ⟨rv.p.rd pcV_len, rv.c.rd crV_len, rv.j.rd jnV_len, by simp; omega, by simp; omega, by simp; omega⟩
          have m0 := rv.b.cell 0
          have m1 := rv.b.cell 1
          have m2 := rv.b.cell 2
          have ml := rv.b.lt
          obtain ⟨ft, hft⟩ : ∃ b, b = fitsR ⟨r.ps ++ q.ps, cs0, js⟩ := ⟨_, rfl⟩
          have HFT := Lib.hid hft
          clear hft
          go_upto_region 21 with fail
          refine Mk3.wp_region_mk_tail 3 (fun j => match j with | 2 => some (IsV3 (.bool ft)) | _ => none) (fun j => match j with | _ => []) (by kernel_rfl) (by kernel_rfl) (by kernel_rfl) ?hmk ?_
          case hmk =>
            intro j S hS v
            split at hS <;> first | (injection hS with hS; subst hS; exact stays_isv3 _ _) | cases hS
          simp only [List.take_succ_cons, List.take_zero, List.drop_succ_cons, List.drop_zero]
          refine Mk3.wpM_reads [_, _] (_ :: _) _ _ _ (by kernel_rfl) (by intro j hj; rcases (show j = 0 ∨ j = 1 by simp at hj; omega) with rfl | rfl <;> exact ⟨rfl, rfl⟩) ?_
          repeat (go_big_quiet_step (fail))
          refine wpQuiet_nil ?_
          refine Mk3.wpM_make rfl rfl rfl ?_ ?_
          · intro x hx _
            unfold Mk2.makesAt
            go_simp
            have hC := rfits_any ⟨r.ps ++ q.ps, cs0, js⟩ VN U1 U2 vn d1 d2 x (hRd.below hx) HLL.out hl1 hl2 hl3
            simp only [List.length_append] at hC
            exact hC.mono fun e w' ⟨he, hb⟩ => ⟨_, he, by rw [HFT.out]; rfl, (fun _ e => by cases e), hb⟩
          rintro v ⟨_, x, hx, ⟨_, hv, _⟩, _⟩
          obtain rfl : v = _ := hv
          go_simp
          refine Mk3.wpM_nil ?_
          rintro Wb hbb ⟨_, _, _⟩
          clear m0 m1 m2 ml hx
          have rvb := rv.below hbb
          have hKb := hKq.below hbb hKq.lt
          have hIb : Below w.heap.size w Wb := bthen (hI4.below.trans (rv.bl.mono hI4.below.size)) hbb
          have k0 := hKb.frozen 0
          have k1 := hKb.frozen 1
          have k2 := hKb.frozen 2
          have e0 := hKb.cell 0
          have e1 := hKb.cell 1
          have e2 := hKb.cell 2
          have kl := hKb.lt
          have hKz := ((hKb.set_ 0 (.slice VN (r.ps.length + q.ps.length) vn)).set_ 1 (.slice U1 cs0.length d1)).set_ 2 (.slice U2 js.length d2)
          have hBz : Below w.heap.size w (((Wb.setCell ⟨w.heap.size + 2, 0, none⟩ (.slice VN (r.ps.length + q.ps.length) vn)).setCell ⟨w.heap.size + 2, 1, none⟩ (.slice U1 cs0.length d1)).setCell ⟨w.heap.size + 2, 2, none⟩ (.slice U2 js.length d2)) := ((hIb.setCell (p := ⟨w.heap.size + 2, 0, none⟩) (by simp) _).setCell (p := ⟨w.heap.size + 2, 1, none⟩) (by simp) _).setCell (p := ⟨w.heap.size + 2, 2, none⟩) (by simp) _
          have hgz := World.grownBy.trans (World.grownBy.trans (grown_set Wb (w.heap.size + 2) 0 (.slice VN (r.ps.length + q.ps.length) vn)) (grown_set _ (w.heap.size + 2) 1 (.slice U1 cs0.length d1))) (grown_set _ (w.heap.size + 2) 2 (.slice U2 js.length d2))
          have hRz : OwnR (((Wb.setCell ⟨w.heap.size + 2, 0, none⟩ (.slice VN (r.ps.length + q.ps.length) vn)).setCell ⟨w.heap.size + 2, 1, none⟩ (.slice U1 cs0.length d1)).setCell ⟨w.heap.size + 2, 2, none⟩ (.slice U2 js.length d2)) w.heap.size (.slice VN (r.ps.length + q.ps.length) vn) (.slice U1 cs0.length d1) (.slice U2 js.length d2) (joinR r q) := by
            rw [HJR.out]
            exact OwnR.base_mono ⟨rvb.p.other hgz (.inr (own_ne_blk rvb.p hKb (by decide)).symm), rvb.c.other hgz (.inr (own_ne_blk rvb.c hKb (by decide)).symm), rvb.j.other hgz (.inr (own_ne_blk rvb.j hKb (by decide)).symm)⟩ hI4.below.size
          have r0 := hKz.cell 0
          have r1 := hKz.cell 1
          have r2 := hKz.cell 2
          have rl := hKz.lt
          go_wp2_with fail
          refine bodyPost_ret (v := .tuple #[.agg #[.slice VN (r.ps.length + q.ps.length) vn, .slice U1 cs0.length d1, .slice U2 js.length d2], .bool ft]) ?_ rfl ⟨⟨_, _, _, by rw [HFT.out, ← HJR.out], hRz⟩, hBz⟩
          simp [results, Try.results41, go_sem, r0, r1, r2, rl]

end Go.Proofs.Ytbdjmaogbpdkpaa

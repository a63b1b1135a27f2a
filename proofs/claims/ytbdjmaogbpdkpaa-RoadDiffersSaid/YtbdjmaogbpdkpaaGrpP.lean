import Derived.Test.YtbdjmaogbpdkpaaRev
/-
  road.same, ref.alike, and grouped at pieces.
-/
namespace Go.Proofs.Ytbdjmaogbpdkpaa
open Go.RowKit Go.Shelf
set_option linter.unusedVariables false
set_option linter.unusedSimpArgs false
attribute [local go_sem] Later.cell Later.cell1 Later.new1 Later.frozen Later.frozen1

theorem Try.info22 : (Try.prog.info? 22).map (fun i => (i.zero, i.size, i.bytes)) = some (some (.slice none 0 0), 1, 24) := by kernel_rfl
/-- Equal apart from the lengths. -/
def tgP (x y : Pc) : Bool := decide (x.turn = y.turn) && decide (x.rad = y.rad) && decide (x.wid = y.wid) && decide (x.sur = y.sur)

set_option maxHeartbeats 2000000 in
theorem same_any (x y : Pc) (w : World) :
    Calls Try.prog 91 #[.agg #[.int .i64 x.len, .int .i64 x.turn, .int .i64 x.rad, .int .i64 x.wid, .int .i64 x.sur], .agg #[.int .i64 y.len, .int .i64 y.turn, .int .i64 y.rad, .int .i64 y.wid, .int .i64 y.sur]] w fun e w' => e = .returned (.bool (tgP x y)) ∧ Below w.heap.size w w' := by
  by_cases t0 : x.turn = y.turn
  case neg =>
    have t0' : (x.turn == y.turn) = false := by simpa using t0
    have HT : Hid (tgP x y = false) := Lib.hid (by simp [tgP, t0])
    clear t0
    go_enter Try.func91, Try.ntmps91
    go_wp2
    go_ret
    rw [HT.out]
    exact ⟨by simp, bthen (balloc _ _) (balloc _ _)⟩
  have t0' : (x.turn == y.turn) = true := by simpa using t0
  by_cases t1 : x.rad = y.rad
  case neg =>
    have t1' : (x.rad == y.rad) = false := by simpa using t1
    have HT : Hid (tgP x y = false) := Lib.hid (by simp [tgP, t1])
    clear t1
    go_enter Try.func91, Try.ntmps91
    go_wp2
    go_ret
    rw [HT.out]
    exact ⟨by simp, bthen (balloc _ _) (balloc _ _)⟩
  have t1' : (x.rad == y.rad) = true := by simpa using t1
  by_cases t2 : x.wid = y.wid
  case neg =>
    have t2' : (x.wid == y.wid) = false := by simpa using t2
    have HT : Hid (tgP x y = false) := Lib.hid (by simp [tgP, t2])
    clear t2
    go_enter Try.func91, Try.ntmps91
    go_wp2
    go_ret
    rw [HT.out]
    exact ⟨by simp, bthen (balloc _ _) (balloc _ _)⟩
  have t2' : (x.wid == y.wid) = true := by simpa using t2
  by_cases t3 : x.sur = y.sur
  case neg =>
    have t3' : (x.sur == y.sur) = false := by simpa using t3
    have HT : Hid (tgP x y = false) := Lib.hid (by simp [tgP, t3])
    clear t3
    go_enter Try.func91, Try.ntmps91
    go_wp2
    go_ret
    rw [HT.out]
    exact ⟨by simp, bthen (balloc _ _) (balloc _ _)⟩
  have t3' : (x.sur == y.sur) = true := by simpa using t3
  have HT : Hid (tgP x y = true) := Lib.hid (by simp [tgP, t0, t1, t2, t3])
  clear t0 t1 t2 t3
  go_enter Try.func91, Try.ntmps91
  go_wp2
  go_ret
  rw [HT.out]
  exact ⟨by simp, bthen (balloc _ _) (balloc _ _)⟩

set_option maxHeartbeats 2000000 in
theorem alike_any (x y : Pc) (w : World) :
    Calls Try.prog 92 #[.agg #[.int .i64 x.len, .int .i64 x.turn, .int .i64 x.rad, .int .i64 x.wid, .int .i64 x.sur], .agg #[.int .i64 y.len, .int .i64 y.turn, .int .i64 y.rad, .int .i64 y.wid, .int .i64 y.sur]] w fun e w' => e = .returned (.bool (tgP x y)) ∧ Below w.heap.size w w' := by
  by_cases t0 : x.turn = y.turn
  case neg =>
    have t0' : (x.turn == y.turn) = false := by simpa using t0
    have HT : Hid (tgP x y = false) := Lib.hid (by simp [tgP, t0])
    clear t0
    go_enter Try.func92, Try.ntmps92
    go_wp2
    go_ret
    rw [HT.out]
    exact ⟨by simp, bthen (balloc _ _) (balloc _ _)⟩
  have t0' : (x.turn == y.turn) = true := by simpa using t0
  by_cases t1 : x.rad = y.rad
  case neg =>
    have t1' : (x.rad == y.rad) = false := by simpa using t1
    have HT : Hid (tgP x y = false) := Lib.hid (by simp [tgP, t1])
    clear t1
    go_enter Try.func92, Try.ntmps92
    go_wp2
    go_ret
    rw [HT.out]
    exact ⟨by simp, bthen (balloc _ _) (balloc _ _)⟩
  have t1' : (x.rad == y.rad) = true := by simpa using t1
  by_cases t2 : x.wid = y.wid
  case neg =>
    have t2' : (x.wid == y.wid) = false := by simpa using t2
    have HT : Hid (tgP x y = false) := Lib.hid (by simp [tgP, t2])
    clear t2
    go_enter Try.func92, Try.ntmps92
    go_wp2
    go_ret
    rw [HT.out]
    exact ⟨by simp, bthen (balloc _ _) (balloc _ _)⟩
  have t2' : (x.wid == y.wid) = true := by simpa using t2
  by_cases t3 : x.sur = y.sur
  case neg =>
    have t3' : (x.sur == y.sur) = false := by simpa using t3
    have HT : Hid (tgP x y = false) := Lib.hid (by simp [tgP, t3])
    clear t3
    go_enter Try.func92, Try.ntmps92
    go_wp2
    go_ret
    rw [HT.out]
    exact ⟨by simp, bthen (balloc _ _) (balloc _ _)⟩
  have t3' : (x.sur == y.sur) = true := by simpa using t3
  have HT : Hid (tgP x y = true) := Lib.hid (by simp [tgP, t0, t1, t2, t3])
  clear t0 t1 t2 t3
  go_enter Try.func92, Try.ntmps92
  go_wp2
  go_ret
  rw [HT.out]
  exact ⟨by simp, bthen (balloc _ _) (balloc _ _)⟩

set_option maxRecDepth 100000 in
set_option maxHeartbeats 2000000 in
theorem groupedP_any (xs : List Pc) (A : Option Addr) (a : Nat) (w : World) (hA : Rd 5 pcV w A xs) (hn : xs.length ≤ 2000) :
    Calls Try.prog 90 #[.slice A xs.length a, .func (.func 91) #[] #[]] w fun e w' => (∃ v, e = .returned v ∧ GroupsAt w' w.heap.size 22 52 5 pcV v (grouped tgP xs)) ∧ Below w.heap.size w w' := by
  obtain ⟨i0, hi, hz0, hz1, hz2⟩ := info_parts Try.info22
  obtain ⟨j0, hj, hy0, hy1, hy2⟩ := info_parts Try.info52
  go_enter Try.func90, Try.ntmps90
  go_wp2
  go_loopw [5, 10] (fun vo i wr => ∃ k : Nat, k ≤ xs.length ∧ i = .int .i64 k ∧ Below w.heap.size w wr ∧ GInv wr w.heap.size 22 52 5 pcV tgP xs k vo) (fun _ i _ => xs.length - (intOf i).toNat)
  case atStart => exact ⟨0, Nat.zero_le _, rfl, Below.refl _ _, .inl ⟨rfl, rfl⟩⟩
  case round =>
    obtain ⟨k, hk, rfl, hW, hG⟩ := hrel
    have hws := hW.size
    by_cases hlt : k < xs.length
    · obtain ⟨x, hx⟩ := getElem?_ex hlt
      obtain ⟨xb, xo, hA', hbb, c0, c1, c2, c3, c4⟩ := (hA.below hW).at5 hx
      subst hA'
      have HGK := Lib.hid (grouped_take_succ tgP xs k x hx)
      have HX := Lib.hid hx
      clear hx
      rcases hG with ⟨rfl, rfl⟩ | ⟨h0, svs, vl, closed, ci, y, bl, h1, h2, h3, h4, h5, h6⟩
      · simp only [Nat.zero_mul, Nat.add_zero] at c0 c1 c2 c3 c4
        go_wp2_with fail
        go_quiet (fail)
        go_wp2_with (at_builtin; refine wpList_append_own _ rfl _ _ 138 rfl w.heap.size 22 i0 _ 1 24 Try.underlying138 hi hz0 hz1 hz2 rfl (by decide) (.slice none 0 0) 0 [] rfl (World.ownsRow_nil _ _ _ _) ⟨wr.heap.size + 2, 0, none⟩ 1 1 [.slice (some ⟨wr.heap.size + 1, 0, none⟩) 1 1] rfl rfl (cells_new _ [.slice (some ⟨wr.heap.size + 1, 0, none⟩) 1 1] _ _ (by simp)) (by simp [Value.oneCell']) (by simp only [maxLen]; omega) (by omega) (by simp; omega) ?_; intro v' w1 hown' hgrow _)
        obtain ⟨hB1, hO⟩ := after_app (f := fun u => [u]) (xs := []) (x := .slice (some ⟨wr.heap.size + 1, 0, none⟩) 1 1) (W := (((wr.alloc (.cells (pcV x).toArray 52)).drewN nq).alloc (.cells (pcV x).toArray 52))) (bthen (bdrewN (balloc _ _) nq) (balloc _ _)) (OwnL.nil wr w.heap.size 22 1 _) hws hown' rfl hgrow
        have hI : OwnL w1 (wr.heap.size + 1) 52 5 pcV (.slice (some ⟨wr.heap.size + 1, 0, none⟩) 1 1) [x] := ((OwnL.lit1 ((wr.alloc (.cells (pcV x).toArray 52)).drewN nq) 52 5 pcV x rfl (wr.heap.size + 1) (by simp)).below (balloc _ _)).other hgrow (.inr (by simp [Value.ownBlock]))
        have hG1 : GInv w1 w.heap.size 22 52 5 pcV tgP xs 1 v' := .inr ⟨by omega, [], _, [], [], x, _, by rw [HGK.out]; rfl, HX.out, ⟨rfl, fun i g hg => by simp at hg, hI, by omega⟩, hO, by simp, by simp⟩
        go_roundw
        case rel => exact ⟨0 + 1, by omega, by go_num, hW.trans (hB1), hG1⟩
        case measure => simp [intOf]; omega
      · have hd : decide ((0 : Int) < k) = true := by simpa using h0
        have e1 : IntKind.i64.wrap ((k : Int) - 1) = (k : Int) - 1 := IntWalk.i64_in _ (by omega)
        have e2 : 0 ≤ (k : Int) - 1 := by omega
        have e3 : ((k : Int) - 1).toNat = k - 1 := by omega
        have e4 : (k : Int) - 1 < xs.length := by omega
        obtain ⟨xb', xo', hA', _, d0, d1, d2, d3, d4⟩ := (hA.below hW).at5 h2
        injection hA' with hA'
        injection hA' with hA1 hA2
        subst hA1 hA2
        obtain ⟨ob, ocap, rfl, hob, hobl⟩ := h4.form1 (by simp)
        obtain ⟨m, hm⟩ : ∃ m, m = svs.length := ⟨_, rfl⟩
        have hml : (svs ++ [vl]).length = m + 1 := by simp [hm]
        have hcl := h3.n
        rw [hml] at h4 ⊢
        have hown1 : wr.ownsRow w.heap.size 22 1 (.slice (some ⟨ob, 0, none⟩) (m + 1) ocap) (m + 1) ((svs ++ [vl]).flatMap fun u => [u]) := by
          have := h4
          unfold OwnL at this
          rwa [hml] at this
        have hm2 : m + 1 ≤ k := by omega
        have HM := Lib.hid hm
        have HL := Lib.hid hml
        clear hm hml hcl
        cases htg : tgP y x
        · go_wp2_with fail
          refine wp_region_later (by kernel_rfl) (by kernel_rfl) ?_
          repeat (go_big_quiet_step ((go_at_call 91; exact later_out (htg ▸ same_any y x _))))
          refine wpQuiet_nil ?_
          rintro _ ⟨z, rfl⟩
          have hzb : Below wr.heap.size wr z.w := bthen (balloc _ _) z.b
          have hzs := hzb.size
          have hownz : z.w.ownsRow w.heap.size 22 1 (.slice (some ⟨ob, 0, none⟩) (m + 1) ocap) (m + 1) ((svs ++ [vl]).flatMap fun u => [u]) := by
            have := h4.below hzb
            unfold OwnL at this
            rwa [HL.out] at this
          go_wp2_with (at_builtin; go_loud (refine wpList_append_own _ rfl _ _ 138 rfl w.heap.size 22 i0 _ 1 24 Try.underlying138 hi hz0 hz1 hz2 rfl (by decide) (.slice (some ⟨ob, 0, none⟩) (m + 1) ocap) (m + 1) ((svs ++ [vl]).flatMap fun u => [u]) rfl (World.ownsRow.alloc (World.ownsRow.alloc hownz _) _) ⟨z.w.heap.size + 1, 0, none⟩ 1 1 [.slice (some ⟨z.w.heap.size, 0, none⟩) 1 1] rfl rfl (cells_new _ [.slice (some ⟨z.w.heap.size, 0, none⟩) 1 1] _ _ (by simp)) (by simp [Value.oneCell']) (by simp only [maxLen]; omega) (by omega) (by simp; omega) ?_; intro v' w1 hown' hgrow _))
          have hgrow2 : ((z.w.alloc (.cells (pcV x).toArray 52)).alloc (.cells #[.slice (some ⟨z.w.heap.size, 0, none⟩) 1 1] 22)).grownBy w1 (Value.slice (some ⟨ob, 0, none⟩) (m + 1) ocap).ownBlock := hgrow
          obtain ⟨hB1, hG1⟩ := GInv.new (f := pcV) rfl (by decide) h0 h1 h3 h4 h5 hws HX.out htg hzb rfl (by rw [← HM.out]) hown' hgrow2
          go_roundw
          case rel => exact ⟨k + 1, by omega, by go_num, hW.trans (hB1), hG1⟩
          case measure => simp [intOf]; omega
        · go_wp2_with fail
          refine wp_region_later (by kernel_rfl) (by kernel_rfl) ?_
          repeat (go_big_quiet_step ((go_at_call 91; exact later_out (htg ▸ same_any y x _))))
          refine wpQuiet_nil ?_
          rintro _ ⟨z, rfl⟩
          have hzb : Below wr.heap.size wr z.w := bthen (balloc _ _) z.b
          have hzs := hzb.size
          have qz := (Blk.new wr 52 (pcV x).toArray).below z.b (by simp)
          have q0 : z.w.cell? ⟨wr.heap.size, 0, none⟩ = some (.int .i64 x.len) := qz.cell 0
          have q1 : z.w.cell? ⟨wr.heap.size, 1, none⟩ = some (.int .i64 x.turn) := qz.cell 1
          have q2 : z.w.cell? ⟨wr.heap.size, 2, none⟩ = some (.int .i64 x.rad) := qz.cell 2
          have q3 : z.w.cell? ⟨wr.heap.size, 3, none⟩ = some (.int .i64 x.wid) := qz.cell 3
          have q4 : z.w.cell? ⟨wr.heap.size, 4, none⟩ = some (.int .i64 x.sur) := qz.cell 4
          have hownz := h4.below hzb
          have hownw : z.w.ownsRow w.heap.size 22 1 (.slice (some ⟨ob, 0, none⟩) (m + 1) ocap) (m + 1) ((svs ++ [vl]).flatMap fun u => [u]) := by
            have := h4.below hzb
            unfold OwnL at this
            rwa [HL.out] at this
          have hGz := h3.below hzb
          obtain ⟨gb, gcap, rfl, hgb, hgbl⟩ := h3.l.form1 (by simp)
          obtain ⟨n, hn'⟩ : ∃ n, n = ci.length := ⟨_, rfl⟩
          have hnl : (ci ++ [y]).length = n + 1 := by simp [hn']
          rw [hnl] at h3 h4 hownz hownw hGz
          have hownI : z.w.ownsRow bl 52 5 (.slice (some ⟨gb, 0, none⟩) (n + 1) gcap) (n + 1) ((ci ++ [y]).flatMap pcV) := by
            have := hGz.l
            unfold OwnL at this
            rwa [hnl] at this
          have hn2 : n + 1 ≤ k := by omega
          have HN := Lib.hid hn'
          have cm : z.w.cell? ⟨ob, m, none⟩ = some (.slice (some ⟨gb, 0, none⟩) (n + 1) gcap) := by
            rw [World.ownsRow.cellAt hownw m (by omega), fm1, HM.out]
            simp
          have f1 : IntKind.i64.wrap ((m : Int) + 1 - 1) = (m : Int) := by rw [IntWalk.i64_in _ (by omega)]; omega
          have f5 : IntKind.i64.wrap (m : Int) = (m : Int) := IntWalk.i64_in _ (by omega)
          have f2 : 0 ≤ (m : Int) := by omega
          have f3 : ((m : Int)).toNat = m := by omega
          have f4 : (m : Int) < (m : Int) + 1 := by omega
          have hobz : ob < z.w.heap.size := by omega
          clear hn' hnl c0 c1 c2 c3 c4 d0 d1 d2 d3 d4
          go_wp2_with fail
          go_region_law (go_loud (refine step_append_lies _ rfl _ _ _ rfl bl 52 j0 _ 5 40 Try.underlying22 hj hy0 hy1 hy2 rfl (by decide) (.slice (some ⟨gb, 0, none⟩) (n + 1) gcap) (n + 1) ((ci ++ [y]).flatMap pcV) rfl (World.ownsRow.alloc (World.ownsRow.drew hownI) _) ⟨z.w.heap.size, 0, none⟩ 1 1 (pcV x) rfl rfl (cells_new _ (pcV x) _ _ (by simp)) (by simp [pcV, Value.oneCell']) (by decide) (by simp only [maxLen]; omega) (by omega) (by simp; omega) _ rfl ?_; intro g' cap' w1 hown' hgrow hat hlt'; have ho1 := GB.kept hownw (hownz.ne hGz.l (by decide)) hgrow; have z1 := World.ownsRow.frozenAt ho1 m; have z2 : w1.cell? ⟨ob, m, none⟩ = some (.slice (some ⟨gb, 0, none⟩) (n + 1) gcap) := by rw [World.ownsRow.cellAt ho1 m (by omega), fm1, HM.out]; simp))
          all_goals
            have hgrow2 : (z.w.drew.alloc (.cells (pcV x).toArray 52)).grownBy w1 (Value.slice (some ⟨gb, 0, none⟩) (n + 1) gcap).ownBlock := hgrow
            obtain ⟨hB1, hG1⟩ := GInv.grow (t := 22) (by decide) h0 h1 h3 h4 (by rw [← HM.out]) h5 h6 hws HX.out htg hzb.drew HM.out (by rw [← HN.out]) hown' hgrow2
            go_wp2_with fail
            go_roundw
            case rel => exact ⟨k + 1, by omega, by go_num, hW.trans (hB1), hG1⟩
            case measure => simp [intOf]; omega
    · obtain rfl : k = xs.length := by omega
      obtain ⟨Ao, mo, co, rfl⟩ := hG.form
      go_wp2_with fail
      go_ret
      exact ⟨⟨_, rfl, hG.at⟩, hW⟩


end Go.Proofs.Ytbdjmaogbpdkpaa

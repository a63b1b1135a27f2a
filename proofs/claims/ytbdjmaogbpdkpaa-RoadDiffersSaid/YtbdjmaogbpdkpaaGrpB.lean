import Derived.Test.YtbdjmaogbpdkpaaGrp
import Derived.Deep.DeepCutAuto
import Derived.Deep.CutBlock
namespace Go.Proofs.Ytbdjmaogbpdkpaa
open Go.RowKit
attribute [local go_sem] Later.cell Later.cell1 Later.new1 Later.frozen Later.frozen1

theorem Try.info96 : (Try.prog.info? 96).map (fun i => (i.zero, i.size, i.bytes)) = some (some (.slice none 0 0), 1, 24) := by kernel_rfl
theorem Try.info101 : (Try.prog.info? 101).map (fun i => (i.zero, i.size, i.bytes)) = some (some (.agg #[.int .i64 0, .int .i64 0, .int .i64 0, .int .i64 0, .int .i64 0, .int .i64 0]), 6, 48) := by kernel_rfl
theorem Rd.at6 {w : World} {A : Option Addr} {ps : List Bd} (h : Rd 6 bdV w A ps) {i : Nat} {p : Bd} (hp : ps[i]? = some p) : ∃ b o, A = some ⟨b, o, none⟩ ∧ b < w.heap.size ∧
    w.cell? ⟨b, o + i * 6, none⟩ = some (.int .i64 p.p.len) ∧ w.cell? ⟨b, o + i * 6 + 1, none⟩ = some (.int .i64 p.p.turn) ∧ w.cell? ⟨b, o + i * 6 + 2, none⟩ = some (.int .i64 p.p.rad) ∧ w.cell? ⟨b, o + i * 6 + 3, none⟩ = some (.int .i64 p.p.wid) ∧ w.cell? ⟨b, o + i * 6 + 4, none⟩ = some (.int .i64 p.p.sur) ∧ w.cell? ⟨b, o + i * 6 + 5, none⟩ = some (.int .i64 p.fr) := by
  obtain ⟨b, o, rfl, hlt, hc⟩ := h i p hp
  exact ⟨b, o, rfl, hlt, hc 0 _ rfl, hc 1 _ rfl, hc 2 _ rfl, hc 3 _ rfl, hc 4 _ rfl, hc 5 _ rfl⟩

/-- How the groups lie behind n elements. -/
def GInv {α : Type} (w : World) (b0 : Nat) (t e : TypeId) (k : Nat) (f : α → List Value) (tg : α → α → Bool) (xs : List α) (n : Nat) (vo : Value) : Prop :=
  (n = 0 ∧ vo = .slice none 0 0) ∨ (0 < n ∧ ∃ svs vl closed ci y bl, grouped tg (xs.take n) = closed ++ [ci ++ [y]] ∧ xs[n - 1]? = some y ∧ Grp w b0 e k f svs vl closed (ci ++ [y]) bl ∧ OwnL w b0 t 1 (fun u => [u]) vo (svs ++ [vl]) ∧ closed.length + 1 ≤ n ∧ ci.length + 1 ≤ n)
theorem GInv.below {α : Type} {w w' : World} {b0 : Nat} {t e : TypeId} {k : Nat} {f : α → List Value} {tg : α → α → Bool} {xs : List α} {n : Nat} {vo : Value} (h : GInv w b0 t e k f tg xs n vo) (hb : Below w.heap.size w w') : GInv w' b0 t e k f tg xs n vo := by
  rcases h with h | ⟨h0, svs, vl, closed, ci, y, bl, h1, h2, h3, h4, h5, h6⟩
  · exact .inl h
  · exact .inr ⟨h0, svs, vl, closed, ci, y, bl, h1, h2, h3.below hb, h4.below hb, h5, h6⟩
theorem GInv.form {α : Type} {w : World} {b0 : Nat} {t e : TypeId} {k : Nat} {f : α → List Value} {tg : α → α → Bool} {xs : List α} {n : Nat} {vo : Value} (h : GInv w b0 t e k f tg xs n vo) : ∃ A m c, vo = .slice A m c := by
  rcases h with ⟨_, rfl⟩ | ⟨h0, svs, vl, closed, ci, y, bl, h1, h2, h3, h4, h5, h6⟩
  · exact ⟨_, _, _, rfl⟩
  · obtain ⟨A, c, rfl⟩ := h4.form
    exact ⟨_, _, _, rfl⟩
theorem GInv.at {α : Type} {w : World} {b0 : Nat} {t e : TypeId} {k : Nat} {f : α → List Value} {tg : α → α → Bool} {xs : List α} {vo : Value} (h : GInv w b0 t e k f tg xs xs.length vo) : GroupsAt w b0 t e k f vo (grouped tg xs) := by
  rcases h with ⟨h0, rfl⟩ | ⟨h0, svs, vl, closed, ci, y, bl, h1, h2, h3, h4, h5, h6⟩
  · rw [List.eq_nil_of_length_eq_zero h0]
    exact ⟨[], OwnL.nil _ _ _ _ _, rfl, fun i g hg => by simp [grouped] at hg⟩
  · rw [List.take_length] at h1
    rw [h1]
    refine ⟨svs ++ [vl], h4, by simp [h3.n], fun i g hg => ?_⟩
    by_cases hi : i < closed.length
    · rw [List.getElem?_append_left hi] at hg
      obtain ⟨sv, g1, g2, g3⟩ := h3.c i g hg
      exact ⟨sv, by rw [List.getElem?_append_left (by rw [h3.n]; exact hi)]; exact g1, g2⟩
    · rw [List.getElem?_append_right (by omega)] at hg
      have hz : i - closed.length = 0 := by
        have := (List.getElem?_eq_some_iff.1 hg).1
        simp at this
        omega
      rw [hz] at hg
      simp only [List.getElem?_cons_zero, Option.some.injEq] at hg
      subst hg
      exact ⟨vl, by rw [List.getElem?_append_right (by rw [h3.n]; omega), h3.n, hz]; rfl, h3.l.base_mono h3.b⟩

/-- A slice built on the spot owns its block. -/
theorem OwnL.lit1 {α : Type} (w : World) (e : TypeId) (k : Nat) (f : α → List Value) (x : α) (hk : (f x).length = k) (n : Nat) (hn : n = w.heap.size) : OwnL (w.alloc (.cells (f x).toArray e)) n e k f (.slice (some ⟨n, 0, none⟩) 1 1) [x] := by
  subst hn
  have := World.ownsRow_lit (base := w.heap.size) (e := e) (size := k) w (f x).toArray 1 (Nat.le_refl _) (by simp [maxLen]) (by simp [hk])
  unfold OwnL
  simpa using this

theorem fm1 (l : List Value) : (l.flatMap fun u => [u]) = l := by
  induction l with
  | nil => rfl
  | cons x l ih => rw [List.flatMap_cons, ih]; rfl
/-- One group more. -/
theorem GInv.new {α : Type} {wr W w1 : World} {b0 : Nat} {t e : TypeId} {k : Nat} {f : α → List Value} {tg : α → α → Bool} {xs : List α} {n m : Nat} {vo v' : Value} {x y : α} {svs : List Value} {vl : Value} {closed : List (List α)} {ci : List α} {bl N : Nat} {tmp : Obj}
    (hk : (f x).length = k) (hne : e ≠ t) (h0 : 0 < n) (h1 : grouped tg (xs.take n) = closed ++ [ci ++ [y]]) (h3 : Grp wr b0 e k f svs vl closed (ci ++ [y]) bl) (h4 : OwnL wr b0 t 1 (fun u => [u]) vo (svs ++ [vl])) (h5 : closed.length + 1 ≤ n) (hb0 : b0 ≤ wr.heap.size)
    (hx : xs[n]? = some x) (htg : tg y x = false) (hW : Below wr.heap.size wr W) (hN : N = W.heap.size) (hm : m = svs.length + 2)
    (hown' : w1.ownsRow b0 t 1 v' m ((svs ++ [vl]).flatMap (fun u => [u]) ++ [.slice (some ⟨N, 0, none⟩) 1 1])) (hgrow : ((W.alloc (.cells (f x).toArray e)).alloc tmp).grownBy w1 vo.ownBlock) :
    Below b0 wr w1 ∧ GInv w1 b0 t e k f tg xs (n + 1) v' := by
  have B2 : Below wr.heap.size wr (W.alloc (.cells (f x).toArray e)) := bthen hW (balloc _ _)
  have B3 : Below wr.heap.size wr ((W.alloc (.cells (f x).toArray e)).alloc tmp) := bthen B2 (balloc _ _)
  obtain ⟨hB, hO⟩ := after_app (f := fun u => [u]) (x := .slice (some ⟨N, 0, none⟩) 1 1) B2 h4 hb0 hown' (by simp [hm]) hgrow
  have hI : OwnL ((W.alloc (.cells (f x).toArray e)).alloc tmp) N e k f (.slice (some ⟨N, 0, none⟩) 1 1) [x] := (OwnL.lit1 W e k f x hk N hN).below (balloc _ _)
  have hI1 := hI.other hgrow (hI.ne (h4.below B3) hne)
  have hG1 := (h3.below B3).outer (h4.below B3) hne hgrow
  have hbl := (h3.l.form1 (by simp))
  obtain ⟨gb, gcap, hgb, hgb1, hgb2⟩ := hbl
  have hsz := hW.size
  refine ⟨hB, .inr ⟨by omega, svs ++ [vl], _, closed ++ [ci ++ [y]], [], x, N, ?_, by simpa using hx, hG1.close hI1 ?_ (by omega), hO, by simp; omega, by simp⟩⟩
  · rw [grouped_take_succ tg xs n x hx, h1, gadd_new _ _ _ _ _ htg]
    simp
  · intro q hq
    have := (h3.l.lt q hq).2
    omega

/-- One element more in the open group. -/
theorem GInv.grow {α : Type} {wr W w1 : World} {b0 : Nat} {t e : TypeId} {k : Nat} {f : α → List Value} {tg : α → α → Bool} {xs : List α} {n m M c ob oc : Nat} {v' : Value} {x y : α} {svs : List Value} {vl : Value} {closed : List (List α)} {ci : List α} {bl : Nat} {tmp : Obj}
    (hne : e ≠ t) (h0 : 0 < n) (h1 : grouped tg (xs.take n) = closed ++ [ci ++ [y]]) (h3 : Grp wr b0 e k f svs vl closed (ci ++ [y]) bl) (h4 : OwnL wr b0 t 1 (fun u => [u]) (.slice (some ⟨ob, 0, none⟩) M oc) (svs ++ [vl])) (hM : M = svs.length + 1) (h5 : closed.length + 1 ≤ n) (h6 : ci.length + 1 ≤ n) (hb0 : b0 ≤ wr.heap.size)
    (hx : xs[n]? = some x) (htg : tg y x = true) (hW : Below wr.heap.size wr W) (hm : m = svs.length) (hc : c = ci.length + 2)
    (hown' : w1.ownsRow bl e k v' c ((ci ++ [y]).flatMap f ++ f x)) (hgrow : (W.alloc tmp).grownBy w1 vl.ownBlock) :
    Below b0 wr (w1.setCell ⟨ob, m, none⟩ v') ∧ GInv (w1.setCell ⟨ob, m, none⟩ v') b0 t e k f tg xs (n + 1) (.slice (some ⟨ob, 0, none⟩) M oc) := by
  have B3 : Below wr.heap.size wr (W.alloc tmp) := bthen hW (balloc _ _)
  have h43 := h4.below B3
  have h33 := h3.below B3
  have ho1 := h43.other hgrow (h43.ne h33.l hne.symm)
  have hl1 : OwnL w1 bl e k f v' (ci ++ [y] ++ [x]) := OwnL.snoc hown' (by simp [hc])
  have hG1 := h33.inner hgrow hl1
  have ho2 := ho1.store (i := m) (j := 0) (x := vl) (x' := v') (u := v') (by simp [hM]) (fun _ => rfl) (by simp [hm]) (by omega) rfl
  rw [Nat.mul_one, Nat.add_zero] at ho2
  rw [show (svs ++ [vl]).set m v' = svs ++ [v'] by simp [hm]] at ho2
  have hrow : w1.ownsRow b0 t 1 (.slice (some ⟨ob, 0, none⟩) M oc) M ((svs ++ [vl]).flatMap fun u => [u]) := by
    have := ho1
    unfold OwnL at this
    rwa [show (svs ++ [vl]).length = M by simp [hM]] at this
  have hst := (World.ownsRow.stored hrow m v').2
  have hG2 := hG1.outer ho1 hne hst
  obtain ⟨gb, gcap, hgb, hgb1, hgb2⟩ := h33.l.form1 (by simp)
  have hB1 : Below b0 wr w1 := (B3.mono hb0).trans ((h33.l.grown_below (by omega) hgrow).mono h33.b)
  refine ⟨hB1.setCell (p := ⟨ob, m, none⟩) (h4.lt ob rfl).1 _, .inr ⟨by omega, svs, v', closed, ci ++ [y], x, bl, ?_, by simpa using hx, hG2, ho2, by omega, by simp; omega⟩⟩
  rw [grouped_take_succ tg xs n x hx, h1, gadd_same _ _ _ _ _ htg]
theorem GB.kept {wr w1 : World} {b0 : Nat} {t : TypeId} {v v' : Value} {n : Nat} {vs : List Value} {tmp : Obj} (h : wr.ownsRow b0 t 1 v n vs) (hne : v.ownBlock = none ∨ v.ownBlock ≠ v'.ownBlock) (hg : (wr.drew.alloc tmp).grownBy w1 v'.ownBlock) : w1.ownsRow b0 t 1 v n vs :=
  World.ownsRow.kept (World.ownsRow.alloc (World.ownsRow.drew h) tmp) hg hne

set_option maxRecDepth 100000 in
set_option maxHeartbeats 2000000 in
theorem groupedB_any (xs : List Bd) (A : Option Addr) (a : Nat) (gap least : Int) (cb : Nat) (w : World) (hA : Rd 6 bdV w A xs) (hok : ∀ x ∈ xs, okBd x) (hn : xs.length ≤ 2000) (hb : Box w cb [.int .i64 gap, .int .i64 least]) (hg0 : 0 ≤ gap) (hg1 : gap ≤ 1000) :
    Calls Try.prog 59 #[.slice A xs.length a, .func (.func 60) #[] #[.pointer (some ⟨cb, 0, none⟩)]] w fun e w' => (∃ v, e = .returned v ∧ GroupsAt w' w.heap.size 96 101 6 bdV v (grouped (tgB gap) xs)) ∧ Below w.heap.size w w' := by
  obtain ⟨i0, hi, hz0, hz1, hz2⟩ := info_parts Try.info96
  obtain ⟨j0, hj, hy0, hy1, hy2⟩ := info_parts Try.info101
  go_enter Try.func59, Try.ntmps59
  go_wp2
  go_loopw [5, 10] (fun vo i wr => ∃ k : Nat, k ≤ xs.length ∧ i = .int .i64 k ∧ Below w.heap.size w wr ∧ GInv wr w.heap.size 96 101 6 bdV (tgB gap) xs k vo) (fun _ i _ => xs.length - (intOf i).toNat)
  case atStart => exact ⟨0, Nat.zero_le _, rfl, Below.refl _ _, .inl ⟨rfl, rfl⟩⟩
  case round =>
    obtain ⟨k, hk, rfl, hW, hG⟩ := hrel
    have hws := hW.size
    by_cases hlt : k < xs.length
    · obtain ⟨x, hx⟩ := getElem?_ex hlt
      have hokx := hok x (List.mem_of_getElem? hx)
      obtain ⟨xb, xo, hA', hbb, c0, c1, c2, c3, c4, c5⟩ := (hA.below hW).at6 hx
      subst hA'
      have HGK := Lib.hid (grouped_take_succ (tgB gap) xs k x hx)
      have HX := Lib.hid hx
      clear hx
      rcases hG with ⟨rfl, rfl⟩ | ⟨h0, svs, vl, closed, ci, y, bl, h1, h2, h3, h4, h5, h6⟩
      · simp only [Nat.zero_mul, Nat.add_zero] at c0 c1 c2 c3 c4 c5
        go_wp2_with fail
        go_quiet (fail)
        go_wp2_with (at_builtin; refine wpList_append_own _ rfl _ _ 102 rfl w.heap.size 96 i0 _ 1 24 Try.underlying102 hi hz0 hz1 hz2 rfl (by decide) (.slice none 0 0) 0 [] rfl (World.ownsRow_nil _ _ _ _) ⟨wr.heap.size + 2, 0, none⟩ 1 1 [.slice (some ⟨wr.heap.size + 1, 0, none⟩) 1 1] rfl rfl (cells_new _ [.slice (some ⟨wr.heap.size + 1, 0, none⟩) 1 1] _ _ (by simp)) (by simp [Value.oneCell']) (by simp only [maxLen]; omega) (by omega) (by simp; omega) ?_; intro v' w1 hown' hgrow _)
        obtain ⟨hB1, hO⟩ := after_app (f := fun u => [u]) (xs := []) (x := .slice (some ⟨wr.heap.size + 1, 0, none⟩) 1 1) (W := (((wr.alloc (.cells (bdV x).toArray 101)).drewN nq).alloc (.cells (bdV x).toArray 101))) (bthen (bdrewN (balloc _ _) nq) (balloc _ _)) (OwnL.nil wr w.heap.size 96 1 _) hws hown' rfl hgrow
        have hI : OwnL w1 (wr.heap.size + 1) 101 6 bdV (.slice (some ⟨wr.heap.size + 1, 0, none⟩) 1 1) [x] := ((OwnL.lit1 ((wr.alloc (.cells (bdV x).toArray 101)).drewN nq) 101 6 bdV x rfl (wr.heap.size + 1) (by simp)).below (balloc _ _)).other hgrow (.inr (by simp [Value.ownBlock]))
        have hG1 : GInv w1 w.heap.size 96 101 6 bdV (tgB gap) xs 1 v' := .inr ⟨by omega, [], _, [], [], x, _, by rw [HGK.out]; rfl, HX.out, ⟨rfl, fun i g hg => by simp at hg, hI, by omega⟩, hO, by simp, by simp⟩
        go_roundw
        case rel => exact ⟨0 + 1, by omega, by go_num, hW.trans (hB1), hG1⟩
        case measure => simp [intOf]; omega
      · have hd : decide ((0 : Int) < k) = true := by simpa using h0
        have e1 : IntKind.i64.wrap ((k : Int) - 1) = (k : Int) - 1 := IntWalk.i64_in _ (by omega)
        have e2 : 0 ≤ (k : Int) - 1 := by omega
        have e3 : ((k : Int) - 1).toNat = k - 1 := by omega
        have e4 : (k : Int) - 1 < xs.length := by omega
        have hoky := hok y (List.mem_of_getElem? h2)
        obtain ⟨xb', xo', hA', _, d0, d1, d2, d3, d4, d5⟩ := (hA.below hW).at6 h2
        injection hA' with hA'
        injection hA' with hA1 hA2
        subst hA1 hA2
        have hbw := hb.below hW
        obtain ⟨ob, ocap, rfl, hob, hobl⟩ := h4.form1 (by simp)
        obtain ⟨m, hm⟩ : ∃ m, m = svs.length := ⟨_, rfl⟩
        have hml : (svs ++ [vl]).length = m + 1 := by simp [hm]
        have hcl := h3.n
        rw [hml] at h4 ⊢
        have hown1 : wr.ownsRow w.heap.size 96 1 (.slice (some ⟨ob, 0, none⟩) (m + 1) ocap) (m + 1) ((svs ++ [vl]).flatMap fun u => [u]) := by
          have := h4
          unfold OwnL at this
          rwa [hml] at this
        have hm2 : m + 1 ≤ k := by omega
        have HM := Lib.hid hm
        have HL := Lib.hid hml
        clear hm hml hcl
        cases htg : tgB gap y x
        · go_wp2_with fail
          refine wp_region_later (by kernel_rfl) (by kernel_rfl) ?_
          repeat (go_big_quiet_step ((go_at_call 60; exact later_out (htg ▸ together_any y x gap least cb _ hoky hokx ((hbw.below (balloc _ _)).below (Later.b _)) hg0 hg1))))
          refine wpQuiet_nil ?_
          rintro _ ⟨z, rfl⟩
          have hzb : Below wr.heap.size wr z.w := bthen (balloc _ _) z.b
          have hzs := hzb.size
          have hownz : z.w.ownsRow w.heap.size 96 1 (.slice (some ⟨ob, 0, none⟩) (m + 1) ocap) (m + 1) ((svs ++ [vl]).flatMap fun u => [u]) := by
            have := h4.below hzb
            unfold OwnL at this
            rwa [HL.out] at this
          go_wp2_with (at_builtin; go_loud (refine wpList_append_own _ rfl _ _ 102 rfl w.heap.size 96 i0 _ 1 24 Try.underlying102 hi hz0 hz1 hz2 rfl (by decide) (.slice (some ⟨ob, 0, none⟩) (m + 1) ocap) (m + 1) ((svs ++ [vl]).flatMap fun u => [u]) rfl (World.ownsRow.alloc (World.ownsRow.alloc hownz _) _) ⟨z.w.heap.size + 1, 0, none⟩ 1 1 [.slice (some ⟨z.w.heap.size, 0, none⟩) 1 1] rfl rfl (cells_new _ [.slice (some ⟨z.w.heap.size, 0, none⟩) 1 1] _ _ (by simp)) (by simp [Value.oneCell']) (by simp only [maxLen]; omega) (by omega) (by simp; omega) ?_; intro v' w1 hown' hgrow _))
          have hgrow2 : ((z.w.alloc (.cells (bdV x).toArray 101)).alloc (.cells #[.slice (some ⟨z.w.heap.size, 0, none⟩) 1 1] 96)).grownBy w1 (Value.slice (some ⟨ob, 0, none⟩) (m + 1) ocap).ownBlock := hgrow
          obtain ⟨hB1, hG1⟩ := GInv.new (f := bdV) rfl (by decide) h0 h1 h3 h4 h5 hws HX.out htg hzb rfl (by rw [← HM.out]) hown' hgrow2
          go_roundw
          case rel => exact ⟨k + 1, by omega, by go_num, hW.trans (hB1), hG1⟩
          case measure => simp [intOf]; omega
        · go_wp2_with fail
          refine wp_region_later (by kernel_rfl) (by kernel_rfl) ?_
          repeat (go_big_quiet_step ((go_at_call 60; exact later_out (htg ▸ together_any y x gap least cb _ hoky hokx ((hbw.below (balloc _ _)).below (Later.b _)) hg0 hg1))))
          refine wpQuiet_nil ?_
          rintro _ ⟨z, rfl⟩
          have hzb : Below wr.heap.size wr z.w := bthen (balloc _ _) z.b
          have hzs := hzb.size
          have qz := (Blk.new wr 101 (bdV x).toArray).below z.b (by simp)
          have q0 : z.w.cell? ⟨wr.heap.size, 0, none⟩ = some (.int .i64 x.p.len) := qz.cell 0
          have q1 : z.w.cell? ⟨wr.heap.size, 1, none⟩ = some (.int .i64 x.p.turn) := qz.cell 1
          have q2 : z.w.cell? ⟨wr.heap.size, 2, none⟩ = some (.int .i64 x.p.rad) := qz.cell 2
          have q3 : z.w.cell? ⟨wr.heap.size, 3, none⟩ = some (.int .i64 x.p.wid) := qz.cell 3
          have q4 : z.w.cell? ⟨wr.heap.size, 4, none⟩ = some (.int .i64 x.p.sur) := qz.cell 4
          have q5 : z.w.cell? ⟨wr.heap.size, 5, none⟩ = some (.int .i64 x.fr) := qz.cell 5
          have hownz := h4.below hzb
          have hownw : z.w.ownsRow w.heap.size 96 1 (.slice (some ⟨ob, 0, none⟩) (m + 1) ocap) (m + 1) ((svs ++ [vl]).flatMap fun u => [u]) := by
            have := h4.below hzb
            unfold OwnL at this
            rwa [HL.out] at this
          have hGz := h3.below hzb
          obtain ⟨gb, gcap, rfl, hgb, hgbl⟩ := h3.l.form1 (by simp)
          obtain ⟨n, hn'⟩ : ∃ n, n = ci.length := ⟨_, rfl⟩
          have hnl : (ci ++ [y]).length = n + 1 := by simp [hn']
          rw [hnl] at h3 h4 hownz hownw hGz
          have hownI : z.w.ownsRow bl 101 6 (.slice (some ⟨gb, 0, none⟩) (n + 1) gcap) (n + 1) ((ci ++ [y]).flatMap bdV) := by
            have := hGz.l
            unfold OwnL at this
            rwa [hnl] at this
          have hn2 : n + 1 ≤ k := by omega
          have HN := Lib.hid hn'
          have cm : z.w.cell? ⟨ob, m, none⟩ = some (.slice (some ⟨gb, 0, none⟩) (n + 1) gcap) := by
            rw [World.ownsRow.cellAt hownw m (by omega), fm1, HM.out]
            simp
          have f1 : IntKind.i64.wrap ((m : Int) + 1 - 1) = (m : Int) := by rw [IntWalk.i64_in _ (by omega)]; omega
          have f5 : IntKind.i64.wrap (m : Int) = (m : Int) := IntWalk.i64_in _ (by omega)
          have f2 : 0 ≤ (m : Int) := by omega
          have f3 : ((m : Int)).toNat = m := by omega
          have f4 : (m : Int) < (m : Int) + 1 := by omega
          have hobz : ob < z.w.heap.size := by omega
          clear hn' hnl c0 c1 c2 c3 c4 c5 d0 d1 d2 d3 d4 d5
          go_wp2_with fail
          go_region_law (go_loud (refine step_append_lies _ rfl _ _ _ rfl bl 101 j0 _ 6 48 Try.underlying96 hj hy0 hy1 hy2 rfl (by decide) (.slice (some ⟨gb, 0, none⟩) (n + 1) gcap) (n + 1) ((ci ++ [y]).flatMap bdV) rfl (World.ownsRow.alloc (World.ownsRow.drew hownI) _) ⟨z.w.heap.size, 0, none⟩ 1 1 (bdV x) rfl rfl (cells_new _ (bdV x) _ _ (by simp)) (by simp [bdV, Value.oneCell']) (by decide) (by simp only [maxLen]; omega) (by omega) (by simp; omega) _ rfl ?_; intro g' cap' w1 hown' hgrow hat hlt'; have ho1 := GB.kept hownw (hownz.ne hGz.l (by decide)) hgrow; have z1 := World.ownsRow.frozenAt ho1 m; have z2 : w1.cell? ⟨ob, m, none⟩ = some (.slice (some ⟨gb, 0, none⟩) (n + 1) gcap) := by rw [World.ownsRow.cellAt ho1 m (by omega), fm1, HM.out]; simp))
          all_goals
            have hgrow2 : (z.w.drew.alloc (.cells (bdV x).toArray 101)).grownBy w1 (Value.slice (some ⟨gb, 0, none⟩) (n + 1) gcap).ownBlock := hgrow
            obtain ⟨hB1, hG1⟩ := GInv.grow (t := 96) (by decide) h0 h1 h3 h4 (by rw [← HM.out]) h5 h6 hws HX.out htg hzb.drew HM.out (by rw [← HN.out]) hown' hgrow2
            go_wp2_with fail
            go_roundw
            case rel => exact ⟨k + 1, by omega, by go_num, hW.trans (hB1), hG1⟩
            case measure => simp [intOf]; omega
    · obtain rfl : k = xs.length := by omega
      obtain ⟨Ao, mo, co, rfl⟩ := hG.form
      go_wp2_with fail
      go_ret
      exact ⟨⟨_, rfl, hG.at⟩, hW⟩

end Go.Proofs.Ytbdjmaogbpdkpaa

import Derived.Test.YtbdjmaogbpdkpaaOwnL
import Derived.Deep.DeepCutAuto
import Derived.Deep.CutBlock
namespace Go.Proofs.Ytbdjmaogbpdkpaa
open Go.RowKit
attribute [local go_sem] Later.cell Later.cell1 Later.new1 Later.frozen Later.frozen1

/-- One bend behind the groups gs. -/
def gput (gap : Int) (gs : List Co) (at_ : Int) (p : Pc) : List Co :=
  match gs.getLast? with
  | some g => if g.turn = p.turn ∧ at_ - g.to ≤ gap then gs.dropLast ++ [{ g with «to» := at_ + p.len, rad := min g.rad p.rad, out := p.rad }] else gs ++ [⟨at_, at_ + p.len, p.turn, p.rad, p.rad, p.rad, 0⟩]
  | none => gs ++ [⟨at_, at_ + p.len, p.turn, p.rad, p.rad, p.rad, 0⟩]
def gstep (gap : Int) (s : List Co × Int) (p : Pc) : List Co × Int := (if p.turn = 0 then s.1 else gput gap s.1 s.2 p, s.2 + p.len)
def grp (gap : Int) (ps : List Pc) : List Co × Int := ps.foldl (gstep gap) ([], 0)
theorem grp_take_succ (gap : Int) (ps : List Pc) (k : Nat) (p : Pc) (hp : ps[k]? = some p) : grp gap (ps.take (k + 1)) = gstep gap (grp gap (ps.take k)) p := by
  unfold grp
  rw [List.take_add_one, hp, List.foldl_append]
  rfl
/-- What is known of the groups of pieces that are as defined. -/
def goodCo (n : Int) (c : Co) : Prop := 0 ≤ c.fr ∧ c.fr ≤ c.to ∧ c.to ≤ n ∧ -1 ≤ c.turn ∧ c.turn ≤ 1 ∧ 5 ≤ c.rad ∧ c.rad ≤ 2000
theorem grp_at (gap : Int) (ps : List Pc) : (grp gap ps).2 = lenSum ps := by
  have : ∀ (ps : List Pc) (s : List Co × Int), (ps.foldl (gstep gap) s).2 = s.2 + lenSum ps := by
    intro ps
    induction ps with
    | nil => intro s; simp [lenSum]
    | cons p ps ih =>
      intro s
      rw [List.foldl_cons, ih]
      simp only [gstep, lenSum, List.map_cons, List.sum_cons]
      omega
  rw [grp, this]
  simp
theorem gput_len (gap : Int) (gs : List Co) (at_ : Int) (p : Pc) : (gput gap gs at_ p).length ≤ gs.length + 1 := by
  unfold gput
  split
  · split
    · simp
    · simp
  · simp
theorem gput_good (gap : Int) (gs : List Co) (at_ : Int) (p : Pc) (h0 : 0 ≤ at_) (hp1 : 1 ≤ p.len) (ht : p.turn = -1 ∨ p.turn = 1) (hr : 5 ≤ p.rad ∧ p.rad ≤ 2000) (hg : ∀ c ∈ gs, goodCo at_ c) : ∀ c ∈ gput gap gs at_ p, goodCo (at_ + p.len) c := by
  have up : ∀ c, goodCo at_ c → goodCo (at_ + p.len) c := fun c h => by unfold goodCo at *; omega
  have new : goodCo (at_ + p.len) ⟨at_, at_ + p.len, p.turn, p.rad, p.rad, p.rad, 0⟩ := by unfold goodCo; simp only; omega
  unfold gput
  split
  · rename_i g hgl
    have hgm := hg g (List.mem_of_getLast? hgl)
    split
    · intro c hc
      rw [List.mem_append] at hc
      rcases hc with hc | hc
      · exact up c (hg c (List.dropLast_subset _ hc))
      · simp only [List.mem_singleton] at hc
        subst hc
        unfold goodCo at *
        simp only
        omega
    · intro c hc
      rw [List.mem_append] at hc
      rcases hc with hc | hc
      · exact up c (hg c hc)
      · simp only [List.mem_singleton] at hc
        subst hc
        exact new
  · intro c hc
    rw [List.mem_append] at hc
    rcases hc with hc | hc
    · exact up c (hg c hc)
    · simp only [List.mem_singleton] at hc
      subst hc
      exact new
theorem grp_good (gap : Int) (r : Road) (hok : okPs r) : ∀ k, k ≤ r.ps.length → (grp gap (r.ps.take k)).1.length ≤ k ∧ ∀ c ∈ (grp gap (r.ps.take k)).1, goodCo (lenSum (r.ps.take k)) c := by
  intro k
  induction k with
  | zero => intro _; simp [grp]
  | succ k ih =>
    intro hk
    obtain ⟨h1, h2⟩ := ih (by omega)
    have hlt : k < r.ps.length := by omega
    have hp := List.getElem?_eq_getElem hlt
    obtain ⟨i1, i2, i3, i4, i5, i6⟩ := hok.at hlt
    rw [grp_take_succ gap r.ps k _ hp, lenSum_take_succ r.ps k _ hp, gstep]
    have ha := grp_at gap (r.ps.take k)
    have hb := (hok.beg k).1
    dsimp only
    split
    · exact ⟨by omega, fun c hc => by have := h2 c hc; unfold goodCo at *; omega⟩
    · rename_i hne
      rw [ha]
      refine ⟨by have := gput_len gap (grp gap (r.ps.take k)).1 (lenSum (r.ps.take k)) r.ps[k]; omega, gput_good gap _ _ _ hb i1 (by omega) (i5 hne) h2⟩

def finCo (r : Road) (c : Co) : Co := { c with ang := max (up r.ps c.to - up r.ps c.fr) (-(up r.ps c.to - up r.ps c.fr)) }
def keepCo (r : Road) (least : Int) (c : Co) : Option Co := if least ≤ (finCo r c).ang then some (finCo r c) else none
def cornersS (r : Road) (gap least : Int) : List Co := (grp gap r.ps).1.filterMap (keepCo r least)

theorem gput_app (gap : Int) (gs : List Co) (at_ : Int) (p : Pc) (h : ∀ g, gs.getLast? = some g → ¬ (g.turn = p.turn ∧ at_ - g.to ≤ gap)) : gput gap gs at_ p = gs ++ [⟨at_, at_ + p.len, p.turn, p.rad, p.rad, p.rad, 0⟩] := by
  unfold gput
  split
  · rename_i g hg
    rw [if_neg (h g hg)]
  · rfl
theorem gput_upd (gap : Int) (gi : List Co) (g : Co) (at_ : Int) (p : Pc) (h1 : g.turn = p.turn) (h2 : at_ - g.to ≤ gap) : gput gap (gi ++ [g]) at_ p = gi ++ [{ g with «to» := at_ + p.len, rad := min g.rad p.rad, out := p.rad }] := by
  unfold gput
  simp [h1, h2]

theorem blk_app {W w1 : World} {base : Nat} {e t : TypeId} {size k g : Nat} {v : Value} {xs : List Value} {cs : Array Value} {tmp : Obj} (hb : Blk W g t cs) (hr : W.ownsRow base e size v k xs) (hne : e ≠ t) (hg : (W.alloc tmp).grownBy w1 v.ownBlock) : Blk w1 g t cs :=
  (hb.alloc tmp).grown hg (own_blk_ne (World.ownsRow.alloc hr tmp) (hb.alloc tmp) hne).symm
theorem after_app {α : Type} {wr W w1 : World} {base : Nat} {e : TypeId} {k n : Nat} {f : α → List Value} {v v' : Value} {xs : List α} {x : α} {tmp : Obj} (hW : Below wr.heap.size wr W) (hown : OwnL wr base e k f v xs) (hbase : base ≤ wr.heap.size)
    (hown' : w1.ownsRow base e k v' n (xs.flatMap f ++ f x)) (hn : n = xs.length + 1) (hgrow : (W.alloc tmp).grownBy w1 v.ownBlock) : Below base wr w1 ∧ OwnL w1 base e k f v' (xs ++ [x]) := by
  refine ⟨(hW.mono hbase).trans (((Below.refl _ W).alloc (Nat.le_trans hbase hW.size) tmp).trans (((hown.below hW).below (balloc W tmp)).grown_below (by have := hW.size; simp; omega) hgrow)), OwnL.snoc hown' hn⟩
theorem fm_take_succ {α β : Type} (f : α → Option β) (xs : List α) (j : Nat) (x : α) (hx : xs[j]? = some x) : (xs.take (j + 1)).filterMap f = (xs.take j).filterMap f ++ (f x).toList := by
  rw [List.take_add_one, hx, List.filterMap_append]
  congr 1
theorem nil_or_snoc {α : Type} (l : List α) : l = [] ∨ ∃ i x, l = i ++ [x] := by
  rcases List.eq_nil_or_concat l with h | ⟨i, x, h⟩
  · exact .inl h
  · exact .inr ⟨i, x, by rw [h, List.concat_eq_append]⟩
theorem Box.keep {w w' : World} {n B : Nat} {vs : List Value} (h : Box w n vs) (hb : Below B w w') (hn : n < B) : Box w' n vs :=
  ⟨Nat.lt_of_lt_of_le h.1 hb.size, fun j u hu => (hb.cell (p := ⟨n, j, none⟩) hn).trans (h.2 j u hu)⟩

set_option maxRecDepth 100000 in
set_option maxHeartbeats 2000000 in
theorem rcorners_any (r : Road) (A B C : Option Addr) (a b c : Nat) (gap least : Int) (w : World) (h : RdRoad w r A B C) (hok : okPs r) (hg0 : 0 ≤ gap) (hg1 : gap ≤ 1000) :
    Calls Try.prog 28 #[.agg #[.slice A r.ps.length a, .slice B r.cs.length b, .slice C r.js.length c], .agg #[.int .i64 gap, .int .i64 least]] w fun e w' => (∃ v, e = .returned v ∧ OwnL w' w.heap.size 50 7 coV v (cornersS r gap least)) ∧ Below w.heap.size w w' := by
  obtain ⟨i0, hi, hz0, hz1, hz2⟩ := info_parts Try.info50
  have hlen := hok.2
  have hB0 := Box.new (w.alloc (.cells #[.slice A r.ps.length a, .slice B r.cs.length b, .slice C r.js.length c] 26)) [.int .i64 gap, .int .i64 least] 41
  rw [World.size_alloc] at hB0
  go_enter Try.func28, Try.ntmps28
  go_wp2
  go_loopw [5, 6, 7] (fun v at_ i wr => ∃ k : Nat, k ≤ r.ps.length ∧ i = .int .i64 k ∧ at_ = .int .i64 (lenSum (r.ps.take k)) ∧ InR w wr r A B C a b c ∧ Box wr (w.heap.size + 1) [.int .i64 gap, .int .i64 least] ∧ OwnL wr (w.heap.size + 2) 50 7 coV v (grp gap (r.ps.take k)).1) (fun _ _ i _ => r.ps.length - (intOf i).toNat)
  case atStart => exact ⟨0, Nat.zero_le _, rfl, rfl, (InR.new _ _ _ _ _ _ _ _).step (balloc _ _), hB0, OwnL.nil _ _ _ _ _⟩
  case round =>
    obtain ⟨k, hk, rfl, rfl, hI, hBx, hown⟩ := hrel
    have hgood := grp_good gap r hok k hk
    have hgrp := grp_at gap (r.ps.take k)
    have hb0 := (hok.beg k).1
    have hb1 := (hok.beg k).2
    have b0 := hI.box.2 0 _ rfl
    by_cases hlt : k < r.ps.length
    · obtain ⟨p, hp⟩ := getElem?_ex hlt
      obtain ⟨bb, o, hA, hbb, c0, c1, c2, c3, c4⟩ := (hI.rd h).p.at5 hp
      subst hA
      have hi' := hok.at hlt
      rw [show r.ps[k] = p from (List.getElem?_eq_some_iff.1 hp).2] at hi'
      obtain ⟨i1, i2, i3, i4, i5, i6⟩ := hi'
      clear i6
      have HT := Lib.hid (lenSum_take_succ r.ps k p hp)
      have HG := Lib.hid (grp_take_succ gap r.ps k p hp)
      clear hp
      by_cases ht : p.turn = 0
      · have ht' : (p.turn == 0) = true := by simpa using ht
        have HN := Lib.hid ht
        clear ht i5
        obtain ⟨A2, cap, rfl⟩ := hown.form
        have hl := hgood.1
        have hl2 : ((grp gap (r.ps.take k)).1.length : Int) ≤ 2000 := by omega
        clear hgood hgrp
        go_wp2
        go_roundw
        case rel => exact ⟨k + 1, by omega, by go_num, by rw [HT.out], hI.step (balloc _ _), hBx.below (balloc _ _), by rw [HG.out, gstep, if_pos HN.out]; exact hown.below (balloc _ _)⟩
        case measure => simp [intOf]; omega
      · have ht' : (p.turn == 0) = false := by simpa using ht
        have HS : Hid ((grp gap (r.ps.take (k + 1))).1 = gput gap (grp gap (r.ps.take k)).1 (lenSum (r.ps.take k)) p) := Lib.hid (by rw [HG.out, gstep, if_neg ht, hgrp])
        clear HG hgrp
        obtain ⟨gs, hgs⟩ : ∃ gs, gs = (grp gap (r.ps.take k)).1 := ⟨_, rfl⟩
        rw [← hgs] at HS hgood hown
        clear hgs
        have hl := hgood.1
        have i5' := i5 ht
        have r0 := i5'.1
        have r1 := i5'.2
        clear i5 i5' ht
        have hBl := hBx.1
        rcases nil_or_snoc gs with rfl | ⟨gi, g, rfl⟩
        · clear hgood
          obtain ⟨A2, cap, rfl⟩ := hown.form
          simp only [List.length_nil] at *
          go_wp2_with fail
          go_quiet (fail)
          go_wp2_with (first | (at_builtin; refine wpList_append_own _ rfl _ _ 42 rfl (w.heap.size + 2) 50 i0 _ 7 56 Try.underlying42 hi hz0 hz1 hz2 rfl (by decide) (.slice A2 0 cap) 0 [] rfl ((World.ownsRow.alloc hown _).alloc _) ⟨wr.heap.size + 1, 0, none⟩ 1 1 (coV ⟨lenSum (r.ps.take k), lenSum (r.ps.take k) + p.len, p.turn, p.rad, p.rad, p.rad, 0⟩) rfl rfl (cells_new _ (coV ⟨lenSum (r.ps.take k), lenSum (r.ps.take k) + p.len, p.turn, p.rad, p.rad, p.rad, 0⟩) _ _ (by simp)) (by simp [coV, Value.oneCell']) (by simp only [maxLen]; omega) (by omega) (by simp; omega) ?_; intro v' w1 hown' hgrow _; go_loud (have qp := blk_app (((Blk.new wr 52 #[.int .i64 p.len, .int .i64 p.turn, .int .i64 p.rad, .int .i64 p.wid, .int .i64 p.sur]).drewN nq)) (World.ownsRow.alloc hown _) (by decide) hgrow); have qp0 := qp.cell 0; go_loud (obtain ⟨hB2, ho2⟩ := after_app (xs := []) (x := ⟨lenSum (r.ps.take k), lenSum (r.ps.take k) + p.len, p.turn, p.rad, p.rad, p.rad, 0⟩) (bdrewN (balloc wr _) nq) hown (by omega) hown' rfl hgrow)))
          go_roundw
          case rel => exact ⟨k + 1, by omega, by go_num, by rw [HT.out], hI.step2 (hB2.mono (by omega)), hBx.keep hB2 (by omega), by rw [HS.out, gput_app _ _ _ _ (by simp)]; exact ho2⟩
          case measure => simp [intOf]; omega
        · have hl1 : gi.length + 1 ≤ k := by simpa using hl
          obtain ⟨gb, cap, rfl, hgb, hgl⟩ := hown.form1 (by simp)
          have hgc := hgood.2 g (by simp)
          unfold goodCo at hgc
          obtain ⟨j1, j2, j3, j4, j5, j6, j7⟩ := hgc
          clear hgood hl
          obtain ⟨m, hm⟩ : ∃ m, m = gi.length := ⟨_, rfl⟩
          have hml : (gi ++ [g]).length = m + 1 := by simp [hm]
          rw [hml] at hown ⊢
          have hown1 : wr.ownsRow (w.heap.size + 2) 50 7 (.slice (some ⟨gb, 0, none⟩) (m + 1) cap) (m + 1) ((gi ++ [g]).flatMap coV) := by
            have := hown
            unfold OwnL at this
            rwa [hml] at this
          rw [← hm] at hl1
          have HM : Hid (m = gi.length) := Lib.hid hm
          obtain ⟨b', o', hA, -, d0, d1, d2, d3, d4, d5, d6⟩ := (hown.rd coV_len).at7 (i := m) (p := g) (by simp [hm])
          clear hm hml
          injection hA with hA
          injection hA with hA1 hA2
          subst hA1 hA2
          simp only [Nat.zero_add] at d0 d1 d2 d3 d4 d5 d6
          have q0 := hBx.2 0 _ rfl
          have f1 : IntKind.i64.wrap ((m : Int) + 1 - 1) = (m : Int) := by rw [IntWalk.i64_in _ (by omega)]; omega
          have f2 : 0 ≤ (m : Int) := by omega
          have f3 : ((m : Int)).toNat = m := by omega
          have f4 : (m : Int) < (m : Int) + 1 := by omega
          by_cases t1 : g.turn = p.turn
          · by_cases t2 : lenSum (r.ps.take k) - g.to ≤ gap
            · have t1' : (g.turn == p.turn) = true := by simpa using t1
              have t2' : decide (lenSum (r.ps.take k) - g.to ≤ gap) = true := by simpa using t2
              have T1 := Lib.hid t1
              clear t1
              have z1 := World.ownsRow.frozenAt hown1 (m * 7 + 1)
              go_wp2_with fail
              go_quiet (fail)
              go_wp2_with fail
              obtain ⟨W2, hW2⟩ : ∃ W2, W2 = (((wr.alloc (.cells #[.int .i64 p.len, .int .i64 p.turn, .int .i64 p.rad, .int .i64 p.wid, .int .i64 p.sur] 52)).drewN nq).setCell ⟨gb, m * 7 + 1, none⟩ (.int .i64 (lenSum (r.ps.take k) + p.len))) := ⟨_, rfl⟩
              rw [← hW2]
              have o2 : OwnL W2 (w.heap.size + 2) 50 7 coV (.slice (some ⟨gb, 0, none⟩) (m + 1) cap) (gi ++ [(⟨g.fr, lenSum (r.ps.take k) + p.len, g.turn, g.rad, g.inn, g.out, g.ang⟩ : Co)]) := by
                rw [hW2]
                have := (hown.below (bdrewN (balloc wr (.cells #[.int .i64 p.len, .int .i64 p.turn, .int .i64 p.rad, .int .i64 p.wid, .int .i64 p.sur] 52)) nq)).store (i := m) (j := 1) (x := g) (x' := (⟨g.fr, lenSum (r.ps.take k) + p.len, g.turn, g.rad, g.inn, g.out, g.ang⟩ : Co)) (u := .int .i64 (lenSum (r.ps.take k) + p.len)) (by simp [HM.out]) coV_len (by simp [HM.out]) (by omega) rfl
                rwa [show (gi ++ [g]).set m (⟨g.fr, lenSum (r.ps.take k) + p.len, g.turn, g.rad, g.inn, g.out, g.ang⟩ : Co) = gi ++ [(⟨g.fr, lenSum (r.ps.take k) + p.len, g.turn, g.rad, g.inn, g.out, g.ang⟩ : Co)] by simp [HM.out]] at this
              have p2 : Blk W2 wr.heap.size 52 #[.int .i64 p.len, .int .i64 p.turn, .int .i64 p.rad, .int .i64 p.wid, .int .i64 p.sur] := by
                rw [hW2]
                exact ((Blk.new wr 52 _).drewN nq).far (p := ⟨gb, m * 7 + 1, none⟩) (by simp; omega) _
              have B2 : Below (w.heap.size + 2) wr W2 := by
                rw [hW2]
                exact ((bdrewN (balloc wr _) nq).mono (by omega)).setCell (p := ⟨gb, m * 7 + 1, none⟩) hgb _
              have hz2 := p2.lt
              clear hW2 hown d0 d1 d2 d3 d4 d5 d6 hown1 z1 c0 c1 c2 c3 c4
              obtain ⟨b', o', hA, -, e0, e1, e2, e3, e4, e5, e6⟩ := (o2.rd coV_len).at7 (i := m) (p := (⟨g.fr, lenSum (r.ps.take k) + p.len, g.turn, g.rad, g.inn, g.out, g.ang⟩ : Co)) (by simp [HM.out])
              injection hA with hA
              injection hA with hA1 hA2
              subst hA1 hA2
              simp only [Nat.zero_add] at e0 e1 e2 e3 e4 e5 e6
              clear e0
              have q2 := p2.cell 2
              have hgl2 : gb < W2.heap.size := by have := B2.size; omega
              by_cases t3 : p.rad < g.rad
              · refine wp_region_later_tail 12 (by kernel_rfl) (by kernel_rfl) ?_
                simp only [List.take_succ_cons, List.take_zero, List.drop_succ_cons, List.drop_zero]
                repeat (go_big_quiet_step (fail))
                refine wpQuiet_nil ?_
                rintro _ ⟨y, rfl⟩
                have o3 := o2.below y.b
                have p3 := p2.below y.b hz2
                have hgy : gb < y.w.heap.size := by have := y.b.size; omega
                obtain ⟨W3, hW3⟩ : ∃ W3, W3 = y.w := ⟨_, rfl⟩
                rw [← hW3] at o3 p3 hgy ⊢
                have B3 : Below (w.heap.size + 2) wr W3 := by
                  rw [hW3]
                  exact B2.trans (y.b.mono (by have := B2.size; omega))
                clear hW3 e1 e2 e3 e4 e5 e6 y
                have hl3 : (gi ++ [(⟨g.fr, lenSum (r.ps.take k) + p.len, g.turn, g.rad, g.inn, g.out, g.ang⟩ : Co)]).length = m + 1 := by simp [HM.out]
                have w3 : W3.ownsRow (w.heap.size + 2) 50 7 (.slice (some ⟨gb, 0, none⟩) (m + 1) cap) (m + 1) ((gi ++ [(⟨g.fr, lenSum (r.ps.take k) + p.len, g.turn, g.rad, g.inn, g.out, g.ang⟩ : Co)]).flatMap coV) := by
                  have := o3
                  unfold OwnL at this
                  rwa [hl3] at this
                have HL3 := Lib.hid hl3
                clear hl3
                have z3 := World.ownsRow.frozenAt w3 (m * 7 + 3)
                have z5 := World.ownsRow.frozenAt w3 (m * 7 + 5)
                obtain ⟨b', o', hA, -, e0, e1, e2, e3, e4, e5, e6⟩ := (o3.rd coV_len).at7 (i := m) (p := (⟨g.fr, lenSum (r.ps.take k) + p.len, g.turn, g.rad, g.inn, g.out, g.ang⟩ : Co)) (by simp [HM.out])
                injection hA with hA
                injection hA with hA1 hA2
                subst hA1 hA2
                simp only [Nat.zero_add] at e0 e1 e2 e3 e4 e5 e6
                have q0 := p3.cell 0
                have q2 := p3.cell 2
                have hpy := p3.lt
                go_wp2_with fail
                go_roundw
                case rel =>
                  have o4 := o3.store (i := m) (j := 3) (x := (⟨g.fr, lenSum (r.ps.take k) + p.len, g.turn, g.rad, g.inn, g.out, g.ang⟩ : Co)) (x' := (⟨g.fr, lenSum (r.ps.take k) + p.len, g.turn, p.rad, g.inn, g.out, g.ang⟩ : Co)) (u := .int .i64 (p.rad)) (by simp [HM.out]) coV_len (by simp [HM.out]) (by omega) rfl
                  rw [show (gi ++ [(⟨g.fr, lenSum (r.ps.take k) + p.len, g.turn, g.rad, g.inn, g.out, g.ang⟩ : Co)]).set m (⟨g.fr, lenSum (r.ps.take k) + p.len, g.turn, p.rad, g.inn, g.out, g.ang⟩ : Co) = gi ++ [(⟨g.fr, lenSum (r.ps.take k) + p.len, g.turn, p.rad, g.inn, g.out, g.ang⟩ : Co)] by simp [HM.out]] at o4
                  have o5 := o4.store (i := m) (j := 5) (x := (⟨g.fr, lenSum (r.ps.take k) + p.len, g.turn, p.rad, g.inn, g.out, g.ang⟩ : Co)) (x' := (⟨g.fr, lenSum (r.ps.take k) + p.len, g.turn, p.rad, g.inn, p.rad, g.ang⟩ : Co)) (u := .int .i64 p.rad) (by simp [HM.out]) coV_len (by simp [HM.out]) (by omega) rfl
                  rw [show (gi ++ [(⟨g.fr, lenSum (r.ps.take k) + p.len, g.turn, p.rad, g.inn, g.out, g.ang⟩ : Co)]).set m (⟨g.fr, lenSum (r.ps.take k) + p.len, g.turn, p.rad, g.inn, p.rad, g.ang⟩ : Co) = gi ++ [(⟨g.fr, lenSum (r.ps.take k) + p.len, g.turn, p.rad, g.inn, p.rad, g.ang⟩ : Co)] by simp [HM.out]] at o5
                  have B5 := (B3.setCell (p := ⟨gb, m * 7 + 3, none⟩) hgb (.int .i64 (p.rad))).setCell (p := ⟨gb, m * 7 + 5, none⟩) hgb (.int .i64 p.rad)
                  refine ⟨k + 1, by omega, by go_num, by rw [HT.out], hI.step2 (B5.mono (by omega)), hBx.keep B5 (by omega), ?_⟩
                  rw [HS.out, gput_upd _ _ _ _ _ T1.out t2]
                  rw [show min g.rad p.rad = p.rad by omega]
                  exact o5
                case measure => simp [intOf]; omega
              · refine wp_region_later_tail 12 (by kernel_rfl) (by kernel_rfl) ?_
                simp only [List.take_succ_cons, List.take_zero, List.drop_succ_cons, List.drop_zero]
                repeat (go_big_quiet_step (fail))
                refine wpQuiet_nil ?_
                rintro _ ⟨y, rfl⟩
                have o3 := o2.below y.b
                have p3 := p2.below y.b hz2
                have hgy : gb < y.w.heap.size := by have := y.b.size; omega
                obtain ⟨W3, hW3⟩ : ∃ W3, W3 = y.w := ⟨_, rfl⟩
                rw [← hW3] at o3 p3 hgy ⊢
                have B3 : Below (w.heap.size + 2) wr W3 := by
                  rw [hW3]
                  exact B2.trans (y.b.mono (by have := B2.size; omega))
                clear hW3 e1 e2 e3 e4 e5 e6 y
                have hl3 : (gi ++ [(⟨g.fr, lenSum (r.ps.take k) + p.len, g.turn, g.rad, g.inn, g.out, g.ang⟩ : Co)]).length = m + 1 := by simp [HM.out]
                have w3 : W3.ownsRow (w.heap.size + 2) 50 7 (.slice (some ⟨gb, 0, none⟩) (m + 1) cap) (m + 1) ((gi ++ [(⟨g.fr, lenSum (r.ps.take k) + p.len, g.turn, g.rad, g.inn, g.out, g.ang⟩ : Co)]).flatMap coV) := by
                  have := o3
                  unfold OwnL at this
                  rwa [hl3] at this
                have HL3 := Lib.hid hl3
                clear hl3
                have z3 := World.ownsRow.frozenAt w3 (m * 7 + 3)
                have z5 := World.ownsRow.frozenAt w3 (m * 7 + 5)
                obtain ⟨b', o', hA, -, e0, e1, e2, e3, e4, e5, e6⟩ := (o3.rd coV_len).at7 (i := m) (p := (⟨g.fr, lenSum (r.ps.take k) + p.len, g.turn, g.rad, g.inn, g.out, g.ang⟩ : Co)) (by simp [HM.out])
                injection hA with hA
                injection hA with hA1 hA2
                subst hA1 hA2
                simp only [Nat.zero_add] at e0 e1 e2 e3 e4 e5 e6
                have q0 := p3.cell 0
                have q2 := p3.cell 2
                have hpy := p3.lt
                go_wp2_with fail
                go_roundw
                case rel =>
                  have o4 := o3.store (i := m) (j := 3) (x := (⟨g.fr, lenSum (r.ps.take k) + p.len, g.turn, g.rad, g.inn, g.out, g.ang⟩ : Co)) (x' := (⟨g.fr, lenSum (r.ps.take k) + p.len, g.turn, g.rad, g.inn, g.out, g.ang⟩ : Co)) (u := .int .i64 (g.rad)) (by simp [HM.out]) coV_len (by simp [HM.out]) (by omega) rfl
                  rw [show (gi ++ [(⟨g.fr, lenSum (r.ps.take k) + p.len, g.turn, g.rad, g.inn, g.out, g.ang⟩ : Co)]).set m (⟨g.fr, lenSum (r.ps.take k) + p.len, g.turn, g.rad, g.inn, g.out, g.ang⟩ : Co) = gi ++ [(⟨g.fr, lenSum (r.ps.take k) + p.len, g.turn, g.rad, g.inn, g.out, g.ang⟩ : Co)] by simp [HM.out]] at o4
                  have o5 := o4.store (i := m) (j := 5) (x := (⟨g.fr, lenSum (r.ps.take k) + p.len, g.turn, g.rad, g.inn, g.out, g.ang⟩ : Co)) (x' := (⟨g.fr, lenSum (r.ps.take k) + p.len, g.turn, g.rad, g.inn, p.rad, g.ang⟩ : Co)) (u := .int .i64 p.rad) (by simp [HM.out]) coV_len (by simp [HM.out]) (by omega) rfl
                  rw [show (gi ++ [(⟨g.fr, lenSum (r.ps.take k) + p.len, g.turn, g.rad, g.inn, g.out, g.ang⟩ : Co)]).set m (⟨g.fr, lenSum (r.ps.take k) + p.len, g.turn, g.rad, g.inn, p.rad, g.ang⟩ : Co) = gi ++ [(⟨g.fr, lenSum (r.ps.take k) + p.len, g.turn, g.rad, g.inn, p.rad, g.ang⟩ : Co)] by simp [HM.out]] at o5
                  have B5 := (B3.setCell (p := ⟨gb, m * 7 + 3, none⟩) hgb (.int .i64 (g.rad))).setCell (p := ⟨gb, m * 7 + 5, none⟩) hgb (.int .i64 p.rad)
                  refine ⟨k + 1, by omega, by go_num, by rw [HT.out], hI.step2 (B5.mono (by omega)), hBx.keep B5 (by omega), ?_⟩
                  rw [HS.out, gput_upd _ _ _ _ _ T1.out t2]
                  rw [show min g.rad p.rad = g.rad by omega]
                  exact o5
                case measure => simp [intOf]; omega
            · have t1' : (g.turn == p.turn) = true := by simpa using t1
              have t2' : decide (lenSum (r.ps.take k) - g.to ≤ gap) = false := by simpa using t2
              have T1 := Lib.hid t1
              clear t1
              go_wp2_with fail
              go_quiet (fail)
              go_wp2_with (first | (at_builtin; refine wpList_append_own _ rfl _ _ 42 rfl (w.heap.size + 2) 50 i0 _ 7 56 Try.underlying42 hi hz0 hz1 hz2 rfl (by decide) (.slice (some ⟨gb, 0, none⟩) (m + 1) cap) (m + 1) ((gi ++ [g]).flatMap coV) rfl ((World.ownsRow.alloc hown1 _).alloc _) ⟨wr.heap.size + 1, 0, none⟩ 1 1 (coV ⟨lenSum (r.ps.take k), lenSum (r.ps.take k) + p.len, p.turn, p.rad, p.rad, p.rad, 0⟩) rfl rfl (cells_new _ (coV ⟨lenSum (r.ps.take k), lenSum (r.ps.take k) + p.len, p.turn, p.rad, p.rad, p.rad, 0⟩) _ _ (by simp)) (by simp [coV, Value.oneCell']) (by simp only [maxLen]; omega) (by omega) (by simp; omega) ?_; intro v' w1 hown' hgrow _; go_loud (have qp := blk_app (((Blk.new wr 52 #[.int .i64 p.len, .int .i64 p.turn, .int .i64 p.rad, .int .i64 p.wid, .int .i64 p.sur]).drewN nq)) (World.ownsRow.alloc hown _) (by decide) hgrow); have qp0 := qp.cell 0; go_loud (obtain ⟨hB2, ho2⟩ := after_app (xs := gi ++ [g]) (x := ⟨lenSum (r.ps.take k), lenSum (r.ps.take k) + p.len, p.turn, p.rad, p.rad, p.rad, 0⟩) (bdrewN (balloc wr _) nq) hown (by omega) hown' (by simp [HM.out]) hgrow)))
              go_roundw
              case rel => exact ⟨k + 1, by omega, by go_num, by rw [HT.out], hI.step2 (hB2.mono (by omega)), hBx.keep hB2 (by omega), by rw [HS.out, gput_app _ _ _ _ (by simp; intro e1; first | (exact absurd e1 T1.out) | omega)]; exact ho2⟩
              case measure => simp [intOf]; omega
          · have t1' : (g.turn == p.turn) = false := by simpa using t1
            have T1 := Lib.hid t1
            clear t1
            go_wp2_with fail
            go_quiet (fail)
            go_wp2_with (first | (at_builtin; refine wpList_append_own _ rfl _ _ 42 rfl (w.heap.size + 2) 50 i0 _ 7 56 Try.underlying42 hi hz0 hz1 hz2 rfl (by decide) (.slice (some ⟨gb, 0, none⟩) (m + 1) cap) (m + 1) ((gi ++ [g]).flatMap coV) rfl ((World.ownsRow.alloc hown1 _).alloc _) ⟨wr.heap.size + 1, 0, none⟩ 1 1 (coV ⟨lenSum (r.ps.take k), lenSum (r.ps.take k) + p.len, p.turn, p.rad, p.rad, p.rad, 0⟩) rfl rfl (cells_new _ (coV ⟨lenSum (r.ps.take k), lenSum (r.ps.take k) + p.len, p.turn, p.rad, p.rad, p.rad, 0⟩) _ _ (by simp)) (by simp [coV, Value.oneCell']) (by simp only [maxLen]; omega) (by omega) (by simp; omega) ?_; intro v' w1 hown' hgrow _; go_loud (have qp := blk_app (((Blk.new wr 52 #[.int .i64 p.len, .int .i64 p.turn, .int .i64 p.rad, .int .i64 p.wid, .int .i64 p.sur]).drewN nq)) (World.ownsRow.alloc hown _) (by decide) hgrow); have qp0 := qp.cell 0; go_loud (obtain ⟨hB2, ho2⟩ := after_app (xs := gi ++ [g]) (x := ⟨lenSum (r.ps.take k), lenSum (r.ps.take k) + p.len, p.turn, p.rad, p.rad, p.rad, 0⟩) (bdrewN (balloc wr _) nq) hown (by omega) hown' (by simp [HM.out]) hgrow)))
            go_roundw
            case rel => exact ⟨k + 1, by omega, by go_num, by rw [HT.out], hI.step2 (hB2.mono (by omega)), hBx.keep hB2 (by omega), by rw [HS.out, gput_app _ _ _ _ (by simp; intro e1; first | (exact absurd e1 T1.out) | omega)]; exact ho2⟩
            case measure => simp [intOf]; omega
    · obtain rfl : k = r.ps.length := by omega
      rw [List.take_length] at hgood hown hb0 hb1
      simp only [List.take_length]
      clear hgrp
      obtain ⟨gs, hgs⟩ : ∃ gs, gs = (grp gap r.ps).1 := ⟨_, rfl⟩
      rw [← hgs] at hgood hown
      have HGS := Lib.hid hgs
      clear hgs
      obtain ⟨A2, cap2, rfl⟩ := hown.form
      have hrd := hown.rd coV_len
      have hgl := hgood.1
      have hgg := hgood.2
      clear hgood hown
      obtain ⟨W2, hW2⟩ : ∃ W2, W2 = wr := ⟨_, rfl⟩
      go_wp2
      rw [← hW2] at hI hBx hrd b0 ⊢
      clear hW2 b0
      go_loopw [10, 11] (fun v2 i wr2 => ∃ j : Nat, j ≤ gs.length ∧ i = .int .i64 j ∧ Below W2.heap.size W2 wr2 ∧ OwnL wr2 W2.heap.size 50 7 coV v2 ((gs.take j).filterMap (keepCo r least))) (fun _ i _ => gs.length - (intOf i).toNat)
      case atStart => exact ⟨0, Nat.zero_le _, rfl, Below.refl _ _, OwnL.nil _ _ _ _ _⟩
      case round =>
        obtain ⟨j, hj, rfl, hB2, hown⟩ := hrel
        have hI2 := hI.step hB2
        have hBx2 := hBx.below hB2
        have b0 := hI2.box.2 0 _ rfl
        have b1 := hI2.box.2 1 _ rfl
        have b2 := hI2.box.2 2 _ rfl
        have l1 := hBx2.2 1 _ rfl
        have hz0' := hI2.box.1
        have hz1' := hBx2.1
        by_cases hlt2 : j < gs.length
        · obtain ⟨g, hg⟩ := getElem?_ex hlt2
          obtain ⟨gb, go, hA, hgb, d0, d1, d2, d3, d4, d5, d6⟩ := (hrd.below hB2).at7 hg
          subst hA
          have hgc := hgg g (List.mem_of_getElem? hg)
          unfold goodCo at hgc
          obtain ⟨j1, j2, j3, j4, j5, j6, j7⟩ := hgc
          have HK : Hid ((gs.take (j + 1)).filterMap (keepCo r least) = (gs.take j).filterMap (keepCo r least) ++ (keepCo r least g).toList) := Lib.hid (fm_take_succ (keepCo r least) gs j g hg)
          clear hg
          obtain ⟨Ao, capo, rfl⟩ := hown.form
          have hlo : ((gs.take j).filterMap (keepCo r least)).length ≤ 2000 := by
            have := List.length_filterMap_le (keepCo r least) (gs.take j)
            have := List.length_take_le j gs
            omega
          obtain ⟨os, hos⟩ : ∃ os, os = (gs.take j).filterMap (keepCo r least) := ⟨_, rfl⟩
          rw [← hos] at hlo hown HK ⊢
          clear hos
          have u1 := (up_bd r hok g.to).1
          have u2 := (up_bd r hok g.to).2
          have u3 := (up_bd r hok g.fr).1
          have u4 := (up_bd r hok g.fr).2
          have hfin : finCo r g = (⟨g.fr, g.to, g.turn, g.rad, g.inn, g.out, max (up r.ps g.to - up r.ps g.fr) (-(up r.ps g.to - up r.ps g.fr))⟩ : Co) := rfl
          have HF := Lib.hid hfin
          clear hfin
          obtain ⟨tt, htt⟩ : ∃ tt, tt = up r.ps g.to - up r.ps g.fr := ⟨_, rfl⟩
          rw [← htt] at HF
          have hcall := rturning_any r A B C a b c g.fr g.to (wr.alloc (.cells #[.int .i64 g.fr, .int .i64 g.to, .int .i64 g.turn, .int .i64 g.rad, .int .i64 g.inn, .int .i64 g.out, .int .i64 g.ang] 50)) ((hI2.step (balloc wr _)).rd h) hok (by omega) (by omega) (by omega) (by omega)
          rw [← htt] at hcall
          have v1 : -30000000000 ≤ tt := by omega
          have v2 : tt ≤ 30000000000 := by omega
          clear htt u1 u2 u3 u4
          have HC := Lib.hid hcall
          clear hcall
          by_cases hmx : tt < -tt
          · rw [show max tt (-tt) = -tt by omega] at HF
            go_upto_region 22 with (first | (go_at_call 24; refine HC.out.mono ?_; rintro e W4 ⟨rfl, hb4⟩; have q4 := (Blk.new wr 50 #[.int .i64 g.fr, .int .i64 g.to, .int .i64 g.turn, .int .i64 g.rad, .int .i64 g.inn, .int .i64 g.out, .int .i64 g.ang]).below hb4 (by simp); have q46 := q4.cell 6; have q4f := q4.frozen 6))
            obtain ⟨W5, hW5⟩ : ∃ W5, W5 = W4.setCell ⟨wr.heap.size, 6, none⟩ (.int .i64 (-tt)) := ⟨_, rfl⟩
            rw [← hW5]
            have q5 : Blk W5 wr.heap.size 50 #[.int .i64 g.fr, .int .i64 g.to, .int .i64 g.turn, .int .i64 g.rad, .int .i64 g.inn, .int .i64 g.out, .int .i64 (-tt)] := by
              rw [hW5]
              exact q4.set_ 6 _
            have hB5 : Below wr.heap.size wr W5 := by
              rw [hW5]
              exact ((balloc wr _).trans (hb4.mono (by simp))).setCell (p := ⟨wr.heap.size, 6, none⟩) (Nat.le_refl _) _
            clear hW5 q46 q4f q4 hb4 W4 d0 d1 d2 d3 d4 d5 d6 b0 b1 b2 l1
            have q50 := q5.cell 0
            have q51 := q5.cell 1
            have q52 := q5.cell 2
            have q53 := q5.cell 3
            have q54 := q5.cell 4
            have q55 := q5.cell 5
            have q56 := q5.cell 6
            have hown5 := hown.below hB5
            have l1 := (hBx2.below hB5).2 1 _ rfl
            have hz5 := hB5.size
            have hz6 := hB2.size
            by_cases hle : least ≤ -tt
            · have HKK : Hid (keepCo r least g = some (⟨g.fr, g.to, g.turn, g.rad, g.inn, g.out, -tt⟩ : Co)) := Lib.hid (by unfold keepCo; rw [HF.out]; exact if_pos hle)
              go_wp2_with (first | (at_builtin; refine wpList_append_own _ rfl _ _ 42 rfl W2.heap.size 50 i0 _ 7 56 Try.underlying42 hi hz0 hz1 hz2 rfl (by decide) (.slice Ao os.length capo) os.length (os.flatMap coV) rfl (World.ownsRow.alloc hown5 _) ⟨W5.heap.size, 0, none⟩ 1 1 (coV ⟨g.fr, g.to, g.turn, g.rad, g.inn, g.out, -tt⟩) rfl rfl (cells_new _ (coV ⟨g.fr, g.to, g.turn, g.rad, g.inn, g.out, -tt⟩) _ _ rfl) (by simp [coV, Value.oneCell']) (by simp only [maxLen]; omega) (by omega) (by simp; omega) ?_; intro v' w1 hown' hgrow _))
              obtain ⟨hB6, ho6⟩ := after_app (x := ⟨g.fr, g.to, g.turn, g.rad, g.inn, g.out, -tt⟩) (Below.refl _ W5) hown5 (by omega) hown' rfl hgrow
              go_roundw
              case rel => exact ⟨j + 1, by omega, by go_num, hB2.trans ((hB5.mono (by omega)).trans hB6), by rw [HK.out, HKK.out]; exact ho6⟩
              case measure => simp [intOf]; omega
            · have HKK : Hid (keepCo r least g = none) := Lib.hid (by unfold keepCo; rw [HF.out]; exact if_neg hle)
              go_wp2
              go_roundw
              case rel => exact ⟨j + 1, by omega, by go_num, bthen hB2 hB5, by rw [HK.out, HKK.out]; simpa using hown5⟩
              case measure => simp [intOf]; omega
          · rw [show max tt (-tt) = tt by omega] at HF
            go_upto_region 22 with (first | (go_at_call 24; refine HC.out.mono ?_; rintro e W4 ⟨rfl, hb4⟩; have q4 := (Blk.new wr 50 #[.int .i64 g.fr, .int .i64 g.to, .int .i64 g.turn, .int .i64 g.rad, .int .i64 g.inn, .int .i64 g.out, .int .i64 g.ang]).below hb4 (by simp); have q46 := q4.cell 6; have q4f := q4.frozen 6))
            obtain ⟨W5, hW5⟩ : ∃ W5, W5 = W4.setCell ⟨wr.heap.size, 6, none⟩ (.int .i64 (tt)) := ⟨_, rfl⟩
            rw [← hW5]
            have q5 : Blk W5 wr.heap.size 50 #[.int .i64 g.fr, .int .i64 g.to, .int .i64 g.turn, .int .i64 g.rad, .int .i64 g.inn, .int .i64 g.out, .int .i64 (tt)] := by
              rw [hW5]
              exact q4.set_ 6 _
            have hB5 : Below wr.heap.size wr W5 := by
              rw [hW5]
              exact ((balloc wr _).trans (hb4.mono (by simp))).setCell (p := ⟨wr.heap.size, 6, none⟩) (Nat.le_refl _) _
            clear hW5 q46 q4f q4 hb4 W4 d0 d1 d2 d3 d4 d5 d6 b0 b1 b2 l1
            have q50 := q5.cell 0
            have q51 := q5.cell 1
            have q52 := q5.cell 2
            have q53 := q5.cell 3
            have q54 := q5.cell 4
            have q55 := q5.cell 5
            have q56 := q5.cell 6
            have hown5 := hown.below hB5
            have l1 := (hBx2.below hB5).2 1 _ rfl
            have hz5 := hB5.size
            have hz6 := hB2.size
            by_cases hle : least ≤ tt
            · have HKK : Hid (keepCo r least g = some (⟨g.fr, g.to, g.turn, g.rad, g.inn, g.out, tt⟩ : Co)) := Lib.hid (by unfold keepCo; rw [HF.out]; exact if_pos hle)
              go_wp2_with (first | (at_builtin; refine wpList_append_own _ rfl _ _ 42 rfl W2.heap.size 50 i0 _ 7 56 Try.underlying42 hi hz0 hz1 hz2 rfl (by decide) (.slice Ao os.length capo) os.length (os.flatMap coV) rfl (World.ownsRow.alloc hown5 _) ⟨W5.heap.size, 0, none⟩ 1 1 (coV ⟨g.fr, g.to, g.turn, g.rad, g.inn, g.out, tt⟩) rfl rfl (cells_new _ (coV ⟨g.fr, g.to, g.turn, g.rad, g.inn, g.out, tt⟩) _ _ rfl) (by simp [coV, Value.oneCell']) (by simp only [maxLen]; omega) (by omega) (by simp; omega) ?_; intro v' w1 hown' hgrow _))
              obtain ⟨hB6, ho6⟩ := after_app (x := ⟨g.fr, g.to, g.turn, g.rad, g.inn, g.out, tt⟩) (Below.refl _ W5) hown5 (by omega) hown' rfl hgrow
              go_roundw
              case rel => exact ⟨j + 1, by omega, by go_num, hB2.trans ((hB5.mono (by omega)).trans hB6), by rw [HK.out, HKK.out]; exact ho6⟩
              case measure => simp [intOf]; omega
            · have HKK : Hid (keepCo r least g = none) := Lib.hid (by unfold keepCo; rw [HF.out]; exact if_neg hle)
              go_wp2
              go_roundw
              case rel => exact ⟨j + 1, by omega, by go_num, bthen hB2 hB5, by rw [HK.out, HKK.out]; simpa using hown5⟩
              case measure => simp [intOf]; omega
        · obtain rfl : j = gs.length := by omega
          rw [List.take_length, HGS.out] at hown
          go_wp2
          go_ret
          exact ⟨⟨_, rfl, hown.base_mono (by have := hI.below.size; omega)⟩, hI2.below⟩

end Go.Proofs.Ytbdjmaogbpdkpaa

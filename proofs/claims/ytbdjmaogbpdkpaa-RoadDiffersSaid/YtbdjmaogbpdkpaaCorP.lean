import Derived.Test.YtbdjmaogbpdkpaaCorB
namespace Go.Proofs.Ytbdjmaogbpdkpaa
set_option linter.unusedVariables false
set_option linter.unusedSimpArgs false
open Go.RowKit

def frG (g : List Bd) : Int := match g.head? with | some a => a.fr | none => 0
def toG (g : List Bd) : Int := match g.getLast? with | some z => z.fr + z.p.len | none => 0
def coP (g : List Bd) : Co :=
  match g.head?, g.getLast? with
  | some a, some z => ⟨a.fr, z.fr + z.p.len, z.p.turn, minR g z.p.rad, a.p.rad, z.p.rad, 0⟩
  | _, _ => ⟨0, 0, 0, 0, 0, 0, 0⟩
theorem minR_mem (g : List Bd) (z : Bd) (hz : z ∈ g) : ∀ m, minR g (min m z.p.rad) = minR g m := by
  induction g with
  | nil => simp at hz
  | cons b g ih =>
    intro m
    show minR g (min (min m z.p.rad) b.p.rad) = minR g (min m b.p.rad)
    rcases List.mem_cons.1 hz with rfl | hz
    · congr 1
      omega
    · rw [← ih hz (min m b.p.rad)]
      congr 1
      omega
theorem minR_min (g : List Bd) : ∀ m m', minR g (min m m') = min m (minR g m') := by
  induction g with
  | nil => intro m m'; rfl
  | cons b g ih =>
    intro m m'
    show minR g (min (min m m') b.p.rad) = min m (minR g (min m' b.p.rad))
    rw [← ih]
    congr 1
    omega
theorem minR_snoc (g : List Bd) (z x : Bd) (hz : z ∈ g) : minR (g ++ [x]) x.p.rad = min (minR g z.p.rad) x.p.rad := by
  have h1 : minR (g ++ [x]) x.p.rad = min (minR g x.p.rad) x.p.rad := by
    unfold minR
    rw [List.foldl_append]
    rfl
  rw [h1, ← minR_mem g z hz x.p.rad, minR_min]
  omega
theorem coP_one (x : Bd) : coP [x] = ⟨x.fr, x.fr + x.p.len, x.p.turn, x.p.rad, x.p.rad, x.p.rad, 0⟩ := by
  simp [coP, minR]
theorem coP_snoc (ci : List Bd) (y x : Bd) (ht : y.p.turn = x.p.turn) : coP (ci ++ [y] ++ [x]) = { coP (ci ++ [y]) with «to» := x.fr + x.p.len, rad := min (coP (ci ++ [y])).rad x.p.rad, out := x.p.rad } := by
  obtain ⟨a, ha⟩ : ∃ a, (ci ++ [y]).head? = some a := by
    cases ci with
    | nil => exact ⟨_, rfl⟩
    | cons b ci => exact ⟨_, rfl⟩
  have ha2 : (ci ++ [y] ++ [x]).head? = some a := by
    rw [List.head?_append, ha]
    rfl
  have hl : (ci ++ [y]).getLast? = some y := by simp
  have hl2 : (ci ++ [y] ++ [x]).getLast? = some x := by simp
  unfold coP
  rw [ha, ha2, hl, hl2]
  simp only [minR_snoc (ci ++ [y]) y x (by simp), ht]

theorem up_at (ps : List Pc) (hl : ∀ p ∈ ps, 1 ≤ p.len) : ∀ k, up ps (lenSum (ps.take k)) = ((ps.take k).map fun p => trn p.turn p.rad p.len).sum := by
  induction ps with
  | nil => intro k; simp [up, lenSum]
  | cons p ps ih =>
    intro k
    have h1 := hl p (by simp)
    have ih' := ih (fun q hq => hl q (by simp [hq]))
    cases k with
    | zero => simp [up, lenSum]
    | succ k =>
      have h2 := lenSum_nonneg (ps.take k) (fun q hq => by have := hl q (by simp [List.mem_of_mem_take hq]); omega)
      have e : lenSum ((p :: ps).take (k + 1)) = p.len + lenSum (ps.take k) := by simp [lenSum]
      rw [e]
      simp only [up]
      rw [if_neg (by omega), show min (p.len + lenSum (ps.take k)) p.len = p.len by omega, show p.len + lenSum (ps.take k) - p.len = lenSum (ps.take k) by omega, ih' k]
      simp
theorem up_at_succ (ps : List Pc) (hl : ∀ p ∈ ps, 1 ≤ p.len) (k : Nat) (p : Pc) (hp : ps[k]? = some p) : up ps (lenSum (ps.take (k + 1))) = up ps (lenSum (ps.take k)) + trn p.turn p.rad p.len := by
  rw [up_at ps hl, up_at ps hl, List.take_add_one, hp]
  simp

/-- What holds of the groups behind k pieces. -/
structure GOk (r : Road) (gap : Int) (k : Nat) (gss : List (List Bd)) : Prop where
  a : (grp gap (r.ps.take k)).1 = gss.map coP
  b : ∀ g ∈ gss, g ≠ [] ∧ up r.ps (toG g) - up r.ps (frG g) = turnS g
  c : ∀ g, gss.getLast? = some g → up r.ps (lenSum (r.ps.take k)) - up r.ps (frG g) = turnS g

theorem turnS_one (x : Bd) : turnS [x] = trn x.p.turn x.p.rad x.p.len := by simp [turnS]
theorem turnS_snoc (g : List Bd) (x : Bd) : turnS (g ++ [x]) = turnS g + trn x.p.turn x.p.rad x.p.len := by simp [turnS]

theorem gok (r : Road) (gap : Int) (hok : okPs r) : ∀ k, k ≤ r.ps.length → GOk r gap k (grouped (tgB gap) (bnds r (upto r.ps.length k))) := by
  have hl : ∀ p ∈ r.ps, 1 ≤ p.len := fun p hp => by
    obtain ⟨i, hi, rfl⟩ := List.getElem_of_mem hp
    exact (hok.at hi).1
  intro k
  induction k with
  | zero =>
    intro _
    refine ⟨by simp [grp, upto, bnds, grouped], fun g hg => ?_, fun g hg => ?_⟩
    · simp [upto, bnds, grouped] at hg
    · simp [upto, bnds, grouped] at hg
  | succ k ih =>
    intro hk
    have hlt : k < r.ps.length := by omega
    obtain ⟨ia, ib, ic⟩ := ih (by omega)
    have hp : r.ps[k]? = some r.ps[k] := List.getElem?_eq_getElem hlt
    have hU := up_at_succ r.ps hl k _ hp
    have hL := lenSum_take_succ r.ps k _ hp
    have hG := grp_take_succ gap r.ps k _ hp
    have hA := grp_at gap (r.ps.take k)
    rw [upto_succ ⟨k, hlt⟩, bnds_snoc]
    have hgr : ∀ x : List Bd, grouped (tgB gap) (bnds r (upto r.ps.length k) ++ x) = x.foldl (gadd (tgB gap)) (grouped (tgB gap) (bnds r (upto r.ps.length k))) := fun x => by
      unfold grouped
      rw [List.foldl_append]
    rw [hgr]
    generalize grouped (tgB gap) (bnds r (upto r.ps.length k)) = gss at ia ib ic
    clear hgr
    have hst : (grp gap (r.ps.take (k + 1))).1 = if r.ps[k].turn = 0 then gss.map coP else gput gap (gss.map coP) (lenSum (r.ps.take k)) r.ps[k] := by
      rw [hG, gstep, hA, ia]
    by_cases ht : r.ps[k].turn = 0
    · rw [if_pos ht] at hst
      rw [show bdOf r.ps[k] (lenSum (r.ps.take k)) = none by rw [bdOf, if_pos ht]]
      refine ⟨hst, ib, fun g hg => ?_⟩
      rw [hU, show trn r.ps[k].turn r.ps[k].rad r.ps[k].len = 0 by rw [trn, if_pos ht], Int.add_zero]
      exact ic g hg
    · rw [if_neg ht] at hst
      rw [show bdOf r.ps[k] (lenSum (r.ps.take k)) = some ⟨r.ps[k], lenSum (r.ps.take k)⟩ by rw [bdOf, if_neg ht]]
      show GOk r gap (k + 1) (gadd (tgB gap) gss ⟨r.ps[k], lenSum (r.ps.take k)⟩)
      generalize r.ps[k] = p at *
      rcases nil_or_snoc gss with rfl | ⟨gi, g, rfl⟩
      · rw [gadd_first]
        refine ⟨by rw [hst, List.map_cons, coP_one]; rfl, fun g hg => ?_, fun g hg => ?_⟩
        · simp only [List.mem_singleton] at hg
          subst hg
          refine ⟨by simp, ?_⟩
          rw [turnS_one]
          simp only [toG, frG, List.getLast?_singleton, List.head?_cons]
          rw [← hL, hU]
          omega
        · simp only [List.getLast?_singleton, Option.some.injEq] at hg
          subst hg
          rw [turnS_one, hU]
          simp only [frG, List.head?_cons]
          omega
      · obtain ⟨hg1, hg2⟩ := ib g (by simp)
        have hg3 := ic g (by simp)
        rcases nil_or_snoc g with rfl | ⟨ci, y, rfl⟩
        · exact absurd rfl hg1
        have hcy : (coP (ci ++ [y])).turn = y.p.turn ∧ (coP (ci ++ [y])).to = y.fr + y.p.len := by
          obtain ⟨a, ha⟩ : ∃ a, (ci ++ [y]).head? = some a := by
            cases ci with
            | nil => exact ⟨_, rfl⟩
            | cons b ci => exact ⟨_, rfl⟩
          have hl' : (ci ++ [y]).getLast? = some y := by simp
          unfold coP
          rw [ha, hl']
          exact ⟨rfl, rfl⟩
        rw [List.map_append, List.map_cons, List.map_nil] at hst
        cases htg : tgB gap y ⟨p, lenSum (r.ps.take k)⟩
        · rw [gadd_new _ _ _ _ _ htg]
          have hn : ¬ (y.p.turn = p.turn ∧ lenSum (r.ps.take k) - (y.fr + y.p.len) ≤ gap) := by
            rintro ⟨q1, q2⟩
            simp only [tgB, q1, decide_true, Bool.true_and, decide_eq_false_iff_not] at htg
            omega
          rw [gput_app _ _ _ _ (fun g hg => by
            simp only [List.getLast?_append, List.getLast?_singleton, Option.some_or, Option.some.injEq] at hg
            subst hg
            rw [hcy.1, hcy.2]
            exact hn)] at hst
          refine ⟨by rw [hst, List.map_append, List.map_append, List.map_cons, List.map_nil, List.map_cons, List.map_nil, coP_one], fun g hg => ?_, fun g hg => ?_⟩
          · rcases List.mem_append.1 hg with hg | hg
            · exact ib g hg
            · simp only [List.mem_singleton] at hg
              subst hg
              refine ⟨by simp, ?_⟩
              rw [turnS_one]
              simp only [toG, frG, List.getLast?_singleton, List.head?_cons]
              rw [← hL, hU]
              omega
          · simp only [List.getLast?_append, List.getLast?_singleton, Option.some_or, Option.some.injEq] at hg
            subst hg
            rw [turnS_one, hU]
            simp only [frG, List.head?_cons]
            omega
        · rw [gadd_same _ _ _ _ _ htg]
          have hn : y.p.turn = p.turn ∧ lenSum (r.ps.take k) - (y.fr + y.p.len) ≤ gap := by
            simp only [tgB, Bool.and_eq_true, decide_eq_true_eq] at htg
            exact ⟨htg.1, by omega⟩
          rw [gput_upd _ _ _ _ _ (by rw [hcy.1]; exact hn.1) (by rw [hcy.2]; exact hn.2)] at hst
          have hfr : frG (ci ++ [y] ++ [(⟨p, lenSum (r.ps.take k)⟩ : Bd)]) = frG (ci ++ [y]) := by
            unfold frG
            cases ci <;> rfl
          have hto : toG (ci ++ [y] ++ [(⟨p, lenSum (r.ps.take k)⟩ : Bd)]) = lenSum (r.ps.take k) + p.len := by
            unfold toG
            simp
          refine ⟨by rw [hst, List.map_append, List.map_cons, List.map_nil, coP_snoc ci y ⟨p, lenSum (r.ps.take k)⟩ hn.1], fun g hg => ?_, fun g hg => ?_⟩
          · rcases List.mem_append.1 hg with hg | hg
            · exact ib g (by simp [hg])
            · simp only [List.mem_singleton] at hg
              subst hg
              refine ⟨by simp, ?_⟩
              rw [turnS_snoc, hfr, hto, ← hL, hU]
              simp only
              omega
          · simp only [List.getLast?_append, List.getLast?_singleton, Option.some_or, Option.some.injEq] at hg
            subst hg
            rw [turnS_snoc, hfr, hU]
            simp only
            omega

/-- The road's corners are the reference's. -/
theorem corners_same (r : Road) (gap least : Int) (hok : okPs r) : cornersG r gap least = cornersS r gap least := by
  obtain ⟨ha, hb, _⟩ := gok r gap hok r.ps.length (Nat.le_refl _)
  rw [List.take_length, upto_all] at ha
  rw [upto_all] at hb
  unfold cornersG cornersS
  rw [ha, List.filterMap_map]
  generalize grouped (tgB gap) (bnds r (List.finRange r.ps.length)) = gss at hb
  clear ha
  induction gss with
  | nil => rfl
  | cons g gs ih =>
    rw [List.filterMap_cons, List.filterMap_cons, ih (fun g' hg' => hb g' (by simp [hg']))]
    have hg := hb g (by simp)
    have e : keepG least g = (keepCo r least ∘ coP) g := by
      obtain ⟨h1, h2⟩ := hg
      rcases nil_or_snoc g with rfl | ⟨ci, y, rfl⟩
      · exact absurd rfl h1
      obtain ⟨a, hha⟩ : ∃ a, (ci ++ [y]).head? = some a := by
        cases ci with
        | nil => exact ⟨_, rfl⟩
        | cons b ci => exact ⟨_, rfl⟩
      have hhl : (ci ++ [y]).getLast? = some y := by simp
      have hc : coP (ci ++ [y]) = ⟨a.fr, y.fr + y.p.len, y.p.turn, minR (ci ++ [y]) y.p.rad, a.p.rad, y.p.rad, 0⟩ := by
        unfold coP
        rw [hha, hhl]
      have hf : frG (ci ++ [y]) = a.fr := by unfold frG; rw [hha]
      have ht : toG (ci ++ [y]) = y.fr + y.p.len := by unfold toG; rw [hhl]
      rw [hf, ht] at h2
      simp only [Function.comp, keepG, hha, hhl, keepCo, finCo, hc, h2, coG]
    rw [e]

end Go.Proofs.Ytbdjmaogbpdkpaa

import Derived.Test.YtbdjmaogbpdkpaaRefE
import Derived.Test.YtbdjmaogbpdkpaaSgt
/-
  Corners in order: plain law.
-/
namespace Go.Proofs.Ytbdjmaogbpdkpaa

/-- At the place y the road turns so. -/
def HT (r : Road) (y t : Int) : Prop := ∀ k p, FindAt r.ps y k → r.ps[k]? = some p → p.turn = t
def NT (r : Road) (y t : Int) : Prop := ∀ k p, FindAt r.ps y k → r.ps[k]? = some p → p.turn ≠ t
theorem findAt_in {r : Road} (k : Nat) (hk : k < r.ps.length) (y : Int) (h1 : lenSum (r.ps.take k) ≤ y) (h2 : y < lenSum (r.ps.take k) + r.ps[k].len) : FindAt r.ps y k :=
  ⟨hk, h1, by rw [lenSum_take_succ r.ps k _ (List.getElem?_eq_getElem hk)]; exact h2⟩
theorem HT_in {r : Road} (hok : okPs r) (k : Nat) (hk : k < r.ps.length) (y : Int) (h1 : lenSum (r.ps.take k) ≤ y) (h2 : y < lenSum (r.ps.take k) + r.ps[k].len) : HT r y r.ps[k].turn := by
  intro k' p hf hp
  obtain rfl := FindAt.unique hok hf (findAt_in k hk y h1 h2)
  rw [List.getElem?_eq_getElem hk] at hp
  injection hp with hp
  rw [hp]
theorem HT.nt {r : Road} {y t u : Int} (h : HT r y t) (hne : t ≠ u) : NT r y u := fun k p hf hp => by rw [h k p hf hp]; exact hne

structure GoodG (r : Road) (n : Int) (c : Co) : Prop where
  f0 : 0 ≤ c.fr
  ft : c.fr < c.to
  tn : c.to ≤ n
  tu : c.turn = 1 ∨ c.turn = -1
  ri : c.rad ≤ c.inn
  ro : c.rad ≤ c.out
  h1 : HT r c.fr c.turn
  h2 : HT r (c.to - 1) c.turn
  h3 : ∀ y, c.fr ≤ y → y < c.to → NT r y (-c.turn)
  upn : 0 ≤ c.turn * (up r.ps c.to - up r.ps c.fr)
theorem GoodG.mono {r : Road} {n m : Int} {c : Co} (h : GoodG r n c) (hm : n ≤ m) : GoodG r m c := ⟨h.f0, h.ft, by have := h.tn; omega, h.tu, h.ri, h.ro, h.h1, h.h2, h.h3, h.upn⟩

structure OrdG (r : Road) (k : Nat) (gs : List Co) : Prop where
  good : ∀ c ∈ gs, GoodG r (lenSum (r.ps.take k)) c
  pair : gs.Pairwise fun a b => a.to ≤ b.fr
  last : ∀ i g, gs = i ++ [g] → up r.ps (lenSum (r.ps.take k)) = up r.ps g.to ∧ ∀ y, g.to ≤ y → y < lenSum (r.ps.take k) → HT r y 0

theorem trn_sign (t rd m : Int) (h0 : 0 ≤ m) (ht : t = 1 ∨ t = -1) (hr : 5 ≤ rd) : 0 ≤ t * trn t rd m := by
  have := (rnd_bd (1000 * m) rd (by omega) (by omega)).1
  unfold trn
  rw [if_neg (by omega)]
  rcases ht with rfl | rfl <;> omega

theorem ordG_new (r : Road) (hok : okPs r) (k : Nat) (hk : k < r.ps.length) (gs : List Co) (h : OrdG r k gs) (ht : r.ps[k].turn ≠ 0) :
    OrdG r (k + 1) (gs ++ [⟨lenSum (r.ps.take k), lenSum (r.ps.take k) + r.ps[k].len, r.ps[k].turn, r.ps[k].rad, r.ps[k].rad, r.ps[k].rad, 0⟩]) := by
  have hsum := lenSum_take_succ r.ps k _ (List.getElem?_eq_getElem hk)
  have hnext := up_next r hok k hk
  obtain ⟨q1, q2, q3, q4, q5, q6⟩ := hok.at hk
  have q5 := q5 ht
  have hb := (hok.beg k).1
  have htt : r.ps[k].turn = 1 ∨ r.ps[k].turn = -1 := by omega
  refine ⟨?_, ?_, ?_⟩
  · intro c hc
    rcases List.mem_append.1 hc with hc | hc
    · exact (h.good c hc).mono (by omega)
    · obtain rfl : c = _ := by simpa using hc
      refine ⟨hb, by dsimp only; omega, by dsimp only; omega, htt, by dsimp only; omega, by dsimp only; omega, HT_in hok k hk _ (by dsimp only; omega) (by dsimp only; omega), HT_in hok k hk _ (by dsimp only; omega) (by dsimp only; omega), fun y h1 h2 => (HT_in hok k hk y h1 h2).nt (by dsimp only; omega), ?_⟩
      dsimp only
      rw [← hsum, hnext]
      have := trn_sign r.ps[k].turn r.ps[k].rad r.ps[k].len (by omega) htt q5.1
      rw [show up r.ps (lenSum (r.ps.take k)) + trn r.ps[k].turn r.ps[k].rad r.ps[k].len - up r.ps (lenSum (r.ps.take k)) = trn r.ps[k].turn r.ps[k].rad r.ps[k].len by omega]
      exact this
  · rw [List.pairwise_append]
    refine ⟨h.pair, by simp, fun a ha b hb' => ?_⟩
    obtain rfl : b = _ := by simpa using hb'
    exact (h.good a ha).tn
  · intro i g e
    have := List.append_inj_right' e rfl
    obtain rfl : _ = g := by simpa using this
    dsimp only
    rw [← hsum]
    exact ⟨rfl, fun y h1 h2 => by omega⟩

theorem ordG_step (r : Road) (hok : okPs r) (gap : Int) (k : Nat) (hk : k < r.ps.length) (h : OrdG r k (grp gap (r.ps.take k)).1) : OrdG r (k + 1) (grp gap (r.ps.take (k + 1))).1 := by
  have hp := List.getElem?_eq_getElem hk
  have hsum := lenSum_take_succ r.ps k _ hp
  have hnext := up_next r hok k hk
  obtain ⟨q1, q2, q3, q4, q5, q6⟩ := hok.at hk
  rw [grp_take_succ gap r.ps k _ hp]
  unfold gstep
  rw [grp_at]
  generalize (grp gap (r.ps.take k)).1 = gs at h
  dsimp only
  by_cases ht : r.ps[k].turn = 0
  · rw [if_pos ht]
    refine ⟨fun c hc => (h.good c hc).mono (by omega), h.pair, fun i g e => ?_⟩
    obtain ⟨l1, l2⟩ := h.last i g e
    refine ⟨?_, fun y h1 h2 => ?_⟩
    · rw [hnext, ht, show trn 0 r.ps[k].rad r.ps[k].len = 0 by simp [trn], l1]
      omega
    · by_cases hy : y < lenSum (r.ps.take k)
      · exact l2 y h1 hy
      · have := HT_in hok k hk y (by omega) (by omega)
        rw [ht] at this
        exact this
  · rw [if_neg ht]
    have q5 := q5 ht
    have htt : r.ps[k].turn = 1 ∨ r.ps[k].turn = -1 := by omega
    rcases nil_or_snoc gs with rfl | ⟨gi, g, rfl⟩
    · rw [gput_app _ _ _ _ (fun g hg => by simp at hg)]
      exact ordG_new r hok k hk [] h ht
    · by_cases hc : g.turn = r.ps[k].turn ∧ lenSum (r.ps.take k) - g.to ≤ gap
      · rw [gput_upd gap gi g _ _ hc.1 hc.2]
        obtain ⟨l1, l2⟩ := h.last gi g rfl
        have hg := h.good g (by simp)
        have hgp := List.pairwise_append.1 h.pair
        have htn := hg.tn
        have hft := hg.ft
        have hgt := hc.1
        refine ⟨?_, ?_, ?_⟩
        · intro c hcm
          rcases List.mem_append.1 hcm with hcm | hcm
          · exact (h.good c (by simp [hcm])).mono (by omega)
          · obtain rfl : c = _ := by simpa using hcm
            refine ⟨hg.f0, by dsimp only; omega, by dsimp only; omega, hg.tu, by have := hg.ri; dsimp only; omega, by dsimp only; omega, hg.h1, ?_, fun y h1 h2 => ?_, ?_⟩
            · dsimp only
              rw [hgt]
              exact HT_in hok k hk _ (by omega) (by omega)
            · dsimp only at h1 h2 ⊢
              by_cases y1 : y < g.to
              · exact hg.h3 y h1 y1
              · by_cases y2 : y < lenSum (r.ps.take k)
                · exact (l2 y (by omega) y2).nt (by have := hg.tu; omega)
                · exact (HT_in hok k hk y (by omega) (by omega)).nt (by omega)
            · dsimp only
              rw [← hsum, hnext, l1, show up r.ps g.to + trn r.ps[k].turn r.ps[k].rad r.ps[k].len - up r.ps g.fr = (up r.ps g.to - up r.ps g.fr) + trn r.ps[k].turn r.ps[k].rad r.ps[k].len by omega, Int.mul_add]
              have a1 := hg.upn
              have a2 := trn_sign r.ps[k].turn r.ps[k].rad r.ps[k].len (by omega) htt q5.1
              rw [← hgt] at a2 ⊢
              omega
        · rw [List.pairwise_append]
          refine ⟨hgp.1, by simp, fun a ha b hb => ?_⟩
          obtain rfl : b = _ := by simpa using hb
          exact hgp.2.2 a ha g (by simp)
        · intro i g' e
          have := List.append_inj_right' e rfl
          obtain rfl : _ = g' := by simpa using this
          dsimp only
          rw [← hsum]
          exact ⟨rfl, fun y h1 h2 => by omega⟩
      · rw [gput_app _ _ _ _ (fun g' hg' => by
          have hg' : g = g' := by simpa using hg'
          subst hg'
          exact hc)]
        exact ordG_new r hok k hk _ h ht
theorem ordG_all (r : Road) (hok : okPs r) (gap : Int) : ∀ k, k ≤ r.ps.length → OrdG r k (grp gap (r.ps.take k)).1 := by
  intro k
  induction k with
  | zero => intro _; exact ⟨fun c hc => by simp [grp] at hc, by simp [grp], fun i g e => by simp [grp] at e⟩
  | succ k ih => intro hk; exact ordG_step r hok gap k (by omega) (ih (by omega))

/-- What the law RoadOrder asks of a corner. -/
structure OrdC (r : Road) (least : Int) (x : Co) : Prop where
  f0 : 0 ≤ x.fr
  ft : x.fr < x.to
  tn : x.to ≤ lenSum r.ps
  al : least ≤ x.ang
  ri : x.rad ≤ x.inn
  ro : x.rad ≤ x.out
  tu : x.turn = 1 ∨ x.turn = -1
  upe : up r.ps x.to - up r.ps x.fr = x.turn * x.ang
  h1 : HT r x.fr x.turn
  h2 : HT r (x.to - 1) x.turn
  h3 : ∀ y, x.fr ≤ y → y < x.to → NT r y (-x.turn)
theorem keepCo_some {r : Road} {least : Int} {c x : Co} (h : keepCo r least c = some x) : x = finCo r c ∧ least ≤ x.ang := by
  unfold keepCo at h
  split at h
  · injection h with h
    rename_i hl
    exact ⟨h.symm, h ▸ hl⟩
  · cases h
theorem cornersS_ord (r : Road) (hok : okPs r) (gap least : Int) : (∀ x ∈ cornersS r gap least, OrdC r least x) ∧ (cornersS r gap least).Pairwise fun a b => a.to ≤ b.fr := by
  have H := ordG_all r hok gap r.ps.length (Nat.le_refl _)
  rw [List.take_length] at H
  have hg := H.good
  rw [List.take_length] at hg
  refine ⟨fun x hx => ?_, ?_⟩
  · obtain ⟨c, hc, hk⟩ := List.mem_filterMap.1 hx
    obtain ⟨rfl, hl⟩ := keepCo_some hk
    have g := hg c hc
    refine ⟨g.f0, g.ft, g.tn, hl, g.ri, g.ro, g.tu, ?_, g.h1, g.h2, g.h3⟩
    have h1 := g.upn
    have h2 := g.tu
    simp only [finCo]
    rcases h2 with h2 | h2
    · rw [h2] at h1 ⊢
      omega
    · rw [h2] at h1 ⊢
      omega
  · refine List.Pairwise.filterMap _ (fun a b hab a' ha' b' hb' => ?_) H.pair
    obtain ⟨rfl, _⟩ := keepCo_some ha'
    obtain ⟨rfl, _⟩ := keepCo_some hb'
    exact hab

/-- With a greater angle there are only some of them. -/
theorem cornersS_more (r : Road) (gap least more : Int) (h : least ≤ more) : cornersS r gap more = (cornersS r gap least).filter fun x => decide (more ≤ x.ang) := by
  unfold cornersS
  induction (grp gap r.ps).1 with
  | nil => rfl
  | cons c cs ih =>
    rw [List.filterMap_cons, List.filterMap_cons]
    by_cases h1 : more ≤ (finCo r c).ang
    · rw [show keepCo r more c = some (finCo r c) from if_pos h1, show keepCo r least c = some (finCo r c) from if_pos (by omega)]
      simp only
      rw [List.filter_cons_of_pos (by simpa using h1), ih]
    · rw [show keepCo r more c = none from if_neg h1]
      simp only
      rw [ih]
      by_cases h2 : least ≤ (finCo r c).ang
      · rw [show keepCo r least c = some (finCo r c) from if_pos h2]
        simp only
        rw [List.filter_cons_of_neg (by simpa using h1)]
      · rw [show keepCo r least c = none from if_neg h2]

/-- The piece at a place. -/
def atP : List Pc → Int → Pc
  | [], _ => ⟨0, 0, 0, 0, 0⟩
  | p :: ps, y => if y < p.len then p else atP ps (y - p.len)
theorem atP_find : ∀ (ps : List Pc) (y : Int) (k : Nat) (p : Pc), (∀ q ∈ ps, 0 ≤ q.len) → FindAt ps y k → ps[k]? = some p → atP ps y = p := by
  intro ps
  induction ps with
  | nil => intro y k p _ _ hp; simp at hp
  | cons q qs ih =>
    intro y k p hl hf hp
    rcases k with _ | k
    · have h := hf.hi
      simp [lenSum] at h hp
      subst hp
      simp [atP, h]
    · have h1 := hf.lo
      have h2 := hf.hi
      have h0 := lenSum_nonneg (qs.take k) (fun r hr => hl r (by simp [List.mem_of_mem_take hr]))
      have e : ∀ m, lenSum ((q :: qs).take (m + 1)) = q.len + lenSum (qs.take m) := fun m => by simp [lenSum]
      rw [e] at h1 h2
      have hlt := hf.lt
      simp only [List.length_cons] at hlt
      simp only [atP]
      rw [if_neg (by omega)]
      exact ih (y - q.len) k p (fun r hr => hl r (by simp [hr])) ⟨by omega, by omega, by omega⟩ (by simpa using hp)
theorem findAt_ex : ∀ (ps : List Pc) (y : Int), 0 ≤ y → y < lenSum ps → ∃ k p, FindAt ps y k ∧ ps[k]? = some p := by
  intro ps
  induction ps with
  | nil => intro y h0 h1; simp [lenSum] at h1; omega
  | cons q qs ih =>
    intro y h0 h1
    have e : ∀ m, lenSum ((q :: qs).take (m + 1)) = q.len + lenSum (qs.take m) := fun m => by simp [lenSum]
    by_cases h : y < q.len
    · exact ⟨0, q, ⟨by simp, by simpa [lenSum] using h0, by rw [e]; simpa [lenSum] using h⟩, by simp⟩
    · obtain ⟨k, p, hf, hp⟩ := ih (y - q.len) (by omega) (by have : lenSum (q :: qs) = q.len + lenSum qs := by simp [lenSum]
                                                             omega)
      exact ⟨k + 1, p, ⟨by have := hf.lt; simp; omega, by rw [e]; have := hf.lo; omega, by rw [e]; have := hf.hi; omega⟩, by simpa using hp⟩
theorem HT.atP {r : Road} (hok : okPs r) {y t : Int} (h : HT r y t) (h0 : 0 ≤ y) (h1 : y < lenSum r.ps) : (atP r.ps y).turn = t := by
  obtain ⟨k, p, hf, hp⟩ := findAt_ex r.ps y h0 h1
  rw [atP_find r.ps y k p (fun q hq => (hok.lens q hq).1) hf hp]
  exact h k p hf hp
theorem NT.atP {r : Road} (hok : okPs r) {y t : Int} (h : NT r y t) (h0 : 0 ≤ y) (h1 : y < lenSum r.ps) : (atP r.ps y).turn ≠ t := by
  obtain ⟨k, p, hf, hp⟩ := findAt_ex r.ps y h0 h1
  rw [atP_find r.ps y k p (fun q hq => (hok.lens q hq).1) hf hp]
  exact h k p hf hp
theorem atP_turn {r : Road} (hok : okPs r) (y : Int) (h0 : 0 ≤ y) (h1 : y < lenSum r.ps) : -1 ≤ (atP r.ps y).turn ∧ (atP r.ps y).turn ≤ 1 := by
  obtain ⟨k, p, hf, hp⟩ := findAt_ex r.ps y h0 h1
  rw [atP_find r.ps y k p (fun q hq => (hok.lens q hq).1) hf hp]
  obtain ⟨hk, e⟩ := List.getElem?_eq_some_iff.1 hp
  have := hok.at hk
  rw [e] at this
  exact ⟨this.2.2.1, this.2.2.2.1⟩

/-- Where the corner before number k ends. -/
def lastTo (cs : List Co) (k : Nat) : Int := ((cs.take k).getLast?.map Co.to).getD 0
theorem lastTo_succ (cs : List Co) (k : Nat) (x : Co) (h : cs[k]? = some x) : lastTo cs (k + 1) = x.to := by
  unfold lastTo
  rw [List.take_add_one, h]
  simp
theorem lastTo_le {r : Road} {least : Int} (cs : List Co) (hc : ∀ x ∈ cs, OrdC r least x) (hp : cs.Pairwise fun a b => a.to ≤ b.fr) (k : Nat) (x : Co) (h : cs[k]? = some x) : lastTo cs k ≤ x.fr := by
  unfold lastTo
  cases hl : (cs.take k).getLast? with
  | none => simp; exact (hc x (List.mem_of_getElem? h)).f0
  | some y =>
    simp only [Option.map_some, Option.getD_some]
    have hy : y ∈ cs.take k := List.mem_of_getLast? hl
    obtain ⟨hk, e⟩ := List.getElem?_eq_some_iff.1 h
    rw [← List.take_append_drop k cs, List.pairwise_append] at hp
    exact hp.2.2 y hy x (by rw [List.drop_eq_getElem_cons hk, e]; simp)
theorem lastTo_bd {r : Road} {least : Int} (cs : List Co) (hc : ∀ x ∈ cs, OrdC r least x) (h0 : 0 ≤ lenSum r.ps) (k : Nat) : 0 ≤ lastTo cs k ∧ lastTo cs k ≤ lenSum r.ps := by
  unfold lastTo
  cases hl : (cs.take k).getLast? with
  | none => simp; exact h0
  | some y =>
    simp only [Option.map_some, Option.getD_some]
    have hy : y ∈ cs := List.mem_of_mem_take (List.mem_of_getLast? hl)
    have hO := hc y hy
    have := hO.f0
    have := hO.ft
    have := hO.tn
    omega

theorem filter_at {α : Type} (f : α → Bool) (l : List α) (k : Nat) (x : α) (h : l[k]? = some x) :
    (f x = true → (l.filter f)[((l.take k).filter f).length]? = some x ∧ ((l.take (k + 1)).filter f).length = ((l.take k).filter f).length + 1) ∧
    (f x = false → ((l.take (k + 1)).filter f).length = ((l.take k).filter f).length) := by
  obtain ⟨hk, e⟩ := List.getElem?_eq_some_iff.1 h
  refine ⟨fun hf => ⟨?_, ?_⟩, fun hf => ?_⟩
  · have e2 : l.filter f = (l.take k).filter f ++ (x :: l.drop (k + 1)).filter f := by
      rw [← List.filter_append, ← e, ← List.drop_eq_getElem_cons hk, List.take_append_drop]
    rw [e2, List.getElem?_append_right (Nat.le_refl _), Nat.sub_self, List.filter_cons_of_pos hf]
    rfl
  · rw [List.take_add_one, h, List.filter_append]
    simp [hf]
  · rw [List.take_add_one, h, List.filter_append]
    simp [hf]
theorem filter_take_le {α : Type} (f : α → Bool) (l : List α) (k : Nat) : ((l.take k).filter f).length ≤ (l.filter f).length := by
  have e2 : l.filter f = (l.take k).filter f ++ (l.drop k).filter f := by rw [← List.filter_append, List.take_append_drop]
  rw [e2, List.length_append]
  omega

end Go.Proofs.Ytbdjmaogbpdkpaa

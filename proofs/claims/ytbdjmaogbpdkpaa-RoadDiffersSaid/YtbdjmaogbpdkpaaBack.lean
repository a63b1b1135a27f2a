import Derived.Test.YtbdjmaogbpdkpaaRRev
import Derived.Test.YtbdjmaogbpdkpaaCorP
/-
  The corners of a reversed road: plain law.
-/
namespace Go.Proofs.Ytbdjmaogbpdkpaa
set_option linter.unusedVariables false
set_option linter.unusedSimpArgs false

/-- One element more ahead of the groups. -/
def gcons {α : Type} (tg : α → α → Bool) (x : α) (gs : List (List α)) : List (List α) :=
  match gs with
  | [] => [[x]]
  | g :: gs' => match g with
    | [] => [x] :: g :: gs'
    | y :: g' => if tg x y = true then (x :: y :: g') :: gs' else [x] :: (y :: g') :: gs'
theorem gadd_last {α : Type} (tg : α → α → Bool) (cl : List (List α)) (g : List α) (hg : g ≠ []) (x : α) : gadd tg (cl ++ [g]) x = if tg (g.getLast hg) x = true then cl ++ [g ++ [x]] else cl ++ [g] ++ [[x]] := by
  unfold gadd
  rw [List.getLast?_concat]
  simp only [List.getLast?_eq_some_getLast hg, List.dropLast_concat]
theorem gadd_gcons {α : Type} (tg : α → α → Bool) (x y : α) (gs : List (List α)) (hne : ∀ g ∈ gs, g ≠ []) : gadd tg (gcons tg x gs) y = gcons tg x (gadd tg gs y) := by
  rcases nil_or_snoc gs with rfl | ⟨cl, g, rfl⟩
  · show gadd tg [[x]] y = gcons tg x [[y]]
    have := gadd_last tg [] [x] (by simp) y
    simp only [List.nil_append, List.getLast_singleton] at this
    rw [this]
    by_cases h : tg x y = true <;> simp [gcons, h]
  · have hg := hne g (by simp)
    rw [gadd_last tg cl g hg y]
    cases cl with
    | nil =>
      obtain ⟨a, g', rfl⟩ : ∃ a g', g = a :: g' := by cases g with
        | nil => exact absurd rfl hg
        | cons a g' => exact ⟨a, g', rfl⟩
      simp only [List.nil_append, gcons]
      by_cases h1 : tg x a = true
      · rw [if_pos h1]
        have := gadd_last tg [] (x :: a :: g') (by simp) y
        simp only [List.nil_append] at this
        rw [this, show (x :: a :: g').getLast (by simp) = (a :: g').getLast hg by simp]
        split
        · simp [gcons, h1]
        · simp [gcons, h1]
      · rw [if_neg h1]
        have := gadd_last tg [[x]] (a :: g') (by simp) y
        simp only [List.singleton_append] at this
        rw [this]
        split
        · simp [gcons, h1]
        · simp [gcons, h1]
    | cons c cl =>
      obtain ⟨a, c', rfl⟩ : ∃ a c', c = a :: c' := by
        have := hne c (by simp)
        cases c with
        | nil => exact absurd rfl this
        | cons a c' => exact ⟨a, c', rfl⟩
      simp only [List.cons_append, gcons]
      by_cases h1 : tg x a = true
      · rw [if_pos h1]
        have := gadd_last tg ((x :: a :: c') :: cl) g hg y
        simp only [List.cons_append] at this
        rw [this]
        split <;> simp [gcons, h1]
      · rw [if_neg h1]
        have := gadd_last tg ([x] :: (a :: c') :: cl) g hg y
        simp only [List.cons_append] at this
        rw [this]
        split <;> simp [gcons, h1]
theorem gadd_ne {α : Type} (tg : α → α → Bool) (y : α) (gs : List (List α)) (hne : ∀ g ∈ gs, g ≠ []) : ∀ g ∈ gadd tg gs y, g ≠ [] := by
  rcases nil_or_snoc gs with rfl | ⟨cl, g, rfl⟩
  · intro g hg
    simp [gadd_first] at hg
    subst hg
    simp
  · have hg := hne g (by simp)
    rw [gadd_last tg cl g hg y]
    intro g' hg'
    split at hg'
    · rcases List.mem_append.1 hg' with h | h
      · exact hne g' (by simp [h])
      · simp at h
        subst h
        simp
    · rcases List.mem_append.1 hg' with h | h
      · exact hne g' h
      · simp at h
        subst h
        simp
theorem fold_gcons {α : Type} (tg : α → α → Bool) (x : α) : ∀ (l : List α) (gs : List (List α)), (∀ g ∈ gs, g ≠ []) → l.foldl (gadd tg) (gcons tg x gs) = gcons tg x (l.foldl (gadd tg) gs)
  | [], _, _ => rfl
  | y :: l, gs, h => by
    rw [List.foldl_cons, List.foldl_cons, gadd_gcons tg x y gs h]
    exact fold_gcons tg x l _ (gadd_ne tg y gs h)
theorem grouped_cons {α : Type} (tg : α → α → Bool) (x : α) (l : List α) : grouped tg (x :: l) = gcons tg x (grouped tg l) := by
  unfold grouped
  rw [← fold_gcons tg x l [] (by simp)]
  rfl

/-- The groups of a list that is mirrored and reversed. -/
theorem gcons_rev {α : Type} (tg : α → α → Bool) (m : α → α) (hm : ∀ x y, tg (m x) (m y) = tg y x) (gs : List (List α)) (x : α) (hne : ∀ g ∈ gs, g ≠ []) :
    ((gadd tg gs x).map fun g => (g.map m).reverse).reverse = gcons tg (m x) ((gs.map fun g => (g.map m).reverse).reverse) := by
  rcases nil_or_snoc gs with rfl | ⟨cl, g, rfl⟩
  · simp [gadd_first, gcons]
  · have hg := hne g (by simp)
    rw [gadd_last tg cl g hg x]
    obtain ⟨g', z, rfl⟩ : ∃ g' z, g = g' ++ [z] := by
      rcases nil_or_snoc g with rfl | h
      · exact absurd rfl hg
      · exact h
    rw [show (g' ++ [z]).getLast hg = z by simp]
    by_cases h1 : tg z x = true
    · rw [if_pos h1]
      simp [gcons, hm, h1]
    · rw [if_neg h1]
      simp [gcons, hm, h1]
theorem grouped_rev {α : Type} (tg : α → α → Bool) (m : α → α) (hm : ∀ x y, tg (m x) (m y) = tg y x) (l : List α) : grouped tg (l.map m).reverse = ((grouped tg l).map fun g => (g.map m).reverse).reverse := by
  have hne : ∀ k, k ≤ l.length → ∀ g ∈ grouped tg (l.take k), g ≠ [] := fun k hk => (grouped_last tg l k hk).2
  have H : ∀ k, k ≤ l.length → grouped tg ((l.take k).map m).reverse = ((grouped tg (l.take k)).map fun g => (g.map m).reverse).reverse := by
    intro k
    induction k with
    | zero => intro _; rfl
    | succ k ih =>
      intro hk
      obtain ⟨x, hx⟩ := getElem?_ex (show k < l.length by omega)
      rw [grouped_take_succ tg l k x hx, gcons_rev tg m hm _ _ (hne k (by omega)), ← ih (by omega), List.take_add_one, hx]
      simp only [Option.toList_some, List.map_append, List.map_cons, List.map_nil, List.reverse_append, List.reverse_cons, List.reverse_nil, List.nil_append, List.singleton_append]
      exact grouped_cons tg (m x) _
  have := H l.length (Nat.le_refl _)
  rwa [List.take_length] at this

/-- The bends of a list of pieces that begins at s. -/
def bndL : List Pc → Int → List Bd
  | [], _ => []
  | p :: ps, s => (bdOf p s).toList ++ bndL ps (s + p.len)
theorem bndL_append (ps qs : List Pc) : ∀ s, bndL (ps ++ qs) s = bndL ps s ++ bndL qs (s + lenSum ps) := by
  induction ps with
  | nil => intro s; simp [bndL, lenSum]
  | cons p ps ih =>
    intro s
    simp only [List.cons_append, bndL, ih, List.append_assoc]
    rw [show s + p.len + lenSum ps = s + lenSum (p :: ps) by simp [lenSum]; omega]
theorem bnds_upto (r : Road) : ∀ k, k ≤ r.ps.length → bnds r (upto r.ps.length k) = bndL (r.ps.take k) 0 := by
  intro k
  induction k with
  | zero => intro _; simp [upto, bnds, bndL]
  | succ k ih =>
    intro hk
    have hlt : k < r.ps.length := by omega
    rw [upto_succ ⟨k, hlt⟩, bnds_snoc, ih (by omega), List.take_add_one, List.getElem?_eq_getElem hlt, bndL_append]
    simp [bndL]
theorem bnds_all (r : Road) : bnds r (List.finRange r.ps.length) = bndL r.ps 0 := by
  rw [← upto_all, bnds_upto r _ (Nat.le_refl _), List.take_length]
def mirB (n : Int) (b : Bd) : Bd := ⟨revP b.p, n - b.fr - b.p.len⟩
theorem lenSum_rev (ps : List Pc) : lenSum (ps.reverse.map revP) = lenSum ps := by
  induction ps with
  | nil => rfl
  | cons p ps ih =>
    have h1 : lenSum ((p :: ps).reverse.map revP) = lenSum (ps.reverse.map revP) + p.len := by simp [lenSum, revP]
    rw [h1, ih]
    simp [lenSum]
    omega
theorem bndL_rev (ps : List Pc) : ∀ s, bndL (ps.reverse.map revP) 0 = ((bndL ps s).map (mirB (s + lenSum ps))).reverse := by
  induction ps with
  | nil => intro s; rfl
  | cons p ps ih =>
    intro s
    rw [List.reverse_cons, List.map_append, bndL_append, ih (s + p.len), lenSum_rev, show s + p.len + lenSum ps = s + lenSum (p :: ps) by simp [lenSum]; omega]
    simp only [bndL, List.map_append, List.reverse_append, List.map_cons, List.map_nil, List.append_nil, Int.zero_add]
    congr 1
    by_cases h : p.turn = 0
    · simp [bdOf, revP, h]
    · have h' : ¬ -p.turn = 0 := by omega
      rw [show bdOf (revP p) (lenSum ps) = some ⟨revP p, lenSum ps⟩ from if_neg h', show bdOf p s = some ⟨p, s⟩ from if_neg h]
      simp only [Option.toList_some, List.map_cons, List.map_nil, List.reverse_cons, List.reverse_nil, List.nil_append, mirB]
      rw [show s + lenSum (p :: ps) - s - p.len = lenSum ps by simp [lenSum]; omega]
theorem tgB_mir (gap n : Int) (x y : Bd) : tgB gap (mirB n x) (mirB n y) = tgB gap y x := by
  unfold tgB mirB revP
  rw [Bool.eq_iff_iff]
  simp only [Bool.and_eq_true, decide_eq_true_eq]
  omega

/-- A mirrored corner. -/
def mirC (n : Int) (y : Co) : Co := ⟨n - y.to, n - y.fr, -y.turn, y.rad, y.out, y.inn, y.ang⟩
theorem trn_neg (t rd m : Int) : trn (-t) rd m = -trn t rd m := by
  unfold trn
  by_cases h : t = 0
  · simp [h]
  · rw [if_neg h, if_neg (by omega), Int.neg_mul]
theorem turnS_mir (n : Int) (g : List Bd) : turnS ((g.map (mirB n)).reverse) = -turnS g := by
  induction g with
  | nil => rfl
  | cons b g ih =>
    rw [List.map_cons, List.reverse_cons, turnS_snoc, ih]
    simp only [mirB, revP, trn_neg, turnS, List.map_cons, List.sum_cons]
    omega
theorem minR_le (g : List Bd) : ∀ m, minR g m ≤ m ∧ (∀ b ∈ g, minR g m ≤ b.p.rad) ∧ (minR g m = m ∨ ∃ b ∈ g, minR g m = b.p.rad) := by
  induction g with
  | nil => intro m; exact ⟨Int.le_refl _, by simp, .inl rfl⟩
  | cons b g ih =>
    intro m
    have e : minR (b :: g) m = minR g (min m b.p.rad) := rfl
    obtain ⟨h1, h2, h3⟩ := ih (min m b.p.rad)
    rw [e]
    refine ⟨by omega, fun c hc => ?_, ?_⟩
    · rcases List.mem_cons.1 hc with rfl | hc
      · omega
      · exact h2 c hc
    · rcases h3 with h3 | ⟨c, hc, h3⟩
      · by_cases hm : m ≤ b.p.rad
        · exact .inl (by omega)
        · exact .inr ⟨b, by simp, by omega⟩
      · exact .inr ⟨c, by simp [hc], h3⟩
theorem minR_mir (n : Int) (g : List Bd) (a z : Bd) (ha : a ∈ g) (hz : z ∈ g) : minR ((g.map (mirB n)).reverse) a.p.rad = minR g z.p.rad := by
  obtain ⟨_, h2, h3⟩ := minR_le g z.p.rad
  obtain ⟨_, k2, k3⟩ := minR_le ((g.map (mirB n)).reverse) a.p.rad
  have mem : ∀ b ∈ g, mirB n b ∈ (g.map (mirB n)).reverse := fun b hb => List.mem_reverse.2 (List.mem_map_of_mem hb)
  have A : minR g z.p.rad ≤ minR ((g.map (mirB n)).reverse) a.p.rad := by
    rcases k3 with k3 | ⟨c, hc, k3⟩
    · rw [k3]; exact h2 a ha
    · obtain ⟨b, hb, rfl⟩ := List.mem_map.1 (List.mem_reverse.1 hc)
      rw [k3]
      exact h2 b hb
  have B : minR ((g.map (mirB n)).reverse) a.p.rad ≤ minR g z.p.rad := by
    rcases h3 with h3 | ⟨b, hb, h3⟩
    · rw [h3]; exact k2 (mirB n z) (mem z hz)
    · rw [h3]; exact k2 (mirB n b) (mem b hb)
  omega
/-- In a group all turn alike. -/
theorem grouped_turn (gap : Int) (l : List Bd) : ∀ g ∈ grouped (tgB gap) l, ∀ x ∈ g, ∀ y ∈ g, x.p.turn = y.p.turn := by
  have H : ∀ (l : List Bd), (∀ g ∈ grouped (tgB gap) l, ∀ x ∈ g, ∀ y ∈ g, x.p.turn = y.p.turn) := by
    intro l
    induction l with
    | nil => intro g hg; simp [grouped] at hg
    | cons b l ih =>
      rw [grouped_cons]
      unfold gcons
      cases hgl : grouped (tgB gap) l with
      | nil =>
        intro g hg x hx y hy
        simp only [List.mem_cons, List.not_mem_nil, or_false] at hg
        subst hg
        simp only [List.mem_cons, List.not_mem_nil, or_false] at hx hy
        rw [hx, hy]
      | cons g0 gs =>
        rw [hgl] at ih
        cases g0 with
        | nil =>
          intro g hg x hx y hy
          rcases List.mem_cons.1 hg with rfl | hg
          · simp only [List.mem_cons, List.not_mem_nil, or_false] at hx hy
            rw [hx, hy]
          · exact ih g hg x hx y hy
        | cons a g' =>
          dsimp only
          by_cases ht : tgB gap b a = true
          · rw [if_pos ht]
            have hta : b.p.turn = a.p.turn := by
              simp only [tgB, Bool.and_eq_true, decide_eq_true_eq] at ht
              exact ht.1
            intro g hg x hx y hy
            rcases List.mem_cons.1 hg with rfl | hg
            · have e : ∀ x ∈ b :: a :: g', x.p.turn = a.p.turn := fun x hx => by
                rcases List.mem_cons.1 hx with rfl | hx
                · exact hta
                · exact ih (a :: g') (by simp) x hx a (by simp)
              rw [e x hx, e y hy]
            · exact ih g (by simp [hg]) x hx y hy
          · rw [if_neg ht]
            intro g hg x hx y hy
            rcases List.mem_cons.1 hg with rfl | hg
            · simp only [List.mem_cons, List.not_mem_nil, or_false] at hx hy
              rw [hx, hy]
            · exact ih g hg x hx y hy
  exact H l
theorem keepG_mir (n least : Int) (g : List Bd) (ht : ∀ x ∈ g, ∀ y ∈ g, x.p.turn = y.p.turn) : keepG least ((g.map (mirB n)).reverse) = (keepG least g).map (mirC n) := by
  rcases nil_or_snoc g with rfl | ⟨g', z, rfl⟩
  · rfl
  · obtain ⟨a, g2, e⟩ : ∃ a g2, g' ++ [z] = a :: g2 := by cases g' with
      | nil => exact ⟨z, [], rfl⟩
      | cons a g2 => exact ⟨a, g2 ++ [z], rfl⟩
    have ha : a ∈ g' ++ [z] := by rw [e]; simp
    have hz : z ∈ g' ++ [z] := by simp
    have h1 : (g' ++ [z])[0]? = some a := by rw [e]; rfl
    have h2 : (g' ++ [z])[(g' ++ [z]).length - 1]? = some z := by simp
    have k1 : (((g' ++ [z]).map (mirB n)).reverse)[0]? = some (mirB n z) := by simp
    have k2 : (((g' ++ [z]).map (mirB n)).reverse)[(((g' ++ [z]).map (mirB n)).reverse).length - 1]? = some (mirB n a) := by
      rw [e]
      simp
    rw [keepG_of least _ _ _ h1 h2, keepG_of least _ _ _ k1 k2, turnS_mir]
    have hm : max (-turnS (g' ++ [z])) (- -turnS (g' ++ [z])) = max (turnS (g' ++ [z])) (-turnS (g' ++ [z])) := by omega
    rw [hm]
    by_cases hl : least ≤ max (turnS (g' ++ [z])) (-turnS (g' ++ [z]))
    · rw [if_pos hl, if_pos hl, Option.map_some]
      congr 1
      unfold coG mirC
      rw [turnS_mir, hm]
      have hmr := minR_mir n (g' ++ [z]) a z ha hz
      have hta := ht a ha z hz
      simp only [mirB, revP] at hmr ⊢
      congr 1 <;> omega
    · rw [if_neg hl, if_neg hl, Option.map_none]
/-- A reversed road has the corners in the reverse order, mirrored. -/
theorem cornersG_rev (r : Road) (gap least : Int) : cornersG (revR r) gap least = ((cornersG r gap least).map (mirC (lenSum r.ps))).reverse := by
  have e1 : bnds (revR r) (List.finRange (revR r).ps.length) = ((bndL r.ps 0).map (mirB (lenSum r.ps))).reverse := by
    rw [bnds_all, show (revR r).ps = r.ps.reverse.map revP from rfl, bndL_rev r.ps 0, Int.zero_add]
  unfold cornersG
  rw [e1, bnds_all, grouped_rev (tgB gap) (mirB (lenSum r.ps)) (tgB_mir gap _)]
  have ht := grouped_turn gap (bndL r.ps 0)
  generalize grouped (tgB gap) (bndL r.ps 0) = gss at ht
  rw [List.filterMap_reverse]
  congr 1
  induction gss with
  | nil => rfl
  | cons g gss ih =>
    have hk := keepG_mir (lenSum r.ps) least g (ht g (by simp))
    rw [List.map_cons, List.filterMap_cons, List.filterMap_cons, hk, ih (fun g' hg' => ht g' (by simp [hg']))]
    cases keepG least g with
    | none => rfl
    | some c => rfl

theorem pcOkP_rev (p : Pc) (h : pcOkP p = true) : pcOkP (revP p) = true := by
  show (inB p.len 1 5000 && inB (-p.turn) (-1) 1 && inB p.wid 15 300 && inB p.sur 1 9 && (if -p.turn = 0 then p.rad == 0 else inB p.rad 5 2000)) = true
  simp only [pcOkP, pcOk, inB, Bool.and_eq_true, decide_eq_true_eq] at h ⊢
  obtain ⟨⟨⟨⟨h1, h2⟩, h3⟩, h4⟩, h5⟩ := h
  refine ⟨⟨⟨⟨h1, by omega⟩, h3⟩, h4⟩, ?_⟩
  by_cases ht : p.turn = 0
  · rw [if_pos ht] at h5
    rw [if_pos (by omega)]
    exact h5
  · rw [if_neg ht] at h5
    rw [if_neg (by omega)]
    exact h5
theorem crs_iff (n : Int) (cs : List Cr) : crsOk n cs = true ↔ ∀ (i : Nat) (c : Cr), cs[i]? = some c → 0 ≤ c.at_ ∧ c.at_ ≤ n ∧ 1 ≤ c.size ∧ c.size ≤ 3 ∧ ∀ (j : Nat) (d : Cr), i = j + 1 → cs[j]? = some d → d.at_ < c.at_ := by
  unfold crsOk
  rw [List.all_eq_true]
  constructor
  · intro h i c hc
    obtain ⟨hi, _⟩ := List.getElem?_eq_some_iff.1 hc
    have := h i (by simpa using hi)
    simp only [crAt, hc, inB, Bool.and_eq_true, Bool.or_eq_true, decide_eq_true_eq, Bool.not_eq_true', decide_eq_false_iff_not, beq_iff_eq] at this
    refine ⟨this.1.1.1, this.1.1.2, this.1.2.1, this.1.2.2, fun j d e hd => ?_⟩
    subst e
    have h2 := this.2
    simp only [Nat.add_sub_cancel, hd, Option.getD_some] at h2
    omega
  · intro h i hi
    have hi : i < cs.length := by simpa using hi
    obtain ⟨c, hc⟩ := getElem?_ex hi
    obtain ⟨a1, a2, a3, a4, a5⟩ := h i c hc
    simp only [crAt, hc, inB, Bool.and_eq_true, Bool.or_eq_true, decide_eq_true_eq, Bool.not_eq_true', decide_eq_false_iff_not, beq_iff_eq]
    refine ⟨⟨⟨a1, a2⟩, a3, a4⟩, ?_⟩
    rcases i with _ | j
    · exact .inl rfl
    · right
      obtain ⟨d, hd⟩ := getElem?_ex (show j < cs.length by omega)
      have := a5 j d rfl hd
      simp only [Nat.add_sub_cancel, hd, Option.getD_some]
      omega
theorem jns_iff (n : Int) (cs : List Jn) : jnsOk n cs = true ↔ ∀ (i : Nat) (c : Jn), cs[i]? = some c → 0 ≤ c.at_ ∧ c.at_ ≤ n ∧ 2 ≤ c.arms ∧ c.arms ≤ 6 ∧ 1 ≤ c.way ∧ c.way ≤ c.arms ∧ ∀ (j : Nat) (d : Jn), i = j + 1 → cs[j]? = some d → d.at_ < c.at_ := by
  unfold jnsOk
  rw [List.all_eq_true]
  constructor
  · intro h i c hc
    obtain ⟨hi, _⟩ := List.getElem?_eq_some_iff.1 hc
    have := h i (by simpa using hi)
    simp only [jnAt, hc, inB, Bool.and_eq_true, Bool.or_eq_true, decide_eq_true_eq, Bool.not_eq_true', decide_eq_false_iff_not, beq_iff_eq] at this
    refine ⟨this.1.1.1.1, this.1.1.1.2, this.1.1.2.1, this.1.1.2.2, this.1.2.1, this.1.2.2, fun j d e hd => ?_⟩
    subst e
    have h2 := this.2
    simp only [Nat.add_sub_cancel, hd, Option.getD_some] at h2
    omega
  · intro h i hi
    have hi : i < cs.length := by simpa using hi
    obtain ⟨c, hc⟩ := getElem?_ex hi
    obtain ⟨a1, a2, a3, a4, a5, a6, a7⟩ := h i c hc
    simp only [jnAt, hc, inB, Bool.and_eq_true, Bool.or_eq_true, decide_eq_true_eq, Bool.not_eq_true', decide_eq_false_iff_not, beq_iff_eq]
    refine ⟨⟨⟨⟨a1, a2⟩, a3, a4⟩, a5, a6⟩, ?_⟩
    rcases i with _ | j
    · exact .inl rfl
    · right
      obtain ⟨d, hd⟩ := getElem?_ex (show j < cs.length by omega)
      have := a7 j d rfl hd
      simp only [Nat.add_sub_cancel, hd, Option.getD_some]
      omega
theorem rev_get {α β : Type} (f : α → β) (l : List α) (i : Nat) (y : β) (h : (l.reverse.map f)[i]? = some y) : i < l.length ∧ ∃ x, l[l.length - 1 - i]? = some x ∧ y = f x := by
  rw [List.getElem?_map] at h
  cases hx : l.reverse[i]? with
  | none => rw [hx] at h; cases h
  | some x =>
    rw [hx] at h
    injection h with h
    have hi : i < l.length := by
      have := (List.getElem?_eq_some_iff.1 hx).1
      simpa using this
    rw [List.getElem?_reverse hi] at hx
    exact ⟨hi, x, hx, h.symm⟩
theorem validB_rev (r : Road) (h : validB r = true) : validB (revR r) = true := by
  have hl := lenSum_rev r.ps
  simp only [validB, Bool.and_eq_true, decide_eq_true_eq] at h ⊢
  obtain ⟨⟨⟨⟨⟨⟨⟨h1, h2⟩, h3⟩, h4⟩, h5⟩, h6⟩, h7⟩, h8⟩ := h
  have e : lenSum (revR r).ps = lenSum r.ps := hl
  rw [e]
  refine ⟨⟨⟨⟨⟨⟨⟨by simpa [revR] using h1, by simpa [revR] using h2⟩, by simpa [revR] using h3⟩, by simpa [revR] using h4⟩, ?_⟩, h6⟩, ?_⟩, ?_⟩
  · rw [List.all_eq_true] at h5 ⊢
    intro p hp
    obtain ⟨q, hq, rfl⟩ := List.mem_map.1 hp
    exact pcOkP_rev q (h5 q (List.mem_reverse.1 hq))
  · rw [crs_iff] at h7 ⊢
    intro i c hc
    obtain ⟨hi, x, hx, rfl⟩ := rev_get _ _ _ _ hc
    obtain ⟨a1, a2, a3, a4, a5⟩ := h7 _ _ hx
    refine ⟨by simp only [revC]; omega, by simp only [revC]; omega, a3, a4, fun j d e hd => ?_⟩
    obtain ⟨hj, y, hy, rfl⟩ := rev_get _ _ _ _ hd
    have := (h7 _ _ hy).2.2.2.2 (r.cs.length - 1 - i) x (by omega) hx
    simp only [revC]
    omega
  · rw [jns_iff] at h8 ⊢
    intro i c hc
    obtain ⟨hi, x, hx, rfl⟩ := rev_get _ _ _ _ hc
    obtain ⟨a1, a2, a3, a4, a5, a6, a7⟩ := h8 _ _ hx
    refine ⟨by simp only [revJ]; omega, by simp only [revJ]; omega, a3, a4, by simp only [revJ]; omega, by simp only [revJ]; omega, fun j d e hd => ?_⟩
    obtain ⟨hj, y, hy, rfl⟩ := rev_get _ _ _ _ hd
    have := (h8 _ _ hy).2.2.2.2.2.2 (r.js.length - 1 - i) x (by omega) hx
    simp only [revJ]
    omega

end Go.Proofs.Ytbdjmaogbpdkpaa

import Derived.Test.YtbdjmaogbpdkpaaRNorm
import Derived.Test.YtbdjmaogbpdkpaaNrm
import Derived.Test.YtbdjmaogbpdkpaaBack
import Derived.Test.YtbdjmaogbpdkpaaOrd
/-
  Normal roads: plain law.
-/
namespace Go.Proofs.Ytbdjmaogbpdkpaa

/-- A piece without its length. -/
def kd (p : Pc) : Int × Int × Int × Int := (p.turn, p.rad, p.wid, p.sur)
theorem tgP_kd (x y : Pc) : tgP x y = decide (kd x = kd y) := by
  simp only [tgP, kd, Prod.mk.injEq, Bool.decide_and, Bool.and_assoc]
theorem tgP_true {x y : Pc} : tgP x y = true ↔ kd x = kd y := by rw [tgP_kd]; simp
theorem tgP_false {x y : Pc} : tgP x y = false ↔ kd x ≠ kd y := by rw [tgP_kd]; simp
/-- Groups of one kind each, neighbours of two kinds. -/
def Grd : List (List Pc) → Prop
  | [] => True
  | g :: gs => g ≠ [] ∧ (∀ x ∈ g, ∀ y ∈ g, kd x = kd y) ∧ (∀ h, gs.head? = some h → ∀ x ∈ g, ∀ y ∈ h, kd x ≠ kd y) ∧ Grd gs
theorem Grd_grouped (xs : List Pc) : Grd (grouped tgP xs) := by
  induction xs with
  | nil => exact trivial
  | cons x l ih =>
    rw [grouped_cons]
    cases hg : grouped tgP l with
    | nil => exact ⟨by simp, by simp, by simp, trivial⟩
    | cons g gs =>
      rw [hg] at ih
      obtain ⟨h1, h2, h3, h4⟩ := ih
      cases g with
      | nil => exact absurd rfl h1
      | cons y g =>
        simp only [gcons]
        cases ht : tgP x y
        · rw [if_neg (by simp)]
          have hk := tgP_false.1 ht
          refine ⟨by simp, by simp, ?_, h1, h2, h3, h4⟩
          intro h hh u hu v hv
          simp at hh hu
          subst hh hu
          rw [h2 v hv y (by simp)]
          exact hk
        · rw [if_pos rfl]
          have hk := tgP_true.1 ht
          have hxk : ∀ u ∈ x :: y :: g, kd u = kd y := by
            intro u hu
            rcases List.mem_cons.1 hu with rfl | hu
            · exact hk
            · exact h2 u hu y (by simp)
          refine ⟨by simp, fun u hu v hv => (hxk u hu).trans (hxk v hv).symm, ?_, h4⟩
          intro h hh u hu v hv
          rw [hxk u hu]
          exact h3 h hh y (by simp) v hv
theorem grouped_grd (gss : List (List Pc)) (h : Grd gss) : grouped tgP gss.flatten = gss := by
  induction gss with
  | nil => rfl
  | cons g gs ih =>
    obtain ⟨h1, h2, h3, h4⟩ := h
    have ih := ih h4
    induction g with
    | nil => exact absurd rfl h1
    | cons x t iht =>
      rw [List.flatten_cons, List.cons_append, grouped_cons]
      cases t with
      | nil =>
        rw [List.nil_append, ih]
        cases gs with
        | nil => rfl
        | cons g' gs =>
          have hg' := h4.1
          cases g' with
          | nil => exact absurd rfl hg'
          | cons y g' =>
            simp only [gcons]
            rw [tgP_false.2 (h3 _ rfl x (by simp) y (by simp)), if_neg (by simp)]
      | cons y t =>
        have := iht (by simp) (fun u hu v hv => h2 u (by simp [hu]) v (by simp [hv])) (fun q hq u hu v hv => h3 q hq u (by simp [hu]) v hv)
        rw [List.flatten_cons] at this
        rw [this]
        simp only [gcons]
        rw [tgP_true.2 (h2 x (by simp) y (by simp)), if_pos rfl]
theorem chunk_kd (p : Pc) : ∀ (m : Nat) (n : Int), n.toNat ≤ m → ∀ q ∈ chunkL p n, kd q = kd p := by
  intro m
  induction m with
  | zero => intro n h q hq; rw [chunkL_one p n (by omega)] at hq; simp at hq; subst hq; rfl
  | succ m ih =>
    intro n h q hq
    by_cases hn : 5000 < n
    · rw [chunkL_more p n hn] at hq
      rcases List.mem_cons.1 hq with rfl | hq
      · rfl
      · exact ih (n - 5000) (by omega) q hq
    · rw [chunkL_one p n hn] at hq; simp at hq; subst hq; rfl
theorem chunk_eq (p q : Pc) (h : kd p = kd q) : ∀ (m : Nat) (n : Int), n.toNat ≤ m → chunkL p n = chunkL q n := by
  obtain ⟨l, t, r, d, s⟩ := p
  obtain ⟨l', t', r', d', s'⟩ := q
  simp only [kd, Prod.mk.injEq] at h
  obtain ⟨rfl, rfl, rfl, rfl⟩ := h
  intro m
  induction m with
  | zero => intro n h; rw [chunkL_one _ n (by omega), chunkL_one _ n (by omega)]
  | succ m ih =>
    intro n h
    by_cases hn : 5000 < n
    · rw [chunkL_more _ n hn, chunkL_more _ n hn, ih (n - 5000) (by omega)]
    · rw [chunkL_one _ n hn, chunkL_one _ n hn]
theorem chunk_ne (p : Pc) (n : Int) : chunkL p n ≠ [] := by
  rw [chunkL]
  split <;> simp
theorem runOf_kd (g : List Pc) (h : ∀ x ∈ g, ∀ y ∈ g, kd x = kd y) : ∀ q ∈ runOf g, ∀ x ∈ g, kd q = kd x := by
  intro q hq x hx
  cases g with
  | nil => simp [runOf] at hq
  | cons y g => rw [chunk_kd y _ _ (Nat.le_refl _) q hq]; exact h y (by simp) x hx
theorem runOf_ne (g : List Pc) (h : g ≠ []) : runOf g ≠ [] := by
  cases g with
  | nil => exact absurd rfl h
  | cons y g => exact chunk_ne y _
theorem runOf_mem (g : List Pc) (h : g ≠ []) : ∃ x, x ∈ g := List.exists_mem_of_ne_nil g h
theorem Grd_runs (gss : List (List Pc)) (h : Grd gss) : Grd (gss.map runOf) := by
  induction gss with
  | nil => exact trivial
  | cons g gs ih =>
    obtain ⟨h1, h2, h3, h4⟩ := h
    obtain ⟨x0, hx0⟩ := runOf_mem g h1
    refine ⟨runOf_ne g h1, fun u hu v hv => (runOf_kd g h2 u hu x0 hx0).trans (runOf_kd g h2 v hv x0 hx0).symm, ?_, ih h4⟩
    intro k hk u hu v hv
    cases gs with
    | nil => simp at hk
    | cons g' gs =>
      simp at hk
      subst hk
      obtain ⟨y0, hy0⟩ := runOf_mem g' h4.1
      rw [runOf_kd g h2 u hu x0 hx0, runOf_kd g' h4.2.1 v hv y0 hy0]
      exact h3 g' rfl x0 hx0 y0 hy0
theorem runOf_sum (g : List Pc) (h : g ≠ []) : lenSum (runOf g) = lenSum g := by
  cases g with
  | nil => exact absurd rfl h
  | cons x g => exact chunk_sum x _ _ (Nat.le_refl _)
theorem runOf_idem (g : List Pc) (h1 : g ≠ []) (h2 : ∀ x ∈ g, ∀ y ∈ g, kd x = kd y) : runOf (runOf g) = runOf g := by
  have hs := runOf_sum g h1
  have hn := runOf_ne g h1
  cases g with
  | nil => exact absurd rfl h1
  | cons x g =>
    cases hr : runOf (x :: g) with
    | nil => exact absurd hr hn
    | cons q qs =>
      rw [hr] at hs
      show chunkL q (lenSum (q :: qs)) = q :: qs
      rw [hs, chunk_eq q x (runOf_kd (x :: g) h2 q (by rw [hr]; simp) x (by simp)) _ _ (Nat.le_refl _), ← hr]
      rfl
theorem Grd_each (gss : List (List Pc)) (h : Grd gss) : ∀ g ∈ gss, g ≠ [] ∧ ∀ x ∈ g, ∀ y ∈ g, kd x = kd y := by
  induction gss with
  | nil => intro g hg; simp at hg
  | cons g gs ih =>
    intro k hk
    rcases List.mem_cons.1 hk with rfl | hk
    · exact ⟨h.1, h.2.1⟩
    · exact ih h.2.2.2 k hk
theorem runsL_idem (xs : List Pc) : runsL (runsL xs) = runsL xs := by
  have hG := Grd_grouped xs
  have e : runsL xs = ((grouped tgP xs).map runOf).flatten := List.flatMap_def ..
  show (grouped tgP (runsL xs)).flatMap runOf = runsL xs
  rw [e, grouped_grd _ (Grd_runs _ hG), List.flatMap_def, List.map_map]
  congr 1
  exact List.map_congr_left fun g hg => runOf_idem g (Grd_each _ hG g hg).1 (Grd_each _ hG g hg).2

/-- A group as one long piece. -/
def mrgOf (g : List Pc) : Pc :=
  match g with
  | [] => ⟨0, 0, 0, 0, 0⟩
  | x :: _ => { x with len := lenSum g }
theorem mrg_grouped (xs : List Pc) : ∀ k, k ≤ xs.length → mrg (xs.take k) = (grouped tgP (xs.take k)).map mrgOf := by
  intro k
  induction k with
  | zero => intro _; rfl
  | succ k ih =>
    intro hk
    obtain ⟨x, hx⟩ := getElem?_ex (show k < xs.length by omega)
    rw [mrg_take_succ xs k x hx, grouped_take_succ tgP xs k x hx, ih (by omega)]
    have hG := Grd_each _ (Grd_grouped (xs.take k))
    generalize grouped tgP (xs.take k) = gs at hG ⊢
    rcases List.eq_nil_or_concat gs with rfl | ⟨cl, g, rfl⟩
    · simp [madd, gadd, mrgOf, lenSum]
    · rw [List.concat_eq_append] at hG ⊢
      obtain ⟨hg1, hg2⟩ := hG g (by simp)
      rcases List.eq_nil_or_concat g with rfl | ⟨g', y, rfl⟩
      · exact absurd rfl hg1
      · rw [List.concat_eq_append] at hg2 ⊢
        obtain ⟨y0, t0, e0⟩ : ∃ y0 t0, g' ++ [y] = y0 :: t0 := by
          cases g' with
          | nil => exact ⟨_, _, rfl⟩
          | cons a b => exact ⟨_, _, rfl⟩
        have hm : mrgOf (g' ++ [y]) = { y0 with len := lenSum (g' ++ [y]) } := by rw [e0]; rfl
        have hky : kd y0 = kd y := hg2 y0 (by rw [e0]; simp) y (by simp)
        have ht : tgP (mrgOf (g' ++ [y])) x = tgP y x := by rw [tgP_kd, tgP_kd, hm, show kd { y0 with len := lenSum (g' ++ [y]) } = kd y0 from rfl, hky]
        rw [List.map_append, List.map_cons, List.map_nil]
        cases htg : tgP y x
        · rw [madd_new _ _ _ (ht.trans htg), gadd_new tgP cl g' y x htg]
          simp [mrgOf, lenSum]
        · rw [madd_same _ _ _ (ht.trans htg), gadd_same tgP cl g' y x htg, List.map_append, List.map_cons, List.map_nil]
          have e1 : g' ++ [y] ++ [x] = y0 :: (t0 ++ [x]) := by rw [e0]; rfl
          have e2 : mrgOf (g' ++ [y] ++ [x]) = { y0 with len := lenSum (g' ++ [y] ++ [x]) } := by rw [e1]; rfl
          rw [e2, hm, lenSum_app (g' ++ [y]) [x], lenSum_one]
          rfl
/-- The reference's pieces are the runs. -/
theorem pcs_runs (xs : List Pc) : pcsL xs = runsL xs := by
  have h := mrg_grouped xs xs.length (Nat.le_refl _)
  rw [List.take_length] at h
  unfold pcsL runsL
  rw [h, List.flatMap_def, List.flatMap_def, List.map_map]
  congr 1
  refine List.map_congr_left fun g hg => ?_
  have hg1 := (Grd_each _ (Grd_grouped xs) g hg).1
  cases g with
  | nil => exact absurd rfl hg1
  | cons x g =>
    show chunkL { x with len := lenSum (x :: g) } (lenSum (x :: g)) = chunkL x (lenSum (x :: g))
    exact chunk_eq { x with len := lenSum (x :: g) } x rfl _ _ (Nat.le_refl _)

theorem lenSum_pos (ps : List Pc) (h : ∀ p ∈ ps, 0 ≤ p.len) : 0 ≤ lenSum ps := by
  induction ps with
  | nil => simp [lenSum]
  | cons p ps ih =>
    have e : lenSum (p :: ps) = p.len + lenSum ps := by simp [lenSum]
    have := h p (by simp)
    have := ih (fun q hq => h q (by simp [hq]))
    omega
theorem atP_one (k : Int × Int × Int × Int) : ∀ (ps qs : List Pc) (y : Int), 0 ≤ y → (∀ p ∈ ps, kd p = k) → (∀ p ∈ ps, 0 ≤ p.len) → kd (atP (ps ++ qs) y) = if y < lenSum ps then k else kd (atP qs (y - lenSum ps)) := by
  intro ps
  induction ps with
  | nil =>
    intro qs y h0 _ _
    have e : lenSum ([] : List Pc) = 0 := rfl
    rw [e, if_neg (by omega), List.nil_append, show y - 0 = y by omega]
  | cons p ps ih =>
    intro qs y h0 hk hl
    have e : lenSum (p :: ps) = p.len + lenSum ps := by simp [lenSum]
    have hp := hl p (by simp)
    have hps := lenSum_pos ps (fun q hq => hl q (by simp [hq]))
    rw [List.cons_append, e]
    show kd (if y < p.len then p else atP (ps ++ qs) (y - p.len)) = _
    by_cases h : y < p.len
    · rw [if_pos h, if_pos (by omega)]
      exact hk p (by simp)
    · rw [if_neg h, ih qs (y - p.len) (by omega) (fun q hq => hk q (by simp [hq])) (fun q hq => hl q (by simp [hq]))]
      by_cases h2 : y - p.len < lenSum ps
      · rw [if_pos h2, if_pos (by omega)]
      · rw [if_neg h2, if_neg (by omega), show y - p.len - lenSum ps = y - (p.len + lenSum ps) by omega]
theorem runOf_pos (g : List Pc) (h : okLen g) : ∀ p ∈ runOf g, 0 ≤ p.len := by
  cases g with
  | nil => intro p hp; simp [runOf] at hp
  | cons x g =>
    intro p hp
    have hl := lenSum_ok (x :: g) h
    have := chunk_mem x _ (lenSum (x :: g)) (Nat.le_refl _) (by simp only [List.length_cons] at hl; omega) p hp
    omega
theorem atP_groups : ∀ (gss : List (List Pc)), Grd gss → (∀ g ∈ gss, okLen g) → ∀ y, 0 ≤ y → kd (atP gss.flatten y) = kd (atP (gss.flatMap runOf) y) := by
  intro gss
  induction gss with
  | nil => intro _ _ y _; rfl
  | cons g gs ih =>
    intro hG hl y hy
    obtain ⟨x, hx⟩ := runOf_mem g hG.1
    have hlg := hl g (by simp)
    have hp : ∀ p ∈ g, 0 ≤ p.len := fun p hp => by have := hlg p hp; omega
    have hs := lenSum_pos g hp
    rw [List.flatten_cons, List.flatMap_cons, atP_one (kd x) g _ y hy (fun p hp => hG.2.1 p hp x hx) hp, atP_one (kd x) (runOf g) _ y hy (fun p hp => runOf_kd g hG.2.1 p hp x hx) (runOf_pos g hlg), runOf_sum g hG.1]
    by_cases h : y < lenSum g
    · rw [if_pos h, if_pos h]
    · rw [if_neg h, if_neg h, ih hG.2.2.2 (fun q hq => hl q (by simp [hq])) _ (by omega)]
/-- Meter by meter the runs are like the pieces. -/
theorem atP_runsL (xs : List Pc) (h : okLen xs) (y : Int) (hy : 0 ≤ y) : kd (atP xs y) = kd (atP (runsL xs) y) := by
  have hgl := grouped_last tgP xs xs.length (Nat.le_refl _)
  rw [List.take_length] at hgl
  have := atP_groups (grouped tgP xs) (Grd_grouped xs) (fun g hg x hx => h x (by rw [← hgl.1]; exact List.mem_flatten.2 ⟨g, hg, hx⟩)) y hy
  rw [hgl.1] at this
  exact this
theorem rnm_nrm (r : Road) : rnmR r = nrmR r := by unfold rnmR nrmR; rw [pcs_runs]
theorem nrm_idem (r : Road) : nrmR (nrmR r) = nrmR r := by
  show (⟨runsL (runsL r.ps), r.cs, r.js⟩ : Road) = ⟨runsL r.ps, r.cs, r.js⟩
  rw [runsL_idem]

end Go.Proofs.Ytbdjmaogbpdkpaa

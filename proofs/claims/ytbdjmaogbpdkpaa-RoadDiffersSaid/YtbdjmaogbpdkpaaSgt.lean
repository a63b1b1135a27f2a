import Derived.Test.YtbdjmaogbpdkpaaUpTo
/-
  How far one sees: plain law, no program in it.
-/
namespace Go.Proofs.Ytbdjmaogbpdkpaa

/-- From y on: how many places in a row hold, at most n. -/
def runOk (ok : Int → Bool) : Nat → Int → Int
  | 0, _ => 0
  | n + 1, y => if ok y then 1 + runOk ok n (y + 1) else 0

structure IsSight (ok : Int → Bool) (fr lim s : Int) : Prop where
  nn : 0 ≤ s
  le : s ≤ lim
  ok_ : ∀ y, fr < y → y ≤ fr + s → ok y = true
  end_ : s = lim ∨ ok (fr + s + 1) = false

theorem IsSight.uniq {ok : Int → Bool} {fr lim s t : Int} (h : IsSight ok fr lim s) (k : IsSight ok fr lim t) : s = t := by
  rcases Int.lt_trichotomy s t with hlt | rfl | hlt
  · rcases h.end_ with e | e
    · have := k.le; omega
    · have := k.ok_ (fr + s + 1) (by have := h.nn; omega) (by omega)
      rw [e] at this; cases this
  · rfl
  · rcases k.end_ with e | e
    · have := h.le; omega
    · have := h.ok_ (fr + t + 1) (by have := k.nn; omega) (by omega)
      rw [e] at this; cases this

theorem runOk_spec (ok : Int → Bool) : ∀ (n : Nat) (y : Int), 0 ≤ runOk ok n y ∧ runOk ok n y ≤ n ∧ (∀ z, y ≤ z → z < y + runOk ok n y → ok z = true) ∧ (runOk ok n y = n ∨ ok (y + runOk ok n y) = false)
  | 0, y => ⟨by simp [runOk], by simp [runOk], fun z h1 h2 => by simp [runOk] at h2; omega, .inl (by simp [runOk])⟩
  | n + 1, y => by
    obtain ⟨h1, h2, h3, h4⟩ := runOk_spec ok n (y + 1)
    by_cases h : ok y = true
    · have e : runOk ok (n + 1) y = 1 + runOk ok n (y + 1) := by simp [runOk, h]
      rw [e]
      refine ⟨by omega, by omega, fun z hz1 hz2 => ?_, ?_⟩
      · by_cases hz : z = y
        · rw [hz]; exact h
        · exact h3 z (by omega) (by omega)
      · rcases h4 with h4 | h4
        · exact .inl (by omega)
        · exact .inr (by rw [show y + (1 + runOk ok n (y + 1)) = y + 1 + runOk ok n (y + 1) by omega]; exact h4)
    · have h' : ok y = false := by simpa using h
      have e : runOk ok (n + 1) y = 0 := by simp [runOk, h']
      rw [e]
      exact ⟨by omega, by omega, fun z hz1 hz2 => by omega, .inr (by rw [Int.add_zero]; exact h')⟩
theorem isSight_run (ok : Int → Bool) (fr lim : Int) (h : 0 ≤ lim) : IsSight ok fr lim (runOk ok lim.toNat (fr + 1)) := by
  obtain ⟨h1, h2, h3, h4⟩ := runOk_spec ok lim.toNat (fr + 1)
  refine ⟨h1, by omega, fun y hy1 hy2 => h3 y (by omega) (by omega), ?_⟩
  rcases h4 with h4 | h4
  · exact .inl (by omega)
  · exact .inr (by rw [show fr + runOk ok lim.toNat (fr + 1) + 1 = fr + 1 + runOk ok lim.toNat (fr + 1) by omega]; exact h4)

/-- The first crest behind a place. -/
def crestBe (cs : List Cr) (fr : Int) : Option Cr := cs.find? fun c => decide (fr < c.at_)
/-- How far one could see at most. -/
def limOf (r : Road) (mx fr : Int) : Int :=
  match crestBe r.cs fr with
  | none => min mx (lenSum r.ps - fr)
  | some c => min (min mx (lenSum r.ps - fr)) (c.at_ - fr)
def okAt (ps : List Pc) (most fr y : Int) : Bool := decide (up ps y - up ps fr ≤ most) && decide (-(up ps y - up ps fr) ≤ most)
/-- How far one sees. -/
def sightV (r : Road) (most mx fr : Int) : Int := runOk (okAt r.ps most fr) (limOf r mx fr).toNat (fr + 1)

theorem crestBe_some {cs : List Cr} {fr : Int} {c : Cr} (h : crestBe cs fr = some c) : fr < c.at_ ∧ c ∈ cs := by
  have h1 := List.find?_some h
  exact ⟨by simpa using h1, List.mem_of_find?_eq_some h⟩
theorem limOf_nn (r : Road) (mx fr : Int) (h1 : 0 ≤ mx) (h2 : fr ≤ lenSum r.ps) : 0 ≤ limOf r mx fr := by
  unfold limOf
  split
  · omega
  · rename_i c hc
    have := (crestBe_some hc).1
    omega
theorem limOf_le (r : Road) (mx fr : Int) : limOf r mx fr ≤ lenSum r.ps - fr ∧ limOf r mx fr ≤ mx := by
  unfold limOf
  split <;> omega
theorem sightV_is (r : Road) (most mx fr : Int) (h1 : 0 ≤ mx) (h2 : fr ≤ lenSum r.ps) : IsSight (okAt r.ps most fr) fr (limOf r mx fr) (sightV r most mx fr) := isSight_run _ _ _ (limOf_nn r mx fr h1 h2)

/-- Better eyes see at least as far. -/
theorem sightV_mono (r : Road) (most mx most' mx' fr : Int) (h1 : 0 ≤ mx) (h2 : fr ≤ lenSum r.ps) (h3 : most ≤ most') (h4 : mx ≤ mx') : sightV r most mx fr ≤ sightV r most' mx' fr := by
  have A := sightV_is r most mx fr h1 h2
  have B := sightV_is r most' mx' fr (by omega) h2
  have hl : limOf r mx fr ≤ limOf r mx' fr := by
    unfold limOf
    split <;> omega
  rcases Int.lt_or_le (sightV r most' mx' fr) (sightV r most mx fr) with hlt | hle
  · rcases B.end_ with e | e
    · have := A.le; omega
    · have := A.ok_ (fr + sightV r most' mx' fr + 1) (by have := B.nn; omega) (by omega)
      simp only [okAt, Bool.and_eq_true, decide_eq_true_eq, Bool.and_eq_false_iff, decide_eq_false_iff_not] at this e
      omega
  · exact hle

/-! The way that road.Sight goes: piece by piece. -/
def scan (bad : Int → Bool) : Nat → Int → Int → Int × Bool
  | 0, _, s => (s, false)
  | n + 1, q, s => if bad q then (s, true) else scan bad n (q + 1) q
theorem scan_false {bad : Int → Bool} {q s : Int} {n : Nat} (h : bad q = false) : scan bad (n + 1) q s = scan bad n (q + 1) q := by simp [scan, h]
theorem scan_true {bad : Int → Bool} {q s : Int} {n : Nat} (h : bad q = true) : scan bad (n + 1) q s = (s, true) := by simp [scan, h]
theorem scan_spec (bad : Int → Bool) : ∀ (n : Nat) (q s : Int), ((scan bad n q s).2 = false ∧ (∀ z, q ≤ z → z < q + n → bad z = false) ∧ (scan bad n q s).1 = (if n = 0 then s else q + n - 1)) ∨
    ((scan bad n q s).2 = true ∧ ∃ z, q ≤ z ∧ z < q + n ∧ bad z = true ∧ (∀ y, q ≤ y → y < z → bad y = false) ∧ (scan bad n q s).1 = (if z = q then s else z - 1))
  | 0, q, s => .inl ⟨rfl, fun z h1 h2 => by omega, by simp [scan]⟩
  | n + 1, q, s => by
    cases hb : bad q with
    | true => exact .inr ⟨by rw [scan_true hb], q, by omega, by omega, hb, fun y h1 h2 => by omega, by rw [scan_true hb]; simp⟩
    | false =>
      rw [scan_false hb]
      rcases scan_spec bad n (q + 1) q with ⟨h1, h2, h3⟩ | ⟨h1, z, h2, h3, h4, h5, h6⟩
      · refine .inl ⟨h1, fun z hz1 hz2 => ?_, ?_⟩
        · by_cases hz : z = q
          · rw [hz]; exact hb
          · exact h2 z (by omega) (by omega)
        · rw [h3, if_neg (by omega : ¬ n + 1 = 0)]
          split <;> omega
      · refine .inr ⟨h1, z, by omega, by omega, h4, fun y hy1 hy2 => ?_, ?_⟩
        · by_cases hy : y = q
          · rw [hy]; exact hb
          · exact h5 y (by omega) (by omega)
        · rw [h6, if_neg (by omega : ¬ z = q)]
          split <;> omega

/-- Whether a place of a piece turns too much: b is the turning up to the piece's beginning s, g that up to where one stands. -/
def badAt (p : Pc) (s b g most q : Int) : Bool := decide (most < max (b + trn p.turn p.rad (q - s) - g) (-(b + trn p.turn p.rad (q - s) - g)))
structure SgS where
  bef : Int
  seen : Int
  stop : Bool
def sgScan (p : Pc) (s b g most fr lim seen : Int) : Int × Bool := scan (badAt p s b g most) (min (s + p.len) (fr + lim) + 1 - max fr s).toNat (max fr s) seen
def sgStep (most fr lim g : Int) (st : SgS) (p : Pc) (s : Int) : SgS :=
  if s + p.len ≤ fr then ⟨st.bef + trn p.turn p.rad p.len, st.seen, false⟩
  else ⟨st.bef + trn p.turn p.rad p.len, (sgScan p s st.bef g most fr lim st.seen).1, (sgScan p s st.bef g most fr lim st.seen).2 || decide (fr + lim < s + p.len)⟩
def sgF (r : Road) (most fr lim : Int) (pre : List (Fin r.ps.length)) : SgS :=
  pre.foldl (fun st i => if st.stop then st else sgStep most fr lim (up r.ps fr) st r.ps[i.1] (lenSum (r.ps.take i.1))) ⟨0, fr, false⟩
theorem sgF_snoc (r : Road) (most fr lim : Int) (pre : List (Fin r.ps.length)) (i : Fin r.ps.length) (h : (sgF r most fr lim pre).stop = false) : sgF r most fr lim (pre ++ [i]) = sgStep most fr lim (up r.ps fr) (sgF r most fr lim pre) r.ps[i.1] (lenSum (r.ps.take i.1)) := by
  unfold sgF at *
  rw [List.foldl_append]
  simp only [List.foldl_cons, List.foldl_nil]
  rw [h]
  rfl
theorem sgF_stop (r : Road) (most fr lim : Int) (pre : List (Fin r.ps.length)) (i : Fin r.ps.length) (h : (sgF r most fr lim pre).stop = true) : sgF r most fr lim (pre ++ [i]) = sgF r most fr lim pre := by
  unfold sgF at *
  rw [List.foldl_append]
  simp only [List.foldl_cons, List.foldl_nil]
  rw [h]
  rfl
theorem sgF_bef_bd (r : Road) (h : okPs r) (most fr lim : Int) (pre : List (Fin r.ps.length)) : -(5000001 * pre.length) ≤ (sgF r most fr lim pre).bef ∧ (sgF r most fr lim pre).bef ≤ 5000001 * pre.length := by
  unfold sgF
  suffices H : ∀ (l : List (Fin r.ps.length)) (st : SgS) (n : Nat), -(5000001 * n) ≤ st.bef ∧ st.bef ≤ 5000001 * n → -(5000001 * (n + l.length)) ≤ (l.foldl (fun st i => if st.stop then st else sgStep most fr lim (up r.ps fr) st r.ps[i.1] (lenSum (r.ps.take i.1))) st).bef ∧ (l.foldl (fun st i => if st.stop then st else sgStep most fr lim (up r.ps fr) st r.ps[i.1] (lenSum (r.ps.take i.1))) st).bef ≤ 5000001 * (n + l.length) by
    have := H pre ⟨0, fr, false⟩ 0 (by simp)
    simpa using this
  intro l
  induction l with
  | nil => intro st n h; simpa using h
  | cons i l ih =>
    intro st n hst
    simp only [List.foldl_cons, List.length_cons]
    have h1 := h.at i.2
    have h2 := trn_bd r.ps[i.1].turn r.ps[i.1].rad r.ps[i.1].len (by omega) h1.2.2.1 h1.2.2.2.1 h1.2.2.2.2.1
    have hb : -(5000001 * (n + 1 : Nat)) ≤ (if st.stop then st else sgStep most fr lim (up r.ps fr) st r.ps[i.1] (lenSum (r.ps.take i.1))).bef ∧ (if st.stop then st else sgStep most fr lim (up r.ps fr) st r.ps[i.1] (lenSum (r.ps.take i.1))).bef ≤ 5000001 * (n + 1 : Nat) := by
      split
      · omega
      · unfold sgStep
        split <;> dsimp only <;> omega
    have := ih _ (n + 1) hb
    omega

/-- Inside a piece. -/
theorem trn_zero (t r : Int) (hr : t ≠ 0 → 5 ≤ r ∧ r ≤ 2000) : trn t r 0 = 0 := by
  unfold trn
  split
  · rfl
  · rename_i h
    have := hr h
    have e : rnd (1000 * 0) r = 0 := by
      unfold rnd
      exact Int.ediv_eq_zero_of_lt (by omega) (by omega)
    rw [e, Int.mul_zero]
theorem upL_far (ps : List Pc) : ∀ (s a b : Int), (∀ p ∈ ps, 1 ≤ p.len) → s + lenSum ps ≤ a → s + lenSum ps ≤ b → upL ps s a = upL ps s b := by
  induction ps with
  | nil => intro s a b _ _ _; rfl
  | cons p ps ih =>
    intro s a b hl ha hb
    have h1 := hl p (by simp)
    have h2 := lenSum_nonneg ps (fun q hq => by have := hl q (by simp [hq]); omega)
    have h3 : lenSum (p :: ps) = p.len + lenSum ps := by simp [lenSum]
    simp only [upL, upG]
    rw [ih (s + p.len) a b (fun q hq => hl q (by simp [hq])) (by omega) (by omega), if_pos (by omega), if_pos (by omega), show min p.len (a - s) = p.len by omega, show min p.len (b - s) = p.len by omega]
theorem up_in (r : Road) (hok : okPs r) (k : Nat) (hk : k < r.ps.length) (y : Int) (h1 : lenSum (r.ps.take k) ≤ y) (h2 : y ≤ lenSum (r.ps.take k) + r.ps[k].len) :
    up r.ps y = up r.ps (lenSum (r.ps.take k)) + trn r.ps[k].turn r.ps[k].rad (y - lenSum (r.ps.take k)) := by
  have hl1 : ∀ p ∈ r.ps, 1 ≤ p.len := fun p hp => by
    have := List.all_eq_true.1 hok.1 p hp
    exact (pcOk_len this).1
  have hl : ∀ p ∈ r.ps, 0 ≤ p.len := fun p hp => by have := hl1 p hp; omega
  obtain ⟨q1, q2, q3, q4, q5, q6⟩ := hok.at hk
  have e : ∀ z, up r.ps z = upL (r.ps.take k) 0 z + (upG r.ps[k] (lenSum (r.ps.take k)) z + upL (r.ps.drop (k + 1)) (lenSum (r.ps.take k) + r.ps[k].len) z) := fun z => by
    have h := upL_up r.ps 0 z hl
    rw [Int.sub_zero] at h
    rw [← h]
    conv => lhs; rw [← List.take_append_drop k r.ps, List.drop_eq_getElem_cons hk]
    rw [upL_append, Int.zero_add]
    rfl
  have hd : ∀ p ∈ r.ps.drop (k + 1), 0 ≤ p.len := fun p hp => hl p (List.mem_of_mem_drop hp)
  rw [e y, e (lenSum (r.ps.take k)), upL_zero (r.ps.drop (k + 1)) _ y (by omega) hd, upL_zero (r.ps.drop (k + 1)) _ (lenSum (r.ps.take k)) (by omega) hd,
    upL_far (r.ps.take k) 0 y (lenSum (r.ps.take k)) (fun p hp => hl1 p (List.mem_of_mem_take hp)) (by omega) (by omega)]
  unfold upG
  rw [if_neg (by omega : ¬ lenSum (r.ps.take k) < lenSum (r.ps.take k))]
  by_cases hy : lenSum (r.ps.take k) < y
  · rw [if_pos hy, show min r.ps[k].len (y - lenSum (r.ps.take k)) = y - lenSum (r.ps.take k) by omega]
    omega
  · rw [if_neg hy, show y - lenSum (r.ps.take k) = 0 by omega, trn_zero _ _ q5]
    omega
theorem up_next (r : Road) (hok : okPs r) (k : Nat) (hk : k < r.ps.length) : up r.ps (lenSum (r.ps.take (k + 1))) = up r.ps (lenSum (r.ps.take k)) + trn r.ps[k].turn r.ps[k].rad r.ps[k].len := by
  have h1 := lenSum_take_succ r.ps k _ (List.getElem?_eq_getElem hk)
  have h2 := (hok.at hk).1
  rw [h1, up_in r hok k hk _ (by omega) (by omega), show lenSum (r.ps.take k) + r.ps[k].len - lenSum (r.ps.take k) = r.ps[k].len by omega]

/-- What holds behind k pieces. -/
def SgInv (r : Road) (most fr lim : Int) (k : Nat) (st : SgS) : Prop :=
  (st.stop = false ∧ st.bef = up r.ps (lenSum (r.ps.take k)) ∧ lenSum (r.ps.take k) ≤ fr + lim ∧ st.seen = max fr (lenSum (r.ps.take k)) ∧ ∀ y, fr < y → y ≤ st.seen → okAt r.ps most fr y = true) ∨
  (st.stop = true ∧ IsSight (okAt r.ps most fr) fr lim (st.seen - fr))
theorem sgInv_step (r : Road) (hok : okPs r) (most fr lim : Int) (hm : 0 ≤ most) (hlim : 0 ≤ lim) (k : Nat) (hk : k < r.ps.length) (st : SgS) (h : SgInv r most fr lim k st) (hs : st.stop = false) :
    SgInv r most fr lim (k + 1) (sgStep most fr lim (up r.ps fr) st r.ps[k] (lenSum (r.ps.take k))) := by
  rcases h with ⟨-, h2, h3, h4, h5⟩ | ⟨h1, -⟩
  · have hsum := lenSum_take_succ r.ps k _ (List.getElem?_eq_getElem hk)
    have hnext := up_next r hok k hk
    have hp := (hok.at hk).1
    have hin := up_in r hok k hk
    unfold sgStep
    rw [h2, ← hnext]
    split
    · rename_i hle
      refine .inl ⟨rfl, rfl, by omega, by dsimp only; omega, fun y hy1 hy2 => by dsimp only at hy2; omega⟩
    · rename_i hle
      obtain ⟨p, hpe⟩ : ∃ p, r.ps[k] = p := ⟨_, rfl⟩
      obtain ⟨s, hse⟩ : ∃ s, lenSum (r.ps.take k) = s := ⟨_, rfl⟩
      rw [hpe] at hin hsum hp hle ⊢
      rw [hse] at hin hsum h3 h4 hle ⊢
      have hbad : ∀ q, s ≤ q → q ≤ s + p.len → badAt p s (up r.ps s) (up r.ps fr) most q = !okAt r.ps most fr q := fun q hq1 hq2 => by
        unfold badAt okAt
        rw [← hin q hq1 hq2, Bool.eq_iff_iff]
        simp only [decide_eq_true_eq, Bool.not_and, Bool.or_eq_true, Bool.not_eq_true', decide_eq_false_iff_not]
        omega
      have hok0 : okAt r.ps most fr (max fr s) = true := by
        by_cases hfs : fr < s
        · have := h5 s hfs (by omega)
          rw [show max fr s = s by omega]; exact this
        · rw [show max fr s = fr by omega]
          simp [okAt]
          omega
      unfold sgScan
      rcases scan_spec (badAt p s (up r.ps s) (up r.ps fr) most) (min (s + p.len) (fr + lim) + 1 - max fr s).toNat (max fr s) st.seen with ⟨g1, g2, g3⟩ | ⟨g1, z, g2, g3, g4, g5, g6⟩
      · rw [if_neg (by omega)] at g3
        have hall : ∀ y, fr < y → y ≤ min (s + p.len) (fr + lim) → okAt r.ps most fr y = true := fun y hy1 hy2 => by
          by_cases hys : y ≤ st.seen
          · exact h5 y hy1 hys
          · have := g2 y (by omega) (by omega)
            rw [hbad y (by omega) (by omega)] at this
            simpa using this
        by_cases hstop : fr + lim < s + p.len
        · refine .inr ⟨by simp [hstop], by dsimp only; omega, by dsimp only; omega, fun y hy1 hy2 => hall y hy1 (by dsimp only at hy2; omega), .inl (by dsimp only; omega)⟩
        · refine .inl ⟨by simp [g1, hstop], rfl, by omega, by dsimp only; omega, fun y hy1 hy2 => hall y hy1 (by dsimp only at hy2; omega)⟩
      · have hz : z ≠ max fr s := by
          rintro rfl
          rw [hbad _ (by omega) (by omega), hok0] at g4
          cases g4
        rw [if_neg hz] at g6
        refine .inr ⟨by simp [g1], by dsimp only; omega, by dsimp only; omega, fun y hy1 hy2 => ?_, .inr ?_⟩
        · dsimp only at hy2
          by_cases hys : y ≤ st.seen
          · exact h5 y hy1 hys
          · have := g5 y (by omega) (by omega)
            rw [hbad y (by omega) (by omega)] at this
            simpa using this
        · dsimp only
          rw [hbad z (by omega) (by omega)] at g4
          rw [g6, show fr + (z - 1 - fr) + 1 = z by omega]
          simpa using g4
  · rw [h1] at hs; cases hs
theorem sgInv_upto (r : Road) (hok : okPs r) (most fr lim : Int) (hm : 0 ≤ most) (hlim : 0 ≤ lim) (hf : 0 ≤ fr) : ∀ k, k ≤ r.ps.length → SgInv r most fr lim k (sgF r most fr lim (upto r.ps.length k)) := by
  intro k
  induction k with
  | zero =>
    intro _
    have e : up r.ps 0 = 0 := by cases r.ps <;> simp [up]
    refine .inl ⟨rfl, ?_, ?_, ?_, ?_⟩
    · simp [upto, sgF, lenSum, e]
    · simp [lenSum]; omega
    · simp [upto, sgF, lenSum]; omega
    · intro y h1 h2; simp [upto, sgF] at h2; omega
  | succ k ih =>
    intro hk
    have hlt : k < r.ps.length := by omega
    have h := ih (by omega)
    rw [upto_succ ⟨k, hlt⟩]
    cases hs : (sgF r most fr lim (upto r.ps.length k)).stop with
    | false =>
      rw [sgF_snoc r most fr lim _ _ hs]
      exact sgInv_step r hok most fr lim hm hlim k hlt _ h hs
    | true =>
      rw [sgF_stop r most fr lim _ _ hs]
      rcases h with ⟨h1, _⟩ | h
      · rw [hs] at h1; cases h1
      · exact .inr h
/-- The way piece by piece comes to the same place. -/
theorem sgF_all (r : Road) (hok : okPs r) (most mx fr : Int) (hm : 0 ≤ most) (hmx : 0 ≤ mx) (hf : 0 ≤ fr) (hf2 : fr ≤ lenSum r.ps) :
    (sgF r most fr (limOf r mx fr) (List.finRange r.ps.length)).seen - fr = sightV r most mx fr := by
  have hlim := limOf_nn r mx fr hmx hf2
  have hle := (limOf_le r mx fr).1
  have h := sgInv_upto r hok most fr (limOf r mx fr) hm hlim hf r.ps.length (Nat.le_refl _)
  rw [upto_all] at h
  unfold SgInv at h
  rw [List.take_length] at h
  refine IsSight.uniq (ok := okAt r.ps most fr) (fr := fr) (lim := limOf r mx fr) ?_ (sightV_is r most mx fr hmx hf2)
  rcases h with ⟨h1, h2, h3, h4, h5⟩ | ⟨_, h⟩
  · exact ⟨by omega, by omega, fun y hy1 hy2 => h5 y hy1 (by omega), .inl (by omega)⟩
  · exact h
theorem sgF_part (r : Road) (hok : okPs r) (most mx fr : Int) (hm : 0 ≤ most) (hmx : 0 ≤ mx) (hf : 0 ≤ fr) (hf2 : fr ≤ lenSum r.ps) (k : Nat) (hk : k ≤ r.ps.length) (hs : (sgF r most fr (limOf r mx fr) (upto r.ps.length k)).stop = true) :
    (sgF r most fr (limOf r mx fr) (upto r.ps.length k)).seen - fr = sightV r most mx fr := by
  have hlim := limOf_nn r mx fr hmx hf2
  have h := sgInv_upto r hok most fr (limOf r mx fr) hm hlim hf k hk
  refine IsSight.uniq (ok := okAt r.ps most fr) (fr := fr) (lim := limOf r mx fr) ?_ (sightV_is r most mx fr hmx hf2)
  rcases h with ⟨h1, _⟩ | ⟨_, h⟩
  · rw [hs] at h1; cases h1
  · exact h

theorem sgScan_bd (p : Pc) (s b g most fr lim seen : Int) (h : fr ≤ seen) (h2 : seen ≤ fr + lim) : fr ≤ (sgScan p s b g most fr lim seen).1 ∧ (sgScan p s b g most fr lim seen).1 ≤ fr + lim := by
  unfold sgScan
  rcases scan_spec (badAt p s b g most) (min (s + p.len) (fr + lim) + 1 - max fr s).toNat (max fr s) seen with ⟨_, _, g3⟩ | ⟨_, z, g2, g3, _, _, g6⟩
  · rw [g3]
    split <;> omega
  · rw [g6]
    split <;> omega
theorem sgF_seen_bd (r : Road) (most fr lim : Int) (hlim : 0 ≤ lim) (pre : List (Fin r.ps.length)) : fr ≤ (sgF r most fr lim pre).seen ∧ (sgF r most fr lim pre).seen ≤ fr + lim := by
  unfold sgF
  suffices H : ∀ (l : List (Fin r.ps.length)) (st : SgS), fr ≤ st.seen ∧ st.seen ≤ fr + lim → fr ≤ (l.foldl (fun st i => if st.stop then st else sgStep most fr lim (up r.ps fr) st r.ps[i.1] (lenSum (r.ps.take i.1))) st).seen ∧ (l.foldl (fun st i => if st.stop then st else sgStep most fr lim (up r.ps fr) st r.ps[i.1] (lenSum (r.ps.take i.1))) st).seen ≤ fr + lim from
    H pre ⟨0, fr, false⟩ ⟨by simp, by simp; omega⟩
  intro l
  induction l with
  | nil => intro st h; exact h
  | cons i l ih =>
    intro st h
    refine ih _ ?_
    dsimp only
    split
    · exact h
    · unfold sgStep
      split
      · exact h
      · exact sgScan_bd _ _ _ _ _ _ _ _ h.1 h.2

end Go.Proofs.Ytbdjmaogbpdkpaa

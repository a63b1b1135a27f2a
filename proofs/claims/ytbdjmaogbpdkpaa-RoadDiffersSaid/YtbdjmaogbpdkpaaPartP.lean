import Derived.Test.YtbdjmaogbpdkpaaJoin
import Derived.Test.YtbdjmaogbpdkpaaBack
import Derived.Test.YtbdjmaogbpdkpaaNrmP
/-
  Parts of a road, and their join: plain law.
-/
namespace Go.Proofs.Ytbdjmaogbpdkpaa
open Go Go.RowKit Go.Shelf
set_option linter.unusedVariables false
set_option linter.unusedSimpArgs false

/-- What of a piece, that begins at s, lies between f and t. -/
def cutP (f t s : Int) (p : Pc) : List Pc := if max f s < min t (s + p.len) then [{ p with len := min t (s + p.len) - max f s }] else []
def partL (f t : Int) : Int → List Pc → List Pc
  | _, [] => []
  | s, p :: ps => cutP f t s p ++ partL f t (s + p.len) ps
def cutC (f t : Int) (c : Cr) : List Cr := if inB c.at_ f t = true then [{ c with at_ := c.at_ - f }] else []
def cutJ (f t : Int) (c : Jn) : List Jn := if inB c.at_ f t = true then [{ c with at_ := c.at_ - f }] else []
def partR (r : Road) (f t : Int) : Road := ⟨partL f t 0 r.ps, r.cs.flatMap (cutC f t), r.js.flatMap (cutJ f t)⟩

theorem cutP_in (f t s : Int) (p : Pc) (h : max f s < min t (s + p.len)) : cutP f t s p = [{ p with len := min t (s + p.len) - max f s }] := if_pos h
theorem cutP_out (f t s : Int) (p : Pc) (h : ¬ max f s < min t (s + p.len)) : cutP f t s p = [] := if_neg h
theorem partL_snoc (f t : Int) (p : Pc) : ∀ (ps : List Pc) (s : Int), partL f t s (ps ++ [p]) = partL f t s ps ++ cutP f t (s + lenSum ps) p := by
  intro ps
  induction ps with
  | nil => intro s; simp [partL, lenSum]
  | cons q ps ih =>
    intro s
    rw [List.cons_append, partL, partL, ih, List.append_assoc]
    have : lenSum (q :: ps) = q.len + lenSum ps := by simp [lenSum]
    rw [this, Int.add_assoc]
theorem partL_succ (f t : Int) (ps : List Pc) (k : Nat) (p : Pc) (hp : ps[k]? = some p) : partL f t 0 (ps.take (k + 1)) = partL f t 0 (ps.take k) ++ cutP f t (lenSum (ps.take k)) p := by
  rw [List.take_add_one, hp]
  have := partL_snoc f t p (ps.take k) 0
  rw [Int.zero_add] at this
  exact this
theorem partL_len (f t : Int) : ∀ (ps : List Pc) (s : Int), (partL f t s ps).length ≤ ps.length := by
  intro ps
  induction ps with
  | nil => intro s; simp [partL]
  | cons p ps ih =>
    intro s
    have := ih (s + p.len)
    rw [partL, List.length_append, List.length_cons]
    have : (cutP f t s p).length ≤ 1 := by unfold cutP; split <;> simp
    omega
theorem cutC_len (f t : Int) (cs : List Cr) : (cs.flatMap (cutC f t)).length ≤ cs.length := by
  induction cs with
  | nil => simp
  | cons c cs ih =>
    rw [List.flatMap_cons, List.length_append, List.length_cons]
    have : (cutC f t c).length ≤ 1 := by unfold cutC; split <;> simp
    omega
theorem cutJ_len (f t : Int) (cs : List Jn) : (cs.flatMap (cutJ f t)).length ≤ cs.length := by
  induction cs with
  | nil => simp
  | cons c cs ih =>
    rw [List.flatMap_cons, List.length_append, List.length_cons]
    have : (cutJ f t c).length ≤ 1 := by unfold cutJ; split <;> simp
    omega
theorem lenSum_cons (p : Pc) (ps : List Pc) : lenSum (p :: ps) = p.len + lenSum ps := by simp [lenSum]
theorem partL_none (f t : Int) : ∀ (ps : List Pc) (s : Int), (∀ p ∈ ps, 0 ≤ p.len) → t ≤ s → partL f t s ps = [] := by
  intro ps
  induction ps with
  | nil => intro s _ _; rfl
  | cons p ps ih =>
    intro s hp h
    have h0 := hp p (by simp)
    rw [partL, cutP_out _ _ _ _ (by omega), ih _ (fun q hq => hp q (by simp [hq])) (by omega)]
    rfl
theorem partL_whole (f t : Int) : ∀ (ps : List Pc) (s : Int), (∀ p ∈ ps, 1 ≤ p.len) → f ≤ s → s + lenSum ps ≤ t → partL f t s ps = ps := by
  intro ps
  induction ps with
  | nil => intro s _ _ _; rfl
  | cons p ps ih =>
    intro s hp h h'
    have h0 := hp p (by simp)
    have h1 := lenSum_pos ps (fun q hq => by have := hp q (by simp [hq]); omega)
    rw [lenSum_cons] at h'
    rw [partL, cutP_in _ _ _ _ (by omega), ih _ (fun q hq => hp q (by simp [hq])) (by omega) (by omega)]
    have e : min t (s + p.len) - max f s = p.len := by omega
    rw [e]
    rfl
theorem partL_sum (f t : Int) (hft : f ≤ t) : ∀ (ps : List Pc) (s : Int), (∀ p ∈ ps, 0 ≤ p.len) → lenSum (partL f t s ps) = max f (min t (s + lenSum ps)) - max f (min t s) := by
  intro ps
  induction ps with
  | nil => intro s _; simp [partL, lenSum]
  | cons p ps ih =>
    intro s hp
    have h0 := hp p (by simp)
    rw [partL, lenSum_app, ih _ (fun q hq => hp q (by simp [hq])), lenSum_cons]
    have h1 := lenSum_pos ps (fun q hq => hp q (by simp [hq]))
    by_cases h : max f s < min t (s + p.len)
    · rw [cutP_in _ _ _ _ h, lenSum_one]
      dsimp only
      omega
    · rw [cutP_out _ _ _ _ h]
      have : lenSum [] = 0 := rfl
      rw [this]
      omega
theorem partL_mem (f t : Int) : ∀ (ps : List Pc) (s : Int), ∀ q ∈ partL f t s ps, ∃ p ∈ ps, q.turn = p.turn ∧ q.rad = p.rad ∧ q.wid = p.wid ∧ q.sur = p.sur ∧ 1 ≤ q.len ∧ q.len ≤ p.len := by
  intro ps
  induction ps with
  | nil => intro s q hq; simp [partL] at hq
  | cons p ps ih =>
    intro s q hq
    rw [partL] at hq
    rcases List.mem_append.1 hq with hq | hq
    · by_cases h : max f s < min t (s + p.len)
      · rw [cutP_in _ _ _ _ h] at hq
        obtain rfl : q = _ := by simpa using hq
        exact ⟨p, by simp, rfl, rfl, rfl, rfl, by dsimp only; omega, by dsimp only; omega⟩
      · rw [cutP_out _ _ _ _ h] at hq
        simp at hq
    · obtain ⟨p', h1, h2⟩ := ih _ q hq
      exact ⟨p', by simp [h1], h2⟩

/-- The parts ahead of a place and behind it run together as the whole. -/
theorem mrg_parts (t n : Int) : ∀ (ps : List Pc) (s : Int) (acc : List Pc), (∀ p ∈ ps, 1 ≤ p.len) → 0 ≤ s → s < t → s + lenSum ps ≤ n → (partL 0 t s ps ++ partL t n s ps).foldl madd acc = ps.foldl madd acc := by
  intro ps
  induction ps with
  | nil => intro s acc _ _ _ _; rfl
  | cons p ps ih =>
    intro s acc hp h0 ht hn
    have hl := hp p (by simp)
    have hp' : ∀ q ∈ ps, 1 ≤ q.len := fun q hq => hp q (by simp [hq])
    have h1 := lenSum_pos ps (fun q hq => by have := hp' q hq; omega)
    rw [lenSum_cons] at hn
    rw [partL, partL]
    by_cases hc : s + p.len ≤ t
    · rw [cutP_in 0 t _ _ (by omega), cutP_out t n _ _ (by omega)]
      have e : min t (s + p.len) - max 0 s = p.len := by omega
      rw [e]
      have e2 : ({ p with len := p.len } : Pc) = p := rfl
      rw [e2, List.nil_append, List.cons_append, List.nil_append, List.cons_append, List.foldl_cons, List.foldl_cons]
      by_cases hc2 : s + p.len < t
      · exact ih _ _ hp' (by omega) hc2 (by omega)
      · rw [partL_none 0 t ps _ (fun q hq => by have := hp' q hq; omega) (by omega), partL_whole t n ps _ hp' (by omega) (by omega)]
        rfl
    · rw [partL_none 0 t ps _ (fun q hq => by have := hp' q hq; omega) (by omega), partL_whole t n ps _ hp' (by omega) (by omega)]
      rw [cutP_in 0 t _ _ (by omega), cutP_in t n _ _ (by omega)]
      rw [List.append_nil, List.cons_append, List.nil_append, List.cons_append, List.nil_append, List.foldl_cons, List.foldl_cons, List.foldl_cons]
      congr 1
      have e1 : min t (s + p.len) - max 0 s = t - s := by omega
      have e2 : min n (s + p.len) - max t s = s + p.len - t := by omega
      rw [e1, e2]
      rcases acc.eq_nil_or_concat with rfl | ⟨a', y, rfl⟩
      · have hk : tgP { p with len := t - s } { p with len := s + p.len - t } = true := by simp [tgP]
        have := madd_same [] { p with len := t - s } { p with len := s + p.len - t } hk
        rw [List.nil_append] at this
        have e3 : madd [] { p with len := t - s } = [{ p with len := t - s }] := rfl
        rw [e3, this]
        have e4 : madd [] p = [p] := rfl
        rw [e4]
        simp only [longer, List.nil_append]
        congr 2
        omega
      · rw [List.concat_eq_append]
        by_cases hk : tgP y p = true
        · have hk1 : tgP y { p with len := t - s } = true := by simpa [tgP] using hk
          have hk2 : tgP (longer y { p with len := t - s }) { p with len := s + p.len - t } = true := hk
          rw [madd_same _ _ _ hk1, madd_same _ _ _ hk2, madd_same _ _ _ hk]
          congr 2
          simp only [longer]
          congr 1
          omega
        · have hk0 : tgP y p = false := by simpa using hk
          have hk1 : tgP y { p with len := t - s } = false := by simpa [tgP] using hk0
          have hk2 : tgP { p with len := t - s } { p with len := s + p.len - t } = true := by simp [tgP]
          rw [madd_new _ _ _ hk1, madd_same _ _ _ hk2, madd_new _ _ _ hk0]
          congr 2
          simp only [longer]
          congr 1
          omega
theorem pcsL_parts (t n : Int) (ps : List Pc) (hp : okLen ps) (h0 : 0 < t) (hn : lenSum ps ≤ n) : pcsL (partL 0 t 0 ps ++ partL t n 0 ps) = pcsL ps := by
  unfold pcsL mrg
  rw [mrg_parts t n ps 0 [] (fun p h => (hp p h).1) (by omega) h0 (by omega)]

theorem crs_pair {n : Int} {cs : List Cr} (h : crsOk n cs = true) : cs.Pairwise (fun a b => a.at_ < b.at_) ∧ ∀ c ∈ cs, 0 ≤ c.at_ ∧ c.at_ ≤ n ∧ 1 ≤ c.size ∧ c.size ≤ 3 := by
  have h1 := (crs_iff n cs).1 h
  refine ⟨?_, fun c hc => ?_⟩
  · rw [List.pairwise_iff_getElem]
    intro i j hi hj hij
    have key : ∀ d : Nat, ∀ hd : i + d + 1 < cs.length, (cs[i]'hi).at_ < (cs[i + d + 1]'hd).at_ := by
      intro d
      induction d with
      | zero => intro hd; exact (h1 (i + 0 + 1) _ (List.getElem?_eq_getElem hd)).2.2.2.2 i _ rfl (List.getElem?_eq_getElem hi)
      | succ d ih =>
        intro hd
        have a1 := ih (by omega)
        have a2 := (h1 (i + (d + 1) + 1) _ (List.getElem?_eq_getElem hd)).2.2.2.2 (i + d + 1) _ (by omega) (List.getElem?_eq_getElem (by omega))
        omega
    have := key (j - i - 1) (by omega)
    have e : i + (j - i - 1) + 1 = j := by omega
    simp only [e] at this
    exact this
  · obtain ⟨i, hi⟩ := List.getElem?_of_mem hc
    have := h1 i c hi
    exact ⟨this.1, this.2.1, this.2.2.1, this.2.2.2.1⟩
theorem crs_of_pair {n : Int} {cs : List Cr} (h : cs.Pairwise (fun a b => a.at_ < b.at_)) (h2 : ∀ c ∈ cs, 0 ≤ c.at_ ∧ c.at_ ≤ n ∧ 1 ≤ c.size ∧ c.size ≤ 3) : crsOk n cs = true := by
  rw [crs_iff]
  intro i c hc
  have := h2 c (List.mem_of_getElem? hc)
  refine ⟨this.1, this.2.1, this.2.2.1, this.2.2.2, fun j d hj hd => ?_⟩
  subst hj
  obtain ⟨k1, e1⟩ := List.getElem?_eq_some_iff.1 hc
  obtain ⟨k2, e2⟩ := List.getElem?_eq_some_iff.1 hd
  have := List.pairwise_iff_getElem.1 h j (j + 1) k2 k1 (by omega)
  rw [e1, e2] at this
  exact this
theorem jns_pair {n : Int} {cs : List Jn} (h : jnsOk n cs = true) : cs.Pairwise (fun a b => a.at_ < b.at_) ∧ ∀ c ∈ cs, 0 ≤ c.at_ ∧ c.at_ ≤ n ∧ 2 ≤ c.arms ∧ c.arms ≤ 6 ∧ 1 ≤ c.way ∧ c.way ≤ c.arms := by
  have h1 := (jns_iff n cs).1 h
  refine ⟨?_, fun c hc => ?_⟩
  · rw [List.pairwise_iff_getElem]
    intro i j hi hj hij
    have key : ∀ d : Nat, ∀ hd : i + d + 1 < cs.length, (cs[i]'hi).at_ < (cs[i + d + 1]'hd).at_ := by
      intro d
      induction d with
      | zero => intro hd; exact (h1 (i + 0 + 1) _ (List.getElem?_eq_getElem hd)).2.2.2.2.2.2 i _ rfl (List.getElem?_eq_getElem hi)
      | succ d ih =>
        intro hd
        have a1 := ih (by omega)
        have a2 := (h1 (i + (d + 1) + 1) _ (List.getElem?_eq_getElem hd)).2.2.2.2.2.2 (i + d + 1) _ (by omega) (List.getElem?_eq_getElem (by omega))
        omega
    have := key (j - i - 1) (by omega)
    have e : i + (j - i - 1) + 1 = j := by omega
    simp only [e] at this
    exact this
  · obtain ⟨i, hi⟩ := List.getElem?_of_mem hc
    have := h1 i c hi
    exact ⟨this.1, this.2.1, this.2.2.1, this.2.2.2.1, this.2.2.2.2.1, this.2.2.2.2.2.1⟩
theorem jns_of_pair {n : Int} {cs : List Jn} (h : cs.Pairwise (fun a b => a.at_ < b.at_)) (h2 : ∀ c ∈ cs, 0 ≤ c.at_ ∧ c.at_ ≤ n ∧ 2 ≤ c.arms ∧ c.arms ≤ 6 ∧ 1 ≤ c.way ∧ c.way ≤ c.arms) : jnsOk n cs = true := by
  rw [jns_iff]
  intro i c hc
  have := h2 c (List.mem_of_getElem? hc)
  refine ⟨this.1, this.2.1, this.2.2.1, this.2.2.2.1, this.2.2.2.2.1, this.2.2.2.2.2, fun j d hj hd => ?_⟩
  subst hj
  obtain ⟨k1, e1⟩ := List.getElem?_eq_some_iff.1 hc
  obtain ⟨k2, e2⟩ := List.getElem?_eq_some_iff.1 hd
  have := List.pairwise_iff_getElem.1 h j (j + 1) k2 k1 (by omega)
  rw [e1, e2] at this
  exact this

theorem cutC_filter (f t : Int) (cs : List Cr) : cs.flatMap (cutC f t) = (cs.filter fun c => inB c.at_ f t).map fun c => { c with at_ := c.at_ - f } := by
  induction cs with
  | nil => rfl
  | cons c cs ih =>
    rw [List.flatMap_cons, ih, List.filter_cons]
    unfold cutC
    split <;> simp
theorem cutJ_filter (f t : Int) (cs : List Jn) : cs.flatMap (cutJ f t) = (cs.filter fun c => inB c.at_ f t).map fun c => { c with at_ := c.at_ - f } := by
  induction cs with
  | nil => rfl
  | cons c cs ih =>
    rw [List.flatMap_cons, ih, List.filter_cons]
    unfold cutJ
    split <;> simp
theorem inB_iff (a b c : Int) : inB a b c = true ↔ b ≤ a ∧ a ≤ c := by simp [inB]

theorem partR_valid (r : Road) (f t : Int) (hv : validB r = true) (h0 : 0 ≤ f) (h1 : f < t) (h2 : t ≤ lenSum r.ps) : validB (partR r f t) = true ∧ lenSum (partR r f t).ps = t - f := by
  have hok := (validB_ok hv).1
  have hl := hok.okLen
  have hs : lenSum (partL f t 0 r.ps) = t - f := by
    rw [partL_sum f t (by omega) r.ps 0 (fun p hp => by have := (hl p hp).1; omega)]
    omega
  have hle := partL_len f t r.ps 0
  have hcl := cutC_len f t r.cs
  have hjl := cutJ_len f t r.js
  refine ⟨?_, hs⟩
  simp only [validB, Bool.and_eq_true, decide_eq_true_eq] at hv ⊢
  obtain ⟨⟨⟨⟨⟨⟨⟨a1, a2⟩, a3⟩, a4⟩, a5⟩, a6⟩, a7⟩, a8⟩ := hv
  show ((((((1 ≤ (partL f t 0 r.ps).length ∧ (partL f t 0 r.ps).length ≤ 2000) ∧ (r.cs.flatMap (cutC f t)).length ≤ 1000) ∧ (r.js.flatMap (cutJ f t)).length ≤ 200) ∧ (partL f t 0 r.ps).all pcOkP = true) ∧ lenSum (partL f t 0 r.ps) ≤ 100000) ∧ crsOk (lenSum (partL f t 0 r.ps)) (r.cs.flatMap (cutC f t)) = true) ∧ jnsOk (lenSum (partL f t 0 r.ps)) (r.js.flatMap (cutJ f t)) = true
  rw [hs]
  refine ⟨⟨⟨⟨⟨⟨⟨?_, by omega⟩, by omega⟩, by omega⟩, ?_⟩, by omega⟩, ?_⟩, ?_⟩
  · rcases Nat.eq_zero_or_pos (partL f t 0 r.ps).length with e | e
    · rw [List.length_eq_zero_iff.1 e] at hs
      simp [lenSum] at hs
      omega
    · exact e
  · rw [List.all_eq_true]
    intro q hq
    obtain ⟨p, hp, e1, e2, e3, e4, e5, e6⟩ := partL_mem f t r.ps 0 q hq
    have h9 := List.all_eq_true.1 a5 p hp
    have := hl p hp
    simp only [pcOkP, pcOk, inB, Bool.and_eq_true, decide_eq_true_eq] at h9 ⊢
    rw [e1, e2, e3, e4]
    exact ⟨⟨⟨⟨⟨e5, by omega⟩, h9.1.1.1.2⟩, h9.1.1.2⟩, h9.1.2⟩, h9.2⟩
  · obtain ⟨b1, b2⟩ := crs_pair a7
    rw [cutC_filter]
    refine crs_of_pair ?_ ?_
    · rw [List.pairwise_map]
      refine (b1.filter _).imp ?_
      intro a b h
      dsimp only
      omega
    · intro c hc
      obtain ⟨d, hd, rfl⟩ := List.mem_map.1 hc
      obtain ⟨hd1, hd2⟩ := List.mem_filter.1 hd
      have := (inB_iff _ _ _).1 hd2
      have := b2 d hd1
      dsimp only
      omega
  · obtain ⟨b1, b2⟩ := jns_pair a8
    rw [cutJ_filter]
    refine jns_of_pair ?_ ?_
    · rw [List.pairwise_map]
      refine (b1.filter _).imp ?_
      intro a b h
      dsimp only
      omega
    · intro c hc
      obtain ⟨d, hd, rfl⟩ := List.mem_map.1 hc
      obtain ⟨hd1, hd2⟩ := List.mem_filter.1 hd
      have := (inB_iff _ _ _).1 hd2
      have := b2 d hd1
      dsimp only
      omega
theorem partR_whole (r : Road) (hv : validB r = true) : partR r 0 (lenSum r.ps) = r := by
  have hok := (validB_ok hv).1
  have hl := hok.okLen
  simp only [validB, Bool.and_eq_true, decide_eq_true_eq] at hv
  obtain ⟨⟨_, a7⟩, a8⟩ := hv
  have b2 := (crs_pair a7).2
  have d2 := (jns_pair a8).2
  unfold partR
  rw [partL_whole 0 _ r.ps 0 (fun p hp => (hl p hp).1) (by omega) (by omega), cutC_filter, cutJ_filter, List.filter_eq_self.2, List.filter_eq_self.2]
  · have e1 : (r.cs.map fun c => ({ c with at_ := c.at_ - 0 } : Cr)) = r.cs := by simp
    have e2 : (r.js.map fun c => ({ c with at_ := c.at_ - 0 } : Jn)) = r.js := by simp
    rw [e1, e2]
  · intro c hc
    have := d2 c hc
    rw [inB_iff]; omega
  · intro c hc
    have := b2 c hc
    rw [inB_iff]; omega

/-- Joined crests that come in order are just appended. -/
theorem caddC_app (A : List Cr) (c : Cr) (h : ∀ a ∈ A, a.at_ < c.at_) : caddC A c = A ++ [c] := by
  rcases A.eq_nil_or_concat with rfl | ⟨A', l, rfl⟩
  · rfl
  · rw [List.concat_eq_append] at h ⊢
    rw [caddC_new]
    have := h l (by simp)
    omega
theorem foldC_app : ∀ (B A : List Cr), (A ++ B).Pairwise (fun a b => a.at_ < b.at_) → B.foldl caddC A = A ++ B := by
  intro B
  induction B with
  | nil => intro A _; simp
  | cons b B ih =>
    intro A h
    rw [List.foldl_cons, caddC_app A b (fun a ha => by
      rw [List.pairwise_append] at h
      exact h.2.2 a ha b (by simp)), ih _ (by simpa using h)]
    simp
theorem caddJ_app (A : List Jn) (c : Jn) (h : ∀ a ∈ A, a.at_ < c.at_) : caddJ A c = A ++ [c] := by
  rcases A.eq_nil_or_concat with rfl | ⟨A', l, rfl⟩
  · rfl
  · rw [List.concat_eq_append] at h ⊢
    rw [caddJ_new]
    have := h l (by simp)
    omega
theorem foldJ_app : ∀ (B A : List Jn), (A ++ B).Pairwise (fun a b => a.at_ < b.at_) → B.foldl caddJ A = A ++ B := by
  intro B
  induction B with
  | nil => intro A _; simp
  | cons b B ih =>
    intro A h
    rw [List.foldl_cons, caddJ_app A b (fun a ha => by
      rw [List.pairwise_append] at h
      exact h.2.2 a ha b (by simp)), ih _ (by simpa using h)]
    simp
theorem split_at {α : Type} (f : α → Int) (t : Int) : ∀ (l : List α), l.Pairwise (fun a b => f a < f b) → ∃ L M H, l = L ++ M ++ H ∧ (∀ a ∈ L, f a < t) ∧ (∀ a ∈ H, t < f a) ∧ (M = [] ∨ ∃ m, M = [m] ∧ f m = t) := by
  intro l
  induction l with
  | nil => intro _; exact ⟨[], [], [], rfl, by simp, by simp, .inl rfl⟩
  | cons x l ih =>
    intro h
    obtain ⟨h1, h2⟩ := List.pairwise_cons.1 h
    rcases Int.lt_trichotomy (f x) t with hx | hx | hx
    · obtain ⟨L, M, H, e, a1, a2, a3⟩ := ih h2
      refine ⟨x :: L, M, H, by rw [e]; simp, ?_, a2, a3⟩
      intro a ha
      rcases List.mem_cons.1 ha with rfl | ha
      · exact hx
      · exact a1 a ha
    · exact ⟨[], [x], l, rfl, by simp, fun a ha => by have := h1 a ha; omega, .inr ⟨x, rfl, hx⟩⟩
    · refine ⟨[], [], x :: l, rfl, by simp, ?_, .inl rfl⟩
      intro a ha
      rcases List.mem_cons.1 ha with rfl | ha
      · exact hx
      · have := h1 a ha
        omega
theorem filter_all {α : Type} (p : α → Bool) (l : List α) (h : ∀ a ∈ l, p a = true) : l.filter p = l := List.filter_eq_self.2 h
theorem filter_no {α : Type} (p : α → Bool) (l : List α) (h : ∀ a ∈ l, p a = false) : l.filter p = [] := List.filter_eq_nil_iff.2 (fun a ha => by rw [h a ha]; decide)
theorem joinC_parts (t n : Int) (cs : List Cr) (h : crsOk n cs = true) (h0 : 0 ≤ t) (h1 : t ≤ n) : joinC t (cs.flatMap (cutC 0 t)) (cs.flatMap (cutC t n)) = cs := by
  obtain ⟨b1, b2⟩ := crs_pair h
  rw [cutC_filter, cutC_filter]
  unfold joinC
  rw [List.foldl_map]
  have e : ∀ (acc : List Cr) (c : Cr), caddC acc { c with at_ := c.at_ - t + t } = caddC acc c := by
    intro acc c
    congr 1
    cases c
    simp
  simp only [e]
  have e0 : ((cs.filter fun c => inB c.at_ 0 t).map fun c => ({ c with at_ := c.at_ - 0 } : Cr)) = cs.filter fun c => inB c.at_ 0 t := by simp
  rw [e0]
  obtain ⟨L, M, H, rfl, hL, hH, hM⟩ := split_at Cr.at_ t cs b1
  have bL : ∀ a ∈ L, 0 ≤ a.at_ := fun a ha => (b2 a (by simp [ha])).1
  have bH : ∀ a ∈ H, a.at_ ≤ n := fun a ha => (b2 a (by simp [ha])).2.1
  rw [List.filter_append, List.filter_append, List.filter_append, List.filter_append]
  rw [filter_all _ L (fun a ha => by rw [inB_iff]; have := hL a ha; have := bL a ha; omega), filter_no (fun c : Cr => inB c.at_ 0 t) H (fun a ha => by have := hH a ha; simp [inB]; omega)]
  rw [filter_no (fun c : Cr => inB c.at_ t n) L (fun a ha => by have := hL a ha; simp [inB]; omega), filter_all (fun c : Cr => inB c.at_ t n) H (fun a ha => by rw [inB_iff]; have := hH a ha; have := bH a ha; omega)]
  rcases hM with rfl | ⟨m, rfl, hm⟩
  · simp only [List.filter_nil, List.append_nil, List.nil_append]
    exact foldC_app H L (by simpa using b1)
  · have hm1 : ∀ a ∈ [m], inB a.at_ 0 t = true := by
      intro a ha
      obtain rfl : a = m := by simpa using ha
      rw [inB_iff]
      omega
    have hm2 : ∀ a ∈ [m], inB a.at_ t n = true := by
      intro a ha
      obtain rfl : a = m := by simpa using ha
      rw [inB_iff]
      omega
    rw [filter_all (fun c : Cr => inB c.at_ 0 t) [m] hm1, filter_all (fun c : Cr => inB c.at_ t n) [m] hm2]
    rw [List.append_nil, List.nil_append, List.cons_append, List.nil_append, List.foldl_cons, caddC_same L m m rfl]
    have em : ({ m with size := max m.size m.size } : Cr) = m := by cases m; simp
    rw [em]
    rw [foldC_app H (L ++ [m]) b1]
theorem joinJ_parts (t n : Int) (cs : List Jn) (h : jnsOk n cs = true) (h0 : 0 ≤ t) (h1 : t ≤ n) : joinJ t (cs.flatMap (cutJ 0 t)) (cs.flatMap (cutJ t n)) = cs := by
  obtain ⟨b1, b2⟩ := jns_pair h
  rw [cutJ_filter, cutJ_filter]
  unfold joinJ
  rw [List.foldl_map]
  have e : ∀ (acc : List Jn) (c : Jn), caddJ acc { c with at_ := c.at_ - t + t } = caddJ acc c := by
    intro acc c
    congr 1
    cases c
    simp
  simp only [e]
  have e0 : ((cs.filter fun c => inB c.at_ 0 t).map fun c => ({ c with at_ := c.at_ - 0 } : Jn)) = cs.filter fun c => inB c.at_ 0 t := by simp
  rw [e0]
  obtain ⟨L, M, H, rfl, hL, hH, hM⟩ := split_at Jn.at_ t cs b1
  have bL : ∀ a ∈ L, 0 ≤ a.at_ := fun a ha => (b2 a (by simp [ha])).1
  have bH : ∀ a ∈ H, a.at_ ≤ n := fun a ha => (b2 a (by simp [ha])).2.1
  rw [List.filter_append, List.filter_append, List.filter_append, List.filter_append]
  rw [filter_all _ L (fun a ha => by rw [inB_iff]; have := hL a ha; have := bL a ha; omega), filter_no (fun c : Jn => inB c.at_ 0 t) H (fun a ha => by have := hH a ha; simp [inB]; omega)]
  rw [filter_no (fun c : Jn => inB c.at_ t n) L (fun a ha => by have := hL a ha; simp [inB]; omega), filter_all (fun c : Jn => inB c.at_ t n) H (fun a ha => by rw [inB_iff]; have := hH a ha; have := bH a ha; omega)]
  rcases hM with rfl | ⟨m, rfl, hm⟩
  · simp only [List.filter_nil, List.append_nil, List.nil_append]
    exact foldJ_app H L (by simpa using b1)
  · have hm1 : ∀ a ∈ [m], inB a.at_ 0 t = true := by
      intro a ha
      obtain rfl : a = m := by simpa using ha
      rw [inB_iff]
      omega
    have hm2 : ∀ a ∈ [m], inB a.at_ t n = true := by
      intro a ha
      obtain rfl : a = m := by simpa using ha
      rw [inB_iff]
      omega
    rw [filter_all (fun c : Jn => inB c.at_ 0 t) [m] hm1, filter_all (fun c : Jn => inB c.at_ t n) [m] hm2]
    rw [List.append_nil, List.nil_append, List.cons_append, List.nil_append, List.foldl_cons, caddJ_same L m m rfl]
    rw [foldJ_app H (L ++ [m]) b1]

theorem caddC_len (A : List Cr) (c : Cr) : (caddC A c).length ≤ A.length + 1 := by
  rcases A.eq_nil_or_concat with rfl | ⟨A', l, rfl⟩
  · simp [caddC]
  · rw [List.concat_eq_append]
    by_cases h : l.at_ = c.at_
    · rw [caddC_same _ _ _ h]; simp
    · rw [caddC_new _ _ _ h]; simp
theorem caddJ_len (A : List Jn) (c : Jn) : (caddJ A c).length ≤ A.length + 1 := by
  rcases A.eq_nil_or_concat with rfl | ⟨A', l, rfl⟩
  · simp [caddJ]
  · rw [List.concat_eq_append]
    by_cases h : l.at_ = c.at_
    · rw [caddJ_same _ _ _ h]; simp
    · rw [caddJ_new _ _ _ h]; simp
theorem joinC_len (n : Int) : ∀ (b a : List Cr), (joinC n a b).length ≤ a.length + b.length := by
  intro b
  induction b with
  | nil => intro a; simp [joinC]
  | cons c b ih =>
    intro a
    have h1 := ih (caddC a { c with at_ := c.at_ + n })
    have h2 := caddC_len a { c with at_ := c.at_ + n }
    have e : joinC n a (c :: b) = joinC n (caddC a { c with at_ := c.at_ + n }) b := rfl
    rw [e, List.length_cons]
    omega
theorem joinJ_len (n : Int) : ∀ (b a : List Jn), (joinJ n a b).length ≤ a.length + b.length := by
  intro b
  induction b with
  | nil => intro a; simp [joinJ]
  | cons c b ih =>
    intro a
    have h1 := ih (caddJ a { c with at_ := c.at_ + n })
    have h2 := caddJ_len a { c with at_ := c.at_ + n }
    have e : joinJ n a (c :: b) = joinJ n (caddJ a { c with at_ := c.at_ + n }) b := rfl
    rw [e, List.length_cons]
    omega

/-- The parts ahead of a place and behind it, joined. -/
theorem join_parts (r : Road) (t : Int) (hv : validB r = true) (h0 : 0 < t) (h1 : t < lenSum r.ps) : joinR (partR r 0 t) (partR r t (lenSum r.ps)) = ⟨partL 0 t 0 r.ps ++ partL t (lenSum r.ps) 0 r.ps, r.cs, r.js⟩ := by
  have hs := (partR_valid r 0 t hv (by omega) h0 (by omega)).2
  simp only [validB, Bool.and_eq_true, decide_eq_true_eq] at hv
  obtain ⟨⟨_, a7⟩, a8⟩ := hv
  unfold joinR
  rw [hs, Int.sub_zero]
  show Road.mk _ (joinC t (r.cs.flatMap (cutC 0 t)) (r.cs.flatMap (cutC t (lenSum r.ps)))) (joinJ t (r.js.flatMap (cutJ 0 t)) (r.js.flatMap (cutJ t (lenSum r.ps)))) = _
  rw [joinC_parts t _ r.cs a7 (by omega) (by omega), joinJ_parts t _ r.js a8 (by omega) (by omega)]
  rfl
theorem rnm_parts (r : Road) (t : Int) (hv : validB r = true) (h0 : 0 < t) (h1 : t < lenSum r.ps) : rnmR (joinR (partR r 0 t) (partR r t (lenSum r.ps))) = rnmR r := by
  rw [join_parts r t hv h0 h1]
  unfold rnmR
  rw [pcsL_parts t _ r.ps (validB_ok hv).1.okLen h0 (Int.le_refl _)]

end Go.Proofs.Ytbdjmaogbpdkpaa

import Derived.Test.YtbdjmaogbpdkpaaTwo
/-
  The same for the plain walk, and with quiet calls among the reads: a region that draws its order, with one making of memory that may come up at any time, then a tail.
-/
namespace Go.Proofs.Ytbdjmaogbpdkpaa
set_option linter.unusedVariables false
set_option linter.unusedSimpArgs false
open Go Go.RowKit

/-- The world ahead of the making, or behind it, up to draws. -/
structure TwoD (w0 : World) (z : Obj) where
  w : World
  h : ∃ n, w = w0.drewN n ∨ w = (w0.alloc z).drewN n
instance twod_nonempty (w0 : World) (z : Obj) : Nonempty (TwoD w0 z) := ⟨⟨w0.drewN 0, 0, .inl rfl⟩⟩
theorem drewN_cell (w : World) (n : Nat) (p : Addr) : (w.drewN n).cell? p = w.cell? p := rfl
theorem TwoD.cell {w0 : World} {z : Obj} (x : TwoD w0 z) {b o : Nat} (h : b < w0.heap.size) : x.w.cell? ⟨b, o, none⟩ = w0.cell? ⟨b, o, none⟩ := by
  obtain ⟨n, e | e⟩ := x.h
  · rw [e]; rfl
  · rw [e]; exact World.cell?_alloc_lt w0 z ⟨b, o, none⟩ h

section
variable {P : Program} {ops : Array Oper} {md : Region.Mode}

def qG (P : Program) (ops : Array Oper) (AT : Nat → Oper → Act → Value → Prop) (j : Nat) (K : Act → Prop) (a : Act) : Prop :=
  match ops[j]? with
  | none => K a
  | some o => ∃ v, ((Region.wanted o (yielded ops a.tmps) = true ∧ AT j o a v) ∨ (Region.wanted o (yielded ops a.tmps) = false ∧ v = undef)) ∧ K (a.put o.dst v)
def YG (ops : Array Oper) (AT : Nat → Oper → Act → Value → Prop) (j : Nat) (o : Oper) (a : Act) (v : Value) : Prop :=
  (Region.wanted o (yielded ops a.tmps) = true ∧ AT j o a v) ∨ (Region.wanted o (yielded ops a.tmps) = false ∧ v = undef)

theorem qG_mono {AT : Nat → Oper → Act → Value → Prop} {j : Nat} {a : Act} {K K' : Act → Prop} (h : ∀ a, K a → K' a) (hh : qG P ops AT j K a) : qG P ops AT j K' a := by
  unfold qG at *
  split
  · rename_i ho; simp only [ho] at hh; exact h _ hh
  · rename_i o ho
    simp only [ho] at hh
    obtain ⟨v, h1, h2⟩ := hh
    exact ⟨v, h1, h _ h2⟩
theorem YG.of_same {AT : Nat → Oper → Act → Value → Prop} (hAT : ∀ j o a a' v, execOp a'.eval o = execOp a.eval o → AT j o a v → AT j o a' v) {j : Nat} {o : Oper} {a a' : Act} {v : Value} (h : YG ops AT j o a v) (he : execOp a'.eval o = execOp a.eval o)
    (hw : Region.wanted o (yielded ops a'.tmps) = Region.wanted o (yielded ops a.tmps)) : YG ops AT j o a' v := by
  unfold YG at *
  rw [hw]
  rcases h with ⟨h1, h2⟩ | h
  · exact .inl ⟨h1, hAT _ _ _ _ _ he h2⟩
  · exact .inr h
theorem qG_put {AT : Nat → Oper → Act → Value → Prop} (hAT : ∀ j o a a' v, execOp a'.eval o = execOp a.eval o → AT j o a v → AT j o a' v) {i j : Nat} {oi oj : Oper} {v : Value} (hj : ops[j]? = some oj) (hap : oi.apart ops oj = true)
    (hsi : ∀ cs b, oi.op ≠ .select cs b) (hsj : ∀ cs b, oj.op ≠ .select cs b) {K : Act → Prop} {a : Act} (hy : YG ops AT i oi a v) (h : qG P ops AT j K (a.put oi.dst v)) :
    qG P ops AT j (fun a' => YG ops AT i oi a' v ∧ K (a'.put oi.dst v)) a := by
  obtain ⟨h1, h2, h3⟩ := Oper.apart_spec hap
  unfold qG at *
  simp only [hj] at *
  obtain ⟨u, hu, hn⟩ := h
  refine ⟨u, ?_, hy.of_same hAT (execOp_put oi hsi a oj.dst u h3) (wanted_put oi a oj.dst u h3), by rw [← Act.put_comm a v u h2]; exact hn⟩
  rw [wanted_put oj a oi.dst v h1] at hu
  rcases hu with ⟨g1, g2⟩ | hu
  · exact .inl ⟨g1, hAT _ _ _ _ _ (execOp_put oj hsj a oi.dst v h1).symm g2⟩
  · exact .inr hu
theorem YG.qG {AT : Nat → Oper → Act → Value → Prop} {j : Nat} {o : Oper} {a : Act} {v : Value} (hj : ops[j]? = some o) (hy : YG ops AT j o a v) {K : Act → Prop} (h : K (a.put o.dst v)) : qG P ops AT j K a := by
  unfold Ytbdjmaogbpdkpaa.qG
  simp only [hj]
  exact ⟨v, hy, h⟩

def bothG (P : Program) (md : Region.Mode) (ops : Array Oper) (AT : Nat → Oper → Act → Value → Prop) (i n : Nat) (d : Option Tmp) (p : Value) (L : Array Bool → Act → Prop) : Nat → Array Bool → Act → Prop
  | 0, listed, a => listed.getD i false = true ∧ L listed a
  | f + 1, listed, a => Region.ready md ops listed ≠ [] ∧ ∀ j ∈ Region.ready md ops listed, j < n ∧ if j = i then bothG P md ops AT i n d p L f (listed.setIfInBounds i true) (a.put d p) else qG P ops AT j (bothG P md ops AT i n d p L f (listed.setIfInBounds j true)) a

/-- What an operation does, in each of the two classes. -/
def ATs (P : Program) (CB CA : World → Prop) (_ : Nat) (o : Oper) (a : Act) (v : Value) : Prop := (∀ w, CB w → o.quietAt P a CB w v) ∧ (∀ w, CA w → o.quietAt P a CA w v)
theorem ATs_same {CB CA : World → Prop} : ∀ j o a a' v, execOp a'.eval o = execOp a.eval o → ATs P CB CA j o a v → ATs P CB CA j o a' v := fun j o a a' v e h => by
  unfold ATs Oper.quietAt at *
  rw [e]
  exact h

theorem wpOp_of_qG {CB CA : World → Prop} {C : World → Prop} (hC : C = CB ∨ C = CA) {j : Nat} {a : Act} {K : Act → Prop} {K' : Act → World → Prop} {Q' : Exit → Act → World → Prop} {w : World} (hw : C w) (h : ∀ a w', C w' → K a → K' a w') (hh : qG P ops (ATs P CB CA) j K a) : wpOp P ops Q' j K' a w := by
  refine wpOp_of_qOp (C := C) hw h ?_
  unfold qG at hh
  unfold qOp
  split
  · rename_i ho; simp only [ho] at hh; exact hh
  · rename_i o ho
    simp only [ho] at hh
    obtain ⟨v, hv, hk⟩ := hh
    rcases hv with ⟨h1, h2⟩ | ⟨h1, rfl⟩
    · rw [if_pos h1]
      refine ⟨v, ?_, hk⟩
      rcases hC with rfl | rfl
      · exact h2.1
      · exact h2.2
    · rw [if_neg (by rw [h1]; exact Bool.false_ne_true)]
      exact hk

theorem wpAny_of_both {CB CA : World → Prop} {i n g : Nat} {d : Option Tmp} {p : Value} {L : Array Bool → Act → Prop} {Q' : Exit → Act → World → Prop}
    (hal : ∀ (a : Act) (w : World) (K : Act → World → Prop), CB w → (∀ w', CA w' → K (a.put d p) w') → wpOp P ops Q' i K a w) (hL : ∀ listed a w, CA w → L listed a → wpAny P md ops Q' g listed a w) :
    ∀ (f : Nat) (listed : Array Bool) (a : Act) (w : World), (if listed.getD i false = true then CA w else CB w) → bothG P md ops (ATs P CB CA) i n d p L f listed a → wpAny P md ops Q' (f + g) listed a w
  | 0, listed, a, w, hw, h => by
    rw [Nat.zero_add]
    rw [if_pos h.1] at hw
    exact hL _ _ _ hw h.2
  | f + 1, listed, a, w, hw, h => by
    rw [show f + 1 + g = (f + g) + 1 by omega]
    refine ⟨fun h0 => absurd h0 h.1, fun j hj => ?_⟩
    obtain ⟨hjn, hjj⟩ := h.2 j hj
    by_cases hji : j = i
    · subst hji
      rw [if_pos rfl] at hjj
      have hun := (mem_ready.1 hj).1
      rw [getD_both hun, if_neg Bool.false_ne_true] at hw
      exact hal _ _ _ hw fun w' hw' => wpAny_of_both hal hL f _ _ _ (by rw [getD_set_self hun]; exact hw') hjj
    · rw [if_neg hji] at hjj
      by_cases hl : listed.getD i false = true
      · rw [if_pos hl] at hw
        refine wpOp_of_qG (.inr rfl) hw (fun a' w' hw' h' => ?_) hjj
        exact wpAny_of_both hal hL f _ a' _ (by rw [getD_set_ne false hji, if_pos hl]; exact hw') h'
      · rw [if_neg hl] at hw
        refine wpOp_of_qG (.inl rfl) hw (fun a' w' hw' h' => ?_) hjj
        exact wpAny_of_both hal hL f _ a' _ (by rw [getD_set_ne false hji, if_neg hl]; exact hw') h'

theorem bothG_first {AT : Nat → Oper → Act → Value → Prop} (hAT : ∀ j o a a' v, execOp a'.eval o = execOp a.eval o → AT j o a v → AT j o a' v) {i n k : Nat} {oi ok : Oper} {p v : Value} {L : Array Bool → Act → Prop} (hk : ops[k]? = some ok) (hki : k ≠ i) (hoi : ops[i]? = some oi) (hsel : ∀ (j : Nat) (o : Oper) cs b, ops[j]? = some o → o.op ≠ .select cs b)
    (hs : Region.sinkB md ops n = true) (hc : Region.chainB md ops n = true) (hn : n < ops.size) (hkn : k < n) (hin : i < n)
    (hdone : ∀ listed a, L listed a → ∀ j ∈ Region.ready md ops listed, n ≤ j) :
    ∀ (f : Nat) (listed : Array Bool) (a : Act), HeadInv md ops n listed →
      (∀ j oj, ops[j]? = some oj → j ≠ k → listed.getD j true = false → (∀ e ∈ oj.after, Region.binds md e = true → e.on ≠ k) → ok.apart ops oj = true) →
      k ∈ Region.ready md ops listed → YG ops AT k ok a v →
      bothG P md ops AT i n oi.dst p L f (listed.setIfInBounds k true) (a.put ok.dst v) → bothG P md ops AT i n oi.dst p L (f + 1) listed a := by
  intro f
  induction f with
  | zero =>
    intro listed a inv _ hr hy H
    have hun := (mem_ready.1 hr).1
    refine ⟨fun h => (by rw [h] at hr; cases hr), fun j hj => ?_⟩
    have hjn : j < n := by
      rcases Nat.lt_or_ge j n with h | h
      · exact h
      · exact absurd hj (tail_waits hs hc hn inv _ k rfl hkn hun j h)
    refine ⟨hjn, ?_⟩
    by_cases hji : j = i
    · subst hji
      have h1 := H.1
      rw [getD_set_ne false hki, getD_both (mem_ready.1 hj).1] at h1
      cases h1
    · rw [if_neg hji]
      by_cases hjk : j = k
      · subst hjk; exact hy.qG hk H
      · have := hdone _ _ H.2 j (ready_mono hj hjk)
        omega
  | succ f ih =>
    intro listed a inv hfree hr hy H
    have hun := (mem_ready.1 hr).1
    refine ⟨fun h => (by rw [h] at hr; cases hr), fun j hj => ?_⟩
    have hjn : j < n := by
      rcases Nat.lt_or_ge j n with h | h
      · exact h
      · exact absurd hj (tail_waits hs hc hn inv _ k rfl hkn hun j h)
    refine ⟨hjn, ?_⟩
    obtain ⟨hjun, oj, hoj, hall⟩ := mem_ready.1 hj
    have hnot : ∀ e ∈ oj.after, Region.binds md e = true → e.on ≠ k := fun e he hb heq => by
      have h1 := hall e he hb
      rw [heq, getD_both hun] at h1
      cases h1
    have hfree' : ∀ k' ok', ops[k']? = some ok' → k' ≠ k → (listed.setIfInBounds j true).getD k' true = false →
        (∀ e ∈ ok'.after, Region.binds md e = true → e.on ≠ k) → ok.apart ops ok' = true := fun k' ok' hk' hkk hun' hno => by
      refine hfree k' ok' hk' hkk ?_ hno
      by_cases hjk : j = k'
      · subst hjk; exact hjun
      · rw [getD_set_ne true hjk] at hun'; exact hun'
    by_cases hji : j = i
    · subst hji
      rw [if_pos rfl]
      have e : oj = oi := Option.some.inj (hoj.symm.trans hoi)
      subst e
      have hap := hfree j oj hoj (Ne.symm hki) hjun hnot
      obtain ⟨a1, a2, a3⟩ := Oper.apart_spec hap
      have h1 := (H.2 j (ready_mono hj (Ne.symm hki))).2
      rw [if_pos rfl] at h1
      refine ih (listed.setIfInBounds j true) _ (inv.set hj hjn) hfree' (ready_mono hr hki) (hy.of_same hAT (execOp_put ok (fun cs b => hsel k ok cs b hk) a oj.dst p a3) (wanted_put ok a oj.dst p a3)) ?_
      rw [Array.setIfInBounds_comm _ _ (Ne.symm hki), ← Act.put_comm a v p a2]
      exact h1
    · rw [if_neg hji]
      by_cases hjk : j = k
      · subst hjk; exact hy.qG hk H
      · have h1 := (H.2 j (ready_mono hj hjk)).2
        rw [if_neg hji] at h1
        have h2 := qG_put hAT hoj (hfree j oj hoj hjk hjun hnot) (fun cs b => hsel k ok cs b hk) (fun cs b => hsel j oj cs b hoj) hy h1
        refine qG_mono (fun a' h3 => ih (listed.setIfInBounds j true) a' (inv.set hj hjn) hfree' (ready_mono hr (Ne.symm hjk)) h3.1 ?_) h2
        rw [Array.setIfInBounds_comm _ _ hjk]
        exact h3.2

/-- The head, in the order of the text. -/
def wpG (ops : Array Oper) (AT : Nat → Oper → Act → Value → Prop) (Lq : Act → Prop) : Nat → List Oper → Act → Prop
  | _, [], a => Lq a
  | k, o :: l, a => ∃ v, YG ops AT k o a v ∧ wpG ops AT Lq (k + 1) l (a.put o.dst v)

theorem bothG_lex {AT : Nat → Oper → Act → Value → Prop} (hAT : ∀ j o a a' v, execOp a'.eval o = execOp a.eval o → AT j o a v → AT j o a' v) {i n g : Nat} {oi : Oper} {p : Value} {Lq : Act → Prop} (hni : n = i + 1) (hoi : ops[i]? = some oi) (hsel : Region.noSelect ops = true) (hs : Region.sinkB md ops n = true) (hc : Region.chainB md ops n = true) (hn : n < ops.size) :
    ∀ (l : List Oper) (k : Nat) (listed : Array Bool) (a : Act), (∀ j, j < l.length → l[j]? = ops[k + j]?) → k + l.length = i → HeadInv md ops n listed →
    Region.lexHead md ops (g + 1) l.length k listed = true → wpG ops AT Lq k l a →
    bothG P md ops AT i n oi.dst p (fun listed' a' => Region.seqB md ops g n listed' = true ∧ ∃ a0 : Act, a' = a0.put oi.dst p ∧ Lq a0) (l.length + 1) listed a
  | [], k, listed, a, _, hk, inv, hB, h => by
    have hki : k = i := by simpa using hk
    subst hki
    simp only [List.length_nil, Region.lexHead, Region.seqB, Bool.and_eq_true, decide_eq_true_eq] at hB
    refine ⟨fun h0 => (by rw [hB.1] at h0; cases h0), fun j hj => ?_⟩
    rw [hB.1] at hj
    have hjk : j = k := by simpa using hj
    subst hjk
    refine ⟨by omega, ?_⟩
    rw [if_pos rfl]
    have hr : j ∈ Region.ready md ops listed := by rw [hB.1]; simp
    exact ⟨getD_set_self (mem_ready.1 hr).1, by rw [hni]; exact hB.2, a, rfl, h⟩
  | o :: l, k, listed, a, hl, hk, inv, hB, h => by
    have h0 : ops[k]? = some o := by simpa using (hl 0 (by simp)).symm
    simp only [List.length_cons, Region.lexHead, Bool.and_eq_true] at hB
    obtain ⟨⟨hr, hf⟩, hB'⟩ := hB
    have hki : k < i := by simp only [List.length_cons] at hk; omega
    have hr' : k ∈ Region.ready md ops listed := by simpa using hr
    obtain ⟨v, hy, hK⟩ := h
    exact bothG_first hAT h0 (by omega) hoi (Region.noSelect_spec hsel) hs hc hn (by omega) (by omega) (fun listed' a' hL => seqB_ready hL.1) (l.length + 1) listed a inv (Region.free_spec h0 hf) hr' hy
      (bothG_lex hAT hni hoi hsel hs hc hn l (k + 1) _ _ (fun j hj => by have := hl (j + 1) (by simp; omega); simpa [Nat.add_assoc, Nat.add_comm 1 j] using this) (by simp only [List.length_cons] at hk; omega) (inv.set hr' (by omega)) hB' hK)

def CBd (w : World) : World → Prop := fun w' => ∃ n, w' = w.drewN n
theorem wpG_reads {w : World} {z : Obj} {Lq : Act → Prop} : ∀ (l1 l2 : List Oper) (k : Nat) (a : Act), plainB l1 = true →
    wpQuiet P ops (fun w' => ∃ x : TwoD w z, w' = x.w) (fun a' => wpG ops (ATs P (CBd w) (CBd (w.alloc z))) Lq (k + l1.length) l2 a') l1 a → wpG ops (ATs P (CBd w) (CBd (w.alloc z))) Lq k (l1 ++ l2) a
  | [], l2, k, a, _, h => h
  | o :: l1, l2, k, a, hp, h => by
    simp only [plainB, List.all_cons, Bool.and_eq_true] at hp
    have hstep : ∀ (C : World → Prop) (w' : World) (v : Value), o.quietAt P a (fun w' => ∃ x : TwoD w z, w' = x.w) w' v → o.quietAt P a C w' v := fun C w' v h3 => by
      have hne := plain_enter (P := P) (ρ := a.eval) (w := w') hp.1
      unfold Oper.quietAt at *
      generalize (execOp a.eval o).run P w' = r at *
      cases r with
      | ok x w2 =>
        cases x <;> simp only [Oper.quietUpon] at h3 ⊢ <;> first | exact h3 | skip
        exact absurd rfl (hne _ _ _)
      | halt x w2 => exact h3
    have hrec : ∀ a', wpQuiet P ops (fun w' => ∃ x : TwoD w z, w' = x.w) (fun a' => wpG ops (ATs P (CBd w) (CBd (w.alloc z))) Lq (k + (o :: l1).length) l2 a') l1 a' → wpG ops (ATs P (CBd w) (CBd (w.alloc z))) Lq (k + 1) (l1 ++ l2) a' := fun a' h' =>
      wpG_reads l1 l2 (k + 1) a' hp.2 (by rw [List.length_cons] at h'; rw [show k + 1 + l1.length = k + (l1.length + 1) by omega]; exact h')
    unfold wpQuiet at h
    by_cases hw : Region.wanted o (yielded ops a.tmps) = true
    · rw [if_pos hw] at h
      obtain ⟨v, h1, h2⟩ := h
      refine ⟨v, .inl ⟨hw, fun w' ⟨n, e⟩ => hstep _ _ _ (h1 w' ⟨⟨w', n, .inl e⟩, rfl⟩), fun w' ⟨n, e⟩ => hstep _ _ _ (h1 w' ⟨⟨w', n, .inr e⟩, rfl⟩)⟩, hrec _ h2⟩
    · rw [if_neg hw] at h
      exact ⟨undef, .inr ⟨by simpa using hw, rfl⟩, hrec _ h⟩

def twoC (l : List Oper) (i : Nat) : Bool :=
  Region.noSelect l.toArray && decide (i + 1 < l.length) && Region.sinkB .any l.toArray (i + 1) && Region.chainB .any l.toArray (i + 1) && Region.lexHead .any l.toArray (l.length - (i + 1) + 1) i 0 (Array.replicate l.toArray.size false)

/-- Reads and quiet calls, a making of memory, then a tail. -/
theorem wp_region_twoC_tail {id : Nat} {Q : Exit → Act → World → Prop} {a : Act} {w : World} {l : List Oper} (i : Nat) (oi : Oper) (z : Obj) (hm : P.follows .mixedOrders = true) (hB : twoC l i = true) (hoi : l[i]? = some oi) (hgd : oi.guard = none)
    (hal : ∀ (a : Act) (n : Nat) (K : Act → World → Prop), K (a.put oi.dst (.pointer (some ⟨w.heap.size, 0, none⟩))) ((w.alloc z).drewN n) → oi.wp P a (w.drewN n) K Q)
    (h : wpG l.toArray (ATs P (CBd w) (CBd (w.alloc z))) (fun a' => ∀ n, wpList P l.toArray Q (l.drop (i + 1)) (a'.put oi.dst (.pointer (some ⟨w.heap.size, 0, none⟩))) ((w.alloc z).drewN n)) 0 (l.take i) a) : (Code.region id l.toArray true).wp P Q a w := by
  simp only [twoC, Bool.and_eq_true, decide_eq_true_eq] at hB
  obtain ⟨⟨⟨⟨hsel, hn⟩, hs⟩, hc⟩, hlex⟩ := hB
  have hlt : i < l.length := by omega
  have htl : (l.take i).length = i := by simp; omega
  have hdl : (l.drop (i + 1)).length = l.length - (i + 1) := by simp
  have hoi' : l.toArray[i]? = some oi := by simpa using hoi
  have inv0 : HeadInv .any l.toArray (i + 1) (Array.replicate l.toArray.size false) :=
    ⟨by simp, fun j oj _ hl => (by rw [getD_replicate_false] at hl; cases hl), fun t _ ht => getD_in (by simpa using ht) (getD_replicate_false _ _)⟩
  have H := bothG_lex (P := P) (md := .any) (g := l.length - (i + 1)) (p := .pointer (some ⟨w.heap.size, 0, none⟩)) (ATs_same (P := P) (CB := CBd w) (CA := CBd (w.alloc z))) rfl hoi' hsel hs hc (by simpa using hn) (l.take i) 0 _ a (fun j hj => by
    have hj' : j < i := by rw [htl] at hj; exact hj
    simp [hj']) (by simpa using htl) inv0 (by rw [htl]; exact hlex) h
  rw [htl] at H
  refine wp_region_any hm ?_
  have := wpAny_of_both (Q' := Q) (g := l.length - (i + 1)) (fun a' w' K ⟨n, e⟩ hK => by
      unfold wpOp
      simp only [hoi']
      have hw : Region.wanted oi (yielded l.toArray a'.tmps) = true := by simp [Region.wanted, hgd]
      rw [if_pos hw, e]
      exact .inl (hal a' n K (hK _ ⟨n, rfl⟩))) (fun listed a' w' ⟨n, e⟩ hL => by
    obtain ⟨h1, a0, rfl, h2⟩ := hL
    subst e
    have := wpAny_of_seq' (P := P) (md := .any) (Q' := Q) (l.drop (i + 1)) (i + 1) listed _ _ (fun j => by simp [List.getElem?_drop]) (by rw [hdl]; exact h1) (h2 n)
    rwa [hdl] at this) _ _ _ w.drew (by rw [getD_replicate_false]; exact ⟨1, rfl⟩) H
  rw [show i + 1 + (l.length - (i + 1)) = l.toArray.size by simp; omega] at this
  exact this
end

end Go.Proofs.Ytbdjmaogbpdkpaa

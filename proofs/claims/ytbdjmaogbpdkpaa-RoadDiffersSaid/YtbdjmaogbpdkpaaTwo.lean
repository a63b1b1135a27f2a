import Derived.Test.YtbdjmaogbpdkpaaGrpB
import Derived.Sort.BigQuietIn
/-
  A region that draws its order: reads, ONE making of memory that may come up at any time among them, then a tail that waits for all of it. One walk serves every order.
-/
namespace Go.Proofs.Ytbdjmaogbpdkpaa
open Go Go.RowKit

/-- The world ahead of the making, or behind it. -/
structure Two (w0 : World) (z : Obj) where
  w : World
  h : w = w0 ∨ w = w0.alloc z
instance two_nonempty (w0 : World) (z : Obj) : Nonempty (Two w0 z) := ⟨⟨w0, .inl rfl⟩⟩
theorem Two.cell {w0 : World} {z : Obj} (x : Two w0 z) {b o : Nat} (h : b < w0.heap.size) : x.w.cell? ⟨b, o, none⟩ = w0.cell? ⟨b, o, none⟩ := by
  rcases x.h with e | e
  · rw [e]
  · rw [e]; exact World.cell?_alloc_lt w0 z ⟨b, o, none⟩ h

def plainOp : Op → Bool
  | .move _ | .assign _ | .load _ _ | .fieldAddr _ _ _ | .indexAddr _ _ _ | .binOp _ _ _ _ _ | .build _ _ | .unOp _ _ _ | .extract _ _ => true
  | _ => false
theorem run_v {P : Program} {w w' : World} {f : FuncId} {args : Array Value} (s : Sem Value) : (do pure (.value (← s)) : Sem Next).run P w ≠ .ok (.enter f args) w' := by
  intro e
  rw [Sem.run_bind] at e
  cases hr : s.run P w with
  | ok x w2 => rw [hr] at e; simp [Result.andThen, Sem.run_pure] at e
  | halt x w2 => rw [hr] at e; simp [Result.andThen] at e
theorem plain_enter {P : Program} {ρ : Operand → Value} {o : Oper} {w : World} (h : plainOp o.op = true) (f : FuncId) (args : Array Value) (w' : World) : (execOp ρ o).run P w ≠ .ok (.enter f args) w' := by
  obtain ⟨dst, op, type, pos, after, guard⟩ := o
  cases op <;> simp only [plainOp, Bool.false_eq_true] at h <;> unfold execOp <;> first | exact run_v _ | (intro e; simp [Sem.run_pure] at e)

section
variable {F : Fence} {m : Nat} {P : Program} {ops : Array Oper} {md : Region.Mode} {C : World → Prop}

theorem qOpIn_plain {j : Nat} {o : Oper} {a : Act} {K : Act → Prop} {w : World} (ho : ops[j]? = some o) (hp : plainOp o.op = true) (hw : C w) (h : qOpIn F m P ops C j K a) : qOpIn F m P ops (fun x => x = w) j K a := by
  unfold qOpIn at *
  simp only [ho] at *
  obtain ⟨ha, h⟩ := h
  refine ⟨fun w' e f hf => by subst e; exact ha _ hw f hf, ?_⟩
  split
  · rename_i hwt
    simp only [hwt, if_true] at h
    obtain ⟨v, h1, h2⟩ := h
    refine ⟨v, fun w' e => ?_, h2⟩
    subst e
    have h3 := h1 _ hw
    have hne := plain_enter (P := P) (ρ := a.eval) (w := w') hp
    unfold Oper.quietAtIn at *
    generalize (execOp a.eval o).run P w' = r at *
    cases r with
    | ok x w2 =>
      cases x <;> simp only [Oper.quietUponIn] at h3 ⊢ <;> first | exact h3 | skip
      exact absurd rfl (hne _ _ _)
    | halt x w2 => exact h3
  · rename_i hwt
    simp only [hwt] at h
    exact h

theorem qOpIn_putA {j : Nat} {oi oj : Oper} {v : Value} (hj : ops[j]? = some oj) (hap : oi.apart ops oj = true) (hsj : ∀ cs b, oj.op ≠ .select cs b) {K : Act → Prop} {a : Act}
    (h : qOpIn F m P ops C j K (a.put oi.dst v)) : qOpIn F m P ops C j (fun a' => K (a'.put oi.dst v)) a := by
  obtain ⟨h1, h2, h3⟩ := Oper.apart_spec hap
  unfold qOpIn at *
  simp only [hj] at *
  obtain ⟨ha, h⟩ := h
  refine ⟨fun w hc f hf => ha w hc f (by rw [about_put oj w a oi.dst v h1]; exact hf), ?_⟩
  rw [wanted_put oj a oi.dst v h1] at h
  split
  · rename_i hw
    simp only [hw, if_true] at h
    obtain ⟨u, hu, hn⟩ := h
    refine ⟨u, fun w hw' => ?_, by show K ((a.put oj.dst u).put oi.dst v); rw [← Act.put_comm a v u h2]; exact hn⟩
    have := hu w hw'
    unfold Oper.quietAtIn at *
    rwa [execOp_put oj hsj a oi.dst v h1] at this
  · rename_i hw
    simp only [hw] at h
    show K ((a.put oj.dst undef).put oi.dst v)
    rw [← Act.put_comm a v undef h2]
    exact h

def bothIn (F : Fence) (m : Nat) (P : Program) (md : Region.Mode) (ops : Array Oper) (C : World → Prop) (i n : Nat) (d : Option Tmp) (p : Value) (L : Array Bool → Act → Prop) : Nat → Array Bool → Act → Prop
  | 0, listed, a => listed.getD i false = true ∧ L listed a
  | f + 1, listed, a => Region.ready md ops listed ≠ [] ∧ ∀ j ∈ Region.ready md ops listed, j < n ∧ if j = i then bothIn F m P md ops C i n d p L f (listed.setIfInBounds i true) (a.put d p) else qOpIn F m P ops C j (bothIn F m P md ops C i n d p L f (listed.setIfInBounds j true)) a

theorem getD_set_self {listed : Array Bool} {i : Nat} (h : listed.getD i true = false) : (listed.setIfInBounds i true).getD i false = true := by
  rcases Nat.lt_or_ge i listed.size with h' | h'
  · simp [h']
  · simp [Array.getElem?_eq_none h'] at h

theorem wpAnyIn_of_both {i n g : Nat} {d : Option Tmp} {p : Value} {L : Array Bool → Act → Prop} {Q' : Exit → Act → World → Prop} {w0 : World} {z : Obj} (hnd : noDefer ops = true)
    (hpl : ∀ j o, ops[j]? = some o → j < n → j ≠ i → plainOp o.op = true)
    (hal : ∀ (a : Act) (K : Act → World → Prop), K (a.put d p) (w0.alloc z) → wpOpIn F m P ops Q' i K a w0) (hL : ∀ listed a, L listed a → wpAnyIn F m P md ops Q' g listed a (w0.alloc z)) :
    ∀ (f : Nat) (listed : Array Bool) (a : Act) (w : World), w = (if listed.getD i false = true then w0.alloc z else w0) → bothIn F m P md ops (fun w' => ∃ x : Two w0 z, w' = x.w) i n d p L f listed a → wpAnyIn F m P md ops Q' (f + g) listed a w
  | 0, listed, a, w, hw, h => by
    rw [Nat.zero_add]
    rw [h.1] at hw
    rw [hw]
    exact hL _ _ h.2
  | f + 1, listed, a, w, hw, h => by
    rw [show f + 1 + g = (f + g) + 1 by omega]
    refine ⟨fun h0 => absurd h0 h.1, fun j hj => ?_⟩
    obtain ⟨hjn, hjj⟩ := h.2 j hj
    by_cases hji : j = i
    · subst hji
      rw [if_pos rfl] at hjj
      have hun := (mem_ready.1 hj).1
      rw [getD_both hun] at hw
      rw [hw]
      exact hal _ _ (wpAnyIn_of_both hnd hpl hal hL f _ _ _ (by rw [getD_set_self hun]; rfl) hjj)
    · rw [if_neg hji] at hjj
      obtain ⟨_, oj, hoj, _⟩ := mem_ready.1 hj
      have hC : ∃ x : Two w0 z, w = x.w := by
        rw [hw]
        split
        · exact ⟨⟨_, .inr rfl⟩, rfl⟩
        · exact ⟨⟨_, .inl rfl⟩, rfl⟩
      refine wpOpIn_of_qOpIn' (C := fun x => x = w) hnd rfl (fun a' w' e h' => ?_) (qOpIn_plain hoj (hpl j oj hoj hjn hji) hC hjj)
      subst e
      exact wpAnyIn_of_both hnd hpl hal hL f _ a' _ (by rw [getD_set_ne false hji]; exact hw) h'

theorem bothIn_first {i n k : Nat} {oi ok : Oper} {p v : Value} {L : Array Bool → Act → Prop} (hk : ops[k]? = some ok) (hki : k ≠ i) (hoi : ops[i]? = some oi) (hsel : ∀ (j : Nat) (o : Oper) cs b, ops[j]? = some o → o.op ≠ .select cs b)
    (hs : Region.sinkB md ops n = true) (hc : Region.chainB md ops n = true) (hn : n < ops.size) (hkn : k < n) (hin : i < n)
    (hdone : ∀ listed a, L listed a → ∀ j ∈ Region.ready md ops listed, n ≤ j) :
    ∀ (f : Nat) (listed : Array Bool) (a : Act), HeadInv md ops n listed →
      (∀ j oj, ops[j]? = some oj → j ≠ k → listed.getD j true = false → (∀ e ∈ oj.after, Region.binds md e = true → e.on ≠ k) → ok.apart ops oj = true) →
      k ∈ Region.ready md ops listed → YieldsQuiet F m P ops C ok v a →
      bothIn F m P md ops C i n oi.dst p L f (listed.setIfInBounds k true) (a.put ok.dst v) → bothIn F m P md ops C i n oi.dst p L (f + 1) listed a := by
  intro f
  induction f with
  | zero =>
    intro listed a inv _ hr hy H
    have hun := (mem_ready.1 hr).1
    refine ⟨fun h => (by rw [h] at hr; cases hr), fun j hj => ?_⟩
    have hjn : j < n := by
      rcases Nat.lt_or_ge j n with h | h
      · exact h
      · exact absurd hj (tail_waits hs hc hn inv _ k rfl hkn hun j h)
    refine ⟨hjn, ?_⟩
    by_cases hji : j = i
    · subst hji
      have h1 := H.1
      rw [getD_set_ne false hki, getD_both (mem_ready.1 hj).1] at h1
      cases h1
    · rw [if_neg hji]
      by_cases hjk : j = k
      · subst hjk; exact YieldsQuiet.qOpIn hk hy H
      · have := hdone _ _ H.2 j (ready_mono hj hjk)
        omega
  | succ f ih =>
    intro listed a inv hfree hr hy H
    have hun := (mem_ready.1 hr).1
    refine ⟨fun h => (by rw [h] at hr; cases hr), fun j hj => ?_⟩
    have hjn : j < n := by
      rcases Nat.lt_or_ge j n with h | h
      · exact h
      · exact absurd hj (tail_waits hs hc hn inv _ k rfl hkn hun j h)
    refine ⟨hjn, ?_⟩
    obtain ⟨hjun, oj, hoj, hall⟩ := mem_ready.1 hj
    have hnot : ∀ e ∈ oj.after, Region.binds md e = true → e.on ≠ k := fun e he hb heq => by
      have h1 := hall e he hb
      rw [heq, getD_both hun] at h1
      cases h1
    have hfree' : ∀ k' ok', ops[k']? = some ok' → k' ≠ k → (listed.setIfInBounds j true).getD k' true = false →
        (∀ e ∈ ok'.after, Region.binds md e = true → e.on ≠ k) → ok.apart ops ok' = true := fun k' ok' hk' hkk hun' hno => by
      refine hfree k' ok' hk' hkk ?_ hno
      by_cases hjk : j = k'
      · subst hjk; exact hjun
      · rw [getD_set_ne true hjk] at hun'; exact hun'
    by_cases hji : j = i
    · subst hji
      rw [if_pos rfl]
      have e : oj = oi := Option.some.inj (hoj.symm.trans hoi)
      subst e
      have hap := hfree j oj hoj (Ne.symm hki) hjun hnot
      obtain ⟨a1, a2, a3⟩ := Oper.apart_spec hap
      have h1 := (H.2 j (ready_mono hj (Ne.symm hki))).2
      rw [if_pos rfl] at h1
      refine ih (listed.setIfInBounds j true) _ (inv.set hj hjn) hfree' (ready_mono hr hki) (hy.of_same (execOp_put ok (fun cs b => hsel k ok cs b hk) a oj.dst p a3) (wanted_put ok a oj.dst p a3) (fun w => about_put ok w a oj.dst p a3)) ?_
      rw [Array.setIfInBounds_comm _ _ (Ne.symm hki), ← Act.put_comm a v p a2]
      exact h1
    · rw [if_neg hji]
      by_cases hjk : j = k
      · subst hjk; exact YieldsQuiet.qOpIn hk hy H
      · have h1 := (H.2 j (ready_mono hj hjk)).2
        rw [if_neg hji] at h1
        have h2 := qOpIn_put hoj (hfree j oj hoj hjk hjun hnot) (fun cs b => hsel k ok cs b hk) (fun cs b => hsel j oj cs b hoj) hy h1
        refine qOpIn_mono (fun a' h3 => ih (listed.setIfInBounds j true) a' (inv.set hj hjn) hfree' (ready_mono hr (Ne.symm hjk)) h3.1 ?_) h2
        rw [Array.setIfInBounds_comm _ _ hjk]
        exact h3.2

theorem bothIn_lex {i n g : Nat} {oi : Oper} {p : Value} {Lq : Act → Prop} (hni : n = i + 1) (hoi : ops[i]? = some oi) (hsel : Region.noSelect ops = true) (hs : Region.sinkB md ops n = true) (hc : Region.chainB md ops n = true) (hn : n < ops.size) :
    ∀ (l : List Oper) (k : Nat) (listed : Array Bool) (a : Act), (∀ j, j < l.length → l[j]? = ops[k + j]?) → k + l.length = i → HeadInv md ops n listed →
    Region.lexHead md ops (g + 1) l.length k listed = true → wpQuietIn F m P ops C Lq l a →
    bothIn F m P md ops C i n oi.dst p (fun listed' a' => Region.seqB md ops g n listed' = true ∧ ∃ a0 : Act, a' = a0.put oi.dst p ∧ Lq a0) (l.length + 1) listed a
  | [], k, listed, a, _, hk, inv, hB, h => by
    have hki : k = i := by simpa using hk
    subst hki
    simp only [List.length_nil, Region.lexHead, Region.seqB, Bool.and_eq_true, decide_eq_true_eq] at hB
    refine ⟨fun h0 => (by rw [hB.1] at h0; cases h0), fun j hj => ?_⟩
    rw [hB.1] at hj
    have hjk : j = k := by simpa using hj
    subst hjk
    refine ⟨by omega, ?_⟩
    rw [if_pos rfl]
    have hr : j ∈ Region.ready md ops listed := by rw [hB.1]; simp
    exact ⟨getD_set_self (mem_ready.1 hr).1, by rw [hni]; exact hB.2, a, rfl, h⟩
  | o :: l, k, listed, a, hl, hk, inv, hB, h => by
    have h0 : ops[k]? = some o := by simpa using (hl 0 (by simp)).symm
    simp only [List.length_cons, Region.lexHead, Bool.and_eq_true] at hB
    obtain ⟨⟨hr, hf⟩, hB'⟩ := hB
    have hki : k < i := by simp only [List.length_cons] at hk; omega
    have hr' : k ∈ Region.ready md ops listed := by simpa using hr
    have hst : qOpIn F m P ops C k (wpQuietIn F m P ops C Lq l) a := by unfold qOpIn; simp only [h0]; exact h
    obtain ⟨v, hy, hK⟩ := yieldsQuiet_of_qOpIn h0 hst
    exact bothIn_first h0 (by omega) hoi (Region.noSelect_spec hsel) hs hc hn (by omega) (by omega) (fun listed' a' hL => seqB_ready hL.1) (l.length + 1) listed a inv (Region.free_spec h0 hf) hr' hy
      (bothIn_lex hni hoi hsel hs hc hn l (k + 1) _ _ (fun j hj => by have := hl (j + 1) (by simp; omega); simpa [Nat.add_assoc, Nat.add_comm 1 j] using this) (by simp only [List.length_cons] at hk; omega) (inv.set hr' (by omega)) hB' hK)

def plainB (ops : List Oper) : Bool := ops.all fun o => plainOp o.op
def twoB (l : List Oper) (i : Nat) : Bool :=
  noDefer l.toArray && plainB (l.take i) && Region.noSelect l.toArray && decide (i + 1 < l.length) && Region.sinkB .any l.toArray (i + 1) && Region.chainB .any l.toArray (i + 1) && Region.lexHead .any l.toArray (l.length - (i + 1) + 1) i 0 (Array.replicate l.toArray.size false)

/-- Reads, a making of memory, then a tail. -/
theorem wpIn_region_two_tail {id : Nat} {Q : Exit → Act → World → Prop} {a : Act} {w : World} {l : List Oper} (i : Nat) (oi : Oper) (z : Obj) (hm : P.follows .mixedOrders = true) (hB : twoB l i = true) (hoi : l[i]? = some oi) (hgd : oi.guard = none)
    (hal : ∀ (a : Act) (K : Act → World → Prop), K (a.put oi.dst (.pointer (some ⟨w.heap.size, 0, none⟩))) (w.drew.alloc z) → oi.wpIn F m P a w.drew K Q)
    (h : wpQuietIn F m P l.toArray (fun w' => ∃ x : Two w.drew z, w' = x.w) (fun a' => wpListIn F m P l.toArray Q (l.drop (i + 1)) (a'.put oi.dst (.pointer (some ⟨w.heap.size, 0, none⟩))) (w.drew.alloc z)) (l.take i) a) : (Code.region id l.toArray true).wpIn F m P Q a w := by
  simp only [twoB, Bool.and_eq_true, decide_eq_true_eq] at hB
  obtain ⟨⟨⟨⟨⟨⟨hnd, hpl⟩, hsel⟩, hn⟩, hs⟩, hc⟩, hlex⟩ := hB
  have hlt : i < l.length := by omega
  have htl : (l.take i).length = i := by simp; omega
  have hdl : (l.drop (i + 1)).length = l.length - (i + 1) := by simp
  have hoi' : l.toArray[i]? = some oi := by simpa using hoi
  have inv0 : HeadInv .any l.toArray (i + 1) (Array.replicate l.toArray.size false) :=
    ⟨by simp, fun j oj _ hl => (by rw [getD_replicate_false] at hl; cases hl), fun t _ ht => getD_in (by simpa using ht) (getD_replicate_false _ _)⟩
  have H := bothIn_lex (F := F) (m := m) (md := .any) (g := l.length - (i + 1)) (p := .pointer (some ⟨w.heap.size, 0, none⟩)) rfl hoi' hsel hs hc (by simpa using hn) (l.take i) 0 _ a (fun j hj => by
    have hj' : j < i := by rw [htl] at hj; exact hj
    simp [hj']) (by simpa using htl) inv0 (by rw [htl]; exact hlex) h
  rw [htl] at H
  refine wpIn_region_any hm ?_
  have := wpAnyIn_of_both (Q' := Q) (g := l.length - (i + 1)) hnd (fun j o hj hjn hji => by
    have hj' : (l.take i)[j]? = some o := by
      rw [List.getElem?_take_of_lt (by omega)]
      simpa using hj
    exact List.all_eq_true.1 hpl o (List.mem_of_getElem? hj')) (fun a' K hK => by
      unfold wpOpIn
      simp only [hoi']
      have hw : Region.wanted oi (yielded l.toArray a'.tmps) = true := by simp [Region.wanted, hgd]
      rw [if_pos hw]
      exact hal a' K hK) (fun listed a' hL => by
    obtain ⟨h1, a0, rfl, h2⟩ := hL
    have := wpAnyIn_of_seq' (F := F) (m := m) (md := .any) (Q' := Q) (l.drop (i + 1)) (i + 1) listed _ _ (fun j => by simp [List.getElem?_drop]) (by rw [hdl]; exact h1) h2
    rwa [hdl] at this) _ _ _ w.drew (by rw [getD_replicate_false]; rfl) H
  rw [show i + 1 + (l.length - (i + 1)) = l.toArray.size by simp; omega] at this
  exact this
end

end Go.Proofs.Ytbdjmaogbpdkpaa

import Derived.Test.YtbdjmaogbpdkpaaMk7
import Derived.Test.YtbdjmaogbpdkpaaTwo
import Derived.RangeFuncCalls
/-
  The law of reads and makers, inside a round of a range over a function.
-/
namespace Go.Proofs.Ytbdjmaogbpdkpaa.Mk7
open Go Go.RowKit
open Mk2 (Fr lies diff)
set_option linter.unusedVariables false
set_option linter.unusedSimpArgs false

section
variable {Rl : World → World → Prop} {P : Program} {ops : Array Oper} {md : Region.Mode} {w0 : World} {mk : Nat → Option (List Value → Value → World → Prop)} {dep : Nat → List Nat} {lr m : Nat}

/-- No operation defers. -/
def calmB (ops : Array Oper) : Bool := ops.all fun o => match o.op with | .defer _ => false | _ => true
theorem calm_at {ops : Array Oper} (h : calmB ops = true) {j : Nat} {o : Oper} (ho : ops[j]? = some o) (lr : Nat) (ρ : Operand → Value) : Oper.semAt (some lr) ρ o = execOp ρ o := by
  obtain ⟨hj, e⟩ := Array.getElem?_eq_some_iff.1 ho
  have h2 := Array.all_eq_true.1 h j hj
  rw [e] at h2
  unfold Oper.semAt
  cases hop : o.op <;> first | rfl | (rw [hop] at h2; cases h2)

theorem wpOpIn_of_opM [RelOk Rl w0] {j : Nat} {a : Act} {G : Gst} {K : Act → Gst → Prop} {K' : Act → World → Prop} {Q' : Exit → Act → World → Prop} {w : World} (hmk : ∀ j S, mk j = some S → ∀ l v, StR Rl (S l v)) (hG : (G.st Rl)) (hw : Rl w0 w) (hg : G.ok w)
    (h : ∀ a G w', K a G → (G.st Rl) → Rl w0 w' → G.ok w' → K' a w') (hcm : calmB ops = true) (hh : opM Rl P ops w0 mk dep j K a G) : wpOpIn (Fence.wide.inRound lr) m P ops Q' j K' a w := by
  unfold opM at hh
  unfold wpOpIn
  split at hh
  · exact hh.elim
  · rename_i o ho
    simp only [ho]
    split at hh
    · rename_i hwt
      rw [if_pos hwt]
      unfold Oper.wpIn
      refine ⟨fun f _ => trivial, ?_⟩
      rw [show (Fence.wide.inRound lr).round = some lr from rfl, calm_at hcm ho]
      split at hh
      · obtain ⟨v, h1, h2⟩ := hh
        have h3 := h1 w (RelOk.below hw)
        unfold plainAt at h3
        generalize (execOp a.eval o).run P w = r at *
        cases r with
        | ok x w2 =>
          cases x <;> simp only at h3
          · obtain ⟨rfl, rfl⟩ := h3
            exact h _ _ _ h2 hG hw hg
          · obtain ⟨rfl, rfl⟩ := h3
            exact h _ _ _ h2 hG hw hg
        | halt x w2 => simp only at h3
      · rename_i S hS
        obtain ⟨h1, h2⟩ := hh
        have h3 := h1 w hw (fun i _ => hg.2.2 i)
        have key : ∀ v w', S (ar a o) v w' → Fr w w' v → Rl w w' → K' (a.put o.dst v) w' := fun v w' hs hfr hb => by
          have hw' := RelOk.trans w0 hw hb
          have hst := Gst.add_st (k := j) hG (hmk _ _ hS (ar a o) v)
          have hok := Gst.add_ok (k := j) hG hg hs hfr (RelOk.size w0 hb) hb
          exact h _ _ _ (h2 v ⟨hst, w', hw', hok⟩) hst hw' hok
        unfold makesAt at h3
        generalize (execOp a.eval o).run P w = r at *
        cases r with
        | ok x w2 =>
          cases x <;> simp only at h3
          · exact key _ _ h3.1 h3.2.1 h3.2.2
          · exact key undef _ h3.2.1 (fun p e => by cases e) h3.2.2
          · obtain ⟨rfl, h4⟩ := h3
            refine ⟨(fun he => by cases he), CallsIn.inRound lr (callsIn_wide.2 (h4.mono fun e w'' ⟨v, he, hs, hf, hb⟩ => ?_))⟩
            subst he
            exact key _ _ hs hf hb
        | halt x w2 => simp only at h3
    · rename_i hwt
      rw [if_neg hwt]
      exact ⟨fun f _ => trivial, h _ _ _ hh hG hw hg⟩

theorem wpAnyIn_of_anyM [RelOk Rl w0] {n g : Nat} {L : Array Bool → Act → Gst → Prop} {Q' : Exit → Act → World → Prop} (hmk : ∀ j S, mk j = some S → ∀ l v, StR Rl (S l v))
    (hcm : calmB ops = true) (hL : ∀ listed a G w, L listed a G → (G.st Rl) → Rl w0 w → G.ok w → wpAnyIn (Fence.wide.inRound lr) m P md ops Q' g listed a w) :
    ∀ (f : Nat) (listed : Array Bool) (a : Act) (G : Gst) (w : World), (G.st Rl) → Rl w0 w → G.ok w → anyM Rl P ops md w0 mk dep n L f listed a G → wpAnyIn (Fence.wide.inRound lr) m P md ops Q' (f + g) listed a w
  | 0, listed, a, G, w, hS, hw, hg, h => by rw [Nat.zero_add]; exact hL _ _ _ _ h hS hw hg
  | f + 1, listed, a, G, w, hS, hw, hg, h => by
    rw [show f + 1 + g = (f + g) + 1 by omega]
    exact ⟨fun h0 => absurd h0 h.1, fun j hj => wpOpIn_of_opM hmk hS hw hg (fun a' G' w' h' hS' hw' hg' => wpAnyIn_of_anyM hmk hcm hL f _ a' G' w' hS' hw' hg' h') hcm (h.2 j hj).2⟩

theorem wpIn_region_mk_tail {id : Nat} {Q : Exit → Act → World → Prop} {a : Act} {w : World} [RelOk Rl w] {l : List Oper} (n : Nat) (mk : Nat → Option (List Value → Value → World → Prop)) (dep : Nat → List Nat) (hm : P.follows .mixedOrders = true) (hB : Region.lexTailB .any l.toArray n = true) (hdepB : depB l.toArray dep = true) (hcm : calmB l.toArray = true) (hmk : ∀ j S, mk j = some S → ∀ l v, StR Rl (S l v))
    (h : wpM Rl P l.toArray w mk dep (fun a' G => ∀ w', Rl w w' → G.G w' → wpListIn (Fence.wide.inRound lr) m P l.toArray Q (l.drop n) a' w') 0 (l.take n) a ⟨fun _ => True, fun _ => False, fun _ _ => True⟩) : (Code.region id l.toArray true).wpIn (Fence.wide.inRound lr) m P Q a w := by
  simp only [Region.lexTailB, Bool.and_eq_true, decide_eq_true_eq] at hB
  obtain ⟨⟨⟨⟨hsel, hn⟩, hs⟩, hc⟩, hlex⟩ := hB
  have hn' : n < l.length := by simpa using hn
  have htl : (l.take n).length = n := by simp; omega
  have hdl : (l.drop n).length = l.toArray.size - n := by simp
  have inv0 : HeadInv .any l.toArray n (Array.replicate l.toArray.size false) :=
    ⟨by simp, fun j oj _ hl => (by rw [getD_replicate_false] at hl; cases hl), fun t _ ht => getD_in (by simpa using ht) (getD_replicate_false _ _)⟩
  have H := anyM_lex (P := P) (w0 := w) (mk := mk) (dep := dep) (md := .any) (g := l.toArray.size - n) hsel hs hc hn hmk (depB_spec hdepB) (l.take n) 0 _ a ⟨fun _ => True, fun _ => False, fun _ _ => True⟩ ⟨⟨fun _ _ _ _ => trivial, fun _ _ _ _ _ => trivial⟩, w, RelOk.refl w w, trivial, fun _ h => False.elim h, fun _ => trivial⟩ (fun j hj => by
    have hj' : j < n := by rw [htl] at hj; exact hj
    simp [hj']) (by simpa using htl) inv0 (by rw [htl]; exact hlex) h
  refine wpIn_region_any hm ?_
  have hd : Rl w w.drew := RelOk.drew
  have := wpAnyIn_of_anyM (lr := lr) (m := m) (Q' := Q) (g := l.toArray.size - n) hmk hcm (fun listed a' G w' hL hS hw' hg => by
    have := wpAnyIn_of_seq' (F := Fence.wide.inRound lr) (m := m) (P := P) (md := .any) (Q' := Q) (l.drop n) n listed a' w' (fun j => by simp [List.getElem?_drop]) (by rw [hdl]; exact hL.1) (hL.2 w' hw' hg.1)
    rwa [hdl] at this) _ _ _ _ w.drew ⟨fun _ _ _ _ => trivial, fun _ _ _ _ _ => trivial⟩ hd ⟨trivial, fun _ h => False.elim h, fun _ => trivial⟩ H
  rw [htl, show n + (l.toArray.size - n) = l.toArray.size by omega] at this
  exact this
end

end Go.Proofs.Ytbdjmaogbpdkpaa.Mk7

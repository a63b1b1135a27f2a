import Derived.Test.YtbdjmaogbpdkpaaMk2
/-
  A region that draws its order: reads, and operations (calls, makings of memory) that leave alone all that lay there and make something of their own: what each makes is told by a word that stays true; and what two of them make lies in two blocks; one of them may lean on what is told of another that it reads (`dep`). One walk, in the order of the text, serves every order.
-/
namespace Go.Proofs.Ytbdjmaogbpdkpaa.Mk3
open Go Go.RowKit Mk2
set_option linter.unusedVariables false
set_option linter.unusedSimpArgs false

section
variable {P : Program} {ops : Array Oper} {md : Region.Mode}

/-- What is known, what has been made, and what is told of each. -/
structure Gst where
  G : World → Prop
  M : Value → Prop
  F : Nat → World → Prop
def Gst.add (x : Gst) (k : Nat) (S : Value → World → Prop) (v : Value) : Gst := ⟨fun w => x.G w ∧ S v w ∧ ∀ u, x.M u → diff u v, fun u => x.M u ∨ u = v, fun i w => x.F i w ∧ (i = k → S v w)⟩
def Gst.ok (x : Gst) (w : World) : Prop := x.G w ∧ (∀ u, x.M u → lies u w) ∧ ∀ i, x.F i w
def Gst.st (x : Gst) : Prop := Stays x.G ∧ ∀ i, Stays (x.F i)
def Gst.good (x : Gst) (w0 : World) : Prop := x.st ∧ ∃ w, Below w0.heap.size w0 w ∧ x.ok w
theorem Gst.add_comm (x : Gst) (j k : Nat) (S T : Value → World → Prop) (u v : Value) : (x.add j S u).add k T v = (x.add k T v).add j S u := by
  have sy : ∀ {a b}, diff a b → diff b a := fun h p q e1 e2 => (h q p e2 e1).symm
  simp only [Gst.add, Gst.mk.injEq]
  refine ⟨?_, ?_, ?_⟩
  · funext w
    refine propext ⟨fun ⟨⟨h1, h2, h3⟩, h4, h5⟩ => ⟨⟨h1, h4, fun y hy => h5 y (.inl hy)⟩, h2, ?_⟩, fun ⟨⟨h1, h2, h3⟩, h4, h5⟩ => ⟨⟨h1, h4, fun y hy => h5 y (.inl hy)⟩, h2, ?_⟩⟩
    · rintro y (hy | rfl)
      · exact h3 y hy
      · exact sy (h5 u (.inr rfl))
    · rintro y (hy | rfl)
      · exact h3 y hy
      · exact sy (h5 v (.inr rfl))
  · funext y
    exact propext ⟨fun h => by rcases h with (h | h) | h <;> simp [h], fun h => by rcases h with (h | h) | h <;> simp [h]⟩
  · funext i w
    exact propext ⟨fun ⟨⟨h1, h2⟩, h3⟩ => ⟨⟨h1, h3⟩, h2⟩, fun ⟨⟨h1, h2⟩, h3⟩ => ⟨⟨h1, h3⟩, h2⟩⟩
theorem Gst.F_ne (x : Gst) {i k : Nat} (S : Value → World → Prop) (v : Value) (h : i ≠ k) (w : World) : (x.add k S v).F i w ↔ x.F i w := ⟨fun h => h.1, fun h' => ⟨h', fun e => absurd e h⟩⟩
theorem Gst.add_st {x : Gst} {k : Nat} {S : Value → World → Prop} {v : Value} (h : x.st) (hS : Stays (S v)) : (x.add k S v).st :=
  ⟨fun a b ⟨h1, h2, h3⟩ hb => ⟨h.1 a b h1 hb, hS a b h2 hb, h3⟩, fun i a b ⟨h1, h2⟩ hb => ⟨h.2 i a b h1 hb, fun e => hS a b (h2 e) hb⟩⟩
theorem Gst.add_ok {x : Gst} {k : Nat} {S : Value → World → Prop} {v : Value} {w w' : World} (h : x.st) (hg : x.ok w) (hs : S v w') (hfr : Fr w w' v) (hb : Below w.heap.size w w') : (x.add k S v).ok w' := by
  refine ⟨⟨h.1 _ _ hg.1 hb, hs, fun u hu p q e1 e2 => ?_⟩, fun u hu p e => ?_, fun i => ⟨h.2 i _ _ (hg.2.2 i) hb, fun _ => hs⟩⟩
  · have h6 := hg.2.1 u hu p e1
    have h7 := (hfr q e2).1
    omega
  · rcases hu with hu | rfl
    · exact Nat.lt_of_lt_of_le (hg.2.1 u hu p e) hb.size
    · exact (hfr p e).2
/-- What was made last may be left out. -/
theorem Gst.sub_good {x : Gst} {j k : Nat} {S T : Value → World → Prop} {u v : Value} {w0 : World} (hx : x.st) (hT : Stays (T v)) (h : ((x.add j S u).add k T v).good w0) : (x.add k T v).good w0 := by
  obtain ⟨_, w, hw, ⟨⟨h1, h2, h3⟩, h4, h5⟩, h6, h7⟩ := h
  exact ⟨Gst.add_st hx hT, w, hw, ⟨h1, h4, fun y hy => h5 y (.inl hy)⟩, fun y hy => h6 y (hy.elim (fun h => .inl (.inl h)) .inr), fun i => ⟨(h7 i).1.1, (h7 i).2⟩⟩
theorem makesAt_some {o : Oper} {a : Act} {w : World} {S : Value → World → Prop} (h : Mk2.makesAt P o a w S) : ∃ v w', S v w' ∧ Fr w w' v ∧ Below w.heap.size w w' := by
  unfold Mk2.makesAt at h
  generalize (execOp a.eval o).run P w = r at *
  cases r with
  | ok x w2 =>
    cases x <;> simp only at h
    · exact ⟨_, _, h⟩
    · obtain ⟨e, w', fr, ⟨v, _, h1, h3, h2⟩, _⟩ := h.2 []
      exact ⟨v, w', h1, h3, h2⟩
  | halt x w2 => simp only at h

theorem good_some {o : Oper} {a : Act} {S : Value → World → Prop} {x : Gst} {k : Nat} {w0 : World} (hS : ∀ v, Stays (S v)) (hg : x.good w0) (h : ∀ w, Below w0.heap.size w0 w → (∀ i, x.F i w) → Mk2.makesAt P o a w S) : ∃ v, (x.add k S v).good w0 := by
  obtain ⟨hst, w, hw, hok⟩ := hg
  obtain ⟨v, w', h1, h2, h3⟩ := makesAt_some (h w hw hok.2.2)
  exact ⟨v, Gst.add_st hst (hS v), w', hw.trans (h3.mono hw.size), Gst.add_ok hst hok h1 h2 h3⟩

variable (P ops) in
/-- One operation: wanted or not; a read, or one that makes. -/
def opM (w0 : World) (mk : Nat → Option (Value → World → Prop)) (dep : Nat → List Nat) (j : Nat) (K : Act → Gst → Prop) (a : Act) (G : Gst) : Prop :=
  match ops[j]? with
  | none => False
  | some o => if Region.wanted o (yielded ops a.tmps) = true then
      (match mk j with
      | none => ∃ v, (∀ w, Below w0.heap.size w0 w → plainAt P o a w v) ∧ K (a.put o.dst v) G
      | some S => (∀ w, Below w0.heap.size w0 w → (∀ i ∈ dep j, G.F i w) → Mk2.makesAt P o a w S) ∧ ∀ v, (G.add j S v).good w0 → K (a.put o.dst v) (G.add j S v))
    else K (a.put o.dst undef) G

variable {w0 : World} {mk : Nat → Option (Value → World → Prop)} {dep : Nat → List Nat}
theorem opM_mono {j : Nat} {a : Act} {G : Gst} {K K' : Act → Gst → Prop} (hgd : G.good w0) (h : ∀ a G, G.good w0 → K a G → K' a G) (hh : opM P ops w0 mk dep j K a G) : opM P ops w0 mk dep j K' a G := by
  unfold opM at *
  split at hh
  · exact hh
  · rename_i o ho
    split at hh
    · split at hh
      · obtain ⟨v, h1, h2⟩ := hh
        rename_i hw _ hmk
        simp only [hw, hmk, if_true]
        exact ⟨v, h1, h _ _ hgd h2⟩
      · rename_i hw _ S hmk
        simp only [hw, hmk, if_true]
        exact ⟨hh.1, fun v hv => h _ _ hv (hh.2 v hv)⟩
    · rename_i hw
      simp only [hw]
      exact h _ _ hgd hh
theorem opM_some {j : Nat} {a : Act} {G : Gst} {K : Act → Gst → Prop} (hmk : ∀ j S, mk j = some S → ∀ v, Stays (S v)) (hgd : G.good w0) (hh : opM P ops w0 mk dep j K a G) : ∃ a' G', K a' G' := by
  unfold opM at hh
  split at hh
  · exact hh.elim
  · split at hh
    · split at hh
      · obtain ⟨v, h1, h2⟩ := hh
        exact ⟨_, _, h2⟩
      · rename_i S hS
        obtain ⟨h1, h2⟩ := hh
        obtain ⟨v, h3⟩ := good_some (k := j) (hmk _ _ hS) hgd (fun w hw hF => h1 w hw fun i _ => hF i)
        exact ⟨_, _, h2 v h3⟩
    · exact ⟨_, _, hh⟩

theorem makesAt_put {o : Oper} {a : Act} {w : World} {S : Value → World → Prop} {d : Option Tmp} {u : Value} (h : execOp (a.put d u).eval o = execOp a.eval o) : Mk2.makesAt P o (a.put d u) w S = Mk2.makesAt P o a w S := by unfold Mk2.makesAt; rw [h]

/-- Two operations that are apart may change places. -/
theorem opM_comm {j k : Nat} {oj ok : Oper} (hj : ops[j]? = some oj) (hk : ops[k]? = some ok) (hap : ok.apart ops oj = true) (hsj : ∀ cs b, oj.op ≠ .select cs b) (hsk : ∀ cs b, ok.op ≠ .select cs b) (hmk : ∀ j S, mk j = some S → ∀ v, Stays (S v)) (hdj : k ∉ dep j) (hdk : j ∉ dep k) {X : Act → Gst → Prop} {a : Act} {G : Gst} (hgd : G.good w0)
    (h : opM P ops w0 mk dep k (fun a' G' => opM P ops w0 mk dep j X a' G') a G) : opM P ops w0 mk dep j (fun a' G' => opM P ops w0 mk dep k X a' G') a G := by
  obtain ⟨h1, h2, h3⟩ := Oper.apart_spec hap
  have ej : ∀ u, execOp (a.put ok.dst u).eval oj = execOp a.eval oj := fun u => execOp_put oj hsj a ok.dst u h1
  have ek : ∀ u, execOp (a.put oj.dst u).eval ok = execOp a.eval ok := fun u => execOp_put ok hsk a oj.dst u h3
  have wj : ∀ u, Region.wanted oj (yielded ops (a.put ok.dst u).tmps) = Region.wanted oj (yielded ops a.tmps) := fun u => wanted_put oj a ok.dst u h1
  have wk : ∀ u, Region.wanted ok (yielded ops (a.put oj.dst u).tmps) = Region.wanted ok (yielded ops a.tmps) := fun u => wanted_put ok a oj.dst u h3
  have pc : ∀ u v, (a.put oj.dst u).put ok.dst v = (a.put ok.dst v).put oj.dst u := fun u v => (Act.put_comm a v u h2).symm
  unfold opM at *
  simp only [hj, hk, wj, wk, plainAt_put (ej _), plainAt_put (ek _), makesAt_put (ej _), makesAt_put (ek _), pc] at h ⊢
  by_cases qj : Region.wanted oj (yielded ops a.tmps) = true <;> by_cases qk : Region.wanted ok (yielded ops a.tmps) = true
  · simp only [qj, qk, if_true] at h ⊢
    cases ej' : mk j with
    | none =>
      cases ek' : mk k with
      | none =>
        simp only [ej', ek'] at h ⊢
        obtain ⟨v, hv, u, hu, hX⟩ := h
        exact ⟨u, hu, v, hv, hX⟩
      | some T =>
        simp only [ej', ek'] at h ⊢
        obtain ⟨hv, hall⟩ := h
        obtain ⟨v0, hv0⟩ := good_some (k := k) (hmk _ _ ek') hgd (fun w hw hF => hv w hw fun i _ => hF i)
        obtain ⟨u, hu, _⟩ := hall v0 hv0
        refine ⟨u, hu, hv, fun v hvv => ?_⟩
        obtain ⟨u', hu', hX⟩ := hall v hvv
        rw [plainAt_uniq (hu w0 (Below.refl _ _)) (hu' w0 (Below.refl _ _))]
        exact hX
    | some S =>
      cases ek' : mk k with
      | none =>
        simp only [ej', ek'] at h ⊢
        obtain ⟨v, hv, hm, hall⟩ := h
        exact ⟨hm, fun u hu => ⟨v, hv, hall u hu⟩⟩
      | some T =>
        simp only [ej', ek'] at h ⊢
        obtain ⟨hv, hall⟩ := h
        obtain ⟨v0, hv0⟩ := good_some (k := k) (hmk _ _ ek') hgd (fun w hw hF => hv w hw fun i _ => hF i)
        refine ⟨fun w hw hF => (hall v0 hv0).1 w hw fun i hi => (Gst.F_ne G T v0 (fun e => hdj (by rw [← e]; exact hi)) w).2 (hF i hi), fun u hu => ⟨fun w hw hF => hv w hw fun i hi => (Gst.F_ne G S u (fun e => hdk (by rw [← e]; exact hi)) w).1 (hF i hi), fun v hvv => ?_⟩⟩
        have hvv' := Gst.sub_good hgd.1 (hmk _ _ ek' v) hvv
        rw [Gst.add_comm] at hvv ⊢
        exact (hall v hvv').2 u hvv
  · simp only [qj, qk, if_true, if_false] at h ⊢
    cases ej' : mk j with
    | none =>
      simp only [ej'] at h ⊢
      obtain ⟨u, hu, hX⟩ := h
      exact ⟨u, hu, hX⟩
    | some S =>
      simp only [ej'] at h ⊢
      exact ⟨h.1, fun u hu => h.2 u hu⟩
  · simp only [qj, qk, if_true, if_false] at h ⊢
    cases ek' : mk k with
    | none =>
      simp only [ek'] at h ⊢
      obtain ⟨u, hu, hX⟩ := h
      exact ⟨u, hu, hX⟩
    | some S =>
      simp only [ek'] at h ⊢
      exact ⟨h.1, fun u hu => h.2 u hu⟩
  · simp only [qj, qk, if_false] at h ⊢
    exact h

variable (P md ops) in
def anyM (w0 : World) (mk : Nat → Option (Value → World → Prop)) (dep : Nat → List Nat) (n : Nat) (L : Array Bool → Act → Gst → Prop) : Nat → Array Bool → Act → Gst → Prop
  | 0, listed, a, G => L listed a G
  | f + 1, listed, a, G => Region.ready md ops listed ≠ [] ∧ ∀ j ∈ Region.ready md ops listed, j < n ∧ opM P ops w0 mk dep j (fun a' G' => anyM w0 mk dep n L f (listed.setIfInBounds j true) a' G') a G

theorem anyM_first {n k : Nat} {ok : Oper} {L : Array Bool → Act → Gst → Prop} (hk : ops[k]? = some ok) (hsel : ∀ (j : Nat) (o : Oper) cs b, ops[j]? = some o → o.op ≠ .select cs b)
    (hs : Region.sinkB md ops n = true) (hc : Region.chainB md ops n = true) (hn : n < ops.size) (hkn : k < n)
    (hdone : ∀ listed a G, L listed a G → ∀ j ∈ Region.ready md ops listed, n ≤ j) (hmk : ∀ j S, mk j = some S → ∀ v, Stays (S v))
    (hdep : ∀ (j : Nat) (oj : Oper), ops[j]? = some oj → ok.apart ops oj = true → k ∉ dep j ∧ j ∉ dep k) :
    ∀ (f : Nat) (listed : Array Bool) (a : Act) (G : Gst), G.good w0 → HeadInv md ops n listed →
      (∀ j oj, ops[j]? = some oj → j ≠ k → listed.getD j true = false → (∀ e ∈ oj.after, Region.binds md e = true → e.on ≠ k) → ok.apart ops oj = true) →
      k ∈ Region.ready md ops listed → opM P ops w0 mk dep k (fun a' G' => anyM P ops md w0 mk dep n L f (listed.setIfInBounds k true) a' G') a G → anyM P ops md w0 mk dep n L (f + 1) listed a G := by
  intro f
  induction f with
  | zero =>
    intro listed a G hgd inv _ hr H
    have hun := (mem_ready.1 hr).1
    refine ⟨fun h => (by rw [h] at hr; cases hr), fun j hj => ?_⟩
    have hjn : j < n := by
      rcases Nat.lt_or_ge j n with h | h
      · exact h
      · exact absurd hj (tail_waits hs hc hn inv _ k rfl hkn hun j h)
    refine ⟨hjn, ?_⟩
    by_cases hjk : j = k
    · subst hjk; exact H
    · obtain ⟨a', G', hL⟩ := opM_some hmk hgd H
      have := hdone _ _ _ hL j (ready_mono hj hjk)
      omega
  | succ f ih =>
    intro listed a G hgd inv hfree hr H
    have hun := (mem_ready.1 hr).1
    refine ⟨fun h => (by rw [h] at hr; cases hr), fun j hj => ?_⟩
    have hjn : j < n := by
      rcases Nat.lt_or_ge j n with h | h
      · exact h
      · exact absurd hj (tail_waits hs hc hn inv _ k rfl hkn hun j h)
    refine ⟨hjn, ?_⟩
    by_cases hjk : j = k
    · subst hjk; exact H
    obtain ⟨hjun, oj, hoj, hall⟩ := mem_ready.1 hj
    have hnot : ∀ e ∈ oj.after, Region.binds md e = true → e.on ≠ k := fun e he hb heq => by
      have h1 := hall e he hb
      rw [heq, getD_both hun] at h1
      cases h1
    have hfree' : ∀ k' ok', ops[k']? = some ok' → k' ≠ k → (listed.setIfInBounds j true).getD k' true = false →
        (∀ e ∈ ok'.after, Region.binds md e = true → e.on ≠ k) → ok.apart ops ok' = true := fun k' ok' hk' hkk hun' hno => by
      refine hfree k' ok' hk' hkk ?_ hno
      by_cases hjk' : j = k'
      · subst hjk'; exact hjun
      · rw [getD_set_ne true hjk'] at hun'; exact hun'
    have hap := hfree j oj hoj hjk hjun hnot
    have h1 : opM P ops w0 mk dep k (fun a' G' => opM P ops w0 mk dep j (fun a'' G'' => anyM P ops md w0 mk dep n L f ((listed.setIfInBounds k true).setIfInBounds j true) a'' G'') a' G') a G :=
      opM_mono hgd (fun a' G' _ h => (h.2 j (ready_mono hj hjk)).2) H
    have h2 := opM_comm hoj hk hap (fun cs b => hsel j oj cs b hoj) (fun cs b => hsel k ok cs b hk) hmk (hdep j oj hoj hap).1 (hdep j oj hoj hap).2 hgd h1
    refine opM_mono hgd (fun a' G' hgd' h3 => ih (listed.setIfInBounds j true) a' G' hgd' (inv.set hj hjn) hfree' (ready_mono hr (Ne.symm hjk)) ?_) h2
    rw [Array.setIfInBounds_comm _ _ hjk]
    exact h3

variable (P ops) in
/-- The head, in the order of the text. -/
def wpM (w0 : World) (mk : Nat → Option (Value → World → Prop)) (dep : Nat → List Nat) (Lq : Act → Gst → Prop) : Nat → List Oper → Act → Gst → Prop
  | _, [], a, G => Lq a G
  | k, _ :: l, a, G => opM P ops w0 mk dep k (fun a' G' => wpM w0 mk dep Lq (k + 1) l a' G') a G

theorem anyM_lex {n g : Nat} {Lq : Act → Gst → Prop} (hsel : Region.noSelect ops = true) (hs : Region.sinkB md ops n = true) (hc : Region.chainB md ops n = true) (hn : n < ops.size) (hmk : ∀ j S, mk j = some S → ∀ v, Stays (S v)) (hdep : ∀ (j k : Nat) (oj ok : Oper), ops[j]? = some oj → ops[k]? = some ok → ok.apart ops oj = true → k ∉ dep j ∧ j ∉ dep k) :
    ∀ (l : List Oper) (k : Nat) (listed : Array Bool) (a : Act) (G : Gst), G.good w0 → (∀ j, j < l.length → l[j]? = ops[k + j]?) → k + l.length = n → HeadInv md ops n listed →
    Region.lexHead md ops g l.length k listed = true → wpM P ops w0 mk dep Lq k l a G →
    anyM P ops md w0 mk dep n (fun listed' a' G' => Region.seqB md ops g n listed' = true ∧ Lq a' G') l.length listed a G
  | [], k, listed, a, G, _, _, hk, _, hB, h => by
    have : k = n := by simpa using hk
    subst this
    exact ⟨by simpa [Region.lexHead] using hB, h⟩
  | o :: l, k, listed, a, G, hgd, hl, hk, inv, hB, h => by
    have h0 : ops[k]? = some o := by simpa using (hl 0 (by simp)).symm
    simp only [List.length_cons, Region.lexHead, Bool.and_eq_true] at hB
    obtain ⟨⟨hr, hf⟩, hB'⟩ := hB
    have hkn : k < n := by simp only [List.length_cons] at hk; omega
    have hr' : k ∈ Region.ready md ops listed := by simpa using hr
    refine anyM_first h0 (Region.noSelect_spec hsel) hs hc hn hkn (fun listed' a' G' hL => seqB_ready hL.1) hmk (fun j oj hj hap => hdep j k oj o hj h0 hap) l.length listed a G hgd inv (Region.free_spec h0 hf) hr' ?_
    exact opM_mono hgd (fun a' G' hgd' h' => anyM_lex hsel hs hc hn hmk hdep l (k + 1) _ a' G' hgd' (fun j hj => by have := hl (j + 1) (by simp; omega); simpa [Nat.add_assoc, Nat.add_comm 1 j] using this) (by simp only [List.length_cons] at hk; omega) (inv.set hr' hkn) hB' h') h

theorem wpOp_of_opM {j : Nat} {a : Act} {G : Gst} {K : Act → Gst → Prop} {K' : Act → World → Prop} {Q' : Exit → Act → World → Prop} {w : World} (hmk : ∀ j S, mk j = some S → ∀ v, Stays (S v)) (hG : G.st) (hw : Below w0.heap.size w0 w) (hg : G.ok w)
    (h : ∀ a G w', K a G → G.st → Below w0.heap.size w0 w' → G.ok w' → K' a w') (hh : opM P ops w0 mk dep j K a G) : wpOp P ops Q' j K' a w := by
  unfold opM at hh
  unfold wpOp
  split at hh
  · exact hh.elim
  · rename_i o ho
    simp only [ho]
    split at hh
    · rename_i hwt
      rw [if_pos hwt]
      left
      unfold Oper.wp
      split at hh
      · obtain ⟨v, h1, h2⟩ := hh
        have h3 := h1 w hw
        unfold plainAt at h3
        generalize (execOp a.eval o).run P w = r at *
        cases r with
        | ok x w2 =>
          cases x <;> simp only at h3
          · obtain ⟨rfl, rfl⟩ := h3
            exact h _ _ _ h2 hG hw hg
          · obtain ⟨rfl, rfl⟩ := h3
            exact h _ _ _ h2 hG hw hg
        | halt x w2 => simp only at h3
      · rename_i S hS
        obtain ⟨h1, h2⟩ := hh
        have h3 := h1 w hw (fun i _ => hg.2.2 i)
        have key : ∀ v w', S v w' → Fr w w' v → Below w.heap.size w w' → K' (a.put o.dst v) w' := fun v w' hs hfr hb => by
          have hw' := hw.trans (hb.mono hw.size)
          have hst := Gst.add_st (k := j) hG (hmk _ _ hS v)
          have hok := Gst.add_ok (k := j) hG hg hs hfr hb
          exact h _ _ _ (h2 v ⟨hst, w', hw', hok⟩) hst hw' hok
        unfold Mk2.makesAt at h3
        generalize (execOp a.eval o).run P w = r at *
        cases r with
        | ok x w2 =>
          cases x <;> simp only at h3
          · exact key _ _ h3.1 h3.2.1 h3.2.2
          · obtain ⟨rfl, h4⟩ := h3
            exact h4.mono fun e w'' ⟨v, he, hs, hf, hb⟩ => by subst he; exact key _ _ hs hf hb
        | halt x w2 => simp only at h3
    · rename_i hwt
      rw [if_neg hwt]
      exact h _ _ _ hh hG hw hg

theorem wpAny_of_anyM {n g : Nat} {L : Array Bool → Act → Gst → Prop} {Q' : Exit → Act → World → Prop} (hmk : ∀ j S, mk j = some S → ∀ v, Stays (S v))
    (hL : ∀ listed a G w, L listed a G → G.st → Below w0.heap.size w0 w → G.ok w → wpAny P md ops Q' g listed a w) :
    ∀ (f : Nat) (listed : Array Bool) (a : Act) (G : Gst) (w : World), G.st → Below w0.heap.size w0 w → G.ok w → anyM P ops md w0 mk dep n L f listed a G → wpAny P md ops Q' (f + g) listed a w
  | 0, listed, a, G, w, hS, hw, hg, h => by rw [Nat.zero_add]; exact hL _ _ _ _ h hS hw hg
  | f + 1, listed, a, G, w, hS, hw, hg, h => by
    rw [show f + 1 + g = (f + g) + 1 by omega]
    exact ⟨fun h0 => absurd h0 h.1, fun j hj => wpOp_of_opM hmk hS hw hg (fun a' G' w' h' hS' hw' hg' => wpAny_of_anyM hmk hL f _ a' G' w' hS' hw' hg' h') (h.2 j hj).2⟩

/-- Who leans on another may not change places with it. -/
def depB (ops : Array Oper) (dep : Nat → List Nat) : Bool := (List.range ops.size).all fun j => (dep j).all fun k => match ops[j]?, ops[k]? with
  | some oj, some ok => !ok.apart ops oj && !oj.apart ops ok
  | _, _ => true
theorem depB_spec {ops : Array Oper} {dep : Nat → List Nat} (h : depB ops dep = true) (j k : Nat) (oj ok : Oper) (hj : ops[j]? = some oj) (hk : ops[k]? = some ok) (hap : ok.apart ops oj = true) : k ∉ dep j ∧ j ∉ dep k := by
  have key : ∀ (j k : Nat) (oj ok : Oper), ops[j]? = some oj → ops[k]? = some ok → k ∈ dep j → ok.apart ops oj = false ∧ oj.apart ops ok = false := by
    intro j k oj ok hj hk hd
    have h1 := List.all_eq_true.1 h j (by simpa using (Array.getElem?_eq_some_iff.1 hj).1)
    have h2 := List.all_eq_true.1 h1 k hd
    simpa [hj, hk] using h2
  refine ⟨fun hd => ?_, fun hd => ?_⟩
  · have := (key j k oj ok hj hk hd).1
    rw [this] at hap
    cases hap
  · have := (key k j ok oj hk hj hd).2
    rw [this] at hap
    cases hap

/-- Reads and makers, then a tail. -/
theorem wp_region_mk_tail {id : Nat} {Q : Exit → Act → World → Prop} {a : Act} {w : World} {l : List Oper} (n : Nat) (mk : Nat → Option (Value → World → Prop)) (dep : Nat → List Nat) (hm : P.follows .mixedOrders = true) (hB : Region.lexTailB .any l.toArray n = true) (hdepB : depB l.toArray dep = true) (hmk : ∀ j S, mk j = some S → ∀ v, Stays (S v))
    (h : wpM P l.toArray w mk dep (fun a' G => ∀ w', Below w.heap.size w w' → G.G w' → wpList P l.toArray Q (l.drop n) a' w') 0 (l.take n) a ⟨fun _ => True, fun _ => False, fun _ _ => True⟩) : (Code.region id l.toArray true).wp P Q a w := by
  simp only [Region.lexTailB, Bool.and_eq_true, decide_eq_true_eq] at hB
  obtain ⟨⟨⟨⟨hsel, hn⟩, hs⟩, hc⟩, hlex⟩ := hB
  have hn' : n < l.length := by simpa using hn
  have htl : (l.take n).length = n := by simp; omega
  have hdl : (l.drop n).length = l.toArray.size - n := by simp
  have inv0 : HeadInv .any l.toArray n (Array.replicate l.toArray.size false) :=
    ⟨by simp, fun j oj _ hl => (by rw [getD_replicate_false] at hl; cases hl), fun t _ ht => getD_in (by simpa using ht) (getD_replicate_false _ _)⟩
  have H := anyM_lex (P := P) (w0 := w) (mk := mk) (dep := dep) (md := .any) (g := l.toArray.size - n) hsel hs hc hn hmk (depB_spec hdepB) (l.take n) 0 _ a ⟨fun _ => True, fun _ => False, fun _ _ => True⟩ ⟨⟨fun _ _ _ _ => trivial, fun _ _ _ _ _ => trivial⟩, w, Below.refl _ _, trivial, fun _ h => False.elim h, fun _ => trivial⟩ (fun j hj => by
    have hj' : j < n := by rw [htl] at hj; exact hj
    simp [hj']) (by simpa using htl) inv0 (by rw [htl]; exact hlex) h
  refine wp_region_any hm ?_
  have hd : Below w.heap.size w w.drew := bdrewN (Below.refl _ _) 1
  have := wpAny_of_anyM (Q' := Q) (g := l.toArray.size - n) hmk (fun listed a' G w' hL hS hw' hg => by
    have := wpAny_of_seq' (P := P) (md := .any) (Q' := Q) (l.drop n) n listed a' w' (fun j => by simp [List.getElem?_drop]) (by rw [hdl]; exact hL.1) (hL.2 w' hw' hg.1)
    rwa [hdl] at this) _ _ _ _ w.drew ⟨fun _ _ _ _ => trivial, fun _ _ _ _ _ => trivial⟩ hd ⟨trivial, fun _ h => False.elim h, fun _ => trivial⟩ H
  rw [htl, show n + (l.toArray.size - n) = l.toArray.size by omega] at this
  exact this

theorem wpM_nil {Lq : Act → Gst → Prop} {k : Nat} {a : Act} {G : Gst} (h : Lq a G) : wpM P ops w0 mk dep Lq k [] a G := h
/-- One that makes. -/
theorem wpM_make {Lq : Act → Gst → Prop} {k : Nat} {o : Oper} {l : List Oper} {a : Act} {G : Gst} {S : Value → World → Prop} (ho : ops[k]? = some o) (hg : o.guard = none) (hmk : mk k = some S) (h1 : ∀ w, Below w0.heap.size w0 w → (∀ i ∈ dep k, G.F i w) → Mk2.makesAt P o a w S)
    (h2 : ∀ v, (G.add k S v).good w0 → wpM P ops w0 mk dep Lq (k + 1) l (a.put o.dst v) (G.add k S v)) : wpM P ops w0 mk dep Lq k (o :: l) a G := by
  show opM P ops w0 mk dep k (fun a' G' => wpM P ops w0 mk dep Lq (k + 1) l a' G') a G
  unfold opM
  have hw : Region.wanted o (yielded ops a.tmps) = true := by simp [Region.wanted, hg]
  simp only [ho, hw, hmk, if_true]
  exact ⟨h1, h2⟩
/-- A run of reads at once. -/
theorem wpM_reads {Lq : Act → Gst → Prop} : ∀ (l1 l2 : List Oper) (k : Nat) (a : Act) (G : Gst), plainB l1 = true → (∀ j, j < l1.length → l1[j]? = ops[k + j]? ∧ mk (k + j) = none) →
    wpQuiet P ops (fun w' => ∃ x : Later w0, w' = x.w) (fun a' => wpM P ops w0 mk dep Lq (k + l1.length) l2 a' G) l1 a → wpM P ops w0 mk dep Lq k (l1 ++ l2) a G
  | [], l2, k, a, G, _, _, h => h
  | o :: l1, l2, k, a, G, hp, hl, h => by
    simp only [plainB, List.all_cons, Bool.and_eq_true] at hp
    obtain ⟨hk, hmk⟩ := hl 0 (by simp)
    rw [Nat.add_zero] at hk hmk
    simp only [List.getElem?_cons_zero] at hk
    have hrec : ∀ a', wpQuiet P ops (fun w' => ∃ x : Later w0, w' = x.w) (fun a' => wpM P ops w0 mk dep Lq (k + (o :: l1).length) l2 a' G) l1 a' → wpM P ops w0 mk dep Lq (k + 1) (l1 ++ l2) a' G := fun a' h' =>
      wpM_reads l1 l2 (k + 1) a' G hp.2 (fun j hj => by have := hl (j + 1) (by simp; omega); simpa [Nat.add_assoc, Nat.add_comm 1 j] using this) (by rw [List.length_cons] at h'; rw [show k + 1 + l1.length = k + (l1.length + 1) by omega]; exact h')
    show opM P ops w0 mk dep k (fun a' G' => wpM P ops w0 mk dep Lq (k + 1) (l1 ++ l2) a' G') a G
    unfold opM
    rw [← hk]
    simp only [hmk]
    unfold wpQuiet at h
    by_cases hw : Region.wanted o (yielded ops a.tmps) = true
    · rw [if_pos hw] at h ⊢
      obtain ⟨v, h1, h2⟩ := h
      refine ⟨v, fun w' hb => ?_, hrec _ h2⟩
      have h3 := h1 w' ⟨⟨w', hb⟩, rfl⟩
      have hne := plain_enter (P := P) (ρ := a.eval) (w := w') hp.1
      unfold Oper.quietAt at h3
      unfold plainAt
      generalize (execOp a.eval o).run P w' = r at *
      cases r with
      | ok x w2 =>
        cases x <;> simp only [Oper.quietUpon] at h3 ⊢ <;> first | exact h3 | skip
        exact absurd rfl (hne _ _ _)
      | halt x w2 => exact h3
    · rw [if_neg hw] at h ⊢
      exact hrec _ h
end

end Go.Proofs.Ytbdjmaogbpdkpaa.Mk3

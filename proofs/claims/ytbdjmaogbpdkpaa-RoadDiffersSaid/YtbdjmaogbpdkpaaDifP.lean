import Derived.Test.YtbdjmaogbpdkpaaNrmP
/-
  Two surveys side by side: the stretches on which neither has a new piece, and meter by meter: plain law.
-/
namespace Go.Proofs.Ytbdjmaogbpdkpaa
open Go Go.RowKit Go.Shelf
set_option linter.unusedVariables false
set_option linter.unusedSimpArgs false

structure St where
  fr : Int
  to_ : Int
  p : Pc
  q : Pc

/-- The stretches from the pieces i and j on. -/
def strF (ps qs : List Pc) : Nat → Nat → Nat → Int → List St
  | 0, _, _, _ => []
  | n + 1, i, j, fr =>
    match ps[i]?, qs[j]? with
    | some p, some q =>
      ⟨fr, min (lenSum (ps.take (i + 1))) (lenSum (qs.take (j + 1))), p, q⟩ :: strF ps qs n (if lenSum (ps.take (i + 1)) = min (lenSum (ps.take (i + 1))) (lenSum (qs.take (j + 1))) then i + 1 else i) (if lenSum (qs.take (j + 1)) = min (lenSum (ps.take (i + 1))) (lenSum (qs.take (j + 1))) then j + 1 else j) (min (lenSum (ps.take (i + 1))) (lenSum (qs.take (j + 1))))
    | _, _ => []
def strs (ps qs : List Pc) : List St := strF ps qs (ps.length + qs.length) 0 0 0

structure SInv (ps qs : List Pc) (i j : Nat) (fr : Int) : Prop where
  li : i ≤ ps.length
  lj : j ≤ qs.length
  ai : lenSum (ps.take i) ≤ fr
  bj : lenSum (qs.take j) ≤ fr
  ft : fr ≤ lenSum ps
  ei : i < ps.length → fr < lenSum (ps.take (i + 1))
  ej : j < qs.length → fr < lenSum (qs.take (j + 1))
  f0 : 0 ≤ fr

theorem take_le_sum (ps : List Pc) (hp : ∀ p ∈ ps, 1 ≤ p.len) (k : Nat) : lenSum (ps.take k) ≤ lenSum ps := by
  have h1 := lenSum_drop ps k
  have h2 := lenSum_pos (ps.drop k) (fun p h => by have := hp p (List.mem_of_mem_drop h); omega)
  omega
theorem SInv.zero (ps qs : List Pc) (hp : ∀ p ∈ ps, 1 ≤ p.len) (hq : ∀ p ∈ qs, 1 ≤ p.len) : SInv ps qs 0 0 0 := by
  have e : lenSum [] = 0 := rfl
  refine ⟨Nat.zero_le _, Nat.zero_le _, by simp [e], by simp [e], lenSum_pos ps (fun p h => by have := hp p h; omega), fun h => ?_, fun h => ?_, Int.le_refl _⟩
  · obtain ⟨x, hx⟩ := getElem?_ex h
    rw [lenSum_take_succ ps 0 x hx]
    have := hp x (List.mem_of_getElem? hx)
    simp [e]
    omega
  · obtain ⟨x, hx⟩ := getElem?_ex h
    rw [lenSum_take_succ qs 0 x hx]
    have := hq x (List.mem_of_getElem? hx)
    simp [e]
    omega
theorem SInv.j_lt {ps qs : List Pc} {i j : Nat} {fr : Int} (h : SInv ps qs i j fr) (hp : ∀ p ∈ ps, 1 ≤ p.len) (ht : lenSum ps = lenSum qs) (hi : i < ps.length) : j < qs.length := by
  rcases Nat.lt_or_ge j qs.length with hj | hj
  · exact hj
  · have h1 := h.ei hi
    have h2 := take_le_sum ps hp (i + 1)
    have h3 := h.bj
    rw [List.take_of_length_le hj] at h3
    omega
/-- One step on. -/
theorem SInv.next {ps qs : List Pc} {i j : Nat} {fr : Int} (h : SInv ps qs i j fr) (hp : ∀ p ∈ ps, 1 ≤ p.len) (hq : ∀ p ∈ qs, 1 ≤ p.len) (ht : lenSum ps = lenSum qs) (hi : i < ps.length) (to_ : Int) (hto : to_ = min (lenSum (ps.take (i + 1))) (lenSum (qs.take (j + 1)))) :
    fr < to_ ∧ SInv ps qs (if lenSum (ps.take (i + 1)) = to_ then i + 1 else i) (if lenSum (qs.take (j + 1)) = to_ then j + 1 else j) to_ := by
  have hj := h.j_lt hp ht hi
  have h1 := h.ei hi
  have h2 := h.ej hj
  have h3 := take_le_sum ps hp (i + 1)
  have hf : fr < to_ := by omega
  have ha := h.ai
  have hb := h.bj
  have h0 := h.f0
  have nextA : ∀ (l : List Pc) (k : Nat), (∀ p ∈ l, 1 ≤ p.len) → k + 1 < l.length → lenSum (l.take (k + 1)) < lenSum (l.take (k + 1 + 1)) := by
    intro l k hl hk
    obtain ⟨x, hx⟩ := getElem?_ex hk
    rw [lenSum_take_succ l (k + 1) x hx]
    have := hl x (List.mem_of_getElem? hx)
    omega
  refine ⟨hf, ?_, ?_, ?_, ?_, by omega, ?_, ?_, by omega⟩
  · split <;> omega
  · split <;> omega
  · split
    · omega
    · omega
  · split
    · omega
    · omega
  · split
    · intro hk
      have := nextA ps i hp hk
      omega
    · intro hk
      omega
  · split
    · intro hk
      have := nextA qs j hq hk
      omega
    · intro hk
      omega
theorem strF_step {ps qs : List Pc} {n i j : Nat} {fr : Int} {p q : Pc} (hp : ps[i]? = some p) (hq : qs[j]? = some q) (to_ : Int) (hto : to_ = min (lenSum (ps.take (i + 1))) (lenSum (qs.take (j + 1)))) :
    strF ps qs (n + 1) i j fr = ⟨fr, to_, p, q⟩ :: strF ps qs n (if lenSum (ps.take (i + 1)) = to_ then i + 1 else i) (if lenSum (qs.take (j + 1)) = to_ then j + 1 else j) to_ := by
  subst hto
  show (match ps[i]?, qs[j]? with | some p, some q => _ | _, _ => _) = _
  rw [hp, hq]
theorem strF_end {ps qs : List Pc} {n i j : Nat} {fr : Int} (hi : ps.length ≤ i) : strF ps qs n i j fr = [] := by
  cases n with
  | zero => rfl
  | succ n =>
    show (match ps[i]?, qs[j]? with | some p, some q => _ | _, _ => _) = _
    rw [List.getElem?_eq_none hi]

/-- Meter by meter. -/
def unitF {β : Type} (f : β → Int → Int → Pc → Pc → β) (ps qs : List Pc) : Nat → Int → β → β
  | 0, _, acc => acc
  | m + 1, x, acc => unitF f ps qs m (x + 1) (f acc x (x + 1) (atP ps x) (atP qs x))
theorem unitF_succ {β : Type} (f : β → Int → Int → Pc → Pc → β) (ps qs : List Pc) : ∀ (m : Nat) (x : Int) (acc : β), unitF f ps qs (m + 1) x acc = f (unitF f ps qs m x acc) (x + m) (x + m + 1) (atP ps (x + m)) (atP qs (x + m)) := by
  intro m
  induction m with
  | zero => intro x acc; simp [unitF]
  | succ m ih =>
    intro x acc
    rw [unitF, ih, unitF]
    have e : x + 1 + (m : Int) = x + ((m + 1 : Nat) : Int) := by omega
    rw [e]
theorem unitF_add {β : Type} (f : β → Int → Int → Pc → Pc → β) (ps qs : List Pc) : ∀ (m k : Nat) (x : Int) (acc : β), unitF f ps qs (m + k) x acc = unitF f ps qs k (x + m) (unitF f ps qs m x acc) := by
  intro m
  induction m with
  | zero => intro k x acc; simp [unitF]
  | succ m ih =>
    intro k x acc
    rw [show m + 1 + k = (m + k) + 1 by omega, unitF, ih, unitF]
    have e : x + 1 + (m : Int) = x + ((m + 1 : Nat) : Int) := by omega
    rw [e]
def Splits {β : Type} (f : β → Int → Int → Pc → Pc → β) : Prop := ∀ acc x m b p q, x < m → m < b → f (f acc x m p q) m b p q = f acc x b p q
theorem unit_block {β : Type} {f : β → Int → Int → Pc → Pc → β} (hf : Splits f) (ps qs : List Pc) (p q : Pc) : ∀ (m : Nat) (x : Int) (acc : β), (∀ y, x ≤ y → y < x + (m + 1 : Nat) → atP ps y = p ∧ atP qs y = q) → unitF f ps qs (m + 1) x acc = f acc x (x + (m + 1 : Nat)) p q := by
  intro m
  induction m with
  | zero =>
    intro x acc h
    obtain ⟨h1, h2⟩ := h x (Int.le_refl _) (by omega)
    simp [unitF, h1, h2]
  | succ m ih =>
    intro x acc h
    obtain ⟨h1, h2⟩ := h x (Int.le_refl _) (by omega)
    rw [unitF, ih (x + 1) _ (fun y hy1 hy2 => h y (by omega) (by omega)), h1, h2, hf _ _ _ _ _ _ (by omega) (by omega)]
    congr 1
    omega
theorem fold_strF {β : Type} {f : β → Int → Int → Pc → Pc → β} (hf : Splits f) (ps qs : List Pc) (hp : ∀ p ∈ ps, 1 ≤ p.len) (hq : ∀ p ∈ qs, 1 ≤ p.len) (ht : lenSum ps = lenSum qs) : ∀ (n i j : Nat) (fr : Int) (acc : β), SInv ps qs i j fr → (ps.length - i) + (qs.length - j) ≤ n →
    (strF ps qs n i j fr).foldl (fun a s => f a s.fr s.to_ s.p s.q) acc = unitF f ps qs (lenSum ps - fr).toNat fr acc := by
  intro n
  induction n with
  | zero =>
    intro i j fr acc h hn
    have hi := h.li
    have h1 := h.ai
    rw [List.take_of_length_le (by omega)] at h1
    have h2 := h.ft
    have e : (lenSum ps - fr).toNat = 0 := by omega
    rw [e]
    rfl
  | succ n ih =>
    intro i j fr acc h hn
    rcases Nat.lt_or_ge i ps.length with hi | hi
    · have hj := h.j_lt hp ht hi
      obtain ⟨p, hpi⟩ := getElem?_ex hi
      obtain ⟨q, hqj⟩ := getElem?_ex hj
      obtain ⟨to_, hto⟩ : ∃ t, t = min (lenSum (ps.take (i + 1))) (lenSum (qs.take (j + 1))) := ⟨_, rfl⟩
      obtain ⟨hlt, hnx⟩ := h.next hp hq ht hi to_ hto
      rw [strF_step hpi hqj to_ hto, List.foldl_cons, ih _ _ _ _ hnx (by
        have hor : lenSum (ps.take (i + 1)) = to_ ∨ lenSum (qs.take (j + 1)) = to_ := by omega
        rcases hor with e | e
        · rw [if_pos e]
          split <;> omega
        · rw [if_pos e]
          split <;> omega)]
      have h2 := hnx.ft
      obtain ⟨m, hm⟩ : ∃ m : Nat, to_ = fr + (m + 1 : Nat) := ⟨(to_ - fr).toNat - 1, by omega⟩
      have e : (lenSum ps - fr).toNat = (m + 1) + (lenSum ps - to_).toNat := by omega
      rw [e, unitF_add, unit_block hf ps qs p q m fr acc, hm]
      intro y hy1 hy2
      have ha := h.ai
      have hb := h.bj
      exact ⟨atP_find ps y i p (fun x hx => by have := hp x hx; omega) ⟨hi, by omega, by omega⟩ hpi, atP_find qs y j q (fun x hx => by have := hq x hx; omega) ⟨hj, by omega, by omega⟩ hqj⟩
    · have h1 := h.ai
      rw [List.take_of_length_le hi] at h1
      have h2 := h.ft
      have e : (lenSum ps - fr).toNat = 0 := by omega
      rw [strF_end hi, e]
      rfl
theorem fold_strs {β : Type} {f : β → Int → Int → Pc → Pc → β} (hf : Splits f) (ps qs : List Pc) (hp : ∀ p ∈ ps, 1 ≤ p.len) (hq : ∀ p ∈ qs, 1 ≤ p.len) (ht : lenSum ps = lenSum qs) (acc : β) :
    (strs ps qs).foldl (fun a s => f a s.fr s.to_ s.p s.q) acc = unitF f ps qs (lenSum ps).toNat 0 acc := by
  have := fold_strF hf ps qs hp hq ht (ps.length + qs.length) 0 0 0 acc (SInv.zero ps qs hp hq) (by omega)
  rw [Int.sub_zero] at this
  exact this

/-- Where a walk over the stretches stands. -/
structure SAt (ps qs : List Pc) (k i j : Nat) (fr : Int) : Prop where
  inv : SInv ps qs i j fr
  ex : ∃ n, (strs ps qs).drop k = strF ps qs n i j fr ∧ (ps.length - i) + (qs.length - j) ≤ n ∧ k ≤ (strs ps qs).length
theorem SAt.zero (ps qs : List Pc) (hp : ∀ p ∈ ps, 1 ≤ p.len) (hq : ∀ p ∈ qs, 1 ≤ p.len) : SAt ps qs 0 0 0 0 := ⟨SInv.zero ps qs hp hq, _, rfl, by omega, Nat.zero_le _⟩
theorem SAt.next {ps qs : List Pc} {k i j : Nat} {fr : Int} (h : SAt ps qs k i j fr) (hp : ∀ p ∈ ps, 1 ≤ p.len) (hq : ∀ p ∈ qs, 1 ≤ p.len) (ht : lenSum ps = lenSum qs) (hi : i < ps.length) {p q : Pc} (hpi : ps[i]? = some p) (hqj : qs[j]? = some q) (to_ : Int) (hto : to_ = min (lenSum (ps.take (i + 1))) (lenSum (qs.take (j + 1)))) :
    fr < to_ ∧ (strs ps qs)[k]? = some ⟨fr, to_, p, q⟩ ∧ SAt ps qs (k + 1) (if lenSum (ps.take (i + 1)) = to_ then i + 1 else i) (if lenSum (qs.take (j + 1)) = to_ then j + 1 else j) to_ := by
  obtain ⟨hinv, n, hd, hn, hk⟩ := h
  obtain ⟨hlt, hnx⟩ := hinv.next hp hq ht hi to_ hto
  cases n with
  | zero => omega
  | succ n =>
    rw [strF_step hpi hqj to_ hto] at hd
    have hk2 : (strs ps qs)[k]? = some ⟨fr, to_, p, q⟩ := by
      have := congrArg (fun l => l[0]?) hd
      simpa using this
    refine ⟨hlt, hk2, hnx, n, ?_, ?_, ?_⟩
    · have := congrArg (fun l => l.drop 1) hd
      simpa [List.drop_drop, Nat.add_comm] using this
    · have hj := hinv.j_lt hp ht hi
      have hor : lenSum (ps.take (i + 1)) = to_ ∨ lenSum (qs.take (j + 1)) = to_ := by omega
      rcases hor with e | e
      · rw [if_pos e]
        split <;> omega
      · rw [if_pos e]
        split <;> omega
    · have := (List.getElem?_eq_some_iff.1 hk2).1
      omega
theorem SAt.done {ps qs : List Pc} {k i j : Nat} {fr : Int} (h : SAt ps qs k i j fr) (hi : ps.length ≤ i) : k = (strs ps qs).length := by
  obtain ⟨hinv, n, hd, hn, hk⟩ := h
  rw [strF_end hi] at hd
  have := List.drop_eq_nil_iff.1 hd
  omega
theorem SAt.k_le {ps qs : List Pc} {k i j : Nat} {fr : Int} (h : SAt ps qs k i j fr) : k ≤ (strs ps qs).length := by
  obtain ⟨hinv, n, hd, hn, hk⟩ := h
  exact hk
theorem strF_len (ps qs : List Pc) : ∀ (n i j : Nat) (fr : Int), (strF ps qs n i j fr).length ≤ n := by
  intro n
  induction n with
  | zero => intro i j fr; simp [strF]
  | succ n ih =>
    intro i j fr
    show (match ps[i]?, qs[j]? with | some p, some q => _ | _, _ => _ : List St).length ≤ n + 1
    split
    · simp only [List.length_cons]
      have := ih (if lenSum (ps.take (i + 1)) = min (lenSum (ps.take (i + 1))) (lenSum (qs.take (j + 1))) then i + 1 else i) (if lenSum (qs.take (j + 1)) = min (lenSum (ps.take (i + 1))) (lenSum (qs.take (j + 1))) then j + 1 else j) (min (lenSum (ps.take (i + 1))) (lenSum (qs.take (j + 1))))
      omega
    · simp
theorem strs_len (ps qs : List Pc) : (strs ps qs).length ≤ ps.length + qs.length := strF_len ps qs _ 0 0 0
/-- What holds of each stretch. -/
theorem strF_mem (ps qs : List Pc) (hp : ∀ p ∈ ps, 1 ≤ p.len) (hq : ∀ p ∈ qs, 1 ≤ p.len) (ht : lenSum ps = lenSum qs) : ∀ (n i j : Nat) (fr : Int), SInv ps qs i j fr → ∀ s ∈ strF ps qs n i j fr, 0 ≤ s.fr ∧ s.fr < s.to_ ∧ s.to_ ≤ lenSum ps ∧ s.p ∈ ps ∧ s.q ∈ qs ∧ s.to_ - s.fr ≤ s.p.len := by
  intro n
  induction n with
  | zero => intro i j fr _ s hs; simp [strF] at hs
  | succ n ih =>
    intro i j fr h s hs
    rcases Nat.lt_or_ge i ps.length with hi | hi
    · have hj := h.j_lt hp ht hi
      obtain ⟨p, hpi⟩ := getElem?_ex hi
      obtain ⟨q, hqj⟩ := getElem?_ex hj
      obtain ⟨to_, hto⟩ : ∃ t, t = min (lenSum (ps.take (i + 1))) (lenSum (qs.take (j + 1))) := ⟨_, rfl⟩
      obtain ⟨hlt, hnx⟩ := h.next hp hq ht hi to_ hto
      rw [strF_step hpi hqj to_ hto] at hs
      rcases List.mem_cons.1 hs with rfl | hs
      · have h1 := h.ai
        rw [lenSum_take_succ ps i p hpi] at hto
        exact ⟨h.f0, hlt, hnx.ft, List.mem_of_getElem? hpi, List.mem_of_getElem? hqj, by dsimp only; omega⟩
      · exact ih _ _ _ hnx s hs
    · rw [strF_end hi] at hs
      simp at hs
theorem strs_mem (ps qs : List Pc) (hp : ∀ p ∈ ps, 1 ≤ p.len) (hq : ∀ p ∈ qs, 1 ≤ p.len) (ht : lenSum ps = lenSum qs) : ∀ s ∈ strs ps qs, 0 ≤ s.fr ∧ s.fr < s.to_ ∧ s.to_ ≤ lenSum ps ∧ s.p ∈ ps ∧ s.q ∈ qs ∧ s.to_ - s.fr ≤ s.p.len :=
  strF_mem ps qs hp hq ht _ 0 0 0 (SInv.zero ps qs hp hq)

/-! ### Where they differ -/
structure Df where
  fr : Int
  to_ : Int
def dfV (d : Df) : List Value := [.int .i64 d.fr, .int .i64 d.to_]
theorem dfV_len (d : Df) : (dfV d).length = 2 := rfl
def dadd (a : List Df) (fr to_ : Int) : List Df :=
  match a.getLast? with
  | none => [⟨fr, to_⟩]
  | some l => if l.to_ = fr then a.dropLast ++ [⟨l.fr, to_⟩] else a ++ [⟨fr, to_⟩]
theorem dadd_same (a : List Df) (l : Df) (fr to_ : Int) (h : l.to_ = fr) : dadd (a ++ [l]) fr to_ = a ++ [⟨l.fr, to_⟩] := by simp [dadd, h]
theorem dadd_new (a : List Df) (l : Df) (fr to_ : Int) (h : ¬ l.to_ = fr) : dadd (a ++ [l]) fr to_ = a ++ [l] ++ [⟨fr, to_⟩] := by simp [dadd, h]
theorem dadd_len (a : List Df) (fr to_ : Int) : (dadd a fr to_).length ≤ a.length + 1 := by
  rcases a.eq_nil_or_concat with rfl | ⟨a', l, rfl⟩
  · simp [dadd]
  · rw [List.concat_eq_append]
    by_cases h : l.to_ = fr
    · rw [dadd_same _ _ _ _ h]; simp
    · rw [dadd_new _ _ _ _ h]; simp
theorem dadd_split (a : List Df) (x m b : Int) : dadd (dadd a x m) m b = dadd a x b := by
  rcases a.eq_nil_or_concat with rfl | ⟨a', l, rfl⟩
  · simp [dadd]
  · rw [List.concat_eq_append]
    by_cases h : l.to_ = x
    · rw [dadd_same _ _ _ _ h, dadd_same _ _ _ _ rfl, dadd_same _ _ _ _ h]
    · rw [dadd_new _ _ _ _ h, dadd_same _ _ _ _ rfl, dadd_new _ _ _ _ h]
/-- The two pieces do not differ by more than is borne. -/
def sameT (tol : Int) (p q : Pc) : Bool := decide (p.turn = q.turn) && inB (p.rad - q.rad) (-tol) tol && decide (p.wid = q.wid) && decide (p.sur = q.sur)
def dstep (tol : Int) (a : List Df) (fr to_ : Int) (p q : Pc) : List Df := if sameT tol p q = true then a else dadd a fr to_
theorem dstep_split (tol : Int) : Splits (dstep tol) := by
  intro acc x m b p q _ _
  unfold dstep
  by_cases h : sameT tol p q = true
  · simp [h]
  · simp only [h]
    exact dadd_split acc x m b
theorem dstep_len (tol : Int) (a : List Df) (fr to_ : Int) (p q : Pc) : (dstep tol a fr to_ p q).length ≤ a.length + 1 := by
  unfold dstep
  split
  · omega
  · exact dadd_len a fr to_
/-- The differences of two surveys. -/
def cmpL (tol : Int) (ps qs : List Pc) : List Df := unitF (dstep tol) ps qs (lenSum ps).toNat 0 []
theorem cmpL_strs (tol : Int) (ps qs : List Pc) (hp : ∀ p ∈ ps, 1 ≤ p.len) (hq : ∀ p ∈ qs, 1 ≤ p.len) (ht : lenSum ps = lenSum qs) : (strs ps qs).foldl (fun a s => dstep tol a s.fr s.to_ s.p s.q) [] = cmpL tol ps qs :=
  fold_strs (dstep_split tol) ps qs hp hq ht []
theorem sameT_self (p : Pc) : sameT 0 p p = true := by simp [sameT, inB]
theorem cmpL_self (ps : List Pc) : cmpL 0 ps ps = [] := by
  unfold cmpL
  suffices h : ∀ (m : Nat) (x : Int), unitF (dstep 0) ps ps m x [] = [] from h _ _
  intro m
  induction m with
  | zero => intro x; rfl
  | succ m ih =>
    intro x
    rw [unitF]
    have e : dstep 0 [] x (x + 1) (atP ps x) (atP ps x) = [] := by
      unfold dstep
      rw [if_pos (sameT_self _)]
    rw [e, ih]
theorem unitF_len (tol : Int) (ps qs : List Pc) : ∀ (m : Nat) (x : Int) (acc : List Df), (unitF (dstep tol) ps qs m x acc).length ≤ acc.length + m := by
  intro m
  induction m with
  | zero => intro x acc; simp [unitF]
  | succ m ih =>
    intro x acc
    rw [unitF]
    have h1 := ih (x + 1) (dstep tol acc x (x + 1) (atP ps x) (atP qs x))
    have h2 := dstep_len tol acc x (x + 1) (atP ps x) (atP qs x)
    omega
theorem unitF_ends (tol : Int) (ps qs : List Pc) : ∀ (m : Nat) (x : Int), 0 ≤ x → ∀ (acc : List Df), (∀ d ∈ acc, 0 ≤ d.fr ∧ d.fr ≤ d.to_ ∧ d.to_ ≤ x) → ∀ d ∈ unitF (dstep tol) ps qs m x acc, 0 ≤ d.fr ∧ d.fr ≤ d.to_ ∧ d.to_ ≤ x + m := by
  intro m
  induction m with
  | zero => intro x _ acc h d hd; have := h d hd; omega
  | succ m ih =>
    intro x hx acc h d hd
    rw [unitF] at hd
    have := ih (x + 1) (by omega) _ (fun e he => by
      unfold dstep at he
      split at he
      · have := h e he; omega
      · rcases acc.eq_nil_or_concat with rfl | ⟨a', l, rfl⟩
        · obtain rfl : e = _ := by simpa [dadd] using he
          dsimp only
          omega
        · rw [List.concat_eq_append] at he h
          have hl := h l (by simp)
          by_cases hc : l.to_ = x
          · rw [dadd_same _ _ _ _ hc] at he
            rcases List.mem_append.1 he with he | he
            · have := h e (by simp [he]); omega
            · obtain rfl : e = _ := by simpa using he
              dsimp only
              omega
          · rw [dadd_new _ _ _ _ hc] at he
            rcases List.mem_append.1 he with he | he
            · have := h e he; omega
            · obtain rfl : e = _ := by simpa using he
              dsimp only
              omega) d hd
    omega

end Go.Proofs.Ytbdjmaogbpdkpaa

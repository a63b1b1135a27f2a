import Derived.Test.YtbdjmaogbpdkpaaProg
import Derived.WalkKit
import Derived.WalkSpells
import Derived.WalkLawsBesides
import Derived.IntWalk
import Derived.BigQuiet
import Derived.Deep.QuietTactic
namespace Go.Proofs.Ytbdjmaogbpdkpaa
open Go.RowKit

theorem pw_below_drewN {B : Nat} {w W : World} (h : Below B w W) (n : Nat) : Below B w (W.drewN n) := ⟨h.os, h.tape, h.output, h.size, h.block⟩
theorem quiet_left {P : Program} {f : FuncId} {args : Array Value} {w : World} {n : Nat} {v : Value}
    (h : Calls P f args (w.drewN n) fun e w' => e = .returned v ∧ w.drewN n = w') : Calls P f args (w.drewN n) fun e w'' => e = .returned v ∧ ∃ m, w'' = w.drewN m :=
  h.mono fun _ _ ⟨he, hm⟩ => ⟨he, n, hm.symm⟩
theorem quiet_add_left {P : Program} {f : FuncId} {args : Array Value} {w : World} {a n : Nat} {v : Value}
    (h : Calls P f args (w.drewN (a + n)) fun e w' => e = .returned v ∧ w.drewN (a + n) = w') :
    Calls P f args (w.drewN (a + n)) fun e w'' => e = .returned v ∧ ∃ m, w'' = w.drewN (a + m) :=
  h.mono fun _ _ ⟨he, hm⟩ => ⟨he, n, hm.symm⟩

def inB (a b c : Int) : Bool := decide (b ≤ a) && decide (a ≤ c)

set_option maxHeartbeats 400000 in
theorem in_any (a b c : Int) (w : World) :
    Calls Try.prog 50 #[.int .i64 a, .int .i64 b, .int .i64 c] w fun e w' => e = .returned (.bool (inB a b c)) ∧ w = w' := by
  by_cases h : b ≤ a
  · go_enter Try.func50, Try.ntmps50
    go_wp2
    go_ret
    simp [inB, h]
  · go_enter Try.func50, Try.ntmps50
    go_wp2
    go_ret
    simp [inB]
    omega

set_option maxHeartbeats 400000 in
theorem within_any (a b c : Int) (w : World) :
    Calls Try.prog 53 #[.int .i64 a, .int .i64 b, .int .i64 c] w fun e w' => e = .returned (.bool (inB a b c)) ∧ w = w' := by
  by_cases h : b ≤ a
  · go_enter Try.func53, Try.ntmps53
    go_wp2
    go_ret
    simp [inB, h]
  · go_enter Try.func53, Try.ntmps53
    go_wp2
    go_ret
    simp [inB]
    omega

structure Pc where
  len : Int
  turn : Int
  rad : Int
  wid : Int
  sur : Int

def rnd (a b : Int) : Int := (2 * a + b) / (2 * b)
theorem rnd_bd (a b : Int) (h0 : 0 ≤ a) (h2 : 1 ≤ b) : 0 ≤ rnd a b ∧ rnd a b ≤ a + 1 := by
  unfold rnd
  constructor
  · exact Int.ediv_nonneg (by omega) (by omega)
  · have : (2 * a + b) / (2 * b) < a + 2 := Int.ediv_lt_of_lt_mul (by omega) (by
      have := Int.mul_le_mul_of_nonneg_left (a := 1) (b := b) (c := 2 * (a + 2)) h2 (by omega)
      have e : (a + 2) * (2 * b) = 2 * (a + 2) * b := by
        rw [Int.mul_comm 2 b, ← Int.mul_assoc, Int.mul_comm 2 (a + 2), Int.mul_assoc (a + 2) 2 b, Int.mul_comm 2 b, Int.mul_assoc]
      have e2 : 2 * (a + 2) * b = 2 * a * b + 4 * b := by
        rw [Int.mul_add, Int.add_mul]; rfl
      have : 2 * a * 1 ≤ 2 * a * b := Int.mul_le_mul_of_nonneg_left h2 (by omega)
      omega)
    omega

set_option maxHeartbeats 400000 in
theorem rounded_any (a b : Int) (w : World) (h0 : 0 ≤ a) (h1 : a ≤ 1000000000) (h2 : 1 ≤ b) (h3 : b ≤ 1000000000) :
    Calls Try.prog 89 #[.int .i64 a, .int .i64 b] w fun e w' => e = .returned (.int .i64 (rnd a b)) ∧ w = w' := by
  go_enter Try.func89, Try.ntmps89
  go_wp2
  go_ret
  exact ⟨rfl, rfl⟩

set_option maxHeartbeats 400000 in
theorem round_any (a b : Int) (w : World) (h0 : 0 ≤ a) (h1 : a ≤ 1000000000) (h2 : 1 ≤ b) (h3 : b ≤ 1000000000) :
    Calls Try.prog 102 #[.int .i64 a, .int .i64 b] w fun e w' => e = .returned (.int .i64 (rnd a b)) ∧ w = w' := by
  go_enter Try.func102, Try.ntmps102
  go_wp2
  go_ret
  exact ⟨rfl, rfl⟩

/-- The turning of some meters of a piece. -/
def trn (t r m : Int) : Int := if t = 0 then 0 else t * rnd (1000 * m) r

set_option maxHeartbeats 400000 in
theorem turned_any (l t r d s m : Int) (w : World) (h0 : 0 ≤ m) (h1 : m ≤ 100000) (ht0 : -1 ≤ t) (ht1 : t ≤ 1) (hr : t ≠ 0 → 5 ≤ r ∧ r ≤ 2000) :
    Calls Try.prog 61 #[.agg #[.int .i64 l, .int .i64 t, .int .i64 r, .int .i64 d, .int .i64 s], .int .i64 m] w fun e w' => e = .returned (.int .i64 (trn t r m)) ∧ Below w.heap.size w w' := by
  have hb1 : 1000 * m ≤ 1000000000 := by omega
  have hb2 : 0 ≤ 1000 * m := by omega
  by_cases h : t = 0
  · subst h
    clear hr
    go_enter Try.func61, Try.ntmps61
    go_wp2
    go_ret
    exact ⟨rfl, (Below.refl _ _).alloc (Nat.le_refl _) _⟩
  · obtain ⟨r0, r1⟩ := hr h
    have q := rnd_bd (1000 * m) r (by omega) (by omega)
    have q1 := q.1
    have q2 := q.2
    clear q
    have ht : t = -1 ∨ t = 1 := by omega
    clear hr
    rcases ht with rfl | rfl
    · go_enter Try.func61, Try.ntmps61
      go_wp2_with fail
      go_quiet ((go_at_call 89; exact quiet_left (rounded_any _ _ _ (by omega) (by omega) (by omega) (by omega))))
      go_wp2
      go_ret
      exact ⟨by simp [trn], (pw_below_drewN ((Below.refl _ _).alloc (Nat.le_refl _) _) _)⟩
    · go_enter Try.func61, Try.ntmps61
      go_wp2_with fail
      go_quiet ((go_at_call 89; exact quiet_left (rounded_any _ _ _ (by omega) (by omega) (by omega) (by omega))))
      go_wp2
      go_ret
      exact ⟨by simp [trn], (pw_below_drewN ((Below.refl _ _).alloc (Nat.le_refl _) _) _)⟩

set_option maxHeartbeats 400000 in
theorem rturned_any (l t r d s m : Int) (w : World) (h0 : 0 ≤ m) (h1 : m ≤ 100000) (ht0 : -1 ≤ t) (ht1 : t ≤ 1) (hr : t ≠ 0 → 5 ≤ r ∧ r ≤ 2000) :
    Calls Try.prog 87 #[.agg #[.int .i64 l, .int .i64 t, .int .i64 r, .int .i64 d, .int .i64 s], .int .i64 m] w fun e w' => e = .returned (.int .i64 (trn t r m)) ∧ Below w.heap.size w w' := by
  have hb1 : 1000 * m ≤ 1000000000 := by omega
  have hb2 : 0 ≤ 1000 * m := by omega
  by_cases h : t = 0
  · subst h
    clear hr
    go_enter Try.func87, Try.ntmps87
    go_wp2
    go_ret
    exact ⟨rfl, (Below.refl _ _).alloc (Nat.le_refl _) _⟩
  · obtain ⟨r0, r1⟩ := hr h
    have q := rnd_bd (1000 * m) r (by omega) (by omega)
    have q1 := q.1
    have q2 := q.2
    clear q
    have ht : t = -1 ∨ t = 1 := by omega
    clear hr
    rcases ht with rfl | rfl
    all_goals
      go_enter Try.func87, Try.ntmps87
      go_wp2_with fail
      go_quiet ((go_at_call 102; exact quiet_left (round_any _ _ _ (by omega) (by omega) (by omega) (by omega))))
      go_wp2
      go_ret
      exact ⟨by simp [trn], (pw_below_drewN ((Below.refl _ _).alloc (Nat.le_refl _) _) _)⟩

/-- Whether a piece is as defined. -/
def pcOk (l t r d s : Int) : Bool := inB l 1 5000 && inB t (-1) 1 && inB d 15 300 && inB s 1 9 && (if t = 0 then r == 0 else inB r 5 2000)

set_option maxHeartbeats 1000000 in
theorem rpiece_any (l t r d s : Int) (w : World) :
    Calls Try.prog 51 #[.agg #[.int .i64 l, .int .i64 t, .int .i64 r, .int .i64 d, .int .i64 s]] w fun e w' => e = .returned (.bool (pcOk l t r d s)) ∧ Below w.heap.size w w' := by
  cases c1 : inB l 1 5000
  case false =>
    go_enter Try.func51, Try.ntmps51
    go_wp2_with (first | (go_at_call 50; refine (in_any _ _ _ _).mono ?_; rintro e w' ⟨rfl, rfl⟩))
    go_ret
    exact ⟨by simp [pcOk, c1], (Below.refl _ _).alloc (Nat.le_refl _) _⟩
  case true =>
    cases c2 : inB t (-1) 1
    case false =>
      go_enter Try.func51, Try.ntmps51
      go_wp2_with (first | (go_at_call 50; refine (in_any _ _ _ _).mono ?_; rintro e w' ⟨rfl, rfl⟩))
      go_ret
      exact ⟨by simp [pcOk, c1, c2], (Below.refl _ _).alloc (Nat.le_refl _) _⟩
    case true =>
      cases c3 : inB d 15 300
      case false =>
        go_enter Try.func51, Try.ntmps51
        go_wp2_with (first | (go_at_call 50; refine (in_any _ _ _ _).mono ?_; rintro e w' ⟨rfl, rfl⟩))
        go_ret
        exact ⟨by simp [pcOk, c1, c2, c3], (Below.refl _ _).alloc (Nat.le_refl _) _⟩
      case true =>
        cases c4 : inB s 1 9
        case false =>
          go_enter Try.func51, Try.ntmps51
          go_wp2_with (first | (go_at_call 50; refine (in_any _ _ _ _).mono ?_; rintro e w' ⟨rfl, rfl⟩))
          go_ret
          exact ⟨by simp [pcOk, c1, c2, c3, c4], (Below.refl _ _).alloc (Nat.le_refl _) _⟩
        case true =>
          by_cases ht : t = 0
          · subst ht
            go_enter Try.func51, Try.ntmps51
            go_wp2_with (first | (go_at_call 50; refine (in_any _ _ _ _).mono ?_; rintro e w' ⟨rfl, rfl⟩))
            go_ret
            exact ⟨by simp [pcOk, c1, c2, c3, c4], (Below.refl _ _).alloc (Nat.le_refl _) _⟩
          · go_enter Try.func51, Try.ntmps51
            go_wp2_with (first | (go_at_call 50; refine (in_any _ _ _ _).mono ?_; rintro e w' ⟨rfl, rfl⟩))
            go_ret
            exact ⟨by simp [pcOk, c1, c2, c3, c4, ht], (Below.refl _ _).alloc (Nat.le_refl _) _⟩

set_option maxHeartbeats 1000000 in
theorem piece_any (l t r d s : Int) (w : World) :
    Calls Try.prog 84 #[.agg #[.int .i64 l, .int .i64 t, .int .i64 r, .int .i64 d, .int .i64 s]] w fun e w' => e = .returned (.bool (pcOk l t r d s)) ∧ Below w.heap.size w w' := by
  by_cases ht : t = 0
  · subst ht
    by_cases hr : r = 0
    · subst hr
      have c2 : inB 0 (-1) 1 = true := by decide
      cases c1 : inB l 1 5000
      case false =>
        go_enter Try.func84, Try.ntmps84
        go_wp2_with (first | (go_at_call 53; refine (within_any _ _ _ _).mono ?_; rintro e w' ⟨rfl, rfl⟩))
        go_ret
        exact ⟨by simp [pcOk, c2, c1], (Below.refl _ _).alloc (Nat.le_refl _) _⟩
      case true =>
        cases c3 : inB d 15 300
        case false =>
          go_enter Try.func84, Try.ntmps84
          go_wp2_with (first | (go_at_call 53; refine (within_any _ _ _ _).mono ?_; rintro e w' ⟨rfl, rfl⟩))
          go_ret
          exact ⟨by simp [pcOk, c2, c1, c3], (Below.refl _ _).alloc (Nat.le_refl _) _⟩
        case true =>
          cases c4 : inB s 1 9
          case false =>
            go_enter Try.func84, Try.ntmps84
            go_wp2_with (first | (go_at_call 53; refine (within_any _ _ _ _).mono ?_; rintro e w' ⟨rfl, rfl⟩))
            go_ret
            exact ⟨by simp [pcOk, c2, c1, c3, c4], (Below.refl _ _).alloc (Nat.le_refl _) _⟩
          case true =>
            go_enter Try.func84, Try.ntmps84
            go_wp2_with (first | (go_at_call 53; refine (within_any _ _ _ _).mono ?_; rintro e w' ⟨rfl, rfl⟩))
            go_ret
            exact ⟨by simp [pcOk, c2, c1, c3, c4], (Below.refl _ _).alloc (Nat.le_refl _) _⟩
    · have hr' : (r == 0) = false := by simpa using hr
      go_enter Try.func84, Try.ntmps84
      go_wp2_with (first | (go_at_call 53; refine (within_any _ _ _ _).mono ?_; rintro e w' ⟨rfl, rfl⟩))
      go_ret
      exact ⟨by simp [pcOk, hr'], (Below.refl _ _).alloc (Nat.le_refl _) _⟩
  · have ht' : (t == 0) = false := by simpa using ht
    cases c5 : inB r 5 2000
    case false =>
      go_enter Try.func84, Try.ntmps84
      go_wp2_with (first | (go_at_call 53; refine (within_any _ _ _ _).mono ?_; rintro e w' ⟨rfl, rfl⟩))
      go_ret
      exact ⟨by simp [pcOk, ht, c5], (Below.refl _ _).alloc (Nat.le_refl _) _⟩
    case true =>
      cases c1 : inB l 1 5000
      case false =>
        go_enter Try.func84, Try.ntmps84
        go_wp2_with (first | (go_at_call 53; refine (within_any _ _ _ _).mono ?_; rintro e w' ⟨rfl, rfl⟩))
        go_ret
        exact ⟨by simp [pcOk, ht, c5, c1], (Below.refl _ _).alloc (Nat.le_refl _) _⟩
      case true =>
        cases c2 : inB t (-1) 1
        case false =>
          go_enter Try.func84, Try.ntmps84
          go_wp2_with (first | (go_at_call 53; refine (within_any _ _ _ _).mono ?_; rintro e w' ⟨rfl, rfl⟩))
          go_ret
          exact ⟨by simp [pcOk, ht, c5, c1, c2], (Below.refl _ _).alloc (Nat.le_refl _) _⟩
        case true =>
          cases c3 : inB d 15 300
          case false =>
            go_enter Try.func84, Try.ntmps84
            go_wp2_with (first | (go_at_call 53; refine (within_any _ _ _ _).mono ?_; rintro e w' ⟨rfl, rfl⟩))
            go_ret
            exact ⟨by simp [pcOk, ht, c5, c1, c2, c3], (Below.refl _ _).alloc (Nat.le_refl _) _⟩
          case true =>
            cases c4 : inB s 1 9
            case false =>
              go_enter Try.func84, Try.ntmps84
              go_wp2_with (first | (go_at_call 53; refine (within_any _ _ _ _).mono ?_; rintro e w' ⟨rfl, rfl⟩))
              go_ret
              exact ⟨by simp [pcOk, ht, c5, c1, c2, c3, c4], (Below.refl _ _).alloc (Nat.le_refl _) _⟩
            case true =>
              go_enter Try.func84, Try.ntmps84
              go_wp2_with (first | (go_at_call 53; refine (within_any _ _ _ _).mono ?_; rintro e w' ⟨rfl, rfl⟩))
              go_ret
              exact ⟨by simp [pcOk, ht, c5, c1, c2, c3, c4], (Below.refl _ _).alloc (Nat.le_refl _) _⟩

/-- Whether a rule for bends is as defined. -/
def bendsOk (g l : Int) : Bool := inB g 0 1000 && inB l 1 10000
def eyesOk (a m : Int) : Bool := inB a 1 10000 && inB m 1 5000

set_option maxHeartbeats 400000 in
theorem rbends_any (g l : Int) (w : World) :
    Calls Try.prog 26 #[.agg #[.int .i64 g, .int .i64 l]] w fun e w' => e = .returned (.bool (bendsOk g l)) ∧ Below w.heap.size w w' := by
  cases c1 : inB g 0 1000 <;> cases c2 : inB l 1 10000
  all_goals
    go_enter Try.func26, Try.ntmps26
    go_wp2_with (first | (go_at_call 50; refine (in_any _ _ _ _).mono ?_; rintro e w' ⟨rfl, rfl⟩))
    go_ret
    exact ⟨by simp [bendsOk, c1, c2], (Below.refl _ _).alloc (Nat.le_refl _) _⟩

set_option maxHeartbeats 400000 in
theorem reyes_any (g l : Int) (w : World) :
    Calls Try.prog 31 #[.agg #[.int .i64 g, .int .i64 l]] w fun e w' => e = .returned (.bool (eyesOk g l)) ∧ Below w.heap.size w w' := by
  cases c1 : inB g 1 10000 <;> cases c2 : inB l 1 5000
  all_goals
    go_enter Try.func31, Try.ntmps31
    go_wp2_with (first | (go_at_call 50; refine (in_any _ _ _ _).mono ?_; rintro e w' ⟨rfl, rfl⟩))
    go_ret
    exact ⟨by simp [eyesOk, c1, c2], (Below.refl _ _).alloc (Nat.le_refl _) _⟩

end Go.Proofs.Ytbdjmaogbpdkpaa

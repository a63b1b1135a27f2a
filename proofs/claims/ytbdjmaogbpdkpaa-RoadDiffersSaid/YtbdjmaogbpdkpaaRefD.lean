import Derived.Test.YtbdjmaogbpdkpaaRefC
namespace Go.Proofs.Ytbdjmaogbpdkpaa
set_option linter.unusedVariables false
set_option linter.unusedSimpArgs false
open Go.RowKit
attribute [local go_sem] Later.cell Later.cell1 Later.new1 Later.frozen Later.frozen1

theorem up_bd (r : Road) (hok : okPs r) (x : Int) : -10000002000 ≤ up r.ps x ∧ up r.ps x ≤ 10000002000 := by
  have h := upL_take_bd r hok x r.ps.length (Nat.le_refl _)
  have h1 := upL_up r.ps 0 x (fun p hp => (hok.lens p hp).1)
  rw [Int.sub_zero] at h1
  rw [List.take_length, h1] at h
  exact h

set_option maxHeartbeats 400000 in
theorem rturning_any (r : Road) (A B C : Option Addr) (a b c : Nat) (x y : Int) (w : World) (h : RdRoad w r A B C) (hok : okPs r) (hx0 : 0 ≤ x) (hx1 : x ≤ 100000000) (hy0 : 0 ≤ y) (hy1 : y ≤ 100000000) :
    Calls Try.prog 24 #[.agg #[.slice A r.ps.length a, .slice B r.cs.length b, .slice C r.js.length c], .int .i64 x, .int .i64 y] w fun e w' => e = .returned (.int .i64 (up r.ps y - up r.ps x)) ∧ Below w.heap.size w w' := by
  have u1 := (up_bd r hok x).1
  have u2 := (up_bd r hok x).2
  have u3 := (up_bd r hok y).1
  have u4 := (up_bd r hok y).2
  go_enter Try.func24, Try.ntmps24
  go_wp2_with fail
  refine wp_region_later (by kernel_rfl) (by kernel_rfl) ?_
  repeat (go_big_quiet_step ((go_at_call 57; exact later_out (rupto_any r A B C a b c _ _ (h.below (bthen (balloc w _) (Later.b _))) hok (by omega) (by omega)))))
  refine wpQuiet_nil ?_
  rintro _ ⟨q, rfl⟩
  go_wp2
  go_ret
  exact ⟨rfl, bthen (balloc w _) q.b⟩

theorem validB_ok {r : Road} (h : validB r = true) : okPs r ∧ 1 ≤ r.ps.length ∧ lenSum r.ps ≤ 100000 ∧ r.cs.length ≤ 1000 ∧ r.js.length ≤ 200 ∧ crsOk (lenSum r.ps) r.cs = true ∧ jnsOk (lenSum r.ps) r.js = true := by
  simp only [validB, Bool.and_eq_true, decide_eq_true_eq] at h
  obtain ⟨⟨⟨⟨⟨⟨⟨h1, h2⟩, h3⟩, h4⟩, h5⟩, h6⟩, h7⟩, h8⟩ := h
  exact ⟨⟨h5, h2⟩, h1, h6, h3, h4, h7, h8⟩

theorem measure_ok (r : Road) (A B C : Option Addr) (a b c : Nat) (w : World) (h : RdRoad w r A B C) (hok : okPs r) :
    Calls Try.prog 52 #[.agg #[.slice A r.ps.length a, .slice B r.cs.length b, .slice C r.js.length c]] w fun e w' => ∃ M G g, e = .returned (.pointer (some ⟨M, 0, none⟩)) ∧ w.heap.size ≤ M ∧ Below w.heap.size w w' ∧ Meas w' M r A B C a b c G g :=
  measure_any r A B C a b c w h (fun p hp => ⟨(hok.lens p hp).1, by have := (hok.lens p hp).2; omega⟩) (by have := hok.2; omega)
theorem mlength_ok (r : Road) (A B C : Option Addr) (a b c : Nat) (G : Option Addr) (g M : Nat) (w : World) (h : Meas w M r A B C a b c G g) (hok : okPs r) :
    Calls Try.prog 54 #[.pointer (some ⟨M, 0, none⟩)] w fun e w' => e = .returned (.int .i64 (lenSum r.ps)) ∧ Below w.heap.size w w' :=
  mlength_any r A B C a b c G g M w h (by have := hok.2; omega)
/-- Where a call stands that has boxed its road and measured it. -/
structure InM (w wr : World) (r : Road) (A B C : Option Addr) (a b c : Nat) (G : Option Addr) (g M : Nat) : Prop where
  i : InR w wr r A B C a b c
  m : Meas wr M r A B C a b c G g
theorem InM.step {w wr w2 : World} {r : Road} {A B C : Option Addr} {a b c : Nat} {G : Option Addr} {g M : Nat} (h : InM w wr r A B C a b c G g M) (hb : Below wr.heap.size wr w2) : InM w w2 r A B C a b c G g M := ⟨h.i.step hb, h.m.below hb⟩

def lengthV (r : Road) : Int := if validB r = true then lenSum r.ps else 0

set_option maxHeartbeats 1000000 in
theorem length_any (r : Road) (A B C : Option Addr) (a b c : Nat) (w : World) (h : RdRoad w r A B C) :
    Calls Try.prog 47 #[.agg #[.slice A r.ps.length a, .slice B r.cs.length b, .slice C r.js.length c]] w fun e w' => e = .returned (.tuple #[.int .i64 (lengthV r), .int .i64 (checkE r)]) ∧ Below w.heap.size w w' := by
  cases hv : validB r
  · have hE := checkE_false hv
    have hL : lengthV r = 0 := by simp [lengthV, hv]
    go_enter Try.func47, Try.ntmps47
    go_wp2_with (first | (go_at_call 48; refine (check_any r A B C a b c _ (h.below (balloc _ _))).mono ?_; rintro e W2 ⟨rfl, hb⟩))
    go_ret2
    exact ⟨by simp [hL, hE], bthen (balloc _ _) hb⟩
  · have hE := checkE_true hv
    have hL : lengthV r = lenSum r.ps := by simp [lengthV, hv]
    have HL := Lib.hid hL
    clear hL
    have hok := (validB_ok hv).1
    clear hv
    go_enter Try.func47, Try.ntmps47
    go_wp2_with (first | (go_at_call 48; refine (check_any r A B C a b c _ (h.below (balloc _ _))).mono ?_; rintro e W2 ⟨rfl, hb⟩; have hI := (InR.new w r A B C a b c).step hb; have b0 := hI.box.2 0 _ rfl; have b1 := hI.box.2 1 _ rfl; have b2 := hI.box.2 2 _ rfl) | (go_at_call 52; refine (measure_ok r A B C a b c _ (hI.rd h) hok).mono ?_; rintro e W3 ⟨M, G, g, rfl, hM1, hb3, hMe⟩) | (go_at_call 54; refine (mlength_ok r A B C a b c G g M _ hMe hok).mono ?_; rintro e W4 ⟨rfl, hb4⟩))
    go_ret2
    exact ⟨by simp [HL.out, hE], bthen (bthen hI.below hb3) hb4⟩

def turningOk (r : Road) (x y : Int) : Bool := validB r && decide (0 ≤ x) && decide (x ≤ y) && decide (y ≤ lenSum r.ps)

set_option maxHeartbeats 1000000 in
/-- Turning of a road that is not as defined. -/
theorem turning_bad (r : Road) (A B C : Option Addr) (a b c : Nat) (x y : Int) (w : World) (h : RdRoad w r A B C) (hv : validB r = false) :
    Calls Try.prog 23 #[.agg #[.slice A r.ps.length a, .slice B r.cs.length b, .slice C r.js.length c], .int .i64 x, .int .i64 y] w fun e w' => e = .returned (.tuple #[.int .i64 0, .int .i64 2]) ∧ Below w.heap.size w w' := by
  have hE := checkE_false hv
  go_enter Try.func23, Try.ntmps23
  go_wp2_with (first | (go_at_call 48; refine (check_any r A B C a b c _ (h.below (balloc _ _))).mono ?_; rintro e W2 ⟨rfl, hb⟩))
  go_ret2
  exact ⟨by simp [hE], bthen (balloc _ _) hb⟩

set_option maxHeartbeats 1000000 in
/-- Turning between places. -/
theorem turning_good (r : Road) (A B C : Option Addr) (a b c : Nat) (x y : Int) (w : World) (h : RdRoad w r A B C) (hv : validB r = true) (h0 : 0 ≤ x) (h1 : x ≤ y) (h2 : y ≤ lenSum r.ps) :
    Calls Try.prog 23 #[.agg #[.slice A r.ps.length a, .slice B r.cs.length b, .slice C r.js.length c], .int .i64 x, .int .i64 y] w fun e w' => e = .returned (.tuple #[.int .i64 (up r.ps y - up r.ps x), .int .i64 0]) ∧ Below w.heap.size w w' := by
  have hE := checkE_true hv
  have hok := (validB_ok hv).1
  have hlen := (validB_ok hv).2.2.1
  have u1 := (up_bd r hok x).1
  have u2 := (up_bd r hok x).2
  have u3 := (up_bd r hok y).1
  have u4 := (up_bd r hok y).2
  clear hv
  have t1 : decide (x < 0) = false := by simpa using h0
  have t2 : decide (y < x) = false := by simpa using h1
  have t3 : decide (lenSum r.ps < y) = false := by simpa using h2
  go_enter Try.func23, Try.ntmps23
  go_wp2_with (first | (go_at_call 48; refine (check_any r A B C a b c _ (h.below (balloc _ _))).mono ?_; rintro e W2 ⟨rfl, hb⟩; have hI := (InR.new w r A B C a b c).step hb; have b0 := hI.box.2 0 _ rfl; have b1 := hI.box.2 1 _ rfl; have b2 := hI.box.2 2 _ rfl) | (go_at_call 52; refine (measure_ok r A B C a b c _ (hI.rd h) hok).mono ?_; rintro e W3 ⟨M, G, g, rfl, hM1, hb3, hMe⟩; have hIM : InM w W3 r A B C a b c G g M := ⟨hI.step hb3, hMe⟩; clear hMe b0 b1 b2) | (go_at_call 54; refine (mlength_ok r A B C a b c G g M _ hIM.m hok).mono ?_; rintro e W4 ⟨rfl, hb4⟩; replace hIM := hIM.step hb4; clear hb4) | (go_at_call 56; refine (upto_any r A B C a b c G g M _ _ hIM.m (hIM.i.rd h) hok (by omega) (by omega)).mono ?_; rintro e W5 ⟨rfl, hb5⟩; replace hIM := hIM.step hb5; clear hb5))
  go_ret2
  exact ⟨by simp, hIM.i.below⟩

set_option maxHeartbeats 1000000 in
/-- Turning between what are no places. -/
theorem turning_out (r : Road) (A B C : Option Addr) (a b c : Nat) (x y : Int) (w : World) (h : RdRoad w r A B C) (hv : validB r = true) (hx : x < 0 ∨ y < x ∨ lenSum r.ps < y) :
    Calls Try.prog 23 #[.agg #[.slice A r.ps.length a, .slice B r.cs.length b, .slice C r.js.length c], .int .i64 x, .int .i64 y] w fun e w' => e = .returned (.tuple #[.int .i64 0, .int .i64 2]) ∧ Below w.heap.size w w' := by
  have hE := checkE_true hv
  have hok := (validB_ok hv).1
  have hlen := (validB_ok hv).2.2.1
  clear hv
  by_cases t1 : x < 0
  · have t1' : decide (x < 0) = true := by simpa using t1
    go_enter Try.func23, Try.ntmps23
    go_wp2_with (first | (go_at_call 48; refine (check_any r A B C a b c _ (h.below (balloc _ _))).mono ?_; rintro e W2 ⟨rfl, hb⟩; have hI := (InR.new w r A B C a b c).step hb; have b0 := hI.box.2 0 _ rfl; have b1 := hI.box.2 1 _ rfl; have b2 := hI.box.2 2 _ rfl) | (go_at_call 52; refine (measure_ok r A B C a b c _ (hI.rd h) hok).mono ?_; rintro e W3 ⟨M, G, g, rfl, hM1, hb3, hMe⟩; have hIM : InM w W3 r A B C a b c G g M := ⟨hI.step hb3, hMe⟩; clear hMe b0 b1 b2))
    go_ret2
    exact ⟨by simp, hIM.i.below⟩
  have t1' : decide (x < 0) = false := by simpa using t1
  by_cases t2 : y < x
  · have t2' : decide (y < x) = true := by simpa using t2
    go_enter Try.func23, Try.ntmps23
    go_wp2_with (first | (go_at_call 48; refine (check_any r A B C a b c _ (h.below (balloc _ _))).mono ?_; rintro e W2 ⟨rfl, hb⟩; have hI := (InR.new w r A B C a b c).step hb; have b0 := hI.box.2 0 _ rfl; have b1 := hI.box.2 1 _ rfl; have b2 := hI.box.2 2 _ rfl) | (go_at_call 52; refine (measure_ok r A B C a b c _ (hI.rd h) hok).mono ?_; rintro e W3 ⟨M, G, g, rfl, hM1, hb3, hMe⟩; have hIM : InM w W3 r A B C a b c G g M := ⟨hI.step hb3, hMe⟩; clear hMe b0 b1 b2))
    go_ret2
    exact ⟨by simp, hIM.i.below⟩
  have t2' : decide (y < x) = false := by simpa using t2
  have t3 : lenSum r.ps < y := by omega
  have t3' : decide (lenSum r.ps < y) = true := by simpa using t3
  clear hx
  go_enter Try.func23, Try.ntmps23
  go_wp2_with (first | (go_at_call 48; refine (check_any r A B C a b c _ (h.below (balloc _ _))).mono ?_; rintro e W2 ⟨rfl, hb⟩; have hI := (InR.new w r A B C a b c).step hb; have b0 := hI.box.2 0 _ rfl; have b1 := hI.box.2 1 _ rfl; have b2 := hI.box.2 2 _ rfl) | (go_at_call 52; refine (measure_ok r A B C a b c _ (hI.rd h) hok).mono ?_; rintro e W3 ⟨M, G, g, rfl, hM1, hb3, hMe⟩; have hIM : InM w W3 r A B C a b c G g M := ⟨hI.step hb3, hMe⟩; clear hMe b0 b1 b2) | (go_at_call 54; refine (mlength_ok r A B C a b c G g M _ hIM.m hok).mono ?_; rintro e W4 ⟨rfl, hb4⟩; replace hIM := hIM.step hb4; clear hb4))
  go_ret2
  exact ⟨by simp, hIM.i.below⟩

end Go.Proofs.Ytbdjmaogbpdkpaa

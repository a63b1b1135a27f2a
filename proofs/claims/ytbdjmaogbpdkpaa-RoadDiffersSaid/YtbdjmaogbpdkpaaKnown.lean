import Derived.Test.YtbdjmaogbpdkpaaEx
import Derived.Test.YtbdjmaogbpdkpaaCorB
namespace Go.Proofs.Ytbdjmaogbpdkpaa
open Go.RowKit Go.Shelf

section
variable (A B : Option Addr) (a b : Nat) (w : World)
theorem ex_length (h : RdRoad w exR A B none) : Calls Try.prog 47 #[.agg #[.slice A exR.ps.length a, .slice B exR.cs.length b, .slice none exR.js.length 0]] w fun e w' => e = .returned (.tuple #[.int .i64 400, .int .i64 0]) ∧ Below w.heap.size w w' :=
  (length_any exR A B none a b 0 w h).mono fun _ _ ⟨h1, h2⟩ => ⟨by rw [h1]; rfl, h2⟩
theorem ex_find (h : RdRoad w exR A B none) : Calls Try.prog 20 #[.agg #[.slice A exR.ps.length a, .slice B exR.cs.length b, .slice none exR.js.length 0], .int .i64 150] w fun e w' => e = .returned (.tuple #[.int .i64 2, .int .i64 0, .int .i64 0]) ∧ Below w.heap.size w w' :=
  (Find_good exR A B none a b 0 150 w h exR_valid (by decide) (by rw [exR_len]; decide)).mono fun _ _ ⟨⟨k, h1, h3⟩, h2⟩ => ⟨by
    have hk := FindAt.unique (validB_ok exR_valid).1 h3 exR_find
    subst hk
    rw [h1]
    rfl, h2⟩
theorem ex_turn (h : RdRoad w exR A B none) : Calls Try.prog 23 #[.agg #[.slice A exR.ps.length a, .slice B exR.cs.length b, .slice none exR.js.length 0], .int .i64 125, .int .i64 400] w fun e w' => e = .returned (.tuple #[.int .i64 1500, .int .i64 0]) ∧ Below w.heap.size w w' :=
  (turning_good exR A B none a b 0 125 400 w h exR_valid (by decide) (by decide) (by rw [exR_len]; decide)).mono fun _ _ ⟨h1, h2⟩ => ⟨by rw [h1, exR_turn], h2⟩
theorem ex_corners (h : RdRoad w exR A B none) : Calls Try.prog 25 #[.agg #[.slice A exR.ps.length a, .slice B exR.cs.length b, .slice none exR.js.length 0], .agg #[.int .i64 20, .int .i64 500]] w fun e w' => (∃ g c, e = .returned (.tuple #[.slice (some ⟨g, 0, none⟩) 1 c, .int .i64 0]) ∧ g < w'.heap.size ∧ w'.cell? ⟨g, 0, none⟩ = some (.int .i64 100) ∧ w'.cell? ⟨g, 1, none⟩ = some (.int .i64 200) ∧ w'.cell? ⟨g, 2, none⟩ = some (.int .i64 1) ∧ w'.cell? ⟨g, 3, none⟩ = some (.int .i64 30) ∧ w'.cell? ⟨g, 4, none⟩ = some (.int .i64 50) ∧ w'.cell? ⟨g, 5, none⟩ = some (.int .i64 30) ∧ w'.cell? ⟨g, 6, none⟩ = some (.int .i64 2000)) ∧ Below w.heap.size w w' :=
  (corners_walk exR A B none a b 0 20 500 w h exR_valid (by decide) (by decide) (by decide) (by decide)).mono fun _ w' ⟨⟨v, h1, h3⟩, h2⟩ => ⟨by
    rw [exR_corners] at h3
    obtain ⟨g, c, rfl, _, hlt⟩ := h3.form1 (by simp)
    obtain ⟨b', o', e', hl, c0, c1, c2, c3, c4, c5, c6⟩ := (h3.rd coV_len).at7 (i := 0) rfl
    injection e' with e'
    injection e' with e1 e2
    subst e1 e2
    exact ⟨g, c, h1, hl, c0, c1, c2, c3, c4, c5, c6⟩, h2⟩
theorem ex_sight (h : RdRoad w exR A B none) : Calls Try.prog 30 #[.agg #[.slice A exR.ps.length a, .slice B exR.cs.length b, .slice none exR.js.length 0], .agg #[.int .i64 500, .int .i64 1000], .int .i64 0] w fun e w' => e = .returned (.tuple #[.int .i64 125, .int .i64 0]) ∧ Below w.heap.size w w' :=
  (sight_walk exR A B none a b 0 500 1000 0 w h exR_valid (by decide) (by decide) (by decide) (by rw [exR_len]; decide)).mono fun _ _ ⟨h1, h2⟩ => ⟨by rw [h1, exR_sight], h2⟩
end

set_option maxRecDepth 100000 in
set_option maxHeartbeats 4000000 in
theorem known_any (w : World) : Calls Try.prog 19 #[] w fun e w' => e = .returned (.bool true) ∧ Below w.heap.size w w' := by
  go_enter Try.func19, Try.ntmps19
  go_wp2_with (first
    | (go_at_call 49; refine (example_any _).mono ?_; rintro e W1 ⟨⟨A, B, a, b, rfl, hr1⟩, hb1⟩)
    | (go_at_call 47; refine (ex_length A B a b _ (hr1.below (balloc _ _))).mono ?_; rintro e W2 ⟨rfl, hb2⟩; have hbx := (Box.new W1 [.slice A exR.ps.length a, .slice B exR.cs.length b, .slice none exR.js.length 0] 26).below hb2; have hr2 := (hr1.below (balloc W1 (.cells #[.slice A exR.ps.length a, .slice B exR.cs.length b, .slice none exR.js.length 0] 26))).below hb2; have b0 := hbx.2 0 _ rfl; have b1 := hbx.2 1 _ rfl; have b2 := hbx.2 2 _ rfl; have bs := hbx.1)
    | (go_at_call 20; refine (ex_find A B a b _ hr2).mono ?_; rintro e W3 ⟨rfl, hb3⟩; have hbx3 := hbx.below hb3; have hr3 := hr2.below hb3; clear b0 b1 b2 bs; have b0 := hbx3.2 0 _ rfl; have b1 := hbx3.2 1 _ rfl; have b2 := hbx3.2 2 _ rfl; have bs := hbx3.1)
    | (go_at_call 23; refine (ex_turn A B a b _ hr3).mono ?_; rintro e W4 ⟨rfl, hb4⟩; have hbx4 := hbx3.below hb4; have hr4 := hr3.below hb4; clear b0 b1 b2 bs; have b0 := hbx4.2 0 _ rfl; have b1 := hbx4.2 1 _ rfl; have b2 := hbx4.2 2 _ rfl; have bs := hbx4.1)
    | (go_at_call 25; refine (ex_corners A B a b _ hr4).mono ?_; rintro e W5 ⟨⟨g, c, rfl, hg, c0, c1, c2, c3, c4, c5, c6⟩, hb5⟩; have hbx5 := hbx4.below hb5; have hr5 := hr4.below hb5; clear b0 b1 b2 bs; have b0 := hbx5.2 0 _ rfl; have b1 := hbx5.2 1 _ rfl; have b2 := hbx5.2 2 _ rfl; have bs := hbx5.1)
    | (go_at_call 30; refine (ex_sight A B a b _ hr5).mono ?_; rintro e W6 ⟨rfl, hb6⟩; have d0 := (hb6.cell (p := ⟨g, 0, none⟩) hg).trans c0; have d1 := (hb6.cell (p := ⟨g, 1, none⟩) hg).trans c1; have d2 := (hb6.cell (p := ⟨g, 2, none⟩) hg).trans c2; have d3 := (hb6.cell (p := ⟨g, 3, none⟩) hg).trans c3; have d4 := (hb6.cell (p := ⟨g, 4, none⟩) hg).trans c4; have d5 := (hb6.cell (p := ⟨g, 5, none⟩) hg).trans c5; have d6 := (hb6.cell (p := ⟨g, 6, none⟩) hg).trans c6))
  go_ret
  exact ⟨rfl, bthen (bthen (bthen (bthen (bthen (bthen hb1 (balloc _ _)) hb2) hb3) hb4) hb5) hb6⟩

end Go.Proofs.Ytbdjmaogbpdkpaa

import Derived.Test.YtbdjmaogbpdkpaaRSig
import Derived.Test.YtbdjmaogbpdkpaaCorP
namespace Go.Proofs.Ytbdjmaogbpdkpaa
open Go.RowKit Go.Shelf

/-- A block that holds a list's elements reads as the list. -/
theorem Rd_blk {α : Type} {k : Nat} {f : α → List Value} (hk : ∀ x, (f x).length = k) {w : World} {g : Nat} {t : TypeId} {cs : Array Value} (xs : List α) (h : Blk w g t cs) (hc : cs = (xs.flatMap f).toArray) : Rd k f w (some ⟨g, 0, none⟩) xs := by
  intro i x hx
  refine ⟨g, 0, rfl, h.lt, fun j u hu => ?_⟩
  rw [h.cell, hc]
  have := flat_get hk xs i j x u hx hu
  simpa using this
theorem Rd_nil {α : Type} (k : Nat) (f : α → List Value) (w : World) (A : Option Addr) : Rd k f w A [] := by
  intro i x hx
  simp at hx

def exR : Road := ⟨[⟨100, 0, 0, 50, 2⟩, ⟨50, 1, 50, 50, 2⟩, ⟨20, 0, 0, 50, 2⟩, ⟨30, 1, 30, 50, 2⟩, ⟨200, 0, 0, 50, 2⟩], [⟨250, 2⟩], []⟩

set_option maxHeartbeats 2000000 in
theorem example_any (w : World) :
    Calls Try.prog 49 #[] w fun e w' => (∃ A B a b, e = .returned (.agg #[.slice A exR.ps.length a, .slice B exR.cs.length b, .slice none exR.js.length 0]) ∧ RdRoad w' exR A B none) ∧ Below w.heap.size w w' := by
  go_enter Try.func49, Try.ntmps49
  go_wp2
  refine bodyPost_ret (v := .agg #[.slice (some ⟨w.heap.size + 1, 0, none⟩) 5 5, .slice (some ⟨w.heap.size + 2, 0, none⟩) 1 1, .slice none 0 0]) (by simp [results, Try.results49, go_sem]) rfl ⟨⟨_, _, _, _, rfl, ?_⟩, bthen (bthen (balloc _ _) (balloc _ _)) (balloc _ _)⟩
  refine ⟨?_, ?_, Rd_nil _ _ _ _, by simp [exR], by simp [exR], by simp [exR]⟩
  · refine Rd_blk (f := pcV) pcV_len exR.ps (t := 52) (cs := (exR.ps.flatMap pcV).toArray) (Blk.alloc ?_ _) rfl
    exact blk_at _ _ _ _ (by simp)
  · refine Rd_blk (f := crV) (fun _ => rfl) exR.cs (t := 86) (cs := (exR.cs.flatMap crV).toArray) ?_ rfl
    exact blk_at _ _ _ _ (by simp)

instance co_decEq : DecidableEq Co := fun x y =>
  decidable_of_iff (x.fr = y.fr ∧ x.to = y.to ∧ x.turn = y.turn ∧ x.rad = y.rad ∧ x.inn = y.inn ∧ x.out = y.out ∧ x.ang = y.ang) (by
    cases x
    cases y
    simp)
theorem exR_valid : validB exR = true := by decide
theorem exR_len : lenSum exR.ps = 400 := by decide
theorem exR_find : FindAt exR.ps 150 2 := ⟨by decide, by decide, by decide⟩
theorem exR_turn : up exR.ps 400 - up exR.ps 125 = 1500 := by decide
theorem exR_corners : cornersG exR 20 500 = [⟨100, 200, 1, 30, 50, 30, 2000⟩] := by
  rw [corners_same exR 20 500 (validB_ok exR_valid).1]
  decide
set_option maxRecDepth 10000 in
theorem exR_sight : sightV exR 500 1000 0 = 125 := by decide

end Go.Proofs.Ytbdjmaogbpdkpaa

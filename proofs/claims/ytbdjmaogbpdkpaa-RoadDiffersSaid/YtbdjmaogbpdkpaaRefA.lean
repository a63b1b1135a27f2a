import Derived.Test.YtbdjmaogbpdkpaaBase
namespace Go.Proofs.Ytbdjmaogbpdkpaa
open Go.RowKit

set_option maxHeartbeats 400000 in
theorem rlength_any (r : Road) (A B C : Option Addr) (a b c : Nat) (w : World) (h : RdRoad w r A B C) (hl : lensOk r.ps 100000) (hn : r.ps.length ≤ 100000) :
    Calls Try.prog 21 #[.agg #[.slice A r.ps.length a, .slice B r.cs.length b, .slice C r.js.length c]] w fun e w' => e = .returned (.int .i64 (lenSum r.ps)) ∧ Below w.heap.size w w' := by
  go_enter Try.func21, Try.ntmps21
  go_wp2
  go_loop [3, 4] (fun n i => ∃ k : Nat, k ≤ r.ps.length ∧ i = .int .i64 k ∧ n = .int .i64 (lenSum (r.ps.take k))) (fun _ i => r.ps.length - (intOf i).toNat)
  case atStart => exact ⟨0, Nat.zero_le _, rfl, rfl⟩
  case round =>
    obtain ⟨k, hk, rfl, rfl⟩ := hrel
    have hb := lenSum_bd _ _ (hl.take k)
    have hb0 := hb.1
    have hb1 : lenSum (r.ps.take k) ≤ 10000000000 := by
      have := hb.2
      have := List.length_take_le k r.ps
      omega
    clear hb
    by_cases hlt : k < r.ps.length
    · obtain ⟨p, hp⟩ := getElem?_ex hlt
      obtain ⟨bb, o, hA, hbb, c0, -, -, -, -⟩ := h.p.at5 hp
      subst hA
      have hq := hl.at hp
      have hq0 := hq.1
      have hq1 := hq.2
      clear hq
      have HS := Lib.hid (lenSum_take_succ r.ps k p hp)
      clear hp
      have d0 : (w.alloc (.cells #[.slice (some ⟨bb, o, none⟩) r.ps.length a, .slice B r.cs.length b, .slice C r.js.length c] 26)).cell? ⟨bb, o + k * 5, none⟩ = some (.int .i64 p.len) := ((balloc w _).cell hbb).trans c0
      go_wp2
      go_round
      case rel => exact ⟨k + 1, by omega, by go_num, by rw [HS.out]⟩
      case measure => simp [intOf]; omega
    · go_wp2
      go_ret
      have : k = r.ps.length := by omega
      subst this
      exact ⟨by simp, balloc w _⟩

set_option maxHeartbeats 1000000 in
theorem small_any (r : Road) (A B C : Option Addr) (a b c : Nat) (w : World) (h : RdRoad w r A B C) :
    Calls Try.prog 17 #[.agg #[.slice A r.ps.length a, .slice B r.cs.length b, .slice C r.js.length c]] w fun e w' => e = .returned (.bool (smallB r)) ∧ Below w.heap.size w w' := by
  have l1 := h.lp
  have l2 := h.lc
  have l3 := h.lj
  by_cases h1 : 20 < r.ps.length
  · go_enter Try.func17, Try.ntmps17
    go_wp2
    go_ret
    exact ⟨by simp [smallB]; omega, balloc w _⟩
  by_cases h2 : 20 < r.cs.length
  · go_enter Try.func17, Try.ntmps17
    go_wp2
    go_ret
    exact ⟨by simp [smallB]; omega, balloc w _⟩
  by_cases h3 : 20 < r.js.length
  · go_enter Try.func17, Try.ntmps17
    go_wp2
    go_ret
    exact ⟨by simp [smallB]; omega, balloc w _⟩
  go_enter Try.func17, Try.ntmps17
  go_wp2
  go_loop [3] (fun i => ∃ k : Nat, k ≤ r.ps.length ∧ i = .int .i64 k ∧ (r.ps.take k).all pieceSmall = true) (fun i => r.ps.length - (intOf i).toNat)
  case atStart => exact ⟨0, Nat.zero_le _, rfl, rfl⟩
  case round =>
    obtain ⟨k, hk, rfl, hs⟩ := hrel
    have HS := Lib.hid hs
    clear hs
    by_cases hlt : k < r.ps.length
    · obtain ⟨p, hp⟩ := getElem?_ex hlt
      obtain ⟨bb, o, hA, hbb, c0, -, -, -, -⟩ := h.p.at5 hp
      subst hA
      have HP := Lib.hid hp
      clear hp
      have d0 : (w.alloc (.cells #[.slice (some ⟨bb, o, none⟩) r.ps.length a, .slice B r.cs.length b, .slice C r.js.length c] 26)).cell? ⟨bb, o + k * 5, none⟩ = some (.int .i64 p.len) := ((balloc w _).cell hbb).trans c0
      by_cases t1 : 40 < p.len
      · by_cases t2 : p.len ≤ 5000
        · go_wp2
          go_ret
          exact ⟨by simp only [smallB]; rw [all_false_at pieceSmall HP.out (by simp [pieceSmall, t1, t2])]; simp, balloc w _⟩
        · go_wp2
          go_round
          case rel => exact ⟨k + 1, by omega, by go_num, all_take_succ _ HP.out HS.out (by simp [pieceSmall]; omega)⟩
          case measure => simp [intOf]; omega
      · go_wp2
        go_round
        case rel => exact ⟨k + 1, by omega, by go_num, all_take_succ _ HP.out HS.out (by simp [pieceSmall]; omega)⟩
        case measure => simp [intOf]; omega
    · go_wp2
      go_ret
      have := all_take_len _ hk hlt HS.out
      exact ⟨by simp [smallB, this]; omega, balloc w _⟩

end Go.Proofs.Ytbdjmaogbpdkpaa

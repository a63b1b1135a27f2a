import Derived.Test.YtbdjmaogbpdkpaaRefA
namespace Go.Proofs.Ytbdjmaogbpdkpaa
open Go.RowKit

set_option maxHeartbeats 1000000 in
theorem rvalid_any (r : Road) (A B C : Option Addr) (a b c : Nat) (w : World) (h : RdRoad w r A B C) :
    Calls Try.prog 18 #[.agg #[.slice A r.ps.length a, .slice B r.cs.length b, .slice C r.js.length c]] w fun e w' => e = .returned (.bool (validB r)) ∧ Below w.heap.size w w' := by
  have l1 := h.lp
  have l2 := h.lc
  have l3 := h.lj
  cases h1 : inB r.ps.length 1 2000
  · go_enter Try.func18, Try.ntmps18
    go_wp2_with (first | (go_at_call 50; refine (in_any _ _ _ _).mono ?_; rintro e w' ⟨rfl, rfl⟩))
    go_ret
    exact ⟨by simp [validB]; simp [inB] at h1; omega, balloc w _⟩
  by_cases h2 : 1000 < r.cs.length
  · go_enter Try.func18, Try.ntmps18
    go_wp2_with (first | (go_at_call 50; refine (in_any _ _ _ _).mono ?_; rintro e w' ⟨rfl, rfl⟩))
    go_ret
    exact ⟨by simp [validB]; omega, balloc w _⟩
  by_cases h3 : 200 < r.js.length
  · go_enter Try.func18, Try.ntmps18
    go_wp2_with (first | (go_at_call 50; refine (in_any _ _ _ _).mono ?_; rintro e w' ⟨rfl, rfl⟩))
    go_ret
    exact ⟨by simp [validB]; omega, balloc w _⟩
  go_enter Try.func18, Try.ntmps18
  go_wp2_with (first | (go_at_call 50; refine (in_any _ _ _ _).mono ?_; rintro e w' ⟨rfl, rfl⟩))
  have hn : 1 ≤ r.ps.length ∧ r.ps.length ≤ 2000 := by simp [inB] at h1; omega
  have hn1 := hn.1
  have hn2 := hn.2
  clear hn
  have H1 := Lib.hid h1
  clear h1
  go_loopw [3] (fun i wr => ∃ k : Nat, k ≤ r.ps.length ∧ i = .int .i64 k ∧ (r.ps.take k).all pcOkP = true ∧ InR w wr r A B C a b c) (fun i _ => r.ps.length - (intOf i).toNat)
  case atStart => exact ⟨0, Nat.zero_le _, rfl, rfl, InR.new _ _ _ _ _ _ _ _⟩
  case round =>
    obtain ⟨k, hk, rfl, hs, hI⟩ := hrel
    have HS := Lib.hid hs
    clear hs
    have b0 := hI.box.2 0 _ rfl
    have b1 := hI.box.2 1 _ rfl
    have b2 := hI.box.2 2 _ rfl
    by_cases hlt : k < r.ps.length
    · obtain ⟨p, hp⟩ := getElem?_ex hlt
      obtain ⟨bb, o, hA, hbb, c0, c1, c2, c3, c4⟩ := (hI.rd h).p.at5 hp
      subst hA
      have HP := Lib.hid hp
      clear hp
      cases hok : pcOk p.len p.turn p.rad p.wid p.sur
      · go_wp2_with (first | (go_at_call 51; refine (rpiece_any _ _ _ _ _ _).mono ?_; rintro e w' ⟨rfl, hb'⟩))
        go_ret
        exact ⟨by simp only [validB]; rw [all_false_at pcOkP HP.out hok]; simp, bthen hI.below hb'⟩
      · go_wp2_with (first | (go_at_call 51; refine (rpiece_any _ _ _ _ _ _).mono ?_; rintro e w' ⟨rfl, hb'⟩))
        go_roundw
        case rel => exact ⟨k + 1, by omega, by go_num, all_take_succ _ HP.out HS.out hok, hI.step hb'⟩
        case measure => simp [intOf]; omega
    · have hall := all_take_len _ hk hlt HS.out
      have hlen := lensOk_of_all hall
      have HA := Lib.hid hall
      clear hall
      have hbd := lenSum_bd _ _ hlen
      have hn3 := hbd.1
      have hn4 : lenSum r.ps ≤ 10000000 := by have := hbd.2; omega
      clear hbd
      go_wp2_with (first | (go_at_call 21; refine (rlength_any r A B C a b c _ (hI.rd h) (fun p hp => ⟨(hlen p hp).1, by have := (hlen p hp).2; omega⟩) (by omega)).mono ?_; rintro e W2 ⟨rfl, hb'⟩))
      replace hI := hI.step hb'
      clear b0 b1 b2 hb' hlen
      go_loopw [5] (fun i wr => ∃ k : Nat, k ≤ r.cs.length ∧ i = .int .i64 k ∧ (List.range k).all (crAt (lenSum r.ps) r.cs) = true ∧ InR w wr r A B C a b c) (fun i _ => r.cs.length - (intOf i).toNat)
      case atStart => exact ⟨0, Nat.zero_le _, rfl, rfl, hI⟩
      case round =>
        clear hI
        obtain ⟨k, hk, rfl, hs, hI⟩ := hrel
        have HS := Lib.hid hs
        clear hs
        have b0 := hI.box.2 0 _ rfl
        have b1 := hI.box.2 1 _ rfl
        have b2 := hI.box.2 2 _ rfl
        by_cases hlt : k < r.cs.length
        · obtain ⟨p, hp⟩ := getElem?_ex hlt
          obtain ⟨bb, o, hA, hbb, c0, c1⟩ := (hI.rd h).c.at2 hp
          subst hA
          have HP := Lib.hid hp
          clear hp
          cases t1 : inB p.at_ 0 (lenSum r.ps)
          · go_wp2_with (fail)
            go_quiet ((go_at_call 50; exact quiet_left (in_any _ _ _ _)))
            go_wp2
            go_ret
            refine ⟨?_, ?_⟩
            · simp only [validB, crsOk]
              rw [range_all_false (crAt (lenSum r.ps) r.cs) hlt (by simp only [crAt, HP.out, t1]; rfl)]
              simp
            · exact bdrewN (bthen hI.below (balloc _ _)) _
          cases t2 : inB p.size 1 3
          · go_wp2_with (fail)
            go_quiet ((go_at_call 50; exact quiet_left (in_any _ _ _ _)))
            go_wp2
            go_ret
            refine ⟨?_, ?_⟩
            · simp only [validB, crsOk]
              rw [range_all_false (crAt (lenSum r.ps) r.cs) hlt (by simp only [crAt, HP.out, t1, t2]; rfl)]
              simp
            · exact bdrewN (bthen hI.below (balloc _ _)) _
          by_cases hk0 : 0 < k
          · obtain ⟨q, hq⟩ := getElem?_ex (show k - 1 < r.cs.length by omega)
            obtain ⟨bb', o', hA, hbb', e0, e1⟩ := (hI.rd h).c.at2 hq
            obtain ⟨rfl, rfl⟩ : bb = bb' ∧ o = o' := by simpa using hA
            have HQ := Lib.hid hq
            clear hq hA
            have hz : w.heap.size < wr.heap.size := hI.box.1
            have f1 : IntKind.i64.wrap ((k : Int) - 1) = (k : Int) - 1 := IntWalk.i64_in _ (by omega)
            have f2 : 0 ≤ (k : Int) - 1 := by omega
            have f3 : ((k : Int) - 1).toNat = k - 1 := by omega
            have f4 : (k : Int) - 1 < r.cs.length := by omega
            have f5 : decide (0 < (k : Int)) = true := by simpa using hk0
            by_cases t4 : p.at_ ≤ q.at_
            · have t4' : decide (p.at_ ≤ q.at_) = true := by simpa using t4
              go_wp2_with (fail)
              go_quiet ((go_at_call 50; exact quiet_left (in_any _ _ _ _)))
              go_wp2
              go_ret
              refine ⟨?_, ?_⟩
              · simp only [validB, crsOk]
                rw [range_all_false (crAt (lenSum r.ps) r.cs) hlt (by simp only [crAt, HP.out, HQ.out, t1, t2, t4', Option.getD_some]; simp; omega)]
                simp
              · exact bdrewN (bthen hI.below (balloc _ _)) _
            · have t4' : decide (p.at_ ≤ q.at_) = false := by simpa using t4
              go_wp2_with (fail)
              go_quiet ((go_at_call 50; exact quiet_left (in_any _ _ _ _)))
              go_wp2
              go_roundw
              case rel => exact ⟨k + 1, by omega, by go_num, range_all_succ _ _ HS.out (by simp only [crAt, HP.out, HQ.out, t1, t2, t4', Option.getD_some]; simp), (hI.step (bdrewN (balloc _ _) _))⟩
              case measure => simp [intOf]; omega
          · have f5 : decide (0 < (k : Int)) = false := by simpa using hk0
            go_wp2_with (fail)
            go_quiet ((go_at_call 50; exact quiet_left (in_any _ _ _ _)))
            go_wp2
            go_roundw
            case rel => exact ⟨k + 1, by omega, by go_num, range_all_succ _ _ HS.out (by simp only [crAt, HP.out, t1, t2]; simp; omega), (hI.step (bdrewN (balloc _ _) _))⟩
            case measure => simp [intOf]; omega
        · obtain rfl : k = r.cs.length := by omega
          have HC := Lib.hid HS.out
          clear HS
          go_wp2_with fail
          clear b0 b1 b2
          go_loopw [7] (fun i wr => ∃ k : Nat, k ≤ r.js.length ∧ i = .int .i64 k ∧ (List.range k).all (jnAt (lenSum r.ps) r.js) = true ∧ InR w wr r A B C a b c) (fun i _ => r.js.length - (intOf i).toNat)
          case atStart => exact ⟨0, Nat.zero_le _, rfl, rfl, hI⟩
          case round =>
            clear hI
            obtain ⟨k, hk, rfl, hs, hI⟩ := hrel
            have HS := Lib.hid hs
            clear hs
            have b0 := hI.box.2 0 _ rfl
            have b1 := hI.box.2 1 _ rfl
            have b2 := hI.box.2 2 _ rfl
            by_cases hlt : k < r.js.length
            · obtain ⟨p, hp⟩ := getElem?_ex hlt
              obtain ⟨bb, o, hA, hbb, c0, c1, c2⟩ := (hI.rd h).j.at3 hp
              subst hA
              have HP := Lib.hid hp
              clear hp
              cases t1 : inB p.at_ 0 (lenSum r.ps)
              · go_wp2_with (fail)
                go_quiet ((go_at_call 50; exact quiet_left (in_any _ _ _ _)))
                go_wp2
                go_ret
                refine ⟨?_, ?_⟩
                · simp only [validB, jnsOk]
                  rw [range_all_false (jnAt (lenSum r.ps) r.js) hlt (by simp only [jnAt, HP.out, t1]; rfl)]
                  simp
                · exact bdrewN (bthen hI.below (balloc _ _)) _
              cases t2 : inB p.arms 2 6
              · go_wp2_with (fail)
                go_quiet ((go_at_call 50; exact quiet_left (in_any _ _ _ _)))
                go_wp2
                go_ret
                refine ⟨?_, ?_⟩
                · simp only [validB, jnsOk]
                  rw [range_all_false (jnAt (lenSum r.ps) r.js) hlt (by simp only [jnAt, HP.out, t1, t2]; rfl)]
                  simp
                · exact bdrewN (bthen hI.below (balloc _ _)) _
              cases t3 : inB p.way 1 p.arms
              · go_wp2_with (fail)
                go_quiet ((go_at_call 50; exact quiet_left (in_any _ _ _ _)))
                go_wp2
                go_ret
                refine ⟨?_, ?_⟩
                · simp only [validB, jnsOk]
                  rw [range_all_false (jnAt (lenSum r.ps) r.js) hlt (by simp only [jnAt, HP.out, t1, t2, t3]; rfl)]
                  simp
                · exact bdrewN (bthen hI.below (balloc _ _)) _
              by_cases hk0 : 0 < k
              · obtain ⟨q, hq⟩ := getElem?_ex (show k - 1 < r.js.length by omega)
                obtain ⟨bb', o', hA, hbb', e0, e1, e2⟩ := (hI.rd h).j.at3 hq
                obtain ⟨rfl, rfl⟩ : bb = bb' ∧ o = o' := by simpa using hA
                have HQ := Lib.hid hq
                clear hq hA
                have hz : w.heap.size < wr.heap.size := hI.box.1
                have f1 : IntKind.i64.wrap ((k : Int) - 1) = (k : Int) - 1 := IntWalk.i64_in _ (by omega)
                have f2 : 0 ≤ (k : Int) - 1 := by omega
                have f3 : ((k : Int) - 1).toNat = k - 1 := by omega
                have f4 : (k : Int) - 1 < r.js.length := by omega
                have f5 : decide (0 < (k : Int)) = true := by simpa using hk0
                by_cases t4 : p.at_ ≤ q.at_
                · have t4' : decide (p.at_ ≤ q.at_) = true := by simpa using t4
                  go_wp2_with (fail)
                  go_quiet ((go_at_call 50; exact quiet_left (in_any _ _ _ _)))
                  go_wp2
                  go_ret
                  refine ⟨?_, ?_⟩
                  · simp only [validB, jnsOk]
                    rw [range_all_false (jnAt (lenSum r.ps) r.js) hlt (by simp only [jnAt, HP.out, HQ.out, t1, t2, t3, t4', Option.getD_some]; simp; omega)]
                    simp
                  · exact bdrewN (bthen hI.below (balloc _ _)) _
                · have t4' : decide (p.at_ ≤ q.at_) = false := by simpa using t4
                  go_wp2_with (fail)
                  go_quiet ((go_at_call 50; exact quiet_left (in_any _ _ _ _)))
                  go_wp2
                  go_roundw
                  case rel => exact ⟨k + 1, by omega, by go_num, range_all_succ _ _ HS.out (by simp only [jnAt, HP.out, HQ.out, t1, t2, t3, t4', Option.getD_some]; simp), (hI.step (bdrewN (balloc _ _) _))⟩
                  case measure => simp [intOf]; omega
              · have f5 : decide (0 < (k : Int)) = false := by simpa using hk0
                go_wp2_with (fail)
                go_quiet ((go_at_call 50; exact quiet_left (in_any _ _ _ _)))
                go_wp2
                go_roundw
                case rel => exact ⟨k + 1, by omega, by go_num, range_all_succ _ _ HS.out (by simp only [jnAt, HP.out, t1, t2, t3]; simp; omega), (hI.step (bdrewN (balloc _ _) _))⟩
                case measure => simp [intOf]; omega
            · obtain rfl : k = r.js.length := by omega
              go_wp2
              go_ret
              exact ⟨by simp [validB, crsOk, jnsOk, HA.out, HC.out, HS.out]; omega, hI.below⟩


end Go.Proofs.Ytbdjmaogbpdkpaa

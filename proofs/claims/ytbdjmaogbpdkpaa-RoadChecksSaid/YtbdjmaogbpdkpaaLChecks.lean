import Derived.Test.YtbdjmaogbpdkpaaKnown
import Derived.Test.YtbdjmaogbpdkpaaBad
import Derived.Test.YtbdjmaogbpdkpaaNone
import Derived.Test.YtbdjmaogbpdkpaaMk4
/-
  The law RoadChecks, walked: it answers true.
-/
namespace Go.Proofs.Ytbdjmaogbpdkpaa
open Go Go.RowKit Go.Shelf
set_option linter.unusedVariables false
set_option linter.unusedSimpArgs false
attribute [local go_sem] Later.cell Later.cell1 Later.new1 Later.frozen Later.frozen1

def IsV4 (x v : Value) (_ : World) : Prop := v = x
theorem stays_isv4 (x v : Value) : Stays (IsV4 x v) := fun _ _ h _ => h
/-- A road by value, whichever. -/
def AnyRoad (v : Value) (W : World) : Prop := ∃ (q : Road) (A B C : Option Addr) (a b c : Nat), v = .agg #[.slice A q.ps.length a, .slice B q.cs.length b, .slice C q.js.length c]
theorem stays_anyroad (v : Value) : Stays (AnyRoad v) := fun _ _ h _ => h

theorem Blk.set_same {w : World} {g : Nat} {t : TypeId} {cs : Array Value} (h : Blk w g t cs) {i : Nat} {v : Value} (hv : cs[i]? = some v) : w.setCell ⟨g, i, none⟩ v = w := by
  have hs : cs.setIfInBounds i v = cs := by
    apply Array.ext_getElem?
    intro k
    rw [Array.getElem?_setIfInBounds]
    split
    · rename_i e
      subst e
      obtain ⟨hi, _⟩ := Array.getElem?_eq_some_iff.1 hv
      rw [if_pos hi, hv]
    · rfl
  have hh : w.heap.modify g (fun | .cells c elem frozen => .cells (if (none : Option Nat).isSome then c else c.setIfInBounds i v) elem frozen | o => o) = w.heap := by
    apply Array.ext_getElem?
    intro k
    rw [Array.getElem?_modify]
    split
    · rename_i e
      subst e
      unfold Blk at h
      rw [h]
      simp [hs]
    · rfl
  show ({ w with heap := _ } : World) = w
  have := hh
  cases w
  simp only at this ⊢
  congr 1
def Done (_ : Value) (_ : World) : Prop := True
theorem stays_done (v : Value) : Stays (Done v) := fun _ _ _ _ => trivial

set_option maxRecDepth 100000 in
set_option maxHeartbeats 16000000 in
theorem checkslaw_any (r : Road) (A B C : Option Addr) (a b c : Nat) (w : World) (h : RdRoad w r A B C) :
    Calls Try.prog 16 #[.agg #[.slice A r.ps.length a, .slice B r.cs.length b, .slice C r.js.length c]] w fun e w' => e = .returned (.bool true) ∧ Below w.heap.size w w' := by
  have hR0 : InR w (w.alloc (.cells #[.slice A r.ps.length a, .slice B r.cs.length b, .slice C r.js.length c] 26)) r A B C a b c := InR.new w r A B C a b c
  cases hs : smallB r
  · go_enter Try.func16, Try.ntmps16
    go_wp2_with fail
    refine (small_any r A B C a b c _ (hR0.rd h)).mono ?_
    rintro e W1 ⟨rfl, hb1⟩
    have hI1 := hR0.step hb1
    have b0 := hI1.box.2 0 _ rfl
    have b1 := hI1.box.2 1 _ rfl
    have b2 := hI1.box.2 2 _ rfl
    have bs := hI1.box.1
    go_wp2_with fail
    refine (known_any _).mono ?_
    rintro e W2 ⟨rfl, hb2⟩
    have hI2 := hI1.step hb2
    clear b0 b1 b2 bs
    have b0 := hI2.box.2 0 _ rfl
    have b1 := hI2.box.2 1 _ rfl
    have b2 := hI2.box.2 2 _ rfl
    have bs := hI2.box.1
    go_wp2_with fail
    go_ret
    exact ⟨rfl, hI2.below⟩
  cases hv : validB r
  case true =>
    have hE := checkE_true hv
    have hok := (validB_ok hv).1
    have hlen := hok.2
    have HLB : Hid (lensOk r.ps 100000) := Lib.hid (fun p hp => ⟨(hok.lens p hp).1, by have := (hok.lens p hp).2; omega⟩)
    have HLV : Hid (lengthV r = lenSum r.ps) := Lib.hid (by simp [lengthV, hv])
    go_enter Try.func16, Try.ntmps16
    go_wp2_with fail
    refine (small_any r A B C a b c _ (hR0.rd h)).mono ?_
    rintro e W1 ⟨rfl, hb1⟩
    have hI1 := hR0.step hb1
    have b0 := hI1.box.2 0 _ rfl
    have b1 := hI1.box.2 1 _ rfl
    have b2 := hI1.box.2 2 _ rfl
    have bs := hI1.box.1
    go_wp2_with fail
    refine (length_any r A B C a b c _ (hI1.rd h)).mono ?_
    rintro e W2 ⟨rfl, hb2⟩
    have hI2 := hI1.step hb2
    clear b0 b1 b2 bs
    have b0 := hI2.box.2 0 _ rfl
    have b1 := hI2.box.2 1 _ rfl
    have b2 := hI2.box.2 2 _ rfl
    have bs := hI2.box.1
    go_wp2_with fail
    refine (rvalid_any r A B C a b c _ (hI2.rd h)).mono ?_
    rintro e W3 ⟨rfl, hb3⟩
    have hI3 := hI2.step hb3
    clear b0 b1 b2 bs
    have b0 := hI3.box.2 0 _ rfl
    have b1 := hI3.box.2 1 _ rfl
    have b2 := hI3.box.2 2 _ rfl
    have bs := hI3.box.1
    go_wp2_with fail
    refine (check_any r A B C a b c _ (hI3.rd h)).mono ?_
    rintro e W4 ⟨rfl, hb4⟩
    have hI4 := hI3.step hb4
    clear b0 b1 b2 bs
    have b0 := hI4.box.2 0 _ rfl
    have b1 := hI4.box.2 1 _ rfl
    have b2 := hI4.box.2 2 _ rfl
    have bs := hI4.box.1
    go_wp2_with fail
    refine (rlength_any r A B C a b c _ (hI4.rd h) HLB.out (by omega)).mono ?_
    rintro e W5 ⟨rfl, hb5⟩
    have hI5 := hI4.step hb5
    clear b0 b1 b2 bs
    have b0 := hI5.box.2 0 _ rfl
    have b1 := hI5.box.2 1 _ rfl
    have b2 := hI5.box.2 2 _ rfl
    have bs := hI5.box.1
    go_wp2_with fail
    refine (known_any _).mono ?_
    rintro e W6 ⟨rfl, hb6⟩
    have hI6 := hI5.step hb6
    clear b0 b1 b2 bs
    have b0 := hI6.box.2 0 _ rfl
    have b1 := hI6.box.2 1 _ rfl
    have b2 := hI6.box.2 2 _ rfl
    have bs := hI6.box.1
    go_wp2_with fail
    go_ret
    exact ⟨rfl, hI6.below⟩
  have hE := checkE_false hv
  have HLV : Hid (lengthV r = 0) := Lib.hid (by simp [lengthV, hv])
  have HV := Lib.hid hv
  go_enter Try.func16, Try.ntmps16
  go_wp2_with fail
  refine (small_any r A B C a b c _ (hR0.rd h)).mono ?_
  rintro e W1 ⟨rfl, hb1⟩
  have hI1 := hR0.step hb1
  have b0 := hI1.box.2 0 _ rfl
  have b1 := hI1.box.2 1 _ rfl
  have b2 := hI1.box.2 2 _ rfl
  have bs := hI1.box.1
  go_wp2_with fail
  refine (length_any r A B C a b c _ (hI1.rd h)).mono ?_
  rintro e W2 ⟨rfl, hb2⟩
  have hI2 := hI1.step hb2
  clear b0 b1 b2 bs
  have b0 := hI2.box.2 0 _ rfl
  have b1 := hI2.box.2 1 _ rfl
  have b2 := hI2.box.2 2 _ rfl
  have bs := hI2.box.1
  rw [HLV.out]
  go_wp2_with fail
  refine (rvalid_any r A B C a b c _ (hI2.rd h)).mono ?_
  rintro e W3 ⟨rfl, hb3⟩
  have hI3 := hI2.step hb3
  clear b0 b1 b2 bs
  have b0 := hI3.box.2 0 _ rfl
  have b1 := hI3.box.2 1 _ rfl
  have b2 := hI3.box.2 2 _ rfl
  have bs := hI3.box.1
  go_wp2_with fail
  refine (Find_bad r A B C a b c 0 _ (hI3.rd h) HV.out).mono ?_
  rintro e W4 ⟨rfl, hb4⟩
  have hI4 := hI3.step hb4
  clear b0 b1 b2 bs
  have b0 := hI4.box.2 0 _ rfl
  have b1 := hI4.box.2 1 _ rfl
  have b2 := hI4.box.2 2 _ rfl
  have bs := hI4.box.1
  go_wp2_with fail
  refine (turning_bad r A B C a b c 0 0 _ (hI4.rd h) HV.out).mono ?_
  rintro e W5 ⟨rfl, hb5⟩
  have hI5 := hI4.step hb5
  clear b0 b1 b2 bs
  have b0 := hI5.box.2 0 _ rfl
  have b1 := hI5.box.2 1 _ rfl
  have b2 := hI5.box.2 2 _ rfl
  have bs := hI5.box.1
  go_wp2_with fail
  refine (corners_bad r A B C a b c 0 1 _ (hI5.rd h) HV.out).mono ?_
  rintro e W6 ⟨rfl, hb6⟩
  have hI6 := hI5.step hb6
  clear b0 b1 b2 bs
  have b0 := hI6.box.2 0 _ rfl
  have b1 := hI6.box.2 1 _ rfl
  have b2 := hI6.box.2 2 _ rfl
  have bs := hI6.box.1
  go_wp2_with fail
  refine (sight_bad r A B C a b c 1 1 0 _ (hI6.rd h) HV.out).mono ?_
  rintro e W7 ⟨rfl, hb7⟩
  have hI7 := hI6.step hb7
  clear b0 b1 b2 bs
  have b0 := hI7.box.2 0 _ rfl
  have b1 := hI7.box.2 1 _ rfl
  have b2 := hI7.box.2 2 _ rfl
  have bs := hI7.box.1
  go_wp2_with fail
  refine (Normal_bad r A B C a b c _ (hI7.rd h) HV.out).mono ?_
  rintro e W8 ⟨rfl, hb8⟩
  have hI8 := hI7.step hb8
  clear b0 b1 b2 bs
  have b0 := hI8.box.2 0 _ rfl
  have b1 := hI8.box.2 1 _ rfl
  have b2 := hI8.box.2 2 _ rfl
  have bs := hI8.box.1
  go_upto_region 11 with fail
  have hp9 : Blk (W8.alloc (.cells #[.slice none 0 0, .slice none 0 0, .slice none 0 0] 26)) W8.heap.size 26 #[.slice none 0 0, .slice none 0 0, .slice none 0 0] := Blk.new _ _ _
  have hbb : Below W8.heap.size W8 (W8.alloc (.cells #[.slice none 0 0, .slice none 0 0, .slice none 0 0] 26)) := balloc _ _
  obtain ⟨W9, hW⟩ : ∃ X, X = W8.alloc (.cells #[.slice none 0 0, .slice none 0 0, .slice none 0 0] 26) := ⟨_, rfl⟩
  rw [← hW] at hp9 hbb ⊢
  obtain ⟨Np, hN⟩ : ∃ X, X = W8.heap.size := ⟨_, rfl⟩
  rw [← hN] at hp9 ⊢
  have hI9 := hI8.step hbb
  clear hW hN hbb b0 b1 b2 bs
  have b0 := hI9.box.2 0 _ rfl
  have b1 := hI9.box.2 1 _ rfl
  have b2 := hI9.box.2 2 _ rfl
  have bs := hI9.box.1
  go_wp2_with fail
  refine (part_bad r A B C a b c 0 1 _ (hI9.rd h) HV.out).mono ?_
  rintro e W10 ⟨rfl, hb10⟩
  have hI10 := hI9.step hb10
  have hp10 := hp9.below hb10 hp9.lt
  clear b0 b1 b2 bs
  have b0 := hI10.box.2 0 _ rfl
  have b1 := hI10.box.2 1 _ rfl
  have b2 := hI10.box.2 2 _ rfl
  have bs := hI10.box.1
  go_upto_region 12 with fail
  have hq11 : Blk (W10.alloc (.cells #[.slice none 0 0, .slice none 0 0, .slice none 0 0] 26)) W10.heap.size 26 #[.slice none 0 0, .slice none 0 0, .slice none 0 0] := Blk.new _ _ _
  have hbb : Below W10.heap.size W10 (W10.alloc (.cells #[.slice none 0 0, .slice none 0 0, .slice none 0 0] 26)) := balloc _ _
  obtain ⟨W11, hW⟩ : ∃ X, X = W10.alloc (.cells #[.slice none 0 0, .slice none 0 0, .slice none 0 0] 26) := ⟨_, rfl⟩
  rw [← hW] at hq11 hbb ⊢
  obtain ⟨Nq, hN⟩ : ∃ X, X = W10.heap.size := ⟨_, rfl⟩
  rw [← hN] at hq11 ⊢
  have hI11 := hI10.step hbb
  have hp11 := hp10.below hbb hp10.lt
  clear hW hN hbb b0 b1 b2 bs
  have b0 := hI11.box.2 0 _ rfl
  have b1 := hI11.box.2 1 _ rfl
  have b2 := hI11.box.2 2 _ rfl
  have bs := hI11.box.1
  have hrd := hI11.rd h
  refine Mk4.wp_region_mk_tail 8 (fun j => match j with | 1 => some AnyRoad | 2 => some (IsV4 (.tuple #[.agg #[.slice none 0 0, .slice none 0 0, .slice none 0 0], .int .i64 2])) | 6 => some (NewBlk W11.heap.size 26 #[.slice none 0 0, .slice none 0 0, .slice none 0 0]) | 7 => some Done | _ => none) (fun j => match j with | 7 => [6] | _ => []) (by kernel_rfl) (by kernel_rfl) (by kernel_rfl) ?hmk ?_
  case hmk =>
    intro j S hS v
    split at hS <;> first | (injection hS with hS; subst hS; first | exact stays_isv4 _ _ | exact stays_done _ | exact stays_anyroad _ | exact stays_blk _ _ _ _) | cases hS
  simp only [List.take_succ_cons, List.take_zero, List.drop_succ_cons, List.drop_zero]
  refine Mk4.wpM_reads [_] (_ :: _) _ _ _ (by kernel_rfl) (by intro j hj; rcases (show j = 0 by simp at hj; omega) with rfl; exact ⟨rfl, rfl⟩) ?_
  repeat (go_big_quiet_step (fail))
  refine wpQuiet_nil ?_
  refine Mk4.wpM_make rfl rfl rfl ?_ ?_
  · intro x hx _
    unfold Mk4.makesAt
    go_simp
    exact (example_any x).mono fun e w' ⟨⟨A, B, a, b, he, _⟩, hb⟩ => ⟨_, he, ⟨exR, A, B, none, a, b, 0, rfl⟩, (fun _ e => by cases e), hb⟩
  rintro v ⟨_, x, hx, ⟨_, ⟨q, A1, B1, C1, a1, b1', c1, rfl⟩, _⟩, _⟩
  go_simp
  refine Mk4.wpM_make rfl rfl rfl ?_ ?_
  · intro x hx _
    unfold Mk4.makesAt
    go_simp
    exact (join_bad r q A B C A1 B1 C1 a b c a1 b1' c1 x (hrd.below hx) HV.out).mono fun e w' ⟨he, hb⟩ => ⟨_, he, rfl, (fun _ e => by cases e), hb⟩
  rintro v ⟨_, x, hx, ⟨_, hv2, _⟩, _⟩
  obtain rfl : v = _ := hv2
  go_simp
  refine Mk4.wpM_reads [_, _, _] (_ :: _) _ _ _ (by kernel_rfl) (by intro j hj; rcases (show j = 0 ∨ j = 1 ∨ j = 2 by simp at hj; omega) with rfl | rfl | rfl <;> exact ⟨rfl, rfl⟩) ?_
  repeat (go_big_quiet_step (fail))
  refine wpQuiet_nil ?_
  refine Mk4.wpM_make rfl rfl rfl ?_ ?_
  · intro x hx _
    unfold Mk4.makesAt
    go_simp
    exact ⟨⟨_, rfl, hx.size, Blk.new _ _ _⟩, (fun q e => by injection e with e; injection e with e; subst e; exact ⟨Nat.le_refl _, by simp⟩), balloc _ _⟩
  rintro v ⟨_, x, hx', ⟨_, ⟨n, rfl, hn, _⟩, _⟩, _⟩
  go_simp
  refine Mk4.wpM_make rfl rfl rfl ?_ ?_
  · intro x hx hd
    obtain ⟨n', e', hn', hk'⟩ := (hd 6 (by simp)).2 rfl
    injection e' with e'
    injection e' with e'
    injection e' with e'
    subst e'
    have k0 := hk'.frozen 0
    have k1 := hk'.frozen 1
    have k2 := hk'.frozen 2
    have m0 := hk'.cell 0
    have m1 := hk'.cell 1
    have m2 := hk'.cell 2
    have kl := hk'.lt
    unfold Mk4.makesAt
    go_simp
    rw [hk'.set_same rfl, hk'.set_same rfl, hk'.set_same rfl]
    first | exact ⟨trivial, Below.refl _ _⟩ | exact ⟨rfl, trivial, Below.refl _ _⟩ | exact Below.refl _ _
  rintro v _
  go_simp
  refine Mk4.wpM_nil ?_
  rintro W13 hbb ⟨⟨⟨_, _, _⟩, ⟨n', e', hn', hk'⟩, _⟩, _⟩
  injection e' with e'
  injection e' with e'
  injection e' with e'
  subst e'
  clear hx hx' hn b0 b1 b2 bs
  have hu13 := hk'
  go_upto_region 13 with fail
  have hI13 := hI11.step hbb
  have hp13 := hp11.below hbb hp11.lt
  have hq13 := hq11.below hbb hq11.lt
  clear hbb hk'
  have b0 := hI13.box.2 0 _ rfl
  have b1 := hI13.box.2 1 _ rfl
  have b2 := hI13.box.2 2 _ rfl
  have bs := hI13.box.1
  go_wp2_with fail
  refine (Reverse_bad r A B C a b c _ (hI13.rd h) HV.out).mono ?_
  rintro e W14 ⟨rfl, hb14⟩
  have hI14 := hI13.step hb14
  have hp14 := hp13.below hb14 hp13.lt
  have hq14 := hq13.below hb14 hq13.lt
  have hu14 := hu13.below hb14 hu13.lt
  clear b0 b1 b2 bs
  have b0 := hI14.box.2 0 _ rfl
  have b1 := hI14.box.2 1 _ rfl
  have b2 := hI14.box.2 2 _ rfl
  have bs := hI14.box.1
  go_upto_region 14 with fail
  have hx15 : Blk (W14.alloc (.cells #[.slice none 0 0, .slice none 0 0, .slice none 0 0] 26)) W14.heap.size 26 #[.slice none 0 0, .slice none 0 0, .slice none 0 0] := Blk.new _ _ _
  have hbb : Below W14.heap.size W14 (W14.alloc (.cells #[.slice none 0 0, .slice none 0 0, .slice none 0 0] 26)) := balloc _ _
  obtain ⟨W15, hW⟩ : ∃ X, X = W14.alloc (.cells #[.slice none 0 0, .slice none 0 0, .slice none 0 0] 26) := ⟨_, rfl⟩
  rw [← hW] at hx15 hbb ⊢
  obtain ⟨Nx, hN⟩ : ∃ X, X = W14.heap.size := ⟨_, rfl⟩
  rw [← hN] at hx15 ⊢
  have hI15 := hI14.step hbb
  have hp15 := hp14.below hbb hp14.lt
  have hq15 := hq14.below hbb hq14.lt
  have hu15 := hu14.below hbb hu14.lt
  clear hW hN hbb b0 b1 b2 bs
  have b0 := hI15.box.2 0 _ rfl
  have b1 := hI15.box.2 1 _ rfl
  have b2 := hI15.box.2 2 _ rfl
  have bs := hI15.box.1
  go_wp2_with fail
  refine (compare_bad r r A B C A B C a b c a b c 0 _ (hI15.rd h) HV.out).mono ?_
  rintro e W16 ⟨rfl, hb16⟩
  have hI16 := hI15.step hb16
  have hp16 := hp15.below hb16 hp15.lt
  have hq16 := hq15.below hb16 hq15.lt
  have hu16 := hu15.below hb16 hu15.lt
  have hx16 := hx15.below hb16 hx15.lt
  clear b0 b1 b2 bs
  have b0 := hI16.box.2 0 _ rfl
  have b1 := hI16.box.2 1 _ rfl
  have b2 := hI16.box.2 2 _ rfl
  have bs := hI16.box.1
  go_wp2_with fail
  refine (safer_bad r r A B C A B C a b c a b c _ (hI16.rd h) HV.out).mono ?_
  rintro e W17 ⟨rfl, hb17⟩
  have hI17 := hI16.step hb17
  have hp17 := hp16.below hb17 hp16.lt
  have hq17 := hq16.below hb17 hq16.lt
  have hu17 := hu16.below hb17 hu16.lt
  have hx17 := hx16.below hb17 hx16.lt
  clear b0 b1 b2 bs
  have b0 := hI17.box.2 0 _ rfl
  have b1 := hI17.box.2 1 _ rfl
  have b2 := hI17.box.2 2 _ rfl
  have bs := hI17.box.1
  go_upto_region 16 with fail
  have hy18 : Blk (W17.alloc (.cells #[.slice none 0 0, .slice none 0 0, .slice none 0 0] 26)) W17.heap.size 26 #[.slice none 0 0, .slice none 0 0, .slice none 0 0] := Blk.new _ _ _
  have hbb : Below W17.heap.size W17 (W17.alloc (.cells #[.slice none 0 0, .slice none 0 0, .slice none 0 0] 26)) := balloc _ _
  obtain ⟨W18, hW⟩ : ∃ X, X = W17.alloc (.cells #[.slice none 0 0, .slice none 0 0, .slice none 0 0] 26) := ⟨_, rfl⟩
  rw [← hW] at hy18 hbb ⊢
  obtain ⟨Ny, hN⟩ : ∃ X, X = W17.heap.size := ⟨_, rfl⟩
  rw [← hN] at hy18 ⊢
  have hI18 := hI17.step hbb
  have hp18 := hp17.below hbb hp17.lt
  have hq18 := hq17.below hbb hq17.lt
  have hu18 := hu17.below hbb hu17.lt
  have hx18 := hx17.below hbb hx17.lt
  clear hW hN hbb b0 b1 b2 bs
  have b0 := hI18.box.2 0 _ rfl
  have b1 := hI18.box.2 1 _ rfl
  have b2 := hI18.box.2 2 _ rfl
  have bs := hI18.box.1
  have p0 := hp18.cell 0
  have p1 := hp18.cell 1
  have p2 := hp18.cell 2
  have pl := hp18.lt
  have q0 := hq18.cell 0
  have q1 := hq18.cell 1
  have q2 := hq18.cell 2
  have ql := hq18.lt
  have u0 := hu18.cell 0
  have u1 := hu18.cell 1
  have u2 := hu18.cell 2
  have ul := hu18.lt
  have x0 := hx18.cell 0
  have x1 := hx18.cell 1
  have x2 := hx18.cell 2
  have xl := hx18.lt
  have y0 := hy18.cell 0
  have y1 := hy18.cell 1
  have y2 := hy18.cell 2
  have yl := hy18.lt
  go_wp2_with fail
  refine (check_any r A B C a b c _ (hI18.rd h)).mono ?_
  rintro e W19 ⟨rfl, hb19⟩
  have hI19 := hI18.step hb19
  have hp19 := hp18.below hb19 hp18.lt
  have hq19 := hq18.below hb19 hq18.lt
  have hu19 := hu18.below hb19 hu18.lt
  have hx19 := hx18.below hb19 hx18.lt
  have hy19 := hy18.below hb19 hy18.lt
  clear b0 b1 b2 bs
  have b0 := hI19.box.2 0 _ rfl
  have b1 := hI19.box.2 1 _ rfl
  have b2 := hI19.box.2 2 _ rfl
  have bs := hI19.box.1
  clear p0 p1 p2 pl q0 q1 q2 ql u0 u1 u2 ul x0 x1 x2 xl y0 y1 y2 yl
  have p0 := hp19.cell 0
  have p1 := hp19.cell 1
  have p2 := hp19.cell 2
  have pl := hp19.lt
  have q0 := hq19.cell 0
  have q1 := hq19.cell 1
  have q2 := hq19.cell 2
  have ql := hq19.lt
  have u0 := hu19.cell 0
  have u1 := hu19.cell 1
  have u2 := hu19.cell 2
  have ul := hu19.lt
  have x0 := hx19.cell 0
  have x1 := hx19.cell 1
  have x2 := hx19.cell 2
  have xl := hx19.lt
  have y0 := hy19.cell 0
  have y1 := hy19.cell 1
  have y2 := hy19.cell 2
  have yl := hy19.lt
  go_wp2_with fail
  refine (none_nil _).mono ?_
  rintro e W20 ⟨rfl, hb20⟩
  have hI20 := hI19.step hb20
  have hp20 := hp19.below hb20 hp19.lt
  have hq20 := hq19.below hb20 hq19.lt
  have hu20 := hu19.below hb20 hu19.lt
  have hx20 := hx19.below hb20 hx19.lt
  have hy20 := hy19.below hb20 hy19.lt
  clear b0 b1 b2 bs
  have b0 := hI20.box.2 0 _ rfl
  have b1 := hI20.box.2 1 _ rfl
  have b2 := hI20.box.2 2 _ rfl
  have bs := hI20.box.1
  clear p0 p1 p2 pl q0 q1 q2 ql u0 u1 u2 ul x0 x1 x2 xl y0 y1 y2 yl
  have p0 := hp20.cell 0
  have p1 := hp20.cell 1
  have p2 := hp20.cell 2
  have pl := hp20.lt
  have q0 := hq20.cell 0
  have q1 := hq20.cell 1
  have q2 := hq20.cell 2
  have ql := hq20.lt
  have u0 := hu20.cell 0
  have u1 := hu20.cell 1
  have u2 := hu20.cell 2
  have ul := hu20.lt
  have x0 := hx20.cell 0
  have x1 := hx20.cell 1
  have x2 := hx20.cell 2
  have xl := hx20.lt
  have y0 := hy20.cell 0
  have y1 := hy20.cell 1
  have y2 := hy20.cell 2
  have yl := hy20.lt
  go_wp2_with fail
  refine (none_nil _).mono ?_
  rintro e W21 ⟨rfl, hb21⟩
  have hI21 := hI20.step hb21
  have hp21 := hp20.below hb21 hp20.lt
  have hq21 := hq20.below hb21 hq20.lt
  have hu21 := hu20.below hb21 hu20.lt
  have hx21 := hx20.below hb21 hx20.lt
  have hy21 := hy20.below hb21 hy20.lt
  clear b0 b1 b2 bs
  have b0 := hI21.box.2 0 _ rfl
  have b1 := hI21.box.2 1 _ rfl
  have b2 := hI21.box.2 2 _ rfl
  have bs := hI21.box.1
  clear p0 p1 p2 pl q0 q1 q2 ql u0 u1 u2 ul x0 x1 x2 xl y0 y1 y2 yl
  have p0 := hp21.cell 0
  have p1 := hp21.cell 1
  have p2 := hp21.cell 2
  have pl := hp21.lt
  have q0 := hq21.cell 0
  have q1 := hq21.cell 1
  have q2 := hq21.cell 2
  have ql := hq21.lt
  have u0 := hu21.cell 0
  have u1 := hu21.cell 1
  have u2 := hu21.cell 2
  have ul := hu21.lt
  have x0 := hx21.cell 0
  have x1 := hx21.cell 1
  have x2 := hx21.cell 2
  have xl := hx21.lt
  have y0 := hy21.cell 0
  have y1 := hy21.cell 1
  have y2 := hy21.cell 2
  have yl := hy21.lt
  go_wp2_with fail
  refine (none_nil _).mono ?_
  rintro e W22 ⟨rfl, hb22⟩
  have hI22 := hI21.step hb22
  have hp22 := hp21.below hb22 hp21.lt
  have hq22 := hq21.below hb22 hq21.lt
  have hu22 := hu21.below hb22 hu21.lt
  have hx22 := hx21.below hb22 hx21.lt
  have hy22 := hy21.below hb22 hy21.lt
  clear b0 b1 b2 bs
  have b0 := hI22.box.2 0 _ rfl
  have b1 := hI22.box.2 1 _ rfl
  have b2 := hI22.box.2 2 _ rfl
  have bs := hI22.box.1
  clear p0 p1 p2 pl q0 q1 q2 ql u0 u1 u2 ul x0 x1 x2 xl y0 y1 y2 yl
  have p0 := hp22.cell 0
  have p1 := hp22.cell 1
  have p2 := hp22.cell 2
  have pl := hp22.lt
  have q0 := hq22.cell 0
  have q1 := hq22.cell 1
  have q2 := hq22.cell 2
  have ql := hq22.lt
  have u0 := hu22.cell 0
  have u1 := hu22.cell 1
  have u2 := hu22.cell 2
  have ul := hu22.lt
  have x0 := hx22.cell 0
  have x1 := hx22.cell 1
  have x2 := hx22.cell 2
  have xl := hx22.lt
  have y0 := hy22.cell 0
  have y1 := hy22.cell 1
  have y2 := hy22.cell 2
  have yl := hy22.lt
  go_wp2_with fail
  refine (none_nil _).mono ?_
  rintro e W23 ⟨rfl, hb23⟩
  have hI23 := hI22.step hb23
  have hp23 := hp22.below hb23 hp22.lt
  have hq23 := hq22.below hb23 hq22.lt
  have hu23 := hu22.below hb23 hu22.lt
  have hx23 := hx22.below hb23 hx22.lt
  have hy23 := hy22.below hb23 hy22.lt
  clear b0 b1 b2 bs
  have b0 := hI23.box.2 0 _ rfl
  have b1 := hI23.box.2 1 _ rfl
  have b2 := hI23.box.2 2 _ rfl
  have bs := hI23.box.1
  clear p0 p1 p2 pl q0 q1 q2 ql u0 u1 u2 ul x0 x1 x2 xl y0 y1 y2 yl
  have p0 := hp23.cell 0
  have p1 := hp23.cell 1
  have p2 := hp23.cell 2
  have pl := hp23.lt
  have q0 := hq23.cell 0
  have q1 := hq23.cell 1
  have q2 := hq23.cell 2
  have ql := hq23.lt
  have u0 := hu23.cell 0
  have u1 := hu23.cell 1
  have u2 := hu23.cell 2
  have ul := hu23.lt
  have x0 := hx23.cell 0
  have x1 := hx23.cell 1
  have x2 := hx23.cell 2
  have xl := hx23.lt
  have y0 := hy23.cell 0
  have y1 := hy23.cell 1
  have y2 := hy23.cell 2
  have yl := hy23.lt
  go_wp2_with fail
  refine (none_nil _).mono ?_
  rintro e W24 ⟨rfl, hb24⟩
  have hI24 := hI23.step hb24
  have hp24 := hp23.below hb24 hp23.lt
  have hq24 := hq23.below hb24 hq23.lt
  have hu24 := hu23.below hb24 hu23.lt
  have hx24 := hx23.below hb24 hx23.lt
  have hy24 := hy23.below hb24 hy23.lt
  clear b0 b1 b2 bs
  have b0 := hI24.box.2 0 _ rfl
  have b1 := hI24.box.2 1 _ rfl
  have b2 := hI24.box.2 2 _ rfl
  have bs := hI24.box.1
  clear p0 p1 p2 pl q0 q1 q2 ql u0 u1 u2 ul x0 x1 x2 xl y0 y1 y2 yl
  have p0 := hp24.cell 0
  have p1 := hp24.cell 1
  have p2 := hp24.cell 2
  have pl := hp24.lt
  have q0 := hq24.cell 0
  have q1 := hq24.cell 1
  have q2 := hq24.cell 2
  have ql := hq24.lt
  have u0 := hu24.cell 0
  have u1 := hu24.cell 1
  have u2 := hu24.cell 2
  have ul := hu24.lt
  have x0 := hx24.cell 0
  have x1 := hx24.cell 1
  have x2 := hx24.cell 2
  have xl := hx24.lt
  have y0 := hy24.cell 0
  have y1 := hy24.cell 1
  have y2 := hy24.cell 2
  have yl := hy24.lt
  go_wp2_with fail
  refine (known_any _).mono ?_
  rintro e W25 ⟨rfl, hb25⟩
  have hI25 := hI24.step hb25
  have hp25 := hp24.below hb25 hp24.lt
  have hq25 := hq24.below hb25 hq24.lt
  have hu25 := hu24.below hb25 hu24.lt
  have hx25 := hx24.below hb25 hx24.lt
  have hy25 := hy24.below hb25 hy24.lt
  clear b0 b1 b2 bs
  have b0 := hI25.box.2 0 _ rfl
  have b1 := hI25.box.2 1 _ rfl
  have b2 := hI25.box.2 2 _ rfl
  have bs := hI25.box.1
  go_wp2_with fail
  go_ret
  exact ⟨rfl, hI25.below⟩

end Go.Proofs.Ytbdjmaogbpdkpaa

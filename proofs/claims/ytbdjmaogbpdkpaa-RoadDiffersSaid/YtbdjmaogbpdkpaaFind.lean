import Derived.Test.YtbdjmaogbpdkpaaRefD
namespace Go.Proofs.Ytbdjmaogbpdkpaa
set_option linter.unusedVariables false
set_option linter.unusedSimpArgs false
open Go.RowKit
attribute [local go_sem] Later.cell Later.cell1 Later.new1 Later.frozen Later.frozen1

set_option maxHeartbeats 400000 in
theorem find1_any (r : Road) (A B C : Option Addr) (a b c : Nat) (G : Option Addr) (g M p1 p2 : Nat) (x m : Int) (w : World) (hM : Meas w M r A B C a b c G g) (h1 : Box w p1 [.pointer (some ⟨M, 0, none⟩)]) (h2 : Box w p2 [.int .i64 x]) (h0 : 0 ≤ m) (hm : m < r.ps.length) (hn : r.ps.length ≤ 2000) :
    Calls Try.prog 86 #[.int .i64 m, .pointer (some ⟨p1, 0, none⟩), .pointer (some ⟨p2, 0, none⟩)] w fun e w' => e = .returned (.bool (decide (x < lenSum (r.ps.take (m.toNat + 1))))) ∧ Below w.heap.size w w' := by
  have b0 := h1.2 0 _ rfl
  have b1 := h2.2 0 _ rfl
  have b3 := hM.box.2 3 _ rfl
  obtain ⟨k, rfl⟩ := Int.eq_ofNat_of_zero_le h0
  rw [Int.toNat_natCast]
  obtain ⟨gb, go, rfl, hlt, hc⟩ := hM.beg.at1 (begs_at r.ps (k + 1) (by omega))
  have f1 : IntKind.i64.wrap ((k : Int) + 1) = (k : Int) + 1 := IntWalk.i64_in _ (by omega)
  have f2 : ((k : Int) + 1).toNat = k + 1 := by omega
  have f3 : 0 ≤ (k : Int) + 1 := by omega
  have f4 : (k : Int) + 1 < r.ps.length + 1 := by omega
  go_enter Try.func86, Try.ntmps86
  go_wp2_with fail
  go_quiet (fail)
  go_wp2
  go_ret
  exact ⟨rfl, bdrewN (Below.refl _ _) _⟩

set_option maxHeartbeats 1000000 in
theorem first_any (r : Road) (A B C : Option Addr) (a b c : Nat) (G : Option Addr) (g M p1 p2 : Nat) (x : Int) (w : World) (hM : Meas w M r A B C a b c G g) (h1 : Box w p1 [.pointer (some ⟨M, 0, none⟩)]) (h2 : Box w p2 [.int .i64 x]) (hn : r.ps.length ≤ 2000) :
    Calls Try.prog 85 #[.int .i64 r.ps.length, .func (.func 86) #[] #[.pointer (some ⟨p1, 0, none⟩), .pointer (some ⟨p2, 0, none⟩)]] w fun e w' => (∃ i : Int, e = .returned (.int .i64 i) ∧ 0 ≤ i ∧ i ≤ r.ps.length ∧ (i < r.ps.length → x < lenSum (r.ps.take (i.toNat + 1))) ∧ (0 < i → lenSum (r.ps.take i.toNat) ≤ x)) ∧ Below w.heap.size w w' := by
  go_enter Try.func85, Try.ntmps85
  go_wp2
  go_loopw [5, 6] (fun lo hi wr => ∃ l h : Int, lo = .int .i64 l ∧ hi = .int .i64 h ∧ -1 ≤ l ∧ l < h ∧ h ≤ r.ps.length ∧ (h < r.ps.length → x < lenSum (r.ps.take (h.toNat + 1))) ∧ (0 ≤ l → lenSum (r.ps.take (l.toNat + 1)) ≤ x) ∧ Below w.heap.size w wr) (fun lo hi _ => (intOf hi - intOf lo).toNat)
  case atStart => exact ⟨-1, _, rfl, rfl, by omega, by omega, by omega, by omega, by omega, Below.refl _ _⟩
  case round =>
    obtain ⟨l, h, rfl, rfl, a1, a2, a3, a4, a5, hB⟩ := hrel
    have H4 := Lib.hid a4
    have H5 := Lib.hid a5
    clear a4 a5
    by_cases hc : 1 < h - l
    · have hc' : decide (1 < h - l) = true := by simpa using hc
      have s0 : 0 ≤ l + h := by omega
      have m0 : 0 ≤ (l + h) / 2 := by omega
      have m1 : (l + h) / 2 < r.ps.length := by omega
      have m2 : l < (l + h) / 2 := by omega
      have m3 : (l + h) / 2 < h := by omega
      cases hd : decide (x < lenSum (r.ps.take (((l + h) / 2).toNat + 1)))
      · go_wp2_with (go_at_call 86; refine (find1_any r A B C a b c G g M p1 p2 x _ _ (hM.below hB) (h1.below hB) (h2.below hB) m0 m1 hn).mono ?_; rintro e w2 ⟨rfl, hb⟩)
        go_roundw
        case rel => exact ⟨(l + h) / 2, h, rfl, rfl, by omega, by omega, a3, H4.out, fun _ => by simpa using hd, bthen hB hb⟩
        case measure => simp [intOf]; omega
      · go_wp2_with (go_at_call 86; refine (find1_any r A B C a b c G g M p1 p2 x _ _ (hM.below hB) (h1.below hB) (h2.below hB) m0 m1 hn).mono ?_; rintro e w2 ⟨rfl, hb⟩)
        go_roundw
        case rel => exact ⟨l, (l + h) / 2, rfl, rfl, by omega, by omega, by omega, fun _ => by simpa using hd, H5.out, bthen hB hb⟩
        case measure => simp [intOf]; omega
    · have hc' : decide (1 < h - l) = false := by simpa using hc
      go_wp2
      go_ret
      refine ⟨⟨h, rfl, by omega, a3, H4.out, fun h0 => ?_⟩, hB⟩
      have := H5.out (by omega)
      rwa [show l.toNat + 1 = h.toNat by omega] at this

set_option maxHeartbeats 1000000 in
theorem find_any (r : Road) (A B C : Option Addr) (a b c : Nat) (G : Option Addr) (g M : Nat) (x : Int) (w : World) (hM : Meas w M r A B C a b c G g) (hok : okPs r) (hx0 : 0 ≤ x) (hx1 : x < lenSum r.ps) :
    Calls Try.prog 55 #[.pointer (some ⟨M, 0, none⟩), .int .i64 x] w fun e w' => (∃ k : Nat, e = .returned (.int .i64 k) ∧ FindAt r.ps x k) ∧ Below w.heap.size w w' := by
  have b0 := hM.box.2 0 _ rfl
  have hMl := hM.box.1
  have hn := hok.2
  have q1 : Box ((w.alloc (.cells #[.pointer (some ⟨M, 0, none⟩)] 89)).alloc (.cells #[.int .i64 x] 3)) w.heap.size [.pointer (some ⟨M, 0, none⟩)] := (Box.new w [.pointer (some ⟨M, 0, none⟩)] 89).below (balloc _ _)
  have q2 : Box ((w.alloc (.cells #[.pointer (some ⟨M, 0, none⟩)] 89)).alloc (.cells #[.int .i64 x] 3)) (w.heap.size + 1) [.int .i64 x] := by
    have := Box.new (w.alloc (.cells #[.pointer (some ⟨M, 0, none⟩)] 89)) [.int .i64 x] 3
    rwa [World.size_alloc] at this
  have hb2 : Below w.heap.size w ((w.alloc (.cells #[.pointer (some ⟨M, 0, none⟩)] 89)).alloc (.cells #[.int .i64 x] 3)) := bthen (balloc _ _) (balloc _ _)
  go_enter Try.func55, Try.ntmps55
  go_wp2_with (go_at_call 85; refine (first_any r A B C a b c G g M _ _ x _ (hM.below hb2) q1 q2 hn).mono ?_; rintro e w2 ⟨⟨i, rfl, i0, i1, i2, i3⟩, hb⟩)
  go_ret
  refine ⟨?_, bthen hb2 hb⟩
  obtain ⟨k, rfl⟩ := Int.eq_ofNat_of_zero_le i0
  rw [Int.toNat_natCast] at i2 i3
  have hk : k < r.ps.length := by
    rcases Nat.lt_or_ge k r.ps.length with hk | hk
    · exact hk
    · rcases Nat.eq_zero_or_pos k with h0 | h0
      · have : r.ps.length = 0 := by omega
        rw [List.eq_nil_of_length_eq_zero this] at hx1
        simp [lenSum] at hx1
        omega
      · have := i3 (by omega)
        rw [List.take_of_length_le hk] at this
        omega
  refine ⟨k, rfl, hk, ?_, i2 (by omega)⟩
  rcases Nat.eq_zero_or_pos k with h0 | h0
  · subst h0
    simpa [lenSum] using hx0
  · exact i3 (by omega)

/-- The place is found once. -/
theorem FindAt.unique {r : Road} (hok : okPs r) {x : Int} {i k : Nat} (h : FindAt r.ps x i) (h' : FindAt r.ps x k) : i = k := by
  have mono : ∀ i k : Nat, i ≤ k → lenSum (r.ps.take i) ≤ lenSum (r.ps.take k) := by
    intro i k hik
    have h1 := lenSum_drop (r.ps.take k) i
    rw [List.take_take, Nat.min_eq_left hik] at h1
    have h2 := lenSum_nonneg ((r.ps.take k).drop i) (fun p hp => (hok.lens p (List.mem_of_mem_take (List.mem_of_mem_drop hp))).1)
    omega
  rcases Nat.lt_trichotomy i k with hlt | he | hlt
  · have := mono (i + 1) k hlt
    have := h.hi
    have := h'.lo
    omega
  · exact he
  · have := mono (k + 1) i hlt
    have := h'.hi
    have := h.lo
    omega

set_option maxHeartbeats 1000000 in
theorem Find_bad (r : Road) (A B C : Option Addr) (a b c : Nat) (x : Int) (w : World) (h : RdRoad w r A B C) (hv : validB r = false) :
    Calls Try.prog 20 #[.agg #[.slice A r.ps.length a, .slice B r.cs.length b, .slice C r.js.length c], .int .i64 x] w fun e w' => e = .returned (.tuple #[.int .i64 0, .int .i64 0, .int .i64 2]) ∧ Below w.heap.size w w' := by
  have hE := checkE_false hv
  go_enter Try.func20, Try.ntmps20
  go_wp2_with (first | (go_at_call 48; refine (check_any r A B C a b c _ (h.below (balloc _ _))).mono ?_; rintro e W2 ⟨rfl, hb⟩))
  go_ret3
  exact ⟨by simp [hE], bthen (balloc _ _) hb⟩

set_option maxHeartbeats 1000000 in
theorem Find_out (r : Road) (A B C : Option Addr) (a b c : Nat) (x : Int) (w : World) (h : RdRoad w r A B C) (hv : validB r = true) (hx : x < 0 ∨ lenSum r.ps ≤ x) :
    Calls Try.prog 20 #[.agg #[.slice A r.ps.length a, .slice B r.cs.length b, .slice C r.js.length c], .int .i64 x] w fun e w' => e = .returned (.tuple #[.int .i64 0, .int .i64 0, .int .i64 2]) ∧ Below w.heap.size w w' := by
  have hE := checkE_true hv
  have hok := (validB_ok hv).1
  have hlen := (validB_ok hv).2.2.1
  have hl0 := (hok.beg r.ps.length).1
  rw [List.take_length] at hl0
  clear hv
  have ht : inB x 0 (lenSum r.ps - 1) = false := by simp [inB]; omega
  clear hx
  go_enter Try.func20, Try.ntmps20
  go_wp2_with (first | (go_at_call 48; refine (check_any r A B C a b c _ (h.below (balloc _ _))).mono ?_; rintro e W2 ⟨rfl, hb⟩; have hI := (InR.new w r A B C a b c).step hb; have b0 := hI.box.2 0 _ rfl; have b1 := hI.box.2 1 _ rfl; have b2 := hI.box.2 2 _ rfl) | (go_at_call 52; refine (measure_ok r A B C a b c _ (hI.rd h) hok).mono ?_; rintro e W3 ⟨M, G, g, rfl, hM1, hb3, hMe⟩; have hIM : InM w W3 r A B C a b c G g M := ⟨hI.step hb3, hMe⟩; clear hMe b0 b1 b2) | (go_at_call 54; refine (mlength_ok r A B C a b c G g M _ hIM.m hok).mono ?_; rintro e W4 ⟨rfl, hb4⟩; replace hIM := hIM.step hb4; clear hb4) | (go_at_call 53; refine (within_any _ _ _ _).mono ?_; rintro e w' ⟨rfl, rfl⟩))
  go_ret3
  exact ⟨by simp, hIM.i.below⟩

set_option maxHeartbeats 1000000 in
theorem Find_good (r : Road) (A B C : Option Addr) (a b c : Nat) (x : Int) (w : World) (h : RdRoad w r A B C) (hv : validB r = true) (hx0 : 0 ≤ x) (hx1 : x < lenSum r.ps) :
    Calls Try.prog 20 #[.agg #[.slice A r.ps.length a, .slice B r.cs.length b, .slice C r.js.length c], .int .i64 x] w fun e w' => (∃ k : Nat, e = .returned (.tuple #[.int .i64 k, .int .i64 (x - lenSum (r.ps.take k)), .int .i64 0]) ∧ FindAt r.ps x k) ∧ Below w.heap.size w w' := by
  have hE := checkE_true hv
  have hok := (validB_ok hv).1
  have hlen := (validB_ok hv).2.2.1
  have hn := hok.2
  clear hv
  have ht : inB x 0 (lenSum r.ps - 1) = true := by simp [inB]; omega
  go_enter Try.func20, Try.ntmps20
  go_wp2_with (first | (go_at_call 48; refine (check_any r A B C a b c _ (h.below (balloc _ _))).mono ?_; rintro e W2 ⟨rfl, hb⟩; have hI := (InR.new w r A B C a b c).step hb; have b0 := hI.box.2 0 _ rfl; have b1 := hI.box.2 1 _ rfl; have b2 := hI.box.2 2 _ rfl) | (go_at_call 52; refine (measure_ok r A B C a b c _ (hI.rd h) hok).mono ?_; rintro e W3 ⟨M, G, g, rfl, hM1, hb3, hMe⟩; have hIM : InM w W3 r A B C a b c G g M := ⟨hI.step hb3, hMe⟩; clear hMe b0 b1 b2) | (go_at_call 54; refine (mlength_ok r A B C a b c G g M _ hIM.m hok).mono ?_; rintro e W4 ⟨rfl, hb4⟩; replace hIM := hIM.step hb4; clear hb4) | (go_at_call 53; refine (within_any _ _ _ _).mono ?_; rintro e w' ⟨rfl, rfl⟩) | (go_at_call 55; refine (find_any r A B C a b c G g M x _ hIM.m hok hx0 hx1).mono ?_; rintro e W5 ⟨⟨k, rfl, hk⟩, hb5⟩; replace hIM := hIM.step hb5; clear hb5; have b3 := hIM.m.box.2 3 _ rfl; have hkl := hk.lt; obtain ⟨gb, go, hG, hlt, hc⟩ := hIM.m.beg.at1 (begs_at r.ps k (by omega)); subst hG; have f1 : (0 : Int) ≤ (k : Int) := (by omega); have f2 : (k : Int) < r.ps.length + 1 := (by omega); have hb0 := (hok.beg k).1; have hb1 := (hok.beg k).2))
  go_quiet (fail)
  go_wp2
  go_ret3
  exact ⟨⟨k, rfl, hk⟩, bdrewN hIM.i.below _⟩

end Go.Proofs.Ytbdjmaogbpdkpaa

import Derived.Test.YtbdjmaogbpdkpaaUpTo
namespace Go.Proofs.Ytbdjmaogbpdkpaa
open Go.RowKit
attribute [local go_sem] Later.cell Later.cell1 Later.new1 Later.frozen Later.frozen1

theorem later_out {P : Program} {f : FuncId} {args : Array Value} {w0 : World} {x : Later w0} {v : Value} (h : Calls P f args x.w fun e w' => e = .returned v ∧ Below x.w.heap.size x.w w') :
    Calls P f args x.w fun e w'' => e = .returned v ∧ ∃ y : Later w0, w'' = y.w := h.mono fun _ _ he => later_calls x he

/-- The piece k is the one at a place. -/
structure FindAt (ps : List Pc) (x : Int) (k : Nat) : Prop where
  lt : k < ps.length
  lo : lenSum (ps.take k) ≤ x
  hi : x < lenSum (ps.take (k + 1))

theorem lenSum_drop (ps : List Pc) (k : Nat) : lenSum ps = lenSum (ps.take k) + lenSum (ps.drop k) := by
  conv => lhs; rw [← List.take_append_drop k ps]
  simp only [lenSum, List.map_append, List.sum_append]

set_option maxHeartbeats 400000 in
theorem rfind_any (r : Road) (A B C : Option Addr) (a b c : Nat) (x : Int) (w : World) (h : RdRoad w r A B C) (hok : okPs r) (hx0 : 0 ≤ x) (hx1 : x < lenSum r.ps) :
    Calls Try.prog 22 #[.agg #[.slice A r.ps.length a, .slice B r.cs.length b, .slice C r.js.length c], .int .i64 x] w fun e w' => (∃ k : Nat, FindAt r.ps x k ∧ e = .returned (.tuple #[.int .i64 k, .int .i64 (x - lenSum (r.ps.take k))])) ∧ Below w.heap.size w w' := by
  have hlen := hok.2
  have hpos : 0 < r.ps.length := by
    rcases Nat.eq_zero_or_pos r.ps.length with h0 | h0
    · rw [List.eq_nil_of_length_eq_zero h0] at hx1
      simp [lenSum] at hx1
      omega
    · exact h0
  go_enter Try.func22, Try.ntmps22
  go_wp2
  go_loop [1, 6] (fun p i => ∃ k : Nat, k < r.ps.length ∧ i = .int .i64 k ∧ p = .int .i64 (x - lenSum (r.ps.take k)) ∧ lenSum (r.ps.take k) ≤ x) (fun _ i => r.ps.length - (intOf i).toNat)
  case atStart => exact ⟨0, hpos, rfl, by simp [lenSum], by simpa [lenSum] using hx0⟩
  case round =>
    obtain ⟨k, hk, rfl, rfl, hlo⟩ := hrel
    obtain ⟨p, hp⟩ := getElem?_ex hk
    have hbeg := hok.beg k
    have hb0 := hbeg.1
    have hb1 := hbeg.2
    have hbt := (hok.beg r.ps.length).2
    rw [List.take_length] at hbt
    clear hbeg
    obtain ⟨bb, o, hA, hbb, c0, -, -, -, -⟩ := h.p.at5 hp
    subst hA
    have hq := hok.lens.at hp
    have hq0 := hq.1
    have hq1 := hq.2
    clear hq
    have HS := Lib.hid (lenSum_take_succ r.ps k p hp)
    have HE := Lib.hid (show x - lenSum (r.ps.take (k + 1)) = x - lenSum (r.ps.take k) - p.len by rw [HS.out]; omega)
    clear hp
    have d0 : (w.alloc (.cells #[.slice (some ⟨bb, o, none⟩) r.ps.length a, .slice B r.cs.length b, .slice C r.js.length c] 26)).cell? ⟨bb, o + k * 5, none⟩ = some (.int .i64 p.len) := ((balloc w _).cell hbb).trans c0
    by_cases ht : p.len ≤ x - lenSum (r.ps.take k)
    · have ht' : decide (p.len ≤ x - lenSum (r.ps.take k)) = true := by simpa using ht
      have hk1 : k + 1 < r.ps.length := by
        rcases Nat.lt_or_ge (k + 1) r.ps.length with h1 | h1
        · exact h1
        · have h2 := HS.out
          rw [List.take_of_length_le h1] at h2
          omega
      go_wp2
      go_round
      case rel => exact ⟨k + 1, hk1, by go_num, by rw [HE.out], by rw [HS.out]; omega⟩
      case measure => simp [intOf]; omega
    · have ht' : decide (p.len ≤ x - lenSum (r.ps.take k)) = false := by simpa using ht
      go_wp2
      go_ret2
      exact ⟨⟨k, ⟨hk, hlo, by rw [HS.out]; omega⟩, rfl⟩, balloc w _⟩

set_option maxHeartbeats 400000 in
theorem rat_any (r : Road) (A B C : Option Addr) (a b c : Nat) (x : Int) (w : World) (h : RdRoad w r A B C) (hok : okPs r) (hx0 : 0 ≤ x) (hx1 : x < lenSum r.ps) :
    Calls Try.prog 29 #[.agg #[.slice A r.ps.length a, .slice B r.cs.length b, .slice C r.js.length c], .int .i64 x] w fun e w' => (∃ k p, FindAt r.ps x k ∧ r.ps[k]? = some p ∧ e = .returned (.agg #[.int .i64 p.len, .int .i64 p.turn, .int .i64 p.rad, .int .i64 p.wid, .int .i64 p.sur])) ∧ Below w.heap.size w w' := by
  have l1 := hok.2
  go_enter Try.func29, Try.ntmps29
  go_wp2_with (go_at_call 22; refine (rfind_any r A B C a b c x _ (h.below ((balloc _ _).trans ((Below.refl _ _).alloc (by simp) _))) hok hx0 hx1).mono ?_; rintro e W2 ⟨⟨k, hk, rfl⟩, hb⟩; have hI := (InR.new w r A B C a b c).step (bthen (balloc _ _) hb); have b0 := hI.box.2 0 _ rfl; have hR := (Blk.new (w.alloc (.cells #[.slice A r.ps.length a, .slice B r.cs.length b, .slice C r.js.length c] 26)) 52 #[.int .i64 0, .int .i64 0, .int .i64 0, .int .i64 0, .int .i64 0]).below hb (by simp); rw [World.size_alloc] at hR; obtain ⟨p, hp⟩ := getElem?_ex hk.lt; obtain ⟨bb, o, hA, hbb, c0, c1, c2, c3, c4⟩ := (hI.rd h).p.at5 hp; subst hA; have HP := Lib.hid hp; clear hp; have f1 : (k : Int) < r.ps.length := (by have := hk.lt; omega); have q0 := hR.cell 0; have q1 := hR.cell 1; have q2 := hR.cell 2; have q3 := hR.cell 3; have q4 := hR.cell 4; have z0 := hR.frozen 0; have z1 := hR.frozen 1; have z2 := hR.frozen 2; have z3 := hR.frozen 3; have z4 := hR.frozen 4)
  refine bodyPost_ret (v := .agg #[.int .i64 p.len, .int .i64 p.turn, .int .i64 p.rad, .int .i64 p.wid, .int .i64 p.sur]) (by simp [results, Try.results29, go_sem, q0, q1, q2, q3, q4]) rfl ⟨⟨k, p, hk, HP.out, rfl⟩, ?_⟩
  exact ((((hI.below.setCell (p := ⟨w.heap.size + 1, 0, none⟩) (by simp) _).setCell (p := ⟨w.heap.size + 1, 1, none⟩) (by simp) _).setCell (p := ⟨w.heap.size + 1, 2, none⟩) (by simp) _).setCell (p := ⟨w.heap.size + 1, 3, none⟩) (by simp) _).setCell (p := ⟨w.heap.size + 1, 4, none⟩) (by simp) _

theorem upL_take_bd (r : Road) (hok : okPs r) (x : Int) (k : Nat) (hk : k ≤ r.ps.length) : -10000002000 ≤ upL (r.ps.take k) 0 x ∧ upL (r.ps.take k) 0 x ≤ 10000002000 := by
  rw [← upS_upto r x k hk]
  have h1 := upS_bd r hok x (upto r.ps.length k)
  rw [upto_length hk] at h1
  have := hok.2
  omega
theorem upL_take_succ (ps : List Pc) (x : Int) (k : Nat) (p : Pc) (hp : ps[k]? = some p) : upL (ps.take (k + 1)) 0 x = upL (ps.take k) 0 x + upG p (lenSum (ps.take k)) x := by
  rw [List.take_add_one, hp, upL_append]
  simp only [Option.toList_some, upL, Int.zero_add, Int.add_zero]
theorem upL_take_end (ps : List Pc) (x : Int) (k : Nat) (hl : ∀ p ∈ ps, 0 ≤ p.len) (h : x ≤ lenSum (ps.take k)) : upL (ps.take k) 0 x = up ps x := by
  have h1 := upL_up ps 0 x hl
  rw [Int.sub_zero] at h1
  rw [← h1]
  conv => rhs; rw [← List.take_append_drop k ps]
  rw [upL_append, Int.zero_add, upL_zero (ps.drop k) _ x h (fun p hp => hl p (List.mem_of_mem_drop hp))]
  omega

set_option maxHeartbeats 1000000 in
theorem rupto_any (r : Road) (A B C : Option Addr) (a b c : Nat) (x : Int) (w : World) (h : RdRoad w r A B C) (hok : okPs r) (hx0 : 0 ≤ x) (hx1 : x ≤ 100000000) :
    Calls Try.prog 57 #[.agg #[.slice A r.ps.length a, .slice B r.cs.length b, .slice C r.js.length c], .int .i64 x] w fun e w' => e = .returned (.int .i64 (up r.ps x)) ∧ Below w.heap.size w w' := by
  have hlen := hok.2
  go_enter Try.func57, Try.ntmps57
  go_wp2
  go_loopw [1, 5, 6] (fun p s i wr => ∃ k : Nat, k ≤ r.ps.length ∧ i = .int .i64 k ∧ p = .int .i64 (x - lenSum (r.ps.take k)) ∧ s = .int .i64 (upL (r.ps.take k) 0 x) ∧ InR w wr r A B C a b c) (fun _ _ i _ => r.ps.length - (intOf i).toNat)
  case atStart => exact ⟨0, Nat.zero_le _, rfl, by simp [lenSum], by simp [upL], InR.new _ _ _ _ _ _ _ _⟩
  case round =>
    obtain ⟨k, hk, rfl, rfl, rfl, hI⟩ := hrel
    have hb0 := (hok.beg k).1
    have hb1 := (hok.beg k).2
    have u1 := (upL_take_bd r hok x k hk).1
    have u2 := (upL_take_bd r hok x k hk).2
    have b0 := hI.box.2 0 _ rfl
    by_cases hlt : k < r.ps.length
    · by_cases hp0 : 0 < x - lenSum (r.ps.take k)
      · obtain ⟨p, hp⟩ := getElem?_ex hlt
        obtain ⟨bb, o, hA, hbb, c0, c1, c2, c3, c4⟩ := (hI.rd h).p.at5 hp
        subst hA
        have hq := hok.lens.at hp
        have hq0 := hq.1
        have hq1 := hq.2
        clear hq
        have hi := hok.at hlt
        rw [show r.ps[k] = p from (List.getElem?_eq_some_iff.1 hp).2] at hi
        obtain ⟨i1, i2, i3, i4, i5, i6⟩ := hi
        clear i6 i1 i2
        have HE := Lib.hid (show x - lenSum (r.ps.take (k + 1)) = x - lenSum (r.ps.take k) - p.len by rw [lenSum_take_succ r.ps k p hp]; omega)
        have hu : upL (r.ps.take (k + 1)) 0 x = upL (r.ps.take k) 0 x + trn p.turn p.rad (min p.len (x - lenSum (r.ps.take k))) := by
          rw [upL_take_succ r.ps x k p hp, upG, if_pos (by omega)]
        have v1 := upL_take_bd r hok x (k + 1) (by omega)
        clear hp
        have hz : w.heap.size < wr.heap.size := hI.box.1
        have f1 : (k : Int) < r.ps.length := by omega
        by_cases hm : p.len < x - lenSum (r.ps.take k)
        · rw [show min p.len (x - lenSum (r.ps.take k)) = p.len by omega] at hu
          rw [hu] at v1
          have w1 := v1.1
          have w2 := v1.2
          have HU := Lib.hid hu
          clear hu v1
          go_wp2_with fail
          refine wp_region_later (by kernel_rfl) (by kernel_rfl) ?_
          repeat (go_big_quiet_step ((go_at_call 87; exact later_out (rturned_any _ _ _ _ _ _ _ (by omega) (by omega) (by omega) (by omega) i5))))
          refine wpQuiet_nil ?_
          rintro _ ⟨y, rfl⟩
          have hI' := hI.step y.b
          have d0 := hI'.box.2 0 _ rfl
          have e0 := (y.b.cell (p := ⟨bb, o + k * 5, none⟩) hbb).trans c0
          go_wp2
          go_roundw
          case rel => exact ⟨k + 1, by omega, by go_num, by rw [HE.out], by rw [HU.out], hI'⟩
          case measure => simp [intOf]; omega
        · rw [show min p.len (x - lenSum (r.ps.take k)) = x - lenSum (r.ps.take k) by omega] at hu
          rw [hu] at v1
          have w1 := v1.1
          have w2 := v1.2
          have HU := Lib.hid hu
          clear hu v1
          go_wp2_with fail
          refine wp_region_later (by kernel_rfl) (by kernel_rfl) ?_
          repeat (go_big_quiet_step ((go_at_call 87; exact later_out (rturned_any _ _ _ _ _ _ _ (by omega) (by omega) (by omega) (by omega) i5))))
          refine wpQuiet_nil ?_
          rintro _ ⟨y, rfl⟩
          have hI' := hI.step y.b
          have d0 := hI'.box.2 0 _ rfl
          have e0 := (y.b.cell (p := ⟨bb, o + k * 5, none⟩) hbb).trans c0
          go_wp2
          go_roundw
          case rel => exact ⟨k + 1, by omega, by go_num, by rw [HE.out], by rw [HU.out], hI'⟩
          case measure => simp [intOf]; omega
      · go_wp2
        go_ret
        exact ⟨by rw [← upL_take_end r.ps x k (fun p hp => (hok.lens p hp).1) (by omega)]; rfl, hI.below⟩
    · obtain rfl : k = r.ps.length := by omega
      go_wp2
      go_ret
      exact ⟨by have := upL_up r.ps 0 x (fun p hp => (hok.lens p hp).1); rw [Int.sub_zero] at this; simp [← this], hI.below⟩

end Go.Proofs.Ytbdjmaogbpdkpaa

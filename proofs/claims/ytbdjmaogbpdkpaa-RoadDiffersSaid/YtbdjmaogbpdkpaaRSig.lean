import Derived.Test.YtbdjmaogbpdkpaaSigB
namespace Go.Proofs.Ytbdjmaogbpdkpaa
set_option linter.unusedVariables false
set_option linter.unusedSimpArgs false
open Go.RowKit Go.Shelf

/-- The first crest behind a place; d, if there is none. -/
def crestOr (l : List Cr) (fr d : Int) : Int := match crestBe l fr with | none => d | some c => c.at_
theorem crestOr_cons (c : Cr) (l : List Cr) (fr d : Int) : crestOr (c :: l) fr d = if fr < c.at_ then c.at_ else crestOr l fr d := by
  unfold crestOr crestBe
  rw [List.find?_cons]
  by_cases h : fr < c.at_
  · simp [h]
  · simp [h]
theorem ret_int {k : IntKind} {a b : Int} (h : a = b) : Ending.returned (.int k a) = .returned (.int k b) := by rw [h]
theorem limOf_or (r : Road) (mx fr : Int) : limOf r mx fr = min (min mx (lenSum r.ps - fr)) (crestOr r.cs fr (lenSum r.ps + 1) - fr) := by
  unfold limOf crestOr
  cases crestBe r.cs fr with
  | none => dsimp only; omega
  | some c => rfl
theorem crest_drop {l : List Cr} {z : Int} {c : Cr} (h0 : 0 ≤ z) (hc : l[z.toNat]? = some c) (fr d : Int) : crestOr (l.drop z.toNat) fr d = if fr < c.at_ then c.at_ else crestOr (l.drop (z + 1).toNat) fr d := by
  obtain ⟨hk, hck⟩ := List.getElem?_eq_some_iff.1 hc
  rw [List.drop_eq_getElem_cons hk, hck, crestOr_cons, show (z + 1).toNat = z.toNat + 1 by omega]

set_option maxRecDepth 100000 in
set_option maxHeartbeats 2000000 in
theorem rsight_any (r : Road) (A B C : Option Addr) (a b c : Nat) (most mx fr : Int) (w : World) (h : RdRoad w r A B C) (hv : validB r = true) (m1 : 1 ≤ most) (m2 : most ≤ 10000) (m3 : 1 ≤ mx) (m4 : mx ≤ 5000) (hf0 : 0 ≤ fr) (hf1 : fr ≤ lenSum r.ps) :
    Calls Try.prog 32 #[.agg #[.slice A r.ps.length a, .slice B r.cs.length b, .slice C r.js.length c], .agg #[.int .i64 most, .int .i64 mx], .int .i64 fr] w fun e w' => e = .returned (.int .i64 (sightV r most mx fr)) ∧ Below w.heap.size w w' := by
  have hok := (validB_ok hv).1
  have hlen := hok.2
  have hcl := (validB_ok hv).2.2.2.1
  have hn0 := (hok.beg r.ps.length).1
  have hn1 := (hok.beg r.ps.length).2
  rw [List.take_length] at hn0 hn1
  have hlb : lensOk r.ps 100000 := fun p hp => ⟨(hok.lens p hp).1, by have := (hok.lens p hp).2; omega⟩
  have HLB := Lib.hid hlb
  have HLO := Lib.hid (limOf_or r mx fr)
  clear hv hlb
  have hR0 : InR w ((w.alloc (.cells #[.slice A r.ps.length a, .slice B r.cs.length b, .slice C r.js.length c] 26)).alloc (.cells #[.int .i64 most, .int .i64 mx] 56)) r A B C a b c := (InR.new w r A B C a b c).step (balloc _ _)
  have hB0 : Box ((w.alloc (.cells #[.slice A r.ps.length a, .slice B r.cs.length b, .slice C r.js.length c] 26)).alloc (.cells #[.int .i64 most, .int .i64 mx] 56)) (w.heap.size + 1) [.int .i64 most, .int .i64 mx] := by
    have := Box.new (w.alloc (.cells #[.slice A r.ps.length a, .slice B r.cs.length b, .slice C r.js.length c] 26)) [.int .i64 most, .int .i64 mx] 56
    rwa [World.size_alloc] at this
  go_enter Try.func32, Try.ntmps32
  go_wp2_with (first | (go_at_call 21; refine (rlength_any r A B C a b c _ (hR0.rd h) HLB.out (by omega)).mono ?_; rintro e W2 ⟨rfl, hb⟩; have hI := hR0.step hb; have hBx := hB0.below hb; have b1 := hI.box.2 1 _ rfl; have bs := hI.box.1))
  go_loop [8, 9] (fun x i => ∃ z : Int, -1 ≤ z ∧ z < r.cs.length ∧ i = .int .i64 z ∧ x = .int .i64 (crestOr (r.cs.drop (z + 1).toNat) fr (lenSum r.ps + 1))) (fun _ i => (intOf i + 1).toNat)
  case atStart => exact ⟨(r.cs.length : Int) - 1, by omega, by omega, rfl, by rw [show ((r.cs.length : Int) - 1 + 1).toNat = r.cs.length by omega, List.drop_length]; rfl⟩
  case round =>
    obtain ⟨z, hz0, hz1, rfl, rfl⟩ := hrel
    by_cases hz : 0 ≤ z
    · obtain ⟨cr, hc⟩ := getElem?_ex (show z.toNat < r.cs.length by omega)
      obtain ⟨bb, o, hA, hbb, c0, c1⟩ := (hI.rd h).c.at2 hc
      subst hA
      have HD := Lib.hid (crest_drop hz hc fr (lenSum r.ps + 1))
      clear hc
      by_cases hcr : fr < cr.at_
      · have HE := Lib.hid (HD.out.trans (if_pos hcr))
        go_wp2
        go_round
        case rel => exact ⟨z - 1, by omega, by omega, rfl, by rw [show (z - 1 + 1).toNat = z.toNat by omega, HE.out]⟩
        case measure => simp [intOf]; omega
      · have HE := Lib.hid (HD.out.trans (if_neg hcr))
        go_wp2
        go_round
        case rel => exact ⟨z - 1, by omega, by omega, rfl, by rw [show (z - 1 + 1).toNat = z.toNat by omega, HE.out]⟩
        case measure => simp [intOf]; omega
    · obtain rfl : z = -1 := by omega
      simp only [show ((-1 : Int) + 1).toNat = 0 from rfl, List.drop_zero]
      obtain ⟨cr, hcr⟩ : ∃ cr, cr = crestOr r.cs fr (lenSum r.ps + 1) := ⟨_, rfl⟩
      have hlo := HLO.out
      rw [← hcr] at hlo ⊢
      clear hcr
      have HLIM := Lib.hid hlo
      have hlm := limOf_nn r mx fr (by omega) hf1
      have hl2 := limOf_le r mx fr
      generalize hL : limOf r mx fr = lim at hlo hlm hl2
      have HL := Lib.hid hL
      have HLO2 := Lib.hid hlo
      clear hL hlo HLIM HLO HLB
      go_wp2
      go_loopw [10] (fun i wr => ∃ d : Int, 0 ≤ d ∧ d ≤ lim ∧ i = .int .i64 d ∧ Hid (∀ y, fr < y → y ≤ fr + d → okAt r.ps most fr y = true) ∧ InR w wr r A B C a b c ∧ Box wr (w.heap.size + 1) [.int .i64 most, .int .i64 mx]) (fun i _ => (lim - intOf i).toNat)
      case atStart => exact ⟨0, by omega, by omega, rfl, Lib.hid (fun y h1 h2 => by omega), hI, hBx⟩
      case round =>
        obtain ⟨d, hd0, hd1, rfl, HA, hIr, hBr⟩ := hrel
        have e0 := hIr.box.2 0 _ rfl
        have e1 := hIr.box.2 1 _ rfl
        have e2 := hIr.box.2 2 _ rfl
        have e3 := hIr.box.1
        have e4 := hBr.2 0 _ rfl
        have e5 := hBr.2 1 _ rfl
        have e6 := hBr.1
        have hl3 := hl2.1
        have hl4 := hl2.2
        by_cases hdl : d < lim
        · have hlo := HLO2.out
          have hx1 : d < mx := by omega
          have hx2 : fr + d + 1 ≤ lenSum r.ps := by omega
          have hx3 : fr + d + 1 ≤ cr := by omega
          clear hlo
          have u1 := (up_bd r hok (fr + d + 1)).1
          have u2 := (up_bd r hok (fr + d + 1)).2
          have u3 := (up_bd r hok fr).1
          have u4 := (up_bd r hok fr).2
          obtain ⟨t, ht⟩ : ∃ t, t = up r.ps (fr + d + 1) - up r.ps fr := ⟨_, rfl⟩
          have HO : Hid (okAt r.ps most fr (fr + d + 1) = (decide (t ≤ most) && decide (-t ≤ most))) := Lib.hid (by rw [ht]; rfl)
          have t1 : -30000000000 ≤ t := by omega
          have t2 : t ≤ 30000000000 := by omega
          have HT := Lib.hid ht
          clear ht u1 u2 u3 u4
          by_cases hq1 : most < t
          · go_wp2_with (go_at_call 24; refine (rturning_any r A B C a b c fr (fr + d + 1) _ (hIr.rd h) hok (by omega) (by omega) (by omega) (by omega)).mono ?_; rw [← HT.out]; rintro e W3 ⟨rfl, hb3⟩; have g4 := (hBr.below hb3).2 0 _ rfl; have g5 := (hBr.below hb3).2 1 _ rfl; have g6 := (hBr.below hb3).1)
            go_ret
            refine ⟨ret_int ?_, (hIr.step hb3).below⟩
            exact IsSight.uniq ⟨hd0, by rw [HL.out]; omega, HA.out, .inr (by rw [HO.out]; simp; omega)⟩ (sightV_is r most mx fr (by omega) hf1)
          · by_cases hq2 : most < -t
            · go_wp2_with (go_at_call 24; refine (rturning_any r A B C a b c fr (fr + d + 1) _ (hIr.rd h) hok (by omega) (by omega) (by omega) (by omega)).mono ?_; rw [← HT.out]; rintro e W3 ⟨rfl, hb3⟩; have g4 := (hBr.below hb3).2 0 _ rfl; have g5 := (hBr.below hb3).2 1 _ rfl; have g6 := (hBr.below hb3).1)
              go_ret
              refine ⟨ret_int ?_, (hIr.step hb3).below⟩
              exact IsSight.uniq ⟨hd0, by rw [HL.out]; omega, HA.out, .inr (by rw [HO.out]; simp; omega)⟩ (sightV_is r most mx fr (by omega) hf1)
            · go_wp2_with (go_at_call 24; refine (rturning_any r A B C a b c fr (fr + d + 1) _ (hIr.rd h) hok (by omega) (by omega) (by omega) (by omega)).mono ?_; rw [← HT.out]; rintro e W3 ⟨rfl, hb3⟩; have g4 := (hBr.below hb3).2 0 _ rfl; have g5 := (hBr.below hb3).2 1 _ rfl; have g6 := (hBr.below hb3).1)
              go_roundw
              case rel =>
                refine ⟨d + 1, by omega, by omega, rfl, Lib.hid (fun y hy1 hy2 => ?_), hIr.step hb3, hBr.below hb3⟩
                by_cases hy : y ≤ fr + d
                · exact HA.out y hy1 hy
                · obtain rfl : y = fr + d + 1 := by omega
                  rw [HO.out]
                  simp
                  omega
              case measure => simp [intOf]; omega
        · have hfin : d = sightV r most mx fr := IsSight.uniq ⟨hd0, by rw [HL.out]; omega, HA.out, .inl (by rw [HL.out]; omega)⟩ (sightV_is r most mx fr (by omega) hf1)
          have HF := Lib.hid hfin
          clear hfin
          by_cases hx1 : d < mx
          · by_cases hx2 : fr + d + 1 ≤ lenSum r.ps
            · have hx3 : ¬ fr + d + 1 ≤ cr := by have := HLO2.out; omega
              go_wp2_with fail
              go_ret
              exact ⟨ret_int HF.out, hIr.below⟩
            · go_wp2_with fail
              go_ret
              exact ⟨ret_int HF.out, hIr.below⟩
          · go_wp2_with fail
            go_ret
            exact ⟨ret_int HF.out, hIr.below⟩

end Go.Proofs.Ytbdjmaogbpdkpaa

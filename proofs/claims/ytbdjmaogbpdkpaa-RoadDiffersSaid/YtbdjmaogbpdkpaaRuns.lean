import Derived.Test.YtbdjmaogbpdkpaaGrpP
import Derived.Outline
/-
  road.runs.
-/
namespace Go.Proofs.Ytbdjmaogbpdkpaa
open Go.RowKit Go.Shelf
set_option linter.unusedVariables false
set_option linter.unusedSimpArgs false
attribute [local go_sem] Later.cell Later.cell1 Later.new1 Later.frozen Later.frozen1

/-- n meters of a kind of piece, as pieces as long as possible. -/
def chunkL (p : Pc) (n : Int) : List Pc := if 5000 < n then { p with len := 5000 } :: chunkL p (n - 5000) else [{ p with len := n }]
termination_by n.toNat
decreasing_by omega
theorem chunkL_more (p : Pc) (n : Int) (h : 5000 < n) : chunkL p n = { p with len := 5000 } :: chunkL p (n - 5000) := by
  rw [chunkL]
  exact if_pos h
theorem chunkL_one (p : Pc) (n : Int) (h : ¬ 5000 < n) : chunkL p n = [{ p with len := n }] := by
  rw [chunkL]
  exact if_neg h
theorem chunkL_len (p : Pc) : ∀ (m : Nat) (n : Int), n.toNat ≤ m → 0 < n → ((chunkL p n).length : Int) * 5000 < n + 5000 := by
  intro m
  induction m with
  | zero => intro n h h0; omega
  | succ m ih =>
    intro n h h0
    by_cases hn : 5000 < n
    · rw [chunkL_more p n hn, List.length_cons]
      have := ih (n - 5000) (by omega) (by omega)
      omega
    · rw [chunkL_one p n hn]
      simp
      omega
def runOf (g : List Pc) : List Pc :=
  match g with
  | [] => []
  | x :: _ => chunkL x (lenSum g)
/-- Pieces as long as possible. -/
def runsL (xs : List Pc) : List Pc := (grouped tgP xs).flatMap runOf
def okLen (xs : List Pc) : Prop := ∀ p ∈ xs, 1 ≤ p.len ∧ p.len ≤ 5000
theorem lenSum_ok (xs : List Pc) (h : okLen xs) : (xs.length : Int) ≤ lenSum xs ∧ lenSum xs ≤ 5000 * xs.length := by
  induction xs with
  | nil => simp [lenSum]
  | cons p ps ih =>
    have h1 := h p (by simp)
    have h2 := ih (fun q hq => h q (by simp [hq]))
    have e : lenSum (p :: ps) = p.len + lenSum ps := by simp [lenSum]
    rw [e, List.length_cons]
    omega
theorem runOf_len (g : List Pc) (h : okLen g) : (runOf g).length ≤ g.length := by
  cases g with
  | nil => simp [runOf]
  | cons x g =>
    have hl := lenSum_ok (x :: g) h
    have := chunkL_len x _ (lenSum (x :: g)) (Nat.le_refl _) (by simp only [List.length_cons] at hl; omega)
    simp only [runOf]
    omega
theorem runs_len (gss : List (List Pc)) (h : ∀ g ∈ gss, okLen g) : (gss.flatMap runOf).length ≤ gss.flatten.length := by
  induction gss with
  | nil => simp
  | cons g gss ih =>
    have h1 := runOf_len g (h g (by simp))
    have h2 := ih (fun q hq => h q (by simp [hq]))
    simp only [List.flatMap_cons, List.flatten_cons, List.length_append]
    omega
theorem flat_take_succ {α β : Type} (f : α → List β) (l : List α) (k : Nat) (x : α) (h : l[k]? = some x) : (l.take (k + 1)).flatMap f = (l.take k).flatMap f ++ f x := by
  rw [List.take_add_one, h, List.flatMap_append]
  simp

set_option maxRecDepth 100000 in
set_option maxHeartbeats 8000000 in
theorem runs_any (xs : List Pc) (A : Option Addr) (a : Nat) (w : World) (hA : Rd 5 pcV w A xs) (hok : okLen xs) (hn : xs.length ≤ 2000) :
    Calls Try.prog 69 #[.slice A xs.length a] w fun e w' => (∃ v, e = .returned v ∧ OwnL w' w.heap.size 52 5 pcV v (runsL xs)) ∧ Below w.heap.size w w' := by
  obtain ⟨j0, hj, hy0, hy1, hy2⟩ := info_parts Try.info52
  go_enter Try.func69, Try.ntmps69
  go_wp2_with (go_at_call 90; refine (groupedP_any xs A a _ hA hn).mono ?_; rintro e W5 ⟨⟨vo, rfl, hG⟩, hb5⟩; obtain ⟨svs, hsv, hsl, hgr⟩ := hG.ex; obtain ⟨OA, ocap, rfl⟩ := hsv.form; have HSL := Lib.hid hsl; clear hsl)
  obtain ⟨gss, hgss⟩ : ∃ gss, gss = grouped tgP xs := ⟨_, rfl⟩
  have hsl := HSL.out
  clear HSL
  rw [← hgss] at hsl hgr
  have hgl := grouped_last tgP xs xs.length (Nat.le_refl _)
  rw [List.take_length, ← hgss] at hgl
  have hgok : ∀ g ∈ gss, okLen g ∧ g ≠ [] ∧ g.length ≤ xs.length := by
    intro g hg
    refine ⟨fun x hx => hok x ?_, hgl.2 g hg, ?_⟩
    · rw [← hgl.1]
      exact List.mem_flatten.2 ⟨g, hg, hx⟩
    · rw [← hgl.1]
      exact (List.sublist_flatten_of_mem hg).length_le
  have hgn : gss.length ≤ xs.length := by
    rw [← hgl.1]
    have := hgl.2
    clear hgl hgss hsl hgr hgok
    induction gss with
    | nil => simp
    | cons g gs ih =>
      have h1 := ih (fun x hx => this x (by simp [hx]))
      have h2 := List.length_pos_iff.2 (this g (by simp))
      simp only [List.flatten_cons, List.length_append, List.length_cons]
      omega
  have hrl : ∀ k, ((gss.take k).flatMap runOf).length ≤ xs.length := by
    intro k
    have h1 := runs_len (gss.take k) (fun g hg => (hgok g (List.mem_of_mem_take hg)).1)
    have h2 : (gss.take k).flatten.length ≤ gss.flatten.length := by
      conv => rhs; rw [← List.take_append_drop k gss, List.flatten_append, List.length_append]
      omega
    rw [hgl.1] at h2
    omega
  have HRL := Lib.hid hrl
  have HGS := Lib.hid hgss
  have HGO := Lib.hid hgok
  clear hgss hgl hrl hgok
  have hsv' := hsv
  rw [hsl] at hsv
  rw [hsl]
  clear hsl
  have hw5 := hb5.size
  go_wp2_with fail
  go_loopw [3, 13] (fun v i wo => ∃ k : Nat, k ≤ gss.length ∧ i = .int .i64 k ∧ Below W5.heap.size W5 wo ∧ OwnL wo W5.heap.size 52 5 pcV v ((gss.take k).flatMap runOf)) (fun _ i _ => gss.length - (intOf i).toNat)
  case atStart => exact ⟨0, Nat.zero_le _, rfl, Below.refl _ _, OwnL.nil _ _ _ _ _⟩
  case round =>
    rename World => wo
    obtain ⟨k, hk, rfl, hB6, hown⟩ := hrel
    have hws := hB6.size
    obtain ⟨VO, capo, rfl⟩ := hown.form
    by_cases hlt : k < gss.length
    · obtain ⟨g, hg⟩ := getElem?_ex hlt
      obtain ⟨sv, hsvk, hog⟩ := hgr k g hg
      obtain ⟨hgk, hgne, hgl⟩ := HGO.out g (List.mem_of_getElem? hg)
      have hglen := List.length_pos_iff.2 hgne
      obtain ⟨GA, gcap, rfl⟩ := hog.form
      obtain ⟨ob, oo, hOA, hobl, hoc⟩ := (hsv'.rd (fun _ => rfl)).below hB6 k _ hsvk
      subst hOA
      have oc0 := hoc 0 _ rfl
      simp only [Nat.mul_one, Nat.add_zero] at oc0
      have HFT := Lib.hid (flat_take_succ runOf gss k g hg)
      clear hsvk hoc hg
      have hgs := lenSum_ok g hgk
      have hgs1 := hgs.1
      have hgs2 := hgs.2
      clear hgs
      go_wp2_with fail
      go_loopw [6, 19] (fun s i wr => ∃ m : Nat, m ≤ g.length ∧ i = .int .i64 m ∧ s = .int .i64 (lenSum (g.take m)) ∧ Below wo.heap.size wo wr) (fun _ i _ => g.length - (intOf i).toNat)
      case atStart => exact ⟨0, Nat.zero_le _, rfl, by simp [lenSum], Below.refl _ _⟩
      case round =>
        rename World => wi
        obtain ⟨m, hm, rfl, rfl, hB7⟩ := hrel
        have hB57 : Below W5.heap.size W5 wi := bthen hB6 hB7
        have hms := lenSum_ok (g.take m) (fun x hx => hgk x (List.mem_of_mem_take hx))
        have hml := List.length_take_le m g
        have hml2 := List.length_take_le' m g
        have ms1 : 0 ≤ lenSum (g.take m) := by omega
        have ms2 : lenSum (g.take m) ≤ 10000000 := by omega
        clear hms hml hml2
        have hrg := (hog.rd pcV_len).below hB57
        by_cases hlt2 : m < g.length
        · obtain ⟨x, hx⟩ := getElem?_ex hlt2
          obtain ⟨gb, go, hGA, hgbl, c0, c1, c2, c3, c4⟩ := hrg.at5 hx
          subst hGA
          have hx1 := hgk x (List.mem_of_getElem? hx)
          have x1 := hx1.1
          have x2 := hx1.2
          have HLS := Lib.hid (lenSum_take_succ g m x hx)
          clear hx hx1
          go_wp2_with fail
          go_roundw
          case rel => exact ⟨m + 1, by omega, by go_num, by rw [HLS.out], bthen hB7 (balloc _ _)⟩
          case measure => simp [intOf]; omega
        · obtain rfl : m = g.length := by omega
          rw [List.take_length] at ms1 ms2 ⊢
          obtain ⟨x, hx0⟩ := getElem?_ex hglen
          have HRO : Hid (runOf g = chunkL x (lenSum g)) := Lib.hid (by
            cases g with
            | nil => exact absurd rfl hgne
            | cons y g' =>
              simp at hx0
              subst hx0
              rfl)
          have hx1 := hgk x (List.mem_of_getElem? hx0)
          have x1 := hx1.1
          have x2 := hx1.2
          obtain ⟨gb, go, hGA, hgbl, c0, c1, c2, c3, c4⟩ := hrg.at5 hx0
          clear hx0 hx1
          subst hGA
          simp only [Nat.zero_mul, Nat.add_zero] at c0 c1 c2 c3 c4
          have n1 : 1 ≤ lenSum g := by omega
          obtain ⟨N, hN⟩ : ∃ N, N = lenSum g := ⟨_, rfl⟩
          rw [← hN] at ms1 ms2 HRO n1 ⊢
          have hos := HRL.out k
          obtain ⟨os, hose⟩ : ∃ os, os = (gss.take k).flatMap runOf := ⟨_, rfl⟩
          rw [← hose] at HFT hown hos ⊢
          have hown7 := hown.below hB7
          clear hN hose
          go_upto_region 13 with fail
          have bX : Blk (wi.alloc (.cells #[.int .i64 5000, .int .i64 x.turn, .int .i64 x.rad, .int .i64 x.wid, .int .i64 x.sur] 52)) wi.heap.size 52 #[.int .i64 5000, .int .i64 x.turn, .int .i64 x.rad, .int .i64 x.wid, .int .i64 x.sur] := Blk.new _ _ _
          have hNX : (Value.slice VO os.length capo).ownBlock ≠ some wi.heap.size := fun e => by
            have := (hown7.lt _ e).2
            omega
          have hs67 := hB7.size
          go_wp2_with fail
          go_loopw [3, 6] (fun v n wr => ∃ (ys : List Pc) (z : Int), n = .int .i64 z ∧ 1 ≤ z ∧ z ≤ N ∧ (ys.length : Int) * 5000 + z ≤ N ∧ Hid (ys ++ chunkL x z = chunkL x N) ∧ OwnL wr W5.heap.size 52 5 pcV v (os ++ ys) ∧ v.ownBlock ≠ some wi.heap.size ∧ Blk wr wi.heap.size 52 #[.int .i64 5000, .int .i64 x.turn, .int .i64 x.rad, .int .i64 x.wid, .int .i64 x.sur] ∧ Below W5.heap.size W5 wr ∧ wi.heap.size < wr.heap.size) (fun _ n _ => (intOf n).toNat)
          case atStart => exact ⟨[], N, rfl, n1, Int.le_refl _, by simp, Lib.hid rfl, by rw [List.append_nil]; exact hown7.below (balloc _ _), hNX, bX, hB57.trans ((balloc wi _).mono hB57.size), by simp⟩
          case round =>
            rename World => wr
            obtain ⟨ys, z, rfl, z1, z2, z3, HC, hO, hNe, bN, hBr, hsr⟩ := hrel
            obtain ⟨zs, hzs⟩ : ∃ zs, zs = os ++ ys := ⟨_, rfl⟩
            have hzl : zs.length = os.length + ys.length := by rw [hzs]; simp
            have hzl2 : zs.length ≤ 10000 := by omega
            rw [← hzs] at hO
            have HZ := Lib.hid hzs
            clear hzs hzl
            obtain ⟨VV, cv, rfl⟩ := hO.form
            have d0 := bN.cell 0
            have d1 := bN.cell 1
            have d2 := bN.cell 2
            have d3 := bN.cell 3
            have d4 := bN.cell 4
            have f0 := bN.frozen 0
            have hBs := hBr.size
            have hO' : wr.ownsRow W5.heap.size 52 5 (.slice VV zs.length cv) zs.length (zs.flatMap pcV) := hO
            by_cases hz : 5000 < z
            · go_wp2_with (at_builtin; refine wpList_append_lies _ rfl _ _ 22 rfl W5.heap.size 52 j0 _ 5 40 Try.underlying22 hj hy0 hy1 hy2 rfl (by decide) (.slice VV zs.length cv) zs.length (zs.flatMap pcV) rfl (World.ownsRow.alloc hO' _) ⟨wr.heap.size, 0, none⟩ 1 1 (pcV ⟨5000, x.turn, x.rad, x.wid, x.sur⟩) rfl rfl (cells_new _ (pcV ⟨5000, x.turn, x.rad, x.wid, x.sur⟩) _ _ (by simp)) (by simp [pcV, Value.oneCell']) (by decide) (by simp only [maxLen]; omega) (by omega) (by simp; omega) _ rfl ?_; intro g2 cap2 w1 hown' hgrow hat hlt3)
              go_wp2_with fail
              have hO2 : OwnL w1 W5.heap.size 52 5 pcV (.slice (some ⟨g2, 0, none⟩) (zs.length + 1) cap2) (zs ++ [⟨5000, x.turn, x.rad, x.wid, x.sur⟩]) := OwnL.snoc hown' rfl
              have hB2 : Below W5.heap.size (wr.alloc (.cells #[.int .i64 5000, .int .i64 x.turn, .int .i64 x.rad, .int .i64 x.wid, .int .i64 x.sur] 52)) w1 := OwnL.grown_below (k := 5) (f := pcV) (xs := zs) (World.ownsRow.alloc hO' _) (by simp; omega) hgrow
              go_roundw
              case rel =>
                refine ⟨ys ++ [⟨5000, x.turn, x.rad, x.wid, x.sur⟩], z - 5000, rfl, by omega, by omega, by simp; omega, Lib.hid ?_, ?_, ?_, (bN.alloc _).grown hgrow (fun e => hNe e.symm), (hBr.trans ((balloc wr _).mono hBs)).trans hB2, by have := hgrow.size; simp at this; omega⟩
                · rw [← HC.out, chunkL_more x z hz]
                  simp
                · rw [← List.append_assoc, ← HZ.out]
                  exact hO2
                · intro e
                  rcases hat with hat | hat
                  · exact hNe (hat.trans e)
                  · simp [Value.ownBlock] at e
                    simp at hat
                    omega
              case measure => simp [intOf]; omega
            · go_upto_region 17 with fail
              have bN2 := bN.set_ 0 (.int .i64 z)
              have hO3 : OwnL (wr.setCell ⟨wi.heap.size, 0, none⟩ (.int .i64 z)) W5.heap.size 52 5 pcV (.slice VV zs.length cv) zs := hO.other (grown_set wr wi.heap.size 0 (.int .i64 z)) (.inr hNe)
              have hB3 : Below W5.heap.size W5 (wr.setCell ⟨wi.heap.size, 0, none⟩ (.int .i64 z)) := hBr.setCell (p := ⟨wi.heap.size, 0, none⟩) (by simp; omega) _
              obtain ⟨wr2, hwr2⟩ : ∃ wr2, wr2 = wr.setCell ⟨wi.heap.size, 0, none⟩ (.int .i64 z) := ⟨_, rfl⟩
              rw [← hwr2] at bN2 hO3 hB3 ⊢
              clear d0 d1 d2 d3 d4 f0 hwr2 bN hO hO' hBr hBs
              have d0 := bN2.cell 0
              have d1 := bN2.cell 1
              have d2 := bN2.cell 2
              have d3 := bN2.cell 3
              have d4 := bN2.cell 4
              have dl := bN2.lt
              have hBs := hB3.size
              have hO' : wr2.ownsRow W5.heap.size 52 5 (.slice VV zs.length cv) zs.length (zs.flatMap pcV) := hO3
              go_wp2_with (at_builtin; refine wpList_append_lies _ rfl _ _ 22 rfl W5.heap.size 52 j0 _ 5 40 Try.underlying22 hj hy0 hy1 hy2 rfl (by decide) (.slice VV zs.length cv) zs.length (zs.flatMap pcV) rfl (World.ownsRow.alloc hO' _) ⟨wr2.heap.size, 0, none⟩ 1 1 (pcV ⟨z, x.turn, x.rad, x.wid, x.sur⟩) rfl rfl (cells_new _ (pcV ⟨z, x.turn, x.rad, x.wid, x.sur⟩) _ _ (by simp)) (by simp [pcV, Value.oneCell']) (by decide) (by simp only [maxLen]; omega) (by omega) (by simp; omega) _ rfl ?_; intro g2 cap2 w1 hown' hgrow hat hlt3)
              go_wp2_with fail
              have hO2 : OwnL w1 W5.heap.size 52 5 pcV (.slice (some ⟨g2, 0, none⟩) (zs.length + 1) cap2) (zs ++ [⟨z, x.turn, x.rad, x.wid, x.sur⟩]) := OwnL.snoc hown' rfl
              have hB2 : Below W5.heap.size (wr2.alloc (.cells #[.int .i64 z, .int .i64 x.turn, .int .i64 x.rad, .int .i64 x.wid, .int .i64 x.sur] 52)) w1 := OwnL.grown_below (k := 5) (f := pcV) (xs := zs) (World.ownsRow.alloc hO' _) (by simp; omega) hgrow
              go_roundw
              case rel =>
                refine ⟨k + 1, by omega, by go_num, (hB3.trans ((balloc wr2 _).mono hBs)).trans hB2, ?_⟩
                rw [HFT.out, HRO.out, ← HC.out, chunkL_one x z hz, ← List.append_assoc, ← HZ.out]
                exact hO2
              case measure => simp [intOf]; omega
    · obtain rfl : k = gss.length := by omega
      rw [List.take_length] at hown ⊢
      have HRS : Hid (gss.flatMap runOf = runsL xs) := Lib.hid (by rw [HGS.out]; rfl)
      rw [HRS.out] at hown ⊢
      go_wp2_with fail
      go_ret
      exact ⟨⟨_, rfl, hown.base_mono hw5⟩, bthen hb5 hB6⟩

end Go.Proofs.Ytbdjmaogbpdkpaa

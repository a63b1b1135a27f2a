import Derived.Test.YtbdjmaogbpdkpaaRuns
/-
  The reference's pieces.
-/
namespace Go.Proofs.Ytbdjmaogbpdkpaa
open Go.RowKit Go.Shelf
set_option linter.unusedVariables false
set_option linter.unusedSimpArgs false
attribute [local go_sem] Later.cell Later.cell1 Later.new1 Later.frozen Later.frozen1 min_ints

/-- One more piece: it makes the last one longer, or it is new. -/
def longer (y x : Pc) : Pc := { y with len := y.len + x.len }
def madd (a : List Pc) (x : Pc) : List Pc :=
  match a.getLast? with
  | none => [x]
  | some y => if tgP y x then a.dropLast ++ [longer y x] else a ++ [x]
def mrg (xs : List Pc) : List Pc := xs.foldl madd []
theorem madd_same (a : List Pc) (y x : Pc) (h : tgP y x = true) : madd (a ++ [y]) x = a ++ [longer y x] := by simp [madd, h]
theorem madd_new (a : List Pc) (y x : Pc) (h : tgP y x = false) : madd (a ++ [y]) x = a ++ [y] ++ [x] := by simp [madd, h]
theorem mrg_take_succ (l : List Pc) (k : Nat) (x : Pc) (hx : l[k]? = some x) : mrg (l.take (k + 1)) = madd (mrg (l.take k)) x := by
  unfold mrg
  rw [List.take_add_one, hx, List.foldl_append]
  rfl
theorem lenSum_app (ps qs : List Pc) : lenSum (ps ++ qs) = lenSum ps + lenSum qs := by simp [lenSum]
theorem lenSum_one (p : Pc) : lenSum [p] = p.len := by simp [lenSum]
def okM (ps : List Pc) : Prop := ∀ p ∈ ps, 1 ≤ p.len
theorem okM_sum (ps : List Pc) (h : okM ps) : (ps.length : Int) ≤ lenSum ps := by
  induction ps with
  | nil => simp [lenSum]
  | cons p ps ih =>
    have h1 := h p (by simp)
    have h2 := ih (fun q hq => h q (by simp [hq]))
    have e : lenSum (p :: ps) = p.len + lenSum ps := by simp [lenSum]
    rw [e, List.length_cons]
    omega
theorem okM_mem (ps : List Pc) (h : okM ps) : ∀ p ∈ ps, p.len ≤ lenSum ps := by
  induction ps with
  | nil => intro p hp; simp at hp
  | cons q ps ih =>
    intro p hp
    have h1 := h q (by simp)
    have h2 := ih (fun q hq => h q (by simp [hq]))
    have h3 := okM_sum ps (fun q hq => h q (by simp [hq]))
    have e : lenSum (q :: ps) = q.len + lenSum ps := by simp [lenSum]
    rw [e]
    rcases List.mem_cons.1 hp with rfl | hp
    · omega
    · have := h2 p hp; omega
theorem madd_ok (a : List Pc) (x : Pc) (ha : okM a) (hx : 1 ≤ x.len) : okM (madd a x) ∧ lenSum (madd a x) = lenSum a + x.len ∧ (madd a x).length ≤ a.length + 1 := by
  rcases List.eq_nil_or_concat a with rfl | ⟨b, y, rfl⟩
  · exact ⟨by simpa [okM, madd] using hx, by simp [madd, lenSum], by simp [madd]⟩
  · rw [List.concat_eq_append] at ha ⊢
    have hy : 1 ≤ y.len := ha y (by simp)
    cases h : tgP y x
    · rw [madd_new b y x h]
      refine ⟨?_, by rw [lenSum_app, lenSum_one], by simp⟩
      intro p hp
      rcases List.mem_append.1 hp with hp | hp
      · exact ha p hp
      · simp at hp; subst hp; exact hx
    · rw [madd_same b y x h]
      refine ⟨?_, by simp only [lenSum_app, lenSum_one, longer]; omega, by simp⟩
      intro p hp
      rcases List.mem_append.1 hp with hp | hp
      · exact ha p (by simp [hp])
      · simp at hp; subst hp; simp only [longer]; omega
theorem mrg_ok (xs : List Pc) (h : okLen xs) : ∀ k, k ≤ xs.length → okM (mrg (xs.take k)) ∧ lenSum (mrg (xs.take k)) = lenSum (xs.take k) ∧ (mrg (xs.take k)).length ≤ k := by
  intro k
  induction k with
  | zero => intro _; simp [mrg, okM, lenSum]
  | succ k ih =>
    intro hk
    obtain ⟨h1, h2, h3⟩ := ih (by omega)
    obtain ⟨x, hx⟩ := getElem?_ex (show k < xs.length by omega)
    rw [mrg_take_succ xs k x hx]
    obtain ⟨g1, g2, g3⟩ := madd_ok (mrg (xs.take k)) x h1 (h x (List.mem_of_getElem? hx)).1
    refine ⟨g1, ?_, by omega⟩
    rw [g2, h2, List.take_add_one, hx, Option.toList_some, lenSum_app, lenSum_one]
/-- The reference's pieces. -/
def pcsL (xs : List Pc) : List Pc := (mrg xs).flatMap fun p => chunkL p p.len

/-- What is left of a piece, cut. -/
def chunk0 (p : Pc) (z : Int) : List Pc := if z ≤ 0 then [] else chunkL p z
theorem chunk0_step (p : Pc) (z : Int) (h : 0 < z) : chunk0 p z = { p with len := min z 5000 } :: chunk0 p (z - min z 5000) := by
  unfold chunk0
  rw [if_neg (by omega)]
  by_cases hz : 5000 < z
  · rw [chunkL_more p z hz, show min z 5000 = 5000 by omega, if_neg (by omega)]
  · rw [chunkL_one p z hz, show min z 5000 = z by omega, if_pos (by omega)]
def cutL (p : Pc) : List Pc := chunkL p p.len
theorem cut_len (p : Pc) (h : 1 ≤ p.len) : ((cutL p).length : Int) ≤ p.len := by
  have := chunkL_len p _ p.len (Nat.le_refl _) (by omega)
  unfold cutL
  omega
theorem cuts_len (ps : List Pc) (h : okM ps) : ((ps.flatMap cutL).length : Int) ≤ lenSum ps := by
  induction ps with
  | nil => simp [lenSum]
  | cons p ps ih =>
    have h1 := cut_len p (h p (by simp))
    have h2 := ih (fun q hq => h q (by simp [hq]))
    have e : lenSum (p :: ps) = p.len + lenSum ps := by simp [lenSum]
    rw [e, List.flatMap_cons, List.length_append]
    omega
theorem cuts_take (ps : List Pc) (h : okM ps) (k : Nat) : (((ps.take k).flatMap cutL).length : Int) ≤ lenSum ps := by
  have h1 := cuts_len (ps.take k) (fun q hq => h q (List.mem_of_mem_take hq))
  have h2 := okM_sum (ps.drop k) (fun q hq => h q (List.mem_of_mem_drop hq))
  have h3 := lenSum_app (ps.take k) (ps.drop k)
  rw [List.take_append_drop] at h3
  omega

set_option maxRecDepth 100000 in
set_option maxHeartbeats 16000000 in
theorem rpieces_any (xs : List Pc) (A : Option Addr) (a : Nat) (w : World) (hA : Rd 5 pcV w A xs) (hok : okLen xs) (hn : xs.length ≤ 2000) :
    Calls Try.prog 70 #[.slice A xs.length a] w fun e w' => (∃ v, e = .returned v ∧ OwnL w' w.heap.size 52 5 pcV v (pcsL xs)) ∧ Below w.heap.size w w' := by
  obtain ⟨j0, hj, hy0, hy1, hy2⟩ := info_parts Try.info52
  have HOK := Lib.hid hok
  clear hok
  go_enter Try.func70, Try.ntmps70
  go_wp2_with fail
  go_loopw [3, 4] (fun v i wr => ∃ k : Nat, k ≤ xs.length ∧ i = .int .i64 k ∧ Below w.heap.size w wr ∧ OwnL wr w.heap.size 52 5 pcV v (mrg (xs.take k))) (fun _ i _ => xs.length - (intOf i).toNat)
  case atStart => exact ⟨0, Nat.zero_le _, rfl, Below.refl _ _, OwnL.nil _ _ _ _ _⟩
  case round =>
    rename World => wr
    obtain ⟨k, hk, rfl, hW, hO⟩ := hrel
    have hws := hW.size
    have hmo := mrg_ok xs HOK.out k hk
    by_cases hlt : k < xs.length
    · obtain ⟨x, hx⟩ := getElem?_ex hlt
      obtain ⟨xb, xo, hA', hbb, c0, c1, c2, c3, c4⟩ := (hA.below hW).at5 hx
      subst hA'
      have hxo := HOK.out x (List.mem_of_getElem? hx)
      have x1 := hxo.1
      have x2 := hxo.2
      have hls := lenSum_ok (xs.take k) (fun y hy => HOK.out y (List.mem_of_mem_take hy))
      have hls2 := hls.2
      rw [List.length_take_of_le hk] at hls2
      have HGK := Lib.hid (mrg_take_succ xs k x hx)
      clear hx hxo hls
      have hmk := hmo.2.2
      have hm2 := okM_mem _ hmo.1
      rw [hmo.2.1] at hm2
      have HM2 := Lib.hid (show (∀ p ∈ mrg (xs.take k), p.len ≤ lenSum (xs.take k)) ∧ (∀ p ∈ mrg (xs.take k), 1 ≤ p.len) from ⟨hm2, hmo.1⟩)
      clear hm2 hmo
      obtain ⟨ms, hms⟩ : ∃ ms, ms = mrg (xs.take k) := ⟨_, rfl⟩
      rw [← hms] at hO hmk HM2 HGK
      clear hms
      rcases List.eq_nil_or_concat ms with rfl | ⟨cs, y, hcy⟩
      · obtain ⟨VA, va, rfl⟩ := hO.form
        simp only [List.length_nil] at hO ⊢
        have hO' : wr.ownsRow w.heap.size 52 5 (.slice VA 0 va) 0 [] := hO
        go_wp2_with fail
        refine wp_region_later (by kernel_rfl) (by kernel_rfl) ?_
        repeat (go_big_quiet_step (fail))
        refine wpQuiet_nil ?_
        rintro _ ⟨z, rfl⟩
        have hWz := hW.trans (z.b.mono hws)
        have hOz := hO.below z.b
        have hzs := Nat.le_trans hws z.b.size
        have hbz := Nat.lt_of_lt_of_le hbb z.b.size
        have s0 : z.w.cell? ⟨xb, xo + k * 5, none⟩ = _ := (z.b.cell (p := ⟨xb, xo + k * 5, none⟩) hbb).trans c0
        have s1 : z.w.cell? ⟨xb, xo + k * 5 + 1, none⟩ = _ := (z.b.cell (p := ⟨xb, xo + k * 5 + 1, none⟩) hbb).trans c1
        have s2 : z.w.cell? ⟨xb, xo + k * 5 + 2, none⟩ = _ := (z.b.cell (p := ⟨xb, xo + k * 5 + 2, none⟩) hbb).trans c2
        have s3 : z.w.cell? ⟨xb, xo + k * 5 + 3, none⟩ = _ := (z.b.cell (p := ⟨xb, xo + k * 5 + 3, none⟩) hbb).trans c3
        have s4 : z.w.cell? ⟨xb, xo + k * 5 + 4, none⟩ = _ := (z.b.cell (p := ⟨xb, xo + k * 5 + 4, none⟩) hbb).trans c4
        obtain ⟨Wz, hWzz⟩ : ∃ Wz, Wz = z.w := ⟨_, rfl⟩
        rw [← hWzz] at hWz hOz hzs hbz s0 s1 s2 s3 s4 ⊢
        clear hWzz
        have hOz' : Wz.ownsRow w.heap.size 52 5 (.slice VA 0 va) (0) ([]) := by
          have := hOz
          unfold OwnL at this
          exact this
        go_wp2_with (at_builtin; refine wpList_append_lies _ rfl _ _ 22 rfl w.heap.size 52 j0 _ 5 40 Try.underlying22 hj hy0 hy1 hy2 rfl (by decide) (.slice VA 0 va) (0) ([]) rfl (World.ownsRow.alloc hOz' _) ⟨Wz.heap.size, 0, none⟩ 1 1 (pcV x) rfl rfl (cells_new _ (pcV x) _ _ (by simp)) (by simp [pcV, Value.oneCell']) (by decide) (by simp only [maxLen]; omega) (by omega) (by simp; omega) _ rfl ?_; intro g2 cap2 w1 hown' hgrow hat hlt3)
        have hO2 : OwnL w1 w.heap.size 52 5 pcV (.slice (some ⟨g2, 0, none⟩) (0 + 1) cap2) ([] ++ [x]) := OwnL.snoc hown' (by simp)
        have hB2 : Below w.heap.size (Wz.alloc (.cells (pcV x).toArray 52)) w1 := OwnL.grown_below (k := 5) (f := pcV) (xs := []) (v := .slice VA 0 va) (by have := World.ownsRow.alloc hOz' (.cells (pcV x).toArray 52); unfold OwnL; exact this) (by simp; omega) hgrow
        go_wp2_with fail
        go_roundw
        case rel => exact ⟨k + 1, by omega, by go_num, (hWz.trans ((balloc Wz _).mono hzs)).trans hB2, by rw [HGK.out, show madd [] x = [] ++ [x] from rfl]; exact hO2⟩
        case measure => simp [intOf]; omega
      · rw [List.concat_eq_append] at hcy
        subst hcy
        have hyl := HM2.out.1 y (by simp)
        have hyp1 := HM2.out.2 y (by simp)
        obtain ⟨ob, ocap, rfl, hob, hobl⟩ := hO.form1 (by simp)
        obtain ⟨n, hn'⟩ : ∃ n, n = cs.length := ⟨_, rfl⟩
        have hnl : (cs ++ [y]).length = n + 1 := by simp [hn']
        rw [hnl] at hO hmk ⊢
        have hO' : wr.ownsRow w.heap.size 52 5 (.slice (some ⟨ob, 0, none⟩) (n + 1) ocap) (n + 1) ((cs ++ [y]).flatMap pcV) := by
          have := hO
          unfold OwnL at this
          rwa [hnl] at this
        have hy : (cs ++ [y])[n]? = some y := by simp [hn']
        obtain ⟨yb, yo, e1, hyb, d0, d1, d2, d3, d4⟩ := (hO.rd pcV_len).at5 hy
        injection e1 with e1
        injection e1 with e1 e2
        subst e1 e2
        simp only [Nat.zero_add] at d0 d1 d2 d3 d4
        have q1 : IntKind.i64.wrap (((n : Int) + 1) - 1) = (n : Int) := by rw [IntWalk.i64_in _ (by omega)]; omega
        have q2 : 0 ≤ (n : Int) := by omega
        have q3 : ((n : Int)).toNat = n := by omega
        have q4 : (n : Int) < (n : Int) + 1 := by omega
        have hfz := World.ownsRow.frozenAt hO' (n * 5)
        have HY := Lib.hid hy
        have HNL := Lib.hid hnl
        have HN := Lib.hid hn'
        clear hy
        cases htg : tgP y x
        · have HT := Lib.hid htg
          clear hn' hnl
          go_wp2_with fail
          refine wp_region_later (by kernel_rfl) (by kernel_rfl) ?_
          repeat (go_big_quiet_step ((go_at_call 92; exact later_out (htg ▸ alike_any y x _))))
          refine wpQuiet_nil ?_
          rintro _ ⟨z, rfl⟩
          have hWz := hW.trans (z.b.mono hws)
          have hOz := hO.below z.b
          have hzs := Nat.le_trans hws z.b.size
          have hbz := Nat.lt_of_lt_of_le hbb z.b.size
          have s0 : z.w.cell? ⟨xb, xo + k * 5, none⟩ = _ := (z.b.cell (p := ⟨xb, xo + k * 5, none⟩) hbb).trans c0
          have s1 : z.w.cell? ⟨xb, xo + k * 5 + 1, none⟩ = _ := (z.b.cell (p := ⟨xb, xo + k * 5 + 1, none⟩) hbb).trans c1
          have s2 : z.w.cell? ⟨xb, xo + k * 5 + 2, none⟩ = _ := (z.b.cell (p := ⟨xb, xo + k * 5 + 2, none⟩) hbb).trans c2
          have s3 : z.w.cell? ⟨xb, xo + k * 5 + 3, none⟩ = _ := (z.b.cell (p := ⟨xb, xo + k * 5 + 3, none⟩) hbb).trans c3
          have s4 : z.w.cell? ⟨xb, xo + k * 5 + 4, none⟩ = _ := (z.b.cell (p := ⟨xb, xo + k * 5 + 4, none⟩) hbb).trans c4
          obtain ⟨Wz, hWzz⟩ : ∃ Wz, Wz = z.w := ⟨_, rfl⟩
          rw [← hWzz] at hWz hOz hzs hbz s0 s1 s2 s3 s4 ⊢
          clear hWzz
          have hOz' : Wz.ownsRow w.heap.size 52 5 (.slice (some ⟨ob, 0, none⟩) (n + 1) ocap) (n + 1) ((cs ++ [y]).flatMap pcV) := by
            have := hOz
            unfold OwnL at this
            rwa [HNL.out] at this
          go_wp2_with (at_builtin; refine wpList_append_lies _ rfl _ _ 22 rfl w.heap.size 52 j0 _ 5 40 Try.underlying22 hj hy0 hy1 hy2 rfl (by decide) (.slice (some ⟨ob, 0, none⟩) (n + 1) ocap) (n + 1) ((cs ++ [y]).flatMap pcV) rfl (World.ownsRow.alloc hOz' _) ⟨Wz.heap.size, 0, none⟩ 1 1 (pcV x) rfl rfl (cells_new _ (pcV x) _ _ (by simp)) (by simp [pcV, Value.oneCell']) (by decide) (by simp only [maxLen]; omega) (by omega) (by simp; omega) _ rfl ?_; intro g2 cap2 w1 hown' hgrow hat hlt3)
          have hO2 : OwnL w1 w.heap.size 52 5 pcV (.slice (some ⟨g2, 0, none⟩) (n + 1 + 1) cap2) ((cs ++ [y]) ++ [x]) := OwnL.snoc hown' (by simp [HN.out])
          have hB2 : Below w.heap.size (Wz.alloc (.cells (pcV x).toArray 52)) w1 := OwnL.grown_below (k := 5) (f := pcV) (xs := (cs ++ [y])) (v := .slice (some ⟨ob, 0, none⟩) (n + 1) ocap) (by have := World.ownsRow.alloc hOz' (.cells (pcV x).toArray 52); unfold OwnL; rw [HNL.out]; exact this) (by simp; omega) hgrow
          go_wp2_with fail
          go_roundw
          case rel => exact ⟨k + 1, by omega, by go_num, (hWz.trans ((balloc Wz _).mono hzs)).trans hB2, by rw [HGK.out, madd_new cs y x htg]; exact hO2⟩
          case measure => simp [intOf]; omega
        · clear hn' hnl
          go_wp2_with fail
          refine wp_region_later (by kernel_rfl) (by kernel_rfl) ?_
          repeat (go_big_quiet_step ((go_at_call 92; exact later_out (htg ▸ alike_any y x _))))
          refine wpQuiet_nil ?_
          rintro _ ⟨z, rfl⟩
          have hWz := hW.trans (z.b.mono hws)
          have hOz := hO.below z.b
          have hzs := Nat.le_trans hws z.b.size
          have hbz := Nat.lt_of_lt_of_le hbb z.b.size
          have s0 : z.w.cell? ⟨xb, xo + k * 5, none⟩ = _ := (z.b.cell (p := ⟨xb, xo + k * 5, none⟩) hbb).trans c0
          have s1 : z.w.cell? ⟨xb, xo + k * 5 + 1, none⟩ = _ := (z.b.cell (p := ⟨xb, xo + k * 5 + 1, none⟩) hbb).trans c1
          have s2 : z.w.cell? ⟨xb, xo + k * 5 + 2, none⟩ = _ := (z.b.cell (p := ⟨xb, xo + k * 5 + 2, none⟩) hbb).trans c2
          have s3 : z.w.cell? ⟨xb, xo + k * 5 + 3, none⟩ = _ := (z.b.cell (p := ⟨xb, xo + k * 5 + 3, none⟩) hbb).trans c3
          have s4 : z.w.cell? ⟨xb, xo + k * 5 + 4, none⟩ = _ := (z.b.cell (p := ⟨xb, xo + k * 5 + 4, none⟩) hbb).trans c4
          obtain ⟨Wz, hWzz⟩ : ∃ Wz, Wz = z.w := ⟨_, rfl⟩
          rw [← hWzz] at hWz hOz hzs hbz s0 s1 s2 s3 s4 ⊢
          have u0 : Wz.cell? ⟨ob, n * 5, none⟩ = some (.int .i64 y.len) := by rw [hWzz]; exact (z.b.cell (p := ⟨ob, n * 5, none⟩) hobl).trans d0
          have q5 : IntKind.i64.wrap (y.len + x.len) = y.len + x.len := IntWalk.i64_in _ (by omega)
          have uf : Wz.frozen? ⟨ob, n * 5, none⟩ = false := by rw [hWzz]; exact (z.b.frozen (p := ⟨ob, n * 5, none⟩) hobl).trans hfz
          have ul : ob < Wz.heap.size := by rw [hWzz]; exact Nat.lt_of_lt_of_le hobl z.b.size
          clear hWzz d0 d1 d2 d3 d4 hfz
          go_wp2_with fail
          refine wp_region_later_tail 15 (by kernel_rfl) (by kernel_rfl) ?_
          simp only [List.take_succ_cons, List.take_zero, List.drop_succ_cons, List.drop_zero]
          repeat (go_big_quiet_step (fail))
          refine wpQuiet_nil ?_
          rintro _ ⟨y2, rfl⟩
          have hWy := hWz.trans (y2.b.mono hzs)
          have hOy := hOz.below y2.b
          have fy : y2.w.frozen? ⟨ob, n * 5, none⟩ = false := (y2.b.frozen (p := ⟨ob, n * 5, none⟩) ul).trans uf
          have ay : y2.w.cell? ⟨ob, n * 5, none⟩ = some (.int .i64 y.len) := (y2.b.cell (p := ⟨ob, n * 5, none⟩) ul).trans u0
          have gy := Nat.lt_of_lt_of_le ul y2.b.size
          obtain ⟨Wy, hWyy⟩ : ∃ Wy, Wy = y2.w := ⟨_, rfl⟩
          rw [← hWyy] at hWy hOy fy ay gy ⊢
          clear hWyy
          go_wp2_with fail
          go_roundw
          case rel =>
            have o1 := OwnL.store (i := n) (j := 0) (x' := longer y x) (u := .int .i64 (y.len + x.len)) hOy HNL.out.symm pcV_len HY.out (by decide) rfl
            have e2 : (cs ++ [y]).set n (longer y x) = cs ++ [longer y x] := by rw [HN.out]; simp
            rw [e2] at o1
            refine ⟨k + 1, by omega, by go_num, hWy.setCell (p := ⟨ob, n * 5, none⟩) hob _, ?_⟩
            rw [HGK.out, madd_same cs y x htg]
            exact o1
          case measure => simp [intOf]; omega
    · obtain rfl : k = xs.length := by omega
      have hls := lenSum_ok xs HOK.out
      rw [List.take_length] at hO hmo
      obtain ⟨hm1, hm2, hm3⟩ := hmo
      obtain ⟨ms, hms⟩ : ∃ ms, ms = mrg xs := ⟨_, rfl⟩
      have HP : Hid (pcsL xs = ms.flatMap cutL) := Lib.hid (by rw [hms]; rfl)
      rw [← hms] at hO hm1 hm2 hm3
      clear hms
      obtain ⟨MA, mc, rfl⟩ := hO.form
      have hRm := hO.rd pcV_len
      have hml : lenSum ms ≤ 10000000 := by omega
      have HM1 := Lib.hid hm1
      have HMM := Lib.hid (okM_mem ms hm1)
      clear hls hm1 hm2
      have HCT := Lib.hid (cuts_take ms HM1.out)
      go_wp2_with fail
      go_loopw [6, 7] (fun v i wo => ∃ m : Nat, m ≤ ms.length ∧ i = .int .i64 m ∧ Below wr.heap.size wr wo ∧ OwnL wo wr.heap.size 52 5 pcV v ((ms.take m).flatMap cutL)) (fun _ i _ => ms.length - (intOf i).toNat)
      case atStart => exact ⟨0, Nat.zero_le _, rfl, Below.refl _ _, OwnL.nil _ _ _ _ _⟩
      case round =>
        rename World => wo
        obtain ⟨m, hm, rfl, hB6, hown⟩ := hrel
        have hwo := hB6.size
        by_cases hlt : m < ms.length
        · obtain ⟨p, hp⟩ := getElem?_ex hlt
          obtain ⟨pb, po, rfl, hpb, c0, c1, c2, c3, c4⟩ := (hRm.below hB6).at5 hp
          have p1 := HM1.out p (List.mem_of_getElem? hp)
          have p2 := HMM.out p (List.mem_of_getElem? hp)
          have HFT := Lib.hid (flat_take_succ cutL ms m p hp)
          have hct := HCT.out m
          clear hp
          obtain ⟨VO, capo, rfl⟩ := hown.form
          obtain ⟨os, hos⟩ : ∃ os, os = (ms.take m).flatMap cutL := ⟨_, rfl⟩
          rw [← hos] at hown hct HFT ⊢
          clear hos
          have hosl : os.length ≤ 10000000 := by omega
          clear hct
          go_wp2_with fail
          have bX : Blk (wo.alloc (.cells #[.int .i64 p.len, .int .i64 p.turn, .int .i64 p.rad, .int .i64 p.wid, .int .i64 p.sur] 52)) wo.heap.size 52 #[.int .i64 p.len, .int .i64 p.turn, .int .i64 p.rad, .int .i64 p.wid, .int .i64 p.sur] := Blk.new _ _ _
          have hNX : (Value.slice VO os.length capo).ownBlock ≠ some wo.heap.size := fun e => by
            have := (hown.lt _ e).2
            omega
          go_loopw [6] (fun v wi => ∃ (ys : List Pc) (z : Int), 0 ≤ z ∧ z ≤ p.len ∧ (ys.length : Int) ≤ p.len - z ∧ Hid (ys ++ chunk0 p z = cutL p) ∧ OwnL wi wr.heap.size 52 5 pcV v (os ++ ys) ∧ v.ownBlock ≠ some wo.heap.size ∧ Blk wi wo.heap.size 52 #[.int .i64 z, .int .i64 p.turn, .int .i64 p.rad, .int .i64 p.wid, .int .i64 p.sur] ∧ Below wr.heap.size wr wi ∧ wo.heap.size < wi.heap.size) (fun _ W => ((W.cell? ⟨wo.heap.size, 0, none⟩).map fun u => (intOf u).toNat).getD 0)
          case atStart => exact ⟨[], p.len, by omega, Int.le_refl _, by simp, Lib.hid (by simp only [chunk0, cutL, List.nil_append]; rw [if_neg (by omega)]), by rw [List.append_nil]; exact hown.below (balloc _ _), hNX, bX, hB6.trans ((balloc wo _).mono hwo), by simp⟩
          case round =>
            rename World => wi
            obtain ⟨ys, z, z1, z2, z3, HC, hO3, hNe, bN, hBr, hsr⟩ := hrel
            obtain ⟨zs, hzs⟩ : ∃ zs, zs = os ++ ys := ⟨_, rfl⟩
            have hzl : zs.length = os.length + ys.length := by rw [hzs]; simp
            have hzl2 : zs.length ≤ 20000000 := by omega
            rw [← hzs] at hO3
            have HZ := Lib.hid hzs
            clear hzs hzl
            obtain ⟨VV, cv, rfl⟩ := hO3.form
            have d0 := bN.cell 0
            have d1 := bN.cell 1
            have d2 := bN.cell 2
            have d3 := bN.cell 3
            have d4 := bN.cell 4
            have f0 := bN.frozen 0
            have hBs := hBr.size
            by_cases hz : 0 < z
            · have HCS := Lib.hid (chunk0_step p z hz)
              have e5 : IntKind.i64.wrap (z - min z 5000) = z - min z 5000 := IntWalk.i64_in _ (by omega)
              go_upto_region 17 with fail
              have bQ2 : Blk (wi.alloc (.cells #[.int .i64 (min z 5000), .int .i64 p.turn, .int .i64 p.rad, .int .i64 p.wid, .int .i64 p.sur] 52)) wi.heap.size 52 #[.int .i64 (min z 5000), .int .i64 p.turn, .int .i64 p.rad, .int .i64 p.wid, .int .i64 p.sur] := Blk.new _ _ _
              have hNQ : (Value.slice VV zs.length cv).ownBlock ≠ some wi.heap.size := fun e => by
                have := (hO3.lt _ e).2
                omega
              have hO4 : OwnL (wi.alloc (.cells #[.int .i64 (min z 5000), .int .i64 p.turn, .int .i64 p.rad, .int .i64 p.wid, .int .i64 p.sur] 52)) wr.heap.size 52 5 pcV (.slice VV zs.length cv) zs := hO3.below (balloc _ _)
              have bN4 : Blk (wi.alloc (.cells #[.int .i64 (min z 5000), .int .i64 p.turn, .int .i64 p.rad, .int .i64 p.wid, .int .i64 p.sur] 52)) wo.heap.size 52 _ := bN.alloc _
              have hB4 : Below wr.heap.size wr (wi.alloc (.cells #[.int .i64 (min z 5000), .int .i64 p.turn, .int .i64 p.rad, .int .i64 p.wid, .int .i64 p.sur] 52)) := hBr.trans ((balloc wi _).mono hBs)
              have hsz4 : (wi.alloc (.cells #[.int .i64 (min z 5000), .int .i64 p.turn, .int .i64 p.rad, .int .i64 p.wid, .int .i64 p.sur] 52)).heap.size = wi.heap.size + 1 := by simp
              obtain ⟨w4, hw4⟩ : ∃ w4, w4 = (wi.alloc (.cells #[.int .i64 (min z 5000), .int .i64 p.turn, .int .i64 p.rad, .int .i64 p.wid, .int .i64 p.sur] 52)) := ⟨_, rfl⟩
              rw [← hw4] at bQ2 hO4 bN4 hB4 hsz4 ⊢
              clear hw4 d0 d1 d2 d3 d4 f0
              have q0 := bQ2.cell 0
              have q1 := bQ2.cell 1
              have q2 := bQ2.cell 2
              have q3 := bQ2.cell 3
              have q4 := bQ2.cell 4
              have hq4 := hB4.size
              have hO' : w4.ownsRow wr.heap.size 52 5 (.slice VV zs.length cv) zs.length (zs.flatMap pcV) := hO4
              have HS4 := Lib.hid hsz4
              clear hsz4
              go_wp2_with (at_builtin; refine wpList_append_lies _ rfl _ _ 22 rfl wr.heap.size 52 j0 _ 5 40 Try.underlying22 hj hy0 hy1 hy2 rfl (by decide) (.slice VV zs.length cv) zs.length (zs.flatMap pcV) rfl (World.ownsRow.alloc hO' _) ⟨w4.heap.size, 0, none⟩ 1 1 (pcV ⟨min z 5000, p.turn, p.rad, p.wid, p.sur⟩) rfl rfl (cells_new _ (pcV ⟨min z 5000, p.turn, p.rad, p.wid, p.sur⟩) _ _ (by simp)) (by simp [pcV, Value.oneCell']) (by decide) (by simp only [maxLen]; omega) (by omega) (by simp; omega) _ rfl ?_; intro g2 cap2 w1 hown' hgrow hat hlt3; have bN5 := (bN4.alloc (.cells (pcV ⟨min z 5000, p.turn, p.rad, p.wid, p.sur⟩).toArray 52)).grown hgrow (fun e => hNe e.symm); have bQ5 := (bQ2.alloc (.cells (pcV ⟨min z 5000, p.turn, p.rad, p.wid, p.sur⟩).toArray 52)).grown hgrow (fun e => hNQ e.symm); have t0 := bQ5.cell 0; have n0 := bN5.cell 0; have nf := bN5.frozen 0)
              have hO2 : OwnL w1 wr.heap.size 52 5 pcV (.slice (some ⟨g2, 0, none⟩) (zs.length + 1) cap2) (zs ++ [⟨min z 5000, p.turn, p.rad, p.wid, p.sur⟩]) := OwnL.snoc hown' rfl
              have hB2 : Below wr.heap.size (w4.alloc (.cells #[.int .i64 (min z 5000), .int .i64 p.turn, .int .i64 p.rad, .int .i64 p.wid, .int .i64 p.sur] 52)) w1 := OwnL.grown_below (k := 5) (f := pcV) (xs := zs) (World.ownsRow.alloc hO' _) (by simp; omega) hgrow
              have hB5 := (hB4.trans ((balloc w4 (.cells #[.int .i64 (min z 5000), .int .i64 p.turn, .int .i64 p.rad, .int .i64 p.wid, .int .i64 p.sur] 52)).mono hq4)).trans hB2
              have hNe5 : (Value.slice (some ⟨g2, 0, none⟩) (zs.length + 1) cap2).ownBlock ≠ some wo.heap.size := by
                intro e
                have h4 := HS4.out
                rcases hat with hat | hat
                · exact hNe (hat.trans e)
                · simp [Value.ownBlock] at e
                  simp at hat
                  omega
              have hlw : wo.heap.size < w1.heap.size := bN5.lt
              have hO6 := hO2.other (grown_set w1 wo.heap.size 0 (.int .i64 (z - min z 5000))) (.inr hNe5)
              have bN6 := bN5.set_ 0 (.int .i64 (z - min z 5000))
              have hB6' := hB5.setCell (p := ⟨wo.heap.size, 0, none⟩) hwo (.int .i64 (z - min z 5000))
              go_wp2_with fail
              go_roundw
              case rel =>
                refine ⟨ys ++ [⟨min z 5000, p.turn, p.rad, p.wid, p.sur⟩], z - min z 5000, by omega, by omega, by simp; omega, Lib.hid ?_, ?_, hNe5, bN6, hB6', by simpa using hlw⟩
                · rw [← HC.out, HCS.out]
                  simp
                · rw [← List.append_assoc, ← HZ.out]
                  exact hO6
              case measure =>
                have m0 := bN6.cell 0
                have m1 := bN.cell 0
                rw [m0, m1]
                simp [intOf]
                omega
            · obtain rfl : z = 0 := by omega
              have hys : os ++ ys = os ++ cutL p := by
                have := HC.out
                rw [show chunk0 p 0 = [] from rfl, List.append_nil] at this
                rw [this]
              go_wp2_with fail
              go_roundw
              case rel => exact ⟨m + 1, by omega, by go_num, hBr, by rw [HFT.out, ← hys, ← HZ.out]; exact hO3⟩
              case measure => simp [intOf]; omega
        · obtain rfl : m = ms.length := by omega
          rw [List.take_length, ← HP.out] at hown
          go_wp2_with fail
          go_ret
          exact ⟨⟨_, rfl, hown.base_mono hws⟩, bthen hW hB6⟩

end Go.Proofs.Ytbdjmaogbpdkpaa

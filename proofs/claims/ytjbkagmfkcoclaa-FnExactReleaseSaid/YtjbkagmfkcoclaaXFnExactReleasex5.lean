-- Lean text written by a program of this session out of the translation
import Derived.Test.YtjbkagmfkcoclaaXFnExactReleasex0
import Derived.Test.YtjbkagmfkcoclaaXFnExactReleasex3
import Derived.Test.YtjbkagmfkcoclaaXFnExactReleasex4
namespace Go.Proofs.Ytjbkagmfkcoclaa.XFnExactRelease
open Go.RowKit Go.Proofs.YtjbkagmfkcoclaaW.PrintWords Go.Proofs.YtjbkagmfkcoclaaW.PrintLast Go.Proofs.YtjbkagmfkcoclaaW.PrintMore
attribute [local go_sem] max2_int min2_int max_two min_two max_three min_three max_four min_four   -- for this text's walks alone
set_option linter.unusedVariables false
set_option linter.unusedSimpArgs false

def bz5s : Nat → Nat → List Bool
  | 0, _ => []
  | n + 1, m => (m % 2 == 1) :: bz5s n (m / 2)
def bz5 (n m : Nat) : Array Bool := ⟨bz5s n m⟩
/-! ### impl_GoodStore: function 62 -/
mutual
def impl_GoodStore.l0 : Nat → Int → List (S96) → Int → Int → Int → Int → List (S96) → Option (Bool)
 | 0, _, _, _, _, _, _, _ => none
 | k + 1, x3, x7, x8, x9, x184000, x184001, x184002 => if x9 < x8 then (if 0 ≤ x9 then (if x9 < (x7.length : Int) then ((impl_GoodName.f k ((rd_T96 x7 x9).f0)).bind fun t188 => (if t188 = true then (if x9 > 0 then (if 0 ≤ (wrap64 (x9 - 1)) then (if (wrap64 (x9 - 1)) < (x184002.length : Int) then (if ((Op.bytesLess (((rd_T96 x184002 (wrap64 (x9 - 1))).f0).toList) (((rd_T96 x7 x9).f0).toList)) = true) then ((impl_inRange.f ((rd_T96 x7 x9).f1) 1 100000).bind fun t190 => (if t190 = true then ((impl_inRange.f ((rd_T96 x7 x9).f2) 0 1000).bind fun t191 => (if t191 = true then ((impl_inRange.f ((rd_T96 x7 x9).f3) 0 x184001).bind fun t192 => (impl_GoodStore.j1 k x3 x9 x7 x8 x9 (!t192) x184000 x184001 x184002 ((rd_T96 x7 x9).f0) ((rd_T96 x7 x9).f1) ((rd_T96 x7 x9).f2) ((rd_T96 x7 x9).f3))) else (impl_GoodStore.j1 k x3 x9 x7 x8 x9 true x184000 x184001 x184002 ((rd_T96 x7 x9).f0) ((rd_T96 x7 x9).f1) ((rd_T96 x7 x9).f2) ((rd_T96 x7 x9).f3)))) else (impl_GoodStore.j1 k x3 x9 x7 x8 x9 true x184000 x184001 x184002 ((rd_T96 x7 x9).f0) ((rd_T96 x7 x9).f1) ((rd_T96 x7 x9).f2) ((rd_T96 x7 x9).f3)))) else (impl_GoodStore.j1 k x3 x9 x7 x8 x9 true x184000 x184001 x184002 ((rd_T96 x7 x9).f0) ((rd_T96 x7 x9).f1) ((rd_T96 x7 x9).f2) ((rd_T96 x7 x9).f3))) else (none)) else (none)) else ((impl_inRange.f ((rd_T96 x7 x9).f1) 1 100000).bind fun t193 => (if t193 = true then ((impl_inRange.f ((rd_T96 x7 x9).f2) 0 1000).bind fun t194 => (if t194 = true then ((impl_inRange.f ((rd_T96 x7 x9).f3) 0 x184001).bind fun t195 => (impl_GoodStore.j1 k x3 x9 x7 x8 x9 (!t195) x184000 x184001 x184002 ((rd_T96 x7 x9).f0) ((rd_T96 x7 x9).f1) ((rd_T96 x7 x9).f2) ((rd_T96 x7 x9).f3))) else (impl_GoodStore.j1 k x3 x9 x7 x8 x9 true x184000 x184001 x184002 ((rd_T96 x7 x9).f0) ((rd_T96 x7 x9).f1) ((rd_T96 x7 x9).f2) ((rd_T96 x7 x9).f3)))) else (impl_GoodStore.j1 k x3 x9 x7 x8 x9 true x184000 x184001 x184002 ((rd_T96 x7 x9).f0) ((rd_T96 x7 x9).f1) ((rd_T96 x7 x9).f2) ((rd_T96 x7 x9).f3))))) else (impl_GoodStore.j1 k x3 x9 x7 x8 x9 true x184000 x184001 x184002 ((rd_T96 x7 x9).f0) ((rd_T96 x7 x9).f1) ((rd_T96 x7 x9).f2) ((rd_T96 x7 x9).f3)))) else (none)) else (none)) else ((impl_inRange.f x184000 1 100000).bind fun t184 => (if t184 = true then ((impl_isTime.f x184001).bind fun t185 => (if t185 = true then (if (x184002.length : Int) ≤ 30 then (some (decide (x3 ≤ x184000))) else (some false)) else (some false))) else (some false)))
def impl_GoodStore.j1 : Nat → Int → Int → List (S96) → Int → Int → Bool → Int → Int → List (S96) → ByteArray → Int → Int → Int → Option (Bool)
 | 0, _, _, _, _, _, _, _, _, _, _, _, _, _ => none
 | k + 1, x3, x4, x7, x8, x9, x53, x184000, x184001, x184002, x188000, x188001, x188002, x188003 => if x53 = true then (some false) else (if x188003 > 0 then (if 0 ≤ x4 then (if x4 ≤ (x184002.length : Int) then ((slices_ContainsFunc_at107.f k (x184002.take (x4 : Int).toNat) x188000 x188001 x188002 x188003).bind fun bt200 => (if bt200.1 = true then (some false) else (impl_GoodStore.l0 k (wrap64 (x3 + bt200.2.2.1)) x7 x8 (wrap64 (x9 + 1)) x184000 x184001 x184002))) else (none)) else (none)) else (impl_GoodStore.l0 k (wrap64 (x3 + x188001)) x7 x8 (wrap64 (x9 + 1)) x184000 x184001 x184002))
end
def impl_GoodStore.f (k : Nat) (a0_0 : Int) (a0_1 : Int) (l0_2 : List (S96)) : Option (Bool) := impl_GoodStore.l0 k 0 l0_2 (l0_2.length : Int) 0 a0_0 a0_1 l0_2
theorem impl_GoodStore.mono_l : ∀ k, (∀ y0 y1 y2 y3 y4 y5 y6, LeO (impl_GoodStore.l0 k y0 y1 y2 y3 y4 y5 y6) (impl_GoodStore.l0 (k + 1) y0 y1 y2 y3 y4 y5 y6)) ∧ (∀ y0 y1 y2 y3 y4 y5 y6 y7 y8 y9 y10 y11 y12, LeO (impl_GoodStore.j1 k y0 y1 y2 y3 y4 y5 y6 y7 y8 y9 y10 y11 y12) (impl_GoodStore.j1 (k + 1) y0 y1 y2 y3 y4 y5 y6 y7 y8 y9 y10 y11 y12))
 | 0 => ⟨fun _ _ _ _ _ _ _ r h => by simp [impl_GoodStore.l0] at h, fun _ _ _ _ _ _ _ _ _ _ _ _ _ r h => by simp [impl_GoodStore.j1] at h⟩
 | k + 1 => by
  obtain ⟨ih0, ih1⟩ := impl_GoodStore.mono_l k
  refine ⟨?_, ?_⟩
  ·intro y0 y1 y2 y3 y4 y5 y6
   unfold impl_GoodStore.l0
   repeat' first
   | (with_reducible exact ih0 _ _ _ _ _ _ _)
   | (with_reducible exact ih1 _ _ _ _ _ _ _ _ _ _ _ _ _)
   | (with_reducible exact impl_GoodName.mono _ _)
   | (with_reducible exact slices_ContainsFunc_at107.mono _ _ _ _ _ _)
   | (with_reducible exact LeO.refl _)
   | (with_reducible exact LeO.none _)
   | (with_reducible refine LeO.ite ?_ ?_)
   | (with_reducible refine LeO.bind ?_ (fun _ => ?_))
   | exact ih0 _ _ _ _ _ _ _
   | exact ih1 _ _ _ _ _ _ _ _ _ _ _ _ _
   | exact impl_GoodName.mono _ _
   | exact slices_ContainsFunc_at107.mono _ _ _ _ _ _
   | exact LeO.none _
   | refine LeO.ite ?_ ?_
   | refine LeO.bind ?_ (fun _ => ?_)
  ·intro y0 y1 y2 y3 y4 y5 y6 y7 y8 y9 y10 y11 y12
   unfold impl_GoodStore.j1
   repeat' first
   | (with_reducible exact ih0 _ _ _ _ _ _ _)
   | (with_reducible exact ih1 _ _ _ _ _ _ _ _ _ _ _ _ _)
   | (with_reducible exact impl_GoodName.mono _ _)
   | (with_reducible exact slices_ContainsFunc_at107.mono _ _ _ _ _ _)
   | (with_reducible exact LeO.refl _)
   | (with_reducible exact LeO.none _)
   | (with_reducible refine LeO.ite ?_ ?_)
   | (with_reducible refine LeO.bind ?_ (fun _ => ?_))
   | exact ih0 _ _ _ _ _ _ _
   | exact ih1 _ _ _ _ _ _ _ _ _ _ _ _ _
   | exact impl_GoodName.mono _ _
   | exact slices_ContainsFunc_at107.mono _ _ _ _ _ _
   | exact LeO.none _
   | refine LeO.ite ?_ ?_
   | refine LeO.bind ?_ (fun _ => ?_)
theorem impl_GoodStore.mono : ∀ a0 a1 a2 k, LeO (impl_GoodStore.f k a0 a1 a2) (impl_GoodStore.f (k + 1) a0 a1 a2) := by
 intro a0 a1 a2 k
 obtain ⟨ih0, ih1⟩ := impl_GoodStore.mono_l k
 unfold impl_GoodStore.f
 repeat' first
   | (with_reducible exact ih0 _ _ _ _ _ _ _)
   | (with_reducible exact ih1 _ _ _ _ _ _ _ _ _ _ _ _ _)
   | (with_reducible exact impl_GoodName.mono _ _)
   | (with_reducible exact slices_ContainsFunc_at107.mono _ _ _ _ _ _)
   | (with_reducible exact LeO.refl _)
   | (with_reducible exact LeO.none _)
   | (with_reducible refine LeO.ite ?_ ?_)
   | (with_reducible refine LeO.bind ?_ (fun _ => ?_))
   | exact ih0 _ _ _ _ _ _ _
   | exact ih1 _ _ _ _ _ _ _ _ _ _ _ _ _
   | exact impl_GoodName.mono _ _
   | exact slices_ContainsFunc_at107.mono _ _ _ _ _ _
   | exact LeO.none _
   | refine LeO.ite ?_ ?_
   | refine LeO.bind ?_ (fun _ => ?_)
def impl_GoodStore.T5 : Bool × List (List Nat × List Nat) := (true, [([], []), ([0], [0]), ([1], [1]), ([2], [2]), ([3, 2], [3]), ([4], [4]), ([5, 4], [4, 5]), ([6, 4, 4], [4, 6]), ([7], [7]), ([8, 7], [7, 8]), ([7], [7]), ([10, 7], [7, 10]), ([9, 11, 7], [7, 9, 11]), ([12, 7], [7, 12]), ([13, 7], [7, 13]), ([7], [7]), ([15, 7], [7, 15]), ([14, 16, 7], [7, 14, 16]), ([7, 17, 4], [4, 7, 17]), ([4, 18], [4, 18]), ([19, 7], [19]), ([20], [20]), ([21, 20], [20, 21]), ([22, 20, 20], [20, 22]), ([23, 20], [20, 23]), ([20, 24], [20, 24]), ([25, 23], [25]), ([26], [26]), ([27, 26], [26, 27]), ([28, 26, 26], [26, 28]), ([29, 26], [26, 29]), ([26, 30], [26, 30]), ([31, 29], [31]), ([32], [32]), ([33, 32], [32, 33]), ([32], [32]), ([35, 32], [32, 35]), ([34, 36, 32, 32], [32, 34, 36]), ([37, 32], [32, 37]), ([32, 38], [32, 38])])
def impl_GoodStore.B5 : List Nat := [0, 1, 3, 7, 15, 31, 63, 127, 255, 511, 255, 1279, 4095, 8191, 16383, 255, 33023, 131071, 262143, 524287, 1048575, 2097151, 4194303, 8388607, 16777215, 33554431, 67108863, 134217727, 268435455, 536870911, 1073741823, 2147483647, 4294967295, 8589934591, 17179869183, 8589934591, 42949672959, 137438953471, 274877906943, 549755813887]
theorem impl_GoodStore.tab5 : rtab .any (opsOf Try.f62 5) = impl_GoodStore.T5 := by kernel_rfl
theorem impl_GoodStore.bits5 : waitsOk impl_GoodStore.T5.2 impl_GoodStore.B5 = true := by kernel_rfl
set_option maxHeartbeats 8000000 in
set_option maxRecDepth 100000 in
theorem impl_GoodStore.calls (k : Nat) (a0_0 : Int) (a0_1 : Int) (A0_2 : Option Addr) (c0_2 : Nat) (l0_2 : List (S96)) (r : Bool) (w : World) (hr0_2 : Kd.C k96 w A0_2 l0_2.length l0_2) (hc0_2 : l0_2.length ≤ c0_2) (h : impl_GoodStore.f k a0_0 a0_1 l0_2 = some r) :
  Calls Try.prog 62 #[.agg #[.int .i64 a0_0, .int .i64 a0_1, .slice A0_2 l0_2.length c0_2]] w fun e w' => e = .returned (.bool r) ∧ Below w.heap.size w w' := by
 have hu46 := Try.underlying46
 have hu96 := Try.underlying96
 have HR0_2 := Aside0.mk hr0_2
 have HC0_2 := Aside0.mk hc0_2
 clear hr0_2 hc0_2
 have HB := Aside0.mk (Below.refl w.heap.size w)
 have H : (impl_GoodStore.l0 k 0 l0_2 (l0_2.length : Int) 0 a0_0 a0_1 l0_2) = some r := h
 clear h
 have H' := Aside0.mk H
 clear H
 go_enter Try.func62, Try.ntmps62
 go_wp2_with (first | ((with_reducible refine gate_dst (N := 1) rfl ?_); (try (refine gate_guard (by rfl) ?_; dsimp only)); refine box_event ?hg (N := 1) ?hd (cs := #[.int .i64 a0_0, .int .i64 a0_1, .slice A0_2 l0_2.length c0_2]) (t := 46) ?hr ?_; (case hd => rfl); (case hg => rfl); (case hr => first | (go_simp; done) | (go_simp; rfl)); intro gb183 hg w2 hbox hb; have n0_ := Aside0.mk (below_step (by repeat (first | (with_reducible first | exact HB.out | apply below_alloc | apply pw_below_drewN | apply below_drew1) | exact HB.out)) hb); have n1_ := Aside0.mk (hbox); have n2_ := Aside0.mk ((by rw [hg]; exact (below_size (by repeat (first | (with_reducible first | exact HB.out | apply below_alloc | apply pw_below_drewN | apply below_drew1) | exact HB.out))) : w.heap.size ≤ gb183)); have n3_ := Aside0.mk ((by rw [hg]; exact (below_size (by repeat (first | (with_reducible first | exact HB.out | apply below_alloc | apply pw_below_drewN | apply below_drew1) | exact HB.out))) : w.heap.size ≤ gb183)); clear HB; have HB := n0_; have BK183 := n1_; have GW183 := n2_; have GE183 := n3_; clear n0_ n1_ n2_ n3_; clear hb hbox hg; have hcz3_0 : w2.cell? ⟨gb183, 0, none⟩ = some (.int .i64 a0_0) := (blk_cell BK183.out 0).trans rfl; have hcz3_1 : w2.cell? ⟨gb183, 1, none⟩ = some (.int .i64 a0_1) := (blk_cell BK183.out 1).trans rfl; have hcz3_2 : w2.cell? ⟨gb183, 2, none⟩ = some (.slice A0_2 l0_2.length c0_2) := (blk_cell BK183.out 2).trans rfl; have hfz3_0 := blk_frozen BK183.out 0; have hfz3_1 := blk_frozen BK183.out 1; have hfz3_2 := blk_frozen BK183.out 2))
 go_loopg [3, 9] k (fun kq v3 v9 w' => ∃ (x3_1 : Int) (x9_1 : Int), v3 = .int .i64 x3_1 ∧ v9 = .int .i64 x9_1 ∧ Aside0 (impl_GoodStore.l0 kq x3_1 l0_2 (l0_2.length : Int) x9_1 a0_0 a0_1 l0_2 = some r) ∧ Aside0 (kq ≤ k) ∧ Aside0 (w'.heap[gb183]? = some (.cells #[.int .i64 a0_0, .int .i64 a0_1, (.slice A0_2 l0_2.length c0_2)] 46 (0, 0))) ∧ Aside0 (Below w.heap.size w w'))
 case atStart => exact ⟨(0), (0), (by first | rfl | (simp; done) | (simp [*]; done)), (by first | rfl | (simp; done) | (simp [*]; done)), H', ⟨Nat.le_refl _⟩, ⟨by exact BK183.out⟩, ⟨by repeat (first | (with_reducible first | exact HB.out | apply below_alloc | apply pw_below_drewN | apply below_drew1 | refine below_set ?_ GE183.out) | exact HB.out)⟩⟩
 case round =>
  clear H'
  try clear p2
  try clear hcz3_0
  try clear hcz3_1
  try clear hcz3_2
  try clear hfz3_0
  try clear hfz3_1
  try clear hfz3_2
  obtain ⟨x3_1, x9_1, rfl, rfl, HA, HK1, BK183, HB⟩ := hrel
  cases gk with
  | zero => exact absurd HA.out (by simp [impl_GoodStore.l0])
  | succ k1 =>
   have H := HA.out
   clear HA
   simp only [impl_GoodStore.l0] at H
   by_cases c4 : x9_1 < (l0_2.length : Int)
   ·rw [if_pos c4] at H
    have c4b0 : decide (x9_1 < (l0_2.length : Int)) = true := decide_eq_true c4
    clear c4
    by_cases c5 : 0 ≤ x9_1
    ·rw [if_pos c5] at H
     have c5b0 : decide (0 ≤ x9_1) = true := decide_eq_true c5
     clear c5
     by_cases c6 : x9_1 < (l0_2.length : Int)
     ·rw [if_pos c6] at H
      have c6b0 : decide (x9_1 < (l0_2.length : Int)) = true := decide_eq_true c6
      clear c6
      have HC7 := Aside0.mk H
      clear H
      have p186 : 0 ≤ (x9_1 : Int) := of_decide_eq_true (by first | (with_reducible assumption) | assumption)
      have q186 : x9_1 < (l0_2.length : Int) := of_decide_eq_true (by first | (with_reducible assumption) | assumption)
      obtain ⟨ad186, e186, hx186_0, hx186_1, hx186_2, hx186_3⟩ := at_T96 HR0_2.out x9_1 p186 q186
      cases e186
      replace hx186_0 := (HB.out.cell (World.block_lt_of_cell? w _ hx186_0)).trans hx186_0
      replace hx186_1 := (HB.out.cell (World.block_lt_of_cell? w _ hx186_1)).trans hx186_1
      replace hx186_2 := (HB.out.cell (World.block_lt_of_cell? w _ hx186_2)).trans hx186_2
      replace hx186_3 := (HB.out.cell (World.block_lt_of_cell? w _ hx186_3)).trans hx186_3
      replace p186 := eq_true p186
      replace q186 := eq_true q186
      go_upto_region 5 with (first | ((with_reducible refine gate_dst (N := 5) rfl ?_); (try (refine gate_guard (by rfl) ?_; dsimp only)); refine box_event ?hg (N := 5) ?hd (cs := #[.string (⟨#[]⟩ : ByteArray), .int .i64 0, .int .i64 0, .int .i64 0]) (t := 96) ?hr ?_; (case hd => rfl); (case hg => rfl); (case hr => first | (go_simp; done) | (go_simp; rfl)); intro gb187 hg w8 hbox hb; have n0_ := Aside0.mk (blk_below (g := gb183) (o := .cells #[.int .i64 a0_0, .int .i64 a0_1, .slice (some ad186) l0_2.length c0_2] 46 (0, 0)) (by exact BK183.out) hb); have n1_ := Aside0.mk (below_step (by repeat (first | (with_reducible first | exact HB.out | apply below_alloc | apply pw_below_drewN | apply below_drew1 | refine below_set ?_ GE183.out) | exact HB.out)) hb); have n2_ := Aside0.mk ((show IsS96 w w8 gb187 (⟨#[]⟩ : ByteArray) 0 0 0 from ⟨hbox, by rw [hg]; exact (below_size (by repeat (first | (with_reducible first | exact HB.out | apply below_alloc | apply pw_below_drewN | apply below_drew1 | refine below_set ?_ GE183.out) | exact HB.out)))⟩)); have n3_ := Aside0.mk ((by rw [hg]; exact Nat.ne_of_gt (blk_lt (g := gb183) (o := .cells #[.int .i64 a0_0, .int .i64 a0_1, .slice (some ad186) l0_2.length c0_2] 46 (0, 0)) (by exact BK183.out)) : gb187 ≠ gb183)); have n4_ := Aside0.mk ((by rw [hg]; exact Nat.ne_of_lt (blk_lt (g := gb183) (o := .cells #[.int .i64 a0_0, .int .i64 a0_1, .slice (some ad186) l0_2.length c0_2] 46 (0, 0)) (by exact BK183.out)) : gb183 ≠ gb187)); clear BK183; clear HB; have BK183 := n0_; have HB := n1_; have HI187 := n2_; have NB187_183 := n3_; have NB183_187 := n4_; clear n0_ n1_ n2_ n3_ n4_; (try clear hb); (try clear hbox); (try clear hg); obtain ⟨HGz9, hgz9⟩ := HI187.out; have hcz9_0 := cellS96_0 HGz9; have hcz9_1 := cellS96_1 HGz9; have hcz9_2 := cellS96_2 HGz9; have hcz9_3 := cellS96_3 HGz9; have hfz9_0 := blk_frozen HGz9 0; have hfz9_1 := blk_frozen HGz9 1; have hfz9_2 := blk_frozen HGz9 2; have hfz9_3 := blk_frozen HGz9 3; clear HGz9 hgz9))
      (try simp only [Act.put, List.setIfInBounds_toArray, List.set_cons_zero, List.set_cons_succ])
      go_cut [53] (fun v53 wc => ∃ (kq : Nat) (x53_6 : Bool), v53 = .bool x53_6 ∧ Aside0 (impl_GoodStore.j1 kq x3_1 x9_1 l0_2 (l0_2.length : Int) x9_1 x53_6 a0_0 a0_1 l0_2 ((rd_T96 l0_2 x9_1).f0) ((rd_T96 l0_2 x9_1).f1) ((rd_T96 l0_2 x9_1).f2) ((rd_T96 l0_2 x9_1).f3) = some r) ∧ Aside0 (kq ≤ k1) ∧ Aside0 (wc.heap[gb183]? = some (.cells #[.int .i64 a0_0, .int .i64 a0_1, (.slice (some ad186) l0_2.length c0_2)] 46 (0, 0))) ∧ Aside0 (IsS96 w wc gb187 ((rd_T96 l0_2 x9_1).f0) ((rd_T96 l0_2 x9_1).f1) ((rd_T96 l0_2 x9_1).f2) ((rd_T96 l0_2 x9_1).f3)) ∧ Aside0 (Below w.heap.size w wc))
      case first =>
       have H := HC7.out
       clear HC7
       replace H := Option.bind_eq_some_iff.mp H
       obtain ⟨t188, A100, H⟩ := H
       replace H : (if t188 = true then (if x9_1 > 0 then (if 0 ≤ (wrap64 (x9_1 - 1)) then (if (wrap64 (x9_1 - 1)) < (l0_2.length : Int) then (if ((Op.bytesLess (((rd_T96 l0_2 (wrap64 (x9_1 - 1))).f0).toList) (((rd_T96 l0_2 x9_1).f0).toList)) = true) then ((impl_inRange.f ((rd_T96 l0_2 x9_1).f1) 1 100000).bind fun t190 => (if t190 = true then ((impl_inRange.f ((rd_T96 l0_2 x9_1).f2) 0 1000).bind fun t191 => (if t191 = true then ((impl_inRange.f ((rd_T96 l0_2 x9_1).f3) 0 a0_1).bind fun t192 => (impl_GoodStore.j1 k1 x3_1 x9_1 l0_2 (l0_2.length : Int) x9_1 (!t192) a0_0 a0_1 l0_2 ((rd_T96 l0_2 x9_1).f0) ((rd_T96 l0_2 x9_1).f1) ((rd_T96 l0_2 x9_1).f2) ((rd_T96 l0_2 x9_1).f3))) else (impl_GoodStore.j1 k1 x3_1 x9_1 l0_2 (l0_2.length : Int) x9_1 true a0_0 a0_1 l0_2 ((rd_T96 l0_2 x9_1).f0) ((rd_T96 l0_2 x9_1).f1) ((rd_T96 l0_2 x9_1).f2) ((rd_T96 l0_2 x9_1).f3)))) else (impl_GoodStore.j1 k1 x3_1 x9_1 l0_2 (l0_2.length : Int) x9_1 true a0_0 a0_1 l0_2 ((rd_T96 l0_2 x9_1).f0) ((rd_T96 l0_2 x9_1).f1) ((rd_T96 l0_2 x9_1).f2) ((rd_T96 l0_2 x9_1).f3)))) else (impl_GoodStore.j1 k1 x3_1 x9_1 l0_2 (l0_2.length : Int) x9_1 true a0_0 a0_1 l0_2 ((rd_T96 l0_2 x9_1).f0) ((rd_T96 l0_2 x9_1).f1) ((rd_T96 l0_2 x9_1).f2) ((rd_T96 l0_2 x9_1).f3))) else (none)) else (none)) else ((impl_inRange.f ((rd_T96 l0_2 x9_1).f1) 1 100000).bind fun t193 => (if t193 = true then ((impl_inRange.f ((rd_T96 l0_2 x9_1).f2) 0 1000).bind fun t194 => (if t194 = true then ((impl_inRange.f ((rd_T96 l0_2 x9_1).f3) 0 a0_1).bind fun t195 => (impl_GoodStore.j1 k1 x3_1 x9_1 l0_2 (l0_2.length : Int) x9_1 (!t195) a0_0 a0_1 l0_2 ((rd_T96 l0_2 x9_1).f0) ((rd_T96 l0_2 x9_1).f1) ((rd_T96 l0_2 x9_1).f2) ((rd_T96 l0_2 x9_1).f3))) else (impl_GoodStore.j1 k1 x3_1 x9_1 l0_2 (l0_2.length : Int) x9_1 true a0_0 a0_1 l0_2 ((rd_T96 l0_2 x9_1).f0) ((rd_T96 l0_2 x9_1).f1) ((rd_T96 l0_2 x9_1).f2) ((rd_T96 l0_2 x9_1).f3)))) else (impl_GoodStore.j1 k1 x3_1 x9_1 l0_2 (l0_2.length : Int) x9_1 true a0_0 a0_1 l0_2 ((rd_T96 l0_2 x9_1).f0) ((rd_T96 l0_2 x9_1).f1) ((rd_T96 l0_2 x9_1).f2) ((rd_T96 l0_2 x9_1).f3))))) else (impl_GoodStore.j1 k1 x3_1 x9_1 l0_2 (l0_2.length : Int) x9_1 true a0_0 a0_1 l0_2 ((rd_T96 l0_2 x9_1).f0) ((rd_T96 l0_2 x9_1).f1) ((rd_T96 l0_2 x9_1).f2) ((rd_T96 l0_2 x9_1).f3))) = some r := H
       have A10 := Aside0.mk A100
       clear A100
       by_cases c11 : t188 = true
       ·subst c11
        have H1 : (if x9_1 > 0 then (if 0 ≤ (wrap64 (x9_1 - 1)) then (if (wrap64 (x9_1 - 1)) < (l0_2.length : Int) then (if ((Op.bytesLess (((rd_T96 l0_2 (wrap64 (x9_1 - 1))).f0).toList) (((rd_T96 l0_2 x9_1).f0).toList)) = true) then ((impl_inRange.f ((rd_T96 l0_2 x9_1).f1) 1 100000).bind fun t190 => (if t190 = true then ((impl_inRange.f ((rd_T96 l0_2 x9_1).f2) 0 1000).bind fun t191 => (if t191 = true then ((impl_inRange.f ((rd_T96 l0_2 x9_1).f3) 0 a0_1).bind fun t192 => (impl_GoodStore.j1 k1 x3_1 x9_1 l0_2 (l0_2.length : Int) x9_1 (!t192) a0_0 a0_1 l0_2 ((rd_T96 l0_2 x9_1).f0) ((rd_T96 l0_2 x9_1).f1) ((rd_T96 l0_2 x9_1).f2) ((rd_T96 l0_2 x9_1).f3))) else (impl_GoodStore.j1 k1 x3_1 x9_1 l0_2 (l0_2.length : Int) x9_1 true a0_0 a0_1 l0_2 ((rd_T96 l0_2 x9_1).f0) ((rd_T96 l0_2 x9_1).f1) ((rd_T96 l0_2 x9_1).f2) ((rd_T96 l0_2 x9_1).f3)))) else (impl_GoodStore.j1 k1 x3_1 x9_1 l0_2 (l0_2.length : Int) x9_1 true a0_0 a0_1 l0_2 ((rd_T96 l0_2 x9_1).f0) ((rd_T96 l0_2 x9_1).f1) ((rd_T96 l0_2 x9_1).f2) ((rd_T96 l0_2 x9_1).f3)))) else (impl_GoodStore.j1 k1 x3_1 x9_1 l0_2 (l0_2.length : Int) x9_1 true a0_0 a0_1 l0_2 ((rd_T96 l0_2 x9_1).f0) ((rd_T96 l0_2 x9_1).f1) ((rd_T96 l0_2 x9_1).f2) ((rd_T96 l0_2 x9_1).f3))) else (none)) else (none)) else ((impl_inRange.f ((rd_T96 l0_2 x9_1).f1) 1 100000).bind fun t193 => (if t193 = true then ((impl_inRange.f ((rd_T96 l0_2 x9_1).f2) 0 1000).bind fun t194 => (if t194 = true then ((impl_inRange.f ((rd_T96 l0_2 x9_1).f3) 0 a0_1).bind fun t195 => (impl_GoodStore.j1 k1 x3_1 x9_1 l0_2 (l0_2.length : Int) x9_1 (!t195) a0_0 a0_1 l0_2 ((rd_T96 l0_2 x9_1).f0) ((rd_T96 l0_2 x9_1).f1) ((rd_T96 l0_2 x9_1).f2) ((rd_T96 l0_2 x9_1).f3))) else (impl_GoodStore.j1 k1 x3_1 x9_1 l0_2 (l0_2.length : Int) x9_1 true a0_0 a0_1 l0_2 ((rd_T96 l0_2 x9_1).f0) ((rd_T96 l0_2 x9_1).f1) ((rd_T96 l0_2 x9_1).f2) ((rd_T96 l0_2 x9_1).f3)))) else (impl_GoodStore.j1 k1 x3_1 x9_1 l0_2 (l0_2.length : Int) x9_1 true a0_0 a0_1 l0_2 ((rd_T96 l0_2 x9_1).f0) ((rd_T96 l0_2 x9_1).f1) ((rd_T96 l0_2 x9_1).f2) ((rd_T96 l0_2 x9_1).f3))))) = some r := by rw [if_pos rfl] at H; exact H
        clear H
        have H := H1
        clear H1
        by_cases c12 : x9_1 > 0
        ·rw [if_pos c12] at H
         have c12b0 : decide (0 < x9_1) = true := decide_eq_true c12
         clear c12
         (first | rw [c12b0] | (simp only [i64_w, i32_w]; rw [c12b0]) | rw [c12b3] | skip)
         obtain ⟨ji13, hji13⟩ : ∃ j_ : Int, (wrap64 (x9_1 - 1)) = j_ := ⟨_, rfl⟩
         replace H : (if 0 ≤ (ji13) then (if (ji13) < (l0_2.length : Int) then (if ((Op.bytesLess (((rd_T96 l0_2 (ji13)).f0).toList) (((rd_T96 l0_2 x9_1).f0).toList)) = true) then ((impl_inRange.f ((rd_T96 l0_2 x9_1).f1) 1 100000).bind fun t190 => (if t190 = true then ((impl_inRange.f ((rd_T96 l0_2 x9_1).f2) 0 1000).bind fun t191 => (if t191 = true then ((impl_inRange.f ((rd_T96 l0_2 x9_1).f3) 0 a0_1).bind fun t192 => (impl_GoodStore.j1 k1 x3_1 x9_1 l0_2 (l0_2.length : Int) x9_1 (!t192) a0_0 a0_1 l0_2 ((rd_T96 l0_2 x9_1).f0) ((rd_T96 l0_2 x9_1).f1) ((rd_T96 l0_2 x9_1).f2) ((rd_T96 l0_2 x9_1).f3))) else (impl_GoodStore.j1 k1 x3_1 x9_1 l0_2 (l0_2.length : Int) x9_1 true a0_0 a0_1 l0_2 ((rd_T96 l0_2 x9_1).f0) ((rd_T96 l0_2 x9_1).f1) ((rd_T96 l0_2 x9_1).f2) ((rd_T96 l0_2 x9_1).f3)))) else (impl_GoodStore.j1 k1 x3_1 x9_1 l0_2 (l0_2.length : Int) x9_1 true a0_0 a0_1 l0_2 ((rd_T96 l0_2 x9_1).f0) ((rd_T96 l0_2 x9_1).f1) ((rd_T96 l0_2 x9_1).f2) ((rd_T96 l0_2 x9_1).f3)))) else (impl_GoodStore.j1 k1 x3_1 x9_1 l0_2 (l0_2.length : Int) x9_1 true a0_0 a0_1 l0_2 ((rd_T96 l0_2 x9_1).f0) ((rd_T96 l0_2 x9_1).f1) ((rd_T96 l0_2 x9_1).f2) ((rd_T96 l0_2 x9_1).f3))) else (none)) else (none)) = some r := by first | (rw [hji13] at H; exact H) | (simp only [hji13] at H ⊢; exact H)
         (try rw [hji13] at A10)
         have hji13w : (IntKind.i64.wrap (x9_1 - 1)) = ji13 := (i64_w _).trans hji13
         by_cases c14 : 0 ≤ (ji13)
         ·rw [if_pos c14] at H
          have c14b0 : decide (0 ≤ (ji13)) = true := decide_eq_true c14
          clear c14
          by_cases c15 : (ji13) < (l0_2.length : Int)
          ·rw [if_pos c15] at H
           have c15b0 : decide ((ji13) < (l0_2.length : Int)) = true := decide_eq_true c15
           clear c15
           by_cases c16 : ((Op.bytesLess (((rd_T96 l0_2 (ji13)).f0).toList) (((rd_T96 l0_2 x9_1).f0).toList)) = true)
           ·rw [if_pos c16] at H
            have c16b0 : (Op.bytesLess (((rd_T96 l0_2 (ji13)).f0).toList) (((rd_T96 l0_2 x9_1).f0).toList)) = true := c16
            clear c16
            replace H := Option.bind_eq_some_iff.mp H
            obtain ⟨t190, A170, H⟩ := H
            replace H : (if t190 = true then ((impl_inRange.f ((rd_T96 l0_2 x9_1).f2) 0 1000).bind fun t191 => (if t191 = true then ((impl_inRange.f ((rd_T96 l0_2 x9_1).f3) 0 a0_1).bind fun t192 => (impl_GoodStore.j1 k1 x3_1 x9_1 l0_2 (l0_2.length : Int) x9_1 (!t192) a0_0 a0_1 l0_2 ((rd_T96 l0_2 x9_1).f0) ((rd_T96 l0_2 x9_1).f1) ((rd_T96 l0_2 x9_1).f2) ((rd_T96 l0_2 x9_1).f3))) else (impl_GoodStore.j1 k1 x3_1 x9_1 l0_2 (l0_2.length : Int) x9_1 true a0_0 a0_1 l0_2 ((rd_T96 l0_2 x9_1).f0) ((rd_T96 l0_2 x9_1).f1) ((rd_T96 l0_2 x9_1).f2) ((rd_T96 l0_2 x9_1).f3)))) else (impl_GoodStore.j1 k1 x3_1 x9_1 l0_2 (l0_2.length : Int) x9_1 true a0_0 a0_1 l0_2 ((rd_T96 l0_2 x9_1).f0) ((rd_T96 l0_2 x9_1).f1) ((rd_T96 l0_2 x9_1).f2) ((rd_T96 l0_2 x9_1).f3))) = some r := H
            have A17 := Aside0.mk A170
            clear A170
            by_cases c18 : t190 = true
            ·subst c18
             have H1 : ((impl_inRange.f ((rd_T96 l0_2 x9_1).f2) 0 1000).bind fun t191 => (if t191 = true then ((impl_inRange.f ((rd_T96 l0_2 x9_1).f3) 0 a0_1).bind fun t192 => (impl_GoodStore.j1 k1 x3_1 x9_1 l0_2 (l0_2.length : Int) x9_1 (!t192) a0_0 a0_1 l0_2 ((rd_T96 l0_2 x9_1).f0) ((rd_T96 l0_2 x9_1).f1) ((rd_T96 l0_2 x9_1).f2) ((rd_T96 l0_2 x9_1).f3))) else (impl_GoodStore.j1 k1 x3_1 x9_1 l0_2 (l0_2.length : Int) x9_1 true a0_0 a0_1 l0_2 ((rd_T96 l0_2 x9_1).f0) ((rd_T96 l0_2 x9_1).f1) ((rd_T96 l0_2 x9_1).f2) ((rd_T96 l0_2 x9_1).f3)))) = some r := by rw [if_pos rfl] at H; exact H
             clear H
             have H := H1
             clear H1
             replace H := Option.bind_eq_some_iff.mp H
             obtain ⟨t191, A190, H⟩ := H
             replace H : (if t191 = true then ((impl_inRange.f ((rd_T96 l0_2 x9_1).f3) 0 a0_1).bind fun t192 => (impl_GoodStore.j1 k1 x3_1 x9_1 l0_2 (l0_2.length : Int) x9_1 (!t192) a0_0 a0_1 l0_2 ((rd_T96 l0_2 x9_1).f0) ((rd_T96 l0_2 x9_1).f1) ((rd_T96 l0_2 x9_1).f2) ((rd_T96 l0_2 x9_1).f3))) else (impl_GoodStore.j1 k1 x3_1 x9_1 l0_2 (l0_2.length : Int) x9_1 true a0_0 a0_1 l0_2 ((rd_T96 l0_2 x9_1).f0) ((rd_T96 l0_2 x9_1).f1) ((rd_T96 l0_2 x9_1).f2) ((rd_T96 l0_2 x9_1).f3))) = some r := H
             have A19 := Aside0.mk A190
             clear A190
             by_cases c20 : t191 = true
             ·subst c20
              have H1 : ((impl_inRange.f ((rd_T96 l0_2 x9_1).f3) 0 a0_1).bind fun t192 => (impl_GoodStore.j1 k1 x3_1 x9_1 l0_2 (l0_2.length : Int) x9_1 (!t192) a0_0 a0_1 l0_2 ((rd_T96 l0_2 x9_1).f0) ((rd_T96 l0_2 x9_1).f1) ((rd_T96 l0_2 x9_1).f2) ((rd_T96 l0_2 x9_1).f3))) = some r := by rw [if_pos rfl] at H; exact H
              clear H
              have H := H1
              clear H1
              replace H := Option.bind_eq_some_iff.mp H
              obtain ⟨t192, A210, H⟩ := H
              replace H : (impl_GoodStore.j1 k1 x3_1 x9_1 l0_2 (l0_2.length : Int) x9_1 (!t192) a0_0 a0_1 l0_2 ((rd_T96 l0_2 x9_1).f0) ((rd_T96 l0_2 x9_1).f1) ((rd_T96 l0_2 x9_1).f2) ((rd_T96 l0_2 x9_1).f3)) = some r := H
              have A21 := Aside0.mk A210
              clear A210
              have H' := Aside0.mk H
              clear H
              try go_wp2
              have n0_ : Aside0 (((((w8.setCell ⟨gb187, 0, none⟩ (.string ((rd_T96 l0_2 x9_1).f0))).setCell ⟨gb187, 1, none⟩ (.int .i64 ((rd_T96 l0_2 x9_1).f1))).setCell ⟨gb187, 2, none⟩ (.int .i64 ((rd_T96 l0_2 x9_1).f2))).setCell ⟨gb187, 3, none⟩ (.int .i64 ((rd_T96 l0_2 x9_1).f3))).heap[gb183]? = some (.cells #[.int .i64 a0_0, .int .i64 a0_1, .slice (some ad186) l0_2.length c0_2] 46 (0, 0))) := ⟨by refine blk_far ?_ NB183_187.out _; refine blk_far ?_ NB183_187.out _; refine blk_far ?_ NB183_187.out _; refine blk_far ?_ NB183_187.out _; exact BK183.out⟩
              have n1_ : Aside0 (IsS96 w ((((w8.setCell ⟨gb187, 0, none⟩ (.string ((rd_T96 l0_2 x9_1).f0))).setCell ⟨gb187, 1, none⟩ (.int .i64 ((rd_T96 l0_2 x9_1).f1))).setCell ⟨gb187, 2, none⟩ (.int .i64 ((rd_T96 l0_2 x9_1).f2))).setCell ⟨gb187, 3, none⟩ (.int .i64 ((rd_T96 l0_2 x9_1).f3))) gb187 ((rd_T96 l0_2 x9_1).f0) ((rd_T96 l0_2 x9_1).f1) ((rd_T96 l0_2 x9_1).f2) ((rd_T96 l0_2 x9_1).f3)) := ⟨by repeat (first | (with_reducible first | exact HI187.out | apply IsS96.alloc | apply IsS96.drewN | apply IsS96.drew | apply IsS96.set_0 | apply IsS96.set_1 | apply IsS96.set_2 | apply IsS96.set_3 | refine IsS96.far ?_ NB187_183.out _) | exact HI187.out)⟩
              have n2_ : Aside0 (Below w.heap.size w ((((w8.setCell ⟨gb187, 0, none⟩ (.string ((rd_T96 l0_2 x9_1).f0))).setCell ⟨gb187, 1, none⟩ (.int .i64 ((rd_T96 l0_2 x9_1).f1))).setCell ⟨gb187, 2, none⟩ (.int .i64 ((rd_T96 l0_2 x9_1).f2))).setCell ⟨gb187, 3, none⟩ (.int .i64 ((rd_T96 l0_2 x9_1).f3)))) := ⟨by repeat (first | (with_reducible first | exact HB.out | apply below_alloc | apply pw_below_drewN | apply below_drew1 | refine below_set ?_ (IsS96.ge HI187.out) | refine below_set ?_ GE183.out) | exact HB.out)⟩
              (try clear BK183)
              (try clear HI187)
              (try clear HB)
              generalize ((((w8.setCell ⟨gb187, 0, none⟩ (.string ((rd_T96 l0_2 x9_1).f0))).setCell ⟨gb187, 1, none⟩ (.int .i64 ((rd_T96 l0_2 x9_1).f1))).setCell ⟨gb187, 2, none⟩ (.int .i64 ((rd_T96 l0_2 x9_1).f2))).setCell ⟨gb187, 3, none⟩ (.int .i64 ((rd_T96 l0_2 x9_1).f3))) = w22 at n0_ n1_ n2_ ⊢
              have BK183 := n0_
              have HI187 := n1_
              have HB := n2_
              clear n0_ n1_ n2_
              have n0_ := Aside0.mk (blk_drew BK183.out)
              have n1_ := Aside0.mk (IsS96.drew HI187.out)
              have n2_ := Aside0.mk (below_drew1 HB.out)
              clear BK183
              clear HI187
              clear HB
              have BK183 := n0_
              have HI187 := n1_
              have HB := n2_
              clear n0_ n1_ n2_
              have p189 : 0 ≤ ((ji13) : Int) := of_decide_eq_true (by first | (with_reducible assumption) | assumption)
              have q189 : (ji13) < (l0_2.length : Int) := of_decide_eq_true (by first | (with_reducible assumption) | assumption)
              obtain ⟨ad189, e189, hx189_0, hx189_1, hx189_2, hx189_3⟩ := at_T96 HR0_2.out (ji13) p189 q189
              have hw189_3 := hx189_3
              have hw189_2 := hx189_2
              have hw189_1 := hx189_1
              have hw189_0 := hx189_0
              obtain rfl : ad186 = ad189 := (by injection e189)
              replace hx189_0 := (HB.out.cell (World.block_lt_of_cell? w _ hx189_0)).trans hx189_0
              replace hx189_1 := (HB.out.cell (World.block_lt_of_cell? w _ hx189_1)).trans hx189_1
              replace hx189_2 := (HB.out.cell (World.block_lt_of_cell? w _ hx189_2)).trans hx189_2
              replace hx189_3 := (HB.out.cell (World.block_lt_of_cell? w _ hx189_3)).trans hx189_3
              replace p189 := eq_true p189
              replace q189 := eq_true q189
              refine start_ (n := 40) (S := fun w' => w'.cell? ⟨gb187, 0, none⟩ = some (.string ((rd_T96 l0_2 x9_1).f0)) ∧ w'.cell? ⟨gb187, 1, none⟩ = some (.int .i64 ((rd_T96 l0_2 x9_1).f1)) ∧ w'.cell? ⟨gb187, 2, none⟩ = some (.int .i64 ((rd_T96 l0_2 x9_1).f2)) ∧ w'.cell? ⟨gb187, 3, none⟩ = some (.int .i64 ((rd_T96 l0_2 x9_1).f3)) ∧ w'.cell? ⟨gb183, 0, none⟩ = some (.int .i64 a0_0) ∧ w'.cell? ⟨gb183, 1, none⟩ = some (.int .i64 a0_1) ∧ w'.cell? ⟨gb183, 2, none⟩ = some (.slice (some ad186) l0_2.length c0_2) ∧ w'.cell? (ad186.add (((ji13)).toNat * 4)) = some (.string ((rd_T96 l0_2 (ji13)).f0)) ∧ w'.cell? ⟨(ad186.add (((ji13)).toNat * 4)).block, (ad186.add (((ji13)).toNat * 4)).off + 1, none⟩ = some (.int .i64 ((rd_T96 l0_2 (ji13)).f1)) ∧ w'.cell? ⟨(ad186.add (((ji13)).toNat * 4)).block, (ad186.add (((ji13)).toNat * 4)).off + 2, none⟩ = some (.int .i64 ((rd_T96 l0_2 (ji13)).f2)) ∧ w'.cell? ⟨(ad186.add (((ji13)).toNat * 4)).block, (ad186.add (((ji13)).toNat * 4)).off + 3, none⟩ = some (.int .i64 ((rd_T96 l0_2 (ji13)).f3))) (ds := []) #[false, false, false, false, false, false, false, false, false, false, false, false, false, false, false, false, false, false, false, false, false, false, false, false, false, false, false, false, false, false, false, false, false, false, false, false, false, false, false, false] (by kernel_rfl) rfl rfl ⟨(blk_cell HI187.out.1 0).trans rfl, (blk_cell HI187.out.1 1).trans rfl, (blk_cell HI187.out.1 2).trans rfl, (blk_cell HI187.out.1 3).trans rfl, (blk_cell BK183.out 0).trans rfl, (blk_cell BK183.out 1).trans rfl, (blk_cell BK183.out 2).trans rfl, ((HB.out.cell (World.block_lt_of_cell? w _ hw189_0)).trans hw189_0), ((HB.out.cell (World.block_lt_of_cell? w _ hw189_1)).trans hw189_1), ((HB.out.cell (World.block_lt_of_cell? w _ hw189_2)).trans hw189_2), ((HB.out.cell (World.block_lt_of_cell? w _ hw189_3)).trans hw189_3)⟩ (fun hHeld => ?_); refine with_tabW impl_GoodStore.tab5 impl_GoodStore.bits5 (fun HT_ HW_ => ?_)
              generalize w22.drew = w23 at BK183 HI187 HB hx189_0 hx189_1 hx189_2 hx189_3 hHeld ⊢
              refine pure_ (i := 0) (N := some 14) (v := ?_) (a' := ?_) (bz5 40 1) rfl rfl (any_of HT_.out (by kernel_rfl)) (fun _ _ _ h => h) (Or.inl ⟨by rfl, ?_⟩) ?_ ?_
              rotate_left
              ·intro w'
               go_simp
               with_reducible rfl
              rotate_left
              ·simp only [Act.put, List.setIfInBounds_toArray, List.set_cons_zero, List.set_cons_succ, i64_w, i32_w]
               rfl
              refine take_ (i := 1) (N := some 15) (v := ?_) (a' := ?_) (bz5 40 3) rfl rfl (take_ofW HT_.out HW_.out (by kernel_rfl)) (fun _ _ _ h => h) (Or.inl ⟨by rfl, ?_⟩) hHeld ?_ ?_
              rotate_left
              ·rintro w' ⟨s0, s1, s2, s3, s4, s5, s6, s7, s8, s9, s10⟩
               go_simp
               with_reducible rfl
              rotate_left
              ·simp only [Act.put, List.setIfInBounds_toArray, List.set_cons_zero, List.set_cons_succ, i64_w, i32_w]
               rfl
              refine one_ (i := 2) (N := some 16) (bz5 40 7) rfl rfl (one_of HT_.out (by kernel_rfl)) (by decide) (fun K hK => ?_)
              refine goes_ Try.func99 (by kernel_rfl) rfl #[.string ((rd_T96 l0_2 x9_1).f0)] (by rfl) rfl rfl (by (try simp only [List.map_toArray, List.map_cons, List.map_nil]); first | done | rfl | (simp only [List.length_drop, List.length_take]; rfl)) ?_
              with_reducible refine (impl_GoodName.calls k1 ((rd_T96 l0_2 x9_1).f0) true _ A10.out).mono ?_
              rintro e w' ⟨rfl, ⟨nd, rfl⟩⟩
              refine ⟨_, rfl, ?_⟩
              refine hK.out _ _ ⟨(blk_cell HI187.out.1 0).trans rfl, (blk_cell HI187.out.1 1).trans rfl, (blk_cell HI187.out.1 2).trans rfl, (blk_cell HI187.out.1 3).trans rfl, (blk_cell BK183.out 0).trans rfl, (blk_cell BK183.out 1).trans rfl, (blk_cell BK183.out 2).trans rfl, ((HB.out.cell (World.block_lt_of_cell? w _ hw189_0)).trans hw189_0), ((HB.out.cell (World.block_lt_of_cell? w _ hw189_1)).trans hw189_1), ((HB.out.cell (World.block_lt_of_cell? w _ hw189_2)).trans hw189_2), ((HB.out.cell (World.block_lt_of_cell? w _ hw189_3)).trans hw189_3)⟩ (fun hHeld => ?_)
              clear hK K
              refine norm_ (a' := ?_) ?_ ?_
              rotate_left
              ·show Act.put _ (some 16) _ = _
               simp only [Act.put, List.setIfInBounds_toArray, List.set_cons_zero, List.set_cons_succ, i64_w, i32_w]
               rfl
              refine pure_ (i := 3) (N := some 17) (v := ?_) (a' := ?_) (bz5 40 15) rfl rfl (any_of HT_.out (by kernel_rfl)) (fun _ _ _ h => h) (Or.inl ⟨by rfl, ?_⟩) ?_ ?_
              rotate_left
              ·intro w'
               go_simp
               with_reducible rfl
              rotate_left
              ·simp only [Act.put, List.setIfInBounds_toArray, List.set_cons_zero, List.set_cons_succ, i64_w, i32_w]
               rfl
              refine pure_ (i := 4) (N := some 18) (v := ?_) (a' := ?_) (bz5 40 31) rfl rfl (any_of HT_.out (by kernel_rfl)) (fun _ _ _ h => h) (Or.inl ⟨by rfl, ?_⟩) ?_ ?_
              rotate_left
              ·intro w'
               go_simp
               with_reducible rfl
              rotate_left
              ·simp only [Act.put, List.setIfInBounds_toArray, List.set_cons_zero, List.set_cons_succ, i64_w, i32_w]
               rfl
              refine pure_ (i := 5) (N := some 19) (v := ?_) (a' := ?_) (bz5 40 63) rfl rfl (any_of HT_.out (by kernel_rfl)) (fun _ _ _ h => h) (Or.inl ⟨by rfl, ?_⟩) ?_ ?_
              rotate_left
              ·intro w'
               go_simp
               with_reducible rfl
              rotate_left
              ·simp only [Act.put, List.setIfInBounds_toArray, List.set_cons_zero, List.set_cons_succ, i64_w, i32_w]
               rfl
              refine pure_ (i := 6) (N := some 20) (v := ?_) (a' := ?_) (bz5 40 127) rfl rfl (any_of HT_.out (by kernel_rfl)) (fun _ _ _ h => h) (Or.inl ⟨by rfl, ?_⟩) ?_ ?_
              rotate_left
              ·intro w'
               go_simp
               with_reducible rfl
              rotate_left
              ·simp only [Act.put, List.setIfInBounds_toArray, List.set_cons_zero, List.set_cons_succ, i64_w, i32_w]
               rfl
              refine pure_ (i := 7) (N := some 21) (v := ?_) (a' := ?_) (bz5 40 255) rfl rfl (any_of HT_.out (by kernel_rfl)) (fun _ _ _ h => h) (Or.inl ⟨by rfl, ?_⟩) ?_ ?_
              rotate_left
              ·intro w'
               go_simp
               with_reducible rfl
              rotate_left
              ·simp only [Act.put, List.setIfInBounds_toArray, List.set_cons_zero, List.set_cons_succ, i64_w, i32_w]
               rfl
              refine pure_ (i := 8) (N := some 22) (v := ?_) (a' := ?_) (bz5 40 511) rfl rfl (any_of HT_.out (by kernel_rfl)) (fun _ _ _ h => h) (Or.inl ⟨by rfl, ?_⟩) ?_ ?_
              rotate_left
              ·intro w'
               go_simp
               with_reducible rfl
              rotate_left
              ·simp only [Act.put, List.setIfInBounds_toArray, List.set_cons_zero, List.set_cons_succ, i64_w, i32_w]
               rfl
              refine pure_ (i := 10) (N := some 24) (v := ?_) (a' := ?_) (bz5 40 1535) rfl rfl (any_of HT_.out (by kernel_rfl)) (fun _ _ _ h => h) (Or.inl ⟨by rfl, ?_⟩) ?_ ?_
              rotate_left
              ·intro w'
               go_simp
               with_reducible rfl
              rotate_left
              ·simp only [Act.put, List.setIfInBounds_toArray, List.set_cons_zero, List.set_cons_succ, i64_w, i32_w]
               rfl
              refine pure_ (i := 11) (N := some 25) (v := ?_) (a' := ?_) (bz5 40 3583) rfl rfl (any_of HT_.out (by kernel_rfl)) (fun _ _ _ h => h) (Or.inl ⟨by rfl, ?_⟩) ?_ ?_
              rotate_left
              ·intro w'
               go_simp
               with_reducible rfl
              rotate_left
              ·simp only [Act.put, List.setIfInBounds_toArray, List.set_cons_zero, List.set_cons_succ, i64_w, i32_w]
               rfl
              refine pure_ (i := 15) (N := some 29) (v := ?_) (a' := ?_) (bz5 40 36351) rfl rfl (any_of HT_.out (by kernel_rfl)) (fun _ _ _ h => h) (Or.inl ⟨by rfl, ?_⟩) ?_ ?_
              rotate_left
              ·intro w'
               go_simp
               with_reducible rfl
              rotate_left
              ·simp only [Act.put, List.setIfInBounds_toArray, List.set_cons_zero, List.set_cons_succ, i64_w, i32_w]
               rfl
              refine take_ (i := 9) (N := some 23) (v := ?_) (a' := ?_) (bz5 40 36863) rfl rfl (take_ofW HT_.out HW_.out (by kernel_rfl)) (fun _ _ _ h => h) (Or.inl ⟨by rfl, ?_⟩) hHeld ?_ ?_
              rotate_left
              ·rintro w' ⟨s0, s1, s2, s3, s4, s5, s6, s7, s8, s9, s10⟩
               go_simp
               with_reducible rfl
              rotate_left
              ·simp only [Act.put, List.setIfInBounds_toArray, List.set_cons_zero, List.set_cons_succ, i64_w, i32_w]
               rfl
              refine pure_ (i := 12) (N := some 26) (v := ?_) (a' := ?_) (bz5 40 40959) rfl rfl (any_of HT_.out (by kernel_rfl)) (fun _ _ _ h => h) (Or.inl ⟨by rfl, ?_⟩) ?_ ?_
              rotate_left
              ·intro w'
               go_simp
               with_reducible rfl
              rotate_left
              ·simp only [Act.put, List.setIfInBounds_toArray, List.set_cons_zero, List.set_cons_succ, i64_w, i32_w]
               rfl
              refine pure_ (i := 13) (N := some 27) (v := ?_) (a' := ?_) (bz5 40 49151) rfl rfl (any_of HT_.out (by kernel_rfl)) (fun _ _ _ h => h) (Or.inl ⟨by rfl, ?_⟩) ?_ ?_
              rotate_left
              ·intro w'
               go_simp
               with_reducible rfl
              rotate_left
              ·simp only [Act.put, List.setIfInBounds_toArray, List.set_cons_zero, List.set_cons_succ, i64_w, i32_w]
               rfl
              refine take_ (i := 14) (N := some 28) (v := ?_) (a' := ?_) (bz5 40 65535) rfl rfl (take_ofW HT_.out HW_.out (by kernel_rfl)) (fun _ _ _ h => h) (Or.inl ⟨by rfl, ?_⟩) hHeld ?_ ?_
              rotate_left
              ·rintro w' ⟨s0, s1, s2, s3, s4, s5, s6, s7, s8, s9, s10⟩
               go_simp
               with_reducible rfl
              rotate_left
              ·simp only [Act.put, List.setIfInBounds_toArray, List.set_cons_zero, List.set_cons_succ, i64_w, i32_w]
               rfl
              refine take_ (i := 16) (N := some 30) (v := ?_) (a' := ?_) (bz5 40 131071) rfl rfl (take_ofW HT_.out HW_.out (by kernel_rfl)) (fun _ _ _ h => h) (Or.inl ⟨by rfl, ?_⟩) hHeld ?_ ?_
              rotate_left
              ·rintro w' ⟨s0, s1, s2, s3, s4, s5, s6, s7, s8, s9, s10⟩
               go_simp
               with_reducible rfl
              rotate_left
              ·simp only [Act.put, List.setIfInBounds_toArray, List.set_cons_zero, List.set_cons_succ, i64_w, i32_w]
               rfl
              refine pure_ (i := 17) (N := some 31) (v := ?_) (a' := ?_) (bz5 40 262143) rfl rfl (any_of HT_.out (by kernel_rfl)) (fun _ _ _ h => h) (Or.inl ⟨by rfl, ?_⟩) ?_ ?_
              rotate_left
              ·intro w'
               go_simp
               with_reducible rfl
              rotate_left
              ·simp only [Act.put, List.setIfInBounds_toArray, List.set_cons_zero, List.set_cons_succ, i64_w, i32_w]
               rfl
              refine pure_ (i := 18) (N := some 32) (v := ?_) (a' := ?_) (bz5 40 524287) rfl rfl (any_of HT_.out (by kernel_rfl)) (fun _ _ _ h => h) (Or.inl ⟨by rfl, ?_⟩) ?_ ?_
              rotate_left
              ·intro w'
               go_simp
               with_reducible rfl
              rotate_left
              ·simp only [Act.put, List.setIfInBounds_toArray, List.set_cons_zero, List.set_cons_succ, i64_w, i32_w]
               rfl
              refine pure_ (i := 19) (N := some 33) (v := ?_) (a' := ?_) (bz5 40 1048575) rfl rfl (any_of HT_.out (by kernel_rfl)) (fun _ _ _ h => h) (Or.inl ⟨by rfl, ?_⟩) ?_ ?_
              rotate_left
              ·intro w'
               go_simp
               with_reducible rfl
              rotate_left
              ·simp only [Act.put, List.setIfInBounds_toArray, List.set_cons_zero, List.set_cons_succ, i64_w, i32_w]
               rfl
              refine pure_ (i := 20) (N := some 34) (v := ?_) (a' := ?_) (bz5 40 2097151) rfl rfl (any_of HT_.out (by kernel_rfl)) (fun _ _ _ h => h) (Or.inl ⟨by rfl, ?_⟩) ?_ ?_
              rotate_left
              ·intro w'
               go_simp
               with_reducible rfl
              rotate_left
              ·simp only [Act.put, List.setIfInBounds_toArray, List.set_cons_zero, List.set_cons_succ, i64_w, i32_w]
               rfl
              refine pure_ (i := 21) (N := some 35) (v := ?_) (a' := ?_) (bz5 40 4194303) rfl rfl (any_of HT_.out (by kernel_rfl)) (fun _ _ _ h => h) (Or.inl ⟨by rfl, ?_⟩) ?_ ?_
              rotate_left
              ·intro w'
               go_simp
               with_reducible rfl
              rotate_left
              ·simp only [Act.put, List.setIfInBounds_toArray, List.set_cons_zero, List.set_cons_succ, i64_w, i32_w]
               rfl
              refine take_ (i := 22) (N := some 36) (v := ?_) (a' := ?_) (bz5 40 8388607) rfl rfl (take_ofW HT_.out HW_.out (by kernel_rfl)) (fun _ _ _ h => h) (Or.inl ⟨by rfl, ?_⟩) hHeld ?_ ?_
              rotate_left
              ·rintro w' ⟨s0, s1, s2, s3, s4, s5, s6, s7, s8, s9, s10⟩
               go_simp
               with_reducible rfl
              rotate_left
              ·simp only [Act.put, List.setIfInBounds_toArray, List.set_cons_zero, List.set_cons_succ, i64_w, i32_w]
               rfl
              refine one_ (i := 23) (N := some 37) (bz5 40 16777215) rfl rfl (one_of HT_.out (by kernel_rfl)) (by decide) (fun K hK => ?_)
              refine goes_ Try.func89 (by kernel_rfl) rfl #[.int .i64 ((rd_T96 l0_2 x9_1).f1), .int .i64 1, .int .i64 100000] (by rfl) rfl rfl (by (try simp only [List.map_toArray, List.map_cons, List.map_nil]); first | done | rfl | (simp only [List.length_drop, List.length_take]; rfl)) ?_
              with_reducible refine (impl_inRange.calls ((rd_T96 l0_2 x9_1).f1) 1 100000 true _ A17.out).mono ?_
              rintro e w' ⟨rfl, ⟨nd, rfl⟩⟩
              refine ⟨_, rfl, ?_⟩
              refine hK.out _ _ ⟨(blk_cell HI187.out.1 0).trans rfl, (blk_cell HI187.out.1 1).trans rfl, (blk_cell HI187.out.1 2).trans rfl, (blk_cell HI187.out.1 3).trans rfl, (blk_cell BK183.out 0).trans rfl, (blk_cell BK183.out 1).trans rfl, (blk_cell BK183.out 2).trans rfl, ((HB.out.cell (World.block_lt_of_cell? w _ hw189_0)).trans hw189_0), ((HB.out.cell (World.block_lt_of_cell? w _ hw189_1)).trans hw189_1), ((HB.out.cell (World.block_lt_of_cell? w _ hw189_2)).trans hw189_2), ((HB.out.cell (World.block_lt_of_cell? w _ hw189_3)).trans hw189_3)⟩ (fun hHeld => ?_)
              clear hK K
              refine norm_ (a' := ?_) ?_ ?_
              rotate_left
              ·show Act.put _ (some 37) _ = _
               simp only [Act.put, List.setIfInBounds_toArray, List.set_cons_zero, List.set_cons_succ, i64_w, i32_w]
               rfl
              refine pure_ (i := 24) (N := some 38) (v := ?_) (a' := ?_) (bz5 40 33554431) rfl rfl (any_of HT_.out (by kernel_rfl)) (fun _ _ _ h => h) (Or.inl ⟨by rfl, ?_⟩) ?_ ?_
              rotate_left
              ·intro w'
               go_simp
               with_reducible rfl
              rotate_left
              ·simp only [Act.put, List.setIfInBounds_toArray, List.set_cons_zero, List.set_cons_succ, i64_w, i32_w]
               rfl
              refine pure_ (i := 25) (N := some 39) (v := ?_) (a' := ?_) (bz5 40 67108863) rfl rfl (any_of HT_.out (by kernel_rfl)) (fun _ _ _ h => h) (Or.inl ⟨by rfl, ?_⟩) ?_ ?_
              rotate_left
              ·intro w'
               go_simp
               with_reducible rfl
              rotate_left
              ·simp only [Act.put, List.setIfInBounds_toArray, List.set_cons_zero, List.set_cons_succ, i64_w, i32_w]
               rfl
              refine pure_ (i := 26) (N := some 40) (v := ?_) (a' := ?_) (bz5 40 134217727) rfl rfl (any_of HT_.out (by kernel_rfl)) (fun _ _ _ h => h) (Or.inl ⟨by rfl, ?_⟩) ?_ ?_
              rotate_left
              ·intro w'
               go_simp
               with_reducible rfl
              rotate_left
              ·simp only [Act.put, List.setIfInBounds_toArray, List.set_cons_zero, List.set_cons_succ, i64_w, i32_w]
               rfl
              refine pure_ (i := 27) (N := some 41) (v := ?_) (a' := ?_) (bz5 40 268435455) rfl rfl (any_of HT_.out (by kernel_rfl)) (fun _ _ _ h => h) (Or.inl ⟨by rfl, ?_⟩) ?_ ?_
              rotate_left
              ·intro w'
               go_simp
               with_reducible rfl
              rotate_left
              ·simp only [Act.put, List.setIfInBounds_toArray, List.set_cons_zero, List.set_cons_succ, i64_w, i32_w]
               rfl
              refine take_ (i := 28) (N := some 42) (v := ?_) (a' := ?_) (bz5 40 536870911) rfl rfl (take_ofW HT_.out HW_.out (by kernel_rfl)) (fun _ _ _ h => h) (Or.inl ⟨by rfl, ?_⟩) hHeld ?_ ?_
              rotate_left
              ·rintro w' ⟨s0, s1, s2, s3, s4, s5, s6, s7, s8, s9, s10⟩
               go_simp
               with_reducible rfl
              rotate_left
              ·simp only [Act.put, List.setIfInBounds_toArray, List.set_cons_zero, List.set_cons_succ, i64_w, i32_w]
               rfl
              refine one_ (i := 29) (N := some 43) (bz5 40 1073741823) rfl rfl (one_of HT_.out (by kernel_rfl)) (by decide) (fun K hK => ?_)
              refine goes_ Try.func89 (by kernel_rfl) rfl #[.int .i64 ((rd_T96 l0_2 x9_1).f2), .int .i64 0, .int .i64 1000] (by rfl) rfl rfl (by (try simp only [List.map_toArray, List.map_cons, List.map_nil]); first | done | rfl | (simp only [List.length_drop, List.length_take]; rfl)) ?_
              with_reducible refine (impl_inRange.calls ((rd_T96 l0_2 x9_1).f2) 0 1000 true _ A19.out).mono ?_
              rintro e w' ⟨rfl, ⟨nd, rfl⟩⟩
              refine ⟨_, rfl, ?_⟩
              refine hK.out _ _ ⟨(blk_cell HI187.out.1 0).trans rfl, (blk_cell HI187.out.1 1).trans rfl, (blk_cell HI187.out.1 2).trans rfl, (blk_cell HI187.out.1 3).trans rfl, (blk_cell BK183.out 0).trans rfl, (blk_cell BK183.out 1).trans rfl, (blk_cell BK183.out 2).trans rfl, ((HB.out.cell (World.block_lt_of_cell? w _ hw189_0)).trans hw189_0), ((HB.out.cell (World.block_lt_of_cell? w _ hw189_1)).trans hw189_1), ((HB.out.cell (World.block_lt_of_cell? w _ hw189_2)).trans hw189_2), ((HB.out.cell (World.block_lt_of_cell? w _ hw189_3)).trans hw189_3)⟩ (fun hHeld => ?_)
              clear hK K
              refine norm_ (a' := ?_) ?_ ?_
              rotate_left
              ·show Act.put _ (some 43) _ = _
               simp only [Act.put, List.setIfInBounds_toArray, List.set_cons_zero, List.set_cons_succ, i64_w, i32_w]
               rfl
              refine pure_ (i := 30) (N := some 44) (v := ?_) (a' := ?_) (bz5 40 2147483647) rfl rfl (any_of HT_.out (by kernel_rfl)) (fun _ _ _ h => h) (Or.inl ⟨by rfl, ?_⟩) ?_ ?_
              rotate_left
              ·intro w'
               go_simp
               with_reducible rfl
              rotate_left
              ·simp only [Act.put, List.setIfInBounds_toArray, List.set_cons_zero, List.set_cons_succ, i64_w, i32_w]
               rfl
              refine pure_ (i := 31) (N := some 45) (v := ?_) (a' := ?_) (bz5 40 4294967295) rfl rfl (any_of HT_.out (by kernel_rfl)) (fun _ _ _ h => h) (Or.inl ⟨by rfl, ?_⟩) ?_ ?_
              rotate_left
              ·intro w'
               go_simp
               with_reducible rfl
              rotate_left
              ·simp only [Act.put, List.setIfInBounds_toArray, List.set_cons_zero, List.set_cons_succ, i64_w, i32_w]
               rfl
              refine pure_ (i := 32) (N := some 46) (v := ?_) (a' := ?_) (bz5 40 8589934591) rfl rfl (any_of HT_.out (by kernel_rfl)) (fun _ _ _ h => h) (Or.inl ⟨by rfl, ?_⟩) ?_ ?_
              rotate_left
              ·intro w'
               go_simp
               with_reducible rfl
              rotate_left
              ·simp only [Act.put, List.setIfInBounds_toArray, List.set_cons_zero, List.set_cons_succ, i64_w, i32_w]
               rfl
              refine pure_ (i := 33) (N := some 47) (v := ?_) (a' := ?_) (bz5 40 17179869183) rfl rfl (any_of HT_.out (by kernel_rfl)) (fun _ _ _ h => h) (Or.inl ⟨by rfl, ?_⟩) ?_ ?_
              rotate_left
              ·intro w'
               go_simp
               with_reducible rfl
              rotate_left
              ·simp only [Act.put, List.setIfInBounds_toArray, List.set_cons_zero, List.set_cons_succ, i64_w, i32_w]
               rfl
              refine pure_ (i := 35) (N := some 49) (v := ?_) (a' := ?_) (bz5 40 51539607551) rfl rfl (any_of HT_.out (by kernel_rfl)) (fun _ _ _ h => h) (Or.inl ⟨by rfl, ?_⟩) ?_ ?_
              rotate_left
              ·intro w'
               go_simp
               with_reducible rfl
              rotate_left
              ·simp only [Act.put, List.setIfInBounds_toArray, List.set_cons_zero, List.set_cons_succ, i64_w, i32_w]
               rfl
              refine take_ (i := 34) (N := some 48) (v := ?_) (a' := ?_) (bz5 40 68719476735) rfl rfl (take_ofW HT_.out HW_.out (by kernel_rfl)) (fun _ _ _ h => h) (Or.inl ⟨by rfl, ?_⟩) hHeld ?_ ?_
              rotate_left
              ·rintro w' ⟨s0, s1, s2, s3, s4, s5, s6, s7, s8, s9, s10⟩
               go_simp
               with_reducible rfl
              rotate_left
              ·simp only [Act.put, List.setIfInBounds_toArray, List.set_cons_zero, List.set_cons_succ, i64_w, i32_w]
               rfl
              refine take_ (i := 36) (N := some 50) (v := ?_) (a' := ?_) (bz5 40 137438953471) rfl rfl (take_ofW HT_.out HW_.out (by kernel_rfl)) (fun _ _ _ h => h) (Or.inl ⟨by rfl, ?_⟩) hHeld ?_ ?_
              rotate_left
              ·rintro w' ⟨s0, s1, s2, s3, s4, s5, s6, s7, s8, s9, s10⟩
               go_simp
               with_reducible rfl
              rotate_left
              ·simp only [Act.put, List.setIfInBounds_toArray, List.set_cons_zero, List.set_cons_succ, i64_w, i32_w]
               rfl
              refine one_ (i := 37) (N := some 51) (bz5 40 274877906943) rfl rfl (one_of HT_.out (by kernel_rfl)) (by decide) (fun K hK => ?_)
              refine goes_ Try.func89 (by kernel_rfl) rfl #[.int .i64 ((rd_T96 l0_2 x9_1).f3), .int .i64 0, .int .i64 a0_1] (by rfl) rfl rfl (by (try simp only [List.map_toArray, List.map_cons, List.map_nil]); first | done | rfl | (simp only [List.length_drop, List.length_take]; rfl)) ?_
              with_reducible refine (impl_inRange.calls ((rd_T96 l0_2 x9_1).f3) 0 a0_1 t192 _ A21.out).mono ?_
              rintro e w' ⟨rfl, ⟨nd, rfl⟩⟩
              refine ⟨_, rfl, ?_⟩
              refine hK.out _ _ ⟨(blk_cell HI187.out.1 0).trans rfl, (blk_cell HI187.out.1 1).trans rfl, (blk_cell HI187.out.1 2).trans rfl, (blk_cell HI187.out.1 3).trans rfl, (blk_cell BK183.out 0).trans rfl, (blk_cell BK183.out 1).trans rfl, (blk_cell BK183.out 2).trans rfl, ((HB.out.cell (World.block_lt_of_cell? w _ hw189_0)).trans hw189_0), ((HB.out.cell (World.block_lt_of_cell? w _ hw189_1)).trans hw189_1), ((HB.out.cell (World.block_lt_of_cell? w _ hw189_2)).trans hw189_2), ((HB.out.cell (World.block_lt_of_cell? w _ hw189_3)).trans hw189_3)⟩ (fun hHeld => ?_)
              clear hK K
              refine norm_ (a' := ?_) ?_ ?_
              rotate_left
              ·show Act.put _ (some 51) _ = _
               simp only [Act.put, List.setIfInBounds_toArray, List.set_cons_zero, List.set_cons_succ, i64_w, i32_w]
               rfl
              refine pure_ (i := 38) (N := some 52) (v := ?_) (a' := ?_) (bz5 40 549755813887) rfl rfl (any_of HT_.out (by kernel_rfl)) (fun _ _ _ h => h) (Or.inl ⟨by rfl, ?_⟩) ?_ ?_
              rotate_left
              ·intro w'
               go_simp
               with_reducible rfl
              rotate_left
              ·simp only [Act.put, List.setIfInBounds_toArray, List.set_cons_zero, List.set_cons_succ, i64_w, i32_w]
               rfl
              refine pure_ (i := 39) (N := some 53) (v := ?_) (a' := ?_) (bz5 40 1099511627775) rfl rfl (any_of HT_.out (by kernel_rfl)) (fun _ _ _ h => h) (Or.inl ⟨by rfl, ?_⟩) ?_ ?_
              rotate_left
              ·intro w'
               go_simp
               with_reducible rfl
              rotate_left
              ·simp only [Act.put, List.setIfInBounds_toArray, List.set_cons_zero, List.set_cons_succ, i64_w, i32_w]
               rfl
              refine done_ (done_of HT_.out (by kernel_rfl)) ?_
              try go_wp2
              go_meet
              case rel => exact ⟨_, (!t192), (by first | rfl | (simp; done) | (simp [*]; done)), H', ⟨by have := HK1.out; first | omega | exact Nat.le_refl _⟩, ⟨by exact BK183.out⟩, ⟨by repeat (first | (with_reducible first | exact HI187.out | apply IsS96.alloc | apply IsS96.drewN | apply IsS96.drew | apply IsS96.set_0 | apply IsS96.set_1 | apply IsS96.set_2 | apply IsS96.set_3 | refine IsS96.far ?_ NB187_183.out _) | exact HI187.out)⟩, ⟨by repeat (first | (with_reducible first | exact HB.out | apply below_alloc | apply pw_below_drewN | apply below_drew1 | refine below_set ?_ (IsS96.ge HI187.out) | refine below_set ?_ GE183.out) | exact HB.out)⟩⟩
             ·replace c20 := Bool.eq_false_iff.mpr c20
              subst c20
              have H1 : (impl_GoodStore.j1 k1 x3_1 x9_1 l0_2 (l0_2.length : Int) x9_1 true a0_0 a0_1 l0_2 ((rd_T96 l0_2 x9_1).f0) ((rd_T96 l0_2 x9_1).f1) ((rd_T96 l0_2 x9_1).f2) ((rd_T96 l0_2 x9_1).f3)) = some r := by rw [if_neg (show ¬ (false = true) by decide)] at H; exact H
              clear H
              have H := H1
              clear H1
              have H' := Aside0.mk H
              clear H
              try go_wp2
              have n0_ : Aside0 (((((w8.setCell ⟨gb187, 0, none⟩ (.string ((rd_T96 l0_2 x9_1).f0))).setCell ⟨gb187, 1, none⟩ (.int .i64 ((rd_T96 l0_2 x9_1).f1))).setCell ⟨gb187, 2, none⟩ (.int .i64 ((rd_T96 l0_2 x9_1).f2))).setCell ⟨gb187, 3, none⟩ (.int .i64 ((rd_T96 l0_2 x9_1).f3))).heap[gb183]? = some (.cells #[.int .i64 a0_0, .int .i64 a0_1, .slice (some ad186) l0_2.length c0_2] 46 (0, 0))) := ⟨by refine blk_far ?_ NB183_187.out _; refine blk_far ?_ NB183_187.out _; refine blk_far ?_ NB183_187.out _; refine blk_far ?_ NB183_187.out _; exact BK183.out⟩
              have n1_ : Aside0 (IsS96 w ((((w8.setCell ⟨gb187, 0, none⟩ (.string ((rd_T96 l0_2 x9_1).f0))).setCell ⟨gb187, 1, none⟩ (.int .i64 ((rd_T96 l0_2 x9_1).f1))).setCell ⟨gb187, 2, none⟩ (.int .i64 ((rd_T96 l0_2 x9_1).f2))).setCell ⟨gb187, 3, none⟩ (.int .i64 ((rd_T96 l0_2 x9_1).f3))) gb187 ((rd_T96 l0_2 x9_1).f0) ((rd_T96 l0_2 x9_1).f1) ((rd_T96 l0_2 x9_1).f2) ((rd_T96 l0_2 x9_1).f3)) := ⟨by repeat (first | (with_reducible first | exact HI187.out | apply IsS96.alloc | apply IsS96.drewN | apply IsS96.drew | apply IsS96.set_0 | apply IsS96.set_1 | apply IsS96.set_2 | apply IsS96.set_3 | refine IsS96.far ?_ NB187_183.out _) | exact HI187.out)⟩
              have n2_ : Aside0 (Below w.heap.size w ((((w8.setCell ⟨gb187, 0, none⟩ (.string ((rd_T96 l0_2 x9_1).f0))).setCell ⟨gb187, 1, none⟩ (.int .i64 ((rd_T96 l0_2 x9_1).f1))).setCell ⟨gb187, 2, none⟩ (.int .i64 ((rd_T96 l0_2 x9_1).f2))).setCell ⟨gb187, 3, none⟩ (.int .i64 ((rd_T96 l0_2 x9_1).f3)))) := ⟨by repeat (first | (with_reducible first | exact HB.out | apply below_alloc | apply pw_below_drewN | apply below_drew1 | refine below_set ?_ (IsS96.ge HI187.out) | refine below_set ?_ GE183.out) | exact HB.out)⟩
              (try clear BK183)
              (try clear HI187)
              (try clear HB)
              generalize ((((w8.setCell ⟨gb187, 0, none⟩ (.string ((rd_T96 l0_2 x9_1).f0))).setCell ⟨gb187, 1, none⟩ (.int .i64 ((rd_T96 l0_2 x9_1).f1))).setCell ⟨gb187, 2, none⟩ (.int .i64 ((rd_T96 l0_2 x9_1).f2))).setCell ⟨gb187, 3, none⟩ (.int .i64 ((rd_T96 l0_2 x9_1).f3))) = w24 at n0_ n1_ n2_ ⊢
              have BK183 := n0_
              have HI187 := n1_
              have HB := n2_
              clear n0_ n1_ n2_
              have n0_ := Aside0.mk (blk_drew BK183.out)
              have n1_ := Aside0.mk (IsS96.drew HI187.out)
              have n2_ := Aside0.mk (below_drew1 HB.out)
              clear BK183
              clear HI187
              clear HB
              have BK183 := n0_
              have HI187 := n1_
              have HB := n2_
              clear n0_ n1_ n2_
              have p189 : 0 ≤ ((ji13) : Int) := of_decide_eq_true (by first | (with_reducible assumption) | assumption)
              have q189 : (ji13) < (l0_2.length : Int) := of_decide_eq_true (by first | (with_reducible assumption) | assumption)
              obtain ⟨ad189, e189, hx189_0, hx189_1, hx189_2, hx189_3⟩ := at_T96 HR0_2.out (ji13) p189 q189
              have hw189_3 := hx189_3
              have hw189_2 := hx189_2
              have hw189_1 := hx189_1
              have hw189_0 := hx189_0
              obtain rfl : ad186 = ad189 := (by injection e189)
              replace hx189_0 := (HB.out.cell (World.block_lt_of_cell? w _ hx189_0)).trans hx189_0
              replace hx189_1 := (HB.out.cell (World.block_lt_of_cell? w _ hx189_1)).trans hx189_1
              replace hx189_2 := (HB.out.cell (World.block_lt_of_cell? w _ hx189_2)).trans hx189_2
              replace hx189_3 := (HB.out.cell (World.block_lt_of_cell? w _ hx189_3)).trans hx189_3
              replace p189 := eq_true p189
              replace q189 := eq_true q189
              refine start_ (n := 40) (S := fun w' => w'.cell? ⟨gb187, 0, none⟩ = some (.string ((rd_T96 l0_2 x9_1).f0)) ∧ w'.cell? ⟨gb187, 1, none⟩ = some (.int .i64 ((rd_T96 l0_2 x9_1).f1)) ∧ w'.cell? ⟨gb187, 2, none⟩ = some (.int .i64 ((rd_T96 l0_2 x9_1).f2)) ∧ w'.cell? ⟨gb187, 3, none⟩ = some (.int .i64 ((rd_T96 l0_2 x9_1).f3)) ∧ w'.cell? ⟨gb183, 0, none⟩ = some (.int .i64 a0_0) ∧ w'.cell? ⟨gb183, 1, none⟩ = some (.int .i64 a0_1) ∧ w'.cell? ⟨gb183, 2, none⟩ = some (.slice (some ad186) l0_2.length c0_2) ∧ w'.cell? (ad186.add (((ji13)).toNat * 4)) = some (.string ((rd_T96 l0_2 (ji13)).f0)) ∧ w'.cell? ⟨(ad186.add (((ji13)).toNat * 4)).block, (ad186.add (((ji13)).toNat * 4)).off + 1, none⟩ = some (.int .i64 ((rd_T96 l0_2 (ji13)).f1)) ∧ w'.cell? ⟨(ad186.add (((ji13)).toNat * 4)).block, (ad186.add (((ji13)).toNat * 4)).off + 2, none⟩ = some (.int .i64 ((rd_T96 l0_2 (ji13)).f2)) ∧ w'.cell? ⟨(ad186.add (((ji13)).toNat * 4)).block, (ad186.add (((ji13)).toNat * 4)).off + 3, none⟩ = some (.int .i64 ((rd_T96 l0_2 (ji13)).f3))) (ds := []) #[false, false, false, false, false, false, false, false, false, false, false, false, false, false, false, false, false, false, false, false, false, false, false, false, false, false, false, false, false, false, false, false, false, false, false, false, false, false, false, false] (by kernel_rfl) rfl rfl ⟨(blk_cell HI187.out.1 0).trans rfl, (blk_cell HI187.out.1 1).trans rfl, (blk_cell HI187.out.1 2).trans rfl, (blk_cell HI187.out.1 3).trans rfl, (blk_cell BK183.out 0).trans rfl, (blk_cell BK183.out 1).trans rfl, (blk_cell BK183.out 2).trans rfl, ((HB.out.cell (World.block_lt_of_cell? w _ hw189_0)).trans hw189_0), ((HB.out.cell (World.block_lt_of_cell? w _ hw189_1)).trans hw189_1), ((HB.out.cell (World.block_lt_of_cell? w _ hw189_2)).trans hw189_2), ((HB.out.cell (World.block_lt_of_cell? w _ hw189_3)).trans hw189_3)⟩ (fun hHeld => ?_); refine with_tabW impl_GoodStore.tab5 impl_GoodStore.bits5 (fun HT_ HW_ => ?_)
              generalize w24.drew = w25 at BK183 HI187 HB hx189_0 hx189_1 hx189_2 hx189_3 hHeld ⊢
              refine pure_ (i := 0) (N := some 14) (v := ?_) (a' := ?_) (bz5 40 1) rfl rfl (any_of HT_.out (by kernel_rfl)) (fun _ _ _ h => h) (Or.inl ⟨by rfl, ?_⟩) ?_ ?_
              rotate_left
              ·intro w'
               go_simp
               with_reducible rfl
              rotate_left
              ·simp only [Act.put, List.setIfInBounds_toArray, List.set_cons_zero, List.set_cons_succ, i64_w, i32_w]
               rfl
              refine take_ (i := 1) (N := some 15) (v := ?_) (a' := ?_) (bz5 40 3) rfl rfl (take_ofW HT_.out HW_.out (by kernel_rfl)) (fun _ _ _ h => h) (Or.inl ⟨by rfl, ?_⟩) hHeld ?_ ?_
              rotate_left
              ·rintro w' ⟨s0, s1, s2, s3, s4, s5, s6, s7, s8, s9, s10⟩
               go_simp
               with_reducible rfl
              rotate_left
              ·simp only [Act.put, List.setIfInBounds_toArray, List.set_cons_zero, List.set_cons_succ, i64_w, i32_w]
               rfl
              refine one_ (i := 2) (N := some 16) (bz5 40 7) rfl rfl (one_of HT_.out (by kernel_rfl)) (by decide) (fun K hK => ?_)
              refine goes_ Try.func99 (by kernel_rfl) rfl #[.string ((rd_T96 l0_2 x9_1).f0)] (by rfl) rfl rfl (by (try simp only [List.map_toArray, List.map_cons, List.map_nil]); first | done | rfl | (simp only [List.length_drop, List.length_take]; rfl)) ?_
              with_reducible refine (impl_GoodName.calls k1 ((rd_T96 l0_2 x9_1).f0) true _ A10.out).mono ?_
              rintro e w' ⟨rfl, ⟨nd, rfl⟩⟩
              refine ⟨_, rfl, ?_⟩
              refine hK.out _ _ ⟨(blk_cell HI187.out.1 0).trans rfl, (blk_cell HI187.out.1 1).trans rfl, (blk_cell HI187.out.1 2).trans rfl, (blk_cell HI187.out.1 3).trans rfl, (blk_cell BK183.out 0).trans rfl, (blk_cell BK183.out 1).trans rfl, (blk_cell BK183.out 2).trans rfl, ((HB.out.cell (World.block_lt_of_cell? w _ hw189_0)).trans hw189_0), ((HB.out.cell (World.block_lt_of_cell? w _ hw189_1)).trans hw189_1), ((HB.out.cell (World.block_lt_of_cell? w _ hw189_2)).trans hw189_2), ((HB.out.cell (World.block_lt_of_cell? w _ hw189_3)).trans hw189_3)⟩ (fun hHeld => ?_)
              clear hK K
              refine norm_ (a' := ?_) ?_ ?_
              rotate_left
              ·show Act.put _ (some 16) _ = _
               simp only [Act.put, List.setIfInBounds_toArray, List.set_cons_zero, List.set_cons_succ, i64_w, i32_w]
               rfl
              refine pure_ (i := 3) (N := some 17) (v := ?_) (a' := ?_) (bz5 40 15) rfl rfl (any_of HT_.out (by kernel_rfl)) (fun _ _ _ h => h) (Or.inl ⟨by rfl, ?_⟩) ?_ ?_
              rotate_left
              ·intro w'
               go_simp
               with_reducible rfl
              rotate_left
              ·simp only [Act.put, List.setIfInBounds_toArray, List.set_cons_zero, List.set_cons_succ, i64_w, i32_w]
               rfl
              refine pure_ (i := 4) (N := some 18) (v := ?_) (a' := ?_) (bz5 40 31) rfl rfl (any_of HT_.out (by kernel_rfl)) (fun _ _ _ h => h) (Or.inl ⟨by rfl, ?_⟩) ?_ ?_
              rotate_left
              ·intro w'
               go_simp
               with_reducible rfl
              rotate_left
              ·simp only [Act.put, List.setIfInBounds_toArray, List.set_cons_zero, List.set_cons_succ, i64_w, i32_w]
               rfl
              refine pure_ (i := 5) (N := some 19) (v := ?_) (a' := ?_) (bz5 40 63) rfl rfl (any_of HT_.out (by kernel_rfl)) (fun _ _ _ h => h) (Or.inl ⟨by rfl, ?_⟩) ?_ ?_
              rotate_left
              ·intro w'
               go_simp
               with_reducible rfl
              rotate_left
              ·simp only [Act.put, List.setIfInBounds_toArray, List.set_cons_zero, List.set_cons_succ, i64_w, i32_w]
               rfl
              refine pure_ (i := 6) (N := some 20) (v := ?_) (a' := ?_) (bz5 40 127) rfl rfl (any_of HT_.out (by kernel_rfl)) (fun _ _ _ h => h) (Or.inl ⟨by rfl, ?_⟩) ?_ ?_
              rotate_left
              ·intro w'
               go_simp
               with_reducible rfl
              rotate_left
              ·simp only [Act.put, List.setIfInBounds_toArray, List.set_cons_zero, List.set_cons_succ, i64_w, i32_w]
               rfl
              refine pure_ (i := 7) (N := some 21) (v := ?_) (a' := ?_) (bz5 40 255) rfl rfl (any_of HT_.out (by kernel_rfl)) (fun _ _ _ h => h) (Or.inl ⟨by rfl, ?_⟩) ?_ ?_
              rotate_left
              ·intro w'
               go_simp
               with_reducible rfl
              rotate_left
              ·simp only [Act.put, List.setIfInBounds_toArray, List.set_cons_zero, List.set_cons_succ, i64_w, i32_w]
               rfl
              refine pure_ (i := 8) (N := some 22) (v := ?_) (a' := ?_) (bz5 40 511) rfl rfl (any_of HT_.out (by kernel_rfl)) (fun _ _ _ h => h) (Or.inl ⟨by rfl, ?_⟩) ?_ ?_
              rotate_left
              ·intro w'
               go_simp
               with_reducible rfl
              rotate_left
              ·simp only [Act.put, List.setIfInBounds_toArray, List.set_cons_zero, List.set_cons_succ, i64_w, i32_w]
               rfl
              refine pure_ (i := 10) (N := some 24) (v := ?_) (a' := ?_) (bz5 40 1535) rfl rfl (any_of HT_.out (by kernel_rfl)) (fun _ _ _ h => h) (Or.inl ⟨by rfl, ?_⟩) ?_ ?_
              rotate_left
              ·intro w'
               go_simp
               with_reducible rfl
              rotate_left
              ·simp only [Act.put, List.setIfInBounds_toArray, List.set_cons_zero, List.set_cons_succ, i64_w, i32_w]
               rfl
              refine pure_ (i := 11) (N := some 25) (v := ?_) (a' := ?_) (bz5 40 3583) rfl rfl (any_of HT_.out (by kernel_rfl)) (fun _ _ _ h => h) (Or.inl ⟨by rfl, ?_⟩) ?_ ?_
              rotate_left
              ·intro w'
               go_simp
               with_reducible rfl
              rotate_left
              ·simp only [Act.put, List.setIfInBounds_toArray, List.set_cons_zero, List.set_cons_succ, i64_w, i32_w]
               rfl
              refine pure_ (i := 15) (N := some 29) (v := ?_) (a' := ?_) (bz5 40 36351) rfl rfl (any_of HT_.out (by kernel_rfl)) (fun _ _ _ h => h) (Or.inl ⟨by rfl, ?_⟩) ?_ ?_
              rotate_left
              ·intro w'
               go_simp
               with_reducible rfl
              rotate_left
              ·simp only [Act.put, List.setIfInBounds_toArray, List.set_cons_zero, List.set_cons_succ, i64_w, i32_w]
               rfl
              refine take_ (i := 9) (N := some 23) (v := ?_) (a' := ?_) (bz5 40 36863) rfl rfl (take_ofW HT_.out HW_.out (by kernel_rfl)) (fun _ _ _ h => h) (Or.inl ⟨by rfl, ?_⟩) hHeld ?_ ?_
              rotate_left
              ·rintro w' ⟨s0, s1, s2, s3, s4, s5, s6, s7, s8, s9, s10⟩
               go_simp
               with_reducible rfl
              rotate_left
              ·simp only [Act.put, List.setIfInBounds_toArray, List.set_cons_zero, List.set_cons_succ, i64_w, i32_w]
               rfl
              refine pure_ (i := 12) (N := some 26) (v := ?_) (a' := ?_) (bz5 40 40959) rfl rfl (any_of HT_.out (by kernel_rfl)) (fun _ _ _ h => h) (Or.inl ⟨by rfl, ?_⟩) ?_ ?_
              rotate_left
              ·intro w'
               go_simp
               with_reducible rfl
              rotate_left
              ·simp only [Act.put, List.setIfInBounds_toArray, List.set_cons_zero, List.set_cons_succ, i64_w, i32_w]
               rfl
              refine pure_ (i := 13) (N := some 27) (v := ?_) (a' := ?_) (bz5 40 49151) rfl rfl (any_of HT_.out (by kernel_rfl)) (fun _ _ _ h => h) (Or.inl ⟨by rfl, ?_⟩) ?_ ?_
              rotate_left
              ·intro w'
               go_simp
               with_reducible rfl
              rotate_left
              ·simp only [Act.put, List.setIfInBounds_toArray, List.set_cons_zero, List.set_cons_succ, i64_w, i32_w]
               rfl
              refine take_ (i := 14) (N := some 28) (v := ?_) (a' := ?_) (bz5 40 65535) rfl rfl (take_ofW HT_.out HW_.out (by kernel_rfl)) (fun _ _ _ h => h) (Or.inl ⟨by rfl, ?_⟩) hHeld ?_ ?_
              rotate_left
              ·rintro w' ⟨s0, s1, s2, s3, s4, s5, s6, s7, s8, s9, s10⟩
               go_simp
               with_reducible rfl
              rotate_left
              ·simp only [Act.put, List.setIfInBounds_toArray, List.set_cons_zero, List.set_cons_succ, i64_w, i32_w]
               rfl
              refine take_ (i := 16) (N := some 30) (v := ?_) (a' := ?_) (bz5 40 131071) rfl rfl (take_ofW HT_.out HW_.out (by kernel_rfl)) (fun _ _ _ h => h) (Or.inl ⟨by rfl, ?_⟩) hHeld ?_ ?_
              rotate_left
              ·rintro w' ⟨s0, s1, s2, s3, s4, s5, s6, s7, s8, s9, s10⟩
               go_simp
               with_reducible rfl
              rotate_left
              ·simp only [Act.put, List.setIfInBounds_toArray, List.set_cons_zero, List.set_cons_succ, i64_w, i32_w]
               rfl
              refine pure_ (i := 17) (N := some 31) (v := ?_) (a' := ?_) (bz5 40 262143) rfl rfl (any_of HT_.out (by kernel_rfl)) (fun _ _ _ h => h) (Or.inl ⟨by rfl, ?_⟩) ?_ ?_
              rotate_left
              ·intro w'
               go_simp
               with_reducible rfl
              rotate_left
              ·simp only [Act.put, List.setIfInBounds_toArray, List.set_cons_zero, List.set_cons_succ, i64_w, i32_w]
               rfl
              refine pure_ (i := 18) (N := some 32) (v := ?_) (a' := ?_) (bz5 40 524287) rfl rfl (any_of HT_.out (by kernel_rfl)) (fun _ _ _ h => h) (Or.inl ⟨by rfl, ?_⟩) ?_ ?_
              rotate_left
              ·intro w'
               go_simp
               with_reducible rfl
              rotate_left
              ·simp only [Act.put, List.setIfInBounds_toArray, List.set_cons_zero, List.set_cons_succ, i64_w, i32_w]
               rfl
              refine pure_ (i := 19) (N := some 33) (v := ?_) (a' := ?_) (bz5 40 1048575) rfl rfl (any_of HT_.out (by kernel_rfl)) (fun _ _ _ h => h) (Or.inl ⟨by rfl, ?_⟩) ?_ ?_
              rotate_left
              ·intro w'
               go_simp
               with_reducible rfl
              rotate_left
              ·simp only [Act.put, List.setIfInBounds_toArray, List.set_cons_zero, List.set_cons_succ, i64_w, i32_w]
               rfl
              refine pure_ (i := 20) (N := some 34) (v := ?_) (a' := ?_) (bz5 40 2097151) rfl rfl (any_of HT_.out (by kernel_rfl)) (fun _ _ _ h => h) (Or.inl ⟨by rfl, ?_⟩) ?_ ?_
              rotate_left
              ·intro w'
               go_simp
               with_reducible rfl
              rotate_left
              ·simp only [Act.put, List.setIfInBounds_toArray, List.set_cons_zero, List.set_cons_succ, i64_w, i32_w]
               rfl
              refine pure_ (i := 21) (N := some 35) (v := ?_) (a' := ?_) (bz5 40 4194303) rfl rfl (any_of HT_.out (by kernel_rfl)) (fun _ _ _ h => h) (Or.inl ⟨by rfl, ?_⟩) ?_ ?_
              rotate_left
              ·intro w'
               go_simp
               with_reducible rfl
              rotate_left
              ·simp only [Act.put, List.setIfInBounds_toArray, List.set_cons_zero, List.set_cons_succ, i64_w, i32_w]
               rfl
              refine take_ (i := 22) (N := some 36) (v := ?_) (a' := ?_) (bz5 40 8388607) rfl rfl (take_ofW HT_.out HW_.out (by kernel_rfl)) (fun _ _ _ h => h) (Or.inl ⟨by rfl, ?_⟩) hHeld ?_ ?_
              rotate_left
              ·rintro w' ⟨s0, s1, s2, s3, s4, s5, s6, s7, s8, s9, s10⟩
               go_simp
               with_reducible rfl
              rotate_left
              ·simp only [Act.put, List.setIfInBounds_toArray, List.set_cons_zero, List.set_cons_succ, i64_w, i32_w]
               rfl
              refine one_ (i := 23) (N := some 37) (bz5 40 16777215) rfl rfl (one_of HT_.out (by kernel_rfl)) (by decide) (fun K hK => ?_)
              refine goes_ Try.func89 (by kernel_rfl) rfl #[.int .i64 ((rd_T96 l0_2 x9_1).f1), .int .i64 1, .int .i64 100000] (by rfl) rfl rfl (by (try simp only [List.map_toArray, List.map_cons, List.map_nil]); first | done | rfl | (simp only [List.length_drop, List.length_take]; rfl)) ?_
              with_reducible refine (impl_inRange.calls ((rd_T96 l0_2 x9_1).f1) 1 100000 true _ A17.out).mono ?_
              rintro e w' ⟨rfl, ⟨nd, rfl⟩⟩
              refine ⟨_, rfl, ?_⟩
              refine hK.out _ _ ⟨(blk_cell HI187.out.1 0).trans rfl, (blk_cell HI187.out.1 1).trans rfl, (blk_cell HI187.out.1 2).trans rfl, (blk_cell HI187.out.1 3).trans rfl, (blk_cell BK183.out 0).trans rfl, (blk_cell BK183.out 1).trans rfl, (blk_cell BK183.out 2).trans rfl, ((HB.out.cell (World.block_lt_of_cell? w _ hw189_0)).trans hw189_0), ((HB.out.cell (World.block_lt_of_cell? w _ hw189_1)).trans hw189_1), ((HB.out.cell (World.block_lt_of_cell? w _ hw189_2)).trans hw189_2), ((HB.out.cell (World.block_lt_of_cell? w _ hw189_3)).trans hw189_3)⟩ (fun hHeld => ?_)
              clear hK K
              refine norm_ (a' := ?_) ?_ ?_
              rotate_left
              ·show Act.put _ (some 37) _ = _
               simp only [Act.put, List.setIfInBounds_toArray, List.set_cons_zero, List.set_cons_succ, i64_w, i32_w]
               rfl
              refine pure_ (i := 24) (N := some 38) (v := ?_) (a' := ?_) (bz5 40 33554431) rfl rfl (any_of HT_.out (by kernel_rfl)) (fun _ _ _ h => h) (Or.inl ⟨by rfl, ?_⟩) ?_ ?_
              rotate_left
              ·intro w'
               go_simp
               with_reducible rfl
              rotate_left
              ·simp only [Act.put, List.setIfInBounds_toArray, List.set_cons_zero, List.set_cons_succ, i64_w, i32_w]
               rfl
              refine pure_ (i := 25) (N := some 39) (v := ?_) (a' := ?_) (bz5 40 67108863) rfl rfl (any_of HT_.out (by kernel_rfl)) (fun _ _ _ h => h) (Or.inl ⟨by rfl, ?_⟩) ?_ ?_
              rotate_left
              ·intro w'
               go_simp
               with_reducible rfl
              rotate_left
              ·simp only [Act.put, List.setIfInBounds_toArray, List.set_cons_zero, List.set_cons_succ, i64_w, i32_w]
               rfl
              refine pure_ (i := 26) (N := some 40) (v := ?_) (a' := ?_) (bz5 40 134217727) rfl rfl (any_of HT_.out (by kernel_rfl)) (fun _ _ _ h => h) (Or.inl ⟨by rfl, ?_⟩) ?_ ?_
              rotate_left
              ·intro w'
               go_simp
               with_reducible rfl
              rotate_left
              ·simp only [Act.put, List.setIfInBounds_toArray, List.set_cons_zero, List.set_cons_succ, i64_w, i32_w]
               rfl
              refine pure_ (i := 27) (N := some 41) (v := ?_) (a' := ?_) (bz5 40 268435455) rfl rfl (any_of HT_.out (by kernel_rfl)) (fun _ _ _ h => h) (Or.inl ⟨by rfl, ?_⟩) ?_ ?_
              rotate_left
              ·intro w'
               go_simp
               with_reducible rfl
              rotate_left
              ·simp only [Act.put, List.setIfInBounds_toArray, List.set_cons_zero, List.set_cons_succ, i64_w, i32_w]
               rfl
              refine take_ (i := 28) (N := some 42) (v := ?_) (a' := ?_) (bz5 40 536870911) rfl rfl (take_ofW HT_.out HW_.out (by kernel_rfl)) (fun _ _ _ h => h) (Or.inl ⟨by rfl, ?_⟩) hHeld ?_ ?_
              rotate_left
              ·rintro w' ⟨s0, s1, s2, s3, s4, s5, s6, s7, s8, s9, s10⟩
               go_simp
               with_reducible rfl
              rotate_left
              ·simp only [Act.put, List.setIfInBounds_toArray, List.set_cons_zero, List.set_cons_succ, i64_w, i32_w]
               rfl
              refine one_ (i := 29) (N := some 43) (bz5 40 1073741823) rfl rfl (one_of HT_.out (by kernel_rfl)) (by decide) (fun K hK => ?_)
              refine goes_ Try.func89 (by kernel_rfl) rfl #[.int .i64 ((rd_T96 l0_2 x9_1).f2), .int .i64 0, .int .i64 1000] (by rfl) rfl rfl (by (try simp only [List.map_toArray, List.map_cons, List.map_nil]); first | done | rfl | (simp only [List.length_drop, List.length_take]; rfl)) ?_
              with_reducible refine (impl_inRange.calls ((rd_T96 l0_2 x9_1).f2) 0 1000 false _ A19.out).mono ?_
              rintro e w' ⟨rfl, ⟨nd, rfl⟩⟩
              refine ⟨_, rfl, ?_⟩
              refine hK.out _ _ ⟨(blk_cell HI187.out.1 0).trans rfl, (blk_cell HI187.out.1 1).trans rfl, (blk_cell HI187.out.1 2).trans rfl, (blk_cell HI187.out.1 3).trans rfl, (blk_cell BK183.out 0).trans rfl, (blk_cell BK183.out 1).trans rfl, (blk_cell BK183.out 2).trans rfl, ((HB.out.cell (World.block_lt_of_cell? w _ hw189_0)).trans hw189_0), ((HB.out.cell (World.block_lt_of_cell? w _ hw189_1)).trans hw189_1), ((HB.out.cell (World.block_lt_of_cell? w _ hw189_2)).trans hw189_2), ((HB.out.cell (World.block_lt_of_cell? w _ hw189_3)).trans hw189_3)⟩ (fun hHeld => ?_)
              clear hK K
              refine norm_ (a' := ?_) ?_ ?_
              rotate_left
              ·show Act.put _ (some 43) _ = _
               simp only [Act.put, List.setIfInBounds_toArray, List.set_cons_zero, List.set_cons_succ, i64_w, i32_w]
               rfl
              refine pure_ (i := 30) (N := some 44) (v := ?_) (a' := ?_) (bz5 40 2147483647) rfl rfl (any_of HT_.out (by kernel_rfl)) (fun _ _ _ h => h) (Or.inl ⟨by rfl, ?_⟩) ?_ ?_
              rotate_left
              ·intro w'
               go_simp
               with_reducible rfl
              rotate_left
              ·simp only [Act.put, List.setIfInBounds_toArray, List.set_cons_zero, List.set_cons_succ, i64_w, i32_w]
               rfl
              refine pure_ (i := 31) (N := some 45) (v := ?_) (a' := ?_) (bz5 40 4294967295) rfl rfl (any_of HT_.out (by kernel_rfl)) (fun _ _ _ h => h) (Or.inl ⟨by rfl, ?_⟩) ?_ ?_
              rotate_left
              ·intro w'
               go_simp
               with_reducible rfl
              rotate_left
              ·simp only [Act.put, List.setIfInBounds_toArray, List.set_cons_zero, List.set_cons_succ, i64_w, i32_w]
               rfl
              refine pure_ (i := 32) (N := some 46) (v := ?_) (a' := ?_) (bz5 40 8589934591) rfl rfl (any_of HT_.out (by kernel_rfl)) (fun _ _ _ h => h) (Or.inl ⟨by rfl, ?_⟩) ?_ ?_
              rotate_left
              ·intro w'
               go_simp
               with_reducible rfl
              rotate_left
              ·simp only [Act.put, List.setIfInBounds_toArray, List.set_cons_zero, List.set_cons_succ, i64_w, i32_w]
               rfl
              refine pure_ (i := 33) (N := some 47) (v := undef) (a' := ?_) (bz5 40 17179869183) rfl rfl (any_of HT_.out (by kernel_rfl)) (fun _ _ _ h => h) (Or.inr ⟨by rfl, rfl⟩) ?_ ?_
              rotate_left
              ·simp only [Act.put, List.setIfInBounds_toArray, List.set_cons_zero, List.set_cons_succ, i64_w, i32_w]
               rfl
              refine pure_ (i := 34) (N := some 48) (v := undef) (a' := ?_) (bz5 40 34359738367) rfl rfl (any_of HT_.out (by kernel_rfl)) (fun _ _ _ h => h) (Or.inr ⟨by rfl, rfl⟩) ?_ ?_
              rotate_left
              ·simp only [Act.put, List.setIfInBounds_toArray, List.set_cons_zero, List.set_cons_succ, i64_w, i32_w]
               rfl
              refine pure_ (i := 35) (N := some 49) (v := undef) (a' := ?_) (bz5 40 68719476735) rfl rfl (any_of HT_.out (by kernel_rfl)) (fun _ _ _ h => h) (Or.inr ⟨by rfl, rfl⟩) ?_ ?_
              rotate_left
              ·simp only [Act.put, List.setIfInBounds_toArray, List.set_cons_zero, List.set_cons_succ, i64_w, i32_w]
               rfl
              refine pure_ (i := 36) (N := some 50) (v := undef) (a' := ?_) (bz5 40 137438953471) rfl rfl (any_of HT_.out (by kernel_rfl)) (fun _ _ _ h => h) (Or.inr ⟨by rfl, rfl⟩) ?_ ?_
              rotate_left
              ·simp only [Act.put, List.setIfInBounds_toArray, List.set_cons_zero, List.set_cons_succ, i64_w, i32_w]
               rfl
              refine pure_ (i := 37) (N := some 51) (v := undef) (a' := ?_) (bz5 40 274877906943) rfl rfl (any_of HT_.out (by kernel_rfl)) (fun _ _ _ h => h) (Or.inr ⟨by rfl, rfl⟩) ?_ ?_
              rotate_left
              ·simp only [Act.put, List.setIfInBounds_toArray, List.set_cons_zero, List.set_cons_succ, i64_w, i32_w]
               rfl
              refine pure_ (i := 38) (N := some 52) (v := undef) (a' := ?_) (bz5 40 549755813887) rfl rfl (any_of HT_.out (by kernel_rfl)) (fun _ _ _ h => h) (Or.inr ⟨by rfl, rfl⟩) ?_ ?_
              rotate_left
              ·simp only [Act.put, List.setIfInBounds_toArray, List.set_cons_zero, List.set_cons_succ, i64_w, i32_w]
               rfl
              refine pure_ (i := 39) (N := some 53) (v := ?_) (a' := ?_) (bz5 40 1099511627775) rfl rfl (any_of HT_.out (by kernel_rfl)) (fun _ _ _ h => h) (Or.inl ⟨by rfl, ?_⟩) ?_ ?_
              rotate_left
              ·intro w'
               go_simp
               with_reducible rfl
              rotate_left
              ·simp only [Act.put, List.setIfInBounds_toArray, List.set_cons_zero, List.set_cons_succ, i64_w, i32_w]
               rfl
              refine done_ (done_of HT_.out (by kernel_rfl)) ?_
              try go_wp2
              go_meet
              case rel => exact ⟨_, (true), (by first | rfl | (simp; done) | (simp [*]; done)), H', ⟨by have := HK1.out; first | omega | exact Nat.le_refl _⟩, ⟨by exact BK183.out⟩, ⟨by repeat (first | (with_reducible first | exact HI187.out | apply IsS96.alloc | apply IsS96.drewN | apply IsS96.drew | apply IsS96.set_0 | apply IsS96.set_1 | apply IsS96.set_2 | apply IsS96.set_3 | refine IsS96.far ?_ NB187_183.out _) | exact HI187.out)⟩, ⟨by repeat (first | (with_reducible first | exact HB.out | apply below_alloc | apply pw_below_drewN | apply below_drew1 | refine below_set ?_ (IsS96.ge HI187.out) | refine below_set ?_ GE183.out) | exact HB.out)⟩⟩
            ·replace c18 := Bool.eq_false_iff.mpr c18
             subst c18
             have H1 : (impl_GoodStore.j1 k1 x3_1 x9_1 l0_2 (l0_2.length : Int) x9_1 true a0_0 a0_1 l0_2 ((rd_T96 l0_2 x9_1).f0) ((rd_T96 l0_2 x9_1).f1) ((rd_T96 l0_2 x9_1).f2) ((rd_T96 l0_2 x9_1).f3)) = some r := by rw [if_neg (show ¬ (false = true) by decide)] at H; exact H
             clear H
             have H := H1
             clear H1
             have H' := Aside0.mk H
             clear H
             try go_wp2
             have n0_ : Aside0 (((((w8.setCell ⟨gb187, 0, none⟩ (.string ((rd_T96 l0_2 x9_1).f0))).setCell ⟨gb187, 1, none⟩ (.int .i64 ((rd_T96 l0_2 x9_1).f1))).setCell ⟨gb187, 2, none⟩ (.int .i64 ((rd_T96 l0_2 x9_1).f2))).setCell ⟨gb187, 3, none⟩ (.int .i64 ((rd_T96 l0_2 x9_1).f3))).heap[gb183]? = some (.cells #[.int .i64 a0_0, .int .i64 a0_1, .slice (some ad186) l0_2.length c0_2] 46 (0, 0))) := ⟨by refine blk_far ?_ NB183_187.out _; refine blk_far ?_ NB183_187.out _; refine blk_far ?_ NB183_187.out _; refine blk_far ?_ NB183_187.out _; exact BK183.out⟩
             have n1_ : Aside0 (IsS96 w ((((w8.setCell ⟨gb187, 0, none⟩ (.string ((rd_T96 l0_2 x9_1).f0))).setCell ⟨gb187, 1, none⟩ (.int .i64 ((rd_T96 l0_2 x9_1).f1))).setCell ⟨gb187, 2, none⟩ (.int .i64 ((rd_T96 l0_2 x9_1).f2))).setCell ⟨gb187, 3, none⟩ (.int .i64 ((rd_T96 l0_2 x9_1).f3))) gb187 ((rd_T96 l0_2 x9_1).f0) ((rd_T96 l0_2 x9_1).f1) ((rd_T96 l0_2 x9_1).f2) ((rd_T96 l0_2 x9_1).f3)) := ⟨by repeat (first | (with_reducible first | exact HI187.out | apply IsS96.alloc | apply IsS96.drewN | apply IsS96.drew | apply IsS96.set_0 | apply IsS96.set_1 | apply IsS96.set_2 | apply IsS96.set_3 | refine IsS96.far ?_ NB187_183.out _) | exact HI187.out)⟩
             have n2_ : Aside0 (Below w.heap.size w ((((w8.setCell ⟨gb187, 0, none⟩ (.string ((rd_T96 l0_2 x9_1).f0))).setCell ⟨gb187, 1, none⟩ (.int .i64 ((rd_T96 l0_2 x9_1).f1))).setCell ⟨gb187, 2, none⟩ (.int .i64 ((rd_T96 l0_2 x9_1).f2))).setCell ⟨gb187, 3, none⟩ (.int .i64 ((rd_T96 l0_2 x9_1).f3)))) := ⟨by repeat (first | (with_reducible first | exact HB.out | apply below_alloc | apply pw_below_drewN | apply below_drew1 | refine below_set ?_ (IsS96.ge HI187.out) | refine below_set ?_ GE183.out) | exact HB.out)⟩
             (try clear BK183)
             (try clear HI187)
             (try clear HB)
             generalize ((((w8.setCell ⟨gb187, 0, none⟩ (.string ((rd_T96 l0_2 x9_1).f0))).setCell ⟨gb187, 1, none⟩ (.int .i64 ((rd_T96 l0_2 x9_1).f1))).setCell ⟨gb187, 2, none⟩ (.int .i64 ((rd_T96 l0_2 x9_1).f2))).setCell ⟨gb187, 3, none⟩ (.int .i64 ((rd_T96 l0_2 x9_1).f3))) = w26 at n0_ n1_ n2_ ⊢
             have BK183 := n0_
             have HI187 := n1_
             have HB := n2_
             clear n0_ n1_ n2_
             have n0_ := Aside0.mk (blk_drew BK183.out)
             have n1_ := Aside0.mk (IsS96.drew HI187.out)
             have n2_ := Aside0.mk (below_drew1 HB.out)
             clear BK183
             clear HI187
             clear HB
             have BK183 := n0_
             have HI187 := n1_
             have HB := n2_
             clear n0_ n1_ n2_
             have p189 : 0 ≤ ((ji13) : Int) := of_decide_eq_true (by first | (with_reducible assumption) | assumption)
             have q189 : (ji13) < (l0_2.length : Int) := of_decide_eq_true (by first | (with_reducible assumption) | assumption)
             obtain ⟨ad189, e189, hx189_0, hx189_1, hx189_2, hx189_3⟩ := at_T96 HR0_2.out (ji13) p189 q189
             have hw189_3 := hx189_3
             have hw189_2 := hx189_2
             have hw189_1 := hx189_1
             have hw189_0 := hx189_0
             obtain rfl : ad186 = ad189 := (by injection e189)
             replace hx189_0 := (HB.out.cell (World.block_lt_of_cell? w _ hx189_0)).trans hx189_0
             replace hx189_1 := (HB.out.cell (World.block_lt_of_cell? w _ hx189_1)).trans hx189_1
             replace hx189_2 := (HB.out.cell (World.block_lt_of_cell? w _ hx189_2)).trans hx189_2
             replace hx189_3 := (HB.out.cell (World.block_lt_of_cell? w _ hx189_3)).trans hx189_3
             replace p189 := eq_true p189
             replace q189 := eq_true q189
             refine start_ (n := 40) (S := fun w' => w'.cell? ⟨gb187, 0, none⟩ = some (.string ((rd_T96 l0_2 x9_1).f0)) ∧ w'.cell? ⟨gb187, 1, none⟩ = some (.int .i64 ((rd_T96 l0_2 x9_1).f1)) ∧ w'.cell? ⟨gb187, 2, none⟩ = some (.int .i64 ((rd_T96 l0_2 x9_1).f2)) ∧ w'.cell? ⟨gb187, 3, none⟩ = some (.int .i64 ((rd_T96 l0_2 x9_1).f3)) ∧ w'.cell? ⟨gb183, 0, none⟩ = some (.int .i64 a0_0) ∧ w'.cell? ⟨gb183, 1, none⟩ = some (.int .i64 a0_1) ∧ w'.cell? ⟨gb183, 2, none⟩ = some (.slice (some ad186) l0_2.length c0_2) ∧ w'.cell? (ad186.add (((ji13)).toNat * 4)) = some (.string ((rd_T96 l0_2 (ji13)).f0)) ∧ w'.cell? ⟨(ad186.add (((ji13)).toNat * 4)).block, (ad186.add (((ji13)).toNat * 4)).off + 1, none⟩ = some (.int .i64 ((rd_T96 l0_2 (ji13)).f1)) ∧ w'.cell? ⟨(ad186.add (((ji13)).toNat * 4)).block, (ad186.add (((ji13)).toNat * 4)).off + 2, none⟩ = some (.int .i64 ((rd_T96 l0_2 (ji13)).f2)) ∧ w'.cell? ⟨(ad186.add (((ji13)).toNat * 4)).block, (ad186.add (((ji13)).toNat * 4)).off + 3, none⟩ = some (.int .i64 ((rd_T96 l0_2 (ji13)).f3))) (ds := []) #[false, false, false, false, false, false, false, false, false, false, false, false, false, false, false, false, false, false, false, false, false, false, false, false, false, false, false, false, false, false, false, false, false, false, false, false, false, false, false, false] (by kernel_rfl) rfl rfl ⟨(blk_cell HI187.out.1 0).trans rfl, (blk_cell HI187.out.1 1).trans rfl, (blk_cell HI187.out.1 2).trans rfl, (blk_cell HI187.out.1 3).trans rfl, (blk_cell BK183.out 0).trans rfl, (blk_cell BK183.out 1).trans rfl, (blk_cell BK183.out 2).trans rfl, ((HB.out.cell (World.block_lt_of_cell? w _ hw189_0)).trans hw189_0), ((HB.out.cell (World.block_lt_of_cell? w _ hw189_1)).trans hw189_1), ((HB.out.cell (World.block_lt_of_cell? w _ hw189_2)).trans hw189_2), ((HB.out.cell (World.block_lt_of_cell? w _ hw189_3)).trans hw189_3)⟩ (fun hHeld => ?_); refine with_tabW impl_GoodStore.tab5 impl_GoodStore.bits5 (fun HT_ HW_ => ?_)
             generalize w26.drew = w27 at BK183 HI187 HB hx189_0 hx189_1 hx189_2 hx189_3 hHeld ⊢
             refine pure_ (i := 0) (N := some 14) (v := ?_) (a' := ?_) (bz5 40 1) rfl rfl (any_of HT_.out (by kernel_rfl)) (fun _ _ _ h => h) (Or.inl ⟨by rfl, ?_⟩) ?_ ?_
             rotate_left
             ·intro w'
              go_simp
              with_reducible rfl
             rotate_left
             ·simp only [Act.put, List.setIfInBounds_toArray, List.set_cons_zero, List.set_cons_succ, i64_w, i32_w]
              rfl
             refine take_ (i := 1) (N := some 15) (v := ?_) (a' := ?_) (bz5 40 3) rfl rfl (take_ofW HT_.out HW_.out (by kernel_rfl)) (fun _ _ _ h => h) (Or.inl ⟨by rfl, ?_⟩) hHeld ?_ ?_
             rotate_left
             ·rintro w' ⟨s0, s1, s2, s3, s4, s5, s6, s7, s8, s9, s10⟩
              go_simp
              with_reducible rfl
             rotate_left
             ·simp only [Act.put, List.setIfInBounds_toArray, List.set_cons_zero, List.set_cons_succ, i64_w, i32_w]
              rfl
             refine one_ (i := 2) (N := some 16) (bz5 40 7) rfl rfl (one_of HT_.out (by kernel_rfl)) (by decide) (fun K hK => ?_)
             refine goes_ Try.func99 (by kernel_rfl) rfl #[.string ((rd_T96 l0_2 x9_1).f0)] (by rfl) rfl rfl (by (try simp only [List.map_toArray, List.map_cons, List.map_nil]); first | done | rfl | (simp only [List.length_drop, List.length_take]; rfl)) ?_
             with_reducible refine (impl_GoodName.calls k1 ((rd_T96 l0_2 x9_1).f0) true _ A10.out).mono ?_
             rintro e w' ⟨rfl, ⟨nd, rfl⟩⟩
             refine ⟨_, rfl, ?_⟩
             refine hK.out _ _ ⟨(blk_cell HI187.out.1 0).trans rfl, (blk_cell HI187.out.1 1).trans rfl, (blk_cell HI187.out.1 2).trans rfl, (blk_cell HI187.out.1 3).trans rfl, (blk_cell BK183.out 0).trans rfl, (blk_cell BK183.out 1).trans rfl, (blk_cell BK183.out 2).trans rfl, ((HB.out.cell (World.block_lt_of_cell? w _ hw189_0)).trans hw189_0), ((HB.out.cell (World.block_lt_of_cell? w _ hw189_1)).trans hw189_1), ((HB.out.cell (World.block_lt_of_cell? w _ hw189_2)).trans hw189_2), ((HB.out.cell (World.block_lt_of_cell? w _ hw189_3)).trans hw189_3)⟩ (fun hHeld => ?_)
             clear hK K
             refine norm_ (a' := ?_) ?_ ?_
             rotate_left
             ·show Act.put _ (some 16) _ = _
              simp only [Act.put, List.setIfInBounds_toArray, List.set_cons_zero, List.set_cons_succ, i64_w, i32_w]
              rfl
             refine pure_ (i := 3) (N := some 17) (v := ?_) (a' := ?_) (bz5 40 15) rfl rfl (any_of HT_.out (by kernel_rfl)) (fun _ _ _ h => h) (Or.inl ⟨by rfl, ?_⟩) ?_ ?_
             rotate_left
             ·intro w'
              go_simp
              with_reducible rfl
             rotate_left
             ·simp only [Act.put, List.setIfInBounds_toArray, List.set_cons_zero, List.set_cons_succ, i64_w, i32_w]
              rfl
             refine pure_ (i := 4) (N := some 18) (v := ?_) (a' := ?_) (bz5 40 31) rfl rfl (any_of HT_.out (by kernel_rfl)) (fun _ _ _ h => h) (Or.inl ⟨by rfl, ?_⟩) ?_ ?_
             rotate_left
             ·intro w'
              go_simp
              with_reducible rfl
             rotate_left
             ·simp only [Act.put, List.setIfInBounds_toArray, List.set_cons_zero, List.set_cons_succ, i64_w, i32_w]
              rfl
             refine pure_ (i := 5) (N := some 19) (v := ?_) (a' := ?_) (bz5 40 63) rfl rfl (any_of HT_.out (by kernel_rfl)) (fun _ _ _ h => h) (Or.inl ⟨by rfl, ?_⟩) ?_ ?_
             rotate_left
             ·intro w'
              go_simp
              with_reducible rfl
             rotate_left
             ·simp only [Act.put, List.setIfInBounds_toArray, List.set_cons_zero, List.set_cons_succ, i64_w, i32_w]
              rfl
             refine pure_ (i := 6) (N := some 20) (v := ?_) (a' := ?_) (bz5 40 127) rfl rfl (any_of HT_.out (by kernel_rfl)) (fun _ _ _ h => h) (Or.inl ⟨by rfl, ?_⟩) ?_ ?_
             rotate_left
             ·intro w'
              go_simp
              with_reducible rfl
             rotate_left
             ·simp only [Act.put, List.setIfInBounds_toArray, List.set_cons_zero, List.set_cons_succ, i64_w, i32_w]
              rfl
             refine pure_ (i := 7) (N := some 21) (v := ?_) (a' := ?_) (bz5 40 255) rfl rfl (any_of HT_.out (by kernel_rfl)) (fun _ _ _ h => h) (Or.inl ⟨by rfl, ?_⟩) ?_ ?_
             rotate_left
             ·intro w'
              go_simp
              with_reducible rfl
             rotate_left
             ·simp only [Act.put, List.setIfInBounds_toArray, List.set_cons_zero, List.set_cons_succ, i64_w, i32_w]
              rfl
             refine pure_ (i := 8) (N := some 22) (v := ?_) (a' := ?_) (bz5 40 511) rfl rfl (any_of HT_.out (by kernel_rfl)) (fun _ _ _ h => h) (Or.inl ⟨by rfl, ?_⟩) ?_ ?_
             rotate_left
             ·intro w'
              go_simp
              with_reducible rfl
             rotate_left
             ·simp only [Act.put, List.setIfInBounds_toArray, List.set_cons_zero, List.set_cons_succ, i64_w, i32_w]
              rfl
             refine pure_ (i := 10) (N := some 24) (v := ?_) (a' := ?_) (bz5 40 1535) rfl rfl (any_of HT_.out (by kernel_rfl)) (fun _ _ _ h => h) (Or.inl ⟨by rfl, ?_⟩) ?_ ?_
             rotate_left
             ·intro w'
              go_simp
              with_reducible rfl
             rotate_left
             ·simp only [Act.put, List.setIfInBounds_toArray, List.set_cons_zero, List.set_cons_succ, i64_w, i32_w]
              rfl
             refine pure_ (i := 11) (N := some 25) (v := ?_) (a' := ?_) (bz5 40 3583) rfl rfl (any_of HT_.out (by kernel_rfl)) (fun _ _ _ h => h) (Or.inl ⟨by rfl, ?_⟩) ?_ ?_
             rotate_left
             ·intro w'
              go_simp
              with_reducible rfl
             rotate_left
             ·simp only [Act.put, List.setIfInBounds_toArray, List.set_cons_zero, List.set_cons_succ, i64_w, i32_w]
              rfl
             refine pure_ (i := 15) (N := some 29) (v := ?_) (a' := ?_) (bz5 40 36351) rfl rfl (any_of HT_.out (by kernel_rfl)) (fun _ _ _ h => h) (Or.inl ⟨by rfl, ?_⟩) ?_ ?_
             rotate_left
             ·intro w'
              go_simp
              with_reducible rfl
             rotate_left
             ·simp only [Act.put, List.setIfInBounds_toArray, List.set_cons_zero, List.set_cons_succ, i64_w, i32_w]
              rfl
             refine take_ (i := 9) (N := some 23) (v := ?_) (a' := ?_) (bz5 40 36863) rfl rfl (take_ofW HT_.out HW_.out (by kernel_rfl)) (fun _ _ _ h => h) (Or.inl ⟨by rfl, ?_⟩) hHeld ?_ ?_
             rotate_left
             ·rintro w' ⟨s0, s1, s2, s3, s4, s5, s6, s7, s8, s9, s10⟩
              go_simp
              with_reducible rfl
             rotate_left
             ·simp only [Act.put, List.setIfInBounds_toArray, List.set_cons_zero, List.set_cons_succ, i64_w, i32_w]
              rfl
             refine pure_ (i := 12) (N := some 26) (v := ?_) (a' := ?_) (bz5 40 40959) rfl rfl (any_of HT_.out (by kernel_rfl)) (fun _ _ _ h => h) (Or.inl ⟨by rfl, ?_⟩) ?_ ?_
             rotate_left
             ·intro w'
              go_simp
              with_reducible rfl
             rotate_left
             ·simp only [Act.put, List.setIfInBounds_toArray, List.set_cons_zero, List.set_cons_succ, i64_w, i32_w]
              rfl
             refine pure_ (i := 13) (N := some 27) (v := ?_) (a' := ?_) (bz5 40 49151) rfl rfl (any_of HT_.out (by kernel_rfl)) (fun _ _ _ h => h) (Or.inl ⟨by rfl, ?_⟩) ?_ ?_
             rotate_left
             ·intro w'
              go_simp
              with_reducible rfl
             rotate_left
             ·simp only [Act.put, List.setIfInBounds_toArray, List.set_cons_zero, List.set_cons_succ, i64_w, i32_w]
              rfl
             refine take_ (i := 14) (N := some 28) (v := ?_) (a' := ?_) (bz5 40 65535) rfl rfl (take_ofW HT_.out HW_.out (by kernel_rfl)) (fun _ _ _ h => h) (Or.inl ⟨by rfl, ?_⟩) hHeld ?_ ?_
             rotate_left
             ·rintro w' ⟨s0, s1, s2, s3, s4, s5, s6, s7, s8, s9, s10⟩
              go_simp
              with_reducible rfl
             rotate_left
             ·simp only [Act.put, List.setIfInBounds_toArray, List.set_cons_zero, List.set_cons_succ, i64_w, i32_w]
              rfl
             refine take_ (i := 16) (N := some 30) (v := ?_) (a' := ?_) (bz5 40 131071) rfl rfl (take_ofW HT_.out HW_.out (by kernel_rfl)) (fun _ _ _ h => h) (Or.inl ⟨by rfl, ?_⟩) hHeld ?_ ?_
             rotate_left
             ·rintro w' ⟨s0, s1, s2, s3, s4, s5, s6, s7, s8, s9, s10⟩
              go_simp
              with_reducible rfl
             rotate_left
             ·simp only [Act.put, List.setIfInBounds_toArray, List.set_cons_zero, List.set_cons_succ, i64_w, i32_w]
              rfl
             refine pure_ (i := 17) (N := some 31) (v := ?_) (a' := ?_) (bz5 40 262143) rfl rfl (any_of HT_.out (by kernel_rfl)) (fun _ _ _ h => h) (Or.inl ⟨by rfl, ?_⟩) ?_ ?_
             rotate_left
             ·intro w'
              go_simp
              with_reducible rfl
             rotate_left
             ·simp only [Act.put, List.setIfInBounds_toArray, List.set_cons_zero, List.set_cons_succ, i64_w, i32_w]
              rfl
             refine pure_ (i := 18) (N := some 32) (v := ?_) (a' := ?_) (bz5 40 524287) rfl rfl (any_of HT_.out (by kernel_rfl)) (fun _ _ _ h => h) (Or.inl ⟨by rfl, ?_⟩) ?_ ?_
             rotate_left
             ·intro w'
              go_simp
              with_reducible rfl
             rotate_left
             ·simp only [Act.put, List.setIfInBounds_toArray, List.set_cons_zero, List.set_cons_succ, i64_w, i32_w]
              rfl
             refine pure_ (i := 19) (N := some 33) (v := ?_) (a' := ?_) (bz5 40 1048575) rfl rfl (any_of HT_.out (by kernel_rfl)) (fun _ _ _ h => h) (Or.inl ⟨by rfl, ?_⟩) ?_ ?_
             rotate_left
             ·intro w'
              go_simp
              with_reducible rfl
             rotate_left
             ·simp only [Act.put, List.setIfInBounds_toArray, List.set_cons_zero, List.set_cons_succ, i64_w, i32_w]
              rfl
             refine pure_ (i := 20) (N := some 34) (v := ?_) (a' := ?_) (bz5 40 2097151) rfl rfl (any_of HT_.out (by kernel_rfl)) (fun _ _ _ h => h) (Or.inl ⟨by rfl, ?_⟩) ?_ ?_
             rotate_left
             ·intro w'
              go_simp
              with_reducible rfl
             rotate_left
             ·simp only [Act.put, List.setIfInBounds_toArray, List.set_cons_zero, List.set_cons_succ, i64_w, i32_w]
              rfl
             refine pure_ (i := 21) (N := some 35) (v := ?_) (a' := ?_) (bz5 40 4194303) rfl rfl (any_of HT_.out (by kernel_rfl)) (fun _ _ _ h => h) (Or.inl ⟨by rfl, ?_⟩) ?_ ?_
             rotate_left
             ·intro w'
              go_simp
              with_reducible rfl
             rotate_left
             ·simp only [Act.put, List.setIfInBounds_toArray, List.set_cons_zero, List.set_cons_succ, i64_w, i32_w]
              rfl
             refine take_ (i := 22) (N := some 36) (v := ?_) (a' := ?_) (bz5 40 8388607) rfl rfl (take_ofW HT_.out HW_.out (by kernel_rfl)) (fun _ _ _ h => h) (Or.inl ⟨by rfl, ?_⟩) hHeld ?_ ?_
             rotate_left
             ·rintro w' ⟨s0, s1, s2, s3, s4, s5, s6, s7, s8, s9, s10⟩
              go_simp
              with_reducible rfl
             rotate_left
             ·simp only [Act.put, List.setIfInBounds_toArray, List.set_cons_zero, List.set_cons_succ, i64_w, i32_w]
              rfl
             refine one_ (i := 23) (N := some 37) (bz5 40 16777215) rfl rfl (one_of HT_.out (by kernel_rfl)) (by decide) (fun K hK => ?_)
             refine goes_ Try.func89 (by kernel_rfl) rfl #[.int .i64 ((rd_T96 l0_2 x9_1).f1), .int .i64 1, .int .i64 100000] (by rfl) rfl rfl (by (try simp only [List.map_toArray, List.map_cons, List.map_nil]); first | done | rfl | (simp only [List.length_drop, List.length_take]; rfl)) ?_
             with_reducible refine (impl_inRange.calls ((rd_T96 l0_2 x9_1).f1) 1 100000 false _ A17.out).mono ?_
             rintro e w' ⟨rfl, ⟨nd, rfl⟩⟩
             refine ⟨_, rfl, ?_⟩
             refine hK.out _ _ ⟨(blk_cell HI187.out.1 0).trans rfl, (blk_cell HI187.out.1 1).trans rfl, (blk_cell HI187.out.1 2).trans rfl, (blk_cell HI187.out.1 3).trans rfl, (blk_cell BK183.out 0).trans rfl, (blk_cell BK183.out 1).trans rfl, (blk_cell BK183.out 2).trans rfl, ((HB.out.cell (World.block_lt_of_cell? w _ hw189_0)).trans hw189_0), ((HB.out.cell (World.block_lt_of_cell? w _ hw189_1)).trans hw189_1), ((HB.out.cell (World.block_lt_of_cell? w _ hw189_2)).trans hw189_2), ((HB.out.cell (World.block_lt_of_cell? w _ hw189_3)).trans hw189_3)⟩ (fun hHeld => ?_)
             clear hK K
             refine norm_ (a' := ?_) ?_ ?_
             rotate_left
             ·show Act.put _ (some 37) _ = _
              simp only [Act.put, List.setIfInBounds_toArray, List.set_cons_zero, List.set_cons_succ, i64_w, i32_w]
              rfl
             refine pure_ (i := 24) (N := some 38) (v := ?_) (a' := ?_) (bz5 40 33554431) rfl rfl (any_of HT_.out (by kernel_rfl)) (fun _ _ _ h => h) (Or.inl ⟨by rfl, ?_⟩) ?_ ?_
             rotate_left
             ·intro w'
              go_simp
              with_reducible rfl
             rotate_left
             ·simp only [Act.put, List.setIfInBounds_toArray, List.set_cons_zero, List.set_cons_succ, i64_w, i32_w]
              rfl
             refine pure_ (i := 25) (N := some 39) (v := ?_) (a' := ?_) (bz5 40 67108863) rfl rfl (any_of HT_.out (by kernel_rfl)) (fun _ _ _ h => h) (Or.inl ⟨by rfl, ?_⟩) ?_ ?_
             rotate_left
             ·intro w'
              go_simp
              with_reducible rfl
             rotate_left
             ·simp only [Act.put, List.setIfInBounds_toArray, List.set_cons_zero, List.set_cons_succ, i64_w, i32_w]
              rfl
             refine pure_ (i := 26) (N := some 40) (v := ?_) (a' := ?_) (bz5 40 134217727) rfl rfl (any_of HT_.out (by kernel_rfl)) (fun _ _ _ h => h) (Or.inl ⟨by rfl, ?_⟩) ?_ ?_
             rotate_left
             ·intro w'
              go_simp
              with_reducible rfl
             rotate_left
             ·simp only [Act.put, List.setIfInBounds_toArray, List.set_cons_zero, List.set_cons_succ, i64_w, i32_w]
              rfl
             refine pure_ (i := 27) (N := some 41) (v := undef) (a' := ?_) (bz5 40 268435455) rfl rfl (any_of HT_.out (by kernel_rfl)) (fun _ _ _ h => h) (Or.inr ⟨by rfl, rfl⟩) ?_ ?_
             rotate_left
             ·simp only [Act.put, List.setIfInBounds_toArray, List.set_cons_zero, List.set_cons_succ, i64_w, i32_w]
              rfl
             refine pure_ (i := 28) (N := some 42) (v := undef) (a' := ?_) (bz5 40 536870911) rfl rfl (any_of HT_.out (by kernel_rfl)) (fun _ _ _ h => h) (Or.inr ⟨by rfl, rfl⟩) ?_ ?_
             rotate_left
             ·simp only [Act.put, List.setIfInBounds_toArray, List.set_cons_zero, List.set_cons_succ, i64_w, i32_w]
              rfl
             refine pure_ (i := 29) (N := some 43) (v := undef) (a' := ?_) (bz5 40 1073741823) rfl rfl (any_of HT_.out (by kernel_rfl)) (fun _ _ _ h => h) (Or.inr ⟨by rfl, rfl⟩) ?_ ?_
             rotate_left
             ·simp only [Act.put, List.setIfInBounds_toArray, List.set_cons_zero, List.set_cons_succ, i64_w, i32_w]
              rfl
             refine pure_ (i := 30) (N := some 44) (v := undef) (a' := ?_) (bz5 40 2147483647) rfl rfl (any_of HT_.out (by kernel_rfl)) (fun _ _ _ h => h) (Or.inr ⟨by rfl, rfl⟩) ?_ ?_
             rotate_left
             ·simp only [Act.put, List.setIfInBounds_toArray, List.set_cons_zero, List.set_cons_succ, i64_w, i32_w]
              rfl
             refine pure_ (i := 31) (N := some 45) (v := ?_) (a' := ?_) (bz5 40 4294967295) rfl rfl (any_of HT_.out (by kernel_rfl)) (fun _ _ _ h => h) (Or.inl ⟨by rfl, ?_⟩) ?_ ?_
             rotate_left
             ·intro w'
              go_simp
              with_reducible rfl
             rotate_left
             ·simp only [Act.put, List.setIfInBounds_toArray, List.set_cons_zero, List.set_cons_succ, i64_w, i32_w]
              rfl
             refine pure_ (i := 32) (N := some 46) (v := ?_) (a' := ?_) (bz5 40 8589934591) rfl rfl (any_of HT_.out (by kernel_rfl)) (fun _ _ _ h => h) (Or.inl ⟨by rfl, ?_⟩) ?_ ?_
             rotate_left
             ·intro w'
              go_simp
              with_reducible rfl
             rotate_left
             ·simp only [Act.put, List.setIfInBounds_toArray, List.set_cons_zero, List.set_cons_succ, i64_w, i32_w]
              rfl
             refine pure_ (i := 33) (N := some 47) (v := undef) (a' := ?_) (bz5 40 17179869183) rfl rfl (any_of HT_.out (by kernel_rfl)) (fun _ _ _ h => h) (Or.inr ⟨by rfl, rfl⟩) ?_ ?_
             rotate_left
             ·simp only [Act.put, List.setIfInBounds_toArray, List.set_cons_zero, List.set_cons_succ, i64_w, i32_w]
              rfl
             refine pure_ (i := 34) (N := some 48) (v := undef) (a' := ?_) (bz5 40 34359738367) rfl rfl (any_of HT_.out (by kernel_rfl)) (fun _ _ _ h => h) (Or.inr ⟨by rfl, rfl⟩) ?_ ?_
             rotate_left
             ·simp only [Act.put, List.setIfInBounds_toArray, List.set_cons_zero, List.set_cons_succ, i64_w, i32_w]
              rfl
             refine pure_ (i := 35) (N := some 49) (v := undef) (a' := ?_) (bz5 40 68719476735) rfl rfl (any_of HT_.out (by kernel_rfl)) (fun _ _ _ h => h) (Or.inr ⟨by rfl, rfl⟩) ?_ ?_
             rotate_left
             ·simp only [Act.put, List.setIfInBounds_toArray, List.set_cons_zero, List.set_cons_succ, i64_w, i32_w]
              rfl
             refine pure_ (i := 36) (N := some 50) (v := undef) (a' := ?_) (bz5 40 137438953471) rfl rfl (any_of HT_.out (by kernel_rfl)) (fun _ _ _ h => h) (Or.inr ⟨by rfl, rfl⟩) ?_ ?_
             rotate_left
             ·simp only [Act.put, List.setIfInBounds_toArray, List.set_cons_zero, List.set_cons_succ, i64_w, i32_w]
              rfl
             refine pure_ (i := 37) (N := some 51) (v := undef) (a' := ?_) (bz5 40 274877906943) rfl rfl (any_of HT_.out (by kernel_rfl)) (fun _ _ _ h => h) (Or.inr ⟨by rfl, rfl⟩) ?_ ?_
             rotate_left
             ·simp only [Act.put, List.setIfInBounds_toArray, List.set_cons_zero, List.set_cons_succ, i64_w, i32_w]
              rfl
             refine pure_ (i := 38) (N := some 52) (v := undef) (a' := ?_) (bz5 40 549755813887) rfl rfl (any_of HT_.out (by kernel_rfl)) (fun _ _ _ h => h) (Or.inr ⟨by rfl, rfl⟩) ?_ ?_
             rotate_left
             ·simp only [Act.put, List.setIfInBounds_toArray, List.set_cons_zero, List.set_cons_succ, i64_w, i32_w]
              rfl
             refine pure_ (i := 39) (N := some 53) (v := ?_) (a' := ?_) (bz5 40 1099511627775) rfl rfl (any_of HT_.out (by kernel_rfl)) (fun _ _ _ h => h) (Or.inl ⟨by rfl, ?_⟩) ?_ ?_
             rotate_left
             ·intro w'
              go_simp
              with_reducible rfl
             rotate_left
             ·simp only [Act.put, List.setIfInBounds_toArray, List.set_cons_zero, List.set_cons_succ, i64_w, i32_w]
              rfl
             refine done_ (done_of HT_.out (by kernel_rfl)) ?_
             try go_wp2
             go_meet
             case rel => exact ⟨_, (true), (by first | rfl | (simp; done) | (simp [*]; done)), H', ⟨by have := HK1.out; first | omega | exact Nat.le_refl _⟩, ⟨by exact BK183.out⟩, ⟨by repeat (first | (with_reducible first | exact HI187.out | apply IsS96.alloc | apply IsS96.drewN | apply IsS96.drew | apply IsS96.set_0 | apply IsS96.set_1 | apply IsS96.set_2 | apply IsS96.set_3 | refine IsS96.far ?_ NB187_183.out _) | exact HI187.out)⟩, ⟨by repeat (first | (with_reducible first | exact HB.out | apply below_alloc | apply pw_below_drewN | apply below_drew1 | refine below_set ?_ (IsS96.ge HI187.out) | refine below_set ?_ GE183.out) | exact HB.out)⟩⟩
           ·rw [if_neg c16] at H
            have c16b0 : (Op.bytesLess (((rd_T96 l0_2 (ji13)).f0).toList) (((rd_T96 l0_2 x9_1).f0).toList)) = false := by simpa using c16
            clear c16
            have H' := Aside0.mk H
            clear H
            try go_wp2
            have n0_ : Aside0 (((((w8.setCell ⟨gb187, 0, none⟩ (.string ((rd_T96 l0_2 x9_1).f0))).setCell ⟨gb187, 1, none⟩ (.int .i64 ((rd_T96 l0_2 x9_1).f1))).setCell ⟨gb187, 2, none⟩ (.int .i64 ((rd_T96 l0_2 x9_1).f2))).setCell ⟨gb187, 3, none⟩ (.int .i64 ((rd_T96 l0_2 x9_1).f3))).heap[gb183]? = some (.cells #[.int .i64 a0_0, .int .i64 a0_1, .slice (some ad186) l0_2.length c0_2] 46 (0, 0))) := ⟨by refine blk_far ?_ NB183_187.out _; refine blk_far ?_ NB183_187.out _; refine blk_far ?_ NB183_187.out _; refine blk_far ?_ NB183_187.out _; exact BK183.out⟩
            have n1_ : Aside0 (IsS96 w ((((w8.setCell ⟨gb187, 0, none⟩ (.string ((rd_T96 l0_2 x9_1).f0))).setCell ⟨gb187, 1, none⟩ (.int .i64 ((rd_T96 l0_2 x9_1).f1))).setCell ⟨gb187, 2, none⟩ (.int .i64 ((rd_T96 l0_2 x9_1).f2))).setCell ⟨gb187, 3, none⟩ (.int .i64 ((rd_T96 l0_2 x9_1).f3))) gb187 ((rd_T96 l0_2 x9_1).f0) ((rd_T96 l0_2 x9_1).f1) ((rd_T96 l0_2 x9_1).f2) ((rd_T96 l0_2 x9_1).f3)) := ⟨by repeat (first | (with_reducible first | exact HI187.out | apply IsS96.alloc | apply IsS96.drewN | apply IsS96.drew | apply IsS96.set_0 | apply IsS96.set_1 | apply IsS96.set_2 | apply IsS96.set_3 | refine IsS96.far ?_ NB187_183.out _) | exact HI187.out)⟩
            have n2_ : Aside0 (Below w.heap.size w ((((w8.setCell ⟨gb187, 0, none⟩ (.string ((rd_T96 l0_2 x9_1).f0))).setCell ⟨gb187, 1, none⟩ (.int .i64 ((rd_T96 l0_2 x9_1).f1))).setCell ⟨gb187, 2, none⟩ (.int .i64 ((rd_T96 l0_2 x9_1).f2))).setCell ⟨gb187, 3, none⟩ (.int .i64 ((rd_T96 l0_2 x9_1).f3)))) := ⟨by repeat (first | (with_reducible first | exact HB.out | apply below_alloc | apply pw_below_drewN | apply below_drew1 | refine below_set ?_ (IsS96.ge HI187.out) | refine below_set ?_ GE183.out) | exact HB.out)⟩
            (try clear BK183)
            (try clear HI187)
            (try clear HB)
            generalize ((((w8.setCell ⟨gb187, 0, none⟩ (.string ((rd_T96 l0_2 x9_1).f0))).setCell ⟨gb187, 1, none⟩ (.int .i64 ((rd_T96 l0_2 x9_1).f1))).setCell ⟨gb187, 2, none⟩ (.int .i64 ((rd_T96 l0_2 x9_1).f2))).setCell ⟨gb187, 3, none⟩ (.int .i64 ((rd_T96 l0_2 x9_1).f3))) = w28 at n0_ n1_ n2_ ⊢
            have BK183 := n0_
            have HI187 := n1_
            have HB := n2_
            clear n0_ n1_ n2_
            have n0_ := Aside0.mk (blk_drew BK183.out)
            have n1_ := Aside0.mk (IsS96.drew HI187.out)
            have n2_ := Aside0.mk (below_drew1 HB.out)
            clear BK183
            clear HI187
            clear HB
            have BK183 := n0_
            have HI187 := n1_
            have HB := n2_
            clear n0_ n1_ n2_
            have p189 : 0 ≤ ((ji13) : Int) := of_decide_eq_true (by first | (with_reducible assumption) | assumption)
            have q189 : (ji13) < (l0_2.length : Int) := of_decide_eq_true (by first | (with_reducible assumption) | assumption)
            obtain ⟨ad189, e189, hx189_0, hx189_1, hx189_2, hx189_3⟩ := at_T96 HR0_2.out (ji13) p189 q189
            have hw189_3 := hx189_3
            have hw189_2 := hx189_2
            have hw189_1 := hx189_1
            have hw189_0 := hx189_0
            obtain rfl : ad186 = ad189 := (by injection e189)
            replace hx189_0 := (HB.out.cell (World.block_lt_of_cell? w _ hx189_0)).trans hx189_0
            replace hx189_1 := (HB.out.cell (World.block_lt_of_cell? w _ hx189_1)).trans hx189_1
            replace hx189_2 := (HB.out.cell (World.block_lt_of_cell? w _ hx189_2)).trans hx189_2
            replace hx189_3 := (HB.out.cell (World.block_lt_of_cell? w _ hx189_3)).trans hx189_3
            replace p189 := eq_true p189
            replace q189 := eq_true q189
            refine start_ (n := 40) (S := fun w' => w'.cell? ⟨gb187, 0, none⟩ = some (.string ((rd_T96 l0_2 x9_1).f0)) ∧ w'.cell? ⟨gb187, 1, none⟩ = some (.int .i64 ((rd_T96 l0_2 x9_1).f1)) ∧ w'.cell? ⟨gb187, 2, none⟩ = some (.int .i64 ((rd_T96 l0_2 x9_1).f2)) ∧ w'.cell? ⟨gb187, 3, none⟩ = some (.int .i64 ((rd_T96 l0_2 x9_1).f3)) ∧ w'.cell? ⟨gb183, 0, none⟩ = some (.int .i64 a0_0) ∧ w'.cell? ⟨gb183, 1, none⟩ = some (.int .i64 a0_1) ∧ w'.cell? ⟨gb183, 2, none⟩ = some (.slice (some ad186) l0_2.length c0_2) ∧ w'.cell? (ad186.add (((ji13)).toNat * 4)) = some (.string ((rd_T96 l0_2 (ji13)).f0)) ∧ w'.cell? ⟨(ad186.add (((ji13)).toNat * 4)).block, (ad186.add (((ji13)).toNat * 4)).off + 1, none⟩ = some (.int .i64 ((rd_T96 l0_2 (ji13)).f1)) ∧ w'.cell? ⟨(ad186.add (((ji13)).toNat * 4)).block, (ad186.add (((ji13)).toNat * 4)).off + 2, none⟩ = some (.int .i64 ((rd_T96 l0_2 (ji13)).f2)) ∧ w'.cell? ⟨(ad186.add (((ji13)).toNat * 4)).block, (ad186.add (((ji13)).toNat * 4)).off + 3, none⟩ = some (.int .i64 ((rd_T96 l0_2 (ji13)).f3))) (ds := []) #[false, false, false, false, false, false, false, false, false, false, false, false, false, false, false, false, false, false, false, false, false, false, false, false, false, false, false, false, false, false, false, false, false, false, false, false, false, false, false, false] (by kernel_rfl) rfl rfl ⟨(blk_cell HI187.out.1 0).trans rfl, (blk_cell HI187.out.1 1).trans rfl, (blk_cell HI187.out.1 2).trans rfl, (blk_cell HI187.out.1 3).trans rfl, (blk_cell BK183.out 0).trans rfl, (blk_cell BK183.out 1).trans rfl, (blk_cell BK183.out 2).trans rfl, ((HB.out.cell (World.block_lt_of_cell? w _ hw189_0)).trans hw189_0), ((HB.out.cell (World.block_lt_of_cell? w _ hw189_1)).trans hw189_1), ((HB.out.cell (World.block_lt_of_cell? w _ hw189_2)).trans hw189_2), ((HB.out.cell (World.block_lt_of_cell? w _ hw189_3)).trans hw189_3)⟩ (fun hHeld => ?_); refine with_tabW impl_GoodStore.tab5 impl_GoodStore.bits5 (fun HT_ HW_ => ?_)
            generalize w28.drew = w29 at BK183 HI187 HB hx189_0 hx189_1 hx189_2 hx189_3 hHeld ⊢
            refine pure_ (i := 0) (N := some 14) (v := ?_) (a' := ?_) (bz5 40 1) rfl rfl (any_of HT_.out (by kernel_rfl)) (fun _ _ _ h => h) (Or.inl ⟨by rfl, ?_⟩) ?_ ?_
            rotate_left
            ·intro w'
             go_simp
             with_reducible rfl
            rotate_left
            ·simp only [Act.put, List.setIfInBounds_toArray, List.set_cons_zero, List.set_cons_succ, i64_w, i32_w]
             rfl
            refine take_ (i := 1) (N := some 15) (v := ?_) (a' := ?_) (bz5 40 3) rfl rfl (take_ofW HT_.out HW_.out (by kernel_rfl)) (fun _ _ _ h => h) (Or.inl ⟨by rfl, ?_⟩) hHeld ?_ ?_
            rotate_left
            ·rintro w' ⟨s0, s1, s2, s3, s4, s5, s6, s7, s8, s9, s10⟩
             go_simp
             with_reducible rfl
            rotate_left
            ·simp only [Act.put, List.setIfInBounds_toArray, List.set_cons_zero, List.set_cons_succ, i64_w, i32_w]
             rfl
            refine one_ (i := 2) (N := some 16) (bz5 40 7) rfl rfl (one_of HT_.out (by kernel_rfl)) (by decide) (fun K hK => ?_)
            refine goes_ Try.func99 (by kernel_rfl) rfl #[.string ((rd_T96 l0_2 x9_1).f0)] (by rfl) rfl rfl (by (try simp only [List.map_toArray, List.map_cons, List.map_nil]); first | done | rfl | (simp only [List.length_drop, List.length_take]; rfl)) ?_
            with_reducible refine (impl_GoodName.calls k1 ((rd_T96 l0_2 x9_1).f0) true _ A10.out).mono ?_
            rintro e w' ⟨rfl, ⟨nd, rfl⟩⟩
            refine ⟨_, rfl, ?_⟩
            refine hK.out _ _ ⟨(blk_cell HI187.out.1 0).trans rfl, (blk_cell HI187.out.1 1).trans rfl, (blk_cell HI187.out.1 2).trans rfl, (blk_cell HI187.out.1 3).trans rfl, (blk_cell BK183.out 0).trans rfl, (blk_cell BK183.out 1).trans rfl, (blk_cell BK183.out 2).trans rfl, ((HB.out.cell (World.block_lt_of_cell? w _ hw189_0)).trans hw189_0), ((HB.out.cell (World.block_lt_of_cell? w _ hw189_1)).trans hw189_1), ((HB.out.cell (World.block_lt_of_cell? w _ hw189_2)).trans hw189_2), ((HB.out.cell (World.block_lt_of_cell? w _ hw189_3)).trans hw189_3)⟩ (fun hHeld => ?_)
            clear hK K
            refine norm_ (a' := ?_) ?_ ?_
            rotate_left
            ·show Act.put _ (some 16) _ = _
             simp only [Act.put, List.setIfInBounds_toArray, List.set_cons_zero, List.set_cons_succ, i64_w, i32_w]
             rfl
            refine pure_ (i := 3) (N := some 17) (v := ?_) (a' := ?_) (bz5 40 15) rfl rfl (any_of HT_.out (by kernel_rfl)) (fun _ _ _ h => h) (Or.inl ⟨by rfl, ?_⟩) ?_ ?_
            rotate_left
            ·intro w'
             go_simp
             with_reducible rfl
            rotate_left
            ·simp only [Act.put, List.setIfInBounds_toArray, List.set_cons_zero, List.set_cons_succ, i64_w, i32_w]
             rfl
            refine pure_ (i := 4) (N := some 18) (v := ?_) (a' := ?_) (bz5 40 31) rfl rfl (any_of HT_.out (by kernel_rfl)) (fun _ _ _ h => h) (Or.inl ⟨by rfl, ?_⟩) ?_ ?_
            rotate_left
            ·intro w'
             go_simp
             with_reducible rfl
            rotate_left
            ·simp only [Act.put, List.setIfInBounds_toArray, List.set_cons_zero, List.set_cons_succ, i64_w, i32_w]
             rfl
            refine pure_ (i := 5) (N := some 19) (v := ?_) (a' := ?_) (bz5 40 63) rfl rfl (any_of HT_.out (by kernel_rfl)) (fun _ _ _ h => h) (Or.inl ⟨by rfl, ?_⟩) ?_ ?_
            rotate_left
            ·intro w'
             go_simp
             with_reducible rfl
            rotate_left
            ·simp only [Act.put, List.setIfInBounds_toArray, List.set_cons_zero, List.set_cons_succ, i64_w, i32_w]
             rfl
            refine pure_ (i := 6) (N := some 20) (v := ?_) (a' := ?_) (bz5 40 127) rfl rfl (any_of HT_.out (by kernel_rfl)) (fun _ _ _ h => h) (Or.inl ⟨by rfl, ?_⟩) ?_ ?_
            rotate_left
            ·intro w'
             go_simp
             with_reducible rfl
            rotate_left
            ·simp only [Act.put, List.setIfInBounds_toArray, List.set_cons_zero, List.set_cons_succ, i64_w, i32_w]
             rfl
            refine pure_ (i := 7) (N := some 21) (v := ?_) (a' := ?_) (bz5 40 255) rfl rfl (any_of HT_.out (by kernel_rfl)) (fun _ _ _ h => h) (Or.inl ⟨by rfl, ?_⟩) ?_ ?_
            rotate_left
            ·intro w'
             go_simp
             with_reducible rfl
            rotate_left
            ·simp only [Act.put, List.setIfInBounds_toArray, List.set_cons_zero, List.set_cons_succ, i64_w, i32_w]
             rfl
            refine pure_ (i := 8) (N := some 22) (v := ?_) (a' := ?_) (bz5 40 511) rfl rfl (any_of HT_.out (by kernel_rfl)) (fun _ _ _ h => h) (Or.inl ⟨by rfl, ?_⟩) ?_ ?_
            rotate_left
            ·intro w'
             go_simp
             with_reducible rfl
            rotate_left
            ·simp only [Act.put, List.setIfInBounds_toArray, List.set_cons_zero, List.set_cons_succ, i64_w, i32_w]
             rfl
            refine pure_ (i := 10) (N := some 24) (v := ?_) (a' := ?_) (bz5 40 1535) rfl rfl (any_of HT_.out (by kernel_rfl)) (fun _ _ _ h => h) (Or.inl ⟨by rfl, ?_⟩) ?_ ?_
            rotate_left
            ·intro w'
             go_simp
             with_reducible rfl
            rotate_left
            ·simp only [Act.put, List.setIfInBounds_toArray, List.set_cons_zero, List.set_cons_succ, i64_w, i32_w]
             rfl
            refine pure_ (i := 11) (N := some 25) (v := ?_) (a' := ?_) (bz5 40 3583) rfl rfl (any_of HT_.out (by kernel_rfl)) (fun _ _ _ h => h) (Or.inl ⟨by rfl, ?_⟩) ?_ ?_
            rotate_left
            ·intro w'
             go_simp
             with_reducible rfl
            rotate_left
            ·simp only [Act.put, List.setIfInBounds_toArray, List.set_cons_zero, List.set_cons_succ, i64_w, i32_w]
             rfl
            refine pure_ (i := 15) (N := some 29) (v := ?_) (a' := ?_) (bz5 40 36351) rfl rfl (any_of HT_.out (by kernel_rfl)) (fun _ _ _ h => h) (Or.inl ⟨by rfl, ?_⟩) ?_ ?_
            rotate_left
            ·intro w'
             go_simp
             with_reducible rfl
            rotate_left
            ·simp only [Act.put, List.setIfInBounds_toArray, List.set_cons_zero, List.set_cons_succ, i64_w, i32_w]
             rfl
            refine take_ (i := 9) (N := some 23) (v := ?_) (a' := ?_) (bz5 40 36863) rfl rfl (take_ofW HT_.out HW_.out (by kernel_rfl)) (fun _ _ _ h => h) (Or.inl ⟨by rfl, ?_⟩) hHeld ?_ ?_
            rotate_left
            ·rintro w' ⟨s0, s1, s2, s3, s4, s5, s6, s7, s8, s9, s10⟩
             go_simp
             with_reducible rfl
            rotate_left
            ·simp only [Act.put, List.setIfInBounds_toArray, List.set_cons_zero, List.set_cons_succ, i64_w, i32_w]
             rfl
            refine pure_ (i := 12) (N := some 26) (v := ?_) (a' := ?_) (bz5 40 40959) rfl rfl (any_of HT_.out (by kernel_rfl)) (fun _ _ _ h => h) (Or.inl ⟨by rfl, ?_⟩) ?_ ?_
            rotate_left
            ·intro w'
             go_simp
             with_reducible rfl
            rotate_left
            ·simp only [Act.put, List.setIfInBounds_toArray, List.set_cons_zero, List.set_cons_succ, i64_w, i32_w]
             rfl
            refine pure_ (i := 13) (N := some 27) (v := ?_) (a' := ?_) (bz5 40 49151) rfl rfl (any_of HT_.out (by kernel_rfl)) (fun _ _ _ h => h) (Or.inl ⟨by rfl, ?_⟩) ?_ ?_
            rotate_left
            ·intro w'
             go_simp
             with_reducible rfl
            rotate_left
            ·simp only [Act.put, List.setIfInBounds_toArray, List.set_cons_zero, List.set_cons_succ, i64_w, i32_w]
             rfl
            refine take_ (i := 14) (N := some 28) (v := ?_) (a' := ?_) (bz5 40 65535) rfl rfl (take_ofW HT_.out HW_.out (by kernel_rfl)) (fun _ _ _ h => h) (Or.inl ⟨by rfl, ?_⟩) hHeld ?_ ?_
            rotate_left
            ·rintro w' ⟨s0, s1, s2, s3, s4, s5, s6, s7, s8, s9, s10⟩
             go_simp
             with_reducible rfl
            rotate_left
            ·simp only [Act.put, List.setIfInBounds_toArray, List.set_cons_zero, List.set_cons_succ, i64_w, i32_w]
             rfl
            refine take_ (i := 16) (N := some 30) (v := ?_) (a' := ?_) (bz5 40 131071) rfl rfl (take_ofW HT_.out HW_.out (by kernel_rfl)) (fun _ _ _ h => h) (Or.inl ⟨by rfl, ?_⟩) hHeld ?_ ?_
            rotate_left
            ·rintro w' ⟨s0, s1, s2, s3, s4, s5, s6, s7, s8, s9, s10⟩
             go_simp
             with_reducible rfl
            rotate_left
            ·simp only [Act.put, List.setIfInBounds_toArray, List.set_cons_zero, List.set_cons_succ, i64_w, i32_w]
             rfl
            refine pure_ (i := 17) (N := some 31) (v := ?_) (a' := ?_) (bz5 40 262143) rfl rfl (any_of HT_.out (by kernel_rfl)) (fun _ _ _ h => h) (Or.inl ⟨by rfl, ?_⟩) ?_ ?_
            rotate_left
            ·intro w'
             go_simp
             with_reducible rfl
            rotate_left
            ·simp only [Act.put, List.setIfInBounds_toArray, List.set_cons_zero, List.set_cons_succ, i64_w, i32_w]
             rfl
            refine pure_ (i := 18) (N := some 32) (v := ?_) (a' := ?_) (bz5 40 524287) rfl rfl (any_of HT_.out (by kernel_rfl)) (fun _ _ _ h => h) (Or.inl ⟨by rfl, ?_⟩) ?_ ?_
            rotate_left
            ·intro w'
             go_simp
             with_reducible rfl
            rotate_left
            ·simp only [Act.put, List.setIfInBounds_toArray, List.set_cons_zero, List.set_cons_succ, i64_w, i32_w]
             rfl
            refine pure_ (i := 19) (N := some 33) (v := ?_) (a' := ?_) (bz5 40 1048575) rfl rfl (any_of HT_.out (by kernel_rfl)) (fun _ _ _ h => h) (Or.inl ⟨by rfl, ?_⟩) ?_ ?_
            rotate_left
            ·intro w'
             go_simp
             with_reducible rfl
            rotate_left
            ·simp only [Act.put, List.setIfInBounds_toArray, List.set_cons_zero, List.set_cons_succ, i64_w, i32_w]
             rfl
            refine pure_ (i := 20) (N := some 34) (v := ?_) (a' := ?_) (bz5 40 2097151) rfl rfl (any_of HT_.out (by kernel_rfl)) (fun _ _ _ h => h) (Or.inl ⟨by rfl, ?_⟩) ?_ ?_
            rotate_left
            ·intro w'
             go_simp
             with_reducible rfl
            rotate_left
            ·simp only [Act.put, List.setIfInBounds_toArray, List.set_cons_zero, List.set_cons_succ, i64_w, i32_w]
             rfl
            refine pure_ (i := 21) (N := some 35) (v := undef) (a' := ?_) (bz5 40 4194303) rfl rfl (any_of HT_.out (by kernel_rfl)) (fun _ _ _ h => h) (Or.inr ⟨by rfl, rfl⟩) ?_ ?_
            rotate_left
            ·simp only [Act.put, List.setIfInBounds_toArray, List.set_cons_zero, List.set_cons_succ, i64_w, i32_w]
             rfl
            refine pure_ (i := 22) (N := some 36) (v := undef) (a' := ?_) (bz5 40 8388607) rfl rfl (any_of HT_.out (by kernel_rfl)) (fun _ _ _ h => h) (Or.inr ⟨by rfl, rfl⟩) ?_ ?_
            rotate_left
            ·simp only [Act.put, List.setIfInBounds_toArray, List.set_cons_zero, List.set_cons_succ, i64_w, i32_w]
             rfl
            refine pure_ (i := 23) (N := some 37) (v := undef) (a' := ?_) (bz5 40 16777215) rfl rfl (any_of HT_.out (by kernel_rfl)) (fun _ _ _ h => h) (Or.inr ⟨by rfl, rfl⟩) ?_ ?_
            rotate_left
            ·simp only [Act.put, List.setIfInBounds_toArray, List.set_cons_zero, List.set_cons_succ, i64_w, i32_w]
             rfl
            refine pure_ (i := 24) (N := some 38) (v := undef) (a' := ?_) (bz5 40 33554431) rfl rfl (any_of HT_.out (by kernel_rfl)) (fun _ _ _ h => h) (Or.inr ⟨by rfl, rfl⟩) ?_ ?_
            rotate_left
            ·simp only [Act.put, List.setIfInBounds_toArray, List.set_cons_zero, List.set_cons_succ, i64_w, i32_w]
             rfl
            refine pure_ (i := 25) (N := some 39) (v := ?_) (a' := ?_) (bz5 40 67108863) rfl rfl (any_of HT_.out (by kernel_rfl)) (fun _ _ _ h => h) (Or.inl ⟨by rfl, ?_⟩) ?_ ?_
            rotate_left
            ·intro w'
             go_simp
             with_reducible rfl
            rotate_left
            ·simp only [Act.put, List.setIfInBounds_toArray, List.set_cons_zero, List.set_cons_succ, i64_w, i32_w]
             rfl
            refine pure_ (i := 26) (N := some 40) (v := ?_) (a' := ?_) (bz5 40 134217727) rfl rfl (any_of HT_.out (by kernel_rfl)) (fun _ _ _ h => h) (Or.inl ⟨by rfl, ?_⟩) ?_ ?_
            rotate_left
            ·intro w'
             go_simp
             with_reducible rfl
            rotate_left
            ·simp only [Act.put, List.setIfInBounds_toArray, List.set_cons_zero, List.set_cons_succ, i64_w, i32_w]
             rfl
            refine pure_ (i := 27) (N := some 41) (v := undef) (a' := ?_) (bz5 40 268435455) rfl rfl (any_of HT_.out (by kernel_rfl)) (fun _ _ _ h => h) (Or.inr ⟨by rfl, rfl⟩) ?_ ?_
            rotate_left
            ·simp only [Act.put, List.setIfInBounds_toArray, List.set_cons_zero, List.set_cons_succ, i64_w, i32_w]
             rfl
            refine pure_ (i := 28) (N := some 42) (v := undef) (a' := ?_) (bz5 40 536870911) rfl rfl (any_of HT_.out (by kernel_rfl)) (fun _ _ _ h => h) (Or.inr ⟨by rfl, rfl⟩) ?_ ?_
            rotate_left
            ·simp only [Act.put, List.setIfInBounds_toArray, List.set_cons_zero, List.set_cons_succ, i64_w, i32_w]
             rfl
            refine pure_ (i := 29) (N := some 43) (v := undef) (a' := ?_) (bz5 40 1073741823) rfl rfl (any_of HT_.out (by kernel_rfl)) (fun _ _ _ h => h) (Or.inr ⟨by rfl, rfl⟩) ?_ ?_
            rotate_left
            ·simp only [Act.put, List.setIfInBounds_toArray, List.set_cons_zero, List.set_cons_succ, i64_w, i32_w]
             rfl
            refine pure_ (i := 30) (N := some 44) (v := undef) (a' := ?_) (bz5 40 2147483647) rfl rfl (any_of HT_.out (by kernel_rfl)) (fun _ _ _ h => h) (Or.inr ⟨by rfl, rfl⟩) ?_ ?_
            rotate_left
            ·simp only [Act.put, List.setIfInBounds_toArray, List.set_cons_zero, List.set_cons_succ, i64_w, i32_w]
             rfl
            refine pure_ (i := 31) (N := some 45) (v := ?_) (a' := ?_) (bz5 40 4294967295) rfl rfl (any_of HT_.out (by kernel_rfl)) (fun _ _ _ h => h) (Or.inl ⟨by rfl, ?_⟩) ?_ ?_
            rotate_left
            ·intro w'
             go_simp
             with_reducible rfl
            rotate_left
            ·simp only [Act.put, List.setIfInBounds_toArray, List.set_cons_zero, List.set_cons_succ, i64_w, i32_w]
             rfl
            refine pure_ (i := 32) (N := some 46) (v := ?_) (a' := ?_) (bz5 40 8589934591) rfl rfl (any_of HT_.out (by kernel_rfl)) (fun _ _ _ h => h) (Or.inl ⟨by rfl, ?_⟩) ?_ ?_
            rotate_left
            ·intro w'
             go_simp
             with_reducible rfl
            rotate_left
            ·simp only [Act.put, List.setIfInBounds_toArray, List.set_cons_zero, List.set_cons_succ, i64_w, i32_w]
             rfl
            refine pure_ (i := 33) (N := some 47) (v := undef) (a' := ?_) (bz5 40 17179869183) rfl rfl (any_of HT_.out (by kernel_rfl)) (fun _ _ _ h => h) (Or.inr ⟨by rfl, rfl⟩) ?_ ?_
            rotate_left
            ·simp only [Act.put, List.setIfInBounds_toArray, List.set_cons_zero, List.set_cons_succ, i64_w, i32_w]
             rfl
            refine pure_ (i := 34) (N := some 48) (v := undef) (a' := ?_) (bz5 40 34359738367) rfl rfl (any_of HT_.out (by kernel_rfl)) (fun _ _ _ h => h) (Or.inr ⟨by rfl, rfl⟩) ?_ ?_
            rotate_left
            ·simp only [Act.put, List.setIfInBounds_toArray, List.set_cons_zero, List.set_cons_succ, i64_w, i32_w]
             rfl
            refine pure_ (i := 35) (N := some 49) (v := undef) (a' := ?_) (bz5 40 68719476735) rfl rfl (any_of HT_.out (by kernel_rfl)) (fun _ _ _ h => h) (Or.inr ⟨by rfl, rfl⟩) ?_ ?_
            rotate_left
            ·simp only [Act.put, List.setIfInBounds_toArray, List.set_cons_zero, List.set_cons_succ, i64_w, i32_w]
             rfl
            refine pure_ (i := 36) (N := some 50) (v := undef) (a' := ?_) (bz5 40 137438953471) rfl rfl (any_of HT_.out (by kernel_rfl)) (fun _ _ _ h => h) (Or.inr ⟨by rfl, rfl⟩) ?_ ?_
            rotate_left
            ·simp only [Act.put, List.setIfInBounds_toArray, List.set_cons_zero, List.set_cons_succ, i64_w, i32_w]
             rfl
            refine pure_ (i := 37) (N := some 51) (v := undef) (a' := ?_) (bz5 40 274877906943) rfl rfl (any_of HT_.out (by kernel_rfl)) (fun _ _ _ h => h) (Or.inr ⟨by rfl, rfl⟩) ?_ ?_
            rotate_left
            ·simp only [Act.put, List.setIfInBounds_toArray, List.set_cons_zero, List.set_cons_succ, i64_w, i32_w]
             rfl
            refine pure_ (i := 38) (N := some 52) (v := undef) (a' := ?_) (bz5 40 549755813887) rfl rfl (any_of HT_.out (by kernel_rfl)) (fun _ _ _ h => h) (Or.inr ⟨by rfl, rfl⟩) ?_ ?_
            rotate_left
            ·simp only [Act.put, List.setIfInBounds_toArray, List.set_cons_zero, List.set_cons_succ, i64_w, i32_w]
             rfl
            refine pure_ (i := 39) (N := some 53) (v := ?_) (a' := ?_) (bz5 40 1099511627775) rfl rfl (any_of HT_.out (by kernel_rfl)) (fun _ _ _ h => h) (Or.inl ⟨by rfl, ?_⟩) ?_ ?_
            rotate_left
            ·intro w'
             go_simp
             with_reducible rfl
            rotate_left
            ·simp only [Act.put, List.setIfInBounds_toArray, List.set_cons_zero, List.set_cons_succ, i64_w, i32_w]
             rfl
            refine done_ (done_of HT_.out (by kernel_rfl)) ?_
            try go_wp2
            go_meet
            case rel => exact ⟨_, (true), (by first | rfl | (simp; done) | (simp [*]; done)), H', ⟨by have := HK1.out; first | omega | exact Nat.le_refl _⟩, ⟨by exact BK183.out⟩, ⟨by repeat (first | (with_reducible first | exact HI187.out | apply IsS96.alloc | apply IsS96.drewN | apply IsS96.drew | apply IsS96.set_0 | apply IsS96.set_1 | apply IsS96.set_2 | apply IsS96.set_3 | refine IsS96.far ?_ NB187_183.out _) | exact HI187.out)⟩, ⟨by repeat (first | (with_reducible first | exact HB.out | apply below_alloc | apply pw_below_drewN | apply below_drew1 | refine below_set ?_ (IsS96.ge HI187.out) | refine below_set ?_ GE183.out) | exact HB.out)⟩⟩
          ·rw [if_neg c15] at H
           exact absurd H (by simp)
         ·rw [if_neg c14] at H
          exact absurd H (by simp)
        ·rw [if_neg c12] at H
         have c12b0 : decide (0 < x9_1) = false := decide_eq_false c12
         clear c12
         (first | rw [c12b0] | (simp only [i64_w, i32_w]; rw [c12b0]) | rw [c12b3] | skip)
         replace H := Option.bind_eq_some_iff.mp H
         obtain ⟨t193, A300, H⟩ := H
         replace H : (if t193 = true then ((impl_inRange.f ((rd_T96 l0_2 x9_1).f2) 0 1000).bind fun t194 => (if t194 = true then ((impl_inRange.f ((rd_T96 l0_2 x9_1).f3) 0 a0_1).bind fun t195 => (impl_GoodStore.j1 k1 x3_1 x9_1 l0_2 (l0_2.length : Int) x9_1 (!t195) a0_0 a0_1 l0_2 ((rd_T96 l0_2 x9_1).f0) ((rd_T96 l0_2 x9_1).f1) ((rd_T96 l0_2 x9_1).f2) ((rd_T96 l0_2 x9_1).f3))) else (impl_GoodStore.j1 k1 x3_1 x9_1 l0_2 (l0_2.length : Int) x9_1 true a0_0 a0_1 l0_2 ((rd_T96 l0_2 x9_1).f0) ((rd_T96 l0_2 x9_1).f1) ((rd_T96 l0_2 x9_1).f2) ((rd_T96 l0_2 x9_1).f3)))) else (impl_GoodStore.j1 k1 x3_1 x9_1 l0_2 (l0_2.length : Int) x9_1 true a0_0 a0_1 l0_2 ((rd_T96 l0_2 x9_1).f0) ((rd_T96 l0_2 x9_1).f1) ((rd_T96 l0_2 x9_1).f2) ((rd_T96 l0_2 x9_1).f3))) = some r := H
         have A30 := Aside0.mk A300
         clear A300
         by_cases c31 : t193 = true
         ·subst c31
          have H1 : ((impl_inRange.f ((rd_T96 l0_2 x9_1).f2) 0 1000).bind fun t194 => (if t194 = true then ((impl_inRange.f ((rd_T96 l0_2 x9_1).f3) 0 a0_1).bind fun t195 => (impl_GoodStore.j1 k1 x3_1 x9_1 l0_2 (l0_2.length : Int) x9_1 (!t195) a0_0 a0_1 l0_2 ((rd_T96 l0_2 x9_1).f0) ((rd_T96 l0_2 x9_1).f1) ((rd_T96 l0_2 x9_1).f2) ((rd_T96 l0_2 x9_1).f3))) else (impl_GoodStore.j1 k1 x3_1 x9_1 l0_2 (l0_2.length : Int) x9_1 true a0_0 a0_1 l0_2 ((rd_T96 l0_2 x9_1).f0) ((rd_T96 l0_2 x9_1).f1) ((rd_T96 l0_2 x9_1).f2) ((rd_T96 l0_2 x9_1).f3)))) = some r := by rw [if_pos rfl] at H; exact H
          clear H
          have H := H1
          clear H1
          replace H := Option.bind_eq_some_iff.mp H
          obtain ⟨t194, A320, H⟩ := H
          replace H : (if t194 = true then ((impl_inRange.f ((rd_T96 l0_2 x9_1).f3) 0 a0_1).bind fun t195 => (impl_GoodStore.j1 k1 x3_1 x9_1 l0_2 (l0_2.length : Int) x9_1 (!t195) a0_0 a0_1 l0_2 ((rd_T96 l0_2 x9_1).f0) ((rd_T96 l0_2 x9_1).f1) ((rd_T96 l0_2 x9_1).f2) ((rd_T96 l0_2 x9_1).f3))) else (impl_GoodStore.j1 k1 x3_1 x9_1 l0_2 (l0_2.length : Int) x9_1 true a0_0 a0_1 l0_2 ((rd_T96 l0_2 x9_1).f0) ((rd_T96 l0_2 x9_1).f1) ((rd_T96 l0_2 x9_1).f2) ((rd_T96 l0_2 x9_1).f3))) = some r := H
          have A32 := Aside0.mk A320
          clear A320
          by_cases c33 : t194 = true
          ·subst c33
           have H1 : ((impl_inRange.f ((rd_T96 l0_2 x9_1).f3) 0 a0_1).bind fun t195 => (impl_GoodStore.j1 k1 x3_1 x9_1 l0_2 (l0_2.length : Int) x9_1 (!t195) a0_0 a0_1 l0_2 ((rd_T96 l0_2 x9_1).f0) ((rd_T96 l0_2 x9_1).f1) ((rd_T96 l0_2 x9_1).f2) ((rd_T96 l0_2 x9_1).f3))) = some r := by rw [if_pos rfl] at H; exact H
           clear H
           have H := H1
           clear H1
           replace H := Option.bind_eq_some_iff.mp H
           obtain ⟨t195, A340, H⟩ := H
           replace H : (impl_GoodStore.j1 k1 x3_1 x9_1 l0_2 (l0_2.length : Int) x9_1 (!t195) a0_0 a0_1 l0_2 ((rd_T96 l0_2 x9_1).f0) ((rd_T96 l0_2 x9_1).f1) ((rd_T96 l0_2 x9_1).f2) ((rd_T96 l0_2 x9_1).f3)) = some r := H
           have A34 := Aside0.mk A340
           clear A340
           have H' := Aside0.mk H
           clear H
           try go_wp2
           have n0_ : Aside0 (((((w8.setCell ⟨gb187, 0, none⟩ (.string ((rd_T96 l0_2 x9_1).f0))).setCell ⟨gb187, 1, none⟩ (.int .i64 ((rd_T96 l0_2 x9_1).f1))).setCell ⟨gb187, 2, none⟩ (.int .i64 ((rd_T96 l0_2 x9_1).f2))).setCell ⟨gb187, 3, none⟩ (.int .i64 ((rd_T96 l0_2 x9_1).f3))).heap[gb183]? = some (.cells #[.int .i64 a0_0, .int .i64 a0_1, .slice (some ad186) l0_2.length c0_2] 46 (0, 0))) := ⟨by refine blk_far ?_ NB183_187.out _; refine blk_far ?_ NB183_187.out _; refine blk_far ?_ NB183_187.out _; refine blk_far ?_ NB183_187.out _; exact BK183.out⟩
           have n1_ : Aside0 (IsS96 w ((((w8.setCell ⟨gb187, 0, none⟩ (.string ((rd_T96 l0_2 x9_1).f0))).setCell ⟨gb187, 1, none⟩ (.int .i64 ((rd_T96 l0_2 x9_1).f1))).setCell ⟨gb187, 2, none⟩ (.int .i64 ((rd_T96 l0_2 x9_1).f2))).setCell ⟨gb187, 3, none⟩ (.int .i64 ((rd_T96 l0_2 x9_1).f3))) gb187 ((rd_T96 l0_2 x9_1).f0) ((rd_T96 l0_2 x9_1).f1) ((rd_T96 l0_2 x9_1).f2) ((rd_T96 l0_2 x9_1).f3)) := ⟨by repeat (first | (with_reducible first | exact HI187.out | apply IsS96.alloc | apply IsS96.drewN | apply IsS96.drew | apply IsS96.set_0 | apply IsS96.set_1 | apply IsS96.set_2 | apply IsS96.set_3 | refine IsS96.far ?_ NB187_183.out _) | exact HI187.out)⟩
           have n2_ : Aside0 (Below w.heap.size w ((((w8.setCell ⟨gb187, 0, none⟩ (.string ((rd_T96 l0_2 x9_1).f0))).setCell ⟨gb187, 1, none⟩ (.int .i64 ((rd_T96 l0_2 x9_1).f1))).setCell ⟨gb187, 2, none⟩ (.int .i64 ((rd_T96 l0_2 x9_1).f2))).setCell ⟨gb187, 3, none⟩ (.int .i64 ((rd_T96 l0_2 x9_1).f3)))) := ⟨by repeat (first | (with_reducible first | exact HB.out | apply below_alloc | apply pw_below_drewN | apply below_drew1 | refine below_set ?_ (IsS96.ge HI187.out) | refine below_set ?_ GE183.out) | exact HB.out)⟩
           (try clear BK183)
           (try clear HI187)
           (try clear HB)
           generalize ((((w8.setCell ⟨gb187, 0, none⟩ (.string ((rd_T96 l0_2 x9_1).f0))).setCell ⟨gb187, 1, none⟩ (.int .i64 ((rd_T96 l0_2 x9_1).f1))).setCell ⟨gb187, 2, none⟩ (.int .i64 ((rd_T96 l0_2 x9_1).f2))).setCell ⟨gb187, 3, none⟩ (.int .i64 ((rd_T96 l0_2 x9_1).f3))) = w35 at n0_ n1_ n2_ ⊢
           have BK183 := n0_
           have HI187 := n1_
           have HB := n2_
           clear n0_ n1_ n2_
           have n0_ := Aside0.mk (blk_drew BK183.out)
           have n1_ := Aside0.mk (IsS96.drew HI187.out)
           have n2_ := Aside0.mk (below_drew1 HB.out)
           clear BK183
           clear HI187
           clear HB
           have BK183 := n0_
           have HI187 := n1_
           have HB := n2_
           clear n0_ n1_ n2_
           refine start_ (n := 40) (S := fun w' => w'.cell? ⟨gb187, 0, none⟩ = some (.string ((rd_T96 l0_2 x9_1).f0)) ∧ w'.cell? ⟨gb187, 1, none⟩ = some (.int .i64 ((rd_T96 l0_2 x9_1).f1)) ∧ w'.cell? ⟨gb187, 2, none⟩ = some (.int .i64 ((rd_T96 l0_2 x9_1).f2)) ∧ w'.cell? ⟨gb187, 3, none⟩ = some (.int .i64 ((rd_T96 l0_2 x9_1).f3)) ∧ w'.cell? ⟨gb183, 0, none⟩ = some (.int .i64 a0_0) ∧ w'.cell? ⟨gb183, 1, none⟩ = some (.int .i64 a0_1) ∧ w'.cell? ⟨gb183, 2, none⟩ = some (.slice (some ad186) l0_2.length c0_2)) (ds := []) #[false, false, false, false, false, false, false, false, false, false, false, false, false, false, false, false, false, false, false, false, false, false, false, false, false, false, false, false, false, false, false, false, false, false, false, false, false, false, false, false] (by kernel_rfl) rfl rfl ⟨(blk_cell HI187.out.1 0).trans rfl, (blk_cell HI187.out.1 1).trans rfl, (blk_cell HI187.out.1 2).trans rfl, (blk_cell HI187.out.1 3).trans rfl, (blk_cell BK183.out 0).trans rfl, (blk_cell BK183.out 1).trans rfl, (blk_cell BK183.out 2).trans rfl⟩ (fun hHeld => ?_); refine with_tabW impl_GoodStore.tab5 impl_GoodStore.bits5 (fun HT_ HW_ => ?_)
           generalize w35.drew = w36 at BK183 HI187 HB hHeld ⊢
           refine pure_ (i := 0) (N := some 14) (v := ?_) (a' := ?_) (bz5 40 1) rfl rfl (any_of HT_.out (by kernel_rfl)) (fun _ _ _ h => h) (Or.inl ⟨by rfl, ?_⟩) ?_ ?_
           rotate_left
           ·intro w'
            go_simp
            with_reducible rfl
           rotate_left
           ·simp only [Act.put, List.setIfInBounds_toArray, List.set_cons_zero, List.set_cons_succ, i64_w, i32_w]
            rfl
           refine take_ (i := 1) (N := some 15) (v := ?_) (a' := ?_) (bz5 40 3) rfl rfl (take_ofW HT_.out HW_.out (by kernel_rfl)) (fun _ _ _ h => h) (Or.inl ⟨by rfl, ?_⟩) hHeld ?_ ?_
           rotate_left
           ·rintro w' ⟨s0, s1, s2, s3, s4, s5, s6⟩
            go_simp
            with_reducible rfl
           rotate_left
           ·simp only [Act.put, List.setIfInBounds_toArray, List.set_cons_zero, List.set_cons_succ, i64_w, i32_w]
            rfl
           refine one_ (i := 2) (N := some 16) (bz5 40 7) rfl rfl (one_of HT_.out (by kernel_rfl)) (by decide) (fun K hK => ?_)
           refine goes_ Try.func99 (by kernel_rfl) rfl #[.string ((rd_T96 l0_2 x9_1).f0)] (by rfl) rfl rfl (by (try simp only [List.map_toArray, List.map_cons, List.map_nil]); first | done | rfl | (simp only [List.length_drop, List.length_take]; rfl)) ?_
           with_reducible refine (impl_GoodName.calls k1 ((rd_T96 l0_2 x9_1).f0) true _ A10.out).mono ?_
           rintro e w' ⟨rfl, ⟨nd, rfl⟩⟩
           refine ⟨_, rfl, ?_⟩
           refine hK.out _ _ ⟨(blk_cell HI187.out.1 0).trans rfl, (blk_cell HI187.out.1 1).trans rfl, (blk_cell HI187.out.1 2).trans rfl, (blk_cell HI187.out.1 3).trans rfl, (blk_cell BK183.out 0).trans rfl, (blk_cell BK183.out 1).trans rfl, (blk_cell BK183.out 2).trans rfl⟩ (fun hHeld => ?_)
           clear hK K
           refine norm_ (a' := ?_) ?_ ?_
           rotate_left
           ·show Act.put _ (some 16) _ = _
            simp only [Act.put, List.setIfInBounds_toArray, List.set_cons_zero, List.set_cons_succ, i64_w, i32_w]
            rfl
           refine pure_ (i := 3) (N := some 17) (v := ?_) (a' := ?_) (bz5 40 15) rfl rfl (any_of HT_.out (by kernel_rfl)) (fun _ _ _ h => h) (Or.inl ⟨by rfl, ?_⟩) ?_ ?_
           rotate_left
           ·intro w'
            go_simp
            with_reducible rfl
           rotate_left
           ·simp only [Act.put, List.setIfInBounds_toArray, List.set_cons_zero, List.set_cons_succ, i64_w, i32_w]
            rfl
           refine pure_ (i := 4) (N := some 18) (v := ?_) (a' := ?_) (bz5 40 31) rfl rfl (any_of HT_.out (by kernel_rfl)) (fun _ _ _ h => h) (Or.inl ⟨by rfl, ?_⟩) ?_ ?_
           rotate_left
           ·intro w'
            go_simp
            with_reducible rfl
           rotate_left
           ·simp only [Act.put, List.setIfInBounds_toArray, List.set_cons_zero, List.set_cons_succ, i64_w, i32_w]
            rfl
           refine pure_ (i := 5) (N := some 19) (v := ?_) (a' := ?_) (bz5 40 63) rfl rfl (any_of HT_.out (by kernel_rfl)) (fun _ _ _ h => h) (Or.inl ⟨by rfl, ?_⟩) ?_ ?_
           rotate_left
           ·intro w'
            go_simp
            with_reducible rfl
           rotate_left
           ·simp only [Act.put, List.setIfInBounds_toArray, List.set_cons_zero, List.set_cons_succ, i64_w, i32_w]
            rfl
           refine pure_ (i := 6) (N := some 20) (v := ?_) (a' := ?_) (bz5 40 127) rfl rfl (any_of HT_.out (by kernel_rfl)) (fun _ _ _ h => h) (Or.inl ⟨by rfl, ?_⟩) ?_ ?_
           rotate_left
           ·intro w'
            go_simp
            with_reducible rfl
           rotate_left
           ·simp only [Act.put, List.setIfInBounds_toArray, List.set_cons_zero, List.set_cons_succ, i64_w, i32_w]
            rfl
           refine pure_ (i := 7) (N := some 21) (v := ?_) (a' := ?_) (bz5 40 255) rfl rfl (any_of HT_.out (by kernel_rfl)) (fun _ _ _ h => h) (Or.inl ⟨by rfl, ?_⟩) ?_ ?_
           rotate_left
           ·intro w'
            go_simp
            with_reducible rfl
           rotate_left
           ·simp only [Act.put, List.setIfInBounds_toArray, List.set_cons_zero, List.set_cons_succ, i64_w, i32_w]
            rfl
           refine pure_ (i := 8) (N := some 22) (v := undef) (a' := ?_) (bz5 40 511) rfl rfl (any_of HT_.out (by kernel_rfl)) (fun _ _ _ h => h) (Or.inr ⟨by rfl, rfl⟩) ?_ ?_
           rotate_left
           ·simp only [Act.put, List.setIfInBounds_toArray, List.set_cons_zero, List.set_cons_succ, i64_w, i32_w]
            rfl
           refine pure_ (i := 9) (N := some 23) (v := undef) (a' := ?_) (bz5 40 1023) rfl rfl (any_of HT_.out (by kernel_rfl)) (fun _ _ _ h => h) (Or.inr ⟨by rfl, rfl⟩) ?_ ?_
           rotate_left
           ·simp only [Act.put, List.setIfInBounds_toArray, List.set_cons_zero, List.set_cons_succ, i64_w, i32_w]
            rfl
           refine pure_ (i := 10) (N := some 24) (v := undef) (a' := ?_) (bz5 40 2047) rfl rfl (any_of HT_.out (by kernel_rfl)) (fun _ _ _ h => h) (Or.inr ⟨by rfl, rfl⟩) ?_ ?_
           rotate_left
           ·simp only [Act.put, List.setIfInBounds_toArray, List.set_cons_zero, List.set_cons_succ, i64_w, i32_w]
            rfl
           refine pure_ (i := 11) (N := some 25) (v := undef) (a' := ?_) (bz5 40 4095) rfl rfl (any_of HT_.out (by kernel_rfl)) (fun _ _ _ h => h) (Or.inr ⟨by rfl, rfl⟩) ?_ ?_
           rotate_left
           ·simp only [Act.put, List.setIfInBounds_toArray, List.set_cons_zero, List.set_cons_succ, i64_w, i32_w]
            rfl
           refine pure_ (i := 12) (N := some 26) (v := undef) (a' := ?_) (bz5 40 8191) rfl rfl (any_of HT_.out (by kernel_rfl)) (fun _ _ _ h => h) (Or.inr ⟨by rfl, rfl⟩) ?_ ?_
           rotate_left
           ·simp only [Act.put, List.setIfInBounds_toArray, List.set_cons_zero, List.set_cons_succ, i64_w, i32_w]
            rfl
           refine pure_ (i := 13) (N := some 27) (v := undef) (a' := ?_) (bz5 40 16383) rfl rfl (any_of HT_.out (by kernel_rfl)) (fun _ _ _ h => h) (Or.inr ⟨by rfl, rfl⟩) ?_ ?_
           rotate_left
           ·simp only [Act.put, List.setIfInBounds_toArray, List.set_cons_zero, List.set_cons_succ, i64_w, i32_w]
            rfl
           refine pure_ (i := 14) (N := some 28) (v := undef) (a' := ?_) (bz5 40 32767) rfl rfl (any_of HT_.out (by kernel_rfl)) (fun _ _ _ h => h) (Or.inr ⟨by rfl, rfl⟩) ?_ ?_
           rotate_left
           ·simp only [Act.put, List.setIfInBounds_toArray, List.set_cons_zero, List.set_cons_succ, i64_w, i32_w]
            rfl
           refine pure_ (i := 15) (N := some 29) (v := undef) (a' := ?_) (bz5 40 65535) rfl rfl (any_of HT_.out (by kernel_rfl)) (fun _ _ _ h => h) (Or.inr ⟨by rfl, rfl⟩) ?_ ?_
           rotate_left
           ·simp only [Act.put, List.setIfInBounds_toArray, List.set_cons_zero, List.set_cons_succ, i64_w, i32_w]
            rfl
           refine pure_ (i := 16) (N := some 30) (v := undef) (a' := ?_) (bz5 40 131071) rfl rfl (any_of HT_.out (by kernel_rfl)) (fun _ _ _ h => h) (Or.inr ⟨by rfl, rfl⟩) ?_ ?_
           rotate_left
           ·simp only [Act.put, List.setIfInBounds_toArray, List.set_cons_zero, List.set_cons_succ, i64_w, i32_w]
            rfl
           refine pure_ (i := 17) (N := some 31) (v := undef) (a' := ?_) (bz5 40 262143) rfl rfl (any_of HT_.out (by kernel_rfl)) (fun _ _ _ h => h) (Or.inr ⟨by rfl, rfl⟩) ?_ ?_
           rotate_left
           ·simp only [Act.put, List.setIfInBounds_toArray, List.set_cons_zero, List.set_cons_succ, i64_w, i32_w]
            rfl
           refine pure_ (i := 18) (N := some 32) (v := ?_) (a' := ?_) (bz5 40 524287) rfl rfl (any_of HT_.out (by kernel_rfl)) (fun _ _ _ h => h) (Or.inl ⟨by rfl, ?_⟩) ?_ ?_
           rotate_left
           ·intro w'
            go_simp
            with_reducible rfl
           rotate_left
           ·simp only [Act.put, List.setIfInBounds_toArray, List.set_cons_zero, List.set_cons_succ, i64_w, i32_w]
            rfl
           refine pure_ (i := 19) (N := some 33) (v := ?_) (a' := ?_) (bz5 40 1048575) rfl rfl (any_of HT_.out (by kernel_rfl)) (fun _ _ _ h => h) (Or.inl ⟨by rfl, ?_⟩) ?_ ?_
           rotate_left
           ·intro w'
            go_simp
            with_reducible rfl
           rotate_left
           ·simp only [Act.put, List.setIfInBounds_toArray, List.set_cons_zero, List.set_cons_succ, i64_w, i32_w]
            rfl
           refine pure_ (i := 20) (N := some 34) (v := ?_) (a' := ?_) (bz5 40 2097151) rfl rfl (any_of HT_.out (by kernel_rfl)) (fun _ _ _ h => h) (Or.inl ⟨by rfl, ?_⟩) ?_ ?_
           rotate_left
           ·intro w'
            go_simp
            with_reducible rfl
           rotate_left
           ·simp only [Act.put, List.setIfInBounds_toArray, List.set_cons_zero, List.set_cons_succ, i64_w, i32_w]
            rfl
           refine pure_ (i := 21) (N := some 35) (v := ?_) (a' := ?_) (bz5 40 4194303) rfl rfl (any_of HT_.out (by kernel_rfl)) (fun _ _ _ h => h) (Or.inl ⟨by rfl, ?_⟩) ?_ ?_
           rotate_left
           ·intro w'
            go_simp
            with_reducible rfl
           rotate_left
           ·simp only [Act.put, List.setIfInBounds_toArray, List.set_cons_zero, List.set_cons_succ, i64_w, i32_w]
            rfl
           refine take_ (i := 22) (N := some 36) (v := ?_) (a' := ?_) (bz5 40 8388607) rfl rfl (take_ofW HT_.out HW_.out (by kernel_rfl)) (fun _ _ _ h => h) (Or.inl ⟨by rfl, ?_⟩) hHeld ?_ ?_
           rotate_left
           ·rintro w' ⟨s0, s1, s2, s3, s4, s5, s6⟩
            go_simp
            with_reducible rfl
           rotate_left
           ·simp only [Act.put, List.setIfInBounds_toArray, List.set_cons_zero, List.set_cons_succ, i64_w, i32_w]
            rfl
           refine one_ (i := 23) (N := some 37) (bz5 40 16777215) rfl rfl (one_of HT_.out (by kernel_rfl)) (by decide) (fun K hK => ?_)
           refine goes_ Try.func89 (by kernel_rfl) rfl #[.int .i64 ((rd_T96 l0_2 x9_1).f1), .int .i64 1, .int .i64 100000] (by rfl) rfl rfl (by (try simp only [List.map_toArray, List.map_cons, List.map_nil]); first | done | rfl | (simp only [List.length_drop, List.length_take]; rfl)) ?_
           with_reducible refine (impl_inRange.calls ((rd_T96 l0_2 x9_1).f1) 1 100000 true _ A30.out).mono ?_
           rintro e w' ⟨rfl, ⟨nd, rfl⟩⟩
           refine ⟨_, rfl, ?_⟩
           refine hK.out _ _ ⟨(blk_cell HI187.out.1 0).trans rfl, (blk_cell HI187.out.1 1).trans rfl, (blk_cell HI187.out.1 2).trans rfl, (blk_cell HI187.out.1 3).trans rfl, (blk_cell BK183.out 0).trans rfl, (blk_cell BK183.out 1).trans rfl, (blk_cell BK183.out 2).trans rfl⟩ (fun hHeld => ?_)
           clear hK K
           refine norm_ (a' := ?_) ?_ ?_
           rotate_left
           ·show Act.put _ (some 37) _ = _
            simp only [Act.put, List.setIfInBounds_toArray, List.set_cons_zero, List.set_cons_succ, i64_w, i32_w]
            rfl
           refine pure_ (i := 24) (N := some 38) (v := ?_) (a' := ?_) (bz5 40 33554431) rfl rfl (any_of HT_.out (by kernel_rfl)) (fun _ _ _ h => h) (Or.inl ⟨by rfl, ?_⟩) ?_ ?_
           rotate_left
           ·intro w'
            go_simp
            with_reducible rfl
           rotate_left
           ·simp only [Act.put, List.setIfInBounds_toArray, List.set_cons_zero, List.set_cons_succ, i64_w, i32_w]
            rfl
           refine pure_ (i := 25) (N := some 39) (v := ?_) (a' := ?_) (bz5 40 67108863) rfl rfl (any_of HT_.out (by kernel_rfl)) (fun _ _ _ h => h) (Or.inl ⟨by rfl, ?_⟩) ?_ ?_
           rotate_left
           ·intro w'
            go_simp
            with_reducible rfl
           rotate_left
           ·simp only [Act.put, List.setIfInBounds_toArray, List.set_cons_zero, List.set_cons_succ, i64_w, i32_w]
            rfl
           refine pure_ (i := 26) (N := some 40) (v := ?_) (a' := ?_) (bz5 40 134217727) rfl rfl (any_of HT_.out (by kernel_rfl)) (fun _ _ _ h => h) (Or.inl ⟨by rfl, ?_⟩) ?_ ?_
           rotate_left
           ·intro w'
            go_simp
            with_reducible rfl
           rotate_left
           ·simp only [Act.put, List.setIfInBounds_toArray, List.set_cons_zero, List.set_cons_succ, i64_w, i32_w]
            rfl
           refine pure_ (i := 27) (N := some 41) (v := ?_) (a' := ?_) (bz5 40 268435455) rfl rfl (any_of HT_.out (by kernel_rfl)) (fun _ _ _ h => h) (Or.inl ⟨by rfl, ?_⟩) ?_ ?_
           rotate_left
           ·intro w'
            go_simp
            with_reducible rfl
           rotate_left
           ·simp only [Act.put, List.setIfInBounds_toArray, List.set_cons_zero, List.set_cons_succ, i64_w, i32_w]
            rfl
           refine take_ (i := 28) (N := some 42) (v := ?_) (a' := ?_) (bz5 40 536870911) rfl rfl (take_ofW HT_.out HW_.out (by kernel_rfl)) (fun _ _ _ h => h) (Or.inl ⟨by rfl, ?_⟩) hHeld ?_ ?_
           rotate_left
           ·rintro w' ⟨s0, s1, s2, s3, s4, s5, s6⟩
            go_simp
            with_reducible rfl
           rotate_left
           ·simp only [Act.put, List.setIfInBounds_toArray, List.set_cons_zero, List.set_cons_succ, i64_w, i32_w]
            rfl
           refine one_ (i := 29) (N := some 43) (bz5 40 1073741823) rfl rfl (one_of HT_.out (by kernel_rfl)) (by decide) (fun K hK => ?_)
           refine goes_ Try.func89 (by kernel_rfl) rfl #[.int .i64 ((rd_T96 l0_2 x9_1).f2), .int .i64 0, .int .i64 1000] (by rfl) rfl rfl (by (try simp only [List.map_toArray, List.map_cons, List.map_nil]); first | done | rfl | (simp only [List.length_drop, List.length_take]; rfl)) ?_
           with_reducible refine (impl_inRange.calls ((rd_T96 l0_2 x9_1).f2) 0 1000 true _ A32.out).mono ?_
           rintro e w' ⟨rfl, ⟨nd, rfl⟩⟩
           refine ⟨_, rfl, ?_⟩
           refine hK.out _ _ ⟨(blk_cell HI187.out.1 0).trans rfl, (blk_cell HI187.out.1 1).trans rfl, (blk_cell HI187.out.1 2).trans rfl, (blk_cell HI187.out.1 3).trans rfl, (blk_cell BK183.out 0).trans rfl, (blk_cell BK183.out 1).trans rfl, (blk_cell BK183.out 2).trans rfl⟩ (fun hHeld => ?_)
           clear hK K
           refine norm_ (a' := ?_) ?_ ?_
           rotate_left
           ·show Act.put _ (some 43) _ = _
            simp only [Act.put, List.setIfInBounds_toArray, List.set_cons_zero, List.set_cons_succ, i64_w, i32_w]
            rfl
           refine pure_ (i := 30) (N := some 44) (v := ?_) (a' := ?_) (bz5 40 2147483647) rfl rfl (any_of HT_.out (by kernel_rfl)) (fun _ _ _ h => h) (Or.inl ⟨by rfl, ?_⟩) ?_ ?_
           rotate_left
           ·intro w'
            go_simp
            with_reducible rfl
           rotate_left
           ·simp only [Act.put, List.setIfInBounds_toArray, List.set_cons_zero, List.set_cons_succ, i64_w, i32_w]
            rfl
           refine pure_ (i := 31) (N := some 45) (v := ?_) (a' := ?_) (bz5 40 4294967295) rfl rfl (any_of HT_.out (by kernel_rfl)) (fun _ _ _ h => h) (Or.inl ⟨by rfl, ?_⟩) ?_ ?_
           rotate_left
           ·intro w'
            go_simp
            with_reducible rfl
           rotate_left
           ·simp only [Act.put, List.setIfInBounds_toArray, List.set_cons_zero, List.set_cons_succ, i64_w, i32_w]
            rfl
           refine pure_ (i := 32) (N := some 46) (v := ?_) (a' := ?_) (bz5 40 8589934591) rfl rfl (any_of HT_.out (by kernel_rfl)) (fun _ _ _ h => h) (Or.inl ⟨by rfl, ?_⟩) ?_ ?_
           rotate_left
           ·intro w'
            go_simp
            with_reducible rfl
           rotate_left
           ·simp only [Act.put, List.setIfInBounds_toArray, List.set_cons_zero, List.set_cons_succ, i64_w, i32_w]
            rfl
           refine pure_ (i := 33) (N := some 47) (v := ?_) (a' := ?_) (bz5 40 17179869183) rfl rfl (any_of HT_.out (by kernel_rfl)) (fun _ _ _ h => h) (Or.inl ⟨by rfl, ?_⟩) ?_ ?_
           rotate_left
           ·intro w'
            go_simp
            with_reducible rfl
           rotate_left
           ·simp only [Act.put, List.setIfInBounds_toArray, List.set_cons_zero, List.set_cons_succ, i64_w, i32_w]
            rfl
           refine pure_ (i := 35) (N := some 49) (v := ?_) (a' := ?_) (bz5 40 51539607551) rfl rfl (any_of HT_.out (by kernel_rfl)) (fun _ _ _ h => h) (Or.inl ⟨by rfl, ?_⟩) ?_ ?_
           rotate_left
           ·intro w'
            go_simp
            with_reducible rfl
           rotate_left
           ·simp only [Act.put, List.setIfInBounds_toArray, List.set_cons_zero, List.set_cons_succ, i64_w, i32_w]
            rfl
           refine take_ (i := 34) (N := some 48) (v := ?_) (a' := ?_) (bz5 40 68719476735) rfl rfl (take_ofW HT_.out HW_.out (by kernel_rfl)) (fun _ _ _ h => h) (Or.inl ⟨by rfl, ?_⟩) hHeld ?_ ?_
           rotate_left
           ·rintro w' ⟨s0, s1, s2, s3, s4, s5, s6⟩
            go_simp
            with_reducible rfl
           rotate_left
           ·simp only [Act.put, List.setIfInBounds_toArray, List.set_cons_zero, List.set_cons_succ, i64_w, i32_w]
            rfl
           refine take_ (i := 36) (N := some 50) (v := ?_) (a' := ?_) (bz5 40 137438953471) rfl rfl (take_ofW HT_.out HW_.out (by kernel_rfl)) (fun _ _ _ h => h) (Or.inl ⟨by rfl, ?_⟩) hHeld ?_ ?_
           rotate_left
           ·rintro w' ⟨s0, s1, s2, s3, s4, s5, s6⟩
            go_simp
            with_reducible rfl
           rotate_left
           ·simp only [Act.put, List.setIfInBounds_toArray, List.set_cons_zero, List.set_cons_succ, i64_w, i32_w]
            rfl
           refine one_ (i := 37) (N := some 51) (bz5 40 274877906943) rfl rfl (one_of HT_.out (by kernel_rfl)) (by decide) (fun K hK => ?_)
           refine goes_ Try.func89 (by kernel_rfl) rfl #[.int .i64 ((rd_T96 l0_2 x9_1).f3), .int .i64 0, .int .i64 a0_1] (by rfl) rfl rfl (by (try simp only [List.map_toArray, List.map_cons, List.map_nil]); first | done | rfl | (simp only [List.length_drop, List.length_take]; rfl)) ?_
           with_reducible refine (impl_inRange.calls ((rd_T96 l0_2 x9_1).f3) 0 a0_1 t195 _ A34.out).mono ?_
           rintro e w' ⟨rfl, ⟨nd, rfl⟩⟩
           refine ⟨_, rfl, ?_⟩
           refine hK.out _ _ ⟨(blk_cell HI187.out.1 0).trans rfl, (blk_cell HI187.out.1 1).trans rfl, (blk_cell HI187.out.1 2).trans rfl, (blk_cell HI187.out.1 3).trans rfl, (blk_cell BK183.out 0).trans rfl, (blk_cell BK183.out 1).trans rfl, (blk_cell BK183.out 2).trans rfl⟩ (fun hHeld => ?_)
           clear hK K
           refine norm_ (a' := ?_) ?_ ?_
           rotate_left
           ·show Act.put _ (some 51) _ = _
            simp only [Act.put, List.setIfInBounds_toArray, List.set_cons_zero, List.set_cons_succ, i64_w, i32_w]
            rfl
           refine pure_ (i := 38) (N := some 52) (v := ?_) (a' := ?_) (bz5 40 549755813887) rfl rfl (any_of HT_.out (by kernel_rfl)) (fun _ _ _ h => h) (Or.inl ⟨by rfl, ?_⟩) ?_ ?_
           rotate_left
           ·intro w'
            go_simp
            with_reducible rfl
           rotate_left
           ·simp only [Act.put, List.setIfInBounds_toArray, List.set_cons_zero, List.set_cons_succ, i64_w, i32_w]
            rfl
           refine pure_ (i := 39) (N := some 53) (v := ?_) (a' := ?_) (bz5 40 1099511627775) rfl rfl (any_of HT_.out (by kernel_rfl)) (fun _ _ _ h => h) (Or.inl ⟨by rfl, ?_⟩) ?_ ?_
           rotate_left
           ·intro w'
            go_simp
            with_reducible rfl
           rotate_left
           ·simp only [Act.put, List.setIfInBounds_toArray, List.set_cons_zero, List.set_cons_succ, i64_w, i32_w]
            rfl
           refine done_ (done_of HT_.out (by kernel_rfl)) ?_
           try go_wp2
           go_meet
           case rel => exact ⟨_, (!t195), (by first | rfl | (simp; done) | (simp [*]; done)), H', ⟨by have := HK1.out; first | omega | exact Nat.le_refl _⟩, ⟨by exact BK183.out⟩, ⟨by repeat (first | (with_reducible first | exact HI187.out | apply IsS96.alloc | apply IsS96.drewN | apply IsS96.drew | apply IsS96.set_0 | apply IsS96.set_1 | apply IsS96.set_2 | apply IsS96.set_3 | refine IsS96.far ?_ NB187_183.out _) | exact HI187.out)⟩, ⟨by repeat (first | (with_reducible first | exact HB.out | apply below_alloc | apply pw_below_drewN | apply below_drew1 | refine below_set ?_ (IsS96.ge HI187.out) | refine below_set ?_ GE183.out) | exact HB.out)⟩⟩
          ·replace c33 := Bool.eq_false_iff.mpr c33
           subst c33
           have H1 : (impl_GoodStore.j1 k1 x3_1 x9_1 l0_2 (l0_2.length : Int) x9_1 true a0_0 a0_1 l0_2 ((rd_T96 l0_2 x9_1).f0) ((rd_T96 l0_2 x9_1).f1) ((rd_T96 l0_2 x9_1).f2) ((rd_T96 l0_2 x9_1).f3)) = some r := by rw [if_neg (show ¬ (false = true) by decide)] at H; exact H
           clear H
           have H := H1
           clear H1
           have H' := Aside0.mk H
           clear H
           try go_wp2
           have n0_ : Aside0 (((((w8.setCell ⟨gb187, 0, none⟩ (.string ((rd_T96 l0_2 x9_1).f0))).setCell ⟨gb187, 1, none⟩ (.int .i64 ((rd_T96 l0_2 x9_1).f1))).setCell ⟨gb187, 2, none⟩ (.int .i64 ((rd_T96 l0_2 x9_1).f2))).setCell ⟨gb187, 3, none⟩ (.int .i64 ((rd_T96 l0_2 x9_1).f3))).heap[gb183]? = some (.cells #[.int .i64 a0_0, .int .i64 a0_1, .slice (some ad186) l0_2.length c0_2] 46 (0, 0))) := ⟨by refine blk_far ?_ NB183_187.out _; refine blk_far ?_ NB183_187.out _; refine blk_far ?_ NB183_187.out _; refine blk_far ?_ NB183_187.out _; exact BK183.out⟩
           have n1_ : Aside0 (IsS96 w ((((w8.setCell ⟨gb187, 0, none⟩ (.string ((rd_T96 l0_2 x9_1).f0))).setCell ⟨gb187, 1, none⟩ (.int .i64 ((rd_T96 l0_2 x9_1).f1))).setCell ⟨gb187, 2, none⟩ (.int .i64 ((rd_T96 l0_2 x9_1).f2))).setCell ⟨gb187, 3, none⟩ (.int .i64 ((rd_T96 l0_2 x9_1).f3))) gb187 ((rd_T96 l0_2 x9_1).f0) ((rd_T96 l0_2 x9_1).f1) ((rd_T96 l0_2 x9_1).f2) ((rd_T96 l0_2 x9_1).f3)) := ⟨by repeat (first | (with_reducible first | exact HI187.out | apply IsS96.alloc | apply IsS96.drewN | apply IsS96.drew | apply IsS96.set_0 | apply IsS96.set_1 | apply IsS96.set_2 | apply IsS96.set_3 | refine IsS96.far ?_ NB187_183.out _) | exact HI187.out)⟩
           have n2_ : Aside0 (Below w.heap.size w ((((w8.setCell ⟨gb187, 0, none⟩ (.string ((rd_T96 l0_2 x9_1).f0))).setCell ⟨gb187, 1, none⟩ (.int .i64 ((rd_T96 l0_2 x9_1).f1))).setCell ⟨gb187, 2, none⟩ (.int .i64 ((rd_T96 l0_2 x9_1).f2))).setCell ⟨gb187, 3, none⟩ (.int .i64 ((rd_T96 l0_2 x9_1).f3)))) := ⟨by repeat (first | (with_reducible first | exact HB.out | apply below_alloc | apply pw_below_drewN | apply below_drew1 | refine below_set ?_ (IsS96.ge HI187.out) | refine below_set ?_ GE183.out) | exact HB.out)⟩
           (try clear BK183)
           (try clear HI187)
           (try clear HB)
           generalize ((((w8.setCell ⟨gb187, 0, none⟩ (.string ((rd_T96 l0_2 x9_1).f0))).setCell ⟨gb187, 1, none⟩ (.int .i64 ((rd_T96 l0_2 x9_1).f1))).setCell ⟨gb187, 2, none⟩ (.int .i64 ((rd_T96 l0_2 x9_1).f2))).setCell ⟨gb187, 3, none⟩ (.int .i64 ((rd_T96 l0_2 x9_1).f3))) = w37 at n0_ n1_ n2_ ⊢
           have BK183 := n0_
           have HI187 := n1_
           have HB := n2_
           clear n0_ n1_ n2_
           have n0_ := Aside0.mk (blk_drew BK183.out)
           have n1_ := Aside0.mk (IsS96.drew HI187.out)
           have n2_ := Aside0.mk (below_drew1 HB.out)
           clear BK183
           clear HI187
           clear HB
           have BK183 := n0_
           have HI187 := n1_
           have HB := n2_
           clear n0_ n1_ n2_
           refine start_ (n := 40) (S := fun w' => w'.cell? ⟨gb187, 0, none⟩ = some (.string ((rd_T96 l0_2 x9_1).f0)) ∧ w'.cell? ⟨gb187, 1, none⟩ = some (.int .i64 ((rd_T96 l0_2 x9_1).f1)) ∧ w'.cell? ⟨gb187, 2, none⟩ = some (.int .i64 ((rd_T96 l0_2 x9_1).f2)) ∧ w'.cell? ⟨gb187, 3, none⟩ = some (.int .i64 ((rd_T96 l0_2 x9_1).f3))) (ds := []) #[false, false, false, false, false, false, false, false, false, false, false, false, false, false, false, false, false, false, false, false, false, false, false, false, false, false, false, false, false, false, false, false, false, false, false, false, false, false, false, false] (by kernel_rfl) rfl rfl ⟨(blk_cell HI187.out.1 0).trans rfl, (blk_cell HI187.out.1 1).trans rfl, (blk_cell HI187.out.1 2).trans rfl, (blk_cell HI187.out.1 3).trans rfl⟩ (fun hHeld => ?_); refine with_tabW impl_GoodStore.tab5 impl_GoodStore.bits5 (fun HT_ HW_ => ?_)
           generalize w37.drew = w38 at BK183 HI187 HB hHeld ⊢
           refine pure_ (i := 0) (N := some 14) (v := ?_) (a' := ?_) (bz5 40 1) rfl rfl (any_of HT_.out (by kernel_rfl)) (fun _ _ _ h => h) (Or.inl ⟨by rfl, ?_⟩) ?_ ?_
           rotate_left
           ·intro w'
            go_simp
            with_reducible rfl
           rotate_left
           ·simp only [Act.put, List.setIfInBounds_toArray, List.set_cons_zero, List.set_cons_succ, i64_w, i32_w]
            rfl
           refine take_ (i := 1) (N := some 15) (v := ?_) (a' := ?_) (bz5 40 3) rfl rfl (take_ofW HT_.out HW_.out (by kernel_rfl)) (fun _ _ _ h => h) (Or.inl ⟨by rfl, ?_⟩) hHeld ?_ ?_
           rotate_left
           ·rintro w' ⟨s0, s1, s2, s3⟩
            go_simp
            with_reducible rfl
           rotate_left
           ·simp only [Act.put, List.setIfInBounds_toArray, List.set_cons_zero, List.set_cons_succ, i64_w, i32_w]
            rfl
           refine one_ (i := 2) (N := some 16) (bz5 40 7) rfl rfl (one_of HT_.out (by kernel_rfl)) (by decide) (fun K hK => ?_)
           refine goes_ Try.func99 (by kernel_rfl) rfl #[.string ((rd_T96 l0_2 x9_1).f0)] (by rfl) rfl rfl (by (try simp only [List.map_toArray, List.map_cons, List.map_nil]); first | done | rfl | (simp only [List.length_drop, List.length_take]; rfl)) ?_
           with_reducible refine (impl_GoodName.calls k1 ((rd_T96 l0_2 x9_1).f0) true _ A10.out).mono ?_
           rintro e w' ⟨rfl, ⟨nd, rfl⟩⟩
           refine ⟨_, rfl, ?_⟩
           refine hK.out _ _ ⟨(blk_cell HI187.out.1 0).trans rfl, (blk_cell HI187.out.1 1).trans rfl, (blk_cell HI187.out.1 2).trans rfl, (blk_cell HI187.out.1 3).trans rfl⟩ (fun hHeld => ?_)
           clear hK K
           refine norm_ (a' := ?_) ?_ ?_
           rotate_left
           ·show Act.put _ (some 16) _ = _
            simp only [Act.put, List.setIfInBounds_toArray, List.set_cons_zero, List.set_cons_succ, i64_w, i32_w]
            rfl
           refine pure_ (i := 3) (N := some 17) (v := ?_) (a' := ?_) (bz5 40 15) rfl rfl (any_of HT_.out (by kernel_rfl)) (fun _ _ _ h => h) (Or.inl ⟨by rfl, ?_⟩) ?_ ?_
           rotate_left
           ·intro w'
            go_simp
            with_reducible rfl
           rotate_left
           ·simp only [Act.put, List.setIfInBounds_toArray, List.set_cons_zero, List.set_cons_succ, i64_w, i32_w]
            rfl
           refine pure_ (i := 4) (N := some 18) (v := ?_) (a' := ?_) (bz5 40 31) rfl rfl (any_of HT_.out (by kernel_rfl)) (fun _ _ _ h => h) (Or.inl ⟨by rfl, ?_⟩) ?_ ?_
           rotate_left
           ·intro w'
            go_simp
            with_reducible rfl
           rotate_left
           ·simp only [Act.put, List.setIfInBounds_toArray, List.set_cons_zero, List.set_cons_succ, i64_w, i32_w]
            rfl
           refine pure_ (i := 5) (N := some 19) (v := ?_) (a' := ?_) (bz5 40 63) rfl rfl (any_of HT_.out (by kernel_rfl)) (fun _ _ _ h => h) (Or.inl ⟨by rfl, ?_⟩) ?_ ?_
           rotate_left
           ·intro w'
            go_simp
            with_reducible rfl
           rotate_left
           ·simp only [Act.put, List.setIfInBounds_toArray, List.set_cons_zero, List.set_cons_succ, i64_w, i32_w]
            rfl
           refine pure_ (i := 6) (N := some 20) (v := ?_) (a' := ?_) (bz5 40 127) rfl rfl (any_of HT_.out (by kernel_rfl)) (fun _ _ _ h => h) (Or.inl ⟨by rfl, ?_⟩) ?_ ?_
           rotate_left
           ·intro w'
            go_simp
            with_reducible rfl
           rotate_left
           ·simp only [Act.put, List.setIfInBounds_toArray, List.set_cons_zero, List.set_cons_succ, i64_w, i32_w]
            rfl
           refine pure_ (i := 7) (N := some 21) (v := ?_) (a' := ?_) (bz5 40 255) rfl rfl (any_of HT_.out (by kernel_rfl)) (fun _ _ _ h => h) (Or.inl ⟨by rfl, ?_⟩) ?_ ?_
           rotate_left
           ·intro w'
            go_simp
            with_reducible rfl
           rotate_left
           ·simp only [Act.put, List.setIfInBounds_toArray, List.set_cons_zero, List.set_cons_succ, i64_w, i32_w]
            rfl
           refine pure_ (i := 8) (N := some 22) (v := undef) (a' := ?_) (bz5 40 511) rfl rfl (any_of HT_.out (by kernel_rfl)) (fun _ _ _ h => h) (Or.inr ⟨by rfl, rfl⟩) ?_ ?_
           rotate_left
           ·simp only [Act.put, List.setIfInBounds_toArray, List.set_cons_zero, List.set_cons_succ, i64_w, i32_w]
            rfl
           refine pure_ (i := 9) (N := some 23) (v := undef) (a' := ?_) (bz5 40 1023) rfl rfl (any_of HT_.out (by kernel_rfl)) (fun _ _ _ h => h) (Or.inr ⟨by rfl, rfl⟩) ?_ ?_
           rotate_left
           ·simp only [Act.put, List.setIfInBounds_toArray, List.set_cons_zero, List.set_cons_succ, i64_w, i32_w]
            rfl
           refine pure_ (i := 10) (N := some 24) (v := undef) (a' := ?_) (bz5 40 2047) rfl rfl (any_of HT_.out (by kernel_rfl)) (fun _ _ _ h => h) (Or.inr ⟨by rfl, rfl⟩) ?_ ?_
           rotate_left
           ·simp only [Act.put, List.setIfInBounds_toArray, List.set_cons_zero, List.set_cons_succ, i64_w, i32_w]
            rfl
           refine pure_ (i := 11) (N := some 25) (v := undef) (a' := ?_) (bz5 40 4095) rfl rfl (any_of HT_.out (by kernel_rfl)) (fun _ _ _ h => h) (Or.inr ⟨by rfl, rfl⟩) ?_ ?_
           rotate_left
           ·simp only [Act.put, List.setIfInBounds_toArray, List.set_cons_zero, List.set_cons_succ, i64_w, i32_w]
            rfl
           refine pure_ (i := 12) (N := some 26) (v := undef) (a' := ?_) (bz5 40 8191) rfl rfl (any_of HT_.out (by kernel_rfl)) (fun _ _ _ h => h) (Or.inr ⟨by rfl, rfl⟩) ?_ ?_
           rotate_left
           ·simp only [Act.put, List.setIfInBounds_toArray, List.set_cons_zero, List.set_cons_succ, i64_w, i32_w]
            rfl
           refine pure_ (i := 13) (N := some 27) (v := undef) (a' := ?_) (bz5 40 16383) rfl rfl (any_of HT_.out (by kernel_rfl)) (fun _ _ _ h => h) (Or.inr ⟨by rfl, rfl⟩) ?_ ?_
           rotate_left
           ·simp only [Act.put, List.setIfInBounds_toArray, List.set_cons_zero, List.set_cons_succ, i64_w, i32_w]
            rfl
           refine pure_ (i := 14) (N := some 28) (v := undef) (a' := ?_) (bz5 40 32767) rfl rfl (any_of HT_.out (by kernel_rfl)) (fun _ _ _ h => h) (Or.inr ⟨by rfl, rfl⟩) ?_ ?_
           rotate_left
           ·simp only [Act.put, List.setIfInBounds_toArray, List.set_cons_zero, List.set_cons_succ, i64_w, i32_w]
            rfl
           refine pure_ (i := 15) (N := some 29) (v := undef) (a' := ?_) (bz5 40 65535) rfl rfl (any_of HT_.out (by kernel_rfl)) (fun _ _ _ h => h) (Or.inr ⟨by rfl, rfl⟩) ?_ ?_
           rotate_left
           ·simp only [Act.put, List.setIfInBounds_toArray, List.set_cons_zero, List.set_cons_succ, i64_w, i32_w]
            rfl
           refine pure_ (i := 16) (N := some 30) (v := undef) (a' := ?_) (bz5 40 131071) rfl rfl (any_of HT_.out (by kernel_rfl)) (fun _ _ _ h => h) (Or.inr ⟨by rfl, rfl⟩) ?_ ?_
           rotate_left
           ·simp only [Act.put, List.setIfInBounds_toArray, List.set_cons_zero, List.set_cons_succ, i64_w, i32_w]
            rfl
           refine pure_ (i := 17) (N := some 31) (v := undef) (a' := ?_) (bz5 40 262143) rfl rfl (any_of HT_.out (by kernel_rfl)) (fun _ _ _ h => h) (Or.inr ⟨by rfl, rfl⟩) ?_ ?_
           rotate_left
           ·simp only [Act.put, List.setIfInBounds_toArray, List.set_cons_zero, List.set_cons_succ, i64_w, i32_w]
            rfl
           refine pure_ (i := 18) (N := some 32) (v := ?_) (a' := ?_) (bz5 40 524287) rfl rfl (any_of HT_.out (by kernel_rfl)) (fun _ _ _ h => h) (Or.inl ⟨by rfl, ?_⟩) ?_ ?_
           rotate_left
           ·intro w'
            go_simp
            with_reducible rfl
           rotate_left
           ·simp only [Act.put, List.setIfInBounds_toArray, List.set_cons_zero, List.set_cons_succ, i64_w, i32_w]
            rfl
           refine pure_ (i := 19) (N := some 33) (v := ?_) (a' := ?_) (bz5 40 1048575) rfl rfl (any_of HT_.out (by kernel_rfl)) (fun _ _ _ h => h) (Or.inl ⟨by rfl, ?_⟩) ?_ ?_
           rotate_left
           ·intro w'
            go_simp
            with_reducible rfl
           rotate_left
           ·simp only [Act.put, List.setIfInBounds_toArray, List.set_cons_zero, List.set_cons_succ, i64_w, i32_w]
            rfl
           refine pure_ (i := 20) (N := some 34) (v := ?_) (a' := ?_) (bz5 40 2097151) rfl rfl (any_of HT_.out (by kernel_rfl)) (fun _ _ _ h => h) (Or.inl ⟨by rfl, ?_⟩) ?_ ?_
           rotate_left
           ·intro w'
            go_simp
            with_reducible rfl
           rotate_left
           ·simp only [Act.put, List.setIfInBounds_toArray, List.set_cons_zero, List.set_cons_succ, i64_w, i32_w]
            rfl
           refine pure_ (i := 21) (N := some 35) (v := ?_) (a' := ?_) (bz5 40 4194303) rfl rfl (any_of HT_.out (by kernel_rfl)) (fun _ _ _ h => h) (Or.inl ⟨by rfl, ?_⟩) ?_ ?_
           rotate_left
           ·intro w'
            go_simp
            with_reducible rfl
           rotate_left
           ·simp only [Act.put, List.setIfInBounds_toArray, List.set_cons_zero, List.set_cons_succ, i64_w, i32_w]
            rfl
           refine take_ (i := 22) (N := some 36) (v := ?_) (a' := ?_) (bz5 40 8388607) rfl rfl (take_ofW HT_.out HW_.out (by kernel_rfl)) (fun _ _ _ h => h) (Or.inl ⟨by rfl, ?_⟩) hHeld ?_ ?_
           rotate_left
           ·rintro w' ⟨s0, s1, s2, s3⟩
            go_simp
            with_reducible rfl
           rotate_left
           ·simp only [Act.put, List.setIfInBounds_toArray, List.set_cons_zero, List.set_cons_succ, i64_w, i32_w]
            rfl
           refine one_ (i := 23) (N := some 37) (bz5 40 16777215) rfl rfl (one_of HT_.out (by kernel_rfl)) (by decide) (fun K hK => ?_)
           refine goes_ Try.func89 (by kernel_rfl) rfl #[.int .i64 ((rd_T96 l0_2 x9_1).f1), .int .i64 1, .int .i64 100000] (by rfl) rfl rfl (by (try simp only [List.map_toArray, List.map_cons, List.map_nil]); first | done | rfl | (simp only [List.length_drop, List.length_take]; rfl)) ?_
           with_reducible refine (impl_inRange.calls ((rd_T96 l0_2 x9_1).f1) 1 100000 true _ A30.out).mono ?_
           rintro e w' ⟨rfl, ⟨nd, rfl⟩⟩
           refine ⟨_, rfl, ?_⟩
           refine hK.out _ _ ⟨(blk_cell HI187.out.1 0).trans rfl, (blk_cell HI187.out.1 1).trans rfl, (blk_cell HI187.out.1 2).trans rfl, (blk_cell HI187.out.1 3).trans rfl⟩ (fun hHeld => ?_)
           clear hK K
           refine norm_ (a' := ?_) ?_ ?_
           rotate_left
           ·show Act.put _ (some 37) _ = _
            simp only [Act.put, List.setIfInBounds_toArray, List.set_cons_zero, List.set_cons_succ, i64_w, i32_w]
            rfl
           refine pure_ (i := 24) (N := some 38) (v := ?_) (a' := ?_) (bz5 40 33554431) rfl rfl (any_of HT_.out (by kernel_rfl)) (fun _ _ _ h => h) (Or.inl ⟨by rfl, ?_⟩) ?_ ?_
           rotate_left
           ·intro w'
            go_simp
            with_reducible rfl
           rotate_left
           ·simp only [Act.put, List.setIfInBounds_toArray, List.set_cons_zero, List.set_cons_succ, i64_w, i32_w]
            rfl
           refine pure_ (i := 25) (N := some 39) (v := ?_) (a' := ?_) (bz5 40 67108863) rfl rfl (any_of HT_.out (by kernel_rfl)) (fun _ _ _ h => h) (Or.inl ⟨by rfl, ?_⟩) ?_ ?_
           rotate_left
           ·intro w'
            go_simp
            with_reducible rfl
           rotate_left
           ·simp only [Act.put, List.setIfInBounds_toArray, List.set_cons_zero, List.set_cons_succ, i64_w, i32_w]
            rfl
           refine pure_ (i := 26) (N := some 40) (v := ?_) (a' := ?_) (bz5 40 134217727) rfl rfl (any_of HT_.out (by kernel_rfl)) (fun _ _ _ h => h) (Or.inl ⟨by rfl, ?_⟩) ?_ ?_
           rotate_left
           ·intro w'
            go_simp
            with_reducible rfl
           rotate_left
           ·simp only [Act.put, List.setIfInBounds_toArray, List.set_cons_zero, List.set_cons_succ, i64_w, i32_w]
            rfl
           refine pure_ (i := 27) (N := some 41) (v := ?_) (a' := ?_) (bz5 40 268435455) rfl rfl (any_of HT_.out (by kernel_rfl)) (fun _ _ _ h => h) (Or.inl ⟨by rfl, ?_⟩) ?_ ?_
           rotate_left
           ·intro w'
            go_simp
            with_reducible rfl
           rotate_left
           ·simp only [Act.put, List.setIfInBounds_toArray, List.set_cons_zero, List.set_cons_succ, i64_w, i32_w]
            rfl
           refine take_ (i := 28) (N := some 42) (v := ?_) (a' := ?_) (bz5 40 536870911) rfl rfl (take_ofW HT_.out HW_.out (by kernel_rfl)) (fun _ _ _ h => h) (Or.inl ⟨by rfl, ?_⟩) hHeld ?_ ?_
           rotate_left
           ·rintro w' ⟨s0, s1, s2, s3⟩
            go_simp
            with_reducible rfl
           rotate_left
           ·simp only [Act.put, List.setIfInBounds_toArray, List.set_cons_zero, List.set_cons_succ, i64_w, i32_w]
            rfl
           refine one_ (i := 29) (N := some 43) (bz5 40 1073741823) rfl rfl (one_of HT_.out (by kernel_rfl)) (by decide) (fun K hK => ?_)
           refine goes_ Try.func89 (by kernel_rfl) rfl #[.int .i64 ((rd_T96 l0_2 x9_1).f2), .int .i64 0, .int .i64 1000] (by rfl) rfl rfl (by (try simp only [List.map_toArray, List.map_cons, List.map_nil]); first | done | rfl | (simp only [List.length_drop, List.length_take]; rfl)) ?_
           with_reducible refine (impl_inRange.calls ((rd_T96 l0_2 x9_1).f2) 0 1000 false _ A32.out).mono ?_
           rintro e w' ⟨rfl, ⟨nd, rfl⟩⟩
           refine ⟨_, rfl, ?_⟩
           refine hK.out _ _ ⟨(blk_cell HI187.out.1 0).trans rfl, (blk_cell HI187.out.1 1).trans rfl, (blk_cell HI187.out.1 2).trans rfl, (blk_cell HI187.out.1 3).trans rfl⟩ (fun hHeld => ?_)
           clear hK K
           refine norm_ (a' := ?_) ?_ ?_
           rotate_left
           ·show Act.put _ (some 43) _ = _
            simp only [Act.put, List.setIfInBounds_toArray, List.set_cons_zero, List.set_cons_succ, i64_w, i32_w]
            rfl
           refine pure_ (i := 30) (N := some 44) (v := ?_) (a' := ?_) (bz5 40 2147483647) rfl rfl (any_of HT_.out (by kernel_rfl)) (fun _ _ _ h => h) (Or.inl ⟨by rfl, ?_⟩) ?_ ?_
           rotate_left
           ·intro w'
            go_simp
            with_reducible rfl
           rotate_left
           ·simp only [Act.put, List.setIfInBounds_toArray, List.set_cons_zero, List.set_cons_succ, i64_w, i32_w]
            rfl
           refine pure_ (i := 31) (N := some 45) (v := ?_) (a' := ?_) (bz5 40 4294967295) rfl rfl (any_of HT_.out (by kernel_rfl)) (fun _ _ _ h => h) (Or.inl ⟨by rfl, ?_⟩) ?_ ?_
           rotate_left
           ·intro w'
            go_simp
            with_reducible rfl
           rotate_left
           ·simp only [Act.put, List.setIfInBounds_toArray, List.set_cons_zero, List.set_cons_succ, i64_w, i32_w]
            rfl
           refine pure_ (i := 32) (N := some 46) (v := ?_) (a' := ?_) (bz5 40 8589934591) rfl rfl (any_of HT_.out (by kernel_rfl)) (fun _ _ _ h => h) (Or.inl ⟨by rfl, ?_⟩) ?_ ?_
           rotate_left
           ·intro w'
            go_simp
            with_reducible rfl
           rotate_left
           ·simp only [Act.put, List.setIfInBounds_toArray, List.set_cons_zero, List.set_cons_succ, i64_w, i32_w]
            rfl
           refine pure_ (i := 33) (N := some 47) (v := undef) (a' := ?_) (bz5 40 17179869183) rfl rfl (any_of HT_.out (by kernel_rfl)) (fun _ _ _ h => h) (Or.inr ⟨by rfl, rfl⟩) ?_ ?_
           rotate_left
           ·simp only [Act.put, List.setIfInBounds_toArray, List.set_cons_zero, List.set_cons_succ, i64_w, i32_w]
            rfl
           refine pure_ (i := 34) (N := some 48) (v := undef) (a' := ?_) (bz5 40 34359738367) rfl rfl (any_of HT_.out (by kernel_rfl)) (fun _ _ _ h => h) (Or.inr ⟨by rfl, rfl⟩) ?_ ?_
           rotate_left
           ·simp only [Act.put, List.setIfInBounds_toArray, List.set_cons_zero, List.set_cons_succ, i64_w, i32_w]
            rfl
           refine pure_ (i := 35) (N := some 49) (v := undef) (a' := ?_) (bz5 40 68719476735) rfl rfl (any_of HT_.out (by kernel_rfl)) (fun _ _ _ h => h) (Or.inr ⟨by rfl, rfl⟩) ?_ ?_
           rotate_left
           ·simp only [Act.put, List.setIfInBounds_toArray, List.set_cons_zero, List.set_cons_succ, i64_w, i32_w]
            rfl
           refine pure_ (i := 36) (N := some 50) (v := undef) (a' := ?_) (bz5 40 137438953471) rfl rfl (any_of HT_.out (by kernel_rfl)) (fun _ _ _ h => h) (Or.inr ⟨by rfl, rfl⟩) ?_ ?_
           rotate_left
           ·simp only [Act.put, List.setIfInBounds_toArray, List.set_cons_zero, List.set_cons_succ, i64_w, i32_w]
            rfl
           refine pure_ (i := 37) (N := some 51) (v := undef) (a' := ?_) (bz5 40 274877906943) rfl rfl (any_of HT_.out (by kernel_rfl)) (fun _ _ _ h => h) (Or.inr ⟨by rfl, rfl⟩) ?_ ?_
           rotate_left
           ·simp only [Act.put, List.setIfInBounds_toArray, List.set_cons_zero, List.set_cons_succ, i64_w, i32_w]
            rfl
           refine pure_ (i := 38) (N := some 52) (v := undef) (a' := ?_) (bz5 40 549755813887) rfl rfl (any_of HT_.out (by kernel_rfl)) (fun _ _ _ h => h) (Or.inr ⟨by rfl, rfl⟩) ?_ ?_
           rotate_left
           ·simp only [Act.put, List.setIfInBounds_toArray, List.set_cons_zero, List.set_cons_succ, i64_w, i32_w]
            rfl
           refine pure_ (i := 39) (N := some 53) (v := ?_) (a' := ?_) (bz5 40 1099511627775) rfl rfl (any_of HT_.out (by kernel_rfl)) (fun _ _ _ h => h) (Or.inl ⟨by rfl, ?_⟩) ?_ ?_
           rotate_left
           ·intro w'
            go_simp
            with_reducible rfl
           rotate_left
           ·simp only [Act.put, List.setIfInBounds_toArray, List.set_cons_zero, List.set_cons_succ, i64_w, i32_w]
            rfl
           refine done_ (done_of HT_.out (by kernel_rfl)) ?_
           try go_wp2
           go_meet
           case rel => exact ⟨_, (true), (by first | rfl | (simp; done) | (simp [*]; done)), H', ⟨by have := HK1.out; first | omega | exact Nat.le_refl _⟩, ⟨by exact BK183.out⟩, ⟨by repeat (first | (with_reducible first | exact HI187.out | apply IsS96.alloc | apply IsS96.drewN | apply IsS96.drew | apply IsS96.set_0 | apply IsS96.set_1 | apply IsS96.set_2 | apply IsS96.set_3 | refine IsS96.far ?_ NB187_183.out _) | exact HI187.out)⟩, ⟨by repeat (first | (with_reducible first | exact HB.out | apply below_alloc | apply pw_below_drewN | apply below_drew1 | refine below_set ?_ (IsS96.ge HI187.out) | refine below_set ?_ GE183.out) | exact HB.out)⟩⟩
         ·replace c31 := Bool.eq_false_iff.mpr c31
          subst c31
          have H1 : (impl_GoodStore.j1 k1 x3_1 x9_1 l0_2 (l0_2.length : Int) x9_1 true a0_0 a0_1 l0_2 ((rd_T96 l0_2 x9_1).f0) ((rd_T96 l0_2 x9_1).f1) ((rd_T96 l0_2 x9_1).f2) ((rd_T96 l0_2 x9_1).f3)) = some r := by rw [if_neg (show ¬ (false = true) by decide)] at H; exact H
          clear H
          have H := H1
          clear H1
          have H' := Aside0.mk H
          clear H
          try go_wp2
          have n0_ : Aside0 (((((w8.setCell ⟨gb187, 0, none⟩ (.string ((rd_T96 l0_2 x9_1).f0))).setCell ⟨gb187, 1, none⟩ (.int .i64 ((rd_T96 l0_2 x9_1).f1))).setCell ⟨gb187, 2, none⟩ (.int .i64 ((rd_T96 l0_2 x9_1).f2))).setCell ⟨gb187, 3, none⟩ (.int .i64 ((rd_T96 l0_2 x9_1).f3))).heap[gb183]? = some (.cells #[.int .i64 a0_0, .int .i64 a0_1, .slice (some ad186) l0_2.length c0_2] 46 (0, 0))) := ⟨by refine blk_far ?_ NB183_187.out _; refine blk_far ?_ NB183_187.out _; refine blk_far ?_ NB183_187.out _; refine blk_far ?_ NB183_187.out _; exact BK183.out⟩
          have n1_ : Aside0 (IsS96 w ((((w8.setCell ⟨gb187, 0, none⟩ (.string ((rd_T96 l0_2 x9_1).f0))).setCell ⟨gb187, 1, none⟩ (.int .i64 ((rd_T96 l0_2 x9_1).f1))).setCell ⟨gb187, 2, none⟩ (.int .i64 ((rd_T96 l0_2 x9_1).f2))).setCell ⟨gb187, 3, none⟩ (.int .i64 ((rd_T96 l0_2 x9_1).f3))) gb187 ((rd_T96 l0_2 x9_1).f0) ((rd_T96 l0_2 x9_1).f1) ((rd_T96 l0_2 x9_1).f2) ((rd_T96 l0_2 x9_1).f3)) := ⟨by repeat (first | (with_reducible first | exact HI187.out | apply IsS96.alloc | apply IsS96.drewN | apply IsS96.drew | apply IsS96.set_0 | apply IsS96.set_1 | apply IsS96.set_2 | apply IsS96.set_3 | refine IsS96.far ?_ NB187_183.out _) | exact HI187.out)⟩
          have n2_ : Aside0 (Below w.heap.size w ((((w8.setCell ⟨gb187, 0, none⟩ (.string ((rd_T96 l0_2 x9_1).f0))).setCell ⟨gb187, 1, none⟩ (.int .i64 ((rd_T96 l0_2 x9_1).f1))).setCell ⟨gb187, 2, none⟩ (.int .i64 ((rd_T96 l0_2 x9_1).f2))).setCell ⟨gb187, 3, none⟩ (.int .i64 ((rd_T96 l0_2 x9_1).f3)))) := ⟨by repeat (first | (with_reducible first | exact HB.out | apply below_alloc | apply pw_below_drewN | apply below_drew1 | refine below_set ?_ (IsS96.ge HI187.out) | refine below_set ?_ GE183.out) | exact HB.out)⟩
          (try clear BK183)
          (try clear HI187)
          (try clear HB)
          generalize ((((w8.setCell ⟨gb187, 0, none⟩ (.string ((rd_T96 l0_2 x9_1).f0))).setCell ⟨gb187, 1, none⟩ (.int .i64 ((rd_T96 l0_2 x9_1).f1))).setCell ⟨gb187, 2, none⟩ (.int .i64 ((rd_T96 l0_2 x9_1).f2))).setCell ⟨gb187, 3, none⟩ (.int .i64 ((rd_T96 l0_2 x9_1).f3))) = w39 at n0_ n1_ n2_ ⊢
          have BK183 := n0_
          have HI187 := n1_
          have HB := n2_
          clear n0_ n1_ n2_
          have n0_ := Aside0.mk (blk_drew BK183.out)
          have n1_ := Aside0.mk (IsS96.drew HI187.out)
          have n2_ := Aside0.mk (below_drew1 HB.out)
          clear BK183
          clear HI187
          clear HB
          have BK183 := n0_
          have HI187 := n1_
          have HB := n2_
          clear n0_ n1_ n2_
          refine start_ (n := 40) (S := fun w' => w'.cell? ⟨gb187, 0, none⟩ = some (.string ((rd_T96 l0_2 x9_1).f0)) ∧ w'.cell? ⟨gb187, 1, none⟩ = some (.int .i64 ((rd_T96 l0_2 x9_1).f1)) ∧ w'.cell? ⟨gb187, 2, none⟩ = some (.int .i64 ((rd_T96 l0_2 x9_1).f2)) ∧ w'.cell? ⟨gb187, 3, none⟩ = some (.int .i64 ((rd_T96 l0_2 x9_1).f3))) (ds := []) #[false, false, false, false, false, false, false, false, false, false, false, false, false, false, false, false, false, false, false, false, false, false, false, false, false, false, false, false, false, false, false, false, false, false, false, false, false, false, false, false] (by kernel_rfl) rfl rfl ⟨(blk_cell HI187.out.1 0).trans rfl, (blk_cell HI187.out.1 1).trans rfl, (blk_cell HI187.out.1 2).trans rfl, (blk_cell HI187.out.1 3).trans rfl⟩ (fun hHeld => ?_); refine with_tabW impl_GoodStore.tab5 impl_GoodStore.bits5 (fun HT_ HW_ => ?_)
          generalize w39.drew = w40 at BK183 HI187 HB hHeld ⊢
          refine pure_ (i := 0) (N := some 14) (v := ?_) (a' := ?_) (bz5 40 1) rfl rfl (any_of HT_.out (by kernel_rfl)) (fun _ _ _ h => h) (Or.inl ⟨by rfl, ?_⟩) ?_ ?_
          rotate_left
          ·intro w'
           go_simp
           with_reducible rfl
          rotate_left
          ·simp only [Act.put, List.setIfInBounds_toArray, List.set_cons_zero, List.set_cons_succ, i64_w, i32_w]
           rfl
          refine take_ (i := 1) (N := some 15) (v := ?_) (a' := ?_) (bz5 40 3) rfl rfl (take_ofW HT_.out HW_.out (by kernel_rfl)) (fun _ _ _ h => h) (Or.inl ⟨by rfl, ?_⟩) hHeld ?_ ?_
          rotate_left
          ·rintro w' ⟨s0, s1, s2, s3⟩
           go_simp
           with_reducible rfl
          rotate_left
          ·simp only [Act.put, List.setIfInBounds_toArray, List.set_cons_zero, List.set_cons_succ, i64_w, i32_w]
           rfl
          refine one_ (i := 2) (N := some 16) (bz5 40 7) rfl rfl (one_of HT_.out (by kernel_rfl)) (by decide) (fun K hK => ?_)
          refine goes_ Try.func99 (by kernel_rfl) rfl #[.string ((rd_T96 l0_2 x9_1).f0)] (by rfl) rfl rfl (by (try simp only [List.map_toArray, List.map_cons, List.map_nil]); first | done | rfl | (simp only [List.length_drop, List.length_take]; rfl)) ?_
          with_reducible refine (impl_GoodName.calls k1 ((rd_T96 l0_2 x9_1).f0) true _ A10.out).mono ?_
          rintro e w' ⟨rfl, ⟨nd, rfl⟩⟩
          refine ⟨_, rfl, ?_⟩
          refine hK.out _ _ ⟨(blk_cell HI187.out.1 0).trans rfl, (blk_cell HI187.out.1 1).trans rfl, (blk_cell HI187.out.1 2).trans rfl, (blk_cell HI187.out.1 3).trans rfl⟩ (fun hHeld => ?_)
          clear hK K
          refine norm_ (a' := ?_) ?_ ?_
          rotate_left
          ·show Act.put _ (some 16) _ = _
           simp only [Act.put, List.setIfInBounds_toArray, List.set_cons_zero, List.set_cons_succ, i64_w, i32_w]
           rfl
          refine pure_ (i := 3) (N := some 17) (v := ?_) (a' := ?_) (bz5 40 15) rfl rfl (any_of HT_.out (by kernel_rfl)) (fun _ _ _ h => h) (Or.inl ⟨by rfl, ?_⟩) ?_ ?_
          rotate_left
          ·intro w'
           go_simp
           with_reducible rfl
          rotate_left
          ·simp only [Act.put, List.setIfInBounds_toArray, List.set_cons_zero, List.set_cons_succ, i64_w, i32_w]
           rfl
          refine pure_ (i := 4) (N := some 18) (v := ?_) (a' := ?_) (bz5 40 31) rfl rfl (any_of HT_.out (by kernel_rfl)) (fun _ _ _ h => h) (Or.inl ⟨by rfl, ?_⟩) ?_ ?_
          rotate_left
          ·intro w'
           go_simp
           with_reducible rfl
          rotate_left
          ·simp only [Act.put, List.setIfInBounds_toArray, List.set_cons_zero, List.set_cons_succ, i64_w, i32_w]
           rfl
          refine pure_ (i := 5) (N := some 19) (v := ?_) (a' := ?_) (bz5 40 63) rfl rfl (any_of HT_.out (by kernel_rfl)) (fun _ _ _ h => h) (Or.inl ⟨by rfl, ?_⟩) ?_ ?_
          rotate_left
          ·intro w'
           go_simp
           with_reducible rfl
          rotate_left
          ·simp only [Act.put, List.setIfInBounds_toArray, List.set_cons_zero, List.set_cons_succ, i64_w, i32_w]
           rfl
          refine pure_ (i := 6) (N := some 20) (v := ?_) (a' := ?_) (bz5 40 127) rfl rfl (any_of HT_.out (by kernel_rfl)) (fun _ _ _ h => h) (Or.inl ⟨by rfl, ?_⟩) ?_ ?_
          rotate_left
          ·intro w'
           go_simp
           with_reducible rfl
          rotate_left
          ·simp only [Act.put, List.setIfInBounds_toArray, List.set_cons_zero, List.set_cons_succ, i64_w, i32_w]
           rfl
          refine pure_ (i := 7) (N := some 21) (v := ?_) (a' := ?_) (bz5 40 255) rfl rfl (any_of HT_.out (by kernel_rfl)) (fun _ _ _ h => h) (Or.inl ⟨by rfl, ?_⟩) ?_ ?_
          rotate_left
          ·intro w'
           go_simp
           with_reducible rfl
          rotate_left
          ·simp only [Act.put, List.setIfInBounds_toArray, List.set_cons_zero, List.set_cons_succ, i64_w, i32_w]
           rfl
          refine pure_ (i := 8) (N := some 22) (v := undef) (a' := ?_) (bz5 40 511) rfl rfl (any_of HT_.out (by kernel_rfl)) (fun _ _ _ h => h) (Or.inr ⟨by rfl, rfl⟩) ?_ ?_
          rotate_left
          ·simp only [Act.put, List.setIfInBounds_toArray, List.set_cons_zero, List.set_cons_succ, i64_w, i32_w]
           rfl
          refine pure_ (i := 9) (N := some 23) (v := undef) (a' := ?_) (bz5 40 1023) rfl rfl (any_of HT_.out (by kernel_rfl)) (fun _ _ _ h => h) (Or.inr ⟨by rfl, rfl⟩) ?_ ?_
          rotate_left
          ·simp only [Act.put, List.setIfInBounds_toArray, List.set_cons_zero, List.set_cons_succ, i64_w, i32_w]
           rfl
          refine pure_ (i := 10) (N := some 24) (v := undef) (a' := ?_) (bz5 40 2047) rfl rfl (any_of HT_.out (by kernel_rfl)) (fun _ _ _ h => h) (Or.inr ⟨by rfl, rfl⟩) ?_ ?_
          rotate_left
          ·simp only [Act.put, List.setIfInBounds_toArray, List.set_cons_zero, List.set_cons_succ, i64_w, i32_w]
           rfl
          refine pure_ (i := 11) (N := some 25) (v := undef) (a' := ?_) (bz5 40 4095) rfl rfl (any_of HT_.out (by kernel_rfl)) (fun _ _ _ h => h) (Or.inr ⟨by rfl, rfl⟩) ?_ ?_
          rotate_left
          ·simp only [Act.put, List.setIfInBounds_toArray, List.set_cons_zero, List.set_cons_succ, i64_w, i32_w]
           rfl
          refine pure_ (i := 12) (N := some 26) (v := undef) (a' := ?_) (bz5 40 8191) rfl rfl (any_of HT_.out (by kernel_rfl)) (fun _ _ _ h => h) (Or.inr ⟨by rfl, rfl⟩) ?_ ?_
          rotate_left
          ·simp only [Act.put, List.setIfInBounds_toArray, List.set_cons_zero, List.set_cons_succ, i64_w, i32_w]
           rfl
          refine pure_ (i := 13) (N := some 27) (v := undef) (a' := ?_) (bz5 40 16383) rfl rfl (any_of HT_.out (by kernel_rfl)) (fun _ _ _ h => h) (Or.inr ⟨by rfl, rfl⟩) ?_ ?_
          rotate_left
          ·simp only [Act.put, List.setIfInBounds_toArray, List.set_cons_zero, List.set_cons_succ, i64_w, i32_w]
           rfl
          refine pure_ (i := 14) (N := some 28) (v := undef) (a' := ?_) (bz5 40 32767) rfl rfl (any_of HT_.out (by kernel_rfl)) (fun _ _ _ h => h) (Or.inr ⟨by rfl, rfl⟩) ?_ ?_
          rotate_left
          ·simp only [Act.put, List.setIfInBounds_toArray, List.set_cons_zero, List.set_cons_succ, i64_w, i32_w]
           rfl
          refine pure_ (i := 15) (N := some 29) (v := undef) (a' := ?_) (bz5 40 65535) rfl rfl (any_of HT_.out (by kernel_rfl)) (fun _ _ _ h => h) (Or.inr ⟨by rfl, rfl⟩) ?_ ?_
          rotate_left
          ·simp only [Act.put, List.setIfInBounds_toArray, List.set_cons_zero, List.set_cons_succ, i64_w, i32_w]
           rfl
          refine pure_ (i := 16) (N := some 30) (v := undef) (a' := ?_) (bz5 40 131071) rfl rfl (any_of HT_.out (by kernel_rfl)) (fun _ _ _ h => h) (Or.inr ⟨by rfl, rfl⟩) ?_ ?_
          rotate_left
          ·simp only [Act.put, List.setIfInBounds_toArray, List.set_cons_zero, List.set_cons_succ, i64_w, i32_w]
           rfl
          refine pure_ (i := 17) (N := some 31) (v := undef) (a' := ?_) (bz5 40 262143) rfl rfl (any_of HT_.out (by kernel_rfl)) (fun _ _ _ h => h) (Or.inr ⟨by rfl, rfl⟩) ?_ ?_
          rotate_left
          ·simp only [Act.put, List.setIfInBounds_toArray, List.set_cons_zero, List.set_cons_succ, i64_w, i32_w]
           rfl
          refine pure_ (i := 18) (N := some 32) (v := ?_) (a' := ?_) (bz5 40 524287) rfl rfl (any_of HT_.out (by kernel_rfl)) (fun _ _ _ h => h) (Or.inl ⟨by rfl, ?_⟩) ?_ ?_
          rotate_left
          ·intro w'
           go_simp
           with_reducible rfl
          rotate_left
          ·simp only [Act.put, List.setIfInBounds_toArray, List.set_cons_zero, List.set_cons_succ, i64_w, i32_w]
           rfl
          refine pure_ (i := 19) (N := some 33) (v := ?_) (a' := ?_) (bz5 40 1048575) rfl rfl (any_of HT_.out (by kernel_rfl)) (fun _ _ _ h => h) (Or.inl ⟨by rfl, ?_⟩) ?_ ?_
          rotate_left
          ·intro w'
           go_simp
           with_reducible rfl
          rotate_left
          ·simp only [Act.put, List.setIfInBounds_toArray, List.set_cons_zero, List.set_cons_succ, i64_w, i32_w]
           rfl
          refine pure_ (i := 20) (N := some 34) (v := ?_) (a' := ?_) (bz5 40 2097151) rfl rfl (any_of HT_.out (by kernel_rfl)) (fun _ _ _ h => h) (Or.inl ⟨by rfl, ?_⟩) ?_ ?_
          rotate_left
          ·intro w'
           go_simp
           with_reducible rfl
          rotate_left
          ·simp only [Act.put, List.setIfInBounds_toArray, List.set_cons_zero, List.set_cons_succ, i64_w, i32_w]
           rfl
          refine pure_ (i := 21) (N := some 35) (v := ?_) (a' := ?_) (bz5 40 4194303) rfl rfl (any_of HT_.out (by kernel_rfl)) (fun _ _ _ h => h) (Or.inl ⟨by rfl, ?_⟩) ?_ ?_
          rotate_left
          ·intro w'
           go_simp
           with_reducible rfl
          rotate_left
          ·simp only [Act.put, List.setIfInBounds_toArray, List.set_cons_zero, List.set_cons_succ, i64_w, i32_w]
           rfl
          refine take_ (i := 22) (N := some 36) (v := ?_) (a' := ?_) (bz5 40 8388607) rfl rfl (take_ofW HT_.out HW_.out (by kernel_rfl)) (fun _ _ _ h => h) (Or.inl ⟨by rfl, ?_⟩) hHeld ?_ ?_
          rotate_left
          ·rintro w' ⟨s0, s1, s2, s3⟩
           go_simp
           with_reducible rfl
          rotate_left
          ·simp only [Act.put, List.setIfInBounds_toArray, List.set_cons_zero, List.set_cons_succ, i64_w, i32_w]
           rfl
          refine one_ (i := 23) (N := some 37) (bz5 40 16777215) rfl rfl (one_of HT_.out (by kernel_rfl)) (by decide) (fun K hK => ?_)
          refine goes_ Try.func89 (by kernel_rfl) rfl #[.int .i64 ((rd_T96 l0_2 x9_1).f1), .int .i64 1, .int .i64 100000] (by rfl) rfl rfl (by (try simp only [List.map_toArray, List.map_cons, List.map_nil]); first | done | rfl | (simp only [List.length_drop, List.length_take]; rfl)) ?_
          with_reducible refine (impl_inRange.calls ((rd_T96 l0_2 x9_1).f1) 1 100000 false _ A30.out).mono ?_
          rintro e w' ⟨rfl, ⟨nd, rfl⟩⟩
          refine ⟨_, rfl, ?_⟩
          refine hK.out _ _ ⟨(blk_cell HI187.out.1 0).trans rfl, (blk_cell HI187.out.1 1).trans rfl, (blk_cell HI187.out.1 2).trans rfl, (blk_cell HI187.out.1 3).trans rfl⟩ (fun hHeld => ?_)
          clear hK K
          refine norm_ (a' := ?_) ?_ ?_
          rotate_left
          ·show Act.put _ (some 37) _ = _
           simp only [Act.put, List.setIfInBounds_toArray, List.set_cons_zero, List.set_cons_succ, i64_w, i32_w]
           rfl
          refine pure_ (i := 24) (N := some 38) (v := ?_) (a' := ?_) (bz5 40 33554431) rfl rfl (any_of HT_.out (by kernel_rfl)) (fun _ _ _ h => h) (Or.inl ⟨by rfl, ?_⟩) ?_ ?_
          rotate_left
          ·intro w'
           go_simp
           with_reducible rfl
          rotate_left
          ·simp only [Act.put, List.setIfInBounds_toArray, List.set_cons_zero, List.set_cons_succ, i64_w, i32_w]
           rfl
          refine pure_ (i := 25) (N := some 39) (v := ?_) (a' := ?_) (bz5 40 67108863) rfl rfl (any_of HT_.out (by kernel_rfl)) (fun _ _ _ h => h) (Or.inl ⟨by rfl, ?_⟩) ?_ ?_
          rotate_left
          ·intro w'
           go_simp
           with_reducible rfl
          rotate_left
          ·simp only [Act.put, List.setIfInBounds_toArray, List.set_cons_zero, List.set_cons_succ, i64_w, i32_w]
           rfl
          refine pure_ (i := 26) (N := some 40) (v := ?_) (a' := ?_) (bz5 40 134217727) rfl rfl (any_of HT_.out (by kernel_rfl)) (fun _ _ _ h => h) (Or.inl ⟨by rfl, ?_⟩) ?_ ?_
          rotate_left
          ·intro w'
           go_simp
           with_reducible rfl
          rotate_left
          ·simp only [Act.put, List.setIfInBounds_toArray, List.set_cons_zero, List.set_cons_succ, i64_w, i32_w]
           rfl
          refine pure_ (i := 27) (N := some 41) (v := undef) (a' := ?_) (bz5 40 268435455) rfl rfl (any_of HT_.out (by kernel_rfl)) (fun _ _ _ h => h) (Or.inr ⟨by rfl, rfl⟩) ?_ ?_
          rotate_left
          ·simp only [Act.put, List.setIfInBounds_toArray, List.set_cons_zero, List.set_cons_succ, i64_w, i32_w]
           rfl
          refine pure_ (i := 28) (N := some 42) (v := undef) (a' := ?_) (bz5 40 536870911) rfl rfl (any_of HT_.out (by kernel_rfl)) (fun _ _ _ h => h) (Or.inr ⟨by rfl, rfl⟩) ?_ ?_
          rotate_left
          ·simp only [Act.put, List.setIfInBounds_toArray, List.set_cons_zero, List.set_cons_succ, i64_w, i32_w]
           rfl
          refine pure_ (i := 29) (N := some 43) (v := undef) (a' := ?_) (bz5 40 1073741823) rfl rfl (any_of HT_.out (by kernel_rfl)) (fun _ _ _ h => h) (Or.inr ⟨by rfl, rfl⟩) ?_ ?_
          rotate_left
          ·simp only [Act.put, List.setIfInBounds_toArray, List.set_cons_zero, List.set_cons_succ, i64_w, i32_w]
           rfl
          refine pure_ (i := 30) (N := some 44) (v := undef) (a' := ?_) (bz5 40 2147483647) rfl rfl (any_of HT_.out (by kernel_rfl)) (fun _ _ _ h => h) (Or.inr ⟨by rfl, rfl⟩) ?_ ?_
          rotate_left
          ·simp only [Act.put, List.setIfInBounds_toArray, List.set_cons_zero, List.set_cons_succ, i64_w, i32_w]
           rfl
          refine pure_ (i := 31) (N := some 45) (v := ?_) (a' := ?_) (bz5 40 4294967295) rfl rfl (any_of HT_.out (by kernel_rfl)) (fun _ _ _ h => h) (Or.inl ⟨by rfl, ?_⟩) ?_ ?_
          rotate_left
          ·intro w'
           go_simp
           with_reducible rfl
          rotate_left
          ·simp only [Act.put, List.setIfInBounds_toArray, List.set_cons_zero, List.set_cons_succ, i64_w, i32_w]
           rfl
          refine pure_ (i := 32) (N := some 46) (v := ?_) (a' := ?_) (bz5 40 8589934591) rfl rfl (any_of HT_.out (by kernel_rfl)) (fun _ _ _ h => h) (Or.inl ⟨by rfl, ?_⟩) ?_ ?_
          rotate_left
          ·intro w'
           go_simp
           with_reducible rfl
          rotate_left
          ·simp only [Act.put, List.setIfInBounds_toArray, List.set_cons_zero, List.set_cons_succ, i64_w, i32_w]
           rfl
          refine pure_ (i := 33) (N := some 47) (v := undef) (a' := ?_) (bz5 40 17179869183) rfl rfl (any_of HT_.out (by kernel_rfl)) (fun _ _ _ h => h) (Or.inr ⟨by rfl, rfl⟩) ?_ ?_
          rotate_left
          ·simp only [Act.put, List.setIfInBounds_toArray, List.set_cons_zero, List.set_cons_succ, i64_w, i32_w]
           rfl
          refine pure_ (i := 34) (N := some 48) (v := undef) (a' := ?_) (bz5 40 34359738367) rfl rfl (any_of HT_.out (by kernel_rfl)) (fun _ _ _ h => h) (Or.inr ⟨by rfl, rfl⟩) ?_ ?_
          rotate_left
          ·simp only [Act.put, List.setIfInBounds_toArray, List.set_cons_zero, List.set_cons_succ, i64_w, i32_w]
           rfl
          refine pure_ (i := 35) (N := some 49) (v := undef) (a' := ?_) (bz5 40 68719476735) rfl rfl (any_of HT_.out (by kernel_rfl)) (fun _ _ _ h => h) (Or.inr ⟨by rfl, rfl⟩) ?_ ?_
          rotate_left
          ·simp only [Act.put, List.setIfInBounds_toArray, List.set_cons_zero, List.set_cons_succ, i64_w, i32_w]
           rfl
          refine pure_ (i := 36) (N := some 50) (v := undef) (a' := ?_) (bz5 40 137438953471) rfl rfl (any_of HT_.out (by kernel_rfl)) (fun _ _ _ h => h) (Or.inr ⟨by rfl, rfl⟩) ?_ ?_
          rotate_left
          ·simp only [Act.put, List.setIfInBounds_toArray, List.set_cons_zero, List.set_cons_succ, i64_w, i32_w]
           rfl
          refine pure_ (i := 37) (N := some 51) (v := undef) (a' := ?_) (bz5 40 274877906943) rfl rfl (any_of HT_.out (by kernel_rfl)) (fun _ _ _ h => h) (Or.inr ⟨by rfl, rfl⟩) ?_ ?_
          rotate_left
          ·simp only [Act.put, List.setIfInBounds_toArray, List.set_cons_zero, List.set_cons_succ, i64_w, i32_w]
           rfl
          refine pure_ (i := 38) (N := some 52) (v := undef) (a' := ?_) (bz5 40 549755813887) rfl rfl (any_of HT_.out (by kernel_rfl)) (fun _ _ _ h => h) (Or.inr ⟨by rfl, rfl⟩) ?_ ?_
          rotate_left
          ·simp only [Act.put, List.setIfInBounds_toArray, List.set_cons_zero, List.set_cons_succ, i64_w, i32_w]
           rfl
          refine pure_ (i := 39) (N := some 53) (v := ?_) (a' := ?_) (bz5 40 1099511627775) rfl rfl (any_of HT_.out (by kernel_rfl)) (fun _ _ _ h => h) (Or.inl ⟨by rfl, ?_⟩) ?_ ?_
          rotate_left
          ·intro w'
           go_simp
           with_reducible rfl
          rotate_left
          ·simp only [Act.put, List.setIfInBounds_toArray, List.set_cons_zero, List.set_cons_succ, i64_w, i32_w]
           rfl
          refine done_ (done_of HT_.out (by kernel_rfl)) ?_
          try go_wp2
          go_meet
          case rel => exact ⟨_, (true), (by first | rfl | (simp; done) | (simp [*]; done)), H', ⟨by have := HK1.out; first | omega | exact Nat.le_refl _⟩, ⟨by exact BK183.out⟩, ⟨by repeat (first | (with_reducible first | exact HI187.out | apply IsS96.alloc | apply IsS96.drewN | apply IsS96.drew | apply IsS96.set_0 | apply IsS96.set_1 | apply IsS96.set_2 | apply IsS96.set_3 | refine IsS96.far ?_ NB187_183.out _) | exact HI187.out)⟩, ⟨by repeat (first | (with_reducible first | exact HB.out | apply below_alloc | apply pw_below_drewN | apply below_drew1 | refine below_set ?_ (IsS96.ge HI187.out) | refine below_set ?_ GE183.out) | exact HB.out)⟩⟩
       ·replace c11 := Bool.eq_false_iff.mpr c11
        subst c11
        have H1 : (impl_GoodStore.j1 k1 x3_1 x9_1 l0_2 (l0_2.length : Int) x9_1 true a0_0 a0_1 l0_2 ((rd_T96 l0_2 x9_1).f0) ((rd_T96 l0_2 x9_1).f1) ((rd_T96 l0_2 x9_1).f2) ((rd_T96 l0_2 x9_1).f3)) = some r := by rw [if_neg (show ¬ (false = true) by decide)] at H; exact H
        clear H
        have H := H1
        clear H1
        have H' := Aside0.mk H
        clear H
        try go_wp2
        have n0_ : Aside0 (((((w8.setCell ⟨gb187, 0, none⟩ (.string ((rd_T96 l0_2 x9_1).f0))).setCell ⟨gb187, 1, none⟩ (.int .i64 ((rd_T96 l0_2 x9_1).f1))).setCell ⟨gb187, 2, none⟩ (.int .i64 ((rd_T96 l0_2 x9_1).f2))).setCell ⟨gb187, 3, none⟩ (.int .i64 ((rd_T96 l0_2 x9_1).f3))).heap[gb183]? = some (.cells #[.int .i64 a0_0, .int .i64 a0_1, .slice (some ad186) l0_2.length c0_2] 46 (0, 0))) := ⟨by refine blk_far ?_ NB183_187.out _; refine blk_far ?_ NB183_187.out _; refine blk_far ?_ NB183_187.out _; refine blk_far ?_ NB183_187.out _; exact BK183.out⟩
        have n1_ : Aside0 (IsS96 w ((((w8.setCell ⟨gb187, 0, none⟩ (.string ((rd_T96 l0_2 x9_1).f0))).setCell ⟨gb187, 1, none⟩ (.int .i64 ((rd_T96 l0_2 x9_1).f1))).setCell ⟨gb187, 2, none⟩ (.int .i64 ((rd_T96 l0_2 x9_1).f2))).setCell ⟨gb187, 3, none⟩ (.int .i64 ((rd_T96 l0_2 x9_1).f3))) gb187 ((rd_T96 l0_2 x9_1).f0) ((rd_T96 l0_2 x9_1).f1) ((rd_T96 l0_2 x9_1).f2) ((rd_T96 l0_2 x9_1).f3)) := ⟨by repeat (first | (with_reducible first | exact HI187.out | apply IsS96.alloc | apply IsS96.drewN | apply IsS96.drew | apply IsS96.set_0 | apply IsS96.set_1 | apply IsS96.set_2 | apply IsS96.set_3 | refine IsS96.far ?_ NB187_183.out _) | exact HI187.out)⟩
        have n2_ : Aside0 (Below w.heap.size w ((((w8.setCell ⟨gb187, 0, none⟩ (.string ((rd_T96 l0_2 x9_1).f0))).setCell ⟨gb187, 1, none⟩ (.int .i64 ((rd_T96 l0_2 x9_1).f1))).setCell ⟨gb187, 2, none⟩ (.int .i64 ((rd_T96 l0_2 x9_1).f2))).setCell ⟨gb187, 3, none⟩ (.int .i64 ((rd_T96 l0_2 x9_1).f3)))) := ⟨by repeat (first | (with_reducible first | exact HB.out | apply below_alloc | apply pw_below_drewN | apply below_drew1 | refine below_set ?_ (IsS96.ge HI187.out) | refine below_set ?_ GE183.out) | exact HB.out)⟩
        (try clear BK183)
        (try clear HI187)
        (try clear HB)
        generalize ((((w8.setCell ⟨gb187, 0, none⟩ (.string ((rd_T96 l0_2 x9_1).f0))).setCell ⟨gb187, 1, none⟩ (.int .i64 ((rd_T96 l0_2 x9_1).f1))).setCell ⟨gb187, 2, none⟩ (.int .i64 ((rd_T96 l0_2 x9_1).f2))).setCell ⟨gb187, 3, none⟩ (.int .i64 ((rd_T96 l0_2 x9_1).f3))) = w41 at n0_ n1_ n2_ ⊢
        have BK183 := n0_
        have HI187 := n1_
        have HB := n2_
        clear n0_ n1_ n2_
        have n0_ := Aside0.mk (blk_drew BK183.out)
        have n1_ := Aside0.mk (IsS96.drew HI187.out)
        have n2_ := Aside0.mk (below_drew1 HB.out)
        clear BK183
        clear HI187
        clear HB
        have BK183 := n0_
        have HI187 := n1_
        have HB := n2_
        clear n0_ n1_ n2_
        refine start_ (n := 40) (S := fun w' => w'.cell? ⟨gb187, 0, none⟩ = some (.string ((rd_T96 l0_2 x9_1).f0)) ∧ w'.cell? ⟨gb187, 1, none⟩ = some (.int .i64 ((rd_T96 l0_2 x9_1).f1)) ∧ w'.cell? ⟨gb187, 2, none⟩ = some (.int .i64 ((rd_T96 l0_2 x9_1).f2)) ∧ w'.cell? ⟨gb187, 3, none⟩ = some (.int .i64 ((rd_T96 l0_2 x9_1).f3))) (ds := []) #[false, false, false, false, false, false, false, false, false, false, false, false, false, false, false, false, false, false, false, false, false, false, false, false, false, false, false, false, false, false, false, false, false, false, false, false, false, false, false, false] (by kernel_rfl) rfl rfl ⟨(blk_cell HI187.out.1 0).trans rfl, (blk_cell HI187.out.1 1).trans rfl, (blk_cell HI187.out.1 2).trans rfl, (blk_cell HI187.out.1 3).trans rfl⟩ (fun hHeld => ?_); refine with_tabW impl_GoodStore.tab5 impl_GoodStore.bits5 (fun HT_ HW_ => ?_)
        generalize w41.drew = w42 at BK183 HI187 HB hHeld ⊢
        refine pure_ (i := 0) (N := some 14) (v := ?_) (a' := ?_) (bz5 40 1) rfl rfl (any_of HT_.out (by kernel_rfl)) (fun _ _ _ h => h) (Or.inl ⟨by rfl, ?_⟩) ?_ ?_
        rotate_left
        ·intro w'
         go_simp
         with_reducible rfl
        rotate_left
        ·simp only [Act.put, List.setIfInBounds_toArray, List.set_cons_zero, List.set_cons_succ, i64_w, i32_w]
         rfl
        refine take_ (i := 1) (N := some 15) (v := ?_) (a' := ?_) (bz5 40 3) rfl rfl (take_ofW HT_.out HW_.out (by kernel_rfl)) (fun _ _ _ h => h) (Or.inl ⟨by rfl, ?_⟩) hHeld ?_ ?_
        rotate_left
        ·rintro w' ⟨s0, s1, s2, s3⟩
         go_simp
         with_reducible rfl
        rotate_left
        ·simp only [Act.put, List.setIfInBounds_toArray, List.set_cons_zero, List.set_cons_succ, i64_w, i32_w]
         rfl
        refine one_ (i := 2) (N := some 16) (bz5 40 7) rfl rfl (one_of HT_.out (by kernel_rfl)) (by decide) (fun K hK => ?_)
        refine goes_ Try.func99 (by kernel_rfl) rfl #[.string ((rd_T96 l0_2 x9_1).f0)] (by rfl) rfl rfl (by (try simp only [List.map_toArray, List.map_cons, List.map_nil]); first | done | rfl | (simp only [List.length_drop, List.length_take]; rfl)) ?_
        with_reducible refine (impl_GoodName.calls k1 ((rd_T96 l0_2 x9_1).f0) false _ A10.out).mono ?_
        rintro e w' ⟨rfl, ⟨nd, rfl⟩⟩
        refine ⟨_, rfl, ?_⟩
        refine hK.out _ _ ⟨(blk_cell HI187.out.1 0).trans rfl, (blk_cell HI187.out.1 1).trans rfl, (blk_cell HI187.out.1 2).trans rfl, (blk_cell HI187.out.1 3).trans rfl⟩ (fun hHeld => ?_)
        clear hK K
        refine norm_ (a' := ?_) ?_ ?_
        rotate_left
        ·show Act.put _ (some 16) _ = _
         simp only [Act.put, List.setIfInBounds_toArray, List.set_cons_zero, List.set_cons_succ, i64_w, i32_w]
         rfl
        refine pure_ (i := 3) (N := some 17) (v := ?_) (a' := ?_) (bz5 40 15) rfl rfl (any_of HT_.out (by kernel_rfl)) (fun _ _ _ h => h) (Or.inl ⟨by rfl, ?_⟩) ?_ ?_
        rotate_left
        ·intro w'
         go_simp
         with_reducible rfl
        rotate_left
        ·simp only [Act.put, List.setIfInBounds_toArray, List.set_cons_zero, List.set_cons_succ, i64_w, i32_w]
         rfl
        refine pure_ (i := 4) (N := some 18) (v := ?_) (a' := ?_) (bz5 40 31) rfl rfl (any_of HT_.out (by kernel_rfl)) (fun _ _ _ h => h) (Or.inl ⟨by rfl, ?_⟩) ?_ ?_
        rotate_left
        ·intro w'
         go_simp
         with_reducible rfl
        rotate_left
        ·simp only [Act.put, List.setIfInBounds_toArray, List.set_cons_zero, List.set_cons_succ, i64_w, i32_w]
         rfl
        refine pure_ (i := 5) (N := some 19) (v := undef) (a' := ?_) (bz5 40 63) rfl rfl (any_of HT_.out (by kernel_rfl)) (fun _ _ _ h => h) (Or.inr ⟨by rfl, rfl⟩) ?_ ?_
        rotate_left
        ·simp only [Act.put, List.setIfInBounds_toArray, List.set_cons_zero, List.set_cons_succ, i64_w, i32_w]
         rfl
        refine pure_ (i := 6) (N := some 20) (v := undef) (a' := ?_) (bz5 40 127) rfl rfl (any_of HT_.out (by kernel_rfl)) (fun _ _ _ h => h) (Or.inr ⟨by rfl, rfl⟩) ?_ ?_
        rotate_left
        ·simp only [Act.put, List.setIfInBounds_toArray, List.set_cons_zero, List.set_cons_succ, i64_w, i32_w]
         rfl
        refine pure_ (i := 7) (N := some 21) (v := undef) (a' := ?_) (bz5 40 255) rfl rfl (any_of HT_.out (by kernel_rfl)) (fun _ _ _ h => h) (Or.inr ⟨by rfl, rfl⟩) ?_ ?_
        rotate_left
        ·simp only [Act.put, List.setIfInBounds_toArray, List.set_cons_zero, List.set_cons_succ, i64_w, i32_w]
         rfl
        refine pure_ (i := 8) (N := some 22) (v := undef) (a' := ?_) (bz5 40 511) rfl rfl (any_of HT_.out (by kernel_rfl)) (fun _ _ _ h => h) (Or.inr ⟨by rfl, rfl⟩) ?_ ?_
        rotate_left
        ·simp only [Act.put, List.setIfInBounds_toArray, List.set_cons_zero, List.set_cons_succ, i64_w, i32_w]
         rfl
        refine pure_ (i := 9) (N := some 23) (v := undef) (a' := ?_) (bz5 40 1023) rfl rfl (any_of HT_.out (by kernel_rfl)) (fun _ _ _ h => h) (Or.inr ⟨by rfl, rfl⟩) ?_ ?_
        rotate_left
        ·simp only [Act.put, List.setIfInBounds_toArray, List.set_cons_zero, List.set_cons_succ, i64_w, i32_w]
         rfl
        refine pure_ (i := 10) (N := some 24) (v := undef) (a' := ?_) (bz5 40 2047) rfl rfl (any_of HT_.out (by kernel_rfl)) (fun _ _ _ h => h) (Or.inr ⟨by rfl, rfl⟩) ?_ ?_
        rotate_left
        ·simp only [Act.put, List.setIfInBounds_toArray, List.set_cons_zero, List.set_cons_succ, i64_w, i32_w]
         rfl
        refine pure_ (i := 11) (N := some 25) (v := undef) (a' := ?_) (bz5 40 4095) rfl rfl (any_of HT_.out (by kernel_rfl)) (fun _ _ _ h => h) (Or.inr ⟨by rfl, rfl⟩) ?_ ?_
        rotate_left
        ·simp only [Act.put, List.setIfInBounds_toArray, List.set_cons_zero, List.set_cons_succ, i64_w, i32_w]
         rfl
        refine pure_ (i := 12) (N := some 26) (v := undef) (a' := ?_) (bz5 40 8191) rfl rfl (any_of HT_.out (by kernel_rfl)) (fun _ _ _ h => h) (Or.inr ⟨by rfl, rfl⟩) ?_ ?_
        rotate_left
        ·simp only [Act.put, List.setIfInBounds_toArray, List.set_cons_zero, List.set_cons_succ, i64_w, i32_w]
         rfl
        refine pure_ (i := 13) (N := some 27) (v := undef) (a' := ?_) (bz5 40 16383) rfl rfl (any_of HT_.out (by kernel_rfl)) (fun _ _ _ h => h) (Or.inr ⟨by rfl, rfl⟩) ?_ ?_
        rotate_left
        ·simp only [Act.put, List.setIfInBounds_toArray, List.set_cons_zero, List.set_cons_succ, i64_w, i32_w]
         rfl
        refine pure_ (i := 14) (N := some 28) (v := undef) (a' := ?_) (bz5 40 32767) rfl rfl (any_of HT_.out (by kernel_rfl)) (fun _ _ _ h => h) (Or.inr ⟨by rfl, rfl⟩) ?_ ?_
        rotate_left
        ·simp only [Act.put, List.setIfInBounds_toArray, List.set_cons_zero, List.set_cons_succ, i64_w, i32_w]
         rfl
        refine pure_ (i := 15) (N := some 29) (v := undef) (a' := ?_) (bz5 40 65535) rfl rfl (any_of HT_.out (by kernel_rfl)) (fun _ _ _ h => h) (Or.inr ⟨by rfl, rfl⟩) ?_ ?_
        rotate_left
        ·simp only [Act.put, List.setIfInBounds_toArray, List.set_cons_zero, List.set_cons_succ, i64_w, i32_w]
         rfl
        refine pure_ (i := 16) (N := some 30) (v := undef) (a' := ?_) (bz5 40 131071) rfl rfl (any_of HT_.out (by kernel_rfl)) (fun _ _ _ h => h) (Or.inr ⟨by rfl, rfl⟩) ?_ ?_
        rotate_left
        ·simp only [Act.put, List.setIfInBounds_toArray, List.set_cons_zero, List.set_cons_succ, i64_w, i32_w]
         rfl
        refine pure_ (i := 17) (N := some 31) (v := undef) (a' := ?_) (bz5 40 262143) rfl rfl (any_of HT_.out (by kernel_rfl)) (fun _ _ _ h => h) (Or.inr ⟨by rfl, rfl⟩) ?_ ?_
        rotate_left
        ·simp only [Act.put, List.setIfInBounds_toArray, List.set_cons_zero, List.set_cons_succ, i64_w, i32_w]
         rfl
        refine pure_ (i := 18) (N := some 32) (v := undef) (a' := ?_) (bz5 40 524287) rfl rfl (any_of HT_.out (by kernel_rfl)) (fun _ _ _ h => h) (Or.inr ⟨by rfl, rfl⟩) ?_ ?_
        rotate_left
        ·simp only [Act.put, List.setIfInBounds_toArray, List.set_cons_zero, List.set_cons_succ, i64_w, i32_w]
         rfl
        refine pure_ (i := 19) (N := some 33) (v := ?_) (a' := ?_) (bz5 40 1048575) rfl rfl (any_of HT_.out (by kernel_rfl)) (fun _ _ _ h => h) (Or.inl ⟨by rfl, ?_⟩) ?_ ?_
        rotate_left
        ·intro w'
         go_simp
         with_reducible rfl
        rotate_left
        ·simp only [Act.put, List.setIfInBounds_toArray, List.set_cons_zero, List.set_cons_succ, i64_w, i32_w]
         rfl
        refine pure_ (i := 20) (N := some 34) (v := ?_) (a' := ?_) (bz5 40 2097151) rfl rfl (any_of HT_.out (by kernel_rfl)) (fun _ _ _ h => h) (Or.inl ⟨by rfl, ?_⟩) ?_ ?_
        rotate_left
        ·intro w'
         go_simp
         with_reducible rfl
        rotate_left
        ·simp only [Act.put, List.setIfInBounds_toArray, List.set_cons_zero, List.set_cons_succ, i64_w, i32_w]
         rfl
        refine pure_ (i := 21) (N := some 35) (v := undef) (a' := ?_) (bz5 40 4194303) rfl rfl (any_of HT_.out (by kernel_rfl)) (fun _ _ _ h => h) (Or.inr ⟨by rfl, rfl⟩) ?_ ?_
        rotate_left
        ·simp only [Act.put, List.setIfInBounds_toArray, List.set_cons_zero, List.set_cons_succ, i64_w, i32_w]
         rfl
        refine pure_ (i := 22) (N := some 36) (v := undef) (a' := ?_) (bz5 40 8388607) rfl rfl (any_of HT_.out (by kernel_rfl)) (fun _ _ _ h => h) (Or.inr ⟨by rfl, rfl⟩) ?_ ?_
        rotate_left
        ·simp only [Act.put, List.setIfInBounds_toArray, List.set_cons_zero, List.set_cons_succ, i64_w, i32_w]
         rfl
        refine pure_ (i := 23) (N := some 37) (v := undef) (a' := ?_) (bz5 40 16777215) rfl rfl (any_of HT_.out (by kernel_rfl)) (fun _ _ _ h => h) (Or.inr ⟨by rfl, rfl⟩) ?_ ?_
        rotate_left
        ·simp only [Act.put, List.setIfInBounds_toArray, List.set_cons_zero, List.set_cons_succ, i64_w, i32_w]
         rfl
        refine pure_ (i := 24) (N := some 38) (v := undef) (a' := ?_) (bz5 40 33554431) rfl rfl (any_of HT_.out (by kernel_rfl)) (fun _ _ _ h => h) (Or.inr ⟨by rfl, rfl⟩) ?_ ?_
        rotate_left
        ·simp only [Act.put, List.setIfInBounds_toArray, List.set_cons_zero, List.set_cons_succ, i64_w, i32_w]
         rfl
        refine pure_ (i := 25) (N := some 39) (v := ?_) (a' := ?_) (bz5 40 67108863) rfl rfl (any_of HT_.out (by kernel_rfl)) (fun _ _ _ h => h) (Or.inl ⟨by rfl, ?_⟩) ?_ ?_
        rotate_left
        ·intro w'
         go_simp
         with_reducible rfl
        rotate_left
        ·simp only [Act.put, List.setIfInBounds_toArray, List.set_cons_zero, List.set_cons_succ, i64_w, i32_w]
         rfl
        refine pure_ (i := 26) (N := some 40) (v := ?_) (a' := ?_) (bz5 40 134217727) rfl rfl (any_of HT_.out (by kernel_rfl)) (fun _ _ _ h => h) (Or.inl ⟨by rfl, ?_⟩) ?_ ?_
        rotate_left
        ·intro w'
         go_simp
         with_reducible rfl
        rotate_left
        ·simp only [Act.put, List.setIfInBounds_toArray, List.set_cons_zero, List.set_cons_succ, i64_w, i32_w]
         rfl
        refine pure_ (i := 27) (N := some 41) (v := undef) (a' := ?_) (bz5 40 268435455) rfl rfl (any_of HT_.out (by kernel_rfl)) (fun _ _ _ h => h) (Or.inr ⟨by rfl, rfl⟩) ?_ ?_
        rotate_left
        ·simp only [Act.put, List.setIfInBounds_toArray, List.set_cons_zero, List.set_cons_succ, i64_w, i32_w]
         rfl
        refine pure_ (i := 28) (N := some 42) (v := undef) (a' := ?_) (bz5 40 536870911) rfl rfl (any_of HT_.out (by kernel_rfl)) (fun _ _ _ h => h) (Or.inr ⟨by rfl, rfl⟩) ?_ ?_
        rotate_left
        ·simp only [Act.put, List.setIfInBounds_toArray, List.set_cons_zero, List.set_cons_succ, i64_w, i32_w]
         rfl
        refine pure_ (i := 29) (N := some 43) (v := undef) (a' := ?_) (bz5 40 1073741823) rfl rfl (any_of HT_.out (by kernel_rfl)) (fun _ _ _ h => h) (Or.inr ⟨by rfl, rfl⟩) ?_ ?_
        rotate_left
        ·simp only [Act.put, List.setIfInBounds_toArray, List.set_cons_zero, List.set_cons_succ, i64_w, i32_w]
         rfl
        refine pure_ (i := 30) (N := some 44) (v := undef) (a' := ?_) (bz5 40 2147483647) rfl rfl (any_of HT_.out (by kernel_rfl)) (fun _ _ _ h => h) (Or.inr ⟨by rfl, rfl⟩) ?_ ?_
        rotate_left
        ·simp only [Act.put, List.setIfInBounds_toArray, List.set_cons_zero, List.set_cons_succ, i64_w, i32_w]
         rfl
        refine pure_ (i := 31) (N := some 45) (v := ?_) (a' := ?_) (bz5 40 4294967295) rfl rfl (any_of HT_.out (by kernel_rfl)) (fun _ _ _ h => h) (Or.inl ⟨by rfl, ?_⟩) ?_ ?_
        rotate_left
        ·intro w'
         go_simp
         with_reducible rfl
        rotate_left
        ·simp only [Act.put, List.setIfInBounds_toArray, List.set_cons_zero, List.set_cons_succ, i64_w, i32_w]
         rfl
        refine pure_ (i := 32) (N := some 46) (v := ?_) (a' := ?_) (bz5 40 8589934591) rfl rfl (any_of HT_.out (by kernel_rfl)) (fun _ _ _ h => h) (Or.inl ⟨by rfl, ?_⟩) ?_ ?_
        rotate_left
        ·intro w'
         go_simp
         with_reducible rfl
        rotate_left
        ·simp only [Act.put, List.setIfInBounds_toArray, List.set_cons_zero, List.set_cons_succ, i64_w, i32_w]
         rfl
        refine pure_ (i := 33) (N := some 47) (v := undef) (a' := ?_) (bz5 40 17179869183) rfl rfl (any_of HT_.out (by kernel_rfl)) (fun _ _ _ h => h) (Or.inr ⟨by rfl, rfl⟩) ?_ ?_
        rotate_left
        ·simp only [Act.put, List.setIfInBounds_toArray, List.set_cons_zero, List.set_cons_succ, i64_w, i32_w]
         rfl
        refine pure_ (i := 34) (N := some 48) (v := undef) (a' := ?_) (bz5 40 34359738367) rfl rfl (any_of HT_.out (by kernel_rfl)) (fun _ _ _ h => h) (Or.inr ⟨by rfl, rfl⟩) ?_ ?_
        rotate_left
        ·simp only [Act.put, List.setIfInBounds_toArray, List.set_cons_zero, List.set_cons_succ, i64_w, i32_w]
         rfl
        refine pure_ (i := 35) (N := some 49) (v := undef) (a' := ?_) (bz5 40 68719476735) rfl rfl (any_of HT_.out (by kernel_rfl)) (fun _ _ _ h => h) (Or.inr ⟨by rfl, rfl⟩) ?_ ?_
        rotate_left
        ·simp only [Act.put, List.setIfInBounds_toArray, List.set_cons_zero, List.set_cons_succ, i64_w, i32_w]
         rfl
        refine pure_ (i := 36) (N := some 50) (v := undef) (a' := ?_) (bz5 40 137438953471) rfl rfl (any_of HT_.out (by kernel_rfl)) (fun _ _ _ h => h) (Or.inr ⟨by rfl, rfl⟩) ?_ ?_
        rotate_left
        ·simp only [Act.put, List.setIfInBounds_toArray, List.set_cons_zero, List.set_cons_succ, i64_w, i32_w]
         rfl
        refine pure_ (i := 37) (N := some 51) (v := undef) (a' := ?_) (bz5 40 274877906943) rfl rfl (any_of HT_.out (by kernel_rfl)) (fun _ _ _ h => h) (Or.inr ⟨by rfl, rfl⟩) ?_ ?_
        rotate_left
        ·simp only [Act.put, List.setIfInBounds_toArray, List.set_cons_zero, List.set_cons_succ, i64_w, i32_w]
         rfl
        refine pure_ (i := 38) (N := some 52) (v := undef) (a' := ?_) (bz5 40 549755813887) rfl rfl (any_of HT_.out (by kernel_rfl)) (fun _ _ _ h => h) (Or.inr ⟨by rfl, rfl⟩) ?_ ?_
        rotate_left
        ·simp only [Act.put, List.setIfInBounds_toArray, List.set_cons_zero, List.set_cons_succ, i64_w, i32_w]
         rfl
        refine pure_ (i := 39) (N := some 53) (v := ?_) (a' := ?_) (bz5 40 1099511627775) rfl rfl (any_of HT_.out (by kernel_rfl)) (fun _ _ _ h => h) (Or.inl ⟨by rfl, ?_⟩) ?_ ?_
        rotate_left
        ·intro w'
         go_simp
         with_reducible rfl
        rotate_left
        ·simp only [Act.put, List.setIfInBounds_toArray, List.set_cons_zero, List.set_cons_succ, i64_w, i32_w]
         rfl
        refine done_ (done_of HT_.out (by kernel_rfl)) ?_
        try go_wp2
        go_meet
        case rel => exact ⟨_, (true), (by first | rfl | (simp; done) | (simp [*]; done)), H', ⟨by have := HK1.out; first | omega | exact Nat.le_refl _⟩, ⟨by exact BK183.out⟩, ⟨by repeat (first | (with_reducible first | exact HI187.out | apply IsS96.alloc | apply IsS96.drewN | apply IsS96.drew | apply IsS96.set_0 | apply IsS96.set_1 | apply IsS96.set_2 | apply IsS96.set_3 | refine IsS96.far ?_ NB187_183.out _) | exact HI187.out)⟩, ⟨by repeat (first | (with_reducible first | exact HB.out | apply below_alloc | apply pw_below_drewN | apply below_drew1 | refine below_set ?_ (IsS96.ge HI187.out) | refine below_set ?_ GE183.out) | exact HB.out)⟩⟩
      case rest =>
       clear HC7
       try clear c1
       try clear p2
       try clear c3
       try clear c8
       try clear c9
       try clear c11
       try clear c31
       obtain ⟨kq, x53_6, rfl, HA, HJ6, BK183, HI187, HB⟩ := hcut
       cases kq with
       | zero => exact absurd HA.out (by simp [impl_GoodStore.j1])
       | succ kj6 =>
        have H := HA.out
        clear HA
        simp only [impl_GoodStore.j1] at H
        by_cases c43 : x53_6 = true
        ·subst c43
         have H1 : (some false) = some r := by rw [if_pos rfl] at H; exact H
         clear H
         have H := H1
         clear H1
         obtain rfl := Option.some.inj H
         go_wp2
         go_ret
         exact ⟨by first | rfl | (simp [errW_none, errW_some] <;> rfl) | (simp [*, errW_none, errW_some] <;> rfl), by repeat (first | (with_reducible first | exact HB.out | apply below_alloc | apply pw_below_drewN | apply below_drew1 | refine below_set ?_ (IsS96.ge HI187.out) | refine below_set ?_ GE183.out) | exact HB.out)⟩
        ·replace c43 := Bool.eq_false_iff.mpr c43
         subst c43
         have H1 : (if ((rd_T96 l0_2 x9_1).f3) > 0 then (if 0 ≤ x9_1 then (if x9_1 ≤ (l0_2.length : Int) then ((slices_ContainsFunc_at107.f kj6 (l0_2.take (x9_1 : Int).toNat) ((rd_T96 l0_2 x9_1).f0) ((rd_T96 l0_2 x9_1).f1) ((rd_T96 l0_2 x9_1).f2) ((rd_T96 l0_2 x9_1).f3)).bind fun bt200 => (if bt200.1 = true then (some false) else (impl_GoodStore.l0 kj6 (wrap64 (x3_1 + bt200.2.2.1)) l0_2 (l0_2.length : Int) (wrap64 (x9_1 + 1)) a0_0 a0_1 l0_2))) else (none)) else (none)) else (impl_GoodStore.l0 kj6 (wrap64 (x3_1 + ((rd_T96 l0_2 x9_1).f1))) l0_2 (l0_2.length : Int) (wrap64 (x9_1 + 1)) a0_0 a0_1 l0_2)) = some r := by rw [if_neg (show ¬ (false = true) by decide)] at H; exact H
         clear H
         have H := H1
         clear H1
         by_cases c44 : ((rd_T96 l0_2 x9_1).f3) > 0
         ·rw [if_pos c44] at H
          have c44b0 : decide (0 < ((rd_T96 l0_2 x9_1).f3)) = true := decide_eq_true c44
          clear c44
          by_cases c45 : 0 ≤ x9_1
          ·rw [if_pos c45] at H
           have c45b0 := eq_true c45
           have c45b1 : decide (0 ≤ x9_1) = true := decide_eq_true c45
           clear c45
           by_cases c46 : x9_1 ≤ (l0_2.length : Int)
           ·rw [if_pos c46] at H
            have c46b0 := eq_true c46
            have c46b1 : decide (x9_1 ≤ (l0_2.length : Int)) = true := decide_eq_true c46
            clear c46
            obtain ⟨y196, hy196⟩ : ∃ y_ : List (S96), y_ = (l0_2.take (x9_1 : Int).toNat) := ⟨_, rfl⟩
            replace H : ((slices_ContainsFunc_at107.f kj6 y196 ((rd_T96 l0_2 x9_1).f0) ((rd_T96 l0_2 x9_1).f1) ((rd_T96 l0_2 x9_1).f2) ((rd_T96 l0_2 x9_1).f3)).bind fun bt200 => (if bt200.1 = true then (some false) else (impl_GoodStore.l0 kj6 (wrap64 (x3_1 + bt200.2.2.1)) l0_2 (l0_2.length : Int) (wrap64 (x9_1 + 1)) a0_0 a0_1 l0_2))) = some r := by first | (rw [hy196]; with_reducible exact H) | (have H2_ := (Option.bind_some _ _).symm.trans H; rw [hy196]; with_reducible exact H2_) | (have H2_ := (Option.bind_some _ _).symm.trans H; with_reducible exact H2_) | with_reducible exact H | (rw [hy196]; exact H) | exact H
            have Ny196 := Aside0.mk hy196
            clear hy196
            replace H := Option.bind_eq_some_iff.mp H
            obtain ⟨⟨t200, t201, t202, t203, t204⟩, A470, H⟩ := H
            replace H : (if t200 = true then (some false) else (impl_GoodStore.l0 kj6 (wrap64 (x3_1 + t202)) l0_2 (l0_2.length : Int) (wrap64 (x9_1 + 1)) a0_0 a0_1 l0_2)) = some r := H
            have A47 := Aside0.mk A470
            clear A470
            by_cases c48 : t200 = true
            ·subst c48
             have H1 : (some false) = some r := by rw [if_pos rfl] at H; exact H
             clear H
             have H := H1
             clear H1
             obtain rfl := Option.some.inj H
             obtain ⟨HGz49, hgz49⟩ := HI187.out
             have hcz49_0 := cellS96_0 HGz49
             have hcz49_1 := cellS96_1 HGz49
             have hcz49_2 := cellS96_2 HGz49
             have hcz49_3 := cellS96_3 HGz49
             have hfz49_0 := blk_frozen HGz49 0
             have hfz49_1 := blk_frozen HGz49 1
             have hfz49_2 := blk_frozen HGz49 2
             have hfz49_3 := blk_frozen HGz49 3
             clear HGz49 hgz49
             have hnb50 := NB183_187.out
             have hnc50 := NB187_183.out
             have hcz51_0 : wc.cell? ⟨gb183, 0, none⟩ = some (.int .i64 a0_0) := (blk_cell BK183.out 0).trans rfl
             have hcz51_1 : wc.cell? ⟨gb183, 1, none⟩ = some (.int .i64 a0_1) := (blk_cell BK183.out 1).trans rfl
             have hcz51_2 : wc.cell? ⟨gb183, 2, none⟩ = some (.slice (some ad186) l0_2.length c0_2) := (blk_cell BK183.out 2).trans rfl
             have hfz51_0 := blk_frozen BK183.out 0
             have hfz51_1 := blk_frozen BK183.out 1
             have hfz51_2 := blk_frozen BK183.out 2
             have q52 : (x9_1 : Int) ≤ ((l0_2.length : Int) : Int) := of_decide_eq_true (by first | (with_reducible assumption) | assumption)
             obtain ⟨i052, hi052, _, hsz52, _⟩ := info_parts info96
             have hroom52 : l0_2.length ≤ c0_2 := HC0_2.out
             have hC52 : Kd.C k96 _ (some ad186) l0_2.length l0_2 := HR0_2.out
             have hcut52 := cut_to (P := Try.prog) 44 96 .i64 Try.underlying44 hi052 (some ad186) l0_2.length c0_2 x9_1 (of_decide_eq_true (by first | (with_reducible assumption) | assumption)) q52 hroom52
             have hr52 := Kd.C_take (m := (x9_1 : Int).toNat) hC52 (by omega)
             have hy52 : y196.length = (x9_1 : Int).toNat := (by rw [Ny196.out, List.length_take]; omega)
             rw [← Ny196.out] at hr52
             rw [← hy52] at hcut52
             have HR199 := Aside0.mk hr52
             have HC199 := Aside0.mk (show y196.length ≤ c0_2 from by omega)
             clear hr52 hC52 hroom52 hi052 hsz52
             have KY52 := Aside0.mk hy52
             clear hy52
             replace q52 := eq_true q52
             go_wp2_with (first | (go_at_call 106; (with_reducible refine (slices_ContainsFunc_at107.calls kj6 _ _ y196 gb187 ((rd_T96 l0_2 x9_1).f0) ((rd_T96 l0_2 x9_1).f1) ((rd_T96 l0_2 x9_1).f2) ((rd_T96 l0_2 x9_1).f3) true t201 t202 t203 t204 w _ ?side1 ?side2 ?side3 ?side4 A47.out).mono ?_); (case side1 => repeat (first | (with_reducible first | exact HI187.out | apply IsS96.alloc | apply IsS96.drewN | apply IsS96.drew | apply IsS96.set_0 | apply IsS96.set_1 | apply IsS96.set_2 | apply IsS96.set_3 | refine IsS96.far ?_ NB187_183.out _) | exact HI187.out)); (case side2 => repeat (first | (with_reducible first | exact HB.out | apply below_alloc | apply pw_below_drewN | apply below_drew1 | refine below_set ?_ (IsS96.ge HI187.out) | refine below_set ?_ GE183.out) | exact HB.out)); (case side3 => exact Kd.C_foot_came k96_heap HR199.out (by repeat (first | (with_reducible first | exact HB.out | apply below_alloc | apply pw_below_drewN | apply below_drew1 | refine below_set ?_ (IsS96.ge HI187.out) | refine below_set ?_ GE183.out) | exact HB.out)) (IsS96.ge HI187.out)); (case side4 => exact HC199.out); rintro e w53 ⟨rfl, hi, hb, hk⟩; have n0_ := Aside0.mk (KeepBut.blk hk (g' := gb183) (o := .cells #[.int .i64 a0_0, .int .i64 a0_1, .slice (some ad186) l0_2.length c0_2] 46 (0, 0)) (by exact BK183.out) NB183_187.out (by simp)); have n1_ := Aside0.mk (hb); have n2_ := Aside0.mk (hi); clear BK183; clear HB; clear HI187; have BK183 := n0_; have HB := n1_; have HI187 := n2_; clear n0_ n1_ n2_; (try clear hb); (try clear hb2); (try clear hk); (try clear hi)))
             go_ret
             exact ⟨by first | rfl | (simp [errW_none, errW_some] <;> rfl) | (simp [*, errW_none, errW_some] <;> rfl), by repeat (first | (with_reducible first | exact HB.out | apply below_alloc | apply pw_below_drewN | apply below_drew1 | refine below_set ?_ (IsS96.ge HI187.out) | refine below_set ?_ GE183.out) | exact HB.out)⟩
            ·replace c48 := Bool.eq_false_iff.mpr c48
             subst c48
             have H1 : (impl_GoodStore.l0 kj6 (wrap64 (x3_1 + t202)) l0_2 (l0_2.length : Int) (wrap64 (x9_1 + 1)) a0_0 a0_1 l0_2) = some r := by rw [if_neg (show ¬ (false = true) by decide)] at H; exact H
             clear H
             have H := H1
             clear H1
             have H' := Aside0.mk H
             clear H
             obtain ⟨HGz54, hgz54⟩ := HI187.out
             have hcz54_0 := cellS96_0 HGz54
             have hcz54_1 := cellS96_1 HGz54
             have hcz54_2 := cellS96_2 HGz54
             have hcz54_3 := cellS96_3 HGz54
             have hfz54_0 := blk_frozen HGz54 0
             have hfz54_1 := blk_frozen HGz54 1
             have hfz54_2 := blk_frozen HGz54 2
             have hfz54_3 := blk_frozen HGz54 3
             clear HGz54 hgz54
             have hnb55 := NB183_187.out
             have hnc55 := NB187_183.out
             have hcz56_0 : wc.cell? ⟨gb183, 0, none⟩ = some (.int .i64 a0_0) := (blk_cell BK183.out 0).trans rfl
             have hcz56_1 : wc.cell? ⟨gb183, 1, none⟩ = some (.int .i64 a0_1) := (blk_cell BK183.out 1).trans rfl
             have hcz56_2 : wc.cell? ⟨gb183, 2, none⟩ = some (.slice (some ad186) l0_2.length c0_2) := (blk_cell BK183.out 2).trans rfl
             have hfz56_0 := blk_frozen BK183.out 0
             have hfz56_1 := blk_frozen BK183.out 1
             have hfz56_2 := blk_frozen BK183.out 2
             have q57 : (x9_1 : Int) ≤ ((l0_2.length : Int) : Int) := of_decide_eq_true (by first | (with_reducible assumption) | assumption)
             obtain ⟨i057, hi057, _, hsz57, _⟩ := info_parts info96
             have hroom57 : l0_2.length ≤ c0_2 := HC0_2.out
             have hC57 : Kd.C k96 _ (some ad186) l0_2.length l0_2 := HR0_2.out
             have hcut57 := cut_to (P := Try.prog) 44 96 .i64 Try.underlying44 hi057 (some ad186) l0_2.length c0_2 x9_1 (of_decide_eq_true (by first | (with_reducible assumption) | assumption)) q57 hroom57
             have hr57 := Kd.C_take (m := (x9_1 : Int).toNat) hC57 (by omega)
             have hy57 : y196.length = (x9_1 : Int).toNat := (by rw [Ny196.out, List.length_take]; omega)
             rw [← Ny196.out] at hr57
             rw [← hy57] at hcut57
             have HR199 := Aside0.mk hr57
             have HC199 := Aside0.mk (show y196.length ≤ c0_2 from by omega)
             clear hr57 hC57 hroom57 hi057 hsz57
             have KY57 := Aside0.mk hy57
             clear hy57
             replace q57 := eq_true q57
             go_wp2_with (first | (go_at_call 106; (with_reducible refine (slices_ContainsFunc_at107.calls kj6 _ _ y196 gb187 ((rd_T96 l0_2 x9_1).f0) ((rd_T96 l0_2 x9_1).f1) ((rd_T96 l0_2 x9_1).f2) ((rd_T96 l0_2 x9_1).f3) false t201 t202 t203 t204 w _ ?side1 ?side2 ?side3 ?side4 A47.out).mono ?_); (case side1 => repeat (first | (with_reducible first | exact HI187.out | apply IsS96.alloc | apply IsS96.drewN | apply IsS96.drew | apply IsS96.set_0 | apply IsS96.set_1 | apply IsS96.set_2 | apply IsS96.set_3 | refine IsS96.far ?_ NB187_183.out _) | exact HI187.out)); (case side2 => repeat (first | (with_reducible first | exact HB.out | apply below_alloc | apply pw_below_drewN | apply below_drew1 | refine below_set ?_ (IsS96.ge HI187.out) | refine below_set ?_ GE183.out) | exact HB.out)); (case side3 => exact Kd.C_foot_came k96_heap HR199.out (by repeat (first | (with_reducible first | exact HB.out | apply below_alloc | apply pw_below_drewN | apply below_drew1 | refine below_set ?_ (IsS96.ge HI187.out) | refine below_set ?_ GE183.out) | exact HB.out)) (IsS96.ge HI187.out)); (case side4 => exact HC199.out); rintro e w58 ⟨rfl, hi, hb, hk⟩; have n0_ := Aside0.mk (KeepBut.blk hk (g' := gb183) (o := .cells #[.int .i64 a0_0, .int .i64 a0_1, .slice (some ad186) l0_2.length c0_2] 46 (0, 0)) (by exact BK183.out) NB183_187.out (by simp)); have n1_ := Aside0.mk (hb); have n2_ := Aside0.mk (hi); clear BK183; clear HB; clear HI187; have BK183 := n0_; have HB := n1_; have HI187 := n2_; clear n0_ n1_ n2_; (try clear hb); (try clear hb2); (try clear hk); (try clear hi); obtain ⟨HGz59, hgz59⟩ := HI187.out; have hcz59_0 := cellS96_0 HGz59; have hcz59_1 := cellS96_1 HGz59; have hcz59_2 := cellS96_2 HGz59; have hcz59_3 := cellS96_3 HGz59; have hfz59_0 := blk_frozen HGz59 0; have hfz59_1 := blk_frozen HGz59 1; have hfz59_2 := blk_frozen HGz59 2; have hfz59_3 := blk_frozen HGz59 3; clear HGz59 hgz59))
             go_roundg kj6
             case measure => have := HK1.out; have := HJ6.out; omega
             case rel => exact ⟨(wrap64 (x3_1 + t202)), (wrap64 (x9_1 + 1)), (by first | rfl | (simp; done) | (simp [*]; done)), (by first | rfl | (simp; done) | (simp [*]; done)), H', ⟨by have := HK1.out; have := HJ6.out; omega⟩, ⟨by exact BK183.out⟩, ⟨by repeat (first | (with_reducible first | exact HB.out | apply below_alloc | apply pw_below_drewN | apply below_drew1 | refine below_set ?_ (IsS96.ge HI187.out) | refine below_set ?_ GE183.out) | exact HB.out)⟩⟩
           ·rw [if_neg c46] at H
            exact absurd H (by simp)
          ·rw [if_neg c45] at H
           exact absurd H (by simp)
         ·rw [if_neg c44] at H
          have c44b0 : decide (0 < ((rd_T96 l0_2 x9_1).f3)) = false := decide_eq_false c44
          clear c44
          have H' := Aside0.mk H
          clear H
          obtain ⟨HGz60, hgz60⟩ := HI187.out
          have hcz60_0 := cellS96_0 HGz60
          have hcz60_1 := cellS96_1 HGz60
          have hcz60_2 := cellS96_2 HGz60
          have hcz60_3 := cellS96_3 HGz60
          have hfz60_0 := blk_frozen HGz60 0
          have hfz60_1 := blk_frozen HGz60 1
          have hfz60_2 := blk_frozen HGz60 2
          have hfz60_3 := blk_frozen HGz60 3
          clear HGz60 hgz60
          go_wp2
          go_roundg kj6
          case measure => have := HK1.out; have := HJ6.out; omega
          case rel => exact ⟨(wrap64 (x3_1 + ((rd_T96 l0_2 x9_1).f1))), (wrap64 (x9_1 + 1)), (by first | rfl | (simp; done) | (simp [*]; done)), (by first | rfl | (simp; done) | (simp [*]; done)), H', ⟨by have := HK1.out; have := HJ6.out; omega⟩, ⟨by exact BK183.out⟩, ⟨by repeat (first | (with_reducible first | exact HB.out | apply below_alloc | apply pw_below_drewN | apply below_drew1 | refine below_set ?_ (IsS96.ge HI187.out) | refine below_set ?_ GE183.out) | exact HB.out)⟩⟩
     ·rw [if_neg c6] at H
      exact absurd H (by simp)
    ·rw [if_neg c5] at H
     exact absurd H (by simp)
   ·rw [if_neg c4] at H
    have c4b0 : decide (x9_1 < (l0_2.length : Int)) = false := decide_eq_false c4
    clear c4
    replace H := Option.bind_eq_some_iff.mp H
    obtain ⟨t184, A610, H⟩ := H
    replace H : (if t184 = true then ((impl_isTime.f a0_1).bind fun t185 => (if t185 = true then (if (l0_2.length : Int) ≤ 30 then (some (decide (x3_1 ≤ a0_0))) else (some false)) else (some false))) else (some false)) = some r := H
    have A61 := Aside0.mk A610
    clear A610
    by_cases c62 : t184 = true
    ·subst c62
     have H1 : ((impl_isTime.f a0_1).bind fun t185 => (if t185 = true then (if (l0_2.length : Int) ≤ 30 then (some (decide (x3_1 ≤ a0_0))) else (some false)) else (some false))) = some r := by rw [if_pos rfl] at H; exact H
     clear H
     have H := H1
     clear H1
     replace H := Option.bind_eq_some_iff.mp H
     obtain ⟨t185, A630, H⟩ := H
     replace H : (if t185 = true then (if (l0_2.length : Int) ≤ 30 then (some (decide (x3_1 ≤ a0_0))) else (some false)) else (some false)) = some r := H
     have A63 := Aside0.mk A630
     clear A630
     by_cases c64 : t185 = true
     ·subst c64
      have H1 : (if (l0_2.length : Int) ≤ 30 then (some (decide (x3_1 ≤ a0_0))) else (some false)) = some r := by rw [if_pos rfl] at H; exact H
      clear H
      have H := H1
      clear H1
      by_cases c65 : (l0_2.length : Int) ≤ 30
      ·rw [if_pos c65] at H
       have c65b0 : decide ((l0_2.length : Int) ≤ 30) = true := decide_eq_true c65
       have c65b1 : decide (l0_2.length ≤ 30) = true := decide_eq_true (by omega)
       clear c65
       obtain rfl := Option.some.inj H
       have hcz66_0 : wr.cell? ⟨gb183, 0, none⟩ = some (.int .i64 a0_0) := (blk_cell BK183.out 0).trans rfl
       have hcz66_1 : wr.cell? ⟨gb183, 1, none⟩ = some (.int .i64 a0_1) := (blk_cell BK183.out 1).trans rfl
       have hcz66_2 : wr.cell? ⟨gb183, 2, none⟩ = some (.slice A0_2 l0_2.length c0_2) := (blk_cell BK183.out 2).trans rfl
       have hfz66_0 := blk_frozen BK183.out 0
       have hfz66_1 := blk_frozen BK183.out 1
       have hfz66_2 := blk_frozen BK183.out 2
       go_wp2_with (first | ((with_reducible refine gate_callee (f := 89) rfl ?_); refine goesL_ (some 72) rfl rfl Try.func89 (by kernel_rfl) rfl #[.int .i64 a0_0, .int .i64 1, .int .i64 100000] rfl (by (try simp only [List.map_toArray, List.map_cons, List.map_nil]); first | done | rfl | (simp only [List.length_drop, List.length_take]; rfl)) ?_; (with_reducible refine (impl_inRange.calls a0_0 1 100000 true _ A61.out).mono ?_); rintro e w' ⟨rfl, ⟨nd, rfl⟩⟩; refine ⟨_, rfl, ?_⟩) | (go_at_call 75; (with_reducible refine (impl_isTime.calls a0_1 true _ A63.out).mono ?_); rintro e w' ⟨rfl, ⟨nd, rfl⟩⟩))
       go_ret
       exact ⟨by first | rfl | (simp [errW_none, errW_some] <;> rfl) | (simp [*, errW_none, errW_some] <;> rfl), by repeat (first | (with_reducible first | exact HB.out | apply below_alloc | apply pw_below_drewN | apply below_drew1 | refine below_set ?_ GE183.out) | exact HB.out)⟩
      ·rw [if_neg c65] at H
       have c65b0 : decide ((l0_2.length : Int) ≤ 30) = false := decide_eq_false c65
       have c65b1 : decide (l0_2.length ≤ 30) = false := decide_eq_false (by omega)
       clear c65
       obtain rfl := Option.some.inj H
       have hcz67_0 : wr.cell? ⟨gb183, 0, none⟩ = some (.int .i64 a0_0) := (blk_cell BK183.out 0).trans rfl
       have hcz67_1 : wr.cell? ⟨gb183, 1, none⟩ = some (.int .i64 a0_1) := (blk_cell BK183.out 1).trans rfl
       have hcz67_2 : wr.cell? ⟨gb183, 2, none⟩ = some (.slice A0_2 l0_2.length c0_2) := (blk_cell BK183.out 2).trans rfl
       have hfz67_0 := blk_frozen BK183.out 0
       have hfz67_1 := blk_frozen BK183.out 1
       have hfz67_2 := blk_frozen BK183.out 2
       go_wp2_with (first | ((with_reducible refine gate_callee (f := 89) rfl ?_); refine goesL_ (some 72) rfl rfl Try.func89 (by kernel_rfl) rfl #[.int .i64 a0_0, .int .i64 1, .int .i64 100000] rfl (by (try simp only [List.map_toArray, List.map_cons, List.map_nil]); first | done | rfl | (simp only [List.length_drop, List.length_take]; rfl)) ?_; (with_reducible refine (impl_inRange.calls a0_0 1 100000 true _ A61.out).mono ?_); rintro e w' ⟨rfl, ⟨nd, rfl⟩⟩; refine ⟨_, rfl, ?_⟩) | (go_at_call 75; (with_reducible refine (impl_isTime.calls a0_1 true _ A63.out).mono ?_); rintro e w' ⟨rfl, ⟨nd, rfl⟩⟩))
       go_ret
       exact ⟨by first | rfl | (simp [errW_none, errW_some] <;> rfl) | (simp [*, errW_none, errW_some] <;> rfl), by repeat (first | (with_reducible first | exact HB.out | apply below_alloc | apply pw_below_drewN | apply below_drew1 | refine below_set ?_ GE183.out) | exact HB.out)⟩
     ·replace c64 := Bool.eq_false_iff.mpr c64
      subst c64
      have H1 : (some false) = some r := by rw [if_neg (show ¬ (false = true) by decide)] at H; exact H
      clear H
      have H := H1
      clear H1
      obtain rfl := Option.some.inj H
      have hcz68_0 : wr.cell? ⟨gb183, 0, none⟩ = some (.int .i64 a0_0) := (blk_cell BK183.out 0).trans rfl
      have hcz68_1 : wr.cell? ⟨gb183, 1, none⟩ = some (.int .i64 a0_1) := (blk_cell BK183.out 1).trans rfl
      have hcz68_2 : wr.cell? ⟨gb183, 2, none⟩ = some (.slice A0_2 l0_2.length c0_2) := (blk_cell BK183.out 2).trans rfl
      have hfz68_0 := blk_frozen BK183.out 0
      have hfz68_1 := blk_frozen BK183.out 1
      have hfz68_2 := blk_frozen BK183.out 2
      go_wp2_with (first | ((with_reducible refine gate_callee (f := 89) rfl ?_); refine goesL_ (some 72) rfl rfl Try.func89 (by kernel_rfl) rfl #[.int .i64 a0_0, .int .i64 1, .int .i64 100000] rfl (by (try simp only [List.map_toArray, List.map_cons, List.map_nil]); first | done | rfl | (simp only [List.length_drop, List.length_take]; rfl)) ?_; (with_reducible refine (impl_inRange.calls a0_0 1 100000 true _ A61.out).mono ?_); rintro e w' ⟨rfl, ⟨nd, rfl⟩⟩; refine ⟨_, rfl, ?_⟩) | (go_at_call 75; (with_reducible refine (impl_isTime.calls a0_1 false _ A63.out).mono ?_); rintro e w' ⟨rfl, ⟨nd, rfl⟩⟩))
      go_ret
      exact ⟨by first | rfl | (simp [errW_none, errW_some] <;> rfl) | (simp [*, errW_none, errW_some] <;> rfl), by repeat (first | (with_reducible first | exact HB.out | apply below_alloc | apply pw_below_drewN | apply below_drew1 | refine below_set ?_ GE183.out) | exact HB.out)⟩
    ·replace c62 := Bool.eq_false_iff.mpr c62
     subst c62
     have H1 : (some false) = some r := by rw [if_neg (show ¬ (false = true) by decide)] at H; exact H
     clear H
     have H := H1
     clear H1
     obtain rfl := Option.some.inj H
     have hcz69_0 : wr.cell? ⟨gb183, 0, none⟩ = some (.int .i64 a0_0) := (blk_cell BK183.out 0).trans rfl
     have hcz69_1 : wr.cell? ⟨gb183, 1, none⟩ = some (.int .i64 a0_1) := (blk_cell BK183.out 1).trans rfl
     have hcz69_2 : wr.cell? ⟨gb183, 2, none⟩ = some (.slice A0_2 l0_2.length c0_2) := (blk_cell BK183.out 2).trans rfl
     have hfz69_0 := blk_frozen BK183.out 0
     have hfz69_1 := blk_frozen BK183.out 1
     have hfz69_2 := blk_frozen BK183.out 2
     go_wp2_with (first | ((with_reducible refine gate_callee (f := 89) rfl ?_); refine goesL_ (some 72) rfl rfl Try.func89 (by kernel_rfl) rfl #[.int .i64 a0_0, .int .i64 1, .int .i64 100000] rfl (by (try simp only [List.map_toArray, List.map_cons, List.map_nil]); first | done | rfl | (simp only [List.length_drop, List.length_take]; rfl)) ?_; (with_reducible refine (impl_inRange.calls a0_0 1 100000 false _ A61.out).mono ?_); rintro e w' ⟨rfl, ⟨nd, rfl⟩⟩; refine ⟨_, rfl, ?_⟩))
     go_ret
     exact ⟨by first | rfl | (simp [errW_none, errW_some] <;> rfl) | (simp [*, errW_none, errW_some] <;> rfl), by repeat (first | (with_reducible first | exact HB.out | apply below_alloc | apply pw_below_drewN | apply below_drew1 | refine below_set ?_ GE183.out) | exact HB.out)⟩

end Go.Proofs.Ytjbkagmfkcoclaa.XFnExactRelease

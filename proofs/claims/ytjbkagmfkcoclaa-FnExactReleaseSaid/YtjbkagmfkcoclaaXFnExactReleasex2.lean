-- Lean text written by a program of this session out of the translation
import Derived.Test.YtjbkagmfkcoclaaXFnExactReleasex0
import Derived.Test.YtjbkagmfkcoclaaXFnExactReleasex1
namespace Go.Proofs.Ytjbkagmfkcoclaa.XFnExactRelease
open Go.RowKit Go.Proofs.YtjbkagmfkcoclaaW.PrintWords Go.Proofs.YtjbkagmfkcoclaaW.PrintLast Go.Proofs.YtjbkagmfkcoclaaW.PrintMore
attribute [local go_sem] max2_int min2_int max_two min_two max_three min_three max_four min_four   -- for this text's walks alone
set_option linter.unusedVariables false
set_option linter.unusedSimpArgs false

def bz2s : Nat → Nat → List Bool
  | 0, _ => []
  | n + 1, m => (m % 2 == 1) :: bz2s n (m / 2)
def bz2 (n m : Nat) : Array Bool := ⟨bz2s n m⟩
/-! ### spec_GoodStore: function 59 -/
mutual
def spec_GoodStore.j0 : Nat → Bool → Int → Int → List (S96) → Option (Bool)
 | 0, _, _, _, _ => none
 | k + 1, x22, x113000, x113001, x113002 => if x22 = true then (some false) else (spec_GoodStore.l0 k x113002 (x113002.length : Int) 0 x113000 x113001 x113002)
def spec_GoodStore.l0 : Nat → List (S96) → Int → Int → Int → Int → List (S96) → Option (Bool)
 | 0, _, _, _, _, _, _ => none
 | k + 1, x24, x25, x26, x113000, x113001, x113002 => if x26 < x25 then (if 0 ≤ x26 then (if x26 < (x24.length : Int) then ((spec_GoodName.f k ((rd_T96 x24 x26).f0)).bind fun t118 => (if t118 = true then ((spec_l1In.f ((rd_T96 x24 x26).f1) 1 100000).bind fun t119 => (if t119 = true then ((spec_l1In.f ((rd_T96 x24 x26).f2) 0 1000).bind fun t120 => (if t120 = true then ((spec_l1In.f ((rd_T96 x24 x26).f3) 0 x113001).bind fun t121 => (if t121 = true then (if x26 > 0 then (if 0 ≤ (wrap64 (x26 - 1)) then (if (wrap64 (x26 - 1)) < (x113002.length : Int) then (spec_GoodStore.j2 k x26 x24 x25 x26 (!(Op.bytesLess (((rd_T96 x113002 (wrap64 (x26 - 1))).f0).toList) (((rd_T96 x24 x26).f0).toList))) x113000 x113001 x113002 ((rd_T96 x24 x26).f0) ((rd_T96 x24 x26).f1) ((rd_T96 x24 x26).f2) ((rd_T96 x24 x26).f3)) else (none)) else (none)) else (spec_GoodStore.j2 k x26 x24 x25 x26 false x113000 x113001 x113002 ((rd_T96 x24 x26).f0) ((rd_T96 x24 x26).f1) ((rd_T96 x24 x26).f2) ((rd_T96 x24 x26).f3))) else (spec_GoodStore.j2 k x26 x24 x25 x26 true x113000 x113001 x113002 ((rd_T96 x24 x26).f0) ((rd_T96 x24 x26).f1) ((rd_T96 x24 x26).f2) ((rd_T96 x24 x26).f3)))) else (spec_GoodStore.j2 k x26 x24 x25 x26 true x113000 x113001 x113002 ((rd_T96 x24 x26).f0) ((rd_T96 x24 x26).f1) ((rd_T96 x24 x26).f2) ((rd_T96 x24 x26).f3)))) else (spec_GoodStore.j2 k x26 x24 x25 x26 true x113000 x113001 x113002 ((rd_T96 x24 x26).f0) ((rd_T96 x24 x26).f1) ((rd_T96 x24 x26).f2) ((rd_T96 x24 x26).f3)))) else (spec_GoodStore.j2 k x26 x24 x25 x26 true x113000 x113001 x113002 ((rd_T96 x24 x26).f0) ((rd_T96 x24 x26).f1) ((rd_T96 x24 x26).f2) ((rd_T96 x24 x26).f3)))) else (none)) else (none)) else ((spec_l21Sizes.f k x113000 x113001 x113002).bind fun t115 => (some (decide (t115 ≤ x113000))))
def spec_GoodStore.j2 : Nat → Int → List (S96) → Int → Int → Bool → Int → Int → List (S96) → ByteArray → Int → Int → Int → Option (Bool)
 | 0, _, _, _, _, _, _, _, _, _, _, _, _ => none
 | k + 1, x3, x24, x25, x26, x70, x113000, x113001, x113002, x118000, x118001, x118002, x118003 => if x70 = true then (some false) else (if 0 ≤ x3 then (if x3 ≤ (x113002.length : Int) then ((some (x113002.take (x3 : Int).toNat : List (S96))).bind fun y123 => (spec_GoodStore.l1 k x24 x25 x26 y123 (y123.length : Int) 0 x113000 x113001 x113002 x118000 x118001 x118002 x118003)) else (none)) else (none))
def spec_GoodStore.l1 : Nat → List (S96) → Int → Int → List (S96) → Int → Int → Int → Int → List (S96) → ByteArray → Int → Int → Int → Option (Bool)
 | 0, _, _, _, _, _, _, _, _, _, _, _, _, _ => none
 | k + 1, x24, x25, x26, x74, x75, x76, x113000, x113001, x113002, x118000, x118001, x118002, x118003 => if x76 < x75 then (if 0 ≤ x76 then (if x76 < (x74.length : Int) then (if x118003 > 0 then (if ((rd_T96 x74 x76).f3) = x118003 then (some false) else (spec_GoodStore.l1 k x24 x25 x26 x74 x75 (wrap64 (x76 + 1)) x113000 x113001 x113002 x118000 x118001 x118002 x118003)) else (spec_GoodStore.l1 k x24 x25 x26 x74 x75 (wrap64 (x76 + 1)) x113000 x113001 x113002 x118000 x118001 x118002 x118003)) else (none)) else (none)) else (spec_GoodStore.l0 k x24 x25 (wrap64 (x26 + 1)) x113000 x113001 x113002)
end
def spec_GoodStore.f (k : Nat) (a0_0 : Int) (a0_1 : Int) (l0_2 : List (S96)) : Option (Bool) := (spec_l1In.f a0_0 1 100000).bind fun t113 => (if t113 = true then ((spec_l1In.f a0_1 0 100000).bind fun t114 => (if t114 = true then (spec_GoodStore.j0 k (decide ((l0_2.length : Int) > 30)) a0_0 a0_1 l0_2) else (spec_GoodStore.j0 k true a0_0 a0_1 l0_2))) else (spec_GoodStore.j0 k true a0_0 a0_1 l0_2))
theorem spec_GoodStore.mono_l : ∀ k, (∀ y0 y1 y2 y3, LeO (spec_GoodStore.j0 k y0 y1 y2 y3) (spec_GoodStore.j0 (k + 1) y0 y1 y2 y3)) ∧ (∀ y0 y1 y2 y3 y4 y5, LeO (spec_GoodStore.l0 k y0 y1 y2 y3 y4 y5) (spec_GoodStore.l0 (k + 1) y0 y1 y2 y3 y4 y5)) ∧ (∀ y0 y1 y2 y3 y4 y5 y6 y7 y8 y9 y10 y11, LeO (spec_GoodStore.j2 k y0 y1 y2 y3 y4 y5 y6 y7 y8 y9 y10 y11) (spec_GoodStore.j2 (k + 1) y0 y1 y2 y3 y4 y5 y6 y7 y8 y9 y10 y11)) ∧ (∀ y0 y1 y2 y3 y4 y5 y6 y7 y8 y9 y10 y11 y12, LeO (spec_GoodStore.l1 k y0 y1 y2 y3 y4 y5 y6 y7 y8 y9 y10 y11 y12) (spec_GoodStore.l1 (k + 1) y0 y1 y2 y3 y4 y5 y6 y7 y8 y9 y10 y11 y12))
 | 0 => ⟨fun _ _ _ _ r h => by simp [spec_GoodStore.j0] at h, fun _ _ _ _ _ _ r h => by simp [spec_GoodStore.l0] at h, fun _ _ _ _ _ _ _ _ _ _ _ _ r h => by simp [spec_GoodStore.j2] at h, fun _ _ _ _ _ _ _ _ _ _ _ _ _ r h => by simp [spec_GoodStore.l1] at h⟩
 | k + 1 => by
  obtain ⟨ih0, ih1, ih2, ih3⟩ := spec_GoodStore.mono_l k
  refine ⟨?_, ?_, ?_, ?_⟩
  ·intro y0 y1 y2 y3
   unfold spec_GoodStore.j0
   repeat' first
   | (with_reducible exact ih0 _ _ _ _)
   | (with_reducible exact ih1 _ _ _ _ _ _)
   | (with_reducible exact ih2 _ _ _ _ _ _ _ _ _ _ _ _)
   | (with_reducible exact ih3 _ _ _ _ _ _ _ _ _ _ _ _ _)
   | (with_reducible exact spec_GoodName.mono _ _)
   | (with_reducible exact spec_l21Sizes.mono _ _ _ _)
   | (with_reducible exact LeO.refl _)
   | (with_reducible exact LeO.none _)
   | (with_reducible refine LeO.ite ?_ ?_)
   | (with_reducible refine LeO.bind ?_ (fun _ => ?_))
   | exact ih0 _ _ _ _
   | exact ih1 _ _ _ _ _ _
   | exact ih2 _ _ _ _ _ _ _ _ _ _ _ _
   | exact ih3 _ _ _ _ _ _ _ _ _ _ _ _ _
   | exact spec_GoodName.mono _ _
   | exact spec_l21Sizes.mono _ _ _ _
   | exact LeO.none _
   | refine LeO.ite ?_ ?_
   | refine LeO.bind ?_ (fun _ => ?_)
  ·intro y0 y1 y2 y3 y4 y5
   unfold spec_GoodStore.l0
   repeat' first
   | (with_reducible exact ih0 _ _ _ _)
   | (with_reducible exact ih1 _ _ _ _ _ _)
   | (with_reducible exact ih2 _ _ _ _ _ _ _ _ _ _ _ _)
   | (with_reducible exact ih3 _ _ _ _ _ _ _ _ _ _ _ _ _)
   | (with_reducible exact spec_GoodName.mono _ _)
   | (with_reducible exact spec_l21Sizes.mono _ _ _ _)
   | (with_reducible exact LeO.refl _)
   | (with_reducible exact LeO.none _)
   | (with_reducible refine LeO.ite ?_ ?_)
   | (with_reducible refine LeO.bind ?_ (fun _ => ?_))
   | exact ih0 _ _ _ _
   | exact ih1 _ _ _ _ _ _
   | exact ih2 _ _ _ _ _ _ _ _ _ _ _ _
   | exact ih3 _ _ _ _ _ _ _ _ _ _ _ _ _
   | exact spec_GoodName.mono _ _
   | exact spec_l21Sizes.mono _ _ _ _
   | exact LeO.none _
   | refine LeO.ite ?_ ?_
   | refine LeO.bind ?_ (fun _ => ?_)
  ·intro y0 y1 y2 y3 y4 y5 y6 y7 y8 y9 y10 y11
   unfold spec_GoodStore.j2
   repeat' first
   | (with_reducible exact ih0 _ _ _ _)
   | (with_reducible exact ih1 _ _ _ _ _ _)
   | (with_reducible exact ih2 _ _ _ _ _ _ _ _ _ _ _ _)
   | (with_reducible exact ih3 _ _ _ _ _ _ _ _ _ _ _ _ _)
   | (with_reducible exact spec_GoodName.mono _ _)
   | (with_reducible exact spec_l21Sizes.mono _ _ _ _)
   | (with_reducible exact LeO.refl _)
   | (with_reducible exact LeO.none _)
   | (with_reducible refine LeO.ite ?_ ?_)
   | (with_reducible refine LeO.bind ?_ (fun _ => ?_))
   | exact ih0 _ _ _ _
   | exact ih1 _ _ _ _ _ _
   | exact ih2 _ _ _ _ _ _ _ _ _ _ _ _
   | exact ih3 _ _ _ _ _ _ _ _ _ _ _ _ _
   | exact spec_GoodName.mono _ _
   | exact spec_l21Sizes.mono _ _ _ _
   | exact LeO.none _
   | refine LeO.ite ?_ ?_
   | refine LeO.bind ?_ (fun _ => ?_)
  ·intro y0 y1 y2 y3 y4 y5 y6 y7 y8 y9 y10 y11 y12
   unfold spec_GoodStore.l1
   repeat' first
   | (with_reducible exact ih0 _ _ _ _)
   | (with_reducible exact ih1 _ _ _ _ _ _)
   | (with_reducible exact ih2 _ _ _ _ _ _ _ _ _ _ _ _)
   | (with_reducible exact ih3 _ _ _ _ _ _ _ _ _ _ _ _ _)
   | (with_reducible exact spec_GoodName.mono _ _)
   | (with_reducible exact spec_l21Sizes.mono _ _ _ _)
   | (with_reducible exact LeO.refl _)
   | (with_reducible exact LeO.none _)
   | (with_reducible refine LeO.ite ?_ ?_)
   | (with_reducible refine LeO.bind ?_ (fun _ => ?_))
   | exact ih0 _ _ _ _
   | exact ih1 _ _ _ _ _ _
   | exact ih2 _ _ _ _ _ _ _ _ _ _ _ _
   | exact ih3 _ _ _ _ _ _ _ _ _ _ _ _ _
   | exact spec_GoodName.mono _ _
   | exact spec_l21Sizes.mono _ _ _ _
   | exact LeO.none _
   | refine LeO.ite ?_ ?_
   | refine LeO.bind ?_ (fun _ => ?_)
theorem spec_GoodStore.mono : ∀ a0 a1 a2 k, LeO (spec_GoodStore.f k a0 a1 a2) (spec_GoodStore.f (k + 1) a0 a1 a2) := by
 intro a0 a1 a2 k
 obtain ⟨ih0, ih1, ih2, ih3⟩ := spec_GoodStore.mono_l k
 unfold spec_GoodStore.f
 repeat' first
   | (with_reducible exact ih0 _ _ _ _)
   | (with_reducible exact ih1 _ _ _ _ _ _)
   | (with_reducible exact ih2 _ _ _ _ _ _ _ _ _ _ _ _)
   | (with_reducible exact ih3 _ _ _ _ _ _ _ _ _ _ _ _ _)
   | (with_reducible exact spec_GoodName.mono _ _)
   | (with_reducible exact spec_l21Sizes.mono _ _ _ _)
   | (with_reducible exact LeO.refl _)
   | (with_reducible exact LeO.none _)
   | (with_reducible refine LeO.ite ?_ ?_)
   | (with_reducible refine LeO.bind ?_ (fun _ => ?_))
   | exact ih0 _ _ _ _
   | exact ih1 _ _ _ _ _ _
   | exact ih2 _ _ _ _ _ _ _ _ _ _ _ _
   | exact ih3 _ _ _ _ _ _ _ _ _ _ _ _ _
   | exact spec_GoodName.mono _ _
   | exact spec_l21Sizes.mono _ _ _ _
   | exact LeO.none _
   | refine LeO.ite ?_ ?_
   | refine LeO.bind ?_ (fun _ => ?_)
def spec_GoodStore.T6 : Bool × List (List Nat × List Nat) := (true, [([], []), ([0], [0]), ([1], [1]), ([2], [2]), ([3, 2], [3]), ([4], [4]), ([5, 4], [4, 5]), ([6, 4, 4], [4, 6]), ([7, 4], [4, 7]), ([4, 8], [4, 8]), ([9, 7], [9]), ([10], [10]), ([11, 10], [10, 11]), ([12, 10, 10], [10, 12]), ([13, 10], [10, 13]), ([10, 14], [10, 14]), ([15, 13], [15]), ([16], [16]), ([17, 16], [16, 17]), ([16], [16]), ([19, 16], [16, 19]), ([18, 20, 16, 16], [16, 18, 20]), ([21, 16], [16, 21]), ([16, 22], [16, 22]), ([23, 21], [23]), ([24], [24]), ([25, 24], [24, 25]), ([26, 24, 24], [24, 26]), ([27], [27]), ([28, 27], [27, 28]), ([27], [27]), ([30, 27], [27, 30]), ([29, 31, 27], [27, 29, 31]), ([32, 27], [27, 32]), ([33, 27], [27, 33]), ([27], [27]), ([35, 27], [27, 35]), ([34, 36, 27], [27, 34, 36]), ([27, 37, 24], [24, 27, 37]), ([24, 38], [24, 38])])
def spec_GoodStore.B6 : List Nat := [0, 1, 3, 7, 15, 31, 63, 127, 255, 511, 1023, 2047, 4095, 8191, 16383, 32767, 65535, 131071, 262143, 131071, 655359, 2097151, 4194303, 8388607, 16777215, 33554431, 67108863, 134217727, 268435455, 536870911, 268435455, 1342177279, 4294967295, 8589934591, 17179869183, 268435455, 34628173823, 137438953471, 274877906943, 549755813887]
theorem spec_GoodStore.tab6 : rtab .any (opsOf Try.f59 6) = spec_GoodStore.T6 := by kernel_rfl
theorem spec_GoodStore.bits6 : waitsOk spec_GoodStore.T6.2 spec_GoodStore.B6 = true := by kernel_rfl
set_option maxHeartbeats 8000000 in
set_option maxRecDepth 100000 in
theorem spec_GoodStore.calls (k : Nat) (a0_0 : Int) (a0_1 : Int) (A0_2 : Option Addr) (c0_2 : Nat) (l0_2 : List (S96)) (r : Bool) (w : World) (hr0_2 : Kd.C k96 w A0_2 l0_2.length l0_2) (hc0_2 : l0_2.length ≤ c0_2) (h : spec_GoodStore.f k a0_0 a0_1 l0_2 = some r) :
  Calls Try.prog 59 #[.agg #[.int .i64 a0_0, .int .i64 a0_1, .slice A0_2 l0_2.length c0_2]] w fun e w' => e = .returned (.bool r) ∧ Below w.heap.size w w' := by
 have hu46 := Try.underlying46
 have hu96 := Try.underlying96
 have HR0_2 := Aside0.mk hr0_2
 have HC0_2 := Aside0.mk hc0_2
 clear hr0_2 hc0_2
 have HB := Aside0.mk (Below.refl w.heap.size w)
 have H : ((spec_l1In.f a0_0 1 100000).bind fun t113 => (if t113 = true then ((spec_l1In.f a0_1 0 100000).bind fun t114 => (if t114 = true then (spec_GoodStore.j0 k (decide ((l0_2.length : Int) > 30)) a0_0 a0_1 l0_2) else (spec_GoodStore.j0 k true a0_0 a0_1 l0_2))) else (spec_GoodStore.j0 k true a0_0 a0_1 l0_2))) = some r := h
 clear h
 have HC2 := Aside0.mk H
 clear H
 go_enter Try.func59, Try.ntmps59
 go_upto_region 1 with (first | ((with_reducible refine gate_dst (N := 1) rfl ?_); (try (refine gate_guard (by rfl) ?_; dsimp only)); refine box_event ?hg (N := 1) ?hd (cs := #[.int .i64 a0_0, .int .i64 a0_1, .slice A0_2 l0_2.length c0_2]) (t := 46) ?hr ?_; (case hd => rfl); (case hg => rfl); (case hr => first | (go_simp; done) | (go_simp; rfl)); intro gb112 hg w3 hbox hb; have n0_ := Aside0.mk (below_step (by repeat (first | (with_reducible first | exact HB.out | apply below_alloc | apply pw_below_drewN | apply below_drew1) | exact HB.out)) hb); have n1_ := Aside0.mk (hbox); have n2_ := Aside0.mk ((by rw [hg]; exact (below_size (by repeat (first | (with_reducible first | exact HB.out | apply below_alloc | apply pw_below_drewN | apply below_drew1) | exact HB.out))) : w.heap.size ≤ gb112)); have n3_ := Aside0.mk ((by rw [hg]; exact (below_size (by repeat (first | (with_reducible first | exact HB.out | apply below_alloc | apply pw_below_drewN | apply below_drew1) | exact HB.out))) : w.heap.size ≤ gb112)); clear HB; have HB := n0_; have BK112 := n1_; have GW112 := n2_; have GE112 := n3_; clear n0_ n1_ n2_ n3_; clear hb hbox hg))
 (try simp only [Act.put, List.setIfInBounds_toArray, List.set_cons_zero, List.set_cons_succ])
 go_cut [22] (fun v22 wc => ∃ (kq : Nat) (x22_1 : Bool), v22 = .bool x22_1 ∧ Aside0 (spec_GoodStore.j0 kq x22_1 a0_0 a0_1 l0_2 = some r) ∧ Aside0 (kq ≤ k) ∧ Aside0 (wc.heap[gb112]? = some (.cells #[.int .i64 a0_0, .int .i64 a0_1, (.slice A0_2 l0_2.length c0_2)] 46 (0, 0))) ∧ Aside0 (Below w.heap.size w wc))
 case first =>
  have H := HC2.out
  clear HC2
  replace H := Option.bind_eq_some_iff.mp H
  obtain ⟨t113, A40, H⟩ := H
  replace H : (if t113 = true then ((spec_l1In.f a0_1 0 100000).bind fun t114 => (if t114 = true then (spec_GoodStore.j0 k (decide ((l0_2.length : Int) > 30)) a0_0 a0_1 l0_2) else (spec_GoodStore.j0 k true a0_0 a0_1 l0_2))) else (spec_GoodStore.j0 k true a0_0 a0_1 l0_2)) = some r := H
  have A4 := Aside0.mk A40
  clear A40
  by_cases c5 : t113 = true
  ·subst c5
   have H1 : ((spec_l1In.f a0_1 0 100000).bind fun t114 => (if t114 = true then (spec_GoodStore.j0 k (decide ((l0_2.length : Int) > 30)) a0_0 a0_1 l0_2) else (spec_GoodStore.j0 k true a0_0 a0_1 l0_2))) = some r := by rw [if_pos rfl] at H; exact H
   clear H
   have H := H1
   clear H1
   replace H := Option.bind_eq_some_iff.mp H
   obtain ⟨t114, A60, H⟩ := H
   replace H : (if t114 = true then (spec_GoodStore.j0 k (decide ((l0_2.length : Int) > 30)) a0_0 a0_1 l0_2) else (spec_GoodStore.j0 k true a0_0 a0_1 l0_2)) = some r := H
   have A6 := Aside0.mk A60
   clear A60
   by_cases c7 : t114 = true
   ·subst c7
    have H1 : (spec_GoodStore.j0 k (decide ((l0_2.length : Int) > 30)) a0_0 a0_1 l0_2) = some r := by rw [if_pos rfl] at H; exact H
    clear H
    have H := H1
    clear H1
    have H' := Aside0.mk H
    clear H
    have hcz8_0 : w3.cell? ⟨gb112, 0, none⟩ = some (.int .i64 a0_0) := (blk_cell BK112.out 0).trans rfl
    have hcz8_1 : w3.cell? ⟨gb112, 1, none⟩ = some (.int .i64 a0_1) := (blk_cell BK112.out 1).trans rfl
    have hcz8_2 : w3.cell? ⟨gb112, 2, none⟩ = some (.slice A0_2 l0_2.length c0_2) := (blk_cell BK112.out 2).trans rfl
    have hfz8_0 := blk_frozen BK112.out 0
    have hfz8_1 := blk_frozen BK112.out 1
    have hfz8_2 := blk_frozen BK112.out 2
    go_wp2_with (first | ((with_reducible refine gate_callee (f := 70) rfl ?_); refine goesL_ (some 9) rfl rfl Try.func70 (by kernel_rfl) rfl #[.int .i64 a0_0, .int .i64 1, .int .i64 100000] rfl (by (try simp only [List.map_toArray, List.map_cons, List.map_nil]); first | done | rfl | (simp only [List.length_drop, List.length_take]; rfl)) ?_; (with_reducible refine (spec_l1In.calls a0_0 1 100000 true _ A4.out).mono ?_); rintro e w' ⟨rfl, ⟨nd, rfl⟩⟩; refine ⟨_, rfl, ?_⟩) | (go_at_call 70; (with_reducible refine (spec_l1In.calls a0_1 0 100000 true _ A6.out).mono ?_); rintro e w' ⟨rfl, ⟨nd, rfl⟩⟩))
    go_meet
    case rel => exact ⟨_, (decide ((l0_2.length : Int) > 30)), (by first | rfl | (simp; done) | (simp [*]; done)), H', ⟨by first | omega | exact Nat.le_refl _⟩, ⟨by exact BK112.out⟩, ⟨by repeat (first | (with_reducible first | exact HB.out | apply below_alloc | apply pw_below_drewN | apply below_drew1 | refine below_set ?_ GE112.out) | exact HB.out)⟩⟩
   ·replace c7 := Bool.eq_false_iff.mpr c7
    subst c7
    have H1 : (spec_GoodStore.j0 k true a0_0 a0_1 l0_2) = some r := by rw [if_neg (show ¬ (false = true) by decide)] at H; exact H
    clear H
    have H := H1
    clear H1
    have H' := Aside0.mk H
    clear H
    have hcz9_0 : w3.cell? ⟨gb112, 0, none⟩ = some (.int .i64 a0_0) := (blk_cell BK112.out 0).trans rfl
    have hcz9_1 : w3.cell? ⟨gb112, 1, none⟩ = some (.int .i64 a0_1) := (blk_cell BK112.out 1).trans rfl
    have hcz9_2 : w3.cell? ⟨gb112, 2, none⟩ = some (.slice A0_2 l0_2.length c0_2) := (blk_cell BK112.out 2).trans rfl
    have hfz9_0 := blk_frozen BK112.out 0
    have hfz9_1 := blk_frozen BK112.out 1
    have hfz9_2 := blk_frozen BK112.out 2
    go_wp2_with (first | ((with_reducible refine gate_callee (f := 70) rfl ?_); refine goesL_ (some 9) rfl rfl Try.func70 (by kernel_rfl) rfl #[.int .i64 a0_0, .int .i64 1, .int .i64 100000] rfl (by (try simp only [List.map_toArray, List.map_cons, List.map_nil]); first | done | rfl | (simp only [List.length_drop, List.length_take]; rfl)) ?_; (with_reducible refine (spec_l1In.calls a0_0 1 100000 true _ A4.out).mono ?_); rintro e w' ⟨rfl, ⟨nd, rfl⟩⟩; refine ⟨_, rfl, ?_⟩) | (go_at_call 70; (with_reducible refine (spec_l1In.calls a0_1 0 100000 false _ A6.out).mono ?_); rintro e w' ⟨rfl, ⟨nd, rfl⟩⟩))
    go_meet
    case rel => exact ⟨_, (true), (by first | rfl | (simp; done) | (simp [*]; done)), H', ⟨by first | omega | exact Nat.le_refl _⟩, ⟨by exact BK112.out⟩, ⟨by repeat (first | (with_reducible first | exact HB.out | apply below_alloc | apply pw_below_drewN | apply below_drew1 | refine below_set ?_ GE112.out) | exact HB.out)⟩⟩
  ·replace c5 := Bool.eq_false_iff.mpr c5
   subst c5
   have H1 : (spec_GoodStore.j0 k true a0_0 a0_1 l0_2) = some r := by rw [if_neg (show ¬ (false = true) by decide)] at H; exact H
   clear H
   have H := H1
   clear H1
   have H' := Aside0.mk H
   clear H
   have hcz10_0 : w3.cell? ⟨gb112, 0, none⟩ = some (.int .i64 a0_0) := (blk_cell BK112.out 0).trans rfl
   have hcz10_1 : w3.cell? ⟨gb112, 1, none⟩ = some (.int .i64 a0_1) := (blk_cell BK112.out 1).trans rfl
   have hcz10_2 : w3.cell? ⟨gb112, 2, none⟩ = some (.slice A0_2 l0_2.length c0_2) := (blk_cell BK112.out 2).trans rfl
   have hfz10_0 := blk_frozen BK112.out 0
   have hfz10_1 := blk_frozen BK112.out 1
   have hfz10_2 := blk_frozen BK112.out 2
   go_wp2_with (first | ((with_reducible refine gate_callee (f := 70) rfl ?_); refine goesL_ (some 9) rfl rfl Try.func70 (by kernel_rfl) rfl #[.int .i64 a0_0, .int .i64 1, .int .i64 100000] rfl (by (try simp only [List.map_toArray, List.map_cons, List.map_nil]); first | done | rfl | (simp only [List.length_drop, List.length_take]; rfl)) ?_; (with_reducible refine (spec_l1In.calls a0_0 1 100000 false _ A4.out).mono ?_); rintro e w' ⟨rfl, ⟨nd, rfl⟩⟩; refine ⟨_, rfl, ?_⟩))
   go_meet
   case rel => exact ⟨_, (true), (by first | rfl | (simp; done) | (simp [*]; done)), H', ⟨by first | omega | exact Nat.le_refl _⟩, ⟨by exact BK112.out⟩, ⟨by repeat (first | (with_reducible first | exact HB.out | apply below_alloc | apply pw_below_drewN | apply below_drew1 | refine below_set ?_ GE112.out) | exact HB.out)⟩⟩
 case rest =>
  clear HC2
  try clear p2
  try clear c5
  try clear c7
  try clear hcz10_0
  try clear hcz10_1
  try clear hcz10_2
  try clear hcz8_0
  try clear hcz8_1
  try clear hcz8_2
  try clear hcz9_0
  try clear hcz9_1
  try clear hcz9_2
  try clear hfz10_0
  try clear hfz10_1
  try clear hfz10_2
  try clear hfz8_0
  try clear hfz8_1
  try clear hfz8_2
  try clear hfz9_0
  try clear hfz9_1
  try clear hfz9_2
  obtain ⟨kq, x22_1, rfl, HA, HJ1, BK112, HB⟩ := hcut
  cases kq with
  | zero => exact absurd HA.out (by simp [spec_GoodStore.j0])
  | succ kj1 =>
   have H := HA.out
   clear HA
   simp only [spec_GoodStore.j0] at H
   by_cases c11 : x22_1 = true
   ·subst c11
    have H1 : (some false) = some r := by rw [if_pos rfl] at H; exact H
    clear H
    have H := H1
    clear H1
    obtain rfl := Option.some.inj H
    go_wp2
    go_ret
    exact ⟨by first | rfl | (simp [errW_none, errW_some] <;> rfl) | (simp [*, errW_none, errW_some] <;> rfl), by repeat (first | (with_reducible first | exact HB.out | apply below_alloc | apply pw_below_drewN | apply below_drew1 | refine below_set ?_ GE112.out) | exact HB.out)⟩
   ·replace c11 := Bool.eq_false_iff.mpr c11
    subst c11
    have H1 : (spec_GoodStore.l0 kj1 l0_2 (l0_2.length : Int) 0 a0_0 a0_1 l0_2) = some r := by rw [if_neg (show ¬ (false = true) by decide)] at H; exact H
    clear H
    have H := H1
    clear H1
    have H' := Aside0.mk H
    clear H
    have hcz12_0 : wc.cell? ⟨gb112, 0, none⟩ = some (.int .i64 a0_0) := (blk_cell BK112.out 0).trans rfl
    have hcz12_1 : wc.cell? ⟨gb112, 1, none⟩ = some (.int .i64 a0_1) := (blk_cell BK112.out 1).trans rfl
    have hcz12_2 : wc.cell? ⟨gb112, 2, none⟩ = some (.slice A0_2 l0_2.length c0_2) := (blk_cell BK112.out 2).trans rfl
    have hfz12_0 := blk_frozen BK112.out 0
    have hfz12_1 := blk_frozen BK112.out 1
    have hfz12_2 := blk_frozen BK112.out 2
    go_wp2
    go_loopg [26] kj1 (fun kq v26 w' => ∃ (x26_2 : Int), v26 = .int .i64 x26_2 ∧ Aside0 (spec_GoodStore.l0 kq l0_2 (l0_2.length : Int) x26_2 a0_0 a0_1 l0_2 = some r) ∧ Aside0 (kq ≤ kj1) ∧ Aside0 (w'.heap[gb112]? = some (.cells #[.int .i64 a0_0, .int .i64 a0_1, (.slice A0_2 l0_2.length c0_2)] 46 (0, 0))) ∧ Aside0 (Below w.heap.size w w'))
    case atStart => exact ⟨(0), (by first | rfl | (simp; done) | (simp [*]; done)), H', ⟨Nat.le_refl _⟩, ⟨by exact BK112.out⟩, ⟨by repeat (first | (with_reducible first | exact HB.out | apply below_alloc | apply pw_below_drewN | apply below_drew1 | refine below_set ?_ GE112.out) | exact HB.out)⟩⟩
    case round =>
     clear H'
     try clear c1
     try clear p2
     try clear c5
     try clear c7
     try clear c11
     try clear hcz10_0
     try clear hcz10_1
     try clear hcz10_2
     try clear hcz12_0
     try clear hcz12_1
     try clear hcz12_2
     try clear hcz8_0
     try clear hcz8_1
     try clear hcz8_2
     try clear hcz9_0
     try clear hcz9_1
     try clear hcz9_2
     try clear hfz10_0
     try clear hfz10_1
     try clear hfz10_2
     try clear hfz12_0
     try clear hfz12_1
     try clear hfz12_2
     try clear hfz8_0
     try clear hfz8_1
     try clear hfz8_2
     try clear hfz9_0
     try clear hfz9_1
     try clear hfz9_2
     try clear p2
     obtain ⟨x26_2, rfl, HA, HK2, BK112, HB⟩ := hrel
     cases gk with
     | zero => exact absurd HA.out (by simp [spec_GoodStore.l0])
     | succ k2 =>
      have H := HA.out
      clear HA
      simp only [spec_GoodStore.l0] at H
      by_cases c13 : x26_2 < (l0_2.length : Int)
      ·rw [if_pos c13] at H
       have c13b0 : decide (x26_2 < (l0_2.length : Int)) = true := decide_eq_true c13
       clear c13
       by_cases c14 : 0 ≤ x26_2
       ·rw [if_pos c14] at H
        have c14b0 : decide (0 ≤ x26_2) = true := decide_eq_true c14
        clear c14
        by_cases c15 : x26_2 < (l0_2.length : Int)
        ·rw [if_pos c15] at H
         have c15b0 : decide (x26_2 < (l0_2.length : Int)) = true := decide_eq_true c15
         clear c15
         have HC16 := Aside0.mk H
         clear H
         have p116 : 0 ≤ (x26_2 : Int) := of_decide_eq_true (by first | (with_reducible assumption) | assumption)
         have q116 : x26_2 < (l0_2.length : Int) := of_decide_eq_true (by first | (with_reducible assumption) | assumption)
         obtain ⟨ad116, e116, hx116_0, hx116_1, hx116_2, hx116_3⟩ := at_T96 HR0_2.out x26_2 p116 q116
         cases e116
         replace hx116_0 := (HB.out.cell (World.block_lt_of_cell? w _ hx116_0)).trans hx116_0
         replace hx116_1 := (HB.out.cell (World.block_lt_of_cell? w _ hx116_1)).trans hx116_1
         replace hx116_2 := (HB.out.cell (World.block_lt_of_cell? w _ hx116_2)).trans hx116_2
         replace hx116_3 := (HB.out.cell (World.block_lt_of_cell? w _ hx116_3)).trans hx116_3
         replace p116 := eq_true p116
         replace q116 := eq_true q116
         go_upto_region 6 with (first | ((with_reducible refine gate_dst (N := 4) rfl ?_); (try (refine gate_guard (by rfl) ?_; dsimp only)); refine box_event ?hg (N := 4) ?hd (cs := #[.string (⟨#[]⟩ : ByteArray), .int .i64 0, .int .i64 0, .int .i64 0]) (t := 96) ?hr ?_; (case hd => rfl); (case hg => rfl); (case hr => first | (go_simp; done) | (go_simp; rfl)); intro gb117 hg w17 hbox hb; have n0_ := Aside0.mk (blk_below (g := gb112) (o := .cells #[.int .i64 a0_0, .int .i64 a0_1, .slice (some ad116) l0_2.length c0_2] 46 (0, 0)) (by exact BK112.out) hb); have n1_ := Aside0.mk (below_step (by repeat (first | (with_reducible first | exact HB.out | apply below_alloc | apply pw_below_drewN | apply below_drew1 | refine below_set ?_ GE112.out) | exact HB.out)) hb); have n2_ := Aside0.mk (hbox); have n3_ := Aside0.mk ((by rw [hg]; exact (below_size (by repeat (first | (with_reducible first | exact HB.out | apply below_alloc | apply pw_below_drewN | apply below_drew1 | refine below_set ?_ GE112.out) | exact HB.out))) : w.heap.size ≤ gb117)); have n4_ := Aside0.mk ((by rw [hg]; exact (below_size (by repeat (first | (with_reducible first | exact HB.out | apply below_alloc | apply pw_below_drewN | apply below_drew1 | refine below_set ?_ GE112.out) | exact HB.out))) : w.heap.size ≤ gb117)); have n5_ := Aside0.mk ((by rw [hg]; exact Nat.ne_of_lt (blk_lt (g := gb112) (o := .cells #[.int .i64 a0_0, .int .i64 a0_1, .slice (some ad116) l0_2.length c0_2] 46 (0, 0)) (by exact BK112.out)) : gb112 ≠ gb117)); have n6_ := Aside0.mk ((by rw [hg]; exact Nat.ne_of_gt (blk_lt (g := gb112) (o := .cells #[.int .i64 a0_0, .int .i64 a0_1, .slice (some ad116) l0_2.length c0_2] 46 (0, 0)) (by exact BK112.out)) : gb117 ≠ gb112)); clear BK112; clear HB; have BK112 := n0_; have HB := n1_; have BK117 := n2_; have GW117 := n3_; have GE117 := n4_; have NB112_117 := n5_; have NB117_112 := n6_; clear n0_ n1_ n2_ n3_ n4_ n5_ n6_; clear hb hbox hg; have hnb18 := NB117_112.out; have hnc18 := NB112_117.out; have hcz19_0 : w17.cell? ⟨gb117, 0, none⟩ = some (.string (⟨#[]⟩ : ByteArray)) := (blk_cell BK117.out 0).trans rfl; have hcz19_1 : w17.cell? ⟨gb117, 1, none⟩ = some (.int .i64 0) := (blk_cell BK117.out 1).trans rfl; have hcz19_2 : w17.cell? ⟨gb117, 2, none⟩ = some (.int .i64 0) := (blk_cell BK117.out 2).trans rfl; have hcz19_3 : w17.cell? ⟨gb117, 3, none⟩ = some (.int .i64 0) := (blk_cell BK117.out 3).trans rfl; have hfz19_0 := blk_frozen BK117.out 0; have hfz19_1 := blk_frozen BK117.out 1; have hfz19_2 := blk_frozen BK117.out 2; have hfz19_3 := blk_frozen BK117.out 3))
         (try simp only [Act.put, List.setIfInBounds_toArray, List.set_cons_zero, List.set_cons_succ])
         go_cut [70] (fun v70 wc => ∃ (kq : Nat) (x70_15 : Bool), v70 = .bool x70_15 ∧ Aside0 (spec_GoodStore.j2 kq x26_2 l0_2 (l0_2.length : Int) x26_2 x70_15 a0_0 a0_1 l0_2 ((rd_T96 l0_2 x26_2).f0) ((rd_T96 l0_2 x26_2).f1) ((rd_T96 l0_2 x26_2).f2) ((rd_T96 l0_2 x26_2).f3) = some r) ∧ Aside0 (kq ≤ k2) ∧ Aside0 (wc.heap[gb112]? = some (.cells #[.int .i64 a0_0, .int .i64 a0_1, (.slice (some ad116) l0_2.length c0_2)] 46 (0, 0))) ∧ Aside0 (wc.heap[gb117]? = some (.cells #[.string ((rd_T96 l0_2 x26_2).f0), .int .i64 ((rd_T96 l0_2 x26_2).f1), .int .i64 ((rd_T96 l0_2 x26_2).f2), .int .i64 ((rd_T96 l0_2 x26_2).f3)] 96 (0, 0))) ∧ Aside0 (Below w.heap.size w wc))
         case first =>
          have H := HC16.out
          clear HC16
          replace H := Option.bind_eq_some_iff.mp H
          obtain ⟨t118, A200, H⟩ := H
          replace H : (if t118 = true then ((spec_l1In.f ((rd_T96 l0_2 x26_2).f1) 1 100000).bind fun t119 => (if t119 = true then ((spec_l1In.f ((rd_T96 l0_2 x26_2).f2) 0 1000).bind fun t120 => (if t120 = true then ((spec_l1In.f ((rd_T96 l0_2 x26_2).f3) 0 a0_1).bind fun t121 => (if t121 = true then (if x26_2 > 0 then (if 0 ≤ (wrap64 (x26_2 - 1)) then (if (wrap64 (x26_2 - 1)) < (l0_2.length : Int) then (spec_GoodStore.j2 k2 x26_2 l0_2 (l0_2.length : Int) x26_2 (!(Op.bytesLess (((rd_T96 l0_2 (wrap64 (x26_2 - 1))).f0).toList) (((rd_T96 l0_2 x26_2).f0).toList))) a0_0 a0_1 l0_2 ((rd_T96 l0_2 x26_2).f0) ((rd_T96 l0_2 x26_2).f1) ((rd_T96 l0_2 x26_2).f2) ((rd_T96 l0_2 x26_2).f3)) else (none)) else (none)) else (spec_GoodStore.j2 k2 x26_2 l0_2 (l0_2.length : Int) x26_2 false a0_0 a0_1 l0_2 ((rd_T96 l0_2 x26_2).f0) ((rd_T96 l0_2 x26_2).f1) ((rd_T96 l0_2 x26_2).f2) ((rd_T96 l0_2 x26_2).f3))) else (spec_GoodStore.j2 k2 x26_2 l0_2 (l0_2.length : Int) x26_2 true a0_0 a0_1 l0_2 ((rd_T96 l0_2 x26_2).f0) ((rd_T96 l0_2 x26_2).f1) ((rd_T96 l0_2 x26_2).f2) ((rd_T96 l0_2 x26_2).f3)))) else (spec_GoodStore.j2 k2 x26_2 l0_2 (l0_2.length : Int) x26_2 true a0_0 a0_1 l0_2 ((rd_T96 l0_2 x26_2).f0) ((rd_T96 l0_2 x26_2).f1) ((rd_T96 l0_2 x26_2).f2) ((rd_T96 l0_2 x26_2).f3)))) else (spec_GoodStore.j2 k2 x26_2 l0_2 (l0_2.length : Int) x26_2 true a0_0 a0_1 l0_2 ((rd_T96 l0_2 x26_2).f0) ((rd_T96 l0_2 x26_2).f1) ((rd_T96 l0_2 x26_2).f2) ((rd_T96 l0_2 x26_2).f3)))) else (spec_GoodStore.j2 k2 x26_2 l0_2 (l0_2.length : Int) x26_2 true a0_0 a0_1 l0_2 ((rd_T96 l0_2 x26_2).f0) ((rd_T96 l0_2 x26_2).f1) ((rd_T96 l0_2 x26_2).f2) ((rd_T96 l0_2 x26_2).f3))) = some r := H
          have A20 := Aside0.mk A200
          clear A200
          by_cases c21 : t118 = true
          ·subst c21
           have H1 : ((spec_l1In.f ((rd_T96 l0_2 x26_2).f1) 1 100000).bind fun t119 => (if t119 = true then ((spec_l1In.f ((rd_T96 l0_2 x26_2).f2) 0 1000).bind fun t120 => (if t120 = true then ((spec_l1In.f ((rd_T96 l0_2 x26_2).f3) 0 a0_1).bind fun t121 => (if t121 = true then (if x26_2 > 0 then (if 0 ≤ (wrap64 (x26_2 - 1)) then (if (wrap64 (x26_2 - 1)) < (l0_2.length : Int) then (spec_GoodStore.j2 k2 x26_2 l0_2 (l0_2.length : Int) x26_2 (!(Op.bytesLess (((rd_T96 l0_2 (wrap64 (x26_2 - 1))).f0).toList) (((rd_T96 l0_2 x26_2).f0).toList))) a0_0 a0_1 l0_2 ((rd_T96 l0_2 x26_2).f0) ((rd_T96 l0_2 x26_2).f1) ((rd_T96 l0_2 x26_2).f2) ((rd_T96 l0_2 x26_2).f3)) else (none)) else (none)) else (spec_GoodStore.j2 k2 x26_2 l0_2 (l0_2.length : Int) x26_2 false a0_0 a0_1 l0_2 ((rd_T96 l0_2 x26_2).f0) ((rd_T96 l0_2 x26_2).f1) ((rd_T96 l0_2 x26_2).f2) ((rd_T96 l0_2 x26_2).f3))) else (spec_GoodStore.j2 k2 x26_2 l0_2 (l0_2.length : Int) x26_2 true a0_0 a0_1 l0_2 ((rd_T96 l0_2 x26_2).f0) ((rd_T96 l0_2 x26_2).f1) ((rd_T96 l0_2 x26_2).f2) ((rd_T96 l0_2 x26_2).f3)))) else (spec_GoodStore.j2 k2 x26_2 l0_2 (l0_2.length : Int) x26_2 true a0_0 a0_1 l0_2 ((rd_T96 l0_2 x26_2).f0) ((rd_T96 l0_2 x26_2).f1) ((rd_T96 l0_2 x26_2).f2) ((rd_T96 l0_2 x26_2).f3)))) else (spec_GoodStore.j2 k2 x26_2 l0_2 (l0_2.length : Int) x26_2 true a0_0 a0_1 l0_2 ((rd_T96 l0_2 x26_2).f0) ((rd_T96 l0_2 x26_2).f1) ((rd_T96 l0_2 x26_2).f2) ((rd_T96 l0_2 x26_2).f3)))) = some r := by rw [if_pos rfl] at H; exact H
           clear H
           have H := H1
           clear H1
           replace H := Option.bind_eq_some_iff.mp H
           obtain ⟨t119, A220, H⟩ := H
           replace H : (if t119 = true then ((spec_l1In.f ((rd_T96 l0_2 x26_2).f2) 0 1000).bind fun t120 => (if t120 = true then ((spec_l1In.f ((rd_T96 l0_2 x26_2).f3) 0 a0_1).bind fun t121 => (if t121 = true then (if x26_2 > 0 then (if 0 ≤ (wrap64 (x26_2 - 1)) then (if (wrap64 (x26_2 - 1)) < (l0_2.length : Int) then (spec_GoodStore.j2 k2 x26_2 l0_2 (l0_2.length : Int) x26_2 (!(Op.bytesLess (((rd_T96 l0_2 (wrap64 (x26_2 - 1))).f0).toList) (((rd_T96 l0_2 x26_2).f0).toList))) a0_0 a0_1 l0_2 ((rd_T96 l0_2 x26_2).f0) ((rd_T96 l0_2 x26_2).f1) ((rd_T96 l0_2 x26_2).f2) ((rd_T96 l0_2 x26_2).f3)) else (none)) else (none)) else (spec_GoodStore.j2 k2 x26_2 l0_2 (l0_2.length : Int) x26_2 false a0_0 a0_1 l0_2 ((rd_T96 l0_2 x26_2).f0) ((rd_T96 l0_2 x26_2).f1) ((rd_T96 l0_2 x26_2).f2) ((rd_T96 l0_2 x26_2).f3))) else (spec_GoodStore.j2 k2 x26_2 l0_2 (l0_2.length : Int) x26_2 true a0_0 a0_1 l0_2 ((rd_T96 l0_2 x26_2).f0) ((rd_T96 l0_2 x26_2).f1) ((rd_T96 l0_2 x26_2).f2) ((rd_T96 l0_2 x26_2).f3)))) else (spec_GoodStore.j2 k2 x26_2 l0_2 (l0_2.length : Int) x26_2 true a0_0 a0_1 l0_2 ((rd_T96 l0_2 x26_2).f0) ((rd_T96 l0_2 x26_2).f1) ((rd_T96 l0_2 x26_2).f2) ((rd_T96 l0_2 x26_2).f3)))) else (spec_GoodStore.j2 k2 x26_2 l0_2 (l0_2.length : Int) x26_2 true a0_0 a0_1 l0_2 ((rd_T96 l0_2 x26_2).f0) ((rd_T96 l0_2 x26_2).f1) ((rd_T96 l0_2 x26_2).f2) ((rd_T96 l0_2 x26_2).f3))) = some r := H
           have A22 := Aside0.mk A220
           clear A220
           by_cases c23 : t119 = true
           ·subst c23
            have H1 : ((spec_l1In.f ((rd_T96 l0_2 x26_2).f2) 0 1000).bind fun t120 => (if t120 = true then ((spec_l1In.f ((rd_T96 l0_2 x26_2).f3) 0 a0_1).bind fun t121 => (if t121 = true then (if x26_2 > 0 then (if 0 ≤ (wrap64 (x26_2 - 1)) then (if (wrap64 (x26_2 - 1)) < (l0_2.length : Int) then (spec_GoodStore.j2 k2 x26_2 l0_2 (l0_2.length : Int) x26_2 (!(Op.bytesLess (((rd_T96 l0_2 (wrap64 (x26_2 - 1))).f0).toList) (((rd_T96 l0_2 x26_2).f0).toList))) a0_0 a0_1 l0_2 ((rd_T96 l0_2 x26_2).f0) ((rd_T96 l0_2 x26_2).f1) ((rd_T96 l0_2 x26_2).f2) ((rd_T96 l0_2 x26_2).f3)) else (none)) else (none)) else (spec_GoodStore.j2 k2 x26_2 l0_2 (l0_2.length : Int) x26_2 false a0_0 a0_1 l0_2 ((rd_T96 l0_2 x26_2).f0) ((rd_T96 l0_2 x26_2).f1) ((rd_T96 l0_2 x26_2).f2) ((rd_T96 l0_2 x26_2).f3))) else (spec_GoodStore.j2 k2 x26_2 l0_2 (l0_2.length : Int) x26_2 true a0_0 a0_1 l0_2 ((rd_T96 l0_2 x26_2).f0) ((rd_T96 l0_2 x26_2).f1) ((rd_T96 l0_2 x26_2).f2) ((rd_T96 l0_2 x26_2).f3)))) else (spec_GoodStore.j2 k2 x26_2 l0_2 (l0_2.length : Int) x26_2 true a0_0 a0_1 l0_2 ((rd_T96 l0_2 x26_2).f0) ((rd_T96 l0_2 x26_2).f1) ((rd_T96 l0_2 x26_2).f2) ((rd_T96 l0_2 x26_2).f3)))) = some r := by rw [if_pos rfl] at H; exact H
            clear H
            have H := H1
            clear H1
            replace H := Option.bind_eq_some_iff.mp H
            obtain ⟨t120, A240, H⟩ := H
            replace H : (if t120 = true then ((spec_l1In.f ((rd_T96 l0_2 x26_2).f3) 0 a0_1).bind fun t121 => (if t121 = true then (if x26_2 > 0 then (if 0 ≤ (wrap64 (x26_2 - 1)) then (if (wrap64 (x26_2 - 1)) < (l0_2.length : Int) then (spec_GoodStore.j2 k2 x26_2 l0_2 (l0_2.length : Int) x26_2 (!(Op.bytesLess (((rd_T96 l0_2 (wrap64 (x26_2 - 1))).f0).toList) (((rd_T96 l0_2 x26_2).f0).toList))) a0_0 a0_1 l0_2 ((rd_T96 l0_2 x26_2).f0) ((rd_T96 l0_2 x26_2).f1) ((rd_T96 l0_2 x26_2).f2) ((rd_T96 l0_2 x26_2).f3)) else (none)) else (none)) else (spec_GoodStore.j2 k2 x26_2 l0_2 (l0_2.length : Int) x26_2 false a0_0 a0_1 l0_2 ((rd_T96 l0_2 x26_2).f0) ((rd_T96 l0_2 x26_2).f1) ((rd_T96 l0_2 x26_2).f2) ((rd_T96 l0_2 x26_2).f3))) else (spec_GoodStore.j2 k2 x26_2 l0_2 (l0_2.length : Int) x26_2 true a0_0 a0_1 l0_2 ((rd_T96 l0_2 x26_2).f0) ((rd_T96 l0_2 x26_2).f1) ((rd_T96 l0_2 x26_2).f2) ((rd_T96 l0_2 x26_2).f3)))) else (spec_GoodStore.j2 k2 x26_2 l0_2 (l0_2.length : Int) x26_2 true a0_0 a0_1 l0_2 ((rd_T96 l0_2 x26_2).f0) ((rd_T96 l0_2 x26_2).f1) ((rd_T96 l0_2 x26_2).f2) ((rd_T96 l0_2 x26_2).f3))) = some r := H
            have A24 := Aside0.mk A240
            clear A240
            by_cases c25 : t120 = true
            ·subst c25
             have H1 : ((spec_l1In.f ((rd_T96 l0_2 x26_2).f3) 0 a0_1).bind fun t121 => (if t121 = true then (if x26_2 > 0 then (if 0 ≤ (wrap64 (x26_2 - 1)) then (if (wrap64 (x26_2 - 1)) < (l0_2.length : Int) then (spec_GoodStore.j2 k2 x26_2 l0_2 (l0_2.length : Int) x26_2 (!(Op.bytesLess (((rd_T96 l0_2 (wrap64 (x26_2 - 1))).f0).toList) (((rd_T96 l0_2 x26_2).f0).toList))) a0_0 a0_1 l0_2 ((rd_T96 l0_2 x26_2).f0) ((rd_T96 l0_2 x26_2).f1) ((rd_T96 l0_2 x26_2).f2) ((rd_T96 l0_2 x26_2).f3)) else (none)) else (none)) else (spec_GoodStore.j2 k2 x26_2 l0_2 (l0_2.length : Int) x26_2 false a0_0 a0_1 l0_2 ((rd_T96 l0_2 x26_2).f0) ((rd_T96 l0_2 x26_2).f1) ((rd_T96 l0_2 x26_2).f2) ((rd_T96 l0_2 x26_2).f3))) else (spec_GoodStore.j2 k2 x26_2 l0_2 (l0_2.length : Int) x26_2 true a0_0 a0_1 l0_2 ((rd_T96 l0_2 x26_2).f0) ((rd_T96 l0_2 x26_2).f1) ((rd_T96 l0_2 x26_2).f2) ((rd_T96 l0_2 x26_2).f3)))) = some r := by rw [if_pos rfl] at H; exact H
             clear H
             have H := H1
             clear H1
             replace H := Option.bind_eq_some_iff.mp H
             obtain ⟨t121, A260, H⟩ := H
             replace H : (if t121 = true then (if x26_2 > 0 then (if 0 ≤ (wrap64 (x26_2 - 1)) then (if (wrap64 (x26_2 - 1)) < (l0_2.length : Int) then (spec_GoodStore.j2 k2 x26_2 l0_2 (l0_2.length : Int) x26_2 (!(Op.bytesLess (((rd_T96 l0_2 (wrap64 (x26_2 - 1))).f0).toList) (((rd_T96 l0_2 x26_2).f0).toList))) a0_0 a0_1 l0_2 ((rd_T96 l0_2 x26_2).f0) ((rd_T96 l0_2 x26_2).f1) ((rd_T96 l0_2 x26_2).f2) ((rd_T96 l0_2 x26_2).f3)) else (none)) else (none)) else (spec_GoodStore.j2 k2 x26_2 l0_2 (l0_2.length : Int) x26_2 false a0_0 a0_1 l0_2 ((rd_T96 l0_2 x26_2).f0) ((rd_T96 l0_2 x26_2).f1) ((rd_T96 l0_2 x26_2).f2) ((rd_T96 l0_2 x26_2).f3))) else (spec_GoodStore.j2 k2 x26_2 l0_2 (l0_2.length : Int) x26_2 true a0_0 a0_1 l0_2 ((rd_T96 l0_2 x26_2).f0) ((rd_T96 l0_2 x26_2).f1) ((rd_T96 l0_2 x26_2).f2) ((rd_T96 l0_2 x26_2).f3))) = some r := H
             have A26 := Aside0.mk A260
             clear A260
             by_cases c27 : t121 = true
             ·subst c27
              have H1 : (if x26_2 > 0 then (if 0 ≤ (wrap64 (x26_2 - 1)) then (if (wrap64 (x26_2 - 1)) < (l0_2.length : Int) then (spec_GoodStore.j2 k2 x26_2 l0_2 (l0_2.length : Int) x26_2 (!(Op.bytesLess (((rd_T96 l0_2 (wrap64 (x26_2 - 1))).f0).toList) (((rd_T96 l0_2 x26_2).f0).toList))) a0_0 a0_1 l0_2 ((rd_T96 l0_2 x26_2).f0) ((rd_T96 l0_2 x26_2).f1) ((rd_T96 l0_2 x26_2).f2) ((rd_T96 l0_2 x26_2).f3)) else (none)) else (none)) else (spec_GoodStore.j2 k2 x26_2 l0_2 (l0_2.length : Int) x26_2 false a0_0 a0_1 l0_2 ((rd_T96 l0_2 x26_2).f0) ((rd_T96 l0_2 x26_2).f1) ((rd_T96 l0_2 x26_2).f2) ((rd_T96 l0_2 x26_2).f3))) = some r := by rw [if_pos rfl] at H; exact H
              clear H
              have H := H1
              clear H1
              by_cases c28 : x26_2 > 0
              ·rw [if_pos c28] at H
               have c28b0 : decide (0 < x26_2) = true := decide_eq_true c28
               clear c28
               (first | rw [c28b0] | (simp only [i64_w, i32_w]; rw [c28b0]) | rw [c28b3] | skip)
               obtain ⟨ji29, hji29⟩ : ∃ j_ : Int, (wrap64 (x26_2 - 1)) = j_ := ⟨_, rfl⟩
               replace H : (if 0 ≤ (ji29) then (if (ji29) < (l0_2.length : Int) then (spec_GoodStore.j2 k2 x26_2 l0_2 (l0_2.length : Int) x26_2 (!(Op.bytesLess (((rd_T96 l0_2 (ji29)).f0).toList) (((rd_T96 l0_2 x26_2).f0).toList))) a0_0 a0_1 l0_2 ((rd_T96 l0_2 x26_2).f0) ((rd_T96 l0_2 x26_2).f1) ((rd_T96 l0_2 x26_2).f2) ((rd_T96 l0_2 x26_2).f3)) else (none)) else (none)) = some r := by first | (rw [hji29] at H; exact H) | (simp only [hji29] at H ⊢; exact H)
               (try rw [hji29] at A20)
               (try rw [hji29] at A22)
               (try rw [hji29] at A24)
               (try rw [hji29] at A26)
               have hji29w : (IntKind.i64.wrap (x26_2 - 1)) = ji29 := (i64_w _).trans hji29
               by_cases c30 : 0 ≤ (ji29)
               ·rw [if_pos c30] at H
                have c30b0 : decide (0 ≤ (ji29)) = true := decide_eq_true c30
                clear c30
                by_cases c31 : (ji29) < (l0_2.length : Int)
                ·rw [if_pos c31] at H
                 have c31b0 : decide ((ji29) < (l0_2.length : Int)) = true := decide_eq_true c31
                 clear c31
                 have H' := Aside0.mk H
                 clear H
                 try go_wp2
                 have n0_ : Aside0 (((((w17.setCell ⟨gb117, 0, none⟩ (.string ((rd_T96 l0_2 x26_2).f0))).setCell ⟨gb117, 1, none⟩ (.int .i64 ((rd_T96 l0_2 x26_2).f1))).setCell ⟨gb117, 2, none⟩ (.int .i64 ((rd_T96 l0_2 x26_2).f2))).setCell ⟨gb117, 3, none⟩ (.int .i64 ((rd_T96 l0_2 x26_2).f3))).heap[gb112]? = some (.cells #[.int .i64 a0_0, .int .i64 a0_1, .slice (some ad116) l0_2.length c0_2] 46 (0, 0))) := ⟨by refine blk_far ?_ NB112_117.out _; refine blk_far ?_ NB112_117.out _; refine blk_far ?_ NB112_117.out _; refine blk_far ?_ NB112_117.out _; exact BK112.out⟩
                 have n1_ : Aside0 (((((w17.setCell ⟨gb117, 0, none⟩ (.string ((rd_T96 l0_2 x26_2).f0))).setCell ⟨gb117, 1, none⟩ (.int .i64 ((rd_T96 l0_2 x26_2).f1))).setCell ⟨gb117, 2, none⟩ (.int .i64 ((rd_T96 l0_2 x26_2).f2))).setCell ⟨gb117, 3, none⟩ (.int .i64 ((rd_T96 l0_2 x26_2).f3))).heap[gb117]? = some (.cells #[.string ((rd_T96 l0_2 x26_2).f0), .int .i64 ((rd_T96 l0_2 x26_2).f1), .int .i64 ((rd_T96 l0_2 x26_2).f2), .int .i64 ((rd_T96 l0_2 x26_2).f3)] 96 (0, 0))) := ⟨by refine blk_put (cs := #[.string ((rd_T96 l0_2 x26_2).f0), .int .i64 ((rd_T96 l0_2 x26_2).f1), .int .i64 ((rd_T96 l0_2 x26_2).f2), .int .i64 0]) ?_ 3 _ rfl; refine blk_put (cs := #[.string ((rd_T96 l0_2 x26_2).f0), .int .i64 ((rd_T96 l0_2 x26_2).f1), .int .i64 0, .int .i64 0]) ?_ 2 _ rfl; refine blk_put (cs := #[.string ((rd_T96 l0_2 x26_2).f0), .int .i64 0, .int .i64 0, .int .i64 0]) ?_ 1 _ rfl; refine blk_put (cs := #[.string (⟨#[]⟩ : ByteArray), .int .i64 0, .int .i64 0, .int .i64 0]) ?_ 0 _ rfl; exact BK117.out⟩
                 have n2_ : Aside0 (Below w.heap.size w ((((w17.setCell ⟨gb117, 0, none⟩ (.string ((rd_T96 l0_2 x26_2).f0))).setCell ⟨gb117, 1, none⟩ (.int .i64 ((rd_T96 l0_2 x26_2).f1))).setCell ⟨gb117, 2, none⟩ (.int .i64 ((rd_T96 l0_2 x26_2).f2))).setCell ⟨gb117, 3, none⟩ (.int .i64 ((rd_T96 l0_2 x26_2).f3)))) := ⟨by repeat (first | (with_reducible first | exact HB.out | apply below_alloc | apply pw_below_drewN | apply below_drew1 | refine below_set ?_ GE112.out | refine below_set ?_ GE117.out) | exact HB.out)⟩
                 (try clear BK112)
                 (try clear BK117)
                 (try clear HB)
                 generalize ((((w17.setCell ⟨gb117, 0, none⟩ (.string ((rd_T96 l0_2 x26_2).f0))).setCell ⟨gb117, 1, none⟩ (.int .i64 ((rd_T96 l0_2 x26_2).f1))).setCell ⟨gb117, 2, none⟩ (.int .i64 ((rd_T96 l0_2 x26_2).f2))).setCell ⟨gb117, 3, none⟩ (.int .i64 ((rd_T96 l0_2 x26_2).f3))) = w32 at n0_ n1_ n2_ ⊢
                 have BK112 := n0_
                 have BK117 := n1_
                 have HB := n2_
                 clear n0_ n1_ n2_
                 have n0_ := Aside0.mk (blk_drew BK112.out)
                 have n1_ := Aside0.mk (blk_drew BK117.out)
                 have n2_ := Aside0.mk (below_drew1 HB.out)
                 clear BK112
                 clear BK117
                 clear HB
                 have BK112 := n0_
                 have BK117 := n1_
                 have HB := n2_
                 clear n0_ n1_ n2_
                 have p122 : 0 ≤ ((ji29) : Int) := of_decide_eq_true (by first | (with_reducible assumption) | assumption)
                 have q122 : (ji29) < (l0_2.length : Int) := of_decide_eq_true (by first | (with_reducible assumption) | assumption)
                 obtain ⟨ad122, e122, hx122_0, hx122_1, hx122_2, hx122_3⟩ := at_T96 HR0_2.out (ji29) p122 q122
                 have hw122_3 := hx122_3
                 have hw122_2 := hx122_2
                 have hw122_1 := hx122_1
                 have hw122_0 := hx122_0
                 obtain rfl : ad116 = ad122 := (by injection e122)
                 replace hx122_0 := (HB.out.cell (World.block_lt_of_cell? w _ hx122_0)).trans hx122_0
                 replace hx122_1 := (HB.out.cell (World.block_lt_of_cell? w _ hx122_1)).trans hx122_1
                 replace hx122_2 := (HB.out.cell (World.block_lt_of_cell? w _ hx122_2)).trans hx122_2
                 replace hx122_3 := (HB.out.cell (World.block_lt_of_cell? w _ hx122_3)).trans hx122_3
                 replace p122 := eq_true p122
                 replace q122 := eq_true q122
                 refine start_ (n := 40) (S := fun w' => w'.cell? ⟨gb117, 0, none⟩ = some (.string ((rd_T96 l0_2 x26_2).f0)) ∧ w'.cell? ⟨gb117, 1, none⟩ = some (.int .i64 ((rd_T96 l0_2 x26_2).f1)) ∧ w'.cell? ⟨gb117, 2, none⟩ = some (.int .i64 ((rd_T96 l0_2 x26_2).f2)) ∧ w'.cell? ⟨gb117, 3, none⟩ = some (.int .i64 ((rd_T96 l0_2 x26_2).f3)) ∧ w'.cell? ⟨gb112, 0, none⟩ = some (.int .i64 a0_0) ∧ w'.cell? ⟨gb112, 1, none⟩ = some (.int .i64 a0_1) ∧ w'.cell? ⟨gb112, 2, none⟩ = some (.slice (some ad116) l0_2.length c0_2) ∧ w'.cell? (ad116.add (((ji29)).toNat * 4)) = some (.string ((rd_T96 l0_2 (ji29)).f0)) ∧ w'.cell? ⟨(ad116.add (((ji29)).toNat * 4)).block, (ad116.add (((ji29)).toNat * 4)).off + 1, none⟩ = some (.int .i64 ((rd_T96 l0_2 (ji29)).f1)) ∧ w'.cell? ⟨(ad116.add (((ji29)).toNat * 4)).block, (ad116.add (((ji29)).toNat * 4)).off + 2, none⟩ = some (.int .i64 ((rd_T96 l0_2 (ji29)).f2)) ∧ w'.cell? ⟨(ad116.add (((ji29)).toNat * 4)).block, (ad116.add (((ji29)).toNat * 4)).off + 3, none⟩ = some (.int .i64 ((rd_T96 l0_2 (ji29)).f3))) (ds := []) #[false, false, false, false, false, false, false, false, false, false, false, false, false, false, false, false, false, false, false, false, false, false, false, false, false, false, false, false, false, false, false, false, false, false, false, false, false, false, false, false] (by kernel_rfl) rfl rfl ⟨(blk_cell BK117.out 0).trans rfl, (blk_cell BK117.out 1).trans rfl, (blk_cell BK117.out 2).trans rfl, (blk_cell BK117.out 3).trans rfl, (blk_cell BK112.out 0).trans rfl, (blk_cell BK112.out 1).trans rfl, (blk_cell BK112.out 2).trans rfl, ((HB.out.cell (World.block_lt_of_cell? w _ hw122_0)).trans hw122_0), ((HB.out.cell (World.block_lt_of_cell? w _ hw122_1)).trans hw122_1), ((HB.out.cell (World.block_lt_of_cell? w _ hw122_2)).trans hw122_2), ((HB.out.cell (World.block_lt_of_cell? w _ hw122_3)).trans hw122_3)⟩ (fun hHeld => ?_); refine with_tabW spec_GoodStore.tab6 spec_GoodStore.bits6 (fun HT_ HW_ => ?_)
                 generalize w32.drew = w33 at BK112 BK117 HB hx122_0 hx122_1 hx122_2 hx122_3 hHeld ⊢
                 refine pure_ (i := 0) (N := some 31) (v := ?_) (a' := ?_) (bz2 40 1) rfl rfl (any_of HT_.out (by kernel_rfl)) (fun _ _ _ h => h) (Or.inl ⟨by rfl, ?_⟩) ?_ ?_
                 rotate_left
                 ·intro w'
                  go_simp
                  with_reducible rfl
                 rotate_left
                 ·simp only [Act.put, List.setIfInBounds_toArray, List.set_cons_zero, List.set_cons_succ, i64_w, i32_w]
                  rfl
                 refine take_ (i := 1) (N := some 32) (v := ?_) (a' := ?_) (bz2 40 3) rfl rfl (take_ofW HT_.out HW_.out (by kernel_rfl)) (fun _ _ _ h => h) (Or.inl ⟨by rfl, ?_⟩) hHeld ?_ ?_
                 rotate_left
                 ·rintro w' ⟨s0, s1, s2, s3, s4, s5, s6, s7, s8, s9, s10⟩
                  go_simp
                  with_reducible rfl
                 rotate_left
                 ·simp only [Act.put, List.setIfInBounds_toArray, List.set_cons_zero, List.set_cons_succ, i64_w, i32_w]
                  rfl
                 refine one_ (i := 2) (N := some 33) (bz2 40 7) rfl rfl (one_of HT_.out (by kernel_rfl)) (by decide) (fun K hK => ?_)
                 refine goes_ Try.func53 (by kernel_rfl) rfl #[.string ((rd_T96 l0_2 x26_2).f0)] (by rfl) rfl rfl (by (try simp only [List.map_toArray, List.map_cons, List.map_nil]); first | done | rfl | (simp only [List.length_drop, List.length_take]; rfl)) ?_
                 with_reducible refine (spec_GoodName.calls k2 ((rd_T96 l0_2 x26_2).f0) true _ A20.out).mono ?_
                 rintro e w' ⟨rfl, ⟨nd, rfl⟩⟩
                 refine ⟨_, rfl, ?_⟩
                 refine hK.out _ _ ⟨(blk_cell BK117.out 0).trans rfl, (blk_cell BK117.out 1).trans rfl, (blk_cell BK117.out 2).trans rfl, (blk_cell BK117.out 3).trans rfl, (blk_cell BK112.out 0).trans rfl, (blk_cell BK112.out 1).trans rfl, (blk_cell BK112.out 2).trans rfl, ((HB.out.cell (World.block_lt_of_cell? w _ hw122_0)).trans hw122_0), ((HB.out.cell (World.block_lt_of_cell? w _ hw122_1)).trans hw122_1), ((HB.out.cell (World.block_lt_of_cell? w _ hw122_2)).trans hw122_2), ((HB.out.cell (World.block_lt_of_cell? w _ hw122_3)).trans hw122_3)⟩ (fun hHeld => ?_)
                 clear hK K
                 refine norm_ (a' := ?_) ?_ ?_
                 rotate_left
                 ·show Act.put _ (some 33) _ = _
                  simp only [Act.put, List.setIfInBounds_toArray, List.set_cons_zero, List.set_cons_succ, i64_w, i32_w]
                  rfl
                 refine pure_ (i := 3) (N := some 34) (v := ?_) (a' := ?_) (bz2 40 15) rfl rfl (any_of HT_.out (by kernel_rfl)) (fun _ _ _ h => h) (Or.inl ⟨by rfl, ?_⟩) ?_ ?_
                 rotate_left
                 ·intro w'
                  go_simp
                  with_reducible rfl
                 rotate_left
                 ·simp only [Act.put, List.setIfInBounds_toArray, List.set_cons_zero, List.set_cons_succ, i64_w, i32_w]
                  rfl
                 refine pure_ (i := 4) (N := some 35) (v := ?_) (a' := ?_) (bz2 40 31) rfl rfl (any_of HT_.out (by kernel_rfl)) (fun _ _ _ h => h) (Or.inl ⟨by rfl, ?_⟩) ?_ ?_
                 rotate_left
                 ·intro w'
                  go_simp
                  with_reducible rfl
                 rotate_left
                 ·simp only [Act.put, List.setIfInBounds_toArray, List.set_cons_zero, List.set_cons_succ, i64_w, i32_w]
                  rfl
                 refine pure_ (i := 5) (N := some 36) (v := ?_) (a' := ?_) (bz2 40 63) rfl rfl (any_of HT_.out (by kernel_rfl)) (fun _ _ _ h => h) (Or.inl ⟨by rfl, ?_⟩) ?_ ?_
                 rotate_left
                 ·intro w'
                  go_simp
                  with_reducible rfl
                 rotate_left
                 ·simp only [Act.put, List.setIfInBounds_toArray, List.set_cons_zero, List.set_cons_succ, i64_w, i32_w]
                  rfl
                 refine take_ (i := 6) (N := some 37) (v := ?_) (a' := ?_) (bz2 40 127) rfl rfl (take_ofW HT_.out HW_.out (by kernel_rfl)) (fun _ _ _ h => h) (Or.inl ⟨by rfl, ?_⟩) hHeld ?_ ?_
                 rotate_left
                 ·rintro w' ⟨s0, s1, s2, s3, s4, s5, s6, s7, s8, s9, s10⟩
                  go_simp
                  with_reducible rfl
                 rotate_left
                 ·simp only [Act.put, List.setIfInBounds_toArray, List.set_cons_zero, List.set_cons_succ, i64_w, i32_w]
                  rfl
                 refine one_ (i := 7) (N := some 38) (bz2 40 255) rfl rfl (one_of HT_.out (by kernel_rfl)) (by decide) (fun K hK => ?_)
                 refine goes_ Try.func70 (by kernel_rfl) rfl #[.int .i64 ((rd_T96 l0_2 x26_2).f1), .int .i64 1, .int .i64 100000] (by rfl) rfl rfl (by (try simp only [List.map_toArray, List.map_cons, List.map_nil]); first | done | rfl | (simp only [List.length_drop, List.length_take]; rfl)) ?_
                 with_reducible refine (spec_l1In.calls ((rd_T96 l0_2 x26_2).f1) 1 100000 true _ A22.out).mono ?_
                 rintro e w' ⟨rfl, ⟨nd, rfl⟩⟩
                 refine ⟨_, rfl, ?_⟩
                 refine hK.out _ _ ⟨(blk_cell BK117.out 0).trans rfl, (blk_cell BK117.out 1).trans rfl, (blk_cell BK117.out 2).trans rfl, (blk_cell BK117.out 3).trans rfl, (blk_cell BK112.out 0).trans rfl, (blk_cell BK112.out 1).trans rfl, (blk_cell BK112.out 2).trans rfl, ((HB.out.cell (World.block_lt_of_cell? w _ hw122_0)).trans hw122_0), ((HB.out.cell (World.block_lt_of_cell? w _ hw122_1)).trans hw122_1), ((HB.out.cell (World.block_lt_of_cell? w _ hw122_2)).trans hw122_2), ((HB.out.cell (World.block_lt_of_cell? w _ hw122_3)).trans hw122_3)⟩ (fun hHeld => ?_)
                 clear hK K
                 refine norm_ (a' := ?_) ?_ ?_
                 rotate_left
                 ·show Act.put _ (some 38) _ = _
                  simp only [Act.put, List.setIfInBounds_toArray, List.set_cons_zero, List.set_cons_succ, i64_w, i32_w]
                  rfl
                 refine pure_ (i := 8) (N := some 39) (v := ?_) (a' := ?_) (bz2 40 511) rfl rfl (any_of HT_.out (by kernel_rfl)) (fun _ _ _ h => h) (Or.inl ⟨by rfl, ?_⟩) ?_ ?_
                 rotate_left
                 ·intro w'
                  go_simp
                  with_reducible rfl
                 rotate_left
                 ·simp only [Act.put, List.setIfInBounds_toArray, List.set_cons_zero, List.set_cons_succ, i64_w, i32_w]
                  rfl
                 refine pure_ (i := 9) (N := some 40) (v := ?_) (a' := ?_) (bz2 40 1023) rfl rfl (any_of HT_.out (by kernel_rfl)) (fun _ _ _ h => h) (Or.inl ⟨by rfl, ?_⟩) ?_ ?_
                 rotate_left
                 ·intro w'
                  go_simp
                  with_reducible rfl
                 rotate_left
                 ·simp only [Act.put, List.setIfInBounds_toArray, List.set_cons_zero, List.set_cons_succ, i64_w, i32_w]
                  rfl
                 refine pure_ (i := 10) (N := some 41) (v := ?_) (a' := ?_) (bz2 40 2047) rfl rfl (any_of HT_.out (by kernel_rfl)) (fun _ _ _ h => h) (Or.inl ⟨by rfl, ?_⟩) ?_ ?_
                 rotate_left
                 ·intro w'
                  go_simp
                  with_reducible rfl
                 rotate_left
                 ·simp only [Act.put, List.setIfInBounds_toArray, List.set_cons_zero, List.set_cons_succ, i64_w, i32_w]
                  rfl
                 refine pure_ (i := 11) (N := some 42) (v := ?_) (a' := ?_) (bz2 40 4095) rfl rfl (any_of HT_.out (by kernel_rfl)) (fun _ _ _ h => h) (Or.inl ⟨by rfl, ?_⟩) ?_ ?_
                 rotate_left
                 ·intro w'
                  go_simp
                  with_reducible rfl
                 rotate_left
                 ·simp only [Act.put, List.setIfInBounds_toArray, List.set_cons_zero, List.set_cons_succ, i64_w, i32_w]
                  rfl
                 refine take_ (i := 12) (N := some 43) (v := ?_) (a' := ?_) (bz2 40 8191) rfl rfl (take_ofW HT_.out HW_.out (by kernel_rfl)) (fun _ _ _ h => h) (Or.inl ⟨by rfl, ?_⟩) hHeld ?_ ?_
                 rotate_left
                 ·rintro w' ⟨s0, s1, s2, s3, s4, s5, s6, s7, s8, s9, s10⟩
                  go_simp
                  with_reducible rfl
                 rotate_left
                 ·simp only [Act.put, List.setIfInBounds_toArray, List.set_cons_zero, List.set_cons_succ, i64_w, i32_w]
                  rfl
                 refine one_ (i := 13) (N := some 44) (bz2 40 16383) rfl rfl (one_of HT_.out (by kernel_rfl)) (by decide) (fun K hK => ?_)
                 refine goes_ Try.func70 (by kernel_rfl) rfl #[.int .i64 ((rd_T96 l0_2 x26_2).f2), .int .i64 0, .int .i64 1000] (by rfl) rfl rfl (by (try simp only [List.map_toArray, List.map_cons, List.map_nil]); first | done | rfl | (simp only [List.length_drop, List.length_take]; rfl)) ?_
                 with_reducible refine (spec_l1In.calls ((rd_T96 l0_2 x26_2).f2) 0 1000 true _ A24.out).mono ?_
                 rintro e w' ⟨rfl, ⟨nd, rfl⟩⟩
                 refine ⟨_, rfl, ?_⟩
                 refine hK.out _ _ ⟨(blk_cell BK117.out 0).trans rfl, (blk_cell BK117.out 1).trans rfl, (blk_cell BK117.out 2).trans rfl, (blk_cell BK117.out 3).trans rfl, (blk_cell BK112.out 0).trans rfl, (blk_cell BK112.out 1).trans rfl, (blk_cell BK112.out 2).trans rfl, ((HB.out.cell (World.block_lt_of_cell? w _ hw122_0)).trans hw122_0), ((HB.out.cell (World.block_lt_of_cell? w _ hw122_1)).trans hw122_1), ((HB.out.cell (World.block_lt_of_cell? w _ hw122_2)).trans hw122_2), ((HB.out.cell (World.block_lt_of_cell? w _ hw122_3)).trans hw122_3)⟩ (fun hHeld => ?_)
                 clear hK K
                 refine norm_ (a' := ?_) ?_ ?_
                 rotate_left
                 ·show Act.put _ (some 44) _ = _
                  simp only [Act.put, List.setIfInBounds_toArray, List.set_cons_zero, List.set_cons_succ, i64_w, i32_w]
                  rfl
                 refine pure_ (i := 14) (N := some 45) (v := ?_) (a' := ?_) (bz2 40 32767) rfl rfl (any_of HT_.out (by kernel_rfl)) (fun _ _ _ h => h) (Or.inl ⟨by rfl, ?_⟩) ?_ ?_
                 rotate_left
                 ·intro w'
                  go_simp
                  with_reducible rfl
                 rotate_left
                 ·simp only [Act.put, List.setIfInBounds_toArray, List.set_cons_zero, List.set_cons_succ, i64_w, i32_w]
                  rfl
                 refine pure_ (i := 15) (N := some 46) (v := ?_) (a' := ?_) (bz2 40 65535) rfl rfl (any_of HT_.out (by kernel_rfl)) (fun _ _ _ h => h) (Or.inl ⟨by rfl, ?_⟩) ?_ ?_
                 rotate_left
                 ·intro w'
                  go_simp
                  with_reducible rfl
                 rotate_left
                 ·simp only [Act.put, List.setIfInBounds_toArray, List.set_cons_zero, List.set_cons_succ, i64_w, i32_w]
                  rfl
                 refine pure_ (i := 16) (N := some 47) (v := ?_) (a' := ?_) (bz2 40 131071) rfl rfl (any_of HT_.out (by kernel_rfl)) (fun _ _ _ h => h) (Or.inl ⟨by rfl, ?_⟩) ?_ ?_
                 rotate_left
                 ·intro w'
                  go_simp
                  with_reducible rfl
                 rotate_left
                 ·simp only [Act.put, List.setIfInBounds_toArray, List.set_cons_zero, List.set_cons_succ, i64_w, i32_w]
                  rfl
                 refine pure_ (i := 17) (N := some 48) (v := ?_) (a' := ?_) (bz2 40 262143) rfl rfl (any_of HT_.out (by kernel_rfl)) (fun _ _ _ h => h) (Or.inl ⟨by rfl, ?_⟩) ?_ ?_
                 rotate_left
                 ·intro w'
                  go_simp
                  with_reducible rfl
                 rotate_left
                 ·simp only [Act.put, List.setIfInBounds_toArray, List.set_cons_zero, List.set_cons_succ, i64_w, i32_w]
                  rfl
                 refine pure_ (i := 19) (N := some 50) (v := ?_) (a' := ?_) (bz2 40 786431) rfl rfl (any_of HT_.out (by kernel_rfl)) (fun _ _ _ h => h) (Or.inl ⟨by rfl, ?_⟩) ?_ ?_
                 rotate_left
                 ·intro w'
                  go_simp
                  with_reducible rfl
                 rotate_left
                 ·simp only [Act.put, List.setIfInBounds_toArray, List.set_cons_zero, List.set_cons_succ, i64_w, i32_w]
                  rfl
                 refine take_ (i := 18) (N := some 49) (v := ?_) (a' := ?_) (bz2 40 1048575) rfl rfl (take_ofW HT_.out HW_.out (by kernel_rfl)) (fun _ _ _ h => h) (Or.inl ⟨by rfl, ?_⟩) hHeld ?_ ?_
                 rotate_left
                 ·rintro w' ⟨s0, s1, s2, s3, s4, s5, s6, s7, s8, s9, s10⟩
                  go_simp
                  with_reducible rfl
                 rotate_left
                 ·simp only [Act.put, List.setIfInBounds_toArray, List.set_cons_zero, List.set_cons_succ, i64_w, i32_w]
                  rfl
                 refine take_ (i := 20) (N := some 51) (v := ?_) (a' := ?_) (bz2 40 2097151) rfl rfl (take_ofW HT_.out HW_.out (by kernel_rfl)) (fun _ _ _ h => h) (Or.inl ⟨by rfl, ?_⟩) hHeld ?_ ?_
                 rotate_left
                 ·rintro w' ⟨s0, s1, s2, s3, s4, s5, s6, s7, s8, s9, s10⟩
                  go_simp
                  with_reducible rfl
                 rotate_left
                 ·simp only [Act.put, List.setIfInBounds_toArray, List.set_cons_zero, List.set_cons_succ, i64_w, i32_w]
                  rfl
                 refine one_ (i := 21) (N := some 52) (bz2 40 4194303) rfl rfl (one_of HT_.out (by kernel_rfl)) (by decide) (fun K hK => ?_)
                 refine goes_ Try.func70 (by kernel_rfl) rfl #[.int .i64 ((rd_T96 l0_2 x26_2).f3), .int .i64 0, .int .i64 a0_1] (by rfl) rfl rfl (by (try simp only [List.map_toArray, List.map_cons, List.map_nil]); first | done | rfl | (simp only [List.length_drop, List.length_take]; rfl)) ?_
                 with_reducible refine (spec_l1In.calls ((rd_T96 l0_2 x26_2).f3) 0 a0_1 true _ A26.out).mono ?_
                 rintro e w' ⟨rfl, ⟨nd, rfl⟩⟩
                 refine ⟨_, rfl, ?_⟩
                 refine hK.out _ _ ⟨(blk_cell BK117.out 0).trans rfl, (blk_cell BK117.out 1).trans rfl, (blk_cell BK117.out 2).trans rfl, (blk_cell BK117.out 3).trans rfl, (blk_cell BK112.out 0).trans rfl, (blk_cell BK112.out 1).trans rfl, (blk_cell BK112.out 2).trans rfl, ((HB.out.cell (World.block_lt_of_cell? w _ hw122_0)).trans hw122_0), ((HB.out.cell (World.block_lt_of_cell? w _ hw122_1)).trans hw122_1), ((HB.out.cell (World.block_lt_of_cell? w _ hw122_2)).trans hw122_2), ((HB.out.cell (World.block_lt_of_cell? w _ hw122_3)).trans hw122_3)⟩ (fun hHeld => ?_)
                 clear hK K
                 refine norm_ (a' := ?_) ?_ ?_
                 rotate_left
                 ·show Act.put _ (some 52) _ = _
                  simp only [Act.put, List.setIfInBounds_toArray, List.set_cons_zero, List.set_cons_succ, i64_w, i32_w]
                  rfl
                 refine pure_ (i := 22) (N := some 53) (v := ?_) (a' := ?_) (bz2 40 8388607) rfl rfl (any_of HT_.out (by kernel_rfl)) (fun _ _ _ h => h) (Or.inl ⟨by rfl, ?_⟩) ?_ ?_
                 rotate_left
                 ·intro w'
                  go_simp
                  with_reducible rfl
                 rotate_left
                 ·simp only [Act.put, List.setIfInBounds_toArray, List.set_cons_zero, List.set_cons_succ, i64_w, i32_w]
                  rfl
                 refine pure_ (i := 23) (N := some 54) (v := ?_) (a' := ?_) (bz2 40 16777215) rfl rfl (any_of HT_.out (by kernel_rfl)) (fun _ _ _ h => h) (Or.inl ⟨by rfl, ?_⟩) ?_ ?_
                 rotate_left
                 ·intro w'
                  go_simp
                  with_reducible rfl
                 rotate_left
                 ·simp only [Act.put, List.setIfInBounds_toArray, List.set_cons_zero, List.set_cons_succ, i64_w, i32_w]
                  rfl
                 refine pure_ (i := 24) (N := some 55) (v := ?_) (a' := ?_) (bz2 40 33554431) rfl rfl (any_of HT_.out (by kernel_rfl)) (fun _ _ _ h => h) (Or.inl ⟨by rfl, ?_⟩) ?_ ?_
                 rotate_left
                 ·intro w'
                  go_simp
                  with_reducible rfl
                 rotate_left
                 ·simp only [Act.put, List.setIfInBounds_toArray, List.set_cons_zero, List.set_cons_succ, i64_w, i32_w]
                  rfl
                 refine pure_ (i := 25) (N := some 56) (v := ?_) (a' := ?_) (bz2 40 67108863) rfl rfl (any_of HT_.out (by kernel_rfl)) (fun _ _ _ h => h) (Or.inl ⟨by rfl, ?_⟩) ?_ ?_
                 rotate_left
                 ·intro w'
                  go_simp
                  with_reducible rfl
                 rotate_left
                 ·simp only [Act.put, List.setIfInBounds_toArray, List.set_cons_zero, List.set_cons_succ, i64_w, i32_w]
                  rfl
                 refine pure_ (i := 26) (N := some 57) (v := ?_) (a' := ?_) (bz2 40 134217727) rfl rfl (any_of HT_.out (by kernel_rfl)) (fun _ _ _ h => h) (Or.inl ⟨by rfl, ?_⟩) ?_ ?_
                 rotate_left
                 ·intro w'
                  go_simp
                  with_reducible rfl
                 rotate_left
                 ·simp only [Act.put, List.setIfInBounds_toArray, List.set_cons_zero, List.set_cons_succ, i64_w, i32_w]
                  rfl
                 refine pure_ (i := 27) (N := some 58) (v := ?_) (a' := ?_) (bz2 40 268435455) rfl rfl (any_of HT_.out (by kernel_rfl)) (fun _ _ _ h => h) (Or.inl ⟨by rfl, ?_⟩) ?_ ?_
                 rotate_left
                 ·intro w'
                  go_simp
                  with_reducible rfl
                 rotate_left
                 ·simp only [Act.put, List.setIfInBounds_toArray, List.set_cons_zero, List.set_cons_succ, i64_w, i32_w]
                  rfl
                 refine pure_ (i := 28) (N := some 59) (v := ?_) (a' := ?_) (bz2 40 536870911) rfl rfl (any_of HT_.out (by kernel_rfl)) (fun _ _ _ h => h) (Or.inl ⟨by rfl, ?_⟩) ?_ ?_
                 rotate_left
                 ·intro w'
                  go_simp
                  with_reducible rfl
                 rotate_left
                 ·simp only [Act.put, List.setIfInBounds_toArray, List.set_cons_zero, List.set_cons_succ, i64_w, i32_w]
                  rfl
                 refine pure_ (i := 30) (N := some 61) (v := ?_) (a' := ?_) (bz2 40 1610612735) rfl rfl (any_of HT_.out (by kernel_rfl)) (fun _ _ _ h => h) (Or.inl ⟨by rfl, ?_⟩) ?_ ?_
                 rotate_left
                 ·intro w'
                  go_simp
                  with_reducible rfl
                 rotate_left
                 ·simp only [Act.put, List.setIfInBounds_toArray, List.set_cons_zero, List.set_cons_succ, i64_w, i32_w]
                  rfl
                 refine pure_ (i := 31) (N := some 62) (v := ?_) (a' := ?_) (bz2 40 3758096383) rfl rfl (any_of HT_.out (by kernel_rfl)) (fun _ _ _ h => h) (Or.inl ⟨by rfl, ?_⟩) ?_ ?_
                 rotate_left
                 ·intro w'
                  go_simp
                  with_reducible rfl
                 rotate_left
                 ·simp only [Act.put, List.setIfInBounds_toArray, List.set_cons_zero, List.set_cons_succ, i64_w, i32_w]
                  rfl
                 refine pure_ (i := 35) (N := some 66) (v := ?_) (a' := ?_) (bz2 40 38117834751) rfl rfl (any_of HT_.out (by kernel_rfl)) (fun _ _ _ h => h) (Or.inl ⟨by rfl, ?_⟩) ?_ ?_
                 rotate_left
                 ·intro w'
                  go_simp
                  with_reducible rfl
                 rotate_left
                 ·simp only [Act.put, List.setIfInBounds_toArray, List.set_cons_zero, List.set_cons_succ, i64_w, i32_w]
                  rfl
                 refine take_ (i := 29) (N := some 60) (v := ?_) (a' := ?_) (bz2 40 38654705663) rfl rfl (take_ofW HT_.out HW_.out (by kernel_rfl)) (fun _ _ _ h => h) (Or.inl ⟨by rfl, ?_⟩) hHeld ?_ ?_
                 rotate_left
                 ·rintro w' ⟨s0, s1, s2, s3, s4, s5, s6, s7, s8, s9, s10⟩
                  go_simp
                  with_reducible rfl
                 rotate_left
                 ·simp only [Act.put, List.setIfInBounds_toArray, List.set_cons_zero, List.set_cons_succ, i64_w, i32_w]
                  rfl
                 refine pure_ (i := 32) (N := some 63) (v := ?_) (a' := ?_) (bz2 40 42949672959) rfl rfl (any_of HT_.out (by kernel_rfl)) (fun _ _ _ h => h) (Or.inl ⟨by rfl, ?_⟩) ?_ ?_
                 rotate_left
                 ·intro w'
                  go_simp
                  with_reducible rfl
                 rotate_left
                 ·simp only [Act.put, List.setIfInBounds_toArray, List.set_cons_zero, List.set_cons_succ, i64_w, i32_w]
                  rfl
                 refine pure_ (i := 33) (N := some 64) (v := ?_) (a' := ?_) (bz2 40 51539607551) rfl rfl (any_of HT_.out (by kernel_rfl)) (fun _ _ _ h => h) (Or.inl ⟨by rfl, ?_⟩) ?_ ?_
                 rotate_left
                 ·intro w'
                  go_simp
                  with_reducible rfl
                 rotate_left
                 ·simp only [Act.put, List.setIfInBounds_toArray, List.set_cons_zero, List.set_cons_succ, i64_w, i32_w]
                  rfl
                 refine take_ (i := 34) (N := some 65) (v := ?_) (a' := ?_) (bz2 40 68719476735) rfl rfl (take_ofW HT_.out HW_.out (by kernel_rfl)) (fun _ _ _ h => h) (Or.inl ⟨by rfl, ?_⟩) hHeld ?_ ?_
                 rotate_left
                 ·rintro w' ⟨s0, s1, s2, s3, s4, s5, s6, s7, s8, s9, s10⟩
                  go_simp
                  with_reducible rfl
                 rotate_left
                 ·simp only [Act.put, List.setIfInBounds_toArray, List.set_cons_zero, List.set_cons_succ, i64_w, i32_w]
                  rfl
                 refine take_ (i := 36) (N := some 67) (v := ?_) (a' := ?_) (bz2 40 137438953471) rfl rfl (take_ofW HT_.out HW_.out (by kernel_rfl)) (fun _ _ _ h => h) (Or.inl ⟨by rfl, ?_⟩) hHeld ?_ ?_
                 rotate_left
                 ·rintro w' ⟨s0, s1, s2, s3, s4, s5, s6, s7, s8, s9, s10⟩
                  go_simp
                  with_reducible rfl
                 rotate_left
                 ·simp only [Act.put, List.setIfInBounds_toArray, List.set_cons_zero, List.set_cons_succ, i64_w, i32_w]
                  rfl
                 refine pure_ (i := 37) (N := some 68) (v := ?_) (a' := ?_) (bz2 40 274877906943) rfl rfl (any_of HT_.out (by kernel_rfl)) (fun _ _ _ h => h) (Or.inl ⟨by rfl, ?_⟩) ?_ ?_
                 rotate_left
                 ·intro w'
                  go_simp
                  with_reducible rfl
                 rotate_left
                 ·simp only [Act.put, List.setIfInBounds_toArray, List.set_cons_zero, List.set_cons_succ, i64_w, i32_w]
                  rfl
                 refine pure_ (i := 38) (N := some 69) (v := ?_) (a' := ?_) (bz2 40 549755813887) rfl rfl (any_of HT_.out (by kernel_rfl)) (fun _ _ _ h => h) (Or.inl ⟨by rfl, ?_⟩) ?_ ?_
                 rotate_left
                 ·intro w'
                  go_simp
                  with_reducible rfl
                 rotate_left
                 ·simp only [Act.put, List.setIfInBounds_toArray, List.set_cons_zero, List.set_cons_succ, i64_w, i32_w]
                  rfl
                 refine pure_ (i := 39) (N := some 70) (v := ?_) (a' := ?_) (bz2 40 1099511627775) rfl rfl (any_of HT_.out (by kernel_rfl)) (fun _ _ _ h => h) (Or.inl ⟨by rfl, ?_⟩) ?_ ?_
                 rotate_left
                 ·intro w'
                  go_simp
                  with_reducible rfl
                 rotate_left
                 ·simp only [Act.put, List.setIfInBounds_toArray, List.set_cons_zero, List.set_cons_succ, i64_w, i32_w]
                  rfl
                 refine done_ (done_of HT_.out (by kernel_rfl)) ?_
                 try go_wp2
                 go_meet
                 case rel => exact ⟨_, (!(Op.bytesLess (((rd_T96 l0_2 (ji29)).f0).toList) (((rd_T96 l0_2 x26_2).f0).toList))), (by first | rfl | (simp; done) | (simp only [← hji29] <;> (first | rfl | simp)) | (simp [*]; done)), H', ⟨by have := HJ1.out; have := HK2.out; first | omega | exact Nat.le_refl _⟩, ⟨by exact BK112.out⟩, ⟨by exact BK117.out⟩, ⟨by repeat (first | (with_reducible first | exact HB.out | apply below_alloc | apply pw_below_drewN | apply below_drew1 | refine below_set ?_ GE112.out | refine below_set ?_ GE117.out) | exact HB.out)⟩⟩
                ·rw [if_neg c31] at H
                 exact absurd H (by simp)
               ·rw [if_neg c30] at H
                exact absurd H (by simp)
              ·rw [if_neg c28] at H
               have c28b0 : decide (0 < x26_2) = false := decide_eq_false c28
               clear c28
               (first | rw [c28b0] | (simp only [i64_w, i32_w]; rw [c28b0]) | rw [c28b3] | skip)
               have H' := Aside0.mk H
               clear H
               try go_wp2
               have n0_ : Aside0 (((((w17.setCell ⟨gb117, 0, none⟩ (.string ((rd_T96 l0_2 x26_2).f0))).setCell ⟨gb117, 1, none⟩ (.int .i64 ((rd_T96 l0_2 x26_2).f1))).setCell ⟨gb117, 2, none⟩ (.int .i64 ((rd_T96 l0_2 x26_2).f2))).setCell ⟨gb117, 3, none⟩ (.int .i64 ((rd_T96 l0_2 x26_2).f3))).heap[gb112]? = some (.cells #[.int .i64 a0_0, .int .i64 a0_1, .slice (some ad116) l0_2.length c0_2] 46 (0, 0))) := ⟨by refine blk_far ?_ NB112_117.out _; refine blk_far ?_ NB112_117.out _; refine blk_far ?_ NB112_117.out _; refine blk_far ?_ NB112_117.out _; exact BK112.out⟩
               have n1_ : Aside0 (((((w17.setCell ⟨gb117, 0, none⟩ (.string ((rd_T96 l0_2 x26_2).f0))).setCell ⟨gb117, 1, none⟩ (.int .i64 ((rd_T96 l0_2 x26_2).f1))).setCell ⟨gb117, 2, none⟩ (.int .i64 ((rd_T96 l0_2 x26_2).f2))).setCell ⟨gb117, 3, none⟩ (.int .i64 ((rd_T96 l0_2 x26_2).f3))).heap[gb117]? = some (.cells #[.string ((rd_T96 l0_2 x26_2).f0), .int .i64 ((rd_T96 l0_2 x26_2).f1), .int .i64 ((rd_T96 l0_2 x26_2).f2), .int .i64 ((rd_T96 l0_2 x26_2).f3)] 96 (0, 0))) := ⟨by refine blk_put (cs := #[.string ((rd_T96 l0_2 x26_2).f0), .int .i64 ((rd_T96 l0_2 x26_2).f1), .int .i64 ((rd_T96 l0_2 x26_2).f2), .int .i64 0]) ?_ 3 _ rfl; refine blk_put (cs := #[.string ((rd_T96 l0_2 x26_2).f0), .int .i64 ((rd_T96 l0_2 x26_2).f1), .int .i64 0, .int .i64 0]) ?_ 2 _ rfl; refine blk_put (cs := #[.string ((rd_T96 l0_2 x26_2).f0), .int .i64 0, .int .i64 0, .int .i64 0]) ?_ 1 _ rfl; refine blk_put (cs := #[.string (⟨#[]⟩ : ByteArray), .int .i64 0, .int .i64 0, .int .i64 0]) ?_ 0 _ rfl; exact BK117.out⟩
               have n2_ : Aside0 (Below w.heap.size w ((((w17.setCell ⟨gb117, 0, none⟩ (.string ((rd_T96 l0_2 x26_2).f0))).setCell ⟨gb117, 1, none⟩ (.int .i64 ((rd_T96 l0_2 x26_2).f1))).setCell ⟨gb117, 2, none⟩ (.int .i64 ((rd_T96 l0_2 x26_2).f2))).setCell ⟨gb117, 3, none⟩ (.int .i64 ((rd_T96 l0_2 x26_2).f3)))) := ⟨by repeat (first | (with_reducible first | exact HB.out | apply below_alloc | apply pw_below_drewN | apply below_drew1 | refine below_set ?_ GE112.out | refine below_set ?_ GE117.out) | exact HB.out)⟩
               (try clear BK112)
               (try clear BK117)
               (try clear HB)
               generalize ((((w17.setCell ⟨gb117, 0, none⟩ (.string ((rd_T96 l0_2 x26_2).f0))).setCell ⟨gb117, 1, none⟩ (.int .i64 ((rd_T96 l0_2 x26_2).f1))).setCell ⟨gb117, 2, none⟩ (.int .i64 ((rd_T96 l0_2 x26_2).f2))).setCell ⟨gb117, 3, none⟩ (.int .i64 ((rd_T96 l0_2 x26_2).f3))) = w34 at n0_ n1_ n2_ ⊢
               have BK112 := n0_
               have BK117 := n1_
               have HB := n2_
               clear n0_ n1_ n2_
               have n0_ := Aside0.mk (blk_drew BK112.out)
               have n1_ := Aside0.mk (blk_drew BK117.out)
               have n2_ := Aside0.mk (below_drew1 HB.out)
               clear BK112
               clear BK117
               clear HB
               have BK112 := n0_
               have BK117 := n1_
               have HB := n2_
               clear n0_ n1_ n2_
               refine start_ (n := 40) (S := fun w' => w'.cell? ⟨gb117, 0, none⟩ = some (.string ((rd_T96 l0_2 x26_2).f0)) ∧ w'.cell? ⟨gb117, 1, none⟩ = some (.int .i64 ((rd_T96 l0_2 x26_2).f1)) ∧ w'.cell? ⟨gb117, 2, none⟩ = some (.int .i64 ((rd_T96 l0_2 x26_2).f2)) ∧ w'.cell? ⟨gb117, 3, none⟩ = some (.int .i64 ((rd_T96 l0_2 x26_2).f3)) ∧ w'.cell? ⟨gb112, 0, none⟩ = some (.int .i64 a0_0) ∧ w'.cell? ⟨gb112, 1, none⟩ = some (.int .i64 a0_1) ∧ w'.cell? ⟨gb112, 2, none⟩ = some (.slice (some ad116) l0_2.length c0_2)) (ds := []) #[false, false, false, false, false, false, false, false, false, false, false, false, false, false, false, false, false, false, false, false, false, false, false, false, false, false, false, false, false, false, false, false, false, false, false, false, false, false, false, false] (by kernel_rfl) rfl rfl ⟨(blk_cell BK117.out 0).trans rfl, (blk_cell BK117.out 1).trans rfl, (blk_cell BK117.out 2).trans rfl, (blk_cell BK117.out 3).trans rfl, (blk_cell BK112.out 0).trans rfl, (blk_cell BK112.out 1).trans rfl, (blk_cell BK112.out 2).trans rfl⟩ (fun hHeld => ?_); refine with_tabW spec_GoodStore.tab6 spec_GoodStore.bits6 (fun HT_ HW_ => ?_)
               generalize w34.drew = w35 at BK112 BK117 HB hHeld ⊢
               refine pure_ (i := 0) (N := some 31) (v := ?_) (a' := ?_) (bz2 40 1) rfl rfl (any_of HT_.out (by kernel_rfl)) (fun _ _ _ h => h) (Or.inl ⟨by rfl, ?_⟩) ?_ ?_
               rotate_left
               ·intro w'
                go_simp
                with_reducible rfl
               rotate_left
               ·simp only [Act.put, List.setIfInBounds_toArray, List.set_cons_zero, List.set_cons_succ, i64_w, i32_w]
                rfl
               refine take_ (i := 1) (N := some 32) (v := ?_) (a' := ?_) (bz2 40 3) rfl rfl (take_ofW HT_.out HW_.out (by kernel_rfl)) (fun _ _ _ h => h) (Or.inl ⟨by rfl, ?_⟩) hHeld ?_ ?_
               rotate_left
               ·rintro w' ⟨s0, s1, s2, s3, s4, s5, s6⟩
                go_simp
                with_reducible rfl
               rotate_left
               ·simp only [Act.put, List.setIfInBounds_toArray, List.set_cons_zero, List.set_cons_succ, i64_w, i32_w]
                rfl
               refine one_ (i := 2) (N := some 33) (bz2 40 7) rfl rfl (one_of HT_.out (by kernel_rfl)) (by decide) (fun K hK => ?_)
               refine goes_ Try.func53 (by kernel_rfl) rfl #[.string ((rd_T96 l0_2 x26_2).f0)] (by rfl) rfl rfl (by (try simp only [List.map_toArray, List.map_cons, List.map_nil]); first | done | rfl | (simp only [List.length_drop, List.length_take]; rfl)) ?_
               with_reducible refine (spec_GoodName.calls k2 ((rd_T96 l0_2 x26_2).f0) true _ A20.out).mono ?_
               rintro e w' ⟨rfl, ⟨nd, rfl⟩⟩
               refine ⟨_, rfl, ?_⟩
               refine hK.out _ _ ⟨(blk_cell BK117.out 0).trans rfl, (blk_cell BK117.out 1).trans rfl, (blk_cell BK117.out 2).trans rfl, (blk_cell BK117.out 3).trans rfl, (blk_cell BK112.out 0).trans rfl, (blk_cell BK112.out 1).trans rfl, (blk_cell BK112.out 2).trans rfl⟩ (fun hHeld => ?_)
               clear hK K
               refine norm_ (a' := ?_) ?_ ?_
               rotate_left
               ·show Act.put _ (some 33) _ = _
                simp only [Act.put, List.setIfInBounds_toArray, List.set_cons_zero, List.set_cons_succ, i64_w, i32_w]
                rfl
               refine pure_ (i := 3) (N := some 34) (v := ?_) (a' := ?_) (bz2 40 15) rfl rfl (any_of HT_.out (by kernel_rfl)) (fun _ _ _ h => h) (Or.inl ⟨by rfl, ?_⟩) ?_ ?_
               rotate_left
               ·intro w'
                go_simp
                with_reducible rfl
               rotate_left
               ·simp only [Act.put, List.setIfInBounds_toArray, List.set_cons_zero, List.set_cons_succ, i64_w, i32_w]
                rfl
               refine pure_ (i := 4) (N := some 35) (v := ?_) (a' := ?_) (bz2 40 31) rfl rfl (any_of HT_.out (by kernel_rfl)) (fun _ _ _ h => h) (Or.inl ⟨by rfl, ?_⟩) ?_ ?_
               rotate_left
               ·intro w'
                go_simp
                with_reducible rfl
               rotate_left
               ·simp only [Act.put, List.setIfInBounds_toArray, List.set_cons_zero, List.set_cons_succ, i64_w, i32_w]
                rfl
               refine pure_ (i := 5) (N := some 36) (v := ?_) (a' := ?_) (bz2 40 63) rfl rfl (any_of HT_.out (by kernel_rfl)) (fun _ _ _ h => h) (Or.inl ⟨by rfl, ?_⟩) ?_ ?_
               rotate_left
               ·intro w'
                go_simp
                with_reducible rfl
               rotate_left
               ·simp only [Act.put, List.setIfInBounds_toArray, List.set_cons_zero, List.set_cons_succ, i64_w, i32_w]
                rfl
               refine take_ (i := 6) (N := some 37) (v := ?_) (a' := ?_) (bz2 40 127) rfl rfl (take_ofW HT_.out HW_.out (by kernel_rfl)) (fun _ _ _ h => h) (Or.inl ⟨by rfl, ?_⟩) hHeld ?_ ?_
               rotate_left
               ·rintro w' ⟨s0, s1, s2, s3, s4, s5, s6⟩
                go_simp
                with_reducible rfl
               rotate_left
               ·simp only [Act.put, List.setIfInBounds_toArray, List.set_cons_zero, List.set_cons_succ, i64_w, i32_w]
                rfl
               refine one_ (i := 7) (N := some 38) (bz2 40 255) rfl rfl (one_of HT_.out (by kernel_rfl)) (by decide) (fun K hK => ?_)
               refine goes_ Try.func70 (by kernel_rfl) rfl #[.int .i64 ((rd_T96 l0_2 x26_2).f1), .int .i64 1, .int .i64 100000] (by rfl) rfl rfl (by (try simp only [List.map_toArray, List.map_cons, List.map_nil]); first | done | rfl | (simp only [List.length_drop, List.length_take]; rfl)) ?_
               with_reducible refine (spec_l1In.calls ((rd_T96 l0_2 x26_2).f1) 1 100000 true _ A22.out).mono ?_
               rintro e w' ⟨rfl, ⟨nd, rfl⟩⟩
               refine ⟨_, rfl, ?_⟩
               refine hK.out _ _ ⟨(blk_cell BK117.out 0).trans rfl, (blk_cell BK117.out 1).trans rfl, (blk_cell BK117.out 2).trans rfl, (blk_cell BK117.out 3).trans rfl, (blk_cell BK112.out 0).trans rfl, (blk_cell BK112.out 1).trans rfl, (blk_cell BK112.out 2).trans rfl⟩ (fun hHeld => ?_)
               clear hK K
               refine norm_ (a' := ?_) ?_ ?_
               rotate_left
               ·show Act.put _ (some 38) _ = _
                simp only [Act.put, List.setIfInBounds_toArray, List.set_cons_zero, List.set_cons_succ, i64_w, i32_w]
                rfl
               refine pure_ (i := 8) (N := some 39) (v := ?_) (a' := ?_) (bz2 40 511) rfl rfl (any_of HT_.out (by kernel_rfl)) (fun _ _ _ h => h) (Or.inl ⟨by rfl, ?_⟩) ?_ ?_
               rotate_left
               ·intro w'
                go_simp
                with_reducible rfl
               rotate_left
               ·simp only [Act.put, List.setIfInBounds_toArray, List.set_cons_zero, List.set_cons_succ, i64_w, i32_w]
                rfl
               refine pure_ (i := 9) (N := some 40) (v := ?_) (a' := ?_) (bz2 40 1023) rfl rfl (any_of HT_.out (by kernel_rfl)) (fun _ _ _ h => h) (Or.inl ⟨by rfl, ?_⟩) ?_ ?_
               rotate_left
               ·intro w'
                go_simp
                with_reducible rfl
               rotate_left
               ·simp only [Act.put, List.setIfInBounds_toArray, List.set_cons_zero, List.set_cons_succ, i64_w, i32_w]
                rfl
               refine pure_ (i := 10) (N := some 41) (v := ?_) (a' := ?_) (bz2 40 2047) rfl rfl (any_of HT_.out (by kernel_rfl)) (fun _ _ _ h => h) (Or.inl ⟨by rfl, ?_⟩) ?_ ?_
               rotate_left
               ·intro w'
                go_simp
                with_reducible rfl
               rotate_left
               ·simp only [Act.put, List.setIfInBounds_toArray, List.set_cons_zero, List.set_cons_succ, i64_w, i32_w]
                rfl
               refine pure_ (i := 11) (N := some 42) (v := ?_) (a' := ?_) (bz2 40 4095) rfl rfl (any_of HT_.out (by kernel_rfl)) (fun _ _ _ h => h) (Or.inl ⟨by rfl, ?_⟩) ?_ ?_
               rotate_left
               ·intro w'
                go_simp
                with_reducible rfl
               rotate_left
               ·simp only [Act.put, List.setIfInBounds_toArray, List.set_cons_zero, List.set_cons_succ, i64_w, i32_w]
                rfl
               refine take_ (i := 12) (N := some 43) (v := ?_) (a' := ?_) (bz2 40 8191) rfl rfl (take_ofW HT_.out HW_.out (by kernel_rfl)) (fun _ _ _ h => h) (Or.inl ⟨by rfl, ?_⟩) hHeld ?_ ?_
               rotate_left
               ·rintro w' ⟨s0, s1, s2, s3, s4, s5, s6⟩
                go_simp
                with_reducible rfl
               rotate_left
               ·simp only [Act.put, List.setIfInBounds_toArray, List.set_cons_zero, List.set_cons_succ, i64_w, i32_w]
                rfl
               refine one_ (i := 13) (N := some 44) (bz2 40 16383) rfl rfl (one_of HT_.out (by kernel_rfl)) (by decide) (fun K hK => ?_)
               refine goes_ Try.func70 (by kernel_rfl) rfl #[.int .i64 ((rd_T96 l0_2 x26_2).f2), .int .i64 0, .int .i64 1000] (by rfl) rfl rfl (by (try simp only [List.map_toArray, List.map_cons, List.map_nil]); first | done | rfl | (simp only [List.length_drop, List.length_take]; rfl)) ?_
               with_reducible refine (spec_l1In.calls ((rd_T96 l0_2 x26_2).f2) 0 1000 true _ A24.out).mono ?_
               rintro e w' ⟨rfl, ⟨nd, rfl⟩⟩
               refine ⟨_, rfl, ?_⟩
               refine hK.out _ _ ⟨(blk_cell BK117.out 0).trans rfl, (blk_cell BK117.out 1).trans rfl, (blk_cell BK117.out 2).trans rfl, (blk_cell BK117.out 3).trans rfl, (blk_cell BK112.out 0).trans rfl, (blk_cell BK112.out 1).trans rfl, (blk_cell BK112.out 2).trans rfl⟩ (fun hHeld => ?_)
               clear hK K
               refine norm_ (a' := ?_) ?_ ?_
               rotate_left
               ·show Act.put _ (some 44) _ = _
                simp only [Act.put, List.setIfInBounds_toArray, List.set_cons_zero, List.set_cons_succ, i64_w, i32_w]
                rfl
               refine pure_ (i := 14) (N := some 45) (v := ?_) (a' := ?_) (bz2 40 32767) rfl rfl (any_of HT_.out (by kernel_rfl)) (fun _ _ _ h => h) (Or.inl ⟨by rfl, ?_⟩) ?_ ?_
               rotate_left
               ·intro w'
                go_simp
                with_reducible rfl
               rotate_left
               ·simp only [Act.put, List.setIfInBounds_toArray, List.set_cons_zero, List.set_cons_succ, i64_w, i32_w]
                rfl
               refine pure_ (i := 15) (N := some 46) (v := ?_) (a' := ?_) (bz2 40 65535) rfl rfl (any_of HT_.out (by kernel_rfl)) (fun _ _ _ h => h) (Or.inl ⟨by rfl, ?_⟩) ?_ ?_
               rotate_left
               ·intro w'
                go_simp
                with_reducible rfl
               rotate_left
               ·simp only [Act.put, List.setIfInBounds_toArray, List.set_cons_zero, List.set_cons_succ, i64_w, i32_w]
                rfl
               refine pure_ (i := 16) (N := some 47) (v := ?_) (a' := ?_) (bz2 40 131071) rfl rfl (any_of HT_.out (by kernel_rfl)) (fun _ _ _ h => h) (Or.inl ⟨by rfl, ?_⟩) ?_ ?_
               rotate_left
               ·intro w'
                go_simp
                with_reducible rfl
               rotate_left
               ·simp only [Act.put, List.setIfInBounds_toArray, List.set_cons_zero, List.set_cons_succ, i64_w, i32_w]
                rfl
               refine pure_ (i := 17) (N := some 48) (v := ?_) (a' := ?_) (bz2 40 262143) rfl rfl (any_of HT_.out (by kernel_rfl)) (fun _ _ _ h => h) (Or.inl ⟨by rfl, ?_⟩) ?_ ?_
               rotate_left
               ·intro w'
                go_simp
                with_reducible rfl
               rotate_left
               ·simp only [Act.put, List.setIfInBounds_toArray, List.set_cons_zero, List.set_cons_succ, i64_w, i32_w]
                rfl
               refine pure_ (i := 19) (N := some 50) (v := ?_) (a' := ?_) (bz2 40 786431) rfl rfl (any_of HT_.out (by kernel_rfl)) (fun _ _ _ h => h) (Or.inl ⟨by rfl, ?_⟩) ?_ ?_
               rotate_left
               ·intro w'
                go_simp
                with_reducible rfl
               rotate_left
               ·simp only [Act.put, List.setIfInBounds_toArray, List.set_cons_zero, List.set_cons_succ, i64_w, i32_w]
                rfl
               refine take_ (i := 18) (N := some 49) (v := ?_) (a' := ?_) (bz2 40 1048575) rfl rfl (take_ofW HT_.out HW_.out (by kernel_rfl)) (fun _ _ _ h => h) (Or.inl ⟨by rfl, ?_⟩) hHeld ?_ ?_
               rotate_left
               ·rintro w' ⟨s0, s1, s2, s3, s4, s5, s6⟩
                go_simp
                with_reducible rfl
               rotate_left
               ·simp only [Act.put, List.setIfInBounds_toArray, List.set_cons_zero, List.set_cons_succ, i64_w, i32_w]
                rfl
               refine take_ (i := 20) (N := some 51) (v := ?_) (a' := ?_) (bz2 40 2097151) rfl rfl (take_ofW HT_.out HW_.out (by kernel_rfl)) (fun _ _ _ h => h) (Or.inl ⟨by rfl, ?_⟩) hHeld ?_ ?_
               rotate_left
               ·rintro w' ⟨s0, s1, s2, s3, s4, s5, s6⟩
                go_simp
                with_reducible rfl
               rotate_left
               ·simp only [Act.put, List.setIfInBounds_toArray, List.set_cons_zero, List.set_cons_succ, i64_w, i32_w]
                rfl
               refine one_ (i := 21) (N := some 52) (bz2 40 4194303) rfl rfl (one_of HT_.out (by kernel_rfl)) (by decide) (fun K hK => ?_)
               refine goes_ Try.func70 (by kernel_rfl) rfl #[.int .i64 ((rd_T96 l0_2 x26_2).f3), .int .i64 0, .int .i64 a0_1] (by rfl) rfl rfl (by (try simp only [List.map_toArray, List.map_cons, List.map_nil]); first | done | rfl | (simp only [List.length_drop, List.length_take]; rfl)) ?_
               with_reducible refine (spec_l1In.calls ((rd_T96 l0_2 x26_2).f3) 0 a0_1 true _ A26.out).mono ?_
               rintro e w' ⟨rfl, ⟨nd, rfl⟩⟩
               refine ⟨_, rfl, ?_⟩
               refine hK.out _ _ ⟨(blk_cell BK117.out 0).trans rfl, (blk_cell BK117.out 1).trans rfl, (blk_cell BK117.out 2).trans rfl, (blk_cell BK117.out 3).trans rfl, (blk_cell BK112.out 0).trans rfl, (blk_cell BK112.out 1).trans rfl, (blk_cell BK112.out 2).trans rfl⟩ (fun hHeld => ?_)
               clear hK K
               refine norm_ (a' := ?_) ?_ ?_
               rotate_left
               ·show Act.put _ (some 52) _ = _
                simp only [Act.put, List.setIfInBounds_toArray, List.set_cons_zero, List.set_cons_succ, i64_w, i32_w]
                rfl
               refine pure_ (i := 22) (N := some 53) (v := ?_) (a' := ?_) (bz2 40 8388607) rfl rfl (any_of HT_.out (by kernel_rfl)) (fun _ _ _ h => h) (Or.inl ⟨by rfl, ?_⟩) ?_ ?_
               rotate_left
               ·intro w'
                go_simp
                with_reducible rfl
               rotate_left
               ·simp only [Act.put, List.setIfInBounds_toArray, List.set_cons_zero, List.set_cons_succ, i64_w, i32_w]
                rfl
               refine pure_ (i := 23) (N := some 54) (v := ?_) (a' := ?_) (bz2 40 16777215) rfl rfl (any_of HT_.out (by kernel_rfl)) (fun _ _ _ h => h) (Or.inl ⟨by rfl, ?_⟩) ?_ ?_
               rotate_left
               ·intro w'
                go_simp
                with_reducible rfl
               rotate_left
               ·simp only [Act.put, List.setIfInBounds_toArray, List.set_cons_zero, List.set_cons_succ, i64_w, i32_w]
                rfl
               refine pure_ (i := 24) (N := some 55) (v := ?_) (a' := ?_) (bz2 40 33554431) rfl rfl (any_of HT_.out (by kernel_rfl)) (fun _ _ _ h => h) (Or.inl ⟨by rfl, ?_⟩) ?_ ?_
               rotate_left
               ·intro w'
                go_simp
                with_reducible rfl
               rotate_left
               ·simp only [Act.put, List.setIfInBounds_toArray, List.set_cons_zero, List.set_cons_succ, i64_w, i32_w]
                rfl
               refine pure_ (i := 25) (N := some 56) (v := ?_) (a' := ?_) (bz2 40 67108863) rfl rfl (any_of HT_.out (by kernel_rfl)) (fun _ _ _ h => h) (Or.inl ⟨by rfl, ?_⟩) ?_ ?_
               rotate_left
               ·intro w'
                go_simp
                with_reducible rfl
               rotate_left
               ·simp only [Act.put, List.setIfInBounds_toArray, List.set_cons_zero, List.set_cons_succ, i64_w, i32_w]
                rfl
               refine pure_ (i := 26) (N := some 57) (v := ?_) (a' := ?_) (bz2 40 134217727) rfl rfl (any_of HT_.out (by kernel_rfl)) (fun _ _ _ h => h) (Or.inl ⟨by rfl, ?_⟩) ?_ ?_
               rotate_left
               ·intro w'
                go_simp
                with_reducible rfl
               rotate_left
               ·simp only [Act.put, List.setIfInBounds_toArray, List.set_cons_zero, List.set_cons_succ, i64_w, i32_w]
                rfl
               refine pure_ (i := 27) (N := some 58) (v := ?_) (a' := ?_) (bz2 40 268435455) rfl rfl (any_of HT_.out (by kernel_rfl)) (fun _ _ _ h => h) (Or.inl ⟨by rfl, ?_⟩) ?_ ?_
               rotate_left
               ·intro w'
                go_simp
                with_reducible rfl
               rotate_left
               ·simp only [Act.put, List.setIfInBounds_toArray, List.set_cons_zero, List.set_cons_succ, i64_w, i32_w]
                rfl
               refine pure_ (i := 28) (N := some 59) (v := undef) (a' := ?_) (bz2 40 536870911) rfl rfl (any_of HT_.out (by kernel_rfl)) (fun _ _ _ h => h) (Or.inr ⟨by rfl, rfl⟩) ?_ ?_
               rotate_left
               ·simp only [Act.put, List.setIfInBounds_toArray, List.set_cons_zero, List.set_cons_succ, i64_w, i32_w]
                rfl
               refine pure_ (i := 29) (N := some 60) (v := undef) (a' := ?_) (bz2 40 1073741823) rfl rfl (any_of HT_.out (by kernel_rfl)) (fun _ _ _ h => h) (Or.inr ⟨by rfl, rfl⟩) ?_ ?_
               rotate_left
               ·simp only [Act.put, List.setIfInBounds_toArray, List.set_cons_zero, List.set_cons_succ, i64_w, i32_w]
                rfl
               refine pure_ (i := 30) (N := some 61) (v := undef) (a' := ?_) (bz2 40 2147483647) rfl rfl (any_of HT_.out (by kernel_rfl)) (fun _ _ _ h => h) (Or.inr ⟨by rfl, rfl⟩) ?_ ?_
               rotate_left
               ·simp only [Act.put, List.setIfInBounds_toArray, List.set_cons_zero, List.set_cons_succ, i64_w, i32_w]
                rfl
               refine pure_ (i := 31) (N := some 62) (v := undef) (a' := ?_) (bz2 40 4294967295) rfl rfl (any_of HT_.out (by kernel_rfl)) (fun _ _ _ h => h) (Or.inr ⟨by rfl, rfl⟩) ?_ ?_
               rotate_left
               ·simp only [Act.put, List.setIfInBounds_toArray, List.set_cons_zero, List.set_cons_succ, i64_w, i32_w]
                rfl
               refine pure_ (i := 32) (N := some 63) (v := undef) (a' := ?_) (bz2 40 8589934591) rfl rfl (any_of HT_.out (by kernel_rfl)) (fun _ _ _ h => h) (Or.inr ⟨by rfl, rfl⟩) ?_ ?_
               rotate_left
               ·simp only [Act.put, List.setIfInBounds_toArray, List.set_cons_zero, List.set_cons_succ, i64_w, i32_w]
                rfl
               refine pure_ (i := 33) (N := some 64) (v := undef) (a' := ?_) (bz2 40 17179869183) rfl rfl (any_of HT_.out (by kernel_rfl)) (fun _ _ _ h => h) (Or.inr ⟨by rfl, rfl⟩) ?_ ?_
               rotate_left
               ·simp only [Act.put, List.setIfInBounds_toArray, List.set_cons_zero, List.set_cons_succ, i64_w, i32_w]
                rfl
               refine pure_ (i := 34) (N := some 65) (v := undef) (a' := ?_) (bz2 40 34359738367) rfl rfl (any_of HT_.out (by kernel_rfl)) (fun _ _ _ h => h) (Or.inr ⟨by rfl, rfl⟩) ?_ ?_
               rotate_left
               ·simp only [Act.put, List.setIfInBounds_toArray, List.set_cons_zero, List.set_cons_succ, i64_w, i32_w]
                rfl
               refine pure_ (i := 35) (N := some 66) (v := undef) (a' := ?_) (bz2 40 68719476735) rfl rfl (any_of HT_.out (by kernel_rfl)) (fun _ _ _ h => h) (Or.inr ⟨by rfl, rfl⟩) ?_ ?_
               rotate_left
               ·simp only [Act.put, List.setIfInBounds_toArray, List.set_cons_zero, List.set_cons_succ, i64_w, i32_w]
                rfl
               refine pure_ (i := 36) (N := some 67) (v := undef) (a' := ?_) (bz2 40 137438953471) rfl rfl (any_of HT_.out (by kernel_rfl)) (fun _ _ _ h => h) (Or.inr ⟨by rfl, rfl⟩) ?_ ?_
               rotate_left
               ·simp only [Act.put, List.setIfInBounds_toArray, List.set_cons_zero, List.set_cons_succ, i64_w, i32_w]
                rfl
               refine pure_ (i := 37) (N := some 68) (v := undef) (a' := ?_) (bz2 40 274877906943) rfl rfl (any_of HT_.out (by kernel_rfl)) (fun _ _ _ h => h) (Or.inr ⟨by rfl, rfl⟩) ?_ ?_
               rotate_left
               ·simp only [Act.put, List.setIfInBounds_toArray, List.set_cons_zero, List.set_cons_succ, i64_w, i32_w]
                rfl
               refine pure_ (i := 38) (N := some 69) (v := ?_) (a' := ?_) (bz2 40 549755813887) rfl rfl (any_of HT_.out (by kernel_rfl)) (fun _ _ _ h => h) (Or.inl ⟨by rfl, ?_⟩) ?_ ?_
               rotate_left
               ·intro w'
                go_simp
                with_reducible rfl
               rotate_left
               ·simp only [Act.put, List.setIfInBounds_toArray, List.set_cons_zero, List.set_cons_succ, i64_w, i32_w]
                rfl
               refine pure_ (i := 39) (N := some 70) (v := ?_) (a' := ?_) (bz2 40 1099511627775) rfl rfl (any_of HT_.out (by kernel_rfl)) (fun _ _ _ h => h) (Or.inl ⟨by rfl, ?_⟩) ?_ ?_
               rotate_left
               ·intro w'
                go_simp
                with_reducible rfl
               rotate_left
               ·simp only [Act.put, List.setIfInBounds_toArray, List.set_cons_zero, List.set_cons_succ, i64_w, i32_w]
                rfl
               refine done_ (done_of HT_.out (by kernel_rfl)) ?_
               try go_wp2
               go_meet
               case rel => exact ⟨_, (false), (by first | rfl | (simp; done) | (simp [*]; done)), H', ⟨by have := HJ1.out; have := HK2.out; first | omega | exact Nat.le_refl _⟩, ⟨by exact BK112.out⟩, ⟨by exact BK117.out⟩, ⟨by repeat (first | (with_reducible first | exact HB.out | apply below_alloc | apply pw_below_drewN | apply below_drew1 | refine below_set ?_ GE112.out | refine below_set ?_ GE117.out) | exact HB.out)⟩⟩
             ·replace c27 := Bool.eq_false_iff.mpr c27
              subst c27
              have H1 : (spec_GoodStore.j2 k2 x26_2 l0_2 (l0_2.length : Int) x26_2 true a0_0 a0_1 l0_2 ((rd_T96 l0_2 x26_2).f0) ((rd_T96 l0_2 x26_2).f1) ((rd_T96 l0_2 x26_2).f2) ((rd_T96 l0_2 x26_2).f3)) = some r := by rw [if_neg (show ¬ (false = true) by decide)] at H; exact H
              clear H
              have H := H1
              clear H1
              have H' := Aside0.mk H
              clear H
              try go_wp2
              have n0_ : Aside0 (((((w17.setCell ⟨gb117, 0, none⟩ (.string ((rd_T96 l0_2 x26_2).f0))).setCell ⟨gb117, 1, none⟩ (.int .i64 ((rd_T96 l0_2 x26_2).f1))).setCell ⟨gb117, 2, none⟩ (.int .i64 ((rd_T96 l0_2 x26_2).f2))).setCell ⟨gb117, 3, none⟩ (.int .i64 ((rd_T96 l0_2 x26_2).f3))).heap[gb112]? = some (.cells #[.int .i64 a0_0, .int .i64 a0_1, .slice (some ad116) l0_2.length c0_2] 46 (0, 0))) := ⟨by refine blk_far ?_ NB112_117.out _; refine blk_far ?_ NB112_117.out _; refine blk_far ?_ NB112_117.out _; refine blk_far ?_ NB112_117.out _; exact BK112.out⟩
              have n1_ : Aside0 (((((w17.setCell ⟨gb117, 0, none⟩ (.string ((rd_T96 l0_2 x26_2).f0))).setCell ⟨gb117, 1, none⟩ (.int .i64 ((rd_T96 l0_2 x26_2).f1))).setCell ⟨gb117, 2, none⟩ (.int .i64 ((rd_T96 l0_2 x26_2).f2))).setCell ⟨gb117, 3, none⟩ (.int .i64 ((rd_T96 l0_2 x26_2).f3))).heap[gb117]? = some (.cells #[.string ((rd_T96 l0_2 x26_2).f0), .int .i64 ((rd_T96 l0_2 x26_2).f1), .int .i64 ((rd_T96 l0_2 x26_2).f2), .int .i64 ((rd_T96 l0_2 x26_2).f3)] 96 (0, 0))) := ⟨by refine blk_put (cs := #[.string ((rd_T96 l0_2 x26_2).f0), .int .i64 ((rd_T96 l0_2 x26_2).f1), .int .i64 ((rd_T96 l0_2 x26_2).f2), .int .i64 0]) ?_ 3 _ rfl; refine blk_put (cs := #[.string ((rd_T96 l0_2 x26_2).f0), .int .i64 ((rd_T96 l0_2 x26_2).f1), .int .i64 0, .int .i64 0]) ?_ 2 _ rfl; refine blk_put (cs := #[.string ((rd_T96 l0_2 x26_2).f0), .int .i64 0, .int .i64 0, .int .i64 0]) ?_ 1 _ rfl; refine blk_put (cs := #[.string (⟨#[]⟩ : ByteArray), .int .i64 0, .int .i64 0, .int .i64 0]) ?_ 0 _ rfl; exact BK117.out⟩
              have n2_ : Aside0 (Below w.heap.size w ((((w17.setCell ⟨gb117, 0, none⟩ (.string ((rd_T96 l0_2 x26_2).f0))).setCell ⟨gb117, 1, none⟩ (.int .i64 ((rd_T96 l0_2 x26_2).f1))).setCell ⟨gb117, 2, none⟩ (.int .i64 ((rd_T96 l0_2 x26_2).f2))).setCell ⟨gb117, 3, none⟩ (.int .i64 ((rd_T96 l0_2 x26_2).f3)))) := ⟨by repeat (first | (with_reducible first | exact HB.out | apply below_alloc | apply pw_below_drewN | apply below_drew1 | refine below_set ?_ GE112.out | refine below_set ?_ GE117.out) | exact HB.out)⟩
              (try clear BK112)
              (try clear BK117)
              (try clear HB)
              generalize ((((w17.setCell ⟨gb117, 0, none⟩ (.string ((rd_T96 l0_2 x26_2).f0))).setCell ⟨gb117, 1, none⟩ (.int .i64 ((rd_T96 l0_2 x26_2).f1))).setCell ⟨gb117, 2, none⟩ (.int .i64 ((rd_T96 l0_2 x26_2).f2))).setCell ⟨gb117, 3, none⟩ (.int .i64 ((rd_T96 l0_2 x26_2).f3))) = w36 at n0_ n1_ n2_ ⊢
              have BK112 := n0_
              have BK117 := n1_
              have HB := n2_
              clear n0_ n1_ n2_
              have n0_ := Aside0.mk (blk_drew BK112.out)
              have n1_ := Aside0.mk (blk_drew BK117.out)
              have n2_ := Aside0.mk (below_drew1 HB.out)
              clear BK112
              clear BK117
              clear HB
              have BK112 := n0_
              have BK117 := n1_
              have HB := n2_
              clear n0_ n1_ n2_
              refine start_ (n := 40) (S := fun w' => w'.cell? ⟨gb117, 0, none⟩ = some (.string ((rd_T96 l0_2 x26_2).f0)) ∧ w'.cell? ⟨gb117, 1, none⟩ = some (.int .i64 ((rd_T96 l0_2 x26_2).f1)) ∧ w'.cell? ⟨gb117, 2, none⟩ = some (.int .i64 ((rd_T96 l0_2 x26_2).f2)) ∧ w'.cell? ⟨gb117, 3, none⟩ = some (.int .i64 ((rd_T96 l0_2 x26_2).f3)) ∧ w'.cell? ⟨gb112, 0, none⟩ = some (.int .i64 a0_0) ∧ w'.cell? ⟨gb112, 1, none⟩ = some (.int .i64 a0_1) ∧ w'.cell? ⟨gb112, 2, none⟩ = some (.slice (some ad116) l0_2.length c0_2)) (ds := []) #[false, false, false, false, false, false, false, false, false, false, false, false, false, false, false, false, false, false, false, false, false, false, false, false, false, false, false, false, false, false, false, false, false, false, false, false, false, false, false, false] (by kernel_rfl) rfl rfl ⟨(blk_cell BK117.out 0).trans rfl, (blk_cell BK117.out 1).trans rfl, (blk_cell BK117.out 2).trans rfl, (blk_cell BK117.out 3).trans rfl, (blk_cell BK112.out 0).trans rfl, (blk_cell BK112.out 1).trans rfl, (blk_cell BK112.out 2).trans rfl⟩ (fun hHeld => ?_); refine with_tabW spec_GoodStore.tab6 spec_GoodStore.bits6 (fun HT_ HW_ => ?_)
              generalize w36.drew = w37 at BK112 BK117 HB hHeld ⊢
              refine pure_ (i := 0) (N := some 31) (v := ?_) (a' := ?_) (bz2 40 1) rfl rfl (any_of HT_.out (by kernel_rfl)) (fun _ _ _ h => h) (Or.inl ⟨by rfl, ?_⟩) ?_ ?_
              rotate_left
              ·intro w'
               go_simp
               with_reducible rfl
              rotate_left
              ·simp only [Act.put, List.setIfInBounds_toArray, List.set_cons_zero, List.set_cons_succ, i64_w, i32_w]
               rfl
              refine take_ (i := 1) (N := some 32) (v := ?_) (a' := ?_) (bz2 40 3) rfl rfl (take_ofW HT_.out HW_.out (by kernel_rfl)) (fun _ _ _ h => h) (Or.inl ⟨by rfl, ?_⟩) hHeld ?_ ?_
              rotate_left
              ·rintro w' ⟨s0, s1, s2, s3, s4, s5, s6⟩
               go_simp
               with_reducible rfl
              rotate_left
              ·simp only [Act.put, List.setIfInBounds_toArray, List.set_cons_zero, List.set_cons_succ, i64_w, i32_w]
               rfl
              refine one_ (i := 2) (N := some 33) (bz2 40 7) rfl rfl (one_of HT_.out (by kernel_rfl)) (by decide) (fun K hK => ?_)
              refine goes_ Try.func53 (by kernel_rfl) rfl #[.string ((rd_T96 l0_2 x26_2).f0)] (by rfl) rfl rfl (by (try simp only [List.map_toArray, List.map_cons, List.map_nil]); first | done | rfl | (simp only [List.length_drop, List.length_take]; rfl)) ?_
              with_reducible refine (spec_GoodName.calls k2 ((rd_T96 l0_2 x26_2).f0) true _ A20.out).mono ?_
              rintro e w' ⟨rfl, ⟨nd, rfl⟩⟩
              refine ⟨_, rfl, ?_⟩
              refine hK.out _ _ ⟨(blk_cell BK117.out 0).trans rfl, (blk_cell BK117.out 1).trans rfl, (blk_cell BK117.out 2).trans rfl, (blk_cell BK117.out 3).trans rfl, (blk_cell BK112.out 0).trans rfl, (blk_cell BK112.out 1).trans rfl, (blk_cell BK112.out 2).trans rfl⟩ (fun hHeld => ?_)
              clear hK K
              refine norm_ (a' := ?_) ?_ ?_
              rotate_left
              ·show Act.put _ (some 33) _ = _
               simp only [Act.put, List.setIfInBounds_toArray, List.set_cons_zero, List.set_cons_succ, i64_w, i32_w]
               rfl
              refine pure_ (i := 3) (N := some 34) (v := ?_) (a' := ?_) (bz2 40 15) rfl rfl (any_of HT_.out (by kernel_rfl)) (fun _ _ _ h => h) (Or.inl ⟨by rfl, ?_⟩) ?_ ?_
              rotate_left
              ·intro w'
               go_simp
               with_reducible rfl
              rotate_left
              ·simp only [Act.put, List.setIfInBounds_toArray, List.set_cons_zero, List.set_cons_succ, i64_w, i32_w]
               rfl
              refine pure_ (i := 4) (N := some 35) (v := ?_) (a' := ?_) (bz2 40 31) rfl rfl (any_of HT_.out (by kernel_rfl)) (fun _ _ _ h => h) (Or.inl ⟨by rfl, ?_⟩) ?_ ?_
              rotate_left
              ·intro w'
               go_simp
               with_reducible rfl
              rotate_left
              ·simp only [Act.put, List.setIfInBounds_toArray, List.set_cons_zero, List.set_cons_succ, i64_w, i32_w]
               rfl
              refine pure_ (i := 5) (N := some 36) (v := ?_) (a' := ?_) (bz2 40 63) rfl rfl (any_of HT_.out (by kernel_rfl)) (fun _ _ _ h => h) (Or.inl ⟨by rfl, ?_⟩) ?_ ?_
              rotate_left
              ·intro w'
               go_simp
               with_reducible rfl
              rotate_left
              ·simp only [Act.put, List.setIfInBounds_toArray, List.set_cons_zero, List.set_cons_succ, i64_w, i32_w]
               rfl
              refine take_ (i := 6) (N := some 37) (v := ?_) (a' := ?_) (bz2 40 127) rfl rfl (take_ofW HT_.out HW_.out (by kernel_rfl)) (fun _ _ _ h => h) (Or.inl ⟨by rfl, ?_⟩) hHeld ?_ ?_
              rotate_left
              ·rintro w' ⟨s0, s1, s2, s3, s4, s5, s6⟩
               go_simp
               with_reducible rfl
              rotate_left
              ·simp only [Act.put, List.setIfInBounds_toArray, List.set_cons_zero, List.set_cons_succ, i64_w, i32_w]
               rfl
              refine one_ (i := 7) (N := some 38) (bz2 40 255) rfl rfl (one_of HT_.out (by kernel_rfl)) (by decide) (fun K hK => ?_)
              refine goes_ Try.func70 (by kernel_rfl) rfl #[.int .i64 ((rd_T96 l0_2 x26_2).f1), .int .i64 1, .int .i64 100000] (by rfl) rfl rfl (by (try simp only [List.map_toArray, List.map_cons, List.map_nil]); first | done | rfl | (simp only [List.length_drop, List.length_take]; rfl)) ?_
              with_reducible refine (spec_l1In.calls ((rd_T96 l0_2 x26_2).f1) 1 100000 true _ A22.out).mono ?_
              rintro e w' ⟨rfl, ⟨nd, rfl⟩⟩
              refine ⟨_, rfl, ?_⟩
              refine hK.out _ _ ⟨(blk_cell BK117.out 0).trans rfl, (blk_cell BK117.out 1).trans rfl, (blk_cell BK117.out 2).trans rfl, (blk_cell BK117.out 3).trans rfl, (blk_cell BK112.out 0).trans rfl, (blk_cell BK112.out 1).trans rfl, (blk_cell BK112.out 2).trans rfl⟩ (fun hHeld => ?_)
              clear hK K
              refine norm_ (a' := ?_) ?_ ?_
              rotate_left
              ·show Act.put _ (some 38) _ = _
               simp only [Act.put, List.setIfInBounds_toArray, List.set_cons_zero, List.set_cons_succ, i64_w, i32_w]
               rfl
              refine pure_ (i := 8) (N := some 39) (v := ?_) (a' := ?_) (bz2 40 511) rfl rfl (any_of HT_.out (by kernel_rfl)) (fun _ _ _ h => h) (Or.inl ⟨by rfl, ?_⟩) ?_ ?_
              rotate_left
              ·intro w'
               go_simp
               with_reducible rfl
              rotate_left
              ·simp only [Act.put, List.setIfInBounds_toArray, List.set_cons_zero, List.set_cons_succ, i64_w, i32_w]
               rfl
              refine pure_ (i := 9) (N := some 40) (v := ?_) (a' := ?_) (bz2 40 1023) rfl rfl (any_of HT_.out (by kernel_rfl)) (fun _ _ _ h => h) (Or.inl ⟨by rfl, ?_⟩) ?_ ?_
              rotate_left
              ·intro w'
               go_simp
               with_reducible rfl
              rotate_left
              ·simp only [Act.put, List.setIfInBounds_toArray, List.set_cons_zero, List.set_cons_succ, i64_w, i32_w]
               rfl
              refine pure_ (i := 10) (N := some 41) (v := ?_) (a' := ?_) (bz2 40 2047) rfl rfl (any_of HT_.out (by kernel_rfl)) (fun _ _ _ h => h) (Or.inl ⟨by rfl, ?_⟩) ?_ ?_
              rotate_left
              ·intro w'
               go_simp
               with_reducible rfl
              rotate_left
              ·simp only [Act.put, List.setIfInBounds_toArray, List.set_cons_zero, List.set_cons_succ, i64_w, i32_w]
               rfl
              refine pure_ (i := 11) (N := some 42) (v := ?_) (a' := ?_) (bz2 40 4095) rfl rfl (any_of HT_.out (by kernel_rfl)) (fun _ _ _ h => h) (Or.inl ⟨by rfl, ?_⟩) ?_ ?_
              rotate_left
              ·intro w'
               go_simp
               with_reducible rfl
              rotate_left
              ·simp only [Act.put, List.setIfInBounds_toArray, List.set_cons_zero, List.set_cons_succ, i64_w, i32_w]
               rfl
              refine take_ (i := 12) (N := some 43) (v := ?_) (a' := ?_) (bz2 40 8191) rfl rfl (take_ofW HT_.out HW_.out (by kernel_rfl)) (fun _ _ _ h => h) (Or.inl ⟨by rfl, ?_⟩) hHeld ?_ ?_
              rotate_left
              ·rintro w' ⟨s0, s1, s2, s3, s4, s5, s6⟩
               go_simp
               with_reducible rfl
              rotate_left
              ·simp only [Act.put, List.setIfInBounds_toArray, List.set_cons_zero, List.set_cons_succ, i64_w, i32_w]
               rfl
              refine one_ (i := 13) (N := some 44) (bz2 40 16383) rfl rfl (one_of HT_.out (by kernel_rfl)) (by decide) (fun K hK => ?_)
              refine goes_ Try.func70 (by kernel_rfl) rfl #[.int .i64 ((rd_T96 l0_2 x26_2).f2), .int .i64 0, .int .i64 1000] (by rfl) rfl rfl (by (try simp only [List.map_toArray, List.map_cons, List.map_nil]); first | done | rfl | (simp only [List.length_drop, List.length_take]; rfl)) ?_
              with_reducible refine (spec_l1In.calls ((rd_T96 l0_2 x26_2).f2) 0 1000 true _ A24.out).mono ?_
              rintro e w' ⟨rfl, ⟨nd, rfl⟩⟩
              refine ⟨_, rfl, ?_⟩
              refine hK.out _ _ ⟨(blk_cell BK117.out 0).trans rfl, (blk_cell BK117.out 1).trans rfl, (blk_cell BK117.out 2).trans rfl, (blk_cell BK117.out 3).trans rfl, (blk_cell BK112.out 0).trans rfl, (blk_cell BK112.out 1).trans rfl, (blk_cell BK112.out 2).trans rfl⟩ (fun hHeld => ?_)
              clear hK K
              refine norm_ (a' := ?_) ?_ ?_
              rotate_left
              ·show Act.put _ (some 44) _ = _
               simp only [Act.put, List.setIfInBounds_toArray, List.set_cons_zero, List.set_cons_succ, i64_w, i32_w]
               rfl
              refine pure_ (i := 14) (N := some 45) (v := ?_) (a' := ?_) (bz2 40 32767) rfl rfl (any_of HT_.out (by kernel_rfl)) (fun _ _ _ h => h) (Or.inl ⟨by rfl, ?_⟩) ?_ ?_
              rotate_left
              ·intro w'
               go_simp
               with_reducible rfl
              rotate_left
              ·simp only [Act.put, List.setIfInBounds_toArray, List.set_cons_zero, List.set_cons_succ, i64_w, i32_w]
               rfl
              refine pure_ (i := 15) (N := some 46) (v := ?_) (a' := ?_) (bz2 40 65535) rfl rfl (any_of HT_.out (by kernel_rfl)) (fun _ _ _ h => h) (Or.inl ⟨by rfl, ?_⟩) ?_ ?_
              rotate_left
              ·intro w'
               go_simp
               with_reducible rfl
              rotate_left
              ·simp only [Act.put, List.setIfInBounds_toArray, List.set_cons_zero, List.set_cons_succ, i64_w, i32_w]
               rfl
              refine pure_ (i := 16) (N := some 47) (v := ?_) (a' := ?_) (bz2 40 131071) rfl rfl (any_of HT_.out (by kernel_rfl)) (fun _ _ _ h => h) (Or.inl ⟨by rfl, ?_⟩) ?_ ?_
              rotate_left
              ·intro w'
               go_simp
               with_reducible rfl
              rotate_left
              ·simp only [Act.put, List.setIfInBounds_toArray, List.set_cons_zero, List.set_cons_succ, i64_w, i32_w]
               rfl
              refine pure_ (i := 17) (N := some 48) (v := ?_) (a' := ?_) (bz2 40 262143) rfl rfl (any_of HT_.out (by kernel_rfl)) (fun _ _ _ h => h) (Or.inl ⟨by rfl, ?_⟩) ?_ ?_
              rotate_left
              ·intro w'
               go_simp
               with_reducible rfl
              rotate_left
              ·simp only [Act.put, List.setIfInBounds_toArray, List.set_cons_zero, List.set_cons_succ, i64_w, i32_w]
               rfl
              refine pure_ (i := 19) (N := some 50) (v := ?_) (a' := ?_) (bz2 40 786431) rfl rfl (any_of HT_.out (by kernel_rfl)) (fun _ _ _ h => h) (Or.inl ⟨by rfl, ?_⟩) ?_ ?_
              rotate_left
              ·intro w'
               go_simp
               with_reducible rfl
              rotate_left
              ·simp only [Act.put, List.setIfInBounds_toArray, List.set_cons_zero, List.set_cons_succ, i64_w, i32_w]
               rfl
              refine take_ (i := 18) (N := some 49) (v := ?_) (a' := ?_) (bz2 40 1048575) rfl rfl (take_ofW HT_.out HW_.out (by kernel_rfl)) (fun _ _ _ h => h) (Or.inl ⟨by rfl, ?_⟩) hHeld ?_ ?_
              rotate_left
              ·rintro w' ⟨s0, s1, s2, s3, s4, s5, s6⟩
               go_simp
               with_reducible rfl
              rotate_left
              ·simp only [Act.put, List.setIfInBounds_toArray, List.set_cons_zero, List.set_cons_succ, i64_w, i32_w]
               rfl
              refine take_ (i := 20) (N := some 51) (v := ?_) (a' := ?_) (bz2 40 2097151) rfl rfl (take_ofW HT_.out HW_.out (by kernel_rfl)) (fun _ _ _ h => h) (Or.inl ⟨by rfl, ?_⟩) hHeld ?_ ?_
              rotate_left
              ·rintro w' ⟨s0, s1, s2, s3, s4, s5, s6⟩
               go_simp
               with_reducible rfl
              rotate_left
              ·simp only [Act.put, List.setIfInBounds_toArray, List.set_cons_zero, List.set_cons_succ, i64_w, i32_w]
               rfl
              refine one_ (i := 21) (N := some 52) (bz2 40 4194303) rfl rfl (one_of HT_.out (by kernel_rfl)) (by decide) (fun K hK => ?_)
              refine goes_ Try.func70 (by kernel_rfl) rfl #[.int .i64 ((rd_T96 l0_2 x26_2).f3), .int .i64 0, .int .i64 a0_1] (by rfl) rfl rfl (by (try simp only [List.map_toArray, List.map_cons, List.map_nil]); first | done | rfl | (simp only [List.length_drop, List.length_take]; rfl)) ?_
              with_reducible refine (spec_l1In.calls ((rd_T96 l0_2 x26_2).f3) 0 a0_1 false _ A26.out).mono ?_
              rintro e w' ⟨rfl, ⟨nd, rfl⟩⟩
              refine ⟨_, rfl, ?_⟩
              refine hK.out _ _ ⟨(blk_cell BK117.out 0).trans rfl, (blk_cell BK117.out 1).trans rfl, (blk_cell BK117.out 2).trans rfl, (blk_cell BK117.out 3).trans rfl, (blk_cell BK112.out 0).trans rfl, (blk_cell BK112.out 1).trans rfl, (blk_cell BK112.out 2).trans rfl⟩ (fun hHeld => ?_)
              clear hK K
              refine norm_ (a' := ?_) ?_ ?_
              rotate_left
              ·show Act.put _ (some 52) _ = _
               simp only [Act.put, List.setIfInBounds_toArray, List.set_cons_zero, List.set_cons_succ, i64_w, i32_w]
               rfl
              refine pure_ (i := 22) (N := some 53) (v := ?_) (a' := ?_) (bz2 40 8388607) rfl rfl (any_of HT_.out (by kernel_rfl)) (fun _ _ _ h => h) (Or.inl ⟨by rfl, ?_⟩) ?_ ?_
              rotate_left
              ·intro w'
               go_simp
               with_reducible rfl
              rotate_left
              ·simp only [Act.put, List.setIfInBounds_toArray, List.set_cons_zero, List.set_cons_succ, i64_w, i32_w]
               rfl
              refine pure_ (i := 23) (N := some 54) (v := ?_) (a' := ?_) (bz2 40 16777215) rfl rfl (any_of HT_.out (by kernel_rfl)) (fun _ _ _ h => h) (Or.inl ⟨by rfl, ?_⟩) ?_ ?_
              rotate_left
              ·intro w'
               go_simp
               with_reducible rfl
              rotate_left
              ·simp only [Act.put, List.setIfInBounds_toArray, List.set_cons_zero, List.set_cons_succ, i64_w, i32_w]
               rfl
              refine pure_ (i := 24) (N := some 55) (v := ?_) (a' := ?_) (bz2 40 33554431) rfl rfl (any_of HT_.out (by kernel_rfl)) (fun _ _ _ h => h) (Or.inl ⟨by rfl, ?_⟩) ?_ ?_
              rotate_left
              ·intro w'
               go_simp
               with_reducible rfl
              rotate_left
              ·simp only [Act.put, List.setIfInBounds_toArray, List.set_cons_zero, List.set_cons_succ, i64_w, i32_w]
               rfl
              refine pure_ (i := 25) (N := some 56) (v := undef) (a' := ?_) (bz2 40 67108863) rfl rfl (any_of HT_.out (by kernel_rfl)) (fun _ _ _ h => h) (Or.inr ⟨by rfl, rfl⟩) ?_ ?_
              rotate_left
              ·simp only [Act.put, List.setIfInBounds_toArray, List.set_cons_zero, List.set_cons_succ, i64_w, i32_w]
               rfl
              refine pure_ (i := 26) (N := some 57) (v := undef) (a' := ?_) (bz2 40 134217727) rfl rfl (any_of HT_.out (by kernel_rfl)) (fun _ _ _ h => h) (Or.inr ⟨by rfl, rfl⟩) ?_ ?_
              rotate_left
              ·simp only [Act.put, List.setIfInBounds_toArray, List.set_cons_zero, List.set_cons_succ, i64_w, i32_w]
               rfl
              refine pure_ (i := 27) (N := some 58) (v := undef) (a' := ?_) (bz2 40 268435455) rfl rfl (any_of HT_.out (by kernel_rfl)) (fun _ _ _ h => h) (Or.inr ⟨by rfl, rfl⟩) ?_ ?_
              rotate_left
              ·simp only [Act.put, List.setIfInBounds_toArray, List.set_cons_zero, List.set_cons_succ, i64_w, i32_w]
               rfl
              refine pure_ (i := 28) (N := some 59) (v := undef) (a' := ?_) (bz2 40 536870911) rfl rfl (any_of HT_.out (by kernel_rfl)) (fun _ _ _ h => h) (Or.inr ⟨by rfl, rfl⟩) ?_ ?_
              rotate_left
              ·simp only [Act.put, List.setIfInBounds_toArray, List.set_cons_zero, List.set_cons_succ, i64_w, i32_w]
               rfl
              refine pure_ (i := 29) (N := some 60) (v := undef) (a' := ?_) (bz2 40 1073741823) rfl rfl (any_of HT_.out (by kernel_rfl)) (fun _ _ _ h => h) (Or.inr ⟨by rfl, rfl⟩) ?_ ?_
              rotate_left
              ·simp only [Act.put, List.setIfInBounds_toArray, List.set_cons_zero, List.set_cons_succ, i64_w, i32_w]
               rfl
              refine pure_ (i := 30) (N := some 61) (v := undef) (a' := ?_) (bz2 40 2147483647) rfl rfl (any_of HT_.out (by kernel_rfl)) (fun _ _ _ h => h) (Or.inr ⟨by rfl, rfl⟩) ?_ ?_
              rotate_left
              ·simp only [Act.put, List.setIfInBounds_toArray, List.set_cons_zero, List.set_cons_succ, i64_w, i32_w]
               rfl
              refine pure_ (i := 31) (N := some 62) (v := undef) (a' := ?_) (bz2 40 4294967295) rfl rfl (any_of HT_.out (by kernel_rfl)) (fun _ _ _ h => h) (Or.inr ⟨by rfl, rfl⟩) ?_ ?_
              rotate_left
              ·simp only [Act.put, List.setIfInBounds_toArray, List.set_cons_zero, List.set_cons_succ, i64_w, i32_w]
               rfl
              refine pure_ (i := 32) (N := some 63) (v := undef) (a' := ?_) (bz2 40 8589934591) rfl rfl (any_of HT_.out (by kernel_rfl)) (fun _ _ _ h => h) (Or.inr ⟨by rfl, rfl⟩) ?_ ?_
              rotate_left
              ·simp only [Act.put, List.setIfInBounds_toArray, List.set_cons_zero, List.set_cons_succ, i64_w, i32_w]
               rfl
              refine pure_ (i := 33) (N := some 64) (v := undef) (a' := ?_) (bz2 40 17179869183) rfl rfl (any_of HT_.out (by kernel_rfl)) (fun _ _ _ h => h) (Or.inr ⟨by rfl, rfl⟩) ?_ ?_
              rotate_left
              ·simp only [Act.put, List.setIfInBounds_toArray, List.set_cons_zero, List.set_cons_succ, i64_w, i32_w]
               rfl
              refine pure_ (i := 34) (N := some 65) (v := undef) (a' := ?_) (bz2 40 34359738367) rfl rfl (any_of HT_.out (by kernel_rfl)) (fun _ _ _ h => h) (Or.inr ⟨by rfl, rfl⟩) ?_ ?_
              rotate_left
              ·simp only [Act.put, List.setIfInBounds_toArray, List.set_cons_zero, List.set_cons_succ, i64_w, i32_w]
               rfl
              refine pure_ (i := 35) (N := some 66) (v := undef) (a' := ?_) (bz2 40 68719476735) rfl rfl (any_of HT_.out (by kernel_rfl)) (fun _ _ _ h => h) (Or.inr ⟨by rfl, rfl⟩) ?_ ?_
              rotate_left
              ·simp only [Act.put, List.setIfInBounds_toArray, List.set_cons_zero, List.set_cons_succ, i64_w, i32_w]
               rfl
              refine pure_ (i := 36) (N := some 67) (v := undef) (a' := ?_) (bz2 40 137438953471) rfl rfl (any_of HT_.out (by kernel_rfl)) (fun _ _ _ h => h) (Or.inr ⟨by rfl, rfl⟩) ?_ ?_
              rotate_left
              ·simp only [Act.put, List.setIfInBounds_toArray, List.set_cons_zero, List.set_cons_succ, i64_w, i32_w]
               rfl
              refine pure_ (i := 37) (N := some 68) (v := undef) (a' := ?_) (bz2 40 274877906943) rfl rfl (any_of HT_.out (by kernel_rfl)) (fun _ _ _ h => h) (Or.inr ⟨by rfl, rfl⟩) ?_ ?_
              rotate_left
              ·simp only [Act.put, List.setIfInBounds_toArray, List.set_cons_zero, List.set_cons_succ, i64_w, i32_w]
               rfl
              refine pure_ (i := 38) (N := some 69) (v := undef) (a' := ?_) (bz2 40 549755813887) rfl rfl (any_of HT_.out (by kernel_rfl)) (fun _ _ _ h => h) (Or.inr ⟨by rfl, rfl⟩) ?_ ?_
              rotate_left
              ·simp only [Act.put, List.setIfInBounds_toArray, List.set_cons_zero, List.set_cons_succ, i64_w, i32_w]
               rfl
              refine pure_ (i := 39) (N := some 70) (v := ?_) (a' := ?_) (bz2 40 1099511627775) rfl rfl (any_of HT_.out (by kernel_rfl)) (fun _ _ _ h => h) (Or.inl ⟨by rfl, ?_⟩) ?_ ?_
              rotate_left
              ·intro w'
               go_simp
               with_reducible rfl
              rotate_left
              ·simp only [Act.put, List.setIfInBounds_toArray, List.set_cons_zero, List.set_cons_succ, i64_w, i32_w]
               rfl
              refine done_ (done_of HT_.out (by kernel_rfl)) ?_
              try go_wp2
              go_meet
              case rel => exact ⟨_, (true), (by first | rfl | (simp; done) | (simp [*]; done)), H', ⟨by have := HJ1.out; have := HK2.out; first | omega | exact Nat.le_refl _⟩, ⟨by exact BK112.out⟩, ⟨by exact BK117.out⟩, ⟨by repeat (first | (with_reducible first | exact HB.out | apply below_alloc | apply pw_below_drewN | apply below_drew1 | refine below_set ?_ GE112.out | refine below_set ?_ GE117.out) | exact HB.out)⟩⟩
            ·replace c25 := Bool.eq_false_iff.mpr c25
             subst c25
             have H1 : (spec_GoodStore.j2 k2 x26_2 l0_2 (l0_2.length : Int) x26_2 true a0_0 a0_1 l0_2 ((rd_T96 l0_2 x26_2).f0) ((rd_T96 l0_2 x26_2).f1) ((rd_T96 l0_2 x26_2).f2) ((rd_T96 l0_2 x26_2).f3)) = some r := by rw [if_neg (show ¬ (false = true) by decide)] at H; exact H
             clear H
             have H := H1
             clear H1
             have H' := Aside0.mk H
             clear H
             try go_wp2
             have n0_ : Aside0 (((((w17.setCell ⟨gb117, 0, none⟩ (.string ((rd_T96 l0_2 x26_2).f0))).setCell ⟨gb117, 1, none⟩ (.int .i64 ((rd_T96 l0_2 x26_2).f1))).setCell ⟨gb117, 2, none⟩ (.int .i64 ((rd_T96 l0_2 x26_2).f2))).setCell ⟨gb117, 3, none⟩ (.int .i64 ((rd_T96 l0_2 x26_2).f3))).heap[gb112]? = some (.cells #[.int .i64 a0_0, .int .i64 a0_1, .slice (some ad116) l0_2.length c0_2] 46 (0, 0))) := ⟨by refine blk_far ?_ NB112_117.out _; refine blk_far ?_ NB112_117.out _; refine blk_far ?_ NB112_117.out _; refine blk_far ?_ NB112_117.out _; exact BK112.out⟩
             have n1_ : Aside0 (((((w17.setCell ⟨gb117, 0, none⟩ (.string ((rd_T96 l0_2 x26_2).f0))).setCell ⟨gb117, 1, none⟩ (.int .i64 ((rd_T96 l0_2 x26_2).f1))).setCell ⟨gb117, 2, none⟩ (.int .i64 ((rd_T96 l0_2 x26_2).f2))).setCell ⟨gb117, 3, none⟩ (.int .i64 ((rd_T96 l0_2 x26_2).f3))).heap[gb117]? = some (.cells #[.string ((rd_T96 l0_2 x26_2).f0), .int .i64 ((rd_T96 l0_2 x26_2).f1), .int .i64 ((rd_T96 l0_2 x26_2).f2), .int .i64 ((rd_T96 l0_2 x26_2).f3)] 96 (0, 0))) := ⟨by refine blk_put (cs := #[.string ((rd_T96 l0_2 x26_2).f0), .int .i64 ((rd_T96 l0_2 x26_2).f1), .int .i64 ((rd_T96 l0_2 x26_2).f2), .int .i64 0]) ?_ 3 _ rfl; refine blk_put (cs := #[.string ((rd_T96 l0_2 x26_2).f0), .int .i64 ((rd_T96 l0_2 x26_2).f1), .int .i64 0, .int .i64 0]) ?_ 2 _ rfl; refine blk_put (cs := #[.string ((rd_T96 l0_2 x26_2).f0), .int .i64 0, .int .i64 0, .int .i64 0]) ?_ 1 _ rfl; refine blk_put (cs := #[.string (⟨#[]⟩ : ByteArray), .int .i64 0, .int .i64 0, .int .i64 0]) ?_ 0 _ rfl; exact BK117.out⟩
             have n2_ : Aside0 (Below w.heap.size w ((((w17.setCell ⟨gb117, 0, none⟩ (.string ((rd_T96 l0_2 x26_2).f0))).setCell ⟨gb117, 1, none⟩ (.int .i64 ((rd_T96 l0_2 x26_2).f1))).setCell ⟨gb117, 2, none⟩ (.int .i64 ((rd_T96 l0_2 x26_2).f2))).setCell ⟨gb117, 3, none⟩ (.int .i64 ((rd_T96 l0_2 x26_2).f3)))) := ⟨by repeat (first | (with_reducible first | exact HB.out | apply below_alloc | apply pw_below_drewN | apply below_drew1 | refine below_set ?_ GE112.out | refine below_set ?_ GE117.out) | exact HB.out)⟩
             (try clear BK112)
             (try clear BK117)
             (try clear HB)
             generalize ((((w17.setCell ⟨gb117, 0, none⟩ (.string ((rd_T96 l0_2 x26_2).f0))).setCell ⟨gb117, 1, none⟩ (.int .i64 ((rd_T96 l0_2 x26_2).f1))).setCell ⟨gb117, 2, none⟩ (.int .i64 ((rd_T96 l0_2 x26_2).f2))).setCell ⟨gb117, 3, none⟩ (.int .i64 ((rd_T96 l0_2 x26_2).f3))) = w38 at n0_ n1_ n2_ ⊢
             have BK112 := n0_
             have BK117 := n1_
             have HB := n2_
             clear n0_ n1_ n2_
             have n0_ := Aside0.mk (blk_drew BK112.out)
             have n1_ := Aside0.mk (blk_drew BK117.out)
             have n2_ := Aside0.mk (below_drew1 HB.out)
             clear BK112
             clear BK117
             clear HB
             have BK112 := n0_
             have BK117 := n1_
             have HB := n2_
             clear n0_ n1_ n2_
             refine start_ (n := 40) (S := fun w' => w'.cell? ⟨gb117, 0, none⟩ = some (.string ((rd_T96 l0_2 x26_2).f0)) ∧ w'.cell? ⟨gb117, 1, none⟩ = some (.int .i64 ((rd_T96 l0_2 x26_2).f1)) ∧ w'.cell? ⟨gb117, 2, none⟩ = some (.int .i64 ((rd_T96 l0_2 x26_2).f2)) ∧ w'.cell? ⟨gb117, 3, none⟩ = some (.int .i64 ((rd_T96 l0_2 x26_2).f3))) (ds := []) #[false, false, false, false, false, false, false, false, false, false, false, false, false, false, false, false, false, false, false, false, false, false, false, false, false, false, false, false, false, false, false, false, false, false, false, false, false, false, false, false] (by kernel_rfl) rfl rfl ⟨(blk_cell BK117.out 0).trans rfl, (blk_cell BK117.out 1).trans rfl, (blk_cell BK117.out 2).trans rfl, (blk_cell BK117.out 3).trans rfl⟩ (fun hHeld => ?_); refine with_tabW spec_GoodStore.tab6 spec_GoodStore.bits6 (fun HT_ HW_ => ?_)
             generalize w38.drew = w39 at BK112 BK117 HB hHeld ⊢
             refine pure_ (i := 0) (N := some 31) (v := ?_) (a' := ?_) (bz2 40 1) rfl rfl (any_of HT_.out (by kernel_rfl)) (fun _ _ _ h => h) (Or.inl ⟨by rfl, ?_⟩) ?_ ?_
             rotate_left
             ·intro w'
              go_simp
              with_reducible rfl
             rotate_left
             ·simp only [Act.put, List.setIfInBounds_toArray, List.set_cons_zero, List.set_cons_succ, i64_w, i32_w]
              rfl
             refine take_ (i := 1) (N := some 32) (v := ?_) (a' := ?_) (bz2 40 3) rfl rfl (take_ofW HT_.out HW_.out (by kernel_rfl)) (fun _ _ _ h => h) (Or.inl ⟨by rfl, ?_⟩) hHeld ?_ ?_
             rotate_left
             ·rintro w' ⟨s0, s1, s2, s3⟩
              go_simp
              with_reducible rfl
             rotate_left
             ·simp only [Act.put, List.setIfInBounds_toArray, List.set_cons_zero, List.set_cons_succ, i64_w, i32_w]
              rfl
             refine one_ (i := 2) (N := some 33) (bz2 40 7) rfl rfl (one_of HT_.out (by kernel_rfl)) (by decide) (fun K hK => ?_)
             refine goes_ Try.func53 (by kernel_rfl) rfl #[.string ((rd_T96 l0_2 x26_2).f0)] (by rfl) rfl rfl (by (try simp only [List.map_toArray, List.map_cons, List.map_nil]); first | done | rfl | (simp only [List.length_drop, List.length_take]; rfl)) ?_
             with_reducible refine (spec_GoodName.calls k2 ((rd_T96 l0_2 x26_2).f0) true _ A20.out).mono ?_
             rintro e w' ⟨rfl, ⟨nd, rfl⟩⟩
             refine ⟨_, rfl, ?_⟩
             refine hK.out _ _ ⟨(blk_cell BK117.out 0).trans rfl, (blk_cell BK117.out 1).trans rfl, (blk_cell BK117.out 2).trans rfl, (blk_cell BK117.out 3).trans rfl⟩ (fun hHeld => ?_)
             clear hK K
             refine norm_ (a' := ?_) ?_ ?_
             rotate_left
             ·show Act.put _ (some 33) _ = _
              simp only [Act.put, List.setIfInBounds_toArray, List.set_cons_zero, List.set_cons_succ, i64_w, i32_w]
              rfl
             refine pure_ (i := 3) (N := some 34) (v := ?_) (a' := ?_) (bz2 40 15) rfl rfl (any_of HT_.out (by kernel_rfl)) (fun _ _ _ h => h) (Or.inl ⟨by rfl, ?_⟩) ?_ ?_
             rotate_left
             ·intro w'
              go_simp
              with_reducible rfl
             rotate_left
             ·simp only [Act.put, List.setIfInBounds_toArray, List.set_cons_zero, List.set_cons_succ, i64_w, i32_w]
              rfl
             refine pure_ (i := 4) (N := some 35) (v := ?_) (a' := ?_) (bz2 40 31) rfl rfl (any_of HT_.out (by kernel_rfl)) (fun _ _ _ h => h) (Or.inl ⟨by rfl, ?_⟩) ?_ ?_
             rotate_left
             ·intro w'
              go_simp
              with_reducible rfl
             rotate_left
             ·simp only [Act.put, List.setIfInBounds_toArray, List.set_cons_zero, List.set_cons_succ, i64_w, i32_w]
              rfl
             refine pure_ (i := 5) (N := some 36) (v := ?_) (a' := ?_) (bz2 40 63) rfl rfl (any_of HT_.out (by kernel_rfl)) (fun _ _ _ h => h) (Or.inl ⟨by rfl, ?_⟩) ?_ ?_
             rotate_left
             ·intro w'
              go_simp
              with_reducible rfl
             rotate_left
             ·simp only [Act.put, List.setIfInBounds_toArray, List.set_cons_zero, List.set_cons_succ, i64_w, i32_w]
              rfl
             refine take_ (i := 6) (N := some 37) (v := ?_) (a' := ?_) (bz2 40 127) rfl rfl (take_ofW HT_.out HW_.out (by kernel_rfl)) (fun _ _ _ h => h) (Or.inl ⟨by rfl, ?_⟩) hHeld ?_ ?_
             rotate_left
             ·rintro w' ⟨s0, s1, s2, s3⟩
              go_simp
              with_reducible rfl
             rotate_left
             ·simp only [Act.put, List.setIfInBounds_toArray, List.set_cons_zero, List.set_cons_succ, i64_w, i32_w]
              rfl
             refine one_ (i := 7) (N := some 38) (bz2 40 255) rfl rfl (one_of HT_.out (by kernel_rfl)) (by decide) (fun K hK => ?_)
             refine goes_ Try.func70 (by kernel_rfl) rfl #[.int .i64 ((rd_T96 l0_2 x26_2).f1), .int .i64 1, .int .i64 100000] (by rfl) rfl rfl (by (try simp only [List.map_toArray, List.map_cons, List.map_nil]); first | done | rfl | (simp only [List.length_drop, List.length_take]; rfl)) ?_
             with_reducible refine (spec_l1In.calls ((rd_T96 l0_2 x26_2).f1) 1 100000 true _ A22.out).mono ?_
             rintro e w' ⟨rfl, ⟨nd, rfl⟩⟩
             refine ⟨_, rfl, ?_⟩
             refine hK.out _ _ ⟨(blk_cell BK117.out 0).trans rfl, (blk_cell BK117.out 1).trans rfl, (blk_cell BK117.out 2).trans rfl, (blk_cell BK117.out 3).trans rfl⟩ (fun hHeld => ?_)
             clear hK K
             refine norm_ (a' := ?_) ?_ ?_
             rotate_left
             ·show Act.put _ (some 38) _ = _
              simp only [Act.put, List.setIfInBounds_toArray, List.set_cons_zero, List.set_cons_succ, i64_w, i32_w]
              rfl
             refine pure_ (i := 8) (N := some 39) (v := ?_) (a' := ?_) (bz2 40 511) rfl rfl (any_of HT_.out (by kernel_rfl)) (fun _ _ _ h => h) (Or.inl ⟨by rfl, ?_⟩) ?_ ?_
             rotate_left
             ·intro w'
              go_simp
              with_reducible rfl
             rotate_left
             ·simp only [Act.put, List.setIfInBounds_toArray, List.set_cons_zero, List.set_cons_succ, i64_w, i32_w]
              rfl
             refine pure_ (i := 9) (N := some 40) (v := ?_) (a' := ?_) (bz2 40 1023) rfl rfl (any_of HT_.out (by kernel_rfl)) (fun _ _ _ h => h) (Or.inl ⟨by rfl, ?_⟩) ?_ ?_
             rotate_left
             ·intro w'
              go_simp
              with_reducible rfl
             rotate_left
             ·simp only [Act.put, List.setIfInBounds_toArray, List.set_cons_zero, List.set_cons_succ, i64_w, i32_w]
              rfl
             refine pure_ (i := 10) (N := some 41) (v := ?_) (a' := ?_) (bz2 40 2047) rfl rfl (any_of HT_.out (by kernel_rfl)) (fun _ _ _ h => h) (Or.inl ⟨by rfl, ?_⟩) ?_ ?_
             rotate_left
             ·intro w'
              go_simp
              with_reducible rfl
             rotate_left
             ·simp only [Act.put, List.setIfInBounds_toArray, List.set_cons_zero, List.set_cons_succ, i64_w, i32_w]
              rfl
             refine pure_ (i := 11) (N := some 42) (v := ?_) (a' := ?_) (bz2 40 4095) rfl rfl (any_of HT_.out (by kernel_rfl)) (fun _ _ _ h => h) (Or.inl ⟨by rfl, ?_⟩) ?_ ?_
             rotate_left
             ·intro w'
              go_simp
              with_reducible rfl
             rotate_left
             ·simp only [Act.put, List.setIfInBounds_toArray, List.set_cons_zero, List.set_cons_succ, i64_w, i32_w]
              rfl
             refine take_ (i := 12) (N := some 43) (v := ?_) (a' := ?_) (bz2 40 8191) rfl rfl (take_ofW HT_.out HW_.out (by kernel_rfl)) (fun _ _ _ h => h) (Or.inl ⟨by rfl, ?_⟩) hHeld ?_ ?_
             rotate_left
             ·rintro w' ⟨s0, s1, s2, s3⟩
              go_simp
              with_reducible rfl
             rotate_left
             ·simp only [Act.put, List.setIfInBounds_toArray, List.set_cons_zero, List.set_cons_succ, i64_w, i32_w]
              rfl
             refine one_ (i := 13) (N := some 44) (bz2 40 16383) rfl rfl (one_of HT_.out (by kernel_rfl)) (by decide) (fun K hK => ?_)
             refine goes_ Try.func70 (by kernel_rfl) rfl #[.int .i64 ((rd_T96 l0_2 x26_2).f2), .int .i64 0, .int .i64 1000] (by rfl) rfl rfl (by (try simp only [List.map_toArray, List.map_cons, List.map_nil]); first | done | rfl | (simp only [List.length_drop, List.length_take]; rfl)) ?_
             with_reducible refine (spec_l1In.calls ((rd_T96 l0_2 x26_2).f2) 0 1000 false _ A24.out).mono ?_
             rintro e w' ⟨rfl, ⟨nd, rfl⟩⟩
             refine ⟨_, rfl, ?_⟩
             refine hK.out _ _ ⟨(blk_cell BK117.out 0).trans rfl, (blk_cell BK117.out 1).trans rfl, (blk_cell BK117.out 2).trans rfl, (blk_cell BK117.out 3).trans rfl⟩ (fun hHeld => ?_)
             clear hK K
             refine norm_ (a' := ?_) ?_ ?_
             rotate_left
             ·show Act.put _ (some 44) _ = _
              simp only [Act.put, List.setIfInBounds_toArray, List.set_cons_zero, List.set_cons_succ, i64_w, i32_w]
              rfl
             refine pure_ (i := 14) (N := some 45) (v := ?_) (a' := ?_) (bz2 40 32767) rfl rfl (any_of HT_.out (by kernel_rfl)) (fun _ _ _ h => h) (Or.inl ⟨by rfl, ?_⟩) ?_ ?_
             rotate_left
             ·intro w'
              go_simp
              with_reducible rfl
             rotate_left
             ·simp only [Act.put, List.setIfInBounds_toArray, List.set_cons_zero, List.set_cons_succ, i64_w, i32_w]
              rfl
             refine pure_ (i := 15) (N := some 46) (v := ?_) (a' := ?_) (bz2 40 65535) rfl rfl (any_of HT_.out (by kernel_rfl)) (fun _ _ _ h => h) (Or.inl ⟨by rfl, ?_⟩) ?_ ?_
             rotate_left
             ·intro w'
              go_simp
              with_reducible rfl
             rotate_left
             ·simp only [Act.put, List.setIfInBounds_toArray, List.set_cons_zero, List.set_cons_succ, i64_w, i32_w]
              rfl
             refine pure_ (i := 16) (N := some 47) (v := ?_) (a' := ?_) (bz2 40 131071) rfl rfl (any_of HT_.out (by kernel_rfl)) (fun _ _ _ h => h) (Or.inl ⟨by rfl, ?_⟩) ?_ ?_
             rotate_left
             ·intro w'
              go_simp
              with_reducible rfl
             rotate_left
             ·simp only [Act.put, List.setIfInBounds_toArray, List.set_cons_zero, List.set_cons_succ, i64_w, i32_w]
              rfl
             refine pure_ (i := 17) (N := some 48) (v := undef) (a' := ?_) (bz2 40 262143) rfl rfl (any_of HT_.out (by kernel_rfl)) (fun _ _ _ h => h) (Or.inr ⟨by rfl, rfl⟩) ?_ ?_
             rotate_left
             ·simp only [Act.put, List.setIfInBounds_toArray, List.set_cons_zero, List.set_cons_succ, i64_w, i32_w]
              rfl
             refine pure_ (i := 18) (N := some 49) (v := undef) (a' := ?_) (bz2 40 524287) rfl rfl (any_of HT_.out (by kernel_rfl)) (fun _ _ _ h => h) (Or.inr ⟨by rfl, rfl⟩) ?_ ?_
             rotate_left
             ·simp only [Act.put, List.setIfInBounds_toArray, List.set_cons_zero, List.set_cons_succ, i64_w, i32_w]
              rfl
             refine pure_ (i := 19) (N := some 50) (v := undef) (a' := ?_) (bz2 40 1048575) rfl rfl (any_of HT_.out (by kernel_rfl)) (fun _ _ _ h => h) (Or.inr ⟨by rfl, rfl⟩) ?_ ?_
             rotate_left
             ·simp only [Act.put, List.setIfInBounds_toArray, List.set_cons_zero, List.set_cons_succ, i64_w, i32_w]
              rfl
             refine pure_ (i := 20) (N := some 51) (v := undef) (a' := ?_) (bz2 40 2097151) rfl rfl (any_of HT_.out (by kernel_rfl)) (fun _ _ _ h => h) (Or.inr ⟨by rfl, rfl⟩) ?_ ?_
             rotate_left
             ·simp only [Act.put, List.setIfInBounds_toArray, List.set_cons_zero, List.set_cons_succ, i64_w, i32_w]
              rfl
             refine pure_ (i := 21) (N := some 52) (v := undef) (a' := ?_) (bz2 40 4194303) rfl rfl (any_of HT_.out (by kernel_rfl)) (fun _ _ _ h => h) (Or.inr ⟨by rfl, rfl⟩) ?_ ?_
             rotate_left
             ·simp only [Act.put, List.setIfInBounds_toArray, List.set_cons_zero, List.set_cons_succ, i64_w, i32_w]
              rfl
             refine pure_ (i := 22) (N := some 53) (v := undef) (a' := ?_) (bz2 40 8388607) rfl rfl (any_of HT_.out (by kernel_rfl)) (fun _ _ _ h => h) (Or.inr ⟨by rfl, rfl⟩) ?_ ?_
             rotate_left
             ·simp only [Act.put, List.setIfInBounds_toArray, List.set_cons_zero, List.set_cons_succ, i64_w, i32_w]
              rfl
             refine pure_ (i := 23) (N := some 54) (v := ?_) (a' := ?_) (bz2 40 16777215) rfl rfl (any_of HT_.out (by kernel_rfl)) (fun _ _ _ h => h) (Or.inl ⟨by rfl, ?_⟩) ?_ ?_
             rotate_left
             ·intro w'
              go_simp
              with_reducible rfl
             rotate_left
             ·simp only [Act.put, List.setIfInBounds_toArray, List.set_cons_zero, List.set_cons_succ, i64_w, i32_w]
              rfl
             refine pure_ (i := 24) (N := some 55) (v := ?_) (a' := ?_) (bz2 40 33554431) rfl rfl (any_of HT_.out (by kernel_rfl)) (fun _ _ _ h => h) (Or.inl ⟨by rfl, ?_⟩) ?_ ?_
             rotate_left
             ·intro w'
              go_simp
              with_reducible rfl
             rotate_left
             ·simp only [Act.put, List.setIfInBounds_toArray, List.set_cons_zero, List.set_cons_succ, i64_w, i32_w]
              rfl
             refine pure_ (i := 25) (N := some 56) (v := undef) (a' := ?_) (bz2 40 67108863) rfl rfl (any_of HT_.out (by kernel_rfl)) (fun _ _ _ h => h) (Or.inr ⟨by rfl, rfl⟩) ?_ ?_
             rotate_left
             ·simp only [Act.put, List.setIfInBounds_toArray, List.set_cons_zero, List.set_cons_succ, i64_w, i32_w]
              rfl
             refine pure_ (i := 26) (N := some 57) (v := undef) (a' := ?_) (bz2 40 134217727) rfl rfl (any_of HT_.out (by kernel_rfl)) (fun _ _ _ h => h) (Or.inr ⟨by rfl, rfl⟩) ?_ ?_
             rotate_left
             ·simp only [Act.put, List.setIfInBounds_toArray, List.set_cons_zero, List.set_cons_succ, i64_w, i32_w]
              rfl
             refine pure_ (i := 27) (N := some 58) (v := undef) (a' := ?_) (bz2 40 268435455) rfl rfl (any_of HT_.out (by kernel_rfl)) (fun _ _ _ h => h) (Or.inr ⟨by rfl, rfl⟩) ?_ ?_
             rotate_left
             ·simp only [Act.put, List.setIfInBounds_toArray, List.set_cons_zero, List.set_cons_succ, i64_w, i32_w]
              rfl
             refine pure_ (i := 28) (N := some 59) (v := undef) (a' := ?_) (bz2 40 536870911) rfl rfl (any_of HT_.out (by kernel_rfl)) (fun _ _ _ h => h) (Or.inr ⟨by rfl, rfl⟩) ?_ ?_
             rotate_left
             ·simp only [Act.put, List.setIfInBounds_toArray, List.set_cons_zero, List.set_cons_succ, i64_w, i32_w]
              rfl
             refine pure_ (i := 29) (N := some 60) (v := undef) (a' := ?_) (bz2 40 1073741823) rfl rfl (any_of HT_.out (by kernel_rfl)) (fun _ _ _ h => h) (Or.inr ⟨by rfl, rfl⟩) ?_ ?_
             rotate_left
             ·simp only [Act.put, List.setIfInBounds_toArray, List.set_cons_zero, List.set_cons_succ, i64_w, i32_w]
              rfl
             refine pure_ (i := 30) (N := some 61) (v := undef) (a' := ?_) (bz2 40 2147483647) rfl rfl (any_of HT_.out (by kernel_rfl)) (fun _ _ _ h => h) (Or.inr ⟨by rfl, rfl⟩) ?_ ?_
             rotate_left
             ·simp only [Act.put, List.setIfInBounds_toArray, List.set_cons_zero, List.set_cons_succ, i64_w, i32_w]
              rfl
             refine pure_ (i := 31) (N := some 62) (v := undef) (a' := ?_) (bz2 40 4294967295) rfl rfl (any_of HT_.out (by kernel_rfl)) (fun _ _ _ h => h) (Or.inr ⟨by rfl, rfl⟩) ?_ ?_
             rotate_left
             ·simp only [Act.put, List.setIfInBounds_toArray, List.set_cons_zero, List.set_cons_succ, i64_w, i32_w]
              rfl
             refine pure_ (i := 32) (N := some 63) (v := undef) (a' := ?_) (bz2 40 8589934591) rfl rfl (any_of HT_.out (by kernel_rfl)) (fun _ _ _ h => h) (Or.inr ⟨by rfl, rfl⟩) ?_ ?_
             rotate_left
             ·simp only [Act.put, List.setIfInBounds_toArray, List.set_cons_zero, List.set_cons_succ, i64_w, i32_w]
              rfl
             refine pure_ (i := 33) (N := some 64) (v := undef) (a' := ?_) (bz2 40 17179869183) rfl rfl (any_of HT_.out (by kernel_rfl)) (fun _ _ _ h => h) (Or.inr ⟨by rfl, rfl⟩) ?_ ?_
             rotate_left
             ·simp only [Act.put, List.setIfInBounds_toArray, List.set_cons_zero, List.set_cons_succ, i64_w, i32_w]
              rfl
             refine pure_ (i := 34) (N := some 65) (v := undef) (a' := ?_) (bz2 40 34359738367) rfl rfl (any_of HT_.out (by kernel_rfl)) (fun _ _ _ h => h) (Or.inr ⟨by rfl, rfl⟩) ?_ ?_
             rotate_left
             ·simp only [Act.put, List.setIfInBounds_toArray, List.set_cons_zero, List.set_cons_succ, i64_w, i32_w]
              rfl
             refine pure_ (i := 35) (N := some 66) (v := undef) (a' := ?_) (bz2 40 68719476735) rfl rfl (any_of HT_.out (by kernel_rfl)) (fun _ _ _ h => h) (Or.inr ⟨by rfl, rfl⟩) ?_ ?_
             rotate_left
             ·simp only [Act.put, List.setIfInBounds_toArray, List.set_cons_zero, List.set_cons_succ, i64_w, i32_w]
              rfl
             refine pure_ (i := 36) (N := some 67) (v := undef) (a' := ?_) (bz2 40 137438953471) rfl rfl (any_of HT_.out (by kernel_rfl)) (fun _ _ _ h => h) (Or.inr ⟨by rfl, rfl⟩) ?_ ?_
             rotate_left
             ·simp only [Act.put, List.setIfInBounds_toArray, List.set_cons_zero, List.set_cons_succ, i64_w, i32_w]
              rfl
             refine pure_ (i := 37) (N := some 68) (v := undef) (a' := ?_) (bz2 40 274877906943) rfl rfl (any_of HT_.out (by kernel_rfl)) (fun _ _ _ h => h) (Or.inr ⟨by rfl, rfl⟩) ?_ ?_
             rotate_left
             ·simp only [Act.put, List.setIfInBounds_toArray, List.set_cons_zero, List.set_cons_succ, i64_w, i32_w]
              rfl
             refine pure_ (i := 38) (N := some 69) (v := undef) (a' := ?_) (bz2 40 549755813887) rfl rfl (any_of HT_.out (by kernel_rfl)) (fun _ _ _ h => h) (Or.inr ⟨by rfl, rfl⟩) ?_ ?_
             rotate_left
             ·simp only [Act.put, List.setIfInBounds_toArray, List.set_cons_zero, List.set_cons_succ, i64_w, i32_w]
              rfl
             refine pure_ (i := 39) (N := some 70) (v := ?_) (a' := ?_) (bz2 40 1099511627775) rfl rfl (any_of HT_.out (by kernel_rfl)) (fun _ _ _ h => h) (Or.inl ⟨by rfl, ?_⟩) ?_ ?_
             rotate_left
             ·intro w'
              go_simp
              with_reducible rfl
             rotate_left
             ·simp only [Act.put, List.setIfInBounds_toArray, List.set_cons_zero, List.set_cons_succ, i64_w, i32_w]
              rfl
             refine done_ (done_of HT_.out (by kernel_rfl)) ?_
             try go_wp2
             go_meet
             case rel => exact ⟨_, (true), (by first | rfl | (simp; done) | (simp [*]; done)), H', ⟨by have := HJ1.out; have := HK2.out; first | omega | exact Nat.le_refl _⟩, ⟨by exact BK112.out⟩, ⟨by exact BK117.out⟩, ⟨by repeat (first | (with_reducible first | exact HB.out | apply below_alloc | apply pw_below_drewN | apply below_drew1 | refine below_set ?_ GE112.out | refine below_set ?_ GE117.out) | exact HB.out)⟩⟩
           ·replace c23 := Bool.eq_false_iff.mpr c23
            subst c23
            have H1 : (spec_GoodStore.j2 k2 x26_2 l0_2 (l0_2.length : Int) x26_2 true a0_0 a0_1 l0_2 ((rd_T96 l0_2 x26_2).f0) ((rd_T96 l0_2 x26_2).f1) ((rd_T96 l0_2 x26_2).f2) ((rd_T96 l0_2 x26_2).f3)) = some r := by rw [if_neg (show ¬ (false = true) by decide)] at H; exact H
            clear H
            have H := H1
            clear H1
            have H' := Aside0.mk H
            clear H
            try go_wp2
            have n0_ : Aside0 (((((w17.setCell ⟨gb117, 0, none⟩ (.string ((rd_T96 l0_2 x26_2).f0))).setCell ⟨gb117, 1, none⟩ (.int .i64 ((rd_T96 l0_2 x26_2).f1))).setCell ⟨gb117, 2, none⟩ (.int .i64 ((rd_T96 l0_2 x26_2).f2))).setCell ⟨gb117, 3, none⟩ (.int .i64 ((rd_T96 l0_2 x26_2).f3))).heap[gb112]? = some (.cells #[.int .i64 a0_0, .int .i64 a0_1, .slice (some ad116) l0_2.length c0_2] 46 (0, 0))) := ⟨by refine blk_far ?_ NB112_117.out _; refine blk_far ?_ NB112_117.out _; refine blk_far ?_ NB112_117.out _; refine blk_far ?_ NB112_117.out _; exact BK112.out⟩
            have n1_ : Aside0 (((((w17.setCell ⟨gb117, 0, none⟩ (.string ((rd_T96 l0_2 x26_2).f0))).setCell ⟨gb117, 1, none⟩ (.int .i64 ((rd_T96 l0_2 x26_2).f1))).setCell ⟨gb117, 2, none⟩ (.int .i64 ((rd_T96 l0_2 x26_2).f2))).setCell ⟨gb117, 3, none⟩ (.int .i64 ((rd_T96 l0_2 x26_2).f3))).heap[gb117]? = some (.cells #[.string ((rd_T96 l0_2 x26_2).f0), .int .i64 ((rd_T96 l0_2 x26_2).f1), .int .i64 ((rd_T96 l0_2 x26_2).f2), .int .i64 ((rd_T96 l0_2 x26_2).f3)] 96 (0, 0))) := ⟨by refine blk_put (cs := #[.string ((rd_T96 l0_2 x26_2).f0), .int .i64 ((rd_T96 l0_2 x26_2).f1), .int .i64 ((rd_T96 l0_2 x26_2).f2), .int .i64 0]) ?_ 3 _ rfl; refine blk_put (cs := #[.string ((rd_T96 l0_2 x26_2).f0), .int .i64 ((rd_T96 l0_2 x26_2).f1), .int .i64 0, .int .i64 0]) ?_ 2 _ rfl; refine blk_put (cs := #[.string ((rd_T96 l0_2 x26_2).f0), .int .i64 0, .int .i64 0, .int .i64 0]) ?_ 1 _ rfl; refine blk_put (cs := #[.string (⟨#[]⟩ : ByteArray), .int .i64 0, .int .i64 0, .int .i64 0]) ?_ 0 _ rfl; exact BK117.out⟩
            have n2_ : Aside0 (Below w.heap.size w ((((w17.setCell ⟨gb117, 0, none⟩ (.string ((rd_T96 l0_2 x26_2).f0))).setCell ⟨gb117, 1, none⟩ (.int .i64 ((rd_T96 l0_2 x26_2).f1))).setCell ⟨gb117, 2, none⟩ (.int .i64 ((rd_T96 l0_2 x26_2).f2))).setCell ⟨gb117, 3, none⟩ (.int .i64 ((rd_T96 l0_2 x26_2).f3)))) := ⟨by repeat (first | (with_reducible first | exact HB.out | apply below_alloc | apply pw_below_drewN | apply below_drew1 | refine below_set ?_ GE112.out | refine below_set ?_ GE117.out) | exact HB.out)⟩
            (try clear BK112)
            (try clear BK117)
            (try clear HB)
            generalize ((((w17.setCell ⟨gb117, 0, none⟩ (.string ((rd_T96 l0_2 x26_2).f0))).setCell ⟨gb117, 1, none⟩ (.int .i64 ((rd_T96 l0_2 x26_2).f1))).setCell ⟨gb117, 2, none⟩ (.int .i64 ((rd_T96 l0_2 x26_2).f2))).setCell ⟨gb117, 3, none⟩ (.int .i64 ((rd_T96 l0_2 x26_2).f3))) = w40 at n0_ n1_ n2_ ⊢
            have BK112 := n0_
            have BK117 := n1_
            have HB := n2_
            clear n0_ n1_ n2_
            have n0_ := Aside0.mk (blk_drew BK112.out)
            have n1_ := Aside0.mk (blk_drew BK117.out)
            have n2_ := Aside0.mk (below_drew1 HB.out)
            clear BK112
            clear BK117
            clear HB
            have BK112 := n0_
            have BK117 := n1_
            have HB := n2_
            clear n0_ n1_ n2_
            refine start_ (n := 40) (S := fun w' => w'.cell? ⟨gb117, 0, none⟩ = some (.string ((rd_T96 l0_2 x26_2).f0)) ∧ w'.cell? ⟨gb117, 1, none⟩ = some (.int .i64 ((rd_T96 l0_2 x26_2).f1)) ∧ w'.cell? ⟨gb117, 2, none⟩ = some (.int .i64 ((rd_T96 l0_2 x26_2).f2)) ∧ w'.cell? ⟨gb117, 3, none⟩ = some (.int .i64 ((rd_T96 l0_2 x26_2).f3))) (ds := []) #[false, false, false, false, false, false, false, false, false, false, false, false, false, false, false, false, false, false, false, false, false, false, false, false, false, false, false, false, false, false, false, false, false, false, false, false, false, false, false, false] (by kernel_rfl) rfl rfl ⟨(blk_cell BK117.out 0).trans rfl, (blk_cell BK117.out 1).trans rfl, (blk_cell BK117.out 2).trans rfl, (blk_cell BK117.out 3).trans rfl⟩ (fun hHeld => ?_); refine with_tabW spec_GoodStore.tab6 spec_GoodStore.bits6 (fun HT_ HW_ => ?_)
            generalize w40.drew = w41 at BK112 BK117 HB hHeld ⊢
            refine pure_ (i := 0) (N := some 31) (v := ?_) (a' := ?_) (bz2 40 1) rfl rfl (any_of HT_.out (by kernel_rfl)) (fun _ _ _ h => h) (Or.inl ⟨by rfl, ?_⟩) ?_ ?_
            rotate_left
            ·intro w'
             go_simp
             with_reducible rfl
            rotate_left
            ·simp only [Act.put, List.setIfInBounds_toArray, List.set_cons_zero, List.set_cons_succ, i64_w, i32_w]
             rfl
            refine take_ (i := 1) (N := some 32) (v := ?_) (a' := ?_) (bz2 40 3) rfl rfl (take_ofW HT_.out HW_.out (by kernel_rfl)) (fun _ _ _ h => h) (Or.inl ⟨by rfl, ?_⟩) hHeld ?_ ?_
            rotate_left
            ·rintro w' ⟨s0, s1, s2, s3⟩
             go_simp
             with_reducible rfl
            rotate_left
            ·simp only [Act.put, List.setIfInBounds_toArray, List.set_cons_zero, List.set_cons_succ, i64_w, i32_w]
             rfl
            refine one_ (i := 2) (N := some 33) (bz2 40 7) rfl rfl (one_of HT_.out (by kernel_rfl)) (by decide) (fun K hK => ?_)
            refine goes_ Try.func53 (by kernel_rfl) rfl #[.string ((rd_T96 l0_2 x26_2).f0)] (by rfl) rfl rfl (by (try simp only [List.map_toArray, List.map_cons, List.map_nil]); first | done | rfl | (simp only [List.length_drop, List.length_take]; rfl)) ?_
            with_reducible refine (spec_GoodName.calls k2 ((rd_T96 l0_2 x26_2).f0) true _ A20.out).mono ?_
            rintro e w' ⟨rfl, ⟨nd, rfl⟩⟩
            refine ⟨_, rfl, ?_⟩
            refine hK.out _ _ ⟨(blk_cell BK117.out 0).trans rfl, (blk_cell BK117.out 1).trans rfl, (blk_cell BK117.out 2).trans rfl, (blk_cell BK117.out 3).trans rfl⟩ (fun hHeld => ?_)
            clear hK K
            refine norm_ (a' := ?_) ?_ ?_
            rotate_left
            ·show Act.put _ (some 33) _ = _
             simp only [Act.put, List.setIfInBounds_toArray, List.set_cons_zero, List.set_cons_succ, i64_w, i32_w]
             rfl
            refine pure_ (i := 3) (N := some 34) (v := ?_) (a' := ?_) (bz2 40 15) rfl rfl (any_of HT_.out (by kernel_rfl)) (fun _ _ _ h => h) (Or.inl ⟨by rfl, ?_⟩) ?_ ?_
            rotate_left
            ·intro w'
             go_simp
             with_reducible rfl
            rotate_left
            ·simp only [Act.put, List.setIfInBounds_toArray, List.set_cons_zero, List.set_cons_succ, i64_w, i32_w]
             rfl
            refine pure_ (i := 4) (N := some 35) (v := ?_) (a' := ?_) (bz2 40 31) rfl rfl (any_of HT_.out (by kernel_rfl)) (fun _ _ _ h => h) (Or.inl ⟨by rfl, ?_⟩) ?_ ?_
            rotate_left
            ·intro w'
             go_simp
             with_reducible rfl
            rotate_left
            ·simp only [Act.put, List.setIfInBounds_toArray, List.set_cons_zero, List.set_cons_succ, i64_w, i32_w]
             rfl
            refine pure_ (i := 5) (N := some 36) (v := ?_) (a' := ?_) (bz2 40 63) rfl rfl (any_of HT_.out (by kernel_rfl)) (fun _ _ _ h => h) (Or.inl ⟨by rfl, ?_⟩) ?_ ?_
            rotate_left
            ·intro w'
             go_simp
             with_reducible rfl
            rotate_left
            ·simp only [Act.put, List.setIfInBounds_toArray, List.set_cons_zero, List.set_cons_succ, i64_w, i32_w]
             rfl
            refine take_ (i := 6) (N := some 37) (v := ?_) (a' := ?_) (bz2 40 127) rfl rfl (take_ofW HT_.out HW_.out (by kernel_rfl)) (fun _ _ _ h => h) (Or.inl ⟨by rfl, ?_⟩) hHeld ?_ ?_
            rotate_left
            ·rintro w' ⟨s0, s1, s2, s3⟩
             go_simp
             with_reducible rfl
            rotate_left
            ·simp only [Act.put, List.setIfInBounds_toArray, List.set_cons_zero, List.set_cons_succ, i64_w, i32_w]
             rfl
            refine one_ (i := 7) (N := some 38) (bz2 40 255) rfl rfl (one_of HT_.out (by kernel_rfl)) (by decide) (fun K hK => ?_)
            refine goes_ Try.func70 (by kernel_rfl) rfl #[.int .i64 ((rd_T96 l0_2 x26_2).f1), .int .i64 1, .int .i64 100000] (by rfl) rfl rfl (by (try simp only [List.map_toArray, List.map_cons, List.map_nil]); first | done | rfl | (simp only [List.length_drop, List.length_take]; rfl)) ?_
            with_reducible refine (spec_l1In.calls ((rd_T96 l0_2 x26_2).f1) 1 100000 false _ A22.out).mono ?_
            rintro e w' ⟨rfl, ⟨nd, rfl⟩⟩
            refine ⟨_, rfl, ?_⟩
            refine hK.out _ _ ⟨(blk_cell BK117.out 0).trans rfl, (blk_cell BK117.out 1).trans rfl, (blk_cell BK117.out 2).trans rfl, (blk_cell BK117.out 3).trans rfl⟩ (fun hHeld => ?_)
            clear hK K
            refine norm_ (a' := ?_) ?_ ?_
            rotate_left
            ·show Act.put _ (some 38) _ = _
             simp only [Act.put, List.setIfInBounds_toArray, List.set_cons_zero, List.set_cons_succ, i64_w, i32_w]
             rfl
            refine pure_ (i := 8) (N := some 39) (v := ?_) (a' := ?_) (bz2 40 511) rfl rfl (any_of HT_.out (by kernel_rfl)) (fun _ _ _ h => h) (Or.inl ⟨by rfl, ?_⟩) ?_ ?_
            rotate_left
            ·intro w'
             go_simp
             with_reducible rfl
            rotate_left
            ·simp only [Act.put, List.setIfInBounds_toArray, List.set_cons_zero, List.set_cons_succ, i64_w, i32_w]
             rfl
            refine pure_ (i := 9) (N := some 40) (v := ?_) (a' := ?_) (bz2 40 1023) rfl rfl (any_of HT_.out (by kernel_rfl)) (fun _ _ _ h => h) (Or.inl ⟨by rfl, ?_⟩) ?_ ?_
            rotate_left
            ·intro w'
             go_simp
             with_reducible rfl
            rotate_left
            ·simp only [Act.put, List.setIfInBounds_toArray, List.set_cons_zero, List.set_cons_succ, i64_w, i32_w]
             rfl
            refine pure_ (i := 10) (N := some 41) (v := ?_) (a' := ?_) (bz2 40 2047) rfl rfl (any_of HT_.out (by kernel_rfl)) (fun _ _ _ h => h) (Or.inl ⟨by rfl, ?_⟩) ?_ ?_
            rotate_left
            ·intro w'
             go_simp
             with_reducible rfl
            rotate_left
            ·simp only [Act.put, List.setIfInBounds_toArray, List.set_cons_zero, List.set_cons_succ, i64_w, i32_w]
             rfl
            refine pure_ (i := 11) (N := some 42) (v := undef) (a' := ?_) (bz2 40 4095) rfl rfl (any_of HT_.out (by kernel_rfl)) (fun _ _ _ h => h) (Or.inr ⟨by rfl, rfl⟩) ?_ ?_
            rotate_left
            ·simp only [Act.put, List.setIfInBounds_toArray, List.set_cons_zero, List.set_cons_succ, i64_w, i32_w]
             rfl
            refine pure_ (i := 12) (N := some 43) (v := undef) (a' := ?_) (bz2 40 8191) rfl rfl (any_of HT_.out (by kernel_rfl)) (fun _ _ _ h => h) (Or.inr ⟨by rfl, rfl⟩) ?_ ?_
            rotate_left
            ·simp only [Act.put, List.setIfInBounds_toArray, List.set_cons_zero, List.set_cons_succ, i64_w, i32_w]
             rfl
            refine pure_ (i := 13) (N := some 44) (v := undef) (a' := ?_) (bz2 40 16383) rfl rfl (any_of HT_.out (by kernel_rfl)) (fun _ _ _ h => h) (Or.inr ⟨by rfl, rfl⟩) ?_ ?_
            rotate_left
            ·simp only [Act.put, List.setIfInBounds_toArray, List.set_cons_zero, List.set_cons_succ, i64_w, i32_w]
             rfl
            refine pure_ (i := 14) (N := some 45) (v := undef) (a' := ?_) (bz2 40 32767) rfl rfl (any_of HT_.out (by kernel_rfl)) (fun _ _ _ h => h) (Or.inr ⟨by rfl, rfl⟩) ?_ ?_
            rotate_left
            ·simp only [Act.put, List.setIfInBounds_toArray, List.set_cons_zero, List.set_cons_succ, i64_w, i32_w]
             rfl
            refine pure_ (i := 15) (N := some 46) (v := ?_) (a' := ?_) (bz2 40 65535) rfl rfl (any_of HT_.out (by kernel_rfl)) (fun _ _ _ h => h) (Or.inl ⟨by rfl, ?_⟩) ?_ ?_
            rotate_left
            ·intro w'
             go_simp
             with_reducible rfl
            rotate_left
            ·simp only [Act.put, List.setIfInBounds_toArray, List.set_cons_zero, List.set_cons_succ, i64_w, i32_w]
             rfl
            refine pure_ (i := 16) (N := some 47) (v := ?_) (a' := ?_) (bz2 40 131071) rfl rfl (any_of HT_.out (by kernel_rfl)) (fun _ _ _ h => h) (Or.inl ⟨by rfl, ?_⟩) ?_ ?_
            rotate_left
            ·intro w'
             go_simp
             with_reducible rfl
            rotate_left
            ·simp only [Act.put, List.setIfInBounds_toArray, List.set_cons_zero, List.set_cons_succ, i64_w, i32_w]
             rfl
            refine pure_ (i := 17) (N := some 48) (v := undef) (a' := ?_) (bz2 40 262143) rfl rfl (any_of HT_.out (by kernel_rfl)) (fun _ _ _ h => h) (Or.inr ⟨by rfl, rfl⟩) ?_ ?_
            rotate_left
            ·simp only [Act.put, List.setIfInBounds_toArray, List.set_cons_zero, List.set_cons_succ, i64_w, i32_w]
             rfl
            refine pure_ (i := 18) (N := some 49) (v := undef) (a' := ?_) (bz2 40 524287) rfl rfl (any_of HT_.out (by kernel_rfl)) (fun _ _ _ h => h) (Or.inr ⟨by rfl, rfl⟩) ?_ ?_
            rotate_left
            ·simp only [Act.put, List.setIfInBounds_toArray, List.set_cons_zero, List.set_cons_succ, i64_w, i32_w]
             rfl
            refine pure_ (i := 19) (N := some 50) (v := undef) (a' := ?_) (bz2 40 1048575) rfl rfl (any_of HT_.out (by kernel_rfl)) (fun _ _ _ h => h) (Or.inr ⟨by rfl, rfl⟩) ?_ ?_
            rotate_left
            ·simp only [Act.put, List.setIfInBounds_toArray, List.set_cons_zero, List.set_cons_succ, i64_w, i32_w]
             rfl
            refine pure_ (i := 20) (N := some 51) (v := undef) (a' := ?_) (bz2 40 2097151) rfl rfl (any_of HT_.out (by kernel_rfl)) (fun _ _ _ h => h) (Or.inr ⟨by rfl, rfl⟩) ?_ ?_
            rotate_left
            ·simp only [Act.put, List.setIfInBounds_toArray, List.set_cons_zero, List.set_cons_succ, i64_w, i32_w]
             rfl
            refine pure_ (i := 21) (N := some 52) (v := undef) (a' := ?_) (bz2 40 4194303) rfl rfl (any_of HT_.out (by kernel_rfl)) (fun _ _ _ h => h) (Or.inr ⟨by rfl, rfl⟩) ?_ ?_
            rotate_left
            ·simp only [Act.put, List.setIfInBounds_toArray, List.set_cons_zero, List.set_cons_succ, i64_w, i32_w]
             rfl
            refine pure_ (i := 22) (N := some 53) (v := undef) (a' := ?_) (bz2 40 8388607) rfl rfl (any_of HT_.out (by kernel_rfl)) (fun _ _ _ h => h) (Or.inr ⟨by rfl, rfl⟩) ?_ ?_
            rotate_left
            ·simp only [Act.put, List.setIfInBounds_toArray, List.set_cons_zero, List.set_cons_succ, i64_w, i32_w]
             rfl
            refine pure_ (i := 23) (N := some 54) (v := ?_) (a' := ?_) (bz2 40 16777215) rfl rfl (any_of HT_.out (by kernel_rfl)) (fun _ _ _ h => h) (Or.inl ⟨by rfl, ?_⟩) ?_ ?_
            rotate_left
            ·intro w'
             go_simp
             with_reducible rfl
            rotate_left
            ·simp only [Act.put, List.setIfInBounds_toArray, List.set_cons_zero, List.set_cons_succ, i64_w, i32_w]
             rfl
            refine pure_ (i := 24) (N := some 55) (v := ?_) (a' := ?_) (bz2 40 33554431) rfl rfl (any_of HT_.out (by kernel_rfl)) (fun _ _ _ h => h) (Or.inl ⟨by rfl, ?_⟩) ?_ ?_
            rotate_left
            ·intro w'
             go_simp
             with_reducible rfl
            rotate_left
            ·simp only [Act.put, List.setIfInBounds_toArray, List.set_cons_zero, List.set_cons_succ, i64_w, i32_w]
             rfl
            refine pure_ (i := 25) (N := some 56) (v := undef) (a' := ?_) (bz2 40 67108863) rfl rfl (any_of HT_.out (by kernel_rfl)) (fun _ _ _ h => h) (Or.inr ⟨by rfl, rfl⟩) ?_ ?_
            rotate_left
            ·simp only [Act.put, List.setIfInBounds_toArray, List.set_cons_zero, List.set_cons_succ, i64_w, i32_w]
             rfl
            refine pure_ (i := 26) (N := some 57) (v := undef) (a' := ?_) (bz2 40 134217727) rfl rfl (any_of HT_.out (by kernel_rfl)) (fun _ _ _ h => h) (Or.inr ⟨by rfl, rfl⟩) ?_ ?_
            rotate_left
            ·simp only [Act.put, List.setIfInBounds_toArray, List.set_cons_zero, List.set_cons_succ, i64_w, i32_w]
             rfl
            refine pure_ (i := 27) (N := some 58) (v := undef) (a' := ?_) (bz2 40 268435455) rfl rfl (any_of HT_.out (by kernel_rfl)) (fun _ _ _ h => h) (Or.inr ⟨by rfl, rfl⟩) ?_ ?_
            rotate_left
            ·simp only [Act.put, List.setIfInBounds_toArray, List.set_cons_zero, List.set_cons_succ, i64_w, i32_w]
             rfl
            refine pure_ (i := 28) (N := some 59) (v := undef) (a' := ?_) (bz2 40 536870911) rfl rfl (any_of HT_.out (by kernel_rfl)) (fun _ _ _ h => h) (Or.inr ⟨by rfl, rfl⟩) ?_ ?_
            rotate_left
            ·simp only [Act.put, List.setIfInBounds_toArray, List.set_cons_zero, List.set_cons_succ, i64_w, i32_w]
             rfl
            refine pure_ (i := 29) (N := some 60) (v := undef) (a' := ?_) (bz2 40 1073741823) rfl rfl (any_of HT_.out (by kernel_rfl)) (fun _ _ _ h => h) (Or.inr ⟨by rfl, rfl⟩) ?_ ?_
            rotate_left
            ·simp only [Act.put, List.setIfInBounds_toArray, List.set_cons_zero, List.set_cons_succ, i64_w, i32_w]
             rfl
            refine pure_ (i := 30) (N := some 61) (v := undef) (a' := ?_) (bz2 40 2147483647) rfl rfl (any_of HT_.out (by kernel_rfl)) (fun _ _ _ h => h) (Or.inr ⟨by rfl, rfl⟩) ?_ ?_
            rotate_left
            ·simp only [Act.put, List.setIfInBounds_toArray, List.set_cons_zero, List.set_cons_succ, i64_w, i32_w]
             rfl
            refine pure_ (i := 31) (N := some 62) (v := undef) (a' := ?_) (bz2 40 4294967295) rfl rfl (any_of HT_.out (by kernel_rfl)) (fun _ _ _ h => h) (Or.inr ⟨by rfl, rfl⟩) ?_ ?_
            rotate_left
            ·simp only [Act.put, List.setIfInBounds_toArray, List.set_cons_zero, List.set_cons_succ, i64_w, i32_w]
             rfl
            refine pure_ (i := 32) (N := some 63) (v := undef) (a' := ?_) (bz2 40 8589934591) rfl rfl (any_of HT_.out (by kernel_rfl)) (fun _ _ _ h => h) (Or.inr ⟨by rfl, rfl⟩) ?_ ?_
            rotate_left
            ·simp only [Act.put, List.setIfInBounds_toArray, List.set_cons_zero, List.set_cons_succ, i64_w, i32_w]
             rfl
            refine pure_ (i := 33) (N := some 64) (v := undef) (a' := ?_) (bz2 40 17179869183) rfl rfl (any_of HT_.out (by kernel_rfl)) (fun _ _ _ h => h) (Or.inr ⟨by rfl, rfl⟩) ?_ ?_
            rotate_left
            ·simp only [Act.put, List.setIfInBounds_toArray, List.set_cons_zero, List.set_cons_succ, i64_w, i32_w]
             rfl
            refine pure_ (i := 34) (N := some 65) (v := undef) (a' := ?_) (bz2 40 34359738367) rfl rfl (any_of HT_.out (by kernel_rfl)) (fun _ _ _ h => h) (Or.inr ⟨by rfl, rfl⟩) ?_ ?_
            rotate_left
            ·simp only [Act.put, List.setIfInBounds_toArray, List.set_cons_zero, List.set_cons_succ, i64_w, i32_w]
             rfl
            refine pure_ (i := 35) (N := some 66) (v := undef) (a' := ?_) (bz2 40 68719476735) rfl rfl (any_of HT_.out (by kernel_rfl)) (fun _ _ _ h => h) (Or.inr ⟨by rfl, rfl⟩) ?_ ?_
            rotate_left
            ·simp only [Act.put, List.setIfInBounds_toArray, List.set_cons_zero, List.set_cons_succ, i64_w, i32_w]
             rfl
            refine pure_ (i := 36) (N := some 67) (v := undef) (a' := ?_) (bz2 40 137438953471) rfl rfl (any_of HT_.out (by kernel_rfl)) (fun _ _ _ h => h) (Or.inr ⟨by rfl, rfl⟩) ?_ ?_
            rotate_left
            ·simp only [Act.put, List.setIfInBounds_toArray, List.set_cons_zero, List.set_cons_succ, i64_w, i32_w]
             rfl
            refine pure_ (i := 37) (N := some 68) (v := undef) (a' := ?_) (bz2 40 274877906943) rfl rfl (any_of HT_.out (by kernel_rfl)) (fun _ _ _ h => h) (Or.inr ⟨by rfl, rfl⟩) ?_ ?_
            rotate_left
            ·simp only [Act.put, List.setIfInBounds_toArray, List.set_cons_zero, List.set_cons_succ, i64_w, i32_w]
             rfl
            refine pure_ (i := 38) (N := some 69) (v := undef) (a' := ?_) (bz2 40 549755813887) rfl rfl (any_of HT_.out (by kernel_rfl)) (fun _ _ _ h => h) (Or.inr ⟨by rfl, rfl⟩) ?_ ?_
            rotate_left
            ·simp only [Act.put, List.setIfInBounds_toArray, List.set_cons_zero, List.set_cons_succ, i64_w, i32_w]
             rfl
            refine pure_ (i := 39) (N := some 70) (v := ?_) (a' := ?_) (bz2 40 1099511627775) rfl rfl (any_of HT_.out (by kernel_rfl)) (fun _ _ _ h => h) (Or.inl ⟨by rfl, ?_⟩) ?_ ?_
            rotate_left
            ·intro w'
             go_simp
             with_reducible rfl
            rotate_left
            ·simp only [Act.put, List.setIfInBounds_toArray, List.set_cons_zero, List.set_cons_succ, i64_w, i32_w]
             rfl
            refine done_ (done_of HT_.out (by kernel_rfl)) ?_
            try go_wp2
            go_meet
            case rel => exact ⟨_, (true), (by first | rfl | (simp; done) | (simp [*]; done)), H', ⟨by have := HJ1.out; have := HK2.out; first | omega | exact Nat.le_refl _⟩, ⟨by exact BK112.out⟩, ⟨by exact BK117.out⟩, ⟨by repeat (first | (with_reducible first | exact HB.out | apply below_alloc | apply pw_below_drewN | apply below_drew1 | refine below_set ?_ GE112.out | refine below_set ?_ GE117.out) | exact HB.out)⟩⟩
          ·replace c21 := Bool.eq_false_iff.mpr c21
           subst c21
           have H1 : (spec_GoodStore.j2 k2 x26_2 l0_2 (l0_2.length : Int) x26_2 true a0_0 a0_1 l0_2 ((rd_T96 l0_2 x26_2).f0) ((rd_T96 l0_2 x26_2).f1) ((rd_T96 l0_2 x26_2).f2) ((rd_T96 l0_2 x26_2).f3)) = some r := by rw [if_neg (show ¬ (false = true) by decide)] at H; exact H
           clear H
           have H := H1
           clear H1
           have H' := Aside0.mk H
           clear H
           try go_wp2
           have n0_ : Aside0 (((((w17.setCell ⟨gb117, 0, none⟩ (.string ((rd_T96 l0_2 x26_2).f0))).setCell ⟨gb117, 1, none⟩ (.int .i64 ((rd_T96 l0_2 x26_2).f1))).setCell ⟨gb117, 2, none⟩ (.int .i64 ((rd_T96 l0_2 x26_2).f2))).setCell ⟨gb117, 3, none⟩ (.int .i64 ((rd_T96 l0_2 x26_2).f3))).heap[gb112]? = some (.cells #[.int .i64 a0_0, .int .i64 a0_1, .slice (some ad116) l0_2.length c0_2] 46 (0, 0))) := ⟨by refine blk_far ?_ NB112_117.out _; refine blk_far ?_ NB112_117.out _; refine blk_far ?_ NB112_117.out _; refine blk_far ?_ NB112_117.out _; exact BK112.out⟩
           have n1_ : Aside0 (((((w17.setCell ⟨gb117, 0, none⟩ (.string ((rd_T96 l0_2 x26_2).f0))).setCell ⟨gb117, 1, none⟩ (.int .i64 ((rd_T96 l0_2 x26_2).f1))).setCell ⟨gb117, 2, none⟩ (.int .i64 ((rd_T96 l0_2 x26_2).f2))).setCell ⟨gb117, 3, none⟩ (.int .i64 ((rd_T96 l0_2 x26_2).f3))).heap[gb117]? = some (.cells #[.string ((rd_T96 l0_2 x26_2).f0), .int .i64 ((rd_T96 l0_2 x26_2).f1), .int .i64 ((rd_T96 l0_2 x26_2).f2), .int .i64 ((rd_T96 l0_2 x26_2).f3)] 96 (0, 0))) := ⟨by refine blk_put (cs := #[.string ((rd_T96 l0_2 x26_2).f0), .int .i64 ((rd_T96 l0_2 x26_2).f1), .int .i64 ((rd_T96 l0_2 x26_2).f2), .int .i64 0]) ?_ 3 _ rfl; refine blk_put (cs := #[.string ((rd_T96 l0_2 x26_2).f0), .int .i64 ((rd_T96 l0_2 x26_2).f1), .int .i64 0, .int .i64 0]) ?_ 2 _ rfl; refine blk_put (cs := #[.string ((rd_T96 l0_2 x26_2).f0), .int .i64 0, .int .i64 0, .int .i64 0]) ?_ 1 _ rfl; refine blk_put (cs := #[.string (⟨#[]⟩ : ByteArray), .int .i64 0, .int .i64 0, .int .i64 0]) ?_ 0 _ rfl; exact BK117.out⟩
           have n2_ : Aside0 (Below w.heap.size w ((((w17.setCell ⟨gb117, 0, none⟩ (.string ((rd_T96 l0_2 x26_2).f0))).setCell ⟨gb117, 1, none⟩ (.int .i64 ((rd_T96 l0_2 x26_2).f1))).setCell ⟨gb117, 2, none⟩ (.int .i64 ((rd_T96 l0_2 x26_2).f2))).setCell ⟨gb117, 3, none⟩ (.int .i64 ((rd_T96 l0_2 x26_2).f3)))) := ⟨by repeat (first | (with_reducible first | exact HB.out | apply below_alloc | apply pw_below_drewN | apply below_drew1 | refine below_set ?_ GE112.out | refine below_set ?_ GE117.out) | exact HB.out)⟩
           (try clear BK112)
           (try clear BK117)
           (try clear HB)
           generalize ((((w17.setCell ⟨gb117, 0, none⟩ (.string ((rd_T96 l0_2 x26_2).f0))).setCell ⟨gb117, 1, none⟩ (.int .i64 ((rd_T96 l0_2 x26_2).f1))).setCell ⟨gb117, 2, none⟩ (.int .i64 ((rd_T96 l0_2 x26_2).f2))).setCell ⟨gb117, 3, none⟩ (.int .i64 ((rd_T96 l0_2 x26_2).f3))) = w42 at n0_ n1_ n2_ ⊢
           have BK112 := n0_
           have BK117 := n1_
           have HB := n2_
           clear n0_ n1_ n2_
           have n0_ := Aside0.mk (blk_drew BK112.out)
           have n1_ := Aside0.mk (blk_drew BK117.out)
           have n2_ := Aside0.mk (below_drew1 HB.out)
           clear BK112
           clear BK117
           clear HB
           have BK112 := n0_
           have BK117 := n1_
           have HB := n2_
           clear n0_ n1_ n2_
           refine start_ (n := 40) (S := fun w' => w'.cell? ⟨gb117, 0, none⟩ = some (.string ((rd_T96 l0_2 x26_2).f0)) ∧ w'.cell? ⟨gb117, 1, none⟩ = some (.int .i64 ((rd_T96 l0_2 x26_2).f1)) ∧ w'.cell? ⟨gb117, 2, none⟩ = some (.int .i64 ((rd_T96 l0_2 x26_2).f2)) ∧ w'.cell? ⟨gb117, 3, none⟩ = some (.int .i64 ((rd_T96 l0_2 x26_2).f3))) (ds := []) #[false, false, false, false, false, false, false, false, false, false, false, false, false, false, false, false, false, false, false, false, false, false, false, false, false, false, false, false, false, false, false, false, false, false, false, false, false, false, false, false] (by kernel_rfl) rfl rfl ⟨(blk_cell BK117.out 0).trans rfl, (blk_cell BK117.out 1).trans rfl, (blk_cell BK117.out 2).trans rfl, (blk_cell BK117.out 3).trans rfl⟩ (fun hHeld => ?_); refine with_tabW spec_GoodStore.tab6 spec_GoodStore.bits6 (fun HT_ HW_ => ?_)
           generalize w42.drew = w43 at BK112 BK117 HB hHeld ⊢
           refine pure_ (i := 0) (N := some 31) (v := ?_) (a' := ?_) (bz2 40 1) rfl rfl (any_of HT_.out (by kernel_rfl)) (fun _ _ _ h => h) (Or.inl ⟨by rfl, ?_⟩) ?_ ?_
           rotate_left
           ·intro w'
            go_simp
            with_reducible rfl
           rotate_left
           ·simp only [Act.put, List.setIfInBounds_toArray, List.set_cons_zero, List.set_cons_succ, i64_w, i32_w]
            rfl
           refine take_ (i := 1) (N := some 32) (v := ?_) (a' := ?_) (bz2 40 3) rfl rfl (take_ofW HT_.out HW_.out (by kernel_rfl)) (fun _ _ _ h => h) (Or.inl ⟨by rfl, ?_⟩) hHeld ?_ ?_
           rotate_left
           ·rintro w' ⟨s0, s1, s2, s3⟩
            go_simp
            with_reducible rfl
           rotate_left
           ·simp only [Act.put, List.setIfInBounds_toArray, List.set_cons_zero, List.set_cons_succ, i64_w, i32_w]
            rfl
           refine one_ (i := 2) (N := some 33) (bz2 40 7) rfl rfl (one_of HT_.out (by kernel_rfl)) (by decide) (fun K hK => ?_)
           refine goes_ Try.func53 (by kernel_rfl) rfl #[.string ((rd_T96 l0_2 x26_2).f0)] (by rfl) rfl rfl (by (try simp only [List.map_toArray, List.map_cons, List.map_nil]); first | done | rfl | (simp only [List.length_drop, List.length_take]; rfl)) ?_
           with_reducible refine (spec_GoodName.calls k2 ((rd_T96 l0_2 x26_2).f0) false _ A20.out).mono ?_
           rintro e w' ⟨rfl, ⟨nd, rfl⟩⟩
           refine ⟨_, rfl, ?_⟩
           refine hK.out _ _ ⟨(blk_cell BK117.out 0).trans rfl, (blk_cell BK117.out 1).trans rfl, (blk_cell BK117.out 2).trans rfl, (blk_cell BK117.out 3).trans rfl⟩ (fun hHeld => ?_)
           clear hK K
           refine norm_ (a' := ?_) ?_ ?_
           rotate_left
           ·show Act.put _ (some 33) _ = _
            simp only [Act.put, List.setIfInBounds_toArray, List.set_cons_zero, List.set_cons_succ, i64_w, i32_w]
            rfl
           refine pure_ (i := 3) (N := some 34) (v := ?_) (a' := ?_) (bz2 40 15) rfl rfl (any_of HT_.out (by kernel_rfl)) (fun _ _ _ h => h) (Or.inl ⟨by rfl, ?_⟩) ?_ ?_
           rotate_left
           ·intro w'
            go_simp
            with_reducible rfl
           rotate_left
           ·simp only [Act.put, List.setIfInBounds_toArray, List.set_cons_zero, List.set_cons_succ, i64_w, i32_w]
            rfl
           refine pure_ (i := 4) (N := some 35) (v := ?_) (a' := ?_) (bz2 40 31) rfl rfl (any_of HT_.out (by kernel_rfl)) (fun _ _ _ h => h) (Or.inl ⟨by rfl, ?_⟩) ?_ ?_
           rotate_left
           ·intro w'
            go_simp
            with_reducible rfl
           rotate_left
           ·simp only [Act.put, List.setIfInBounds_toArray, List.set_cons_zero, List.set_cons_succ, i64_w, i32_w]
            rfl
           refine pure_ (i := 5) (N := some 36) (v := undef) (a' := ?_) (bz2 40 63) rfl rfl (any_of HT_.out (by kernel_rfl)) (fun _ _ _ h => h) (Or.inr ⟨by rfl, rfl⟩) ?_ ?_
           rotate_left
           ·simp only [Act.put, List.setIfInBounds_toArray, List.set_cons_zero, List.set_cons_succ, i64_w, i32_w]
            rfl
           refine pure_ (i := 6) (N := some 37) (v := undef) (a' := ?_) (bz2 40 127) rfl rfl (any_of HT_.out (by kernel_rfl)) (fun _ _ _ h => h) (Or.inr ⟨by rfl, rfl⟩) ?_ ?_
           rotate_left
           ·simp only [Act.put, List.setIfInBounds_toArray, List.set_cons_zero, List.set_cons_succ, i64_w, i32_w]
            rfl
           refine pure_ (i := 7) (N := some 38) (v := undef) (a' := ?_) (bz2 40 255) rfl rfl (any_of HT_.out (by kernel_rfl)) (fun _ _ _ h => h) (Or.inr ⟨by rfl, rfl⟩) ?_ ?_
           rotate_left
           ·simp only [Act.put, List.setIfInBounds_toArray, List.set_cons_zero, List.set_cons_succ, i64_w, i32_w]
            rfl
           refine pure_ (i := 8) (N := some 39) (v := undef) (a' := ?_) (bz2 40 511) rfl rfl (any_of HT_.out (by kernel_rfl)) (fun _ _ _ h => h) (Or.inr ⟨by rfl, rfl⟩) ?_ ?_
           rotate_left
           ·simp only [Act.put, List.setIfInBounds_toArray, List.set_cons_zero, List.set_cons_succ, i64_w, i32_w]
            rfl
           refine pure_ (i := 9) (N := some 40) (v := ?_) (a' := ?_) (bz2 40 1023) rfl rfl (any_of HT_.out (by kernel_rfl)) (fun _ _ _ h => h) (Or.inl ⟨by rfl, ?_⟩) ?_ ?_
           rotate_left
           ·intro w'
            go_simp
            with_reducible rfl
           rotate_left
           ·simp only [Act.put, List.setIfInBounds_toArray, List.set_cons_zero, List.set_cons_succ, i64_w, i32_w]
            rfl
           refine pure_ (i := 10) (N := some 41) (v := ?_) (a' := ?_) (bz2 40 2047) rfl rfl (any_of HT_.out (by kernel_rfl)) (fun _ _ _ h => h) (Or.inl ⟨by rfl, ?_⟩) ?_ ?_
           rotate_left
           ·intro w'
            go_simp
            with_reducible rfl
           rotate_left
           ·simp only [Act.put, List.setIfInBounds_toArray, List.set_cons_zero, List.set_cons_succ, i64_w, i32_w]
            rfl
           refine pure_ (i := 11) (N := some 42) (v := undef) (a' := ?_) (bz2 40 4095) rfl rfl (any_of HT_.out (by kernel_rfl)) (fun _ _ _ h => h) (Or.inr ⟨by rfl, rfl⟩) ?_ ?_
           rotate_left
           ·simp only [Act.put, List.setIfInBounds_toArray, List.set_cons_zero, List.set_cons_succ, i64_w, i32_w]
            rfl
           refine pure_ (i := 12) (N := some 43) (v := undef) (a' := ?_) (bz2 40 8191) rfl rfl (any_of HT_.out (by kernel_rfl)) (fun _ _ _ h => h) (Or.inr ⟨by rfl, rfl⟩) ?_ ?_
           rotate_left
           ·simp only [Act.put, List.setIfInBounds_toArray, List.set_cons_zero, List.set_cons_succ, i64_w, i32_w]
            rfl
           refine pure_ (i := 13) (N := some 44) (v := undef) (a' := ?_) (bz2 40 16383) rfl rfl (any_of HT_.out (by kernel_rfl)) (fun _ _ _ h => h) (Or.inr ⟨by rfl, rfl⟩) ?_ ?_
           rotate_left
           ·simp only [Act.put, List.setIfInBounds_toArray, List.set_cons_zero, List.set_cons_succ, i64_w, i32_w]
            rfl
           refine pure_ (i := 14) (N := some 45) (v := undef) (a' := ?_) (bz2 40 32767) rfl rfl (any_of HT_.out (by kernel_rfl)) (fun _ _ _ h => h) (Or.inr ⟨by rfl, rfl⟩) ?_ ?_
           rotate_left
           ·simp only [Act.put, List.setIfInBounds_toArray, List.set_cons_zero, List.set_cons_succ, i64_w, i32_w]
            rfl
           refine pure_ (i := 15) (N := some 46) (v := ?_) (a' := ?_) (bz2 40 65535) rfl rfl (any_of HT_.out (by kernel_rfl)) (fun _ _ _ h => h) (Or.inl ⟨by rfl, ?_⟩) ?_ ?_
           rotate_left
           ·intro w'
            go_simp
            with_reducible rfl
           rotate_left
           ·simp only [Act.put, List.setIfInBounds_toArray, List.set_cons_zero, List.set_cons_succ, i64_w, i32_w]
            rfl
           refine pure_ (i := 16) (N := some 47) (v := ?_) (a' := ?_) (bz2 40 131071) rfl rfl (any_of HT_.out (by kernel_rfl)) (fun _ _ _ h => h) (Or.inl ⟨by rfl, ?_⟩) ?_ ?_
           rotate_left
           ·intro w'
            go_simp
            with_reducible rfl
           rotate_left
           ·simp only [Act.put, List.setIfInBounds_toArray, List.set_cons_zero, List.set_cons_succ, i64_w, i32_w]
            rfl
           refine pure_ (i := 17) (N := some 48) (v := undef) (a' := ?_) (bz2 40 262143) rfl rfl (any_of HT_.out (by kernel_rfl)) (fun _ _ _ h => h) (Or.inr ⟨by rfl, rfl⟩) ?_ ?_
           rotate_left
           ·simp only [Act.put, List.setIfInBounds_toArray, List.set_cons_zero, List.set_cons_succ, i64_w, i32_w]
            rfl
           refine pure_ (i := 18) (N := some 49) (v := undef) (a' := ?_) (bz2 40 524287) rfl rfl (any_of HT_.out (by kernel_rfl)) (fun _ _ _ h => h) (Or.inr ⟨by rfl, rfl⟩) ?_ ?_
           rotate_left
           ·simp only [Act.put, List.setIfInBounds_toArray, List.set_cons_zero, List.set_cons_succ, i64_w, i32_w]
            rfl
           refine pure_ (i := 19) (N := some 50) (v := undef) (a' := ?_) (bz2 40 1048575) rfl rfl (any_of HT_.out (by kernel_rfl)) (fun _ _ _ h => h) (Or.inr ⟨by rfl, rfl⟩) ?_ ?_
           rotate_left
           ·simp only [Act.put, List.setIfInBounds_toArray, List.set_cons_zero, List.set_cons_succ, i64_w, i32_w]
            rfl
           refine pure_ (i := 20) (N := some 51) (v := undef) (a' := ?_) (bz2 40 2097151) rfl rfl (any_of HT_.out (by kernel_rfl)) (fun _ _ _ h => h) (Or.inr ⟨by rfl, rfl⟩) ?_ ?_
           rotate_left
           ·simp only [Act.put, List.setIfInBounds_toArray, List.set_cons_zero, List.set_cons_succ, i64_w, i32_w]
            rfl
           refine pure_ (i := 21) (N := some 52) (v := undef) (a' := ?_) (bz2 40 4194303) rfl rfl (any_of HT_.out (by kernel_rfl)) (fun _ _ _ h => h) (Or.inr ⟨by rfl, rfl⟩) ?_ ?_
           rotate_left
           ·simp only [Act.put, List.setIfInBounds_toArray, List.set_cons_zero, List.set_cons_succ, i64_w, i32_w]
            rfl
           refine pure_ (i := 22) (N := some 53) (v := undef) (a' := ?_) (bz2 40 8388607) rfl rfl (any_of HT_.out (by kernel_rfl)) (fun _ _ _ h => h) (Or.inr ⟨by rfl, rfl⟩) ?_ ?_
           rotate_left
           ·simp only [Act.put, List.setIfInBounds_toArray, List.set_cons_zero, List.set_cons_succ, i64_w, i32_w]
            rfl
           refine pure_ (i := 23) (N := some 54) (v := ?_) (a' := ?_) (bz2 40 16777215) rfl rfl (any_of HT_.out (by kernel_rfl)) (fun _ _ _ h => h) (Or.inl ⟨by rfl, ?_⟩) ?_ ?_
           rotate_left
           ·intro w'
            go_simp
            with_reducible rfl
           rotate_left
           ·simp only [Act.put, List.setIfInBounds_toArray, List.set_cons_zero, List.set_cons_succ, i64_w, i32_w]
            rfl
           refine pure_ (i := 24) (N := some 55) (v := ?_) (a' := ?_) (bz2 40 33554431) rfl rfl (any_of HT_.out (by kernel_rfl)) (fun _ _ _ h => h) (Or.inl ⟨by rfl, ?_⟩) ?_ ?_
           rotate_left
           ·intro w'
            go_simp
            with_reducible rfl
           rotate_left
           ·simp only [Act.put, List.setIfInBounds_toArray, List.set_cons_zero, List.set_cons_succ, i64_w, i32_w]
            rfl
           refine pure_ (i := 25) (N := some 56) (v := undef) (a' := ?_) (bz2 40 67108863) rfl rfl (any_of HT_.out (by kernel_rfl)) (fun _ _ _ h => h) (Or.inr ⟨by rfl, rfl⟩) ?_ ?_
           rotate_left
           ·simp only [Act.put, List.setIfInBounds_toArray, List.set_cons_zero, List.set_cons_succ, i64_w, i32_w]
            rfl
           refine pure_ (i := 26) (N := some 57) (v := undef) (a' := ?_) (bz2 40 134217727) rfl rfl (any_of HT_.out (by kernel_rfl)) (fun _ _ _ h => h) (Or.inr ⟨by rfl, rfl⟩) ?_ ?_
           rotate_left
           ·simp only [Act.put, List.setIfInBounds_toArray, List.set_cons_zero, List.set_cons_succ, i64_w, i32_w]
            rfl
           refine pure_ (i := 27) (N := some 58) (v := undef) (a' := ?_) (bz2 40 268435455) rfl rfl (any_of HT_.out (by kernel_rfl)) (fun _ _ _ h => h) (Or.inr ⟨by rfl, rfl⟩) ?_ ?_
           rotate_left
           ·simp only [Act.put, List.setIfInBounds_toArray, List.set_cons_zero, List.set_cons_succ, i64_w, i32_w]
            rfl
           refine pure_ (i := 28) (N := some 59) (v := undef) (a' := ?_) (bz2 40 536870911) rfl rfl (any_of HT_.out (by kernel_rfl)) (fun _ _ _ h => h) (Or.inr ⟨by rfl, rfl⟩) ?_ ?_
           rotate_left
           ·simp only [Act.put, List.setIfInBounds_toArray, List.set_cons_zero, List.set_cons_succ, i64_w, i32_w]
            rfl
           refine pure_ (i := 29) (N := some 60) (v := undef) (a' := ?_) (bz2 40 1073741823) rfl rfl (any_of HT_.out (by kernel_rfl)) (fun _ _ _ h => h) (Or.inr ⟨by rfl, rfl⟩) ?_ ?_
           rotate_left
           ·simp only [Act.put, List.setIfInBounds_toArray, List.set_cons_zero, List.set_cons_succ, i64_w, i32_w]
            rfl
           refine pure_ (i := 30) (N := some 61) (v := undef) (a' := ?_) (bz2 40 2147483647) rfl rfl (any_of HT_.out (by kernel_rfl)) (fun _ _ _ h => h) (Or.inr ⟨by rfl, rfl⟩) ?_ ?_
           rotate_left
           ·simp only [Act.put, List.setIfInBounds_toArray, List.set_cons_zero, List.set_cons_succ, i64_w, i32_w]
            rfl
           refine pure_ (i := 31) (N := some 62) (v := undef) (a' := ?_) (bz2 40 4294967295) rfl rfl (any_of HT_.out (by kernel_rfl)) (fun _ _ _ h => h) (Or.inr ⟨by rfl, rfl⟩) ?_ ?_
           rotate_left
           ·simp only [Act.put, List.setIfInBounds_toArray, List.set_cons_zero, List.set_cons_succ, i64_w, i32_w]
            rfl
           refine pure_ (i := 32) (N := some 63) (v := undef) (a' := ?_) (bz2 40 8589934591) rfl rfl (any_of HT_.out (by kernel_rfl)) (fun _ _ _ h => h) (Or.inr ⟨by rfl, rfl⟩) ?_ ?_
           rotate_left
           ·simp only [Act.put, List.setIfInBounds_toArray, List.set_cons_zero, List.set_cons_succ, i64_w, i32_w]
            rfl
           refine pure_ (i := 33) (N := some 64) (v := undef) (a' := ?_) (bz2 40 17179869183) rfl rfl (any_of HT_.out (by kernel_rfl)) (fun _ _ _ h => h) (Or.inr ⟨by rfl, rfl⟩) ?_ ?_
           rotate_left
           ·simp only [Act.put, List.setIfInBounds_toArray, List.set_cons_zero, List.set_cons_succ, i64_w, i32_w]
            rfl
           refine pure_ (i := 34) (N := some 65) (v := undef) (a' := ?_) (bz2 40 34359738367) rfl rfl (any_of HT_.out (by kernel_rfl)) (fun _ _ _ h => h) (Or.inr ⟨by rfl, rfl⟩) ?_ ?_
           rotate_left
           ·simp only [Act.put, List.setIfInBounds_toArray, List.set_cons_zero, List.set_cons_succ, i64_w, i32_w]
            rfl
           refine pure_ (i := 35) (N := some 66) (v := undef) (a' := ?_) (bz2 40 68719476735) rfl rfl (any_of HT_.out (by kernel_rfl)) (fun _ _ _ h => h) (Or.inr ⟨by rfl, rfl⟩) ?_ ?_
           rotate_left
           ·simp only [Act.put, List.setIfInBounds_toArray, List.set_cons_zero, List.set_cons_succ, i64_w, i32_w]
            rfl
           refine pure_ (i := 36) (N := some 67) (v := undef) (a' := ?_) (bz2 40 137438953471) rfl rfl (any_of HT_.out (by kernel_rfl)) (fun _ _ _ h => h) (Or.inr ⟨by rfl, rfl⟩) ?_ ?_
           rotate_left
           ·simp only [Act.put, List.setIfInBounds_toArray, List.set_cons_zero, List.set_cons_succ, i64_w, i32_w]
            rfl
           refine pure_ (i := 37) (N := some 68) (v := undef) (a' := ?_) (bz2 40 274877906943) rfl rfl (any_of HT_.out (by kernel_rfl)) (fun _ _ _ h => h) (Or.inr ⟨by rfl, rfl⟩) ?_ ?_
           rotate_left
           ·simp only [Act.put, List.setIfInBounds_toArray, List.set_cons_zero, List.set_cons_succ, i64_w, i32_w]
            rfl
           refine pure_ (i := 38) (N := some 69) (v := undef) (a' := ?_) (bz2 40 549755813887) rfl rfl (any_of HT_.out (by kernel_rfl)) (fun _ _ _ h => h) (Or.inr ⟨by rfl, rfl⟩) ?_ ?_
           rotate_left
           ·simp only [Act.put, List.setIfInBounds_toArray, List.set_cons_zero, List.set_cons_succ, i64_w, i32_w]
            rfl
           refine pure_ (i := 39) (N := some 70) (v := ?_) (a' := ?_) (bz2 40 1099511627775) rfl rfl (any_of HT_.out (by kernel_rfl)) (fun _ _ _ h => h) (Or.inl ⟨by rfl, ?_⟩) ?_ ?_
           rotate_left
           ·intro w'
            go_simp
            with_reducible rfl
           rotate_left
           ·simp only [Act.put, List.setIfInBounds_toArray, List.set_cons_zero, List.set_cons_succ, i64_w, i32_w]
            rfl
           refine done_ (done_of HT_.out (by kernel_rfl)) ?_
           try go_wp2
           go_meet
           case rel => exact ⟨_, (true), (by first | rfl | (simp; done) | (simp [*]; done)), H', ⟨by have := HJ1.out; have := HK2.out; first | omega | exact Nat.le_refl _⟩, ⟨by exact BK112.out⟩, ⟨by exact BK117.out⟩, ⟨by repeat (first | (with_reducible first | exact HB.out | apply below_alloc | apply pw_below_drewN | apply below_drew1 | refine below_set ?_ GE112.out | refine below_set ?_ GE117.out) | exact HB.out)⟩⟩
         case rest =>
          clear HC16
          try clear c2
          try clear p2
          try clear c5
          try clear c7
          try clear c21
          try clear c23
          obtain ⟨kq, x70_15, rfl, HA, HJ15, BK112, BK117, HB⟩ := hcut
          cases kq with
          | zero => exact absurd HA.out (by simp [spec_GoodStore.j2])
          | succ kj15 =>
           have H := HA.out
           clear HA
           simp only [spec_GoodStore.j2] at H
           by_cases c44 : x70_15 = true
           ·subst c44
            have H1 : (some false) = some r := by rw [if_pos rfl] at H; exact H
            clear H
            have H := H1
            clear H1
            obtain rfl := Option.some.inj H
            go_wp2
            go_ret
            exact ⟨by first | rfl | (simp [errW_none, errW_some] <;> rfl) | (simp [*, errW_none, errW_some] <;> rfl), by repeat (first | (with_reducible first | exact HB.out | apply below_alloc | apply pw_below_drewN | apply below_drew1 | refine below_set ?_ GE112.out | refine below_set ?_ GE117.out) | exact HB.out)⟩
           ·replace c44 := Bool.eq_false_iff.mpr c44
            subst c44
            have H1 : (if 0 ≤ x26_2 then (if x26_2 ≤ (l0_2.length : Int) then ((some (l0_2.take (x26_2 : Int).toNat : List (S96))).bind fun y123 => (spec_GoodStore.l1 kj15 l0_2 (l0_2.length : Int) x26_2 y123 (y123.length : Int) 0 a0_0 a0_1 l0_2 ((rd_T96 l0_2 x26_2).f0) ((rd_T96 l0_2 x26_2).f1) ((rd_T96 l0_2 x26_2).f2) ((rd_T96 l0_2 x26_2).f3))) else (none)) else (none)) = some r := by rw [if_neg (show ¬ (false = true) by decide)] at H; exact H
            clear H
            have H := H1
            clear H1
            by_cases c45 : 0 ≤ x26_2
            ·rw [if_pos c45] at H
             have c45b0 := eq_true c45
             have c45b1 : decide (0 ≤ x26_2) = true := decide_eq_true c45
             clear c45
             by_cases c46 : x26_2 ≤ (l0_2.length : Int)
             ·rw [if_pos c46] at H
              have c46b0 := eq_true c46
              have c46b1 : decide (x26_2 ≤ (l0_2.length : Int)) = true := decide_eq_true c46
              clear c46
              obtain ⟨y123, hy123⟩ : ∃ y_ : List (S96), y_ = (l0_2.take (x26_2 : Int).toNat) := ⟨_, rfl⟩
              replace H : (spec_GoodStore.l1 kj15 l0_2 (l0_2.length : Int) x26_2 y123 (y123.length : Int) 0 a0_0 a0_1 l0_2 ((rd_T96 l0_2 x26_2).f0) ((rd_T96 l0_2 x26_2).f1) ((rd_T96 l0_2 x26_2).f2) ((rd_T96 l0_2 x26_2).f3)) = some r := by first | (rw [hy123]; with_reducible exact H) | (have H2_ := (Option.bind_some _ _).symm.trans H; rw [hy123]; with_reducible exact H2_) | (have H2_ := (Option.bind_some _ _).symm.trans H; with_reducible exact H2_) | with_reducible exact H | (rw [hy123]; exact H) | exact H
              have Ny123 := Aside0.mk hy123
              clear hy123
              have H' := Aside0.mk H
              clear H
              have hnb47 := NB112_117.out
              have hnc47 := NB117_112.out
              have hcz48_0 : wc.cell? ⟨gb112, 0, none⟩ = some (.int .i64 a0_0) := (blk_cell BK112.out 0).trans rfl
              have hcz48_1 : wc.cell? ⟨gb112, 1, none⟩ = some (.int .i64 a0_1) := (blk_cell BK112.out 1).trans rfl
              have hcz48_2 : wc.cell? ⟨gb112, 2, none⟩ = some (.slice (some ad116) l0_2.length c0_2) := (blk_cell BK112.out 2).trans rfl
              have hfz48_0 := blk_frozen BK112.out 0
              have hfz48_1 := blk_frozen BK112.out 1
              have hfz48_2 := blk_frozen BK112.out 2
              have q49 : (x26_2 : Int) ≤ ((l0_2.length : Int) : Int) := of_decide_eq_true (by first | (with_reducible assumption) | assumption)
              obtain ⟨i049, hi049, _, hsz49, _⟩ := info_parts info96
              have hroom49 : l0_2.length ≤ c0_2 := HC0_2.out
              have hC49 : Kd.C k96 _ (some ad116) l0_2.length l0_2 := HR0_2.out
              have hcut49 := cut_to (P := Try.prog) 44 96 .i64 Try.underlying44 hi049 (some ad116) l0_2.length c0_2 x26_2 (of_decide_eq_true (by first | (with_reducible assumption) | assumption)) q49 hroom49
              have hr49 := Kd.C_take (m := (x26_2 : Int).toNat) hC49 (by omega)
              have hy49 : y123.length = (x26_2 : Int).toNat := (by rw [Ny123.out, List.length_take]; omega)
              rw [← Ny123.out] at hr49
              rw [← hy49] at hcut49
              have HR126 := Aside0.mk hr49
              have HC126 := Aside0.mk (show y123.length ≤ c0_2 from by omega)
              clear hr49 hC49 hroom49 hi049 hsz49
              have KY49 := Aside0.mk hy49
              clear hy49
              replace q49 := eq_true q49
              go_wp2
              go_loopg [76] kj15 (fun kq v76 w' => ∃ (x76_4 : Int), v76 = .int .i64 x76_4 ∧ Aside0 (spec_GoodStore.l1 kq l0_2 (l0_2.length : Int) x26_2 y123 (y123.length : Int) x76_4 a0_0 a0_1 l0_2 ((rd_T96 l0_2 x26_2).f0) ((rd_T96 l0_2 x26_2).f1) ((rd_T96 l0_2 x26_2).f2) ((rd_T96 l0_2 x26_2).f3) = some r) ∧ Aside0 (kq ≤ kj15) ∧ Aside0 (w'.heap[gb112]? = some (.cells #[.int .i64 a0_0, .int .i64 a0_1, (.slice (some ad116) l0_2.length c0_2)] 46 (0, 0))) ∧ Aside0 (w'.heap[gb117]? = some (.cells #[.string ((rd_T96 l0_2 x26_2).f0), .int .i64 ((rd_T96 l0_2 x26_2).f1), .int .i64 ((rd_T96 l0_2 x26_2).f2), .int .i64 ((rd_T96 l0_2 x26_2).f3)] 96 (0, 0))) ∧ Aside0 (Below w.heap.size w w'))
              case atStart => exact ⟨(0), (by first | rfl | (simp; done) | (simp [*]; done)), H', ⟨Nat.le_refl _⟩, ⟨by exact BK112.out⟩, ⟨by exact BK117.out⟩, ⟨by repeat (first | (with_reducible first | exact HB.out | apply below_alloc | apply pw_below_drewN | apply below_drew1 | refine below_set ?_ GE112.out | refine below_set ?_ GE117.out) | exact HB.out)⟩⟩
              case round =>
               clear H'
               try clear c2
               try clear p2
               try clear c4
               try clear q4
               try clear c5
               try clear c7
               try clear c21
               try clear c23
               try clear c44
               try clear c45
               try clear c45b0
               try clear c45b1
               try clear c46
               try clear c46b0
               try clear c46b1
               try clear c47
               try clear q49
               try clear hcz48_0
               try clear hcz48_1
               try clear hcz48_2
               try clear hfz48_0
               try clear hfz48_1
               try clear hfz48_2
               try clear p2
               try clear q49
               obtain ⟨x76_4, rfl, HA, HK4, BK112, BK117, HB⟩ := hrel
               cases gk with
               | zero => exact absurd HA.out (by simp [spec_GoodStore.l1])
               | succ k4 =>
                have H := HA.out
                clear HA
                simp only [spec_GoodStore.l1] at H
                by_cases c50 : x76_4 < (y123.length : Int)
                ·rw [if_pos c50] at H
                 have c50b0 : decide (x76_4 < (y123.length : Int)) = true := decide_eq_true c50
                 clear c50
                 by_cases c51 : 0 ≤ x76_4
                 ·rw [if_pos c51] at H
                  have c51b0 : decide (0 ≤ x76_4) = true := decide_eq_true c51
                  clear c51
                  by_cases c52 : x76_4 < (y123.length : Int)
                  ·rw [if_pos c52] at H
                   have c52b0 : decide (x76_4 < (y123.length : Int)) = true := decide_eq_true c52
                   clear c52
                   by_cases c53 : ((rd_T96 l0_2 x26_2).f3) > 0
                   ·rw [if_pos c53] at H
                    have c53b0 : decide (0 < ((rd_T96 l0_2 x26_2).f3)) = true := decide_eq_true c53
                    clear c53
                    by_cases c54 : ((rd_T96 y123 x76_4).f3) = ((rd_T96 l0_2 x26_2).f3)
                    ·rw [if_pos c54] at H
                     have c54b0 : (((rd_T96 y123 x76_4).f3) == ((rd_T96 l0_2 x26_2).f3)) = true := beq_iff_eq.mpr c54
                     have c54b1 : (((rd_T96 y123 x76_4).f3) != ((rd_T96 l0_2 x26_2).f3)) = false := bne_eq_false_iff_eq.mpr c54
                     clear c54
                     obtain rfl := Option.some.inj H
                     have p127 : 0 ≤ (x76_4 : Int) := of_decide_eq_true (by first | (with_reducible assumption) | assumption)
                     have q127 : x76_4 < (y123.length : Int) := of_decide_eq_true (by first | (with_reducible assumption) | assumption)
                     obtain ⟨ad127, e127, hx127_0, hx127_1, hx127_2, hx127_3⟩ := at_T96 HR126.out x76_4 p127 q127
                     obtain rfl : ad116 = ad127 := (by injection e127)
                     replace hx127_0 := (HB.out.cell (World.block_lt_of_cell? w _ hx127_0)).trans hx127_0
                     replace hx127_1 := (HB.out.cell (World.block_lt_of_cell? w _ hx127_1)).trans hx127_1
                     replace hx127_2 := (HB.out.cell (World.block_lt_of_cell? w _ hx127_2)).trans hx127_2
                     replace hx127_3 := (HB.out.cell (World.block_lt_of_cell? w _ hx127_3)).trans hx127_3
                     replace p127 := eq_true p127
                     replace q127 := eq_true q127
                     go_wp2_with (first | ((with_reducible refine gate_dst (N := 6) rfl ?_); (try (refine gate_guard (by rfl) ?_; dsimp only)); refine box_event ?hg (N := 6) ?hd (cs := #[.string (⟨#[]⟩ : ByteArray), .int .i64 0, .int .i64 0, .int .i64 0]) (t := 96) ?hr ?_; (case hd => rfl); (case hg => rfl); (case hr => first | (go_simp; done) | (go_simp; rfl)); intro gb128 hg w55 hbox hb; have n0_ := Aside0.mk (blk_below (g := gb112) (o := .cells #[.int .i64 a0_0, .int .i64 a0_1, .slice (some ad116) l0_2.length c0_2] 46 (0, 0)) (by exact BK112.out) hb); have n1_ := Aside0.mk (blk_below (g := gb117) (o := .cells #[.string ((rd_T96 l0_2 x26_2).f0), .int .i64 ((rd_T96 l0_2 x26_2).f1), .int .i64 ((rd_T96 l0_2 x26_2).f2), .int .i64 ((rd_T96 l0_2 x26_2).f3)] 96 (0, 0)) (by exact BK117.out) hb); have n2_ := Aside0.mk (below_step (by repeat (first | (with_reducible first | exact HB.out | apply below_alloc | apply pw_below_drewN | apply below_drew1 | refine below_set ?_ GE112.out | refine below_set ?_ GE117.out) | exact HB.out)) hb); have n3_ := Aside0.mk (hbox); have n4_ := Aside0.mk ((by rw [hg]; exact (below_size (by repeat (first | (with_reducible first | exact HB.out | apply below_alloc | apply pw_below_drewN | apply below_drew1 | refine below_set ?_ GE112.out | refine below_set ?_ GE117.out) | exact HB.out))) : w.heap.size ≤ gb128)); have n5_ := Aside0.mk ((by rw [hg]; exact (below_size (by repeat (first | (with_reducible first | exact HB.out | apply below_alloc | apply pw_below_drewN | apply below_drew1 | refine below_set ?_ GE112.out | refine below_set ?_ GE117.out) | exact HB.out))) : w.heap.size ≤ gb128)); have n6_ := Aside0.mk ((by rw [hg]; exact Nat.ne_of_lt (blk_lt (g := gb112) (o := .cells #[.int .i64 a0_0, .int .i64 a0_1, .slice (some ad116) l0_2.length c0_2] 46 (0, 0)) (by exact BK112.out)) : gb112 ≠ gb128)); have n7_ := Aside0.mk ((by rw [hg]; exact Nat.ne_of_gt (blk_lt (g := gb112) (o := .cells #[.int .i64 a0_0, .int .i64 a0_1, .slice (some ad116) l0_2.length c0_2] 46 (0, 0)) (by exact BK112.out)) : gb128 ≠ gb112)); have n8_ := Aside0.mk ((by rw [hg]; exact Nat.ne_of_lt (blk_lt (g := gb117) (o := .cells #[.string ((rd_T96 l0_2 x26_2).f0), .int .i64 ((rd_T96 l0_2 x26_2).f1), .int .i64 ((rd_T96 l0_2 x26_2).f2), .int .i64 ((rd_T96 l0_2 x26_2).f3)] 96 (0, 0)) (by exact BK117.out)) : gb117 ≠ gb128)); have n9_ := Aside0.mk ((by rw [hg]; exact Nat.ne_of_gt (blk_lt (g := gb117) (o := .cells #[.string ((rd_T96 l0_2 x26_2).f0), .int .i64 ((rd_T96 l0_2 x26_2).f1), .int .i64 ((rd_T96 l0_2 x26_2).f2), .int .i64 ((rd_T96 l0_2 x26_2).f3)] 96 (0, 0)) (by exact BK117.out)) : gb128 ≠ gb117)); clear BK112; clear BK117; clear HB; have BK112 := n0_; have BK117 := n1_; have HB := n2_; have BK128 := n3_; have GW128 := n4_; have GE128 := n5_; have NB112_128 := n6_; have NB128_112 := n7_; have NB117_128 := n8_; have NB128_117 := n9_; clear n0_ n1_ n2_ n3_ n4_ n5_ n6_ n7_ n8_ n9_; clear hb hbox hg; have hnb56 := NB128_112.out; have hnc56 := NB112_128.out; have hnb57 := NB128_117.out; have hnc57 := NB117_128.out; have hcz58_0 : w55.cell? ⟨gb128, 0, none⟩ = some (.string (⟨#[]⟩ : ByteArray)) := (blk_cell BK128.out 0).trans rfl; have hcz58_1 : w55.cell? ⟨gb128, 1, none⟩ = some (.int .i64 0) := (blk_cell BK128.out 1).trans rfl; have hcz58_2 : w55.cell? ⟨gb128, 2, none⟩ = some (.int .i64 0) := (blk_cell BK128.out 2).trans rfl; have hcz58_3 : w55.cell? ⟨gb128, 3, none⟩ = some (.int .i64 0) := (blk_cell BK128.out 3).trans rfl; have hfz58_0 := blk_frozen BK128.out 0; have hfz58_1 := blk_frozen BK128.out 1; have hfz58_2 := blk_frozen BK128.out 2; have hfz58_3 := blk_frozen BK128.out 3; have hnb59 := NB117_112.out; have hnc59 := NB112_117.out; have hcz60_0 : w55.cell? ⟨gb117, 0, none⟩ = some (.string ((rd_T96 l0_2 x26_2).f0)) := (blk_cell BK117.out 0).trans rfl; have hcz60_1 : w55.cell? ⟨gb117, 1, none⟩ = some (.int .i64 ((rd_T96 l0_2 x26_2).f1)) := (blk_cell BK117.out 1).trans rfl; have hcz60_2 : w55.cell? ⟨gb117, 2, none⟩ = some (.int .i64 ((rd_T96 l0_2 x26_2).f2)) := (blk_cell BK117.out 2).trans rfl; have hcz60_3 : w55.cell? ⟨gb117, 3, none⟩ = some (.int .i64 ((rd_T96 l0_2 x26_2).f3)) := (blk_cell BK117.out 3).trans rfl; have hfz60_0 := blk_frozen BK117.out 0; have hfz60_1 := blk_frozen BK117.out 1; have hfz60_2 := blk_frozen BK117.out 2; have hfz60_3 := blk_frozen BK117.out 3))
                     go_ret
                     exact ⟨by first | rfl | (simp [errW_none, errW_some] <;> rfl) | (simp [*, errW_none, errW_some] <;> rfl), by repeat (first | (with_reducible first | exact HB.out | apply below_alloc | apply pw_below_drewN | apply below_drew1 | refine below_set ?_ GE112.out | refine below_set ?_ GE117.out | refine below_set ?_ GE128.out) | exact HB.out)⟩
                    ·rw [if_neg c54] at H
                     have c54b0 : (((rd_T96 y123 x76_4).f3) == ((rd_T96 l0_2 x26_2).f3)) = false := beq_eq_false_iff_ne.mpr c54
                     have c54b1 : (((rd_T96 y123 x76_4).f3) != ((rd_T96 l0_2 x26_2).f3)) = true := bne_iff_ne.mpr c54
                     have H' := Aside0.mk H
                     clear H
                     have p127 : 0 ≤ (x76_4 : Int) := of_decide_eq_true (by first | (with_reducible assumption) | assumption)
                     have q127 : x76_4 < (y123.length : Int) := of_decide_eq_true (by first | (with_reducible assumption) | assumption)
                     obtain ⟨ad127, e127, hx127_0, hx127_1, hx127_2, hx127_3⟩ := at_T96 HR126.out x76_4 p127 q127
                     obtain rfl : ad116 = ad127 := (by injection e127)
                     replace hx127_0 := (HB.out.cell (World.block_lt_of_cell? w _ hx127_0)).trans hx127_0
                     replace hx127_1 := (HB.out.cell (World.block_lt_of_cell? w _ hx127_1)).trans hx127_1
                     replace hx127_2 := (HB.out.cell (World.block_lt_of_cell? w _ hx127_2)).trans hx127_2
                     replace hx127_3 := (HB.out.cell (World.block_lt_of_cell? w _ hx127_3)).trans hx127_3
                     replace p127 := eq_true p127
                     replace q127 := eq_true q127
                     go_wp2_with (first | ((with_reducible refine gate_dst (N := 6) rfl ?_); (try (refine gate_guard (by rfl) ?_; dsimp only)); refine box_event ?hg (N := 6) ?hd (cs := #[.string (⟨#[]⟩ : ByteArray), .int .i64 0, .int .i64 0, .int .i64 0]) (t := 96) ?hr ?_; (case hd => rfl); (case hg => rfl); (case hr => first | (go_simp; done) | (go_simp; rfl)); intro gb128 hg w61 hbox hb; have n0_ := Aside0.mk (blk_below (g := gb112) (o := .cells #[.int .i64 a0_0, .int .i64 a0_1, .slice (some ad116) l0_2.length c0_2] 46 (0, 0)) (by exact BK112.out) hb); have n1_ := Aside0.mk (blk_below (g := gb117) (o := .cells #[.string ((rd_T96 l0_2 x26_2).f0), .int .i64 ((rd_T96 l0_2 x26_2).f1), .int .i64 ((rd_T96 l0_2 x26_2).f2), .int .i64 ((rd_T96 l0_2 x26_2).f3)] 96 (0, 0)) (by exact BK117.out) hb); have n2_ := Aside0.mk (below_step (by repeat (first | (with_reducible first | exact HB.out | apply below_alloc | apply pw_below_drewN | apply below_drew1 | refine below_set ?_ GE112.out | refine below_set ?_ GE117.out) | exact HB.out)) hb); have n3_ := Aside0.mk (hbox); have n4_ := Aside0.mk ((by rw [hg]; exact (below_size (by repeat (first | (with_reducible first | exact HB.out | apply below_alloc | apply pw_below_drewN | apply below_drew1 | refine below_set ?_ GE112.out | refine below_set ?_ GE117.out) | exact HB.out))) : w.heap.size ≤ gb128)); have n5_ := Aside0.mk ((by rw [hg]; exact (below_size (by repeat (first | (with_reducible first | exact HB.out | apply below_alloc | apply pw_below_drewN | apply below_drew1 | refine below_set ?_ GE112.out | refine below_set ?_ GE117.out) | exact HB.out))) : w.heap.size ≤ gb128)); have n6_ := Aside0.mk ((by rw [hg]; exact Nat.ne_of_lt (blk_lt (g := gb112) (o := .cells #[.int .i64 a0_0, .int .i64 a0_1, .slice (some ad116) l0_2.length c0_2] 46 (0, 0)) (by exact BK112.out)) : gb112 ≠ gb128)); have n7_ := Aside0.mk ((by rw [hg]; exact Nat.ne_of_gt (blk_lt (g := gb112) (o := .cells #[.int .i64 a0_0, .int .i64 a0_1, .slice (some ad116) l0_2.length c0_2] 46 (0, 0)) (by exact BK112.out)) : gb128 ≠ gb112)); have n8_ := Aside0.mk ((by rw [hg]; exact Nat.ne_of_lt (blk_lt (g := gb117) (o := .cells #[.string ((rd_T96 l0_2 x26_2).f0), .int .i64 ((rd_T96 l0_2 x26_2).f1), .int .i64 ((rd_T96 l0_2 x26_2).f2), .int .i64 ((rd_T96 l0_2 x26_2).f3)] 96 (0, 0)) (by exact BK117.out)) : gb117 ≠ gb128)); have n9_ := Aside0.mk ((by rw [hg]; exact Nat.ne_of_gt (blk_lt (g := gb117) (o := .cells #[.string ((rd_T96 l0_2 x26_2).f0), .int .i64 ((rd_T96 l0_2 x26_2).f1), .int .i64 ((rd_T96 l0_2 x26_2).f2), .int .i64 ((rd_T96 l0_2 x26_2).f3)] 96 (0, 0)) (by exact BK117.out)) : gb128 ≠ gb117)); clear BK112; clear BK117; clear HB; have BK112 := n0_; have BK117 := n1_; have HB := n2_; have BK128 := n3_; have GW128 := n4_; have GE128 := n5_; have NB112_128 := n6_; have NB128_112 := n7_; have NB117_128 := n8_; have NB128_117 := n9_; clear n0_ n1_ n2_ n3_ n4_ n5_ n6_ n7_ n8_ n9_; clear hb hbox hg; have hnb62 := NB128_112.out; have hnc62 := NB112_128.out; have hnb63 := NB128_117.out; have hnc63 := NB117_128.out; have hcz64_0 : w61.cell? ⟨gb128, 0, none⟩ = some (.string (⟨#[]⟩ : ByteArray)) := (blk_cell BK128.out 0).trans rfl; have hcz64_1 : w61.cell? ⟨gb128, 1, none⟩ = some (.int .i64 0) := (blk_cell BK128.out 1).trans rfl; have hcz64_2 : w61.cell? ⟨gb128, 2, none⟩ = some (.int .i64 0) := (blk_cell BK128.out 2).trans rfl; have hcz64_3 : w61.cell? ⟨gb128, 3, none⟩ = some (.int .i64 0) := (blk_cell BK128.out 3).trans rfl; have hfz64_0 := blk_frozen BK128.out 0; have hfz64_1 := blk_frozen BK128.out 1; have hfz64_2 := blk_frozen BK128.out 2; have hfz64_3 := blk_frozen BK128.out 3; have hnb65 := NB117_112.out; have hnc65 := NB112_117.out; have hcz66_0 : w61.cell? ⟨gb117, 0, none⟩ = some (.string ((rd_T96 l0_2 x26_2).f0)) := (blk_cell BK117.out 0).trans rfl; have hcz66_1 : w61.cell? ⟨gb117, 1, none⟩ = some (.int .i64 ((rd_T96 l0_2 x26_2).f1)) := (blk_cell BK117.out 1).trans rfl; have hcz66_2 : w61.cell? ⟨gb117, 2, none⟩ = some (.int .i64 ((rd_T96 l0_2 x26_2).f2)) := (blk_cell BK117.out 2).trans rfl; have hcz66_3 : w61.cell? ⟨gb117, 3, none⟩ = some (.int .i64 ((rd_T96 l0_2 x26_2).f3)) := (blk_cell BK117.out 3).trans rfl; have hfz66_0 := blk_frozen BK117.out 0; have hfz66_1 := blk_frozen BK117.out 1; have hfz66_2 := blk_frozen BK117.out 2; have hfz66_3 := blk_frozen BK117.out 3))
                     go_roundg k4
                     case measure => have := HJ1.out; have := HK2.out; have := HJ15.out; have := HK4.out; omega
                     case rel => exact ⟨(wrap64 (x76_4 + 1)), (by first | rfl | (simp; done) | (simp [*]; done)), H', ⟨by have := HJ1.out; have := HK2.out; have := HJ15.out; have := HK4.out; omega⟩, ⟨by refine blk_far ?_ NB112_128.out _; refine blk_far ?_ NB112_128.out _; refine blk_far ?_ NB112_128.out _; refine blk_far ?_ NB112_128.out _; exact BK112.out⟩, ⟨by refine blk_far ?_ NB117_128.out _; refine blk_far ?_ NB117_128.out _; refine blk_far ?_ NB117_128.out _; refine blk_far ?_ NB117_128.out _; exact BK117.out⟩, ⟨by repeat (first | (with_reducible first | exact HB.out | apply below_alloc | apply pw_below_drewN | apply below_drew1 | refine below_set ?_ GE112.out | refine below_set ?_ GE117.out | refine below_set ?_ GE128.out) | exact HB.out)⟩⟩
                   ·rw [if_neg c53] at H
                    have c53b0 : decide (0 < ((rd_T96 l0_2 x26_2).f3)) = false := decide_eq_false c53
                    clear c53
                    have H' := Aside0.mk H
                    clear H
                    have p127 : 0 ≤ (x76_4 : Int) := of_decide_eq_true (by first | (with_reducible assumption) | assumption)
                    have q127 : x76_4 < (y123.length : Int) := of_decide_eq_true (by first | (with_reducible assumption) | assumption)
                    obtain ⟨ad127, e127, hx127_0, hx127_1, hx127_2, hx127_3⟩ := at_T96 HR126.out x76_4 p127 q127
                    obtain rfl : ad116 = ad127 := (by injection e127)
                    replace hx127_0 := (HB.out.cell (World.block_lt_of_cell? w _ hx127_0)).trans hx127_0
                    replace hx127_1 := (HB.out.cell (World.block_lt_of_cell? w _ hx127_1)).trans hx127_1
                    replace hx127_2 := (HB.out.cell (World.block_lt_of_cell? w _ hx127_2)).trans hx127_2
                    replace hx127_3 := (HB.out.cell (World.block_lt_of_cell? w _ hx127_3)).trans hx127_3
                    replace p127 := eq_true p127
                    replace q127 := eq_true q127
                    go_wp2_with (first | ((with_reducible refine gate_dst (N := 6) rfl ?_); (try (refine gate_guard (by rfl) ?_; dsimp only)); refine box_event ?hg (N := 6) ?hd (cs := #[.string (⟨#[]⟩ : ByteArray), .int .i64 0, .int .i64 0, .int .i64 0]) (t := 96) ?hr ?_; (case hd => rfl); (case hg => rfl); (case hr => first | (go_simp; done) | (go_simp; rfl)); intro gb128 hg w67 hbox hb; have n0_ := Aside0.mk (blk_below (g := gb112) (o := .cells #[.int .i64 a0_0, .int .i64 a0_1, .slice (some ad116) l0_2.length c0_2] 46 (0, 0)) (by exact BK112.out) hb); have n1_ := Aside0.mk (blk_below (g := gb117) (o := .cells #[.string ((rd_T96 l0_2 x26_2).f0), .int .i64 ((rd_T96 l0_2 x26_2).f1), .int .i64 ((rd_T96 l0_2 x26_2).f2), .int .i64 ((rd_T96 l0_2 x26_2).f3)] 96 (0, 0)) (by exact BK117.out) hb); have n2_ := Aside0.mk (below_step (by repeat (first | (with_reducible first | exact HB.out | apply below_alloc | apply pw_below_drewN | apply below_drew1 | refine below_set ?_ GE112.out | refine below_set ?_ GE117.out) | exact HB.out)) hb); have n3_ := Aside0.mk (hbox); have n4_ := Aside0.mk ((by rw [hg]; exact (below_size (by repeat (first | (with_reducible first | exact HB.out | apply below_alloc | apply pw_below_drewN | apply below_drew1 | refine below_set ?_ GE112.out | refine below_set ?_ GE117.out) | exact HB.out))) : w.heap.size ≤ gb128)); have n5_ := Aside0.mk ((by rw [hg]; exact (below_size (by repeat (first | (with_reducible first | exact HB.out | apply below_alloc | apply pw_below_drewN | apply below_drew1 | refine below_set ?_ GE112.out | refine below_set ?_ GE117.out) | exact HB.out))) : w.heap.size ≤ gb128)); have n6_ := Aside0.mk ((by rw [hg]; exact Nat.ne_of_lt (blk_lt (g := gb112) (o := .cells #[.int .i64 a0_0, .int .i64 a0_1, .slice (some ad116) l0_2.length c0_2] 46 (0, 0)) (by exact BK112.out)) : gb112 ≠ gb128)); have n7_ := Aside0.mk ((by rw [hg]; exact Nat.ne_of_gt (blk_lt (g := gb112) (o := .cells #[.int .i64 a0_0, .int .i64 a0_1, .slice (some ad116) l0_2.length c0_2] 46 (0, 0)) (by exact BK112.out)) : gb128 ≠ gb112)); have n8_ := Aside0.mk ((by rw [hg]; exact Nat.ne_of_lt (blk_lt (g := gb117) (o := .cells #[.string ((rd_T96 l0_2 x26_2).f0), .int .i64 ((rd_T96 l0_2 x26_2).f1), .int .i64 ((rd_T96 l0_2 x26_2).f2), .int .i64 ((rd_T96 l0_2 x26_2).f3)] 96 (0, 0)) (by exact BK117.out)) : gb117 ≠ gb128)); have n9_ := Aside0.mk ((by rw [hg]; exact Nat.ne_of_gt (blk_lt (g := gb117) (o := .cells #[.string ((rd_T96 l0_2 x26_2).f0), .int .i64 ((rd_T96 l0_2 x26_2).f1), .int .i64 ((rd_T96 l0_2 x26_2).f2), .int .i64 ((rd_T96 l0_2 x26_2).f3)] 96 (0, 0)) (by exact BK117.out)) : gb128 ≠ gb117)); clear BK112; clear BK117; clear HB; have BK112 := n0_; have BK117 := n1_; have HB := n2_; have BK128 := n3_; have GW128 := n4_; have GE128 := n5_; have NB112_128 := n6_; have NB128_112 := n7_; have NB117_128 := n8_; have NB128_117 := n9_; clear n0_ n1_ n2_ n3_ n4_ n5_ n6_ n7_ n8_ n9_; clear hb hbox hg; have hnb68 := NB128_112.out; have hnc68 := NB112_128.out; have hnb69 := NB128_117.out; have hnc69 := NB117_128.out; have hcz70_0 : w67.cell? ⟨gb128, 0, none⟩ = some (.string (⟨#[]⟩ : ByteArray)) := (blk_cell BK128.out 0).trans rfl; have hcz70_1 : w67.cell? ⟨gb128, 1, none⟩ = some (.int .i64 0) := (blk_cell BK128.out 1).trans rfl; have hcz70_2 : w67.cell? ⟨gb128, 2, none⟩ = some (.int .i64 0) := (blk_cell BK128.out 2).trans rfl; have hcz70_3 : w67.cell? ⟨gb128, 3, none⟩ = some (.int .i64 0) := (blk_cell BK128.out 3).trans rfl; have hfz70_0 := blk_frozen BK128.out 0; have hfz70_1 := blk_frozen BK128.out 1; have hfz70_2 := blk_frozen BK128.out 2; have hfz70_3 := blk_frozen BK128.out 3; have hnb71 := NB117_112.out; have hnc71 := NB112_117.out; have hcz72_0 : w67.cell? ⟨gb117, 0, none⟩ = some (.string ((rd_T96 l0_2 x26_2).f0)) := (blk_cell BK117.out 0).trans rfl; have hcz72_1 : w67.cell? ⟨gb117, 1, none⟩ = some (.int .i64 ((rd_T96 l0_2 x26_2).f1)) := (blk_cell BK117.out 1).trans rfl; have hcz72_2 : w67.cell? ⟨gb117, 2, none⟩ = some (.int .i64 ((rd_T96 l0_2 x26_2).f2)) := (blk_cell BK117.out 2).trans rfl; have hcz72_3 : w67.cell? ⟨gb117, 3, none⟩ = some (.int .i64 ((rd_T96 l0_2 x26_2).f3)) := (blk_cell BK117.out 3).trans rfl; have hfz72_0 := blk_frozen BK117.out 0; have hfz72_1 := blk_frozen BK117.out 1; have hfz72_2 := blk_frozen BK117.out 2; have hfz72_3 := blk_frozen BK117.out 3))
                    go_roundg k4
                    case measure => have := HJ1.out; have := HK2.out; have := HJ15.out; have := HK4.out; omega
                    case rel => exact ⟨(wrap64 (x76_4 + 1)), (by first | rfl | (simp; done) | (simp [*]; done)), H', ⟨by have := HJ1.out; have := HK2.out; have := HJ15.out; have := HK4.out; omega⟩, ⟨by refine blk_far ?_ NB112_128.out _; refine blk_far ?_ NB112_128.out _; refine blk_far ?_ NB112_128.out _; refine blk_far ?_ NB112_128.out _; exact BK112.out⟩, ⟨by refine blk_far ?_ NB117_128.out _; refine blk_far ?_ NB117_128.out _; refine blk_far ?_ NB117_128.out _; refine blk_far ?_ NB117_128.out _; exact BK117.out⟩, ⟨by repeat (first | (with_reducible first | exact HB.out | apply below_alloc | apply pw_below_drewN | apply below_drew1 | refine below_set ?_ GE112.out | refine below_set ?_ GE117.out | refine below_set ?_ GE128.out) | exact HB.out)⟩⟩
                  ·rw [if_neg c52] at H
                   exact absurd H (by simp)
                 ·rw [if_neg c51] at H
                  exact absurd H (by simp)
                ·rw [if_neg c50] at H
                 have c50b0 : decide (x76_4 < (y123.length : Int)) = false := decide_eq_false c50
                 clear c50
                 have H' := Aside0.mk H
                 clear H
                 go_wp2
                 go_roundg k4
                 case measure => have := HJ1.out; have := HK2.out; have := HJ15.out; have := HK4.out; omega
                 case rel => exact ⟨(wrap64 (x26_2 + 1)), (by first | rfl | (simp; done) | (simp [*]; done)), H', ⟨by have := HJ1.out; have := HK2.out; have := HJ15.out; have := HK4.out; omega⟩, ⟨by exact BK112.out⟩, ⟨by repeat (first | (with_reducible first | exact HB.out | apply below_alloc | apply pw_below_drewN | apply below_drew1 | refine below_set ?_ GE112.out | refine below_set ?_ GE117.out) | exact HB.out)⟩⟩
             ·rw [if_neg c46] at H
              exact absurd H (by simp)
            ·rw [if_neg c45] at H
             exact absurd H (by simp)
        ·rw [if_neg c15] at H
         exact absurd H (by simp)
       ·rw [if_neg c14] at H
        exact absurd H (by simp)
      ·rw [if_neg c13] at H
       have c13b0 : decide (x26_2 < (l0_2.length : Int)) = false := decide_eq_false c13
       clear c13
       replace H := Option.bind_eq_some_iff.mp H
       obtain ⟨t115, A730, H⟩ := H
       replace H : (some (decide (t115 ≤ a0_0))) = some r := H
       have A73 := Aside0.mk A730
       clear A730
       obtain rfl := Option.some.inj H
       try go_wp2
       have n0_ := Aside0.mk (blk_drew BK112.out)
       have n1_ := Aside0.mk (below_drew1 HB.out)
       clear BK112
       clear HB
       have BK112 := n0_
       have HB := n1_
       clear n0_ n1_
       refine start_ (n := 6) (S := fun w' => w'.cell? ⟨gb112, 0, none⟩ = some (.int .i64 a0_0) ∧ w'.cell? ⟨gb112, 1, none⟩ = some (.int .i64 a0_1) ∧ w'.cell? ⟨gb112, 2, none⟩ = some (.slice A0_2 l0_2.length c0_2)) (ds := []) #[false, false, false, false, false, false] (by kernel_rfl) rfl rfl ⟨(blk_cell BK112.out 0).trans rfl, (blk_cell BK112.out 1).trans rfl, (blk_cell BK112.out 2).trans rfl⟩ (fun hHeld => ?_)
       generalize wr.drew = w74 at BK112 HB hHeld ⊢
       refine pure_ (i := 2) (N := some 94) (v := ?_) (a' := ?_) (bz2 6 4) rfl rfl (by kernel_rfl) (fun _ _ _ h => h) (Or.inl ⟨by rfl, ?_⟩) ?_ ?_
       rotate_left
       ·intro w'
        go_simp
        with_reducible rfl
       rotate_left
       ·simp only [Act.put, List.setIfInBounds_toArray, List.set_cons_zero, List.set_cons_succ, i64_w, i32_w]
        rfl
       refine take_ (i := 0) (N := some 92) (v := ?_) (a' := ?_) (bz2 6 5) rfl rfl (by kernel_rfl) (fun _ _ _ h => h) (Or.inl ⟨by rfl, ?_⟩) hHeld ?_ ?_
       rotate_left
       ·rintro w' ⟨s0, s1, s2⟩
        go_simp
        with_reducible rfl
       rotate_left
       ·simp only [Act.put, List.setIfInBounds_toArray, List.set_cons_zero, List.set_cons_succ, i64_w, i32_w]
        rfl
       refine take_ (i := 3) (N := some 95) (v := ?_) (a' := ?_) (bz2 6 13) rfl rfl (by kernel_rfl) (fun _ _ _ h => h) (Or.inl ⟨by rfl, ?_⟩) hHeld ?_ ?_
       rotate_left
       ·rintro w' ⟨s0, s1, s2⟩
        go_simp
        with_reducible rfl
       rotate_left
       ·simp only [Act.put, List.setIfInBounds_toArray, List.set_cons_zero, List.set_cons_succ, i64_w, i32_w]
        rfl
       refine one_ (i := 1) (N := some 93) (bz2 6 15) rfl rfl (by kernel_rfl) (by decide) (fun K hK => ?_)
       refine goes_ Try.func104 (by kernel_rfl) rfl #[.agg #[.int .i64 a0_0, .int .i64 a0_1, .slice A0_2 l0_2.length c0_2]] (by rfl) rfl rfl (by (try simp only [List.map_toArray, List.map_cons, List.map_nil]); first | done | rfl | (simp only [List.length_drop, List.length_take]; rfl)) ?_
       with_reducible refine (spec_l21Sizes.calls k2 a0_0 a0_1 _ _ l0_2 t115 _ ?side1 ?side2 A73.out).mono ?_
       (case side1 => repeat (first | exact (Kd.C_below HR0_2.out HB.out) | (with_reducible refine Kd.C_alloc ?_ _) | (with_reducible refine Kd.C_drewN ?_ _) | (with_reducible refine Kd.C_drew ?_)))
       (case side2 => exact HC0_2.out)
       rintro e w75 ⟨rfl, hb⟩
       refine ⟨_, rfl, ?_⟩
       have n0_ := Aside0.mk (blk_below (g := gb112) (o := .cells #[.int .i64 a0_0, .int .i64 a0_1, .slice A0_2 l0_2.length c0_2] 46 (0, 0)) (by exact BK112.out) hb)
       have n1_ := Aside0.mk (below_step (by repeat (first | (with_reducible first | exact HB.out | apply below_alloc | apply pw_below_drewN | apply below_drew1 | refine below_set ?_ GE112.out) | exact HB.out)) hb)
       clear BK112
       clear HB
       have BK112 := n0_
       have HB := n1_
       clear n0_ n1_
       (try clear hb)
       (try clear hb2)
       (try clear hk)
       (try clear hi)
       refine hK.out _ _ ⟨(blk_cell BK112.out 0).trans rfl, (blk_cell BK112.out 1).trans rfl, (blk_cell BK112.out 2).trans rfl⟩ (fun hHeld => ?_)
       clear hK K
       refine norm_ (a' := ?_) ?_ ?_
       rotate_left
       ·show Act.put _ (some 93) _ = _
        simp only [Act.put, List.setIfInBounds_toArray, List.set_cons_zero, List.set_cons_succ, i64_w, i32_w]
        rfl
       refine pure_ (i := 4) (N := some 96) (v := ?_) (a' := ?_) (bz2 6 31) rfl rfl (by kernel_rfl) (fun _ _ _ h => h) (Or.inl ⟨by rfl, ?_⟩) ?_ ?_
       rotate_left
       ·intro w'
        go_simp
        with_reducible rfl
       rotate_left
       ·simp only [Act.put, List.setIfInBounds_toArray, List.set_cons_zero, List.set_cons_succ, i64_w, i32_w]
        rfl
       refine pure_ (i := 5) (N := some 2) (v := ?_) (a' := ?_) (bz2 6 63) rfl rfl (by kernel_rfl) (fun _ _ _ h => h) (Or.inl ⟨by rfl, ?_⟩) ?_ ?_
       rotate_left
       ·intro w'
        go_simp
        with_reducible rfl
       rotate_left
       ·simp only [Act.put, List.setIfInBounds_toArray, List.set_cons_zero, List.set_cons_succ, i64_w, i32_w]
        rfl
       refine done_ (by kernel_rfl) ?_
       try go_wp2
       go_ret
       exact ⟨by first | rfl | (simp [errW_none, errW_some] <;> rfl) | (simp [*, errW_none, errW_some] <;> rfl), by repeat (first | (with_reducible first | exact HB.out | apply below_alloc | apply pw_below_drewN | apply below_drew1 | refine below_set ?_ GE112.out) | exact HB.out)⟩

end Go.Proofs.Ytjbkagmfkcoclaa.XFnExactRelease

-- Lean text written by a program of this session out of the translation
import Derived.Test.YtjbkagmfkcoclaaXFnExactNextMatchx0
import Derived.Test.YtjbkagmfkcoclaaXFnExactNextMatchx5
import Derived.Test.YtjbkagmfkcoclaaXFnExactNextMatchx6
import Derived.Test.YtjbkagmfkcoclaaXFnExactNextMatchx7
namespace Go.Proofs.Ytjbkagmfkcoclaa.XFnExactNextMatch
open Go.RowKit Go.Proofs.YtjbkagmfkcoclaaW.PrintWords Go.Proofs.YtjbkagmfkcoclaaW.PrintLast Go.Proofs.YtjbkagmfkcoclaaW.PrintMore
attribute [local go_sem] max2_int min2_int max_two min_two max_three min_three max_four min_four   -- for this text's walks alone
set_option linter.unusedVariables false
set_option linter.unusedSimpArgs false

/-! ### impl_NextMatch: function 30 -/
mutual
def impl_NextMatch.j0 : Nat → List (S106) → Bool → Int → Option (List ByteArray × Bool)
 | 0, _, _, _ => none
 | k + 1, x0, x26, x174000 => if x26 = true then (some (([] : List ByteArray), false)) else (impl_NextMatch.l0 k x0 ([] : List ByteArray) 0 0 x0 (x0.length : Int) 0 x174000)
def impl_NextMatch.l0 : Nat → List (S106) → List ByteArray → Int → Int → List (S106) → Int → Int → Int → Option (List ByteArray × Bool)
 | 0, _, _, _, _, _, _, _, _ => none
 | k + 1, x0, x6, x7, x8, x27, x28, x29, x174000 => if x29 < x28 then (if 0 ≤ x29 then (if x29 < (x27.length : Int) then (if 0 ≤ (wrap64 (x29 + 1)) then (if (wrap64 (x29 + 1)) ≤ (x0.length : Int) then ((some (x0.drop ((wrap64 (x29 + 1)) : Int).toNat : List (S106))).bind fun y180 => (impl_NextMatch.l1 k x0 x6 x7 x8 x27 x28 x29 y180 (y180.length : Int) 0 x174000 ((rd_T106 x27 x29).f0) ((rd_T106 x27 x29).f1) ((rd_T106 x27 x29).f2))) else (none)) else (none)) else (none)) else (none)) else (some (x6, true))
def impl_NextMatch.l1 : Nat → List (S106) → List ByteArray → Int → Int → List (S106) → Int → Int → List (S106) → Int → Int → Int → ByteArray → Int → Int → Option (List ByteArray × Bool)
 | 0, _, _, _, _, _, _, _, _, _, _, _, _, _, _ => none
 | k + 1, x0, x6, x7, x8, x27, x28, x29, x37, x38, x39, x174000, x180000, x180001, x180002 => if x39 < x38 then (if 0 ≤ x39 then (if x39 < (x37.length : Int) then ((impl_size.f (wrap64 (x180001 - ((rd_T106 x37 x39).f1)))).bind fun t186 => ((impl_Player_wide.f x180000 x180001 x180002 x174000).bind fun t187 => ((impl_Player_wide.f ((rd_T106 x37 x39).f0) ((rd_T106 x37 x39).f1) ((rd_T106 x37 x39).f2) x174000).bind fun t188 => (if t186 > (mn t187 t188) then (impl_NextMatch.l1 k x0 x6 x7 x8 x27 x28 x29 x37 x38 (wrap64 (x39 + 1)) x174000 x180000 x180001 x180002) else (if (x6.length : Int) = 0 then (impl_NextMatch.l1 k x0 (([x180000, (rd_T106 x37 x39).f0] : List ByteArray)) (wrap64 (x180002 + ((rd_T106 x37 x39).f2))) t186 x27 x28 x29 x37 x38 (wrap64 (x39 + 1)) x174000 x180000 x180001 x180002) else ((cmp_Compare_int.f (wrap64 (x180002 + ((rd_T106 x37 x39).f2))) x7).bind fun t192 => ((cmp_Compare_int.f t186 x8).bind fun t193 => ((cmp_Or_int.f k (([t192, t193] : List Int))).bind fun t197 => (if t197 < 0 then (impl_NextMatch.l1 k x0 (([x180000, (rd_T106 x37 x39).f0] : List ByteArray)) (wrap64 (x180002 + ((rd_T106 x37 x39).f2))) t186 x27 x28 x29 x37 x38 (wrap64 (x39 + 1)) x174000 x180000 x180001 x180002) else (impl_NextMatch.l1 k x0 x6 x7 x8 x27 x28 x29 x37 x38 (wrap64 (x39 + 1)) x174000 x180000 x180001 x180002)))))))))) else (none)) else (none)) else (impl_NextMatch.l0 k x0 x6 x7 x8 x27 x28 (wrap64 (x29 + 1)) x174000)
end
def impl_NextMatch.f (k : Nat) (l0 : List (S106)) (a1 : Int) : Option (List ByteArray × Bool) := (impl_GoodPlayers.f k l0).bind fun t174 => (if t174 = true then ((impl_isTime.f a1).bind fun t175 => (if t175 = true then ((slices_ContainsFunc_at77.f k l0 a1).bind fun bt176 => (impl_NextMatch.j0 k l0 bt176.1 bt176.2)) else (impl_NextMatch.j0 k l0 true a1))) else (impl_NextMatch.j0 k l0 true a1))
theorem impl_NextMatch.mono_l : ∀ k, (∀ y0 y1 y2, LeO (impl_NextMatch.j0 k y0 y1 y2) (impl_NextMatch.j0 (k + 1) y0 y1 y2)) ∧ (∀ y0 y1 y2 y3 y4 y5 y6 y7, LeO (impl_NextMatch.l0 k y0 y1 y2 y3 y4 y5 y6 y7) (impl_NextMatch.l0 (k + 1) y0 y1 y2 y3 y4 y5 y6 y7)) ∧ (∀ y0 y1 y2 y3 y4 y5 y6 y7 y8 y9 y10 y11 y12 y13, LeO (impl_NextMatch.l1 k y0 y1 y2 y3 y4 y5 y6 y7 y8 y9 y10 y11 y12 y13) (impl_NextMatch.l1 (k + 1) y0 y1 y2 y3 y4 y5 y6 y7 y8 y9 y10 y11 y12 y13))
 | 0 => ⟨fun _ _ _ r h => by simp [impl_NextMatch.j0] at h, fun _ _ _ _ _ _ _ _ r h => by simp [impl_NextMatch.l0] at h, fun _ _ _ _ _ _ _ _ _ _ _ _ _ _ r h => by simp [impl_NextMatch.l1] at h⟩
 | k + 1 => by
  obtain ⟨ih0, ih1, ih2⟩ := impl_NextMatch.mono_l k
  refine ⟨?_, ?_, ?_⟩
  ·intro y0 y1 y2
   unfold impl_NextMatch.j0
   repeat' first
   | (with_reducible exact ih0 _ _ _)
   | (with_reducible exact ih1 _ _ _ _ _ _ _ _)
   | (with_reducible exact ih2 _ _ _ _ _ _ _ _ _ _ _ _ _ _)
   | (with_reducible exact cmp_Or_int.mono _ _)
   | (with_reducible exact impl_GoodPlayers.mono _ _)
   | (with_reducible exact slices_ContainsFunc_at77.mono _ _ _)
   | (with_reducible exact LeO.refl _)
   | (with_reducible exact LeO.none _)
   | (with_reducible refine LeO.ite ?_ ?_)
   | (with_reducible refine LeO.bind ?_ (fun _ => ?_))
   | exact ih0 _ _ _
   | exact ih1 _ _ _ _ _ _ _ _
   | exact ih2 _ _ _ _ _ _ _ _ _ _ _ _ _ _
   | exact cmp_Or_int.mono _ _
   | exact impl_GoodPlayers.mono _ _
   | exact slices_ContainsFunc_at77.mono _ _ _
   | exact LeO.none _
   | refine LeO.ite ?_ ?_
   | refine LeO.bind ?_ (fun _ => ?_)
  ·intro y0 y1 y2 y3 y4 y5 y6 y7
   unfold impl_NextMatch.l0
   repeat' first
   | (with_reducible exact ih0 _ _ _)
   | (with_reducible exact ih1 _ _ _ _ _ _ _ _)
   | (with_reducible exact ih2 _ _ _ _ _ _ _ _ _ _ _ _ _ _)
   | (with_reducible exact cmp_Or_int.mono _ _)
   | (with_reducible exact impl_GoodPlayers.mono _ _)
   | (with_reducible exact slices_ContainsFunc_at77.mono _ _ _)
   | (with_reducible exact LeO.refl _)
   | (with_reducible exact LeO.none _)
   | (with_reducible refine LeO.ite ?_ ?_)
   | (with_reducible refine LeO.bind ?_ (fun _ => ?_))
   | exact ih0 _ _ _
   | exact ih1 _ _ _ _ _ _ _ _
   | exact ih2 _ _ _ _ _ _ _ _ _ _ _ _ _ _
   | exact cmp_Or_int.mono _ _
   | exact impl_GoodPlayers.mono _ _
   | exact slices_ContainsFunc_at77.mono _ _ _
   | exact LeO.none _
   | refine LeO.ite ?_ ?_
   | refine LeO.bind ?_ (fun _ => ?_)
  ·intro y0 y1 y2 y3 y4 y5 y6 y7 y8 y9 y10 y11 y12 y13
   unfold impl_NextMatch.l1
   repeat' first
   | (with_reducible exact ih0 _ _ _)
   | (with_reducible exact ih1 _ _ _ _ _ _ _ _)
   | (with_reducible exact ih2 _ _ _ _ _ _ _ _ _ _ _ _ _ _)
   | (with_reducible exact cmp_Or_int.mono _ _)
   | (with_reducible exact impl_GoodPlayers.mono _ _)
   | (with_reducible exact slices_ContainsFunc_at77.mono _ _ _)
   | (with_reducible exact LeO.refl _)
   | (with_reducible exact LeO.none _)
   | (with_reducible refine LeO.ite ?_ ?_)
   | (with_reducible refine LeO.bind ?_ (fun _ => ?_))
   | exact ih0 _ _ _
   | exact ih1 _ _ _ _ _ _ _ _
   | exact ih2 _ _ _ _ _ _ _ _ _ _ _ _ _ _
   | exact cmp_Or_int.mono _ _
   | exact impl_GoodPlayers.mono _ _
   | exact slices_ContainsFunc_at77.mono _ _ _
   | exact LeO.none _
   | refine LeO.ite ?_ ?_
   | refine LeO.bind ?_ (fun _ => ?_)
theorem impl_NextMatch.mono : ∀ a0 a1 k, LeO (impl_NextMatch.f k a0 a1) (impl_NextMatch.f (k + 1) a0 a1) := by
 intro a0 a1 k
 obtain ⟨ih0, ih1, ih2⟩ := impl_NextMatch.mono_l k
 unfold impl_NextMatch.f
 repeat' first
   | (with_reducible exact ih0 _ _ _)
   | (with_reducible exact ih1 _ _ _ _ _ _ _ _)
   | (with_reducible exact ih2 _ _ _ _ _ _ _ _ _ _ _ _ _ _)
   | (with_reducible exact cmp_Or_int.mono _ _)
   | (with_reducible exact impl_GoodPlayers.mono _ _)
   | (with_reducible exact slices_ContainsFunc_at77.mono _ _ _)
   | (with_reducible exact LeO.refl _)
   | (with_reducible exact LeO.none _)
   | (with_reducible refine LeO.ite ?_ ?_)
   | (with_reducible refine LeO.bind ?_ (fun _ => ?_))
   | exact ih0 _ _ _
   | exact ih1 _ _ _ _ _ _ _ _
   | exact ih2 _ _ _ _ _ _ _ _ _ _ _ _ _ _
   | exact cmp_Or_int.mono _ _
   | exact impl_GoodPlayers.mono _ _
   | exact slices_ContainsFunc_at77.mono _ _ _
   | exact LeO.none _
   | refine LeO.ite ?_ ?_
   | refine LeO.bind ?_ (fun _ => ?_)
def impl_NextMatch.T12 : Bool × List (List Nat × List Nat) := (true, [([], []), ([], []), ([], []), ([1, 2], [1, 2]), ([], []), ([], []), ([4, 5, 3], [4, 5]), ([3, 6], [3, 6]), ([0, 7], [0, 7])])
def impl_NextMatch.B12 : List Nat := [0, 0, 0, 6, 0, 0, 62, 126, 255]
theorem impl_NextMatch.tab12 : rtab .any (opsOf Try.f30 12) = impl_NextMatch.T12 := by kernel_rfl
theorem impl_NextMatch.bits12 : waitsOk impl_NextMatch.T12.2 impl_NextMatch.B12 = true := by kernel_rfl
def impl_NextMatch.T14 : Bool × List (List Nat × List Nat) := (true, [([], []), ([0], [0]), ([], []), ([2], [2]), ([1, 3], [1, 3]), ([], []), ([5], [5]), ([], []), ([7], [7]), ([6, 8], [6, 8]), ([], []), ([4, 0, 1, 2, 3, 4], [4]), ([9, 11, 0, 1, 2, 3, 4, 5, 6, 7, 8, 9, 11], [9]), ([10, 12, 0, 1, 2, 3, 4, 5, 6, 7, 8, 9, 10, 11, 12], [10])])
def impl_NextMatch.B14 : List Nat := [0, 1, 0, 4, 15, 0, 32, 0, 128, 480, 0, 31, 3071, 8191]
theorem impl_NextMatch.tab14 : rtab .any (opsOf Try.f30 14) = impl_NextMatch.T14 := by kernel_rfl
theorem impl_NextMatch.bits14 : waitsOk impl_NextMatch.T14.2 impl_NextMatch.B14 = true := by kernel_rfl
set_option maxHeartbeats 8000000 in
set_option maxRecDepth 100000 in
theorem impl_NextMatch.calls (k : Nat) (A0 : Option Addr) (c0 : Nat) (l0 : List (S106)) (a1 : Int) (r1 : List ByteArray) (r2 : Bool) (w : World) (hr0 : Kd.C k106 w A0 l0.length l0) (hc0 : l0.length ≤ c0) (h : impl_NextMatch.f k l0 a1 = some (r1, r2)) :
  Calls Try.prog 30 #[.slice A0 l0.length c0, .int .i64 a1] w fun e w' => ∃ v0_ : Value, e = .returned (.tuple #[v0_, .bool r2]) ∧ Kd.R Kd.string 9 w' w.heap.size (fun _ => True) v0_ r1 ∧ Below w.heap.size w w' := by
 have hu106 := Try.underlying106
 have HR0 := Aside0.mk hr0
 have HC0 := Aside0.mk hc0
 clear hr0 hc0
 have HB := Aside0.mk (Below.refl w.heap.size w)
 have H : ((impl_GoodPlayers.f k l0).bind fun t174 => (if t174 = true then ((impl_isTime.f a1).bind fun t175 => (if t175 = true then ((slices_ContainsFunc_at77.f k l0 a1).bind fun bt176 => (impl_NextMatch.j0 k l0 bt176.1 bt176.2)) else (impl_NextMatch.j0 k l0 true a1))) else (impl_NextMatch.j0 k l0 true a1))) = some (r1, r2) := h
 clear h
 have HC3 := Aside0.mk H
 clear H
 go_enter Try.func30, Try.ntmps30
 go_upto_region 1 with (first | ((with_reducible refine gate_dst (N := 3) rfl ?_); (try (refine gate_guard (by rfl) ?_; dsimp only)); refine box_event ?hg (N := 3) ?hd (cs := #[.int .i64 a1]) (t := 3) ?hr ?_; (case hd => rfl); (case hg => rfl); (case hr => first | (go_simp; done) | (go_simp; rfl)); intro gb173 hg w4 hbox hb; have n0_ := Aside0.mk (below_step (by repeat (first | (with_reducible first | exact HB.out | apply below_alloc | apply pw_below_drewN | apply below_drew1) | exact HB.out)) hb); have n1_ := Aside0.mk ((⟨hbox, by rw [hg]; exact (below_size (by repeat (first | (with_reducible first | exact HB.out | apply below_alloc | apply pw_below_drewN | apply below_drew1) | exact HB.out)))⟩ : IsS3 w w4 gb173 a1)); clear HB; have HB := n0_; have HI173 := n1_; clear n0_ n1_; (try clear hb); (try clear hbox); (try clear hg)))
 (try simp only [Act.put, List.setIfInBounds_toArray, List.set_cons_zero, List.set_cons_succ])
 go_cut [26] (fun v26 wc => ∃ (kq : Nat) (x26_2 : Bool) (x174000_2 : Int), v26 = .bool x26_2 ∧ Aside0 (impl_NextMatch.j0 kq l0 x26_2 x174000_2 = some (r1, r2)) ∧ Aside0 (kq ≤ k) ∧ Aside0 (IsS3 w wc gb173 x174000_2) ∧ Aside0 (Below w.heap.size w wc))
 case first =>
  have H := HC3.out
  clear HC3
  replace H := Option.bind_eq_some_iff.mp H
  obtain ⟨t174, A50, H⟩ := H
  replace H : (if t174 = true then ((impl_isTime.f a1).bind fun t175 => (if t175 = true then ((slices_ContainsFunc_at77.f k l0 a1).bind fun bt176 => (impl_NextMatch.j0 k l0 bt176.1 bt176.2)) else (impl_NextMatch.j0 k l0 true a1))) else (impl_NextMatch.j0 k l0 true a1)) = some (r1, r2) := H
  have A5 := Aside0.mk A50
  clear A50
  by_cases c6 : t174 = true
  ·subst c6
   have H1 : ((impl_isTime.f a1).bind fun t175 => (if t175 = true then ((slices_ContainsFunc_at77.f k l0 a1).bind fun bt176 => (impl_NextMatch.j0 k l0 bt176.1 bt176.2)) else (impl_NextMatch.j0 k l0 true a1))) = some (r1, r2) := by rw [if_pos rfl] at H; exact H
   clear H
   have H := H1
   clear H1
   replace H := Option.bind_eq_some_iff.mp H
   obtain ⟨t175, A70, H⟩ := H
   replace H : (if t175 = true then ((slices_ContainsFunc_at77.f k l0 a1).bind fun bt176 => (impl_NextMatch.j0 k l0 bt176.1 bt176.2)) else (impl_NextMatch.j0 k l0 true a1)) = some (r1, r2) := H
   have A7 := Aside0.mk A70
   clear A70
   by_cases c8 : t175 = true
   ·subst c8
    have H1 : ((slices_ContainsFunc_at77.f k l0 a1).bind fun bt176 => (impl_NextMatch.j0 k l0 bt176.1 bt176.2)) = some (r1, r2) := by rw [if_pos rfl] at H; exact H
    clear H
    have H := H1
    clear H1
    replace H := Option.bind_eq_some_iff.mp H
    obtain ⟨⟨t176, t177⟩, A90, H⟩ := H
    replace H : (impl_NextMatch.j0 k l0 t176 t177) = some (r1, r2) := H
    have A9 := Aside0.mk A90
    clear A90
    have H' := Aside0.mk H
    clear H
    go_wp2_with (first | ((with_reducible refine gate_callee (f := 74) rfl ?_); refine goesL_ (some 15) rfl rfl Try.func74 (by kernel_rfl) rfl #[.slice A0 l0.length c0] rfl (by (try simp only [List.map_toArray, List.map_cons, List.map_nil]); first | done | rfl | (simp only [List.length_drop, List.length_take]; rfl)) ?_; (with_reducible refine (impl_GoodPlayers.calls k _ _ l0 true _ ?side1 ?side2 A5.out).mono ?_); (case side1 => repeat (first | exact (Kd.C_below HR0.out HB.out) | (with_reducible refine Kd.C_alloc ?_ _) | (with_reducible refine Kd.C_drewN ?_ _) | (with_reducible refine Kd.C_drew ?_))); (case side2 => exact HC0.out); rintro e w10 ⟨rfl, hb⟩; refine ⟨_, rfl, ?_⟩; have n0_ := Aside0.mk (IsS3.below (by repeat (first | (with_reducible first | exact HI173.out | apply IsS3.alloc | apply IsS3.drewN | apply IsS3.drew | apply IsS3.set_0) | exact HI173.out)) hb); have n1_ := Aside0.mk (below_step (by repeat (first | (with_reducible first | exact HB.out | apply below_alloc | apply pw_below_drewN | apply below_drew1 | refine below_set ?_ (IsS3.ge HI173.out)) | exact HB.out)) hb); clear HI173; clear HB; have HI173 := n0_; have HB := n1_; clear n0_ n1_; (try clear hb); (try clear hb2); (try clear hk); (try clear hi); obtain ⟨HGz11, hgz11⟩ := HI173.out; have hcz11_0 := cellS3_0 HGz11; have hfz11_0 := blk_frozen HGz11 0; clear HGz11 hgz11) | (go_at_call 75; (with_reducible refine (impl_isTime.calls a1 true _ A7.out).mono ?_); rintro e w' ⟨rfl, ⟨nd, rfl⟩⟩) | (go_at_call 76; (with_reducible refine (slices_ContainsFunc_at77.calls k _ _ l0 gb173 a1 t176 t177 w _ ?side1 ?side2 ?side3 ?side4 A9.out).mono ?_); (case side1 => repeat (first | (with_reducible first | exact HI173.out | apply IsS3.alloc | apply IsS3.drewN | apply IsS3.drew | apply IsS3.set_0) | exact HI173.out)); (case side2 => repeat (first | (with_reducible first | exact HB.out | apply below_alloc | apply pw_below_drewN | apply below_drew1 | refine below_set ?_ (IsS3.ge HI173.out)) | exact HB.out)); (case side3 => exact Kd.C_foot_came k106_heap HR0.out (by repeat (first | (with_reducible first | exact HB.out | apply below_alloc | apply pw_below_drewN | apply below_drew1 | refine below_set ?_ (IsS3.ge HI173.out)) | exact HB.out)) (IsS3.ge HI173.out)); (case side4 => exact HC0.out); rintro e w12 ⟨rfl, hi, hb, hk⟩; have n0_ := Aside0.mk (hb); have n1_ := Aside0.mk (hi); clear HB; clear HI173; have HB := n0_; have HI173 := n1_; clear n0_ n1_; (try clear hb); (try clear hb2); (try clear hk); (try clear hi)))
    go_meet
    case rel => exact ⟨_, (t176), (t177), (by first | rfl | (simp; done) | (simp [*]; done)), H', ⟨by first | omega | exact Nat.le_refl _⟩, ⟨by repeat (first | (with_reducible first | exact HI173.out | apply IsS3.alloc | apply IsS3.drewN | apply IsS3.drew | apply IsS3.set_0) | exact HI173.out)⟩, ⟨by repeat (first | (with_reducible first | exact HB.out | apply below_alloc | apply pw_below_drewN | apply below_drew1 | refine below_set ?_ (IsS3.ge HI173.out)) | exact HB.out)⟩⟩
   ·replace c8 := Bool.eq_false_iff.mpr c8
    subst c8
    have H1 : (impl_NextMatch.j0 k l0 true a1) = some (r1, r2) := by rw [if_neg (show ¬ (false = true) by decide)] at H; exact H
    clear H
    have H := H1
    clear H1
    have H' := Aside0.mk H
    clear H
    go_wp2_with (first | ((with_reducible refine gate_callee (f := 74) rfl ?_); refine goesL_ (some 15) rfl rfl Try.func74 (by kernel_rfl) rfl #[.slice A0 l0.length c0] rfl (by (try simp only [List.map_toArray, List.map_cons, List.map_nil]); first | done | rfl | (simp only [List.length_drop, List.length_take]; rfl)) ?_; (with_reducible refine (impl_GoodPlayers.calls k _ _ l0 true _ ?side1 ?side2 A5.out).mono ?_); (case side1 => repeat (first | exact (Kd.C_below HR0.out HB.out) | (with_reducible refine Kd.C_alloc ?_ _) | (with_reducible refine Kd.C_drewN ?_ _) | (with_reducible refine Kd.C_drew ?_))); (case side2 => exact HC0.out); rintro e w13 ⟨rfl, hb⟩; refine ⟨_, rfl, ?_⟩; have n0_ := Aside0.mk (IsS3.below (by repeat (first | (with_reducible first | exact HI173.out | apply IsS3.alloc | apply IsS3.drewN | apply IsS3.drew | apply IsS3.set_0) | exact HI173.out)) hb); have n1_ := Aside0.mk (below_step (by repeat (first | (with_reducible first | exact HB.out | apply below_alloc | apply pw_below_drewN | apply below_drew1 | refine below_set ?_ (IsS3.ge HI173.out)) | exact HB.out)) hb); clear HI173; clear HB; have HI173 := n0_; have HB := n1_; clear n0_ n1_; (try clear hb); (try clear hb2); (try clear hk); (try clear hi); obtain ⟨HGz14, hgz14⟩ := HI173.out; have hcz14_0 := cellS3_0 HGz14; have hfz14_0 := blk_frozen HGz14 0; clear HGz14 hgz14) | (go_at_call 75; (with_reducible refine (impl_isTime.calls a1 false _ A7.out).mono ?_); rintro e w' ⟨rfl, ⟨nd, rfl⟩⟩))
    go_meet
    case rel => exact ⟨_, (true), (a1), (by first | rfl | (simp; done) | (simp [*]; done)), H', ⟨by first | omega | exact Nat.le_refl _⟩, ⟨by repeat (first | (with_reducible first | exact HI173.out | apply IsS3.alloc | apply IsS3.drewN | apply IsS3.drew | apply IsS3.set_0) | exact HI173.out)⟩, ⟨by repeat (first | (with_reducible first | exact HB.out | apply below_alloc | apply pw_below_drewN | apply below_drew1 | refine below_set ?_ (IsS3.ge HI173.out)) | exact HB.out)⟩⟩
  ·replace c6 := Bool.eq_false_iff.mpr c6
   subst c6
   have H1 : (impl_NextMatch.j0 k l0 true a1) = some (r1, r2) := by rw [if_neg (show ¬ (false = true) by decide)] at H; exact H
   clear H
   have H := H1
   clear H1
   have H' := Aside0.mk H
   clear H
   go_wp2_with (first | ((with_reducible refine gate_callee (f := 74) rfl ?_); refine goesL_ (some 15) rfl rfl Try.func74 (by kernel_rfl) rfl #[.slice A0 l0.length c0] rfl (by (try simp only [List.map_toArray, List.map_cons, List.map_nil]); first | done | rfl | (simp only [List.length_drop, List.length_take]; rfl)) ?_; (with_reducible refine (impl_GoodPlayers.calls k _ _ l0 false _ ?side1 ?side2 A5.out).mono ?_); (case side1 => repeat (first | exact (Kd.C_below HR0.out HB.out) | (with_reducible refine Kd.C_alloc ?_ _) | (with_reducible refine Kd.C_drewN ?_ _) | (with_reducible refine Kd.C_drew ?_))); (case side2 => exact HC0.out); rintro e w15 ⟨rfl, hb⟩; refine ⟨_, rfl, ?_⟩; have n0_ := Aside0.mk (IsS3.below (by repeat (first | (with_reducible first | exact HI173.out | apply IsS3.alloc | apply IsS3.drewN | apply IsS3.drew | apply IsS3.set_0) | exact HI173.out)) hb); have n1_ := Aside0.mk (below_step (by repeat (first | (with_reducible first | exact HB.out | apply below_alloc | apply pw_below_drewN | apply below_drew1 | refine below_set ?_ (IsS3.ge HI173.out)) | exact HB.out)) hb); clear HI173; clear HB; have HI173 := n0_; have HB := n1_; clear n0_ n1_; (try clear hb); (try clear hb2); (try clear hk); (try clear hi)))
   go_meet
   case rel => exact ⟨_, (true), (a1), (by first | rfl | (simp; done) | (simp [*]; done)), H', ⟨by first | omega | exact Nat.le_refl _⟩, ⟨by repeat (first | (with_reducible first | exact HI173.out | apply IsS3.alloc | apply IsS3.drewN | apply IsS3.drew | apply IsS3.set_0) | exact HI173.out)⟩, ⟨by repeat (first | (with_reducible first | exact HB.out | apply below_alloc | apply pw_below_drewN | apply below_drew1 | refine below_set ?_ (IsS3.ge HI173.out)) | exact HB.out)⟩⟩
 case rest =>
  clear HC3
  try clear p2
  try clear c3
  try clear c6
  try clear c7
  try clear c8
  try clear hcz11_0
  try clear hcz14_0
  try clear hfz11_0
  try clear hfz14_0
  obtain ⟨kq, x26_2, x174000_2, rfl, HA, HJ2, HI173, HB⟩ := hcut
  cases kq with
  | zero => exact absurd HA.out (by simp [impl_NextMatch.j0])
  | succ kj2 =>
   have H := HA.out
   clear HA
   simp only [impl_NextMatch.j0] at H
   by_cases c16 : x26_2 = true
   ·subst c16
    have H1 : (some (([] : List ByteArray), false)) = some (r1, r2) := by rw [if_pos rfl] at H; exact H
    clear H
    have H := H1
    clear H1
    simp only [Option.some.injEq, Prod.mk.injEq] at H
    obtain ⟨rfl, rfl⟩ := H
    go_wp2
    go_ret2
    exact ⟨_, by first | rfl | (simp [errW_none, errW_some] <;> rfl) | (simp [*, errW_none, errW_some] <;> rfl), by first | exact Kd.R_nil _ _ _ _ _ | exact Kd.N_nil _ _ _ _ _ | exact Kd.V_nil _ _ _ _ _ | exact Kd.Q_nil _ _ _ _ _ | exact Kd.S_nil _ _ _ _ _, by repeat (first | (with_reducible first | exact HB.out | apply below_alloc | apply pw_below_drewN | apply below_drew1 | refine below_set ?_ (IsS3.ge HI173.out)) | exact HB.out)⟩
   ·replace c16 := Bool.eq_false_iff.mpr c16
    subst c16
    have H1 : (impl_NextMatch.l0 kj2 l0 ([] : List ByteArray) 0 0 l0 (l0.length : Int) 0 x174000_2) = some (r1, r2) := by rw [if_neg (show ¬ (false = true) by decide)] at H; exact H
    clear H
    have H := H1
    clear H1
    have H' := Aside0.mk H
    clear H
    go_wp2
    go_loopg [6, 7, 8, 29] kj2 (fun kq v6 v7 v8 v29 w' => ∃ (x6_2 : List ByteArray) (x7_2 : Int) (x8_2 : Int) (x29_2 : Int), v7 = .int .i64 x7_2 ∧ v8 = .int .i64 x8_2 ∧ v29 = .int .i64 x29_2 ∧ Aside0 (impl_NextMatch.l0 kq l0 x6_2 x7_2 x8_2 l0 (l0.length : Int) x29_2 x174000_2 = some (r1, r2)) ∧ Aside0 (kq ≤ kj2) ∧ Aside0 (Kd.R Kd.string 9 w' w.heap.size (fun _ => True) v6 x6_2) ∧ Aside0 (x6_2 = [] → (v6 : Value) = .slice none 0 0) ∧ Aside0 (IsS3 w w' gb173 x174000_2) ∧ Aside0 (Below w.heap.size w w'))
    case atStart => exact ⟨(([] : List ByteArray)), (0), (0), (0), (by first | rfl | (simp; done) | (simp [*]; done)), (by first | rfl | (simp; done) | (simp [*]; done)), (by first | rfl | (simp; done) | (simp [*]; done)), H', ⟨Nat.le_refl _⟩, ⟨by first | exact Kd.R_nil _ _ _ _ _ | exact Kd.N_nil _ _ _ _ _ | exact Kd.V_nil _ _ _ _ _ | exact Kd.Q_nil _ _ _ _ _ | exact Kd.S_nil _ _ _ _ _⟩, ⟨fun _ => rfl⟩, ⟨by repeat (first | (with_reducible first | exact HI173.out | apply IsS3.alloc | apply IsS3.drewN | apply IsS3.drew | apply IsS3.set_0) | exact HI173.out)⟩, ⟨by repeat (first | (with_reducible first | exact HB.out | apply below_alloc | apply pw_below_drewN | apply below_drew1 | refine below_set ?_ (IsS3.ge HI173.out)) | exact HB.out)⟩⟩
    case round =>
     clear H'
     try clear c1
     try clear p2
     try clear c3
     try clear c6
     try clear c7
     try clear c8
     try clear c16
     try clear hcz11_0
     try clear hcz14_0
     try clear hfz11_0
     try clear hfz14_0
     try clear p2
     obtain ⟨x6_2, x7_2, x8_2, x29_2, rfl, rfl, rfl, HA, HK2, HO_6, HZ_6, HI173, HB⟩ := hrel
     cases gk with
     | zero => exact absurd HA.out (by simp [impl_NextMatch.l0])
     | succ k2 =>
      have H := HA.out
      clear HA
      simp only [impl_NextMatch.l0] at H
      by_cases c17 : x29_2 < (l0.length : Int)
      ·rw [if_pos c17] at H
       have c17b0 : decide (x29_2 < (l0.length : Int)) = true := decide_eq_true c17
       clear c17
       by_cases c18 : 0 ≤ x29_2
       ·rw [if_pos c18] at H
        have c18b0 : decide (0 ≤ x29_2) = true := decide_eq_true c18
        clear c18
        by_cases c19 : x29_2 < (l0.length : Int)
        ·rw [if_pos c19] at H
         have c19b0 : decide (x29_2 < (l0.length : Int)) = true := decide_eq_true c19
         clear c19
         obtain ⟨ji20, hji20⟩ : ∃ j_ : Int, (wrap64 (x29_2 + 1)) = j_ := ⟨_, rfl⟩
         replace H : (if 0 ≤ (ji20) then (if (ji20) ≤ (l0.length : Int) then ((some (l0.drop ((ji20) : Int).toNat : List (S106))).bind fun y180 => (impl_NextMatch.l1 k2 l0 x6_2 x7_2 x8_2 l0 (l0.length : Int) x29_2 y180 (y180.length : Int) 0 x174000_2 ((rd_T106 l0 x29_2).f0) ((rd_T106 l0 x29_2).f1) ((rd_T106 l0 x29_2).f2))) else (none)) else (none)) = some (r1, r2) := by first | (rw [hji20] at H; exact H) | (simp only [hji20] at H ⊢; exact H)
         have hji20w : (IntKind.i64.wrap (x29_2 + 1)) = ji20 := (i64_w _).trans hji20
         by_cases c21 : 0 ≤ (ji20)
         ·rw [if_pos c21] at H
          have c21b0 := eq_true c21
          have c21b1 : decide (0 ≤ (ji20)) = true := decide_eq_true c21
          clear c21
          by_cases c22 : (ji20) ≤ (l0.length : Int)
          ·rw [if_pos c22] at H
           have c22b0 := eq_true c22
           have c22b1 : decide ((ji20) ≤ (l0.length : Int)) = true := decide_eq_true c22
           clear c22
           obtain ⟨y180, hy180⟩ : ∃ y_ : List (S106), y_ = (l0.drop ((ji20) : Int).toNat) := ⟨_, rfl⟩
           replace H : (impl_NextMatch.l1 k2 l0 x6_2 x7_2 x8_2 l0 (l0.length : Int) x29_2 y180 (y180.length : Int) 0 x174000_2 ((rd_T106 l0 x29_2).f0) ((rd_T106 l0 x29_2).f1) ((rd_T106 l0 x29_2).f2)) = some (r1, r2) := by first | (rw [hy180]; with_reducible exact H) | (have H2_ := (Option.bind_some _ _).symm.trans H; rw [hy180]; with_reducible exact H2_) | (have H2_ := (Option.bind_some _ _).symm.trans H; with_reducible exact H2_) | with_reducible exact H | (rw [hy180]; exact H) | exact H
           have Ny180 := Aside0.mk hy180
           clear hy180
           have H' := Aside0.mk H
           clear H
           have p178 : 0 ≤ (x29_2 : Int) := of_decide_eq_true (by first | (with_reducible assumption) | assumption)
           have q178 : x29_2 < (l0.length : Int) := of_decide_eq_true (by first | (with_reducible assumption) | assumption)
           obtain ⟨ad178, e178, hx178_0, hx178_1, hx178_2⟩ := at_T106 HR0.out x29_2 p178 q178
           cases e178
           replace hx178_0 := (HB.out.cell (World.block_lt_of_cell? w _ hx178_0)).trans hx178_0
           replace hx178_1 := (HB.out.cell (World.block_lt_of_cell? w _ hx178_1)).trans hx178_1
           replace hx178_2 := (HB.out.cell (World.block_lt_of_cell? w _ hx178_2)).trans hx178_2
           replace p178 := eq_true p178
           replace q178 := eq_true q178
           go_wp2_with (first | ((with_reducible refine gate_dst (N := 10) rfl ?_); (try (refine gate_guard (by rfl) ?_; dsimp only)); refine box_event ?hg (N := 10) ?hd (cs := #[.string (⟨#[]⟩ : ByteArray), .int .i64 0, .int .i64 0]) (t := 106) ?hr ?_; (case hd => rfl); (case hg => rfl); (case hr => first | (go_simp; done) | (go_simp; rfl)); intro gb179 hg w23 hbox hb; have n0_ := Aside0.mk (Kd.R_below (by (with_reducible repeat (first | apply Kd.R_alloc | apply Kd.R_drewN | apply Kd.R_drew)); exact HO_6.out) hb); have n1_ := Aside0.mk (IsS3.below (by repeat (first | (with_reducible first | exact HI173.out | apply IsS3.alloc | apply IsS3.drewN | apply IsS3.drew | apply IsS3.set_0) | exact HI173.out)) hb); have n2_ := Aside0.mk (below_step (by repeat (first | (with_reducible first | exact HB.out | apply below_alloc | apply pw_below_drewN | apply below_drew1 | refine below_set ?_ (IsS3.ge HI173.out)) | exact HB.out)) hb); have n3_ := Aside0.mk (hbox); have n4_ := Aside0.mk ((by rw [hg]; exact (below_size (by repeat (first | (with_reducible first | exact HB.out | apply below_alloc | apply pw_below_drewN | apply below_drew1 | refine below_set ?_ (IsS3.ge HI173.out)) | exact HB.out))) : w.heap.size ≤ gb179)); have n5_ := Aside0.mk ((by rw [hg]; exact (below_size (by repeat (first | (with_reducible first | exact HB.out | apply below_alloc | apply pw_below_drewN | apply below_drew1 | refine below_set ?_ (IsS3.ge HI173.out)) | exact HB.out))) : w.heap.size ≤ gb179)); have n6_ := Aside0.mk ((by rw [hg]; exact Nat.ne_of_lt (IsS3.lt (show IsS3 w _ gb173 x174000_2 from by repeat (first | (with_reducible first | exact HI173.out | apply IsS3.alloc | apply IsS3.drewN | apply IsS3.drew | apply IsS3.set_0) | exact HI173.out))) : gb173 ≠ gb179)); have n7_ := Aside0.mk ((by rw [hg]; exact Nat.ne_of_gt (IsS3.lt (show IsS3 w _ gb173 x174000_2 from by repeat (first | (with_reducible first | exact HI173.out | apply IsS3.alloc | apply IsS3.drewN | apply IsS3.drew | apply IsS3.set_0) | exact HI173.out))) : gb179 ≠ gb173)); clear HO_6; clear HI173; clear HB; have HO_6 := n0_; have HI173 := n1_; have HB := n2_; have BK179 := n3_; have GW179 := n4_; have GE179 := n5_; have NB173_179 := n6_; have NB179_173 := n7_; clear n0_ n1_ n2_ n3_ n4_ n5_ n6_ n7_; clear hb hbox hg; have hnb24 := NB179_173.out; have hnc24 := NB173_179.out; have hcz25_0 : w23.cell? ⟨gb179, 0, none⟩ = some (.string (⟨#[]⟩ : ByteArray)) := (blk_cell BK179.out 0).trans rfl; have hcz25_1 : w23.cell? ⟨gb179, 1, none⟩ = some (.int .i64 0) := (blk_cell BK179.out 1).trans rfl; have hcz25_2 : w23.cell? ⟨gb179, 2, none⟩ = some (.int .i64 0) := (blk_cell BK179.out 2).trans rfl; have hfz25_0 := blk_frozen BK179.out 0; have hfz25_1 := blk_frozen BK179.out 1; have hfz25_2 := blk_frozen BK179.out 2) | ((with_reducible refine gate_store (t := 106) (p := 10) rfl ?_); refine store_event (t := 106) (p := 10) (v := ?vo_w26) (w1 := (((w23.setCell ⟨gb179, 0, none⟩ (.string ((rd_T106 l0 x29_2).f0))).setCell ⟨gb179, 1, none⟩ (.int .i64 ((rd_T106 l0 x29_2).f1))).setCell ⟨gb179, 2, none⟩ (.int .i64 ((rd_T106 l0 x29_2).f2)))) ?hg ?ho ?hn ?hr ?_; (case ho => rfl); (case hg => rfl); (case hn => rfl); (case hr => first | (go_simp; done) | (go_simp; rfl)); intro w26 hw; have n0_ : Aside0 (Kd.R Kd.string 9 w26 w.heap.size (fun _ => True) u6 x6_2) := ⟨(by rw [hw]; exact (by (with_reducible repeat (first | apply Kd.R_alloc | apply Kd.R_drewN | apply Kd.R_drew)); exact Kd.R_mono (Kd.R_far (p := ⟨gb179, 2, none⟩) (Kd.R_far (p := ⟨gb179, 1, none⟩) (Kd.R_far (p := ⟨gb179, 0, none⟩) (Kd.R_types HO_6.out BK179.out (by decide)) (fun _ hk => hk.2) (.string ((rd_T106 l0 x29_2).f0))) (fun _ hk => hk.2) (.int .i64 ((rd_T106 l0 x29_2).f1))) (fun _ hk => hk.2) (.int .i64 ((rd_T106 l0 x29_2).f2))) (fun _ hk => trivial)))⟩; have n1_ : Aside0 (w26.heap[gb179]? = some (.cells #[.string ((rd_T106 l0 x29_2).f0), .int .i64 ((rd_T106 l0 x29_2).f1), .int .i64 ((rd_T106 l0 x29_2).f2)] 106 (0, 0))) := ⟨(by rw [hw]; exact (by (with_reducible repeat (first | refine blk_drewN ?_ _ | refine blk_drew ?_ | refine blk_alloc ?_ _)); refine blk_put (cs := #[.string ((rd_T106 l0 x29_2).f0), .int .i64 ((rd_T106 l0 x29_2).f1), .int .i64 0]) ?_ 2 _ rfl; (with_reducible repeat (first | refine blk_drewN ?_ _ | refine blk_drew ?_ | refine blk_alloc ?_ _)); refine blk_put (cs := #[.string ((rd_T106 l0 x29_2).f0), .int .i64 0, .int .i64 0]) ?_ 1 _ rfl; (with_reducible repeat (first | refine blk_drewN ?_ _ | refine blk_drew ?_ | refine blk_alloc ?_ _)); refine blk_put (cs := #[.string (⟨#[]⟩ : ByteArray), .int .i64 0, .int .i64 0]) ?_ 0 _ rfl; (with_reducible repeat (first | refine blk_drewN ?_ _ | refine blk_drew ?_ | refine blk_alloc ?_ _)); exact BK179.out))⟩; have n2_ : Aside0 (IsS3 w w26 gb173 x174000_2) := ⟨(by rw [hw]; exact (by repeat (first | (with_reducible first | exact HI173.out | apply IsS3.alloc | apply IsS3.drewN | apply IsS3.drew | apply IsS3.set_0 | refine IsS3.far ?_ NB173_179.out _) | exact HI173.out)))⟩; have n3_ : Aside0 (Below w.heap.size w w26) := ⟨(by rw [hw]; exact (by repeat (first | (with_reducible first | exact HB.out | apply below_alloc | apply pw_below_drewN | apply below_drew1 | refine below_set ?_ (IsS3.ge HI173.out) | refine below_set ?_ GE179.out) | exact HB.out)))⟩; clear hw; clear HO_6; clear BK179; clear HI173; clear HB; have HO_6 := n0_; have BK179 := n1_; have HI173 := n2_; have HB := n3_; clear n0_ n1_ n2_ n3_; have q27 : ((ji20) : Int) ≤ ((l0.length : Int) : Int) := of_decide_eq_true (by first | (with_reducible assumption) | assumption); obtain ⟨i027, hi027, _, hsz27, _⟩ := info_parts info106; have hroom27 : l0.length ≤ c0 := HC0.out; have hC27 : Kd.C k106 _ (some ad178) l0.length l0 := HR0.out; have q027 : (0 : Int) ≤ ((ji20) : Int) := of_decide_eq_true (by first | (with_reducible assumption) | assumption); have hcut27 := cut_from (P := Try.prog) 58 106 .i64 Try.underlying58 hi027 3 hsz27 (some ad178) l0.length c0 (ji20) q027 q27; have hr27 := Kd.C_drop (m := ((ji20) : Int).toNat) (c := c0) hC27 (by omega) hroom27; obtain ⟨A27, hA27⟩ : ∃ A1, A1 = (if c0 = ((ji20) : Int).toNat then (some ad178) else ((some ad178) : Option Addr).map (·.add (((ji20) : Int).toNat * 3))) := ⟨_, rfl⟩; obtain ⟨c27, hc27⟩ : ∃ c1, c1 = c0 - ((ji20) : Int).toNat := ⟨_, rfl⟩; have hy27 : y180.length = l0.length - ((ji20) : Int).toNat := (by rw [Ny180.out, List.length_drop] <;> omega); rw [show (l0).drop ((ji20) : Int).toNat = y180 from Ny180.out.symm] at hr27; replace hr27 : Kd.C k106 _ A27 y180.length y180 := (by rw [hA27]; exact hr27); rw [← hy27, ← hA27, ← hc27] at hcut27; have HR183 := Aside0.mk hr27; have HC183 := Aside0.mk (show y180.length ≤ c27 from by rw [hy27, hc27]; exact Nat.sub_le_sub_right hroom27 _); clear hr27 hC27 hroom27 hi027 hsz27 hc27; have KY27 := Aside0.mk hy27; have KA27 := Aside0.mk hA27; clear hy27 hA27; replace q27 := eq_true q27))
           go_loopg [6, 7, 8, 39] k2 (fun kq v6 v7 v8 v39 w' => ∃ (x6_3 : List ByteArray) (x7_3 : Int) (x8_3 : Int) (x39_3 : Int), v7 = .int .i64 x7_3 ∧ v8 = .int .i64 x8_3 ∧ v39 = .int .i64 x39_3 ∧ Aside0 (impl_NextMatch.l1 kq l0 x6_3 x7_3 x8_3 l0 (l0.length : Int) x29_2 y180 (y180.length : Int) x39_3 x174000_2 ((rd_T106 l0 x29_2).f0) ((rd_T106 l0 x29_2).f1) ((rd_T106 l0 x29_2).f2) = some (r1, r2)) ∧ Aside0 (kq ≤ k2) ∧ Aside0 (Kd.R Kd.string 9 w' w.heap.size (fun _ => True) v6 x6_3) ∧ Aside0 (x6_3 = [] → (v6 : Value) = .slice none 0 0) ∧ Aside0 (w'.heap[gb179]? = some (.cells #[.string ((rd_T106 l0 x29_2).f0), .int .i64 ((rd_T106 l0 x29_2).f1), .int .i64 ((rd_T106 l0 x29_2).f2)] 106 (0, 0))) ∧ Aside0 (IsS3 w w' gb173 x174000_2) ∧ Aside0 (Below w.heap.size w w'))
           case atStart => exact ⟨(x6_2), (x7_2), (x8_2), (0), (by first | rfl | (simp; done) | (simp [*]; done)), (by first | rfl | (simp; done) | (simp [*]; done)), (by first | rfl | (simp; done) | (simp [*]; done)), H', ⟨Nat.le_refl _⟩, ⟨by (with_reducible repeat (first | apply Kd.R_alloc | apply Kd.R_drewN | apply Kd.R_drew)); exact HO_6.out⟩, ⟨HZ_6.out⟩, ⟨by (with_reducible repeat (first | refine blk_drewN ?_ _ | refine blk_drew ?_ | refine blk_alloc ?_ _)); exact BK179.out⟩, ⟨by repeat (first | (with_reducible first | exact HI173.out | apply IsS3.alloc | apply IsS3.drewN | apply IsS3.drew | apply IsS3.set_0 | refine IsS3.far ?_ NB173_179.out _) | exact HI173.out)⟩, ⟨by repeat (first | (with_reducible first | exact HB.out | apply below_alloc | apply pw_below_drewN | apply below_drew1 | refine below_set ?_ (IsS3.ge HI173.out) | refine below_set ?_ GE179.out) | exact HB.out)⟩⟩
           case round =>
            clear H'
            try clear c1
            try clear p1
            try clear q1
            try clear hx1
            try clear c2
            try clear p2
            try clear q2
            try clear c3
            try clear c6
            try clear p6
            try clear c7
            try clear c8
            try clear c16
            try clear c17
            try clear c17b0
            try clear p17
            try clear q17
            try clear hx17
            try clear c18
            try clear c18b0
            try clear c19
            try clear c19b0
            try clear c21
            try clear c21b0
            try clear c21b1
            try clear c22
            try clear c22b0
            try clear c22b1
            try clear c24
            try clear c27
            try clear q27
            try clear hcz11_0
            try clear hcz14_0
            try clear hcz25_0
            try clear hcz25_1
            try clear hcz25_2
            try clear hfz11_0
            try clear hfz14_0
            try clear hfz25_0
            try clear hfz25_1
            try clear hfz25_2
            try clear hx178_0
            try clear hx178_1
            try clear hx178_2
            try clear p178
            try clear p2
            try clear q027
            try clear q178
            try clear q27
            obtain ⟨x6_3, x7_3, x8_3, x39_3, rfl, rfl, rfl, HA, HK3, HO_6, HZ_6, BK179, HI173, HB⟩ := hrel
            cases gk with
            | zero => exact absurd HA.out (by simp [impl_NextMatch.l1])
            | succ k3 =>
             have H := HA.out
             clear HA
             simp only [impl_NextMatch.l1] at H
             by_cases c28 : x39_3 < (y180.length : Int)
             ·rw [if_pos c28] at H
              have c28b0 : decide (x39_3 < (y180.length : Int)) = true := decide_eq_true c28
              clear c28
              by_cases c29 : 0 ≤ x39_3
              ·rw [if_pos c29] at H
               have c29b0 : decide (0 ≤ x39_3) = true := decide_eq_true c29
               clear c29
               by_cases c30 : x39_3 < (y180.length : Int)
               ·rw [if_pos c30] at H
                have c30b0 : decide (x39_3 < (y180.length : Int)) = true := decide_eq_true c30
                clear c30
                replace H := Option.bind_eq_some_iff.mp H
                obtain ⟨t186, A310, H⟩ := H
                replace H : ((impl_Player_wide.f ((rd_T106 l0 x29_2).f0) ((rd_T106 l0 x29_2).f1) ((rd_T106 l0 x29_2).f2) x174000_2).bind fun t187 => ((impl_Player_wide.f ((rd_T106 y180 x39_3).f0) ((rd_T106 y180 x39_3).f1) ((rd_T106 y180 x39_3).f2) x174000_2).bind fun t188 => (if t186 > (mn t187 t188) then (impl_NextMatch.l1 k3 l0 x6_3 x7_3 x8_3 l0 (l0.length : Int) x29_2 y180 (y180.length : Int) (wrap64 (x39_3 + 1)) x174000_2 ((rd_T106 l0 x29_2).f0) ((rd_T106 l0 x29_2).f1) ((rd_T106 l0 x29_2).f2)) else (if (x6_3.length : Int) = 0 then (impl_NextMatch.l1 k3 l0 (([((rd_T106 l0 x29_2).f0), (rd_T106 y180 x39_3).f0] : List ByteArray)) (wrap64 (((rd_T106 l0 x29_2).f2) + ((rd_T106 y180 x39_3).f2))) t186 l0 (l0.length : Int) x29_2 y180 (y180.length : Int) (wrap64 (x39_3 + 1)) x174000_2 ((rd_T106 l0 x29_2).f0) ((rd_T106 l0 x29_2).f1) ((rd_T106 l0 x29_2).f2)) else ((cmp_Compare_int.f (wrap64 (((rd_T106 l0 x29_2).f2) + ((rd_T106 y180 x39_3).f2))) x7_3).bind fun t192 => ((cmp_Compare_int.f t186 x8_3).bind fun t193 => ((cmp_Or_int.f k3 (([t192, t193] : List Int))).bind fun t197 => (if t197 < 0 then (impl_NextMatch.l1 k3 l0 (([((rd_T106 l0 x29_2).f0), (rd_T106 y180 x39_3).f0] : List ByteArray)) (wrap64 (((rd_T106 l0 x29_2).f2) + ((rd_T106 y180 x39_3).f2))) t186 l0 (l0.length : Int) x29_2 y180 (y180.length : Int) (wrap64 (x39_3 + 1)) x174000_2 ((rd_T106 l0 x29_2).f0) ((rd_T106 l0 x29_2).f1) ((rd_T106 l0 x29_2).f2)) else (impl_NextMatch.l1 k3 l0 x6_3 x7_3 x8_3 l0 (l0.length : Int) x29_2 y180 (y180.length : Int) (wrap64 (x39_3 + 1)) x174000_2 ((rd_T106 l0 x29_2).f0) ((rd_T106 l0 x29_2).f1) ((rd_T106 l0 x29_2).f2)))))))))) = some (r1, r2) := H
                have A31 := Aside0.mk A310
                clear A310
                replace H := Option.bind_eq_some_iff.mp H
                obtain ⟨t187, A320, H⟩ := H
                replace H : ((impl_Player_wide.f ((rd_T106 y180 x39_3).f0) ((rd_T106 y180 x39_3).f1) ((rd_T106 y180 x39_3).f2) x174000_2).bind fun t188 => (if t186 > (mn t187 t188) then (impl_NextMatch.l1 k3 l0 x6_3 x7_3 x8_3 l0 (l0.length : Int) x29_2 y180 (y180.length : Int) (wrap64 (x39_3 + 1)) x174000_2 ((rd_T106 l0 x29_2).f0) ((rd_T106 l0 x29_2).f1) ((rd_T106 l0 x29_2).f2)) else (if (x6_3.length : Int) = 0 then (impl_NextMatch.l1 k3 l0 (([((rd_T106 l0 x29_2).f0), (rd_T106 y180 x39_3).f0] : List ByteArray)) (wrap64 (((rd_T106 l0 x29_2).f2) + ((rd_T106 y180 x39_3).f2))) t186 l0 (l0.length : Int) x29_2 y180 (y180.length : Int) (wrap64 (x39_3 + 1)) x174000_2 ((rd_T106 l0 x29_2).f0) ((rd_T106 l0 x29_2).f1) ((rd_T106 l0 x29_2).f2)) else ((cmp_Compare_int.f (wrap64 (((rd_T106 l0 x29_2).f2) + ((rd_T106 y180 x39_3).f2))) x7_3).bind fun t192 => ((cmp_Compare_int.f t186 x8_3).bind fun t193 => ((cmp_Or_int.f k3 (([t192, t193] : List Int))).bind fun t197 => (if t197 < 0 then (impl_NextMatch.l1 k3 l0 (([((rd_T106 l0 x29_2).f0), (rd_T106 y180 x39_3).f0] : List ByteArray)) (wrap64 (((rd_T106 l0 x29_2).f2) + ((rd_T106 y180 x39_3).f2))) t186 l0 (l0.length : Int) x29_2 y180 (y180.length : Int) (wrap64 (x39_3 + 1)) x174000_2 ((rd_T106 l0 x29_2).f0) ((rd_T106 l0 x29_2).f1) ((rd_T106 l0 x29_2).f2)) else (impl_NextMatch.l1 k3 l0 x6_3 x7_3 x8_3 l0 (l0.length : Int) x29_2 y180 (y180.length : Int) (wrap64 (x39_3 + 1)) x174000_2 ((rd_T106 l0 x29_2).f0) ((rd_T106 l0 x29_2).f1) ((rd_T106 l0 x29_2).f2))))))))) = some (r1, r2) := H
                have A32 := Aside0.mk A320
                clear A320
                replace H := Option.bind_eq_some_iff.mp H
                obtain ⟨t188, A330, H⟩ := H
                replace H : (if t186 > (mn t187 t188) then (impl_NextMatch.l1 k3 l0 x6_3 x7_3 x8_3 l0 (l0.length : Int) x29_2 y180 (y180.length : Int) (wrap64 (x39_3 + 1)) x174000_2 ((rd_T106 l0 x29_2).f0) ((rd_T106 l0 x29_2).f1) ((rd_T106 l0 x29_2).f2)) else (if (x6_3.length : Int) = 0 then (impl_NextMatch.l1 k3 l0 (([((rd_T106 l0 x29_2).f0), (rd_T106 y180 x39_3).f0] : List ByteArray)) (wrap64 (((rd_T106 l0 x29_2).f2) + ((rd_T106 y180 x39_3).f2))) t186 l0 (l0.length : Int) x29_2 y180 (y180.length : Int) (wrap64 (x39_3 + 1)) x174000_2 ((rd_T106 l0 x29_2).f0) ((rd_T106 l0 x29_2).f1) ((rd_T106 l0 x29_2).f2)) else ((cmp_Compare_int.f (wrap64 (((rd_T106 l0 x29_2).f2) + ((rd_T106 y180 x39_3).f2))) x7_3).bind fun t192 => ((cmp_Compare_int.f t186 x8_3).bind fun t193 => ((cmp_Or_int.f k3 (([t192, t193] : List Int))).bind fun t197 => (if t197 < 0 then (impl_NextMatch.l1 k3 l0 (([((rd_T106 l0 x29_2).f0), (rd_T106 y180 x39_3).f0] : List ByteArray)) (wrap64 (((rd_T106 l0 x29_2).f2) + ((rd_T106 y180 x39_3).f2))) t186 l0 (l0.length : Int) x29_2 y180 (y180.length : Int) (wrap64 (x39_3 + 1)) x174000_2 ((rd_T106 l0 x29_2).f0) ((rd_T106 l0 x29_2).f1) ((rd_T106 l0 x29_2).f2)) else (impl_NextMatch.l1 k3 l0 x6_3 x7_3 x8_3 l0 (l0.length : Int) x29_2 y180 (y180.length : Int) (wrap64 (x39_3 + 1)) x174000_2 ((rd_T106 l0 x29_2).f0) ((rd_T106 l0 x29_2).f1) ((rd_T106 l0 x29_2).f2)))))))) = some (r1, r2) := H
                have A33 := Aside0.mk A330
                clear A330
                obtain ⟨ji34, hji34⟩ : ∃ j_ : Int, (mn t187 t188) = j_ := ⟨_, rfl⟩
                replace H : (if t186 > (ji34) then (impl_NextMatch.l1 k3 l0 x6_3 x7_3 x8_3 l0 (l0.length : Int) x29_2 y180 (y180.length : Int) (wrap64 (x39_3 + 1)) x174000_2 ((rd_T106 l0 x29_2).f0) ((rd_T106 l0 x29_2).f1) ((rd_T106 l0 x29_2).f2)) else (if (x6_3.length : Int) = 0 then (impl_NextMatch.l1 k3 l0 (([((rd_T106 l0 x29_2).f0), (rd_T106 y180 x39_3).f0] : List ByteArray)) (wrap64 (((rd_T106 l0 x29_2).f2) + ((rd_T106 y180 x39_3).f2))) t186 l0 (l0.length : Int) x29_2 y180 (y180.length : Int) (wrap64 (x39_3 + 1)) x174000_2 ((rd_T106 l0 x29_2).f0) ((rd_T106 l0 x29_2).f1) ((rd_T106 l0 x29_2).f2)) else ((cmp_Compare_int.f (wrap64 (((rd_T106 l0 x29_2).f2) + ((rd_T106 y180 x39_3).f2))) x7_3).bind fun t192 => ((cmp_Compare_int.f t186 x8_3).bind fun t193 => ((cmp_Or_int.f k3 (([t192, t193] : List Int))).bind fun t197 => (if t197 < 0 then (impl_NextMatch.l1 k3 l0 (([((rd_T106 l0 x29_2).f0), (rd_T106 y180 x39_3).f0] : List ByteArray)) (wrap64 (((rd_T106 l0 x29_2).f2) + ((rd_T106 y180 x39_3).f2))) t186 l0 (l0.length : Int) x29_2 y180 (y180.length : Int) (wrap64 (x39_3 + 1)) x174000_2 ((rd_T106 l0 x29_2).f0) ((rd_T106 l0 x29_2).f1) ((rd_T106 l0 x29_2).f2)) else (impl_NextMatch.l1 k3 l0 x6_3 x7_3 x8_3 l0 (l0.length : Int) x29_2 y180 (y180.length : Int) (wrap64 (x39_3 + 1)) x174000_2 ((rd_T106 l0 x29_2).f0) ((rd_T106 l0 x29_2).f1) ((rd_T106 l0 x29_2).f2)))))))) = some (r1, r2) := by first | (rw [hji34] at H; exact H) | (simp only [hji34] at H ⊢; exact H)
                (try rw [hji34] at A31)
                (try rw [hji34] at A32)
                (try rw [hji34] at A33)
                have hji34_ : (if t188 < t187 then t188 else t187) = ji34 := hji34
                by_cases c35 : t186 > (ji34)
                ·rw [if_pos c35] at H
                 have c35b0 : decide ((ji34) < t186) = true := decide_eq_true c35
                 clear c35
                 have H' := Aside0.mk H
                 clear H
                 have p184 : 0 ≤ (x39_3 : Int) := of_decide_eq_true (by first | (with_reducible assumption) | assumption)
                 have q184 : x39_3 < (y180.length : Int) := of_decide_eq_true (by first | (with_reducible assumption) | assumption)
                 obtain ⟨ad184, e184, hx184_0, hx184_1, hx184_2⟩ := at_T106 HR183.out x39_3 p184 q184
                 cases e184
                 replace hx184_0 := (HB.out.cell (World.block_lt_of_cell? w _ hx184_0)).trans hx184_0
                 replace hx184_1 := (HB.out.cell (World.block_lt_of_cell? w _ hx184_1)).trans hx184_1
                 replace hx184_2 := (HB.out.cell (World.block_lt_of_cell? w _ hx184_2)).trans hx184_2
                 replace p184 := eq_true p184
                 replace q184 := eq_true q184
                 try go_wp2_with (first | ((with_reducible refine gate_dst (N := 12) rfl ?_); (try (refine gate_guard (by rfl) ?_; dsimp only)); refine box_event ?hg (N := 12) ?hd (cs := #[.string (⟨#[]⟩ : ByteArray), .int .i64 0, .int .i64 0]) (t := 106) ?hr ?_; (case hd => rfl); (case hg => rfl); (case hr => first | (go_simp; done) | (go_simp; rfl)); intro gb185 hg w36 hbox hb; have n0_ := Aside0.mk (Kd.R_below (by (with_reducible repeat (first | apply Kd.R_alloc | apply Kd.R_drewN | apply Kd.R_drew)); exact HO_6.out) hb); have n1_ := Aside0.mk (blk_below (g := gb179) (o := .cells #[.string ((rd_T106 l0 x29_2).f0), .int .i64 ((rd_T106 l0 x29_2).f1), .int .i64 ((rd_T106 l0 x29_2).f2)] 106 (0, 0)) (by (with_reducible repeat (first | refine blk_drewN ?_ _ | refine blk_drew ?_ | refine blk_alloc ?_ _)); exact BK179.out) hb); have n2_ := Aside0.mk (IsS3.below (by repeat (first | (with_reducible first | exact HI173.out | apply IsS3.alloc | apply IsS3.drewN | apply IsS3.drew | apply IsS3.set_0 | refine IsS3.far ?_ NB173_179.out _) | exact HI173.out)) hb); have n3_ := Aside0.mk (below_step (by repeat (first | (with_reducible first | exact HB.out | apply below_alloc | apply pw_below_drewN | apply below_drew1 | refine below_set ?_ (IsS3.ge HI173.out) | refine below_set ?_ GE179.out) | exact HB.out)) hb); have n4_ := Aside0.mk (hbox); have n5_ := Aside0.mk ((by rw [hg]; exact (below_size (by repeat (first | (with_reducible first | exact HB.out | apply below_alloc | apply pw_below_drewN | apply below_drew1 | refine below_set ?_ (IsS3.ge HI173.out) | refine below_set ?_ GE179.out) | exact HB.out))) : w.heap.size ≤ gb185)); have n6_ := Aside0.mk ((by rw [hg]; exact (below_size (by repeat (first | (with_reducible first | exact HB.out | apply below_alloc | apply pw_below_drewN | apply below_drew1 | refine below_set ?_ (IsS3.ge HI173.out) | refine below_set ?_ GE179.out) | exact HB.out))) : w.heap.size ≤ gb185)); have n7_ := Aside0.mk ((by rw [hg]; exact Nat.ne_of_lt (blk_lt (g := gb179) (o := .cells #[.string ((rd_T106 l0 x29_2).f0), .int .i64 ((rd_T106 l0 x29_2).f1), .int .i64 ((rd_T106 l0 x29_2).f2)] 106 (0, 0)) (by (with_reducible repeat (first | refine blk_drewN ?_ _ | refine blk_drew ?_ | refine blk_alloc ?_ _)); exact BK179.out)) : gb179 ≠ gb185)); have n8_ := Aside0.mk ((by rw [hg]; exact Nat.ne_of_gt (blk_lt (g := gb179) (o := .cells #[.string ((rd_T106 l0 x29_2).f0), .int .i64 ((rd_T106 l0 x29_2).f1), .int .i64 ((rd_T106 l0 x29_2).f2)] 106 (0, 0)) (by (with_reducible repeat (first | refine blk_drewN ?_ _ | refine blk_drew ?_ | refine blk_alloc ?_ _)); exact BK179.out)) : gb185 ≠ gb179)); have n9_ := Aside0.mk ((by rw [hg]; exact Nat.ne_of_lt (IsS3.lt (show IsS3 w _ gb173 x174000_2 from by repeat (first | (with_reducible first | exact HI173.out | apply IsS3.alloc | apply IsS3.drewN | apply IsS3.drew | apply IsS3.set_0 | refine IsS3.far ?_ NB173_179.out _) | exact HI173.out))) : gb173 ≠ gb185)); have n10_ := Aside0.mk ((by rw [hg]; exact Nat.ne_of_gt (IsS3.lt (show IsS3 w _ gb173 x174000_2 from by repeat (first | (with_reducible first | exact HI173.out | apply IsS3.alloc | apply IsS3.drewN | apply IsS3.drew | apply IsS3.set_0 | refine IsS3.far ?_ NB173_179.out _) | exact HI173.out))) : gb185 ≠ gb173)); clear HO_6; clear BK179; clear HI173; clear HB; have HO_6 := n0_; have BK179 := n1_; have HI173 := n2_; have HB := n3_; have BK185 := n4_; have GW185 := n5_; have GE185 := n6_; have NB179_185 := n7_; have NB185_179 := n8_; have NB173_185 := n9_; have NB185_173 := n10_; clear n0_ n1_ n2_ n3_ n4_ n5_ n6_ n7_ n8_ n9_ n10_; clear hb hbox hg; have hnb37 := NB185_179.out; have hnc37 := NB179_185.out; have hnb38 := NB185_173.out; have hnc38 := NB173_185.out; have hcz39_0 : w36.cell? ⟨gb185, 0, none⟩ = some (.string (⟨#[]⟩ : ByteArray)) := (blk_cell BK185.out 0).trans rfl; have hcz39_1 : w36.cell? ⟨gb185, 1, none⟩ = some (.int .i64 0) := (blk_cell BK185.out 1).trans rfl; have hcz39_2 : w36.cell? ⟨gb185, 2, none⟩ = some (.int .i64 0) := (blk_cell BK185.out 2).trans rfl; have hfz39_0 := blk_frozen BK185.out 0; have hfz39_1 := blk_frozen BK185.out 1; have hfz39_2 := blk_frozen BK185.out 2; have hnb40 := NB179_173.out; have hnc40 := NB173_179.out; have hcz41_0 : w36.cell? ⟨gb179, 0, none⟩ = some (.string ((rd_T106 l0 x29_2).f0)) := (blk_cell BK179.out 0).trans rfl; have hcz41_1 : w36.cell? ⟨gb179, 1, none⟩ = some (.int .i64 ((rd_T106 l0 x29_2).f1)) := (blk_cell BK179.out 1).trans rfl; have hcz41_2 : w36.cell? ⟨gb179, 2, none⟩ = some (.int .i64 ((rd_T106 l0 x29_2).f2)) := (blk_cell BK179.out 2).trans rfl; have hfz41_0 := blk_frozen BK179.out 0; have hfz41_1 := blk_frozen BK179.out 1; have hfz41_2 := blk_frozen BK179.out 2) | ((with_reducible refine gate_callee (f := 78) rfl ?_); refine goesL_ (some 48) rfl rfl Try.func78 (by kernel_rfl) rfl #[.int .i64 (wrap64 (((rd_T106 l0 x29_2).f1) - ((rd_T106 y180 x39_3).f1)))] rfl (by (try simp only [List.map_toArray, List.map_cons, List.map_nil]); first | done | rfl | (simp only [List.length_drop, List.length_take]; rfl)) ?_; (with_reducible refine (impl_size.calls (wrap64 (((rd_T106 l0 x29_2).f1) - ((rd_T106 y180 x39_3).f1))) t186 _ A31.out).mono ?_); rintro e w42 ⟨rfl, hb⟩; refine ⟨_, rfl, ?_⟩; have n0_ := Aside0.mk (Kd.R_below (by (with_reducible repeat (first | apply Kd.R_alloc | apply Kd.R_drewN | apply Kd.R_drew)); exact (Kd.R_mono (Kd.R_far (p := ⟨gb185, 2, none⟩) (Kd.R_far (p := ⟨gb185, 1, none⟩) (Kd.R_far (p := ⟨gb185, 0, none⟩) (Kd.R_types HO_6.out BK185.out (by decide)) (fun _ hk => hk.2) (.string ((rd_T106 y180 x39_3).f0))) (fun _ hk => hk.2) (.int .i64 ((rd_T106 y180 x39_3).f1))) (fun _ hk => hk.2) (.int .i64 ((rd_T106 y180 x39_3).f2))) (fun _ h_ => h_.1))) hb); have n1_ := Aside0.mk (blk_below (g := gb179) (o := .cells #[.string ((rd_T106 l0 x29_2).f0), .int .i64 ((rd_T106 l0 x29_2).f1), .int .i64 ((rd_T106 l0 x29_2).f2)] 106 (0, 0)) (by (with_reducible repeat (first | refine blk_drewN ?_ _ | refine blk_drew ?_ | refine blk_alloc ?_ _)); refine blk_far ?_ NB179_185.out _; (with_reducible repeat (first | refine blk_drewN ?_ _ | refine blk_drew ?_ | refine blk_alloc ?_ _)); refine blk_far ?_ NB179_185.out _; (with_reducible repeat (first | refine blk_drewN ?_ _ | refine blk_drew ?_ | refine blk_alloc ?_ _)); refine blk_far ?_ NB179_185.out _; (with_reducible repeat (first | refine blk_drewN ?_ _ | refine blk_drew ?_ | refine blk_alloc ?_ _)); exact BK179.out) hb); have n2_ := Aside0.mk (IsS3.below (show IsS3 w (((w36.setCell ⟨gb185, 0, none⟩ (.string ((rd_T106 y180 x39_3).f0))).setCell ⟨gb185, 1, none⟩ (.int .i64 ((rd_T106 y180 x39_3).f1))).setCell ⟨gb185, 2, none⟩ (.int .i64 ((rd_T106 y180 x39_3).f2))) gb173 x174000_2 from by repeat (first | (with_reducible first | exact HI173.out | apply IsS3.alloc | apply IsS3.drewN | apply IsS3.drew | apply IsS3.set_0 | refine IsS3.far ?_ NB173_179.out _ | refine IsS3.far ?_ NB173_185.out _) | exact HI173.out)) hb); have n3_ := Aside0.mk (blk_below (g := gb185) (o := .cells #[.string ((rd_T106 y180 x39_3).f0), .int .i64 ((rd_T106 y180 x39_3).f1), .int .i64 ((rd_T106 y180 x39_3).f2)] 106 (0, 0)) (by (with_reducible repeat (first | refine blk_drewN ?_ _ | refine blk_drew ?_ | refine blk_alloc ?_ _)); refine blk_put (cs := #[.string ((rd_T106 y180 x39_3).f0), .int .i64 ((rd_T106 y180 x39_3).f1), .int .i64 0]) ?_ 2 _ rfl; (with_reducible repeat (first | refine blk_drewN ?_ _ | refine blk_drew ?_ | refine blk_alloc ?_ _)); refine blk_put (cs := #[.string ((rd_T106 y180 x39_3).f0), .int .i64 0, .int .i64 0]) ?_ 1 _ rfl; (with_reducible repeat (first | refine blk_drewN ?_ _ | refine blk_drew ?_ | refine blk_alloc ?_ _)); refine blk_put (cs := #[.string (⟨#[]⟩ : ByteArray), .int .i64 0, .int .i64 0]) ?_ 0 _ rfl; (with_reducible repeat (first | refine blk_drewN ?_ _ | refine blk_drew ?_ | refine blk_alloc ?_ _)); exact BK185.out) hb); have n4_ := Aside0.mk (below_step (by repeat (first | (with_reducible first | exact HB.out | apply below_alloc | apply pw_below_drewN | apply below_drew1 | refine below_set ?_ (IsS3.ge HI173.out) | refine below_set ?_ GE179.out | refine below_set ?_ GE185.out) | exact HB.out)) hb); clear HO_6; clear BK179; clear HI173; clear BK185; clear HB; have HO_6 := n0_; have BK179 := n1_; have HI173 := n2_; have BK185 := n3_; have HB := n4_; clear n0_ n1_ n2_ n3_ n4_; (try clear hb); (try clear hb2); (try clear hk); (try clear hi)))
                 have n0_ := Aside0.mk (Kd.R_drew HO_6.out)
                 have n1_ := Aside0.mk (blk_drew BK179.out)
                 have n2_ := Aside0.mk (blk_drew BK185.out)
                 have n3_ := Aside0.mk (IsS3.drew HI173.out)
                 have n4_ := Aside0.mk (below_drew1 HB.out)
                 clear HO_6
                 clear BK179
                 clear BK185
                 clear HI173
                 clear HB
                 have HO_6 := n0_
                 have BK179 := n1_
                 have BK185 := n2_
                 have HI173 := n3_
                 have HB := n4_
                 clear n0_ n1_ n2_ n3_ n4_
                 refine start_ (n := 9) (S := fun w' => w'.cell? ⟨gb179, 0, none⟩ = some (.string ((rd_T106 l0 x29_2).f0)) ∧ w'.cell? ⟨gb179, 1, none⟩ = some (.int .i64 ((rd_T106 l0 x29_2).f1)) ∧ w'.cell? ⟨gb179, 2, none⟩ = some (.int .i64 ((rd_T106 l0 x29_2).f2)) ∧ w'.cell? ⟨gb173, 0, none⟩ = some (.int .i64 x174000_2) ∧ w'.cell? ⟨gb185, 0, none⟩ = some (.string ((rd_T106 y180 x39_3).f0)) ∧ w'.cell? ⟨gb185, 1, none⟩ = some (.int .i64 ((rd_T106 y180 x39_3).f1)) ∧ w'.cell? ⟨gb185, 2, none⟩ = some (.int .i64 ((rd_T106 y180 x39_3).f2))) (ds := []) #[false, false, false, false, false, false, false, false, false] (by kernel_rfl) rfl rfl ⟨(blk_cell BK179.out 0).trans rfl, (blk_cell BK179.out 1).trans rfl, (blk_cell BK179.out 2).trans rfl, (blk_cell HI173.out.1 0).trans rfl, (blk_cell BK185.out 0).trans rfl, (blk_cell BK185.out 1).trans rfl, (blk_cell BK185.out 2).trans rfl⟩ (fun hHeld => ?_); refine with_tabW impl_NextMatch.tab12 impl_NextMatch.bits12 (fun HT_ HW_ => ?_)
                 generalize w42.drew = w43 at HO_6 BK179 BK185 HI173 HB hHeld ⊢
                 refine pure_ (i := 0) (N := some 49) (v := ?_) (a' := ?_) #[true, false, false, false, false, false, false, false, false] rfl rfl (any_of HT_.out (by kernel_rfl)) (fun _ _ _ h => h) (Or.inl ⟨by rfl, ?_⟩) ?_ ?_
                 rotate_left
                 ·intro w'
                  go_simp
                  with_reducible rfl
                 rotate_left
                 ·simp only [Act.put, List.setIfInBounds_toArray, List.set_cons_zero, List.set_cons_succ, i64_w, i32_w]
                  rfl
                 refine take_ (i := 1) (N := some 50) (v := ?_) (a' := ?_) #[true, true, false, false, false, false, false, false, false] rfl rfl (take_ofW HT_.out HW_.out (by kernel_rfl)) (fun _ _ _ h => h) (Or.inl ⟨by rfl, ?_⟩) hHeld ?_ ?_
                 rotate_left
                 ·rintro w' ⟨s0, s1, s2, s3, s4, s5, s6⟩
                  go_simp
                  with_reducible rfl
                 rotate_left
                 ·simp only [Act.put, List.setIfInBounds_toArray, List.set_cons_zero, List.set_cons_succ, i64_w, i32_w]
                  rfl
                 refine take_ (i := 2) (N := some 51) (v := ?_) (a' := ?_) #[true, true, true, false, false, false, false, false, false] rfl rfl (take_ofW HT_.out HW_.out (by kernel_rfl)) (fun _ _ _ h => h) (Or.inl ⟨by rfl, ?_⟩) hHeld ?_ ?_
                 rotate_left
                 ·rintro w' ⟨s0, s1, s2, s3, s4, s5, s6⟩
                  go_simp
                  with_reducible rfl
                 rotate_left
                 ·simp only [Act.put, List.setIfInBounds_toArray, List.set_cons_zero, List.set_cons_succ, i64_w, i32_w]
                  rfl
                 refine take_ (i := 4) (N := some 53) (v := ?_) (a' := ?_) #[true, true, true, false, true, false, false, false, false] rfl rfl (take_ofW HT_.out HW_.out (by kernel_rfl)) (fun _ _ _ h => h) (Or.inl ⟨by rfl, ?_⟩) hHeld ?_ ?_
                 rotate_left
                 ·rintro w' ⟨s0, s1, s2, s3, s4, s5, s6⟩
                  go_simp
                  with_reducible rfl
                 rotate_left
                 ·simp only [Act.put, List.setIfInBounds_toArray, List.set_cons_zero, List.set_cons_succ, i64_w, i32_w]
                  rfl
                 refine take_ (i := 5) (N := some 54) (v := ?_) (a' := ?_) #[true, true, true, false, true, true, false, false, false] rfl rfl (take_ofW HT_.out HW_.out (by kernel_rfl)) (fun _ _ _ h => h) (Or.inl ⟨by rfl, ?_⟩) hHeld ?_ ?_
                 rotate_left
                 ·rintro w' ⟨s0, s1, s2, s3, s4, s5, s6⟩
                  go_simp
                  with_reducible rfl
                 rotate_left
                 ·simp only [Act.put, List.setIfInBounds_toArray, List.set_cons_zero, List.set_cons_succ, i64_w, i32_w]
                  rfl
                 refine one_ (i := 3) (N := some 52) #[true, true, true, true, true, true, false, false, false] rfl rfl (one_of HT_.out (by kernel_rfl)) (by decide) (fun K hK => ?_)
                 refine goes_ Try.func79 (by kernel_rfl) rfl #[.agg #[.string ((rd_T106 l0 x29_2).f0), .int .i64 ((rd_T106 l0 x29_2).f1), .int .i64 ((rd_T106 l0 x29_2).f2)], .int .i64 x174000_2] (by rfl) rfl rfl (by (try simp only [List.map_toArray, List.map_cons, List.map_nil]); first | done | rfl | (simp only [List.length_drop, List.length_take]; rfl)) ?_
                 with_reducible refine (impl_Player_wide.calls ((rd_T106 l0 x29_2).f0) ((rd_T106 l0 x29_2).f1) ((rd_T106 l0 x29_2).f2) x174000_2 t187 _ A32.out).mono ?_
                 rintro e w44 ⟨rfl, hb⟩
                 refine ⟨_, rfl, ?_⟩
                 have n0_ := Aside0.mk (Kd.R_below (by (with_reducible repeat (first | apply Kd.R_alloc | apply Kd.R_drewN | apply Kd.R_drew)); exact HO_6.out) hb)
                 have n1_ := Aside0.mk (blk_below (g := gb179) (o := .cells #[.string ((rd_T106 l0 x29_2).f0), .int .i64 ((rd_T106 l0 x29_2).f1), .int .i64 ((rd_T106 l0 x29_2).f2)] 106 (0, 0)) (by (with_reducible repeat (first | refine blk_drewN ?_ _ | refine blk_drew ?_ | refine blk_alloc ?_ _)); exact BK179.out) hb)
                 have n2_ := Aside0.mk (IsS3.below (by repeat (first | (with_reducible first | exact HI173.out | apply IsS3.alloc | apply IsS3.drewN | apply IsS3.drew | apply IsS3.set_0 | refine IsS3.far ?_ NB173_179.out _ | refine IsS3.far ?_ NB173_185.out _) | exact HI173.out)) hb)
                 have n3_ := Aside0.mk (blk_below (g := gb185) (o := .cells #[.string ((rd_T106 y180 x39_3).f0), .int .i64 ((rd_T106 y180 x39_3).f1), .int .i64 ((rd_T106 y180 x39_3).f2)] 106 (0, 0)) (by (with_reducible repeat (first | refine blk_drewN ?_ _ | refine blk_drew ?_ | refine blk_alloc ?_ _)); exact BK185.out) hb)
                 have n4_ := Aside0.mk (below_step (by repeat (first | (with_reducible first | exact HB.out | apply below_alloc | apply pw_below_drewN | apply below_drew1 | refine below_set ?_ (IsS3.ge HI173.out) | refine below_set ?_ GE179.out | refine below_set ?_ GE185.out) | exact HB.out)) hb)
                 clear HO_6
                 clear BK179
                 clear HI173
                 clear BK185
                 clear HB
                 have HO_6 := n0_
                 have BK179 := n1_
                 have HI173 := n2_
                 have BK185 := n3_
                 have HB := n4_
                 clear n0_ n1_ n2_ n3_ n4_
                 (try clear hb)
                 (try clear hb2)
                 (try clear hk)
                 (try clear hi)
                 refine hK.out _ _ ⟨(blk_cell BK179.out 0).trans rfl, (blk_cell BK179.out 1).trans rfl, (blk_cell BK179.out 2).trans rfl, (blk_cell HI173.out.1 0).trans rfl, (blk_cell BK185.out 0).trans rfl, (blk_cell BK185.out 1).trans rfl, (blk_cell BK185.out 2).trans rfl⟩ (fun hHeld => ?_)
                 clear hK K
                 refine norm_ (a' := ?_) ?_ ?_
                 rotate_left
                 ·show Act.put _ (some 52) _ = _
                  simp only [Act.put, List.setIfInBounds_toArray, List.set_cons_zero, List.set_cons_succ, i64_w, i32_w]
                  rfl
                 refine one_ (i := 6) (N := some 55) #[true, true, true, true, true, true, true, false, false] rfl rfl (one_of HT_.out (by kernel_rfl)) (by decide) (fun K hK => ?_)
                 refine goes_ Try.func79 (by kernel_rfl) rfl #[.agg #[.string ((rd_T106 y180 x39_3).f0), .int .i64 ((rd_T106 y180 x39_3).f1), .int .i64 ((rd_T106 y180 x39_3).f2)], .int .i64 x174000_2] (by rfl) rfl rfl (by (try simp only [List.map_toArray, List.map_cons, List.map_nil]); first | done | rfl | (simp only [List.length_drop, List.length_take]; rfl)) ?_
                 with_reducible refine (impl_Player_wide.calls ((rd_T106 y180 x39_3).f0) ((rd_T106 y180 x39_3).f1) ((rd_T106 y180 x39_3).f2) x174000_2 t188 _ A33.out).mono ?_
                 rintro e w45 ⟨rfl, hb⟩
                 refine ⟨_, rfl, ?_⟩
                 have n0_ := Aside0.mk (Kd.R_below (by (with_reducible repeat (first | apply Kd.R_alloc | apply Kd.R_drewN | apply Kd.R_drew)); exact HO_6.out) hb)
                 have n1_ := Aside0.mk (blk_below (g := gb179) (o := .cells #[.string ((rd_T106 l0 x29_2).f0), .int .i64 ((rd_T106 l0 x29_2).f1), .int .i64 ((rd_T106 l0 x29_2).f2)] 106 (0, 0)) (by (with_reducible repeat (first | refine blk_drewN ?_ _ | refine blk_drew ?_ | refine blk_alloc ?_ _)); exact BK179.out) hb)
                 have n2_ := Aside0.mk (IsS3.below (by repeat (first | (with_reducible first | exact HI173.out | apply IsS3.alloc | apply IsS3.drewN | apply IsS3.drew | apply IsS3.set_0 | refine IsS3.far ?_ NB173_179.out _ | refine IsS3.far ?_ NB173_185.out _) | exact HI173.out)) hb)
                 have n3_ := Aside0.mk (blk_below (g := gb185) (o := .cells #[.string ((rd_T106 y180 x39_3).f0), .int .i64 ((rd_T106 y180 x39_3).f1), .int .i64 ((rd_T106 y180 x39_3).f2)] 106 (0, 0)) (by (with_reducible repeat (first | refine blk_drewN ?_ _ | refine blk_drew ?_ | refine blk_alloc ?_ _)); exact BK185.out) hb)
                 have n4_ := Aside0.mk (below_step (by repeat (first | (with_reducible first | exact HB.out | apply below_alloc | apply pw_below_drewN | apply below_drew1 | refine below_set ?_ (IsS3.ge HI173.out) | refine below_set ?_ GE179.out | refine below_set ?_ GE185.out) | exact HB.out)) hb)
                 clear HO_6
                 clear BK179
                 clear HI173
                 clear BK185
                 clear HB
                 have HO_6 := n0_
                 have BK179 := n1_
                 have HI173 := n2_
                 have BK185 := n3_
                 have HB := n4_
                 clear n0_ n1_ n2_ n3_ n4_
                 (try clear hb)
                 (try clear hb2)
                 (try clear hk)
                 (try clear hi)
                 refine hK.out _ _ ⟨(blk_cell BK179.out 0).trans rfl, (blk_cell BK179.out 1).trans rfl, (blk_cell BK179.out 2).trans rfl, (blk_cell HI173.out.1 0).trans rfl, (blk_cell BK185.out 0).trans rfl, (blk_cell BK185.out 1).trans rfl, (blk_cell BK185.out 2).trans rfl⟩ (fun hHeld => ?_)
                 clear hK K
                 refine norm_ (a' := ?_) ?_ ?_
                 rotate_left
                 ·show Act.put _ (some 55) _ = _
                  simp only [Act.put, List.setIfInBounds_toArray, List.set_cons_zero, List.set_cons_succ, i64_w, i32_w]
                  rfl
                 refine pure_ (i := 7) (N := some 56) (v := ?_) (a' := ?_) #[true, true, true, true, true, true, true, true, false] rfl rfl (any_of HT_.out (by kernel_rfl)) (fun _ _ _ h => h) (Or.inl ⟨by rfl, ?_⟩) ?_ ?_
                 rotate_left
                 ·intro w'
                  go_simp
                  with_reducible rfl
                 rotate_left
                 ·simp only [Act.put, List.setIfInBounds_toArray, List.set_cons_zero, List.set_cons_succ, i64_w, i32_w]
                  rfl
                 refine pure_ (i := 8) (N := some 57) (v := ?_) (a' := ?_) #[true, true, true, true, true, true, true, true, true] rfl rfl (any_of HT_.out (by kernel_rfl)) (fun _ _ _ h => h) (Or.inl ⟨by rfl, ?_⟩) ?_ ?_
                 rotate_left
                 ·intro w'
                  go_simp
                  with_reducible rfl
                 rotate_left
                 ·simp only [Act.put, List.setIfInBounds_toArray, List.set_cons_zero, List.set_cons_succ, i64_w, i32_w]
                  rfl
                 refine done_ (done_of HT_.out (by kernel_rfl)) ?_
                 try go_wp2
                 go_roundg k3
                 case measure => have := HJ2.out; have := HK2.out; have := HK3.out; omega
                 case rel => exact ⟨(x6_3), (x7_3), (x8_3), (wrap64 (x39_3 + 1)), (by first | rfl | (simp; done) | (simp [*]; done)), (by first | rfl | (simp; done) | (simp [*]; done)), (by first | rfl | (simp; done) | (simp [*]; done)), H', ⟨by have := HJ2.out; have := HK2.out; have := HK3.out; omega⟩, ⟨by (with_reducible repeat (first | apply Kd.R_alloc | apply Kd.R_drewN | apply Kd.R_drew)); exact HO_6.out⟩, ⟨HZ_6.out⟩, ⟨by (with_reducible repeat (first | refine blk_drewN ?_ _ | refine blk_drew ?_ | refine blk_alloc ?_ _)); exact BK179.out⟩, ⟨by repeat (first | (with_reducible first | exact HI173.out | apply IsS3.alloc | apply IsS3.drewN | apply IsS3.drew | apply IsS3.set_0 | refine IsS3.far ?_ NB173_179.out _ | refine IsS3.far ?_ NB173_185.out _) | exact HI173.out)⟩, ⟨by repeat (first | (with_reducible first | exact HB.out | apply below_alloc | apply pw_below_drewN | apply below_drew1 | refine below_set ?_ (IsS3.ge HI173.out) | refine below_set ?_ GE179.out | refine below_set ?_ GE185.out) | exact HB.out)⟩⟩
                ·rw [if_neg c35] at H
                 have c35b0 : decide ((ji34) < t186) = false := decide_eq_false c35
                 clear c35
                 by_cases c46 : (x6_3.length : Int) = 0
                 ·rw [if_pos c46] at H
                  have c46b0 : ((x6_3.length : Int) == 0) = true := beq_iff_eq.mpr c46
                  have c46b1 : ((x6_3.length : Int) != 0) = false := bne_eq_false_iff_eq.mpr c46
                  clear c46
                  obtain ⟨y189, hy189⟩ : ∃ y_ : List ByteArray, y_ = (([((rd_T106 l0 x29_2).f0), (rd_T106 y180 x39_3).f0] : List ByteArray)) := ⟨_, rfl⟩
                  replace H : (impl_NextMatch.l1 k3 l0 y189 (wrap64 (((rd_T106 l0 x29_2).f2) + ((rd_T106 y180 x39_3).f2))) t186 l0 (l0.length : Int) x29_2 y180 (y180.length : Int) (wrap64 (x39_3 + 1)) x174000_2 ((rd_T106 l0 x29_2).f0) ((rd_T106 l0 x29_2).f1) ((rd_T106 l0 x29_2).f2)) = some (r1, r2) := by first | (rw [hy189]; with_reducible exact H) | (have H2_ := (Option.bind_some _ _).symm.trans H; rw [hy189]; with_reducible exact H2_) | (have H2_ := (Option.bind_some _ _).symm.trans H; with_reducible exact H2_) | with_reducible exact H | (rw [hy189]; exact H) | exact H
                  have Ny189 := Aside0.mk hy189
                  clear hy189
                  have H' := Aside0.mk H
                  clear H
                  have p184 : 0 ≤ (x39_3 : Int) := of_decide_eq_true (by first | (with_reducible assumption) | assumption)
                  have q184 : x39_3 < (y180.length : Int) := of_decide_eq_true (by first | (with_reducible assumption) | assumption)
                  obtain ⟨ad184, e184, hx184_0, hx184_1, hx184_2⟩ := at_T106 HR183.out x39_3 p184 q184
                  cases e184
                  replace hx184_0 := (HB.out.cell (World.block_lt_of_cell? w _ hx184_0)).trans hx184_0
                  replace hx184_1 := (HB.out.cell (World.block_lt_of_cell? w _ hx184_1)).trans hx184_1
                  replace hx184_2 := (HB.out.cell (World.block_lt_of_cell? w _ hx184_2)).trans hx184_2
                  replace p184 := eq_true p184
                  replace q184 := eq_true q184
                  try go_wp2_with (first | ((with_reducible refine gate_dst (N := 12) rfl ?_); (try (refine gate_guard (by rfl) ?_; dsimp only)); refine box_event ?hg (N := 12) ?hd (cs := #[.string (⟨#[]⟩ : ByteArray), .int .i64 0, .int .i64 0]) (t := 106) ?hr ?_; (case hd => rfl); (case hg => rfl); (case hr => first | (go_simp; done) | (go_simp; rfl)); intro gb185 hg w47 hbox hb; have n0_ := Aside0.mk (Kd.R_below (by (with_reducible repeat (first | apply Kd.R_alloc | apply Kd.R_drewN | apply Kd.R_drew)); exact HO_6.out) hb); have n1_ := Aside0.mk (blk_below (g := gb179) (o := .cells #[.string ((rd_T106 l0 x29_2).f0), .int .i64 ((rd_T106 l0 x29_2).f1), .int .i64 ((rd_T106 l0 x29_2).f2)] 106 (0, 0)) (by (with_reducible repeat (first | refine blk_drewN ?_ _ | refine blk_drew ?_ | refine blk_alloc ?_ _)); exact BK179.out) hb); have n2_ := Aside0.mk (IsS3.below (by repeat (first | (with_reducible first | exact HI173.out | apply IsS3.alloc | apply IsS3.drewN | apply IsS3.drew | apply IsS3.set_0 | refine IsS3.far ?_ NB173_179.out _) | exact HI173.out)) hb); have n3_ := Aside0.mk (below_step (by repeat (first | (with_reducible first | exact HB.out | apply below_alloc | apply pw_below_drewN | apply below_drew1 | refine below_set ?_ (IsS3.ge HI173.out) | refine below_set ?_ GE179.out) | exact HB.out)) hb); have n4_ := Aside0.mk (hbox); have n5_ := Aside0.mk ((by rw [hg]; exact (below_size (by repeat (first | (with_reducible first | exact HB.out | apply below_alloc | apply pw_below_drewN | apply below_drew1 | refine below_set ?_ (IsS3.ge HI173.out) | refine below_set ?_ GE179.out) | exact HB.out))) : w.heap.size ≤ gb185)); have n6_ := Aside0.mk ((by rw [hg]; exact (below_size (by repeat (first | (with_reducible first | exact HB.out | apply below_alloc | apply pw_below_drewN | apply below_drew1 | refine below_set ?_ (IsS3.ge HI173.out) | refine below_set ?_ GE179.out) | exact HB.out))) : w.heap.size ≤ gb185)); have n7_ := Aside0.mk ((by rw [hg]; exact Nat.ne_of_lt (blk_lt (g := gb179) (o := .cells #[.string ((rd_T106 l0 x29_2).f0), .int .i64 ((rd_T106 l0 x29_2).f1), .int .i64 ((rd_T106 l0 x29_2).f2)] 106 (0, 0)) (by (with_reducible repeat (first | refine blk_drewN ?_ _ | refine blk_drew ?_ | refine blk_alloc ?_ _)); exact BK179.out)) : gb179 ≠ gb185)); have n8_ := Aside0.mk ((by rw [hg]; exact Nat.ne_of_gt (blk_lt (g := gb179) (o := .cells #[.string ((rd_T106 l0 x29_2).f0), .int .i64 ((rd_T106 l0 x29_2).f1), .int .i64 ((rd_T106 l0 x29_2).f2)] 106 (0, 0)) (by (with_reducible repeat (first | refine blk_drewN ?_ _ | refine blk_drew ?_ | refine blk_alloc ?_ _)); exact BK179.out)) : gb185 ≠ gb179)); have n9_ := Aside0.mk ((by rw [hg]; exact Nat.ne_of_lt (IsS3.lt (show IsS3 w _ gb173 x174000_2 from by repeat (first | (with_reducible first | exact HI173.out | apply IsS3.alloc | apply IsS3.drewN | apply IsS3.drew | apply IsS3.set_0 | refine IsS3.far ?_ NB173_179.out _) | exact HI173.out))) : gb173 ≠ gb185)); have n10_ := Aside0.mk ((by rw [hg]; exact Nat.ne_of_gt (IsS3.lt (show IsS3 w _ gb173 x174000_2 from by repeat (first | (with_reducible first | exact HI173.out | apply IsS3.alloc | apply IsS3.drewN | apply IsS3.drew | apply IsS3.set_0 | refine IsS3.far ?_ NB173_179.out _) | exact HI173.out))) : gb185 ≠ gb173)); clear HO_6; clear BK179; clear HI173; clear HB; have HO_6 := n0_; have BK179 := n1_; have HI173 := n2_; have HB := n3_; have BK185 := n4_; have GW185 := n5_; have GE185 := n6_; have NB179_185 := n7_; have NB185_179 := n8_; have NB173_185 := n9_; have NB185_173 := n10_; clear n0_ n1_ n2_ n3_ n4_ n5_ n6_ n7_ n8_ n9_ n10_; clear hb hbox hg; have hnb48 := NB185_179.out; have hnc48 := NB179_185.out; have hnb49 := NB185_173.out; have hnc49 := NB173_185.out; have hcz50_0 : w47.cell? ⟨gb185, 0, none⟩ = some (.string (⟨#[]⟩ : ByteArray)) := (blk_cell BK185.out 0).trans rfl; have hcz50_1 : w47.cell? ⟨gb185, 1, none⟩ = some (.int .i64 0) := (blk_cell BK185.out 1).trans rfl; have hcz50_2 : w47.cell? ⟨gb185, 2, none⟩ = some (.int .i64 0) := (blk_cell BK185.out 2).trans rfl; have hfz50_0 := blk_frozen BK185.out 0; have hfz50_1 := blk_frozen BK185.out 1; have hfz50_2 := blk_frozen BK185.out 2; have hnb51 := NB179_173.out; have hnc51 := NB173_179.out; have hcz52_0 : w47.cell? ⟨gb179, 0, none⟩ = some (.string ((rd_T106 l0 x29_2).f0)) := (blk_cell BK179.out 0).trans rfl; have hcz52_1 : w47.cell? ⟨gb179, 1, none⟩ = some (.int .i64 ((rd_T106 l0 x29_2).f1)) := (blk_cell BK179.out 1).trans rfl; have hcz52_2 : w47.cell? ⟨gb179, 2, none⟩ = some (.int .i64 ((rd_T106 l0 x29_2).f2)) := (blk_cell BK179.out 2).trans rfl; have hfz52_0 := blk_frozen BK179.out 0; have hfz52_1 := blk_frozen BK179.out 1; have hfz52_2 := blk_frozen BK179.out 2) | ((with_reducible refine gate_callee (f := 78) rfl ?_); refine goesL_ (some 48) rfl rfl Try.func78 (by kernel_rfl) rfl #[.int .i64 (wrap64 (((rd_T106 l0 x29_2).f1) - ((rd_T106 y180 x39_3).f1)))] rfl (by (try simp only [List.map_toArray, List.map_cons, List.map_nil]); first | done | rfl | (simp only [List.length_drop, List.length_take]; rfl)) ?_; (with_reducible refine (impl_size.calls (wrap64 (((rd_T106 l0 x29_2).f1) - ((rd_T106 y180 x39_3).f1))) t186 _ A31.out).mono ?_); rintro e w53 ⟨rfl, hb⟩; refine ⟨_, rfl, ?_⟩; have n0_ := Aside0.mk (Kd.R_below (by (with_reducible repeat (first | apply Kd.R_alloc | apply Kd.R_drewN | apply Kd.R_drew)); exact (Kd.R_mono (Kd.R_far (p := ⟨gb185, 2, none⟩) (Kd.R_far (p := ⟨gb185, 1, none⟩) (Kd.R_far (p := ⟨gb185, 0, none⟩) (Kd.R_types HO_6.out BK185.out (by decide)) (fun _ hk => hk.2) (.string ((rd_T106 y180 x39_3).f0))) (fun _ hk => hk.2) (.int .i64 ((rd_T106 y180 x39_3).f1))) (fun _ hk => hk.2) (.int .i64 ((rd_T106 y180 x39_3).f2))) (fun _ h_ => h_.1))) hb); have n1_ := Aside0.mk (blk_below (g := gb179) (o := .cells #[.string ((rd_T106 l0 x29_2).f0), .int .i64 ((rd_T106 l0 x29_2).f1), .int .i64 ((rd_T106 l0 x29_2).f2)] 106 (0, 0)) (by (with_reducible repeat (first | refine blk_drewN ?_ _ | refine blk_drew ?_ | refine blk_alloc ?_ _)); refine blk_far ?_ NB179_185.out _; (with_reducible repeat (first | refine blk_drewN ?_ _ | refine blk_drew ?_ | refine blk_alloc ?_ _)); refine blk_far ?_ NB179_185.out _; (with_reducible repeat (first | refine blk_drewN ?_ _ | refine blk_drew ?_ | refine blk_alloc ?_ _)); refine blk_far ?_ NB179_185.out _; (with_reducible repeat (first | refine blk_drewN ?_ _ | refine blk_drew ?_ | refine blk_alloc ?_ _)); exact BK179.out) hb); have n2_ := Aside0.mk (IsS3.below (show IsS3 w (((w47.setCell ⟨gb185, 0, none⟩ (.string ((rd_T106 y180 x39_3).f0))).setCell ⟨gb185, 1, none⟩ (.int .i64 ((rd_T106 y180 x39_3).f1))).setCell ⟨gb185, 2, none⟩ (.int .i64 ((rd_T106 y180 x39_3).f2))) gb173 x174000_2 from by repeat (first | (with_reducible first | exact HI173.out | apply IsS3.alloc | apply IsS3.drewN | apply IsS3.drew | apply IsS3.set_0 | refine IsS3.far ?_ NB173_179.out _ | refine IsS3.far ?_ NB173_185.out _) | exact HI173.out)) hb); have n3_ := Aside0.mk (blk_below (g := gb185) (o := .cells #[.string ((rd_T106 y180 x39_3).f0), .int .i64 ((rd_T106 y180 x39_3).f1), .int .i64 ((rd_T106 y180 x39_3).f2)] 106 (0, 0)) (by (with_reducible repeat (first | refine blk_drewN ?_ _ | refine blk_drew ?_ | refine blk_alloc ?_ _)); refine blk_put (cs := #[.string ((rd_T106 y180 x39_3).f0), .int .i64 ((rd_T106 y180 x39_3).f1), .int .i64 0]) ?_ 2 _ rfl; (with_reducible repeat (first | refine blk_drewN ?_ _ | refine blk_drew ?_ | refine blk_alloc ?_ _)); refine blk_put (cs := #[.string ((rd_T106 y180 x39_3).f0), .int .i64 0, .int .i64 0]) ?_ 1 _ rfl; (with_reducible repeat (first | refine blk_drewN ?_ _ | refine blk_drew ?_ | refine blk_alloc ?_ _)); refine blk_put (cs := #[.string (⟨#[]⟩ : ByteArray), .int .i64 0, .int .i64 0]) ?_ 0 _ rfl; (with_reducible repeat (first | refine blk_drewN ?_ _ | refine blk_drew ?_ | refine blk_alloc ?_ _)); exact BK185.out) hb); have n4_ := Aside0.mk (below_step (by repeat (first | (with_reducible first | exact HB.out | apply below_alloc | apply pw_below_drewN | apply below_drew1 | refine below_set ?_ (IsS3.ge HI173.out) | refine below_set ?_ GE179.out | refine below_set ?_ GE185.out) | exact HB.out)) hb); clear HO_6; clear BK179; clear HI173; clear BK185; clear HB; have HO_6 := n0_; have BK179 := n1_; have HI173 := n2_; have BK185 := n3_; have HB := n4_; clear n0_ n1_ n2_ n3_ n4_; (try clear hb); (try clear hb2); (try clear hk); (try clear hi)))
                  have n0_ := Aside0.mk (Kd.R_drew HO_6.out)
                  have n1_ := Aside0.mk (blk_drew BK179.out)
                  have n2_ := Aside0.mk (blk_drew BK185.out)
                  have n3_ := Aside0.mk (IsS3.drew HI173.out)
                  have n4_ := Aside0.mk (below_drew1 HB.out)
                  clear HO_6
                  clear BK179
                  clear BK185
                  clear HI173
                  clear HB
                  have HO_6 := n0_
                  have BK179 := n1_
                  have BK185 := n2_
                  have HI173 := n3_
                  have HB := n4_
                  clear n0_ n1_ n2_ n3_ n4_
                  refine start_ (n := 9) (S := fun w' => w'.cell? ⟨gb179, 0, none⟩ = some (.string ((rd_T106 l0 x29_2).f0)) ∧ w'.cell? ⟨gb179, 1, none⟩ = some (.int .i64 ((rd_T106 l0 x29_2).f1)) ∧ w'.cell? ⟨gb179, 2, none⟩ = some (.int .i64 ((rd_T106 l0 x29_2).f2)) ∧ w'.cell? ⟨gb173, 0, none⟩ = some (.int .i64 x174000_2) ∧ w'.cell? ⟨gb185, 0, none⟩ = some (.string ((rd_T106 y180 x39_3).f0)) ∧ w'.cell? ⟨gb185, 1, none⟩ = some (.int .i64 ((rd_T106 y180 x39_3).f1)) ∧ w'.cell? ⟨gb185, 2, none⟩ = some (.int .i64 ((rd_T106 y180 x39_3).f2))) (ds := []) #[false, false, false, false, false, false, false, false, false] (by kernel_rfl) rfl rfl ⟨(blk_cell BK179.out 0).trans rfl, (blk_cell BK179.out 1).trans rfl, (blk_cell BK179.out 2).trans rfl, (blk_cell HI173.out.1 0).trans rfl, (blk_cell BK185.out 0).trans rfl, (blk_cell BK185.out 1).trans rfl, (blk_cell BK185.out 2).trans rfl⟩ (fun hHeld => ?_); refine with_tabW impl_NextMatch.tab12 impl_NextMatch.bits12 (fun HT_ HW_ => ?_)
                  generalize w53.drew = w54 at HO_6 BK179 BK185 HI173 HB hHeld ⊢
                  refine pure_ (i := 0) (N := some 49) (v := ?_) (a' := ?_) #[true, false, false, false, false, false, false, false, false] rfl rfl (any_of HT_.out (by kernel_rfl)) (fun _ _ _ h => h) (Or.inl ⟨by rfl, ?_⟩) ?_ ?_
                  rotate_left
                  ·intro w'
                   go_simp
                   with_reducible rfl
                  rotate_left
                  ·simp only [Act.put, List.setIfInBounds_toArray, List.set_cons_zero, List.set_cons_succ, i64_w, i32_w]
                   rfl
                  refine take_ (i := 1) (N := some 50) (v := ?_) (a' := ?_) #[true, true, false, false, false, false, false, false, false] rfl rfl (take_ofW HT_.out HW_.out (by kernel_rfl)) (fun _ _ _ h => h) (Or.inl ⟨by rfl, ?_⟩) hHeld ?_ ?_
                  rotate_left
                  ·rintro w' ⟨s0, s1, s2, s3, s4, s5, s6⟩
                   go_simp
                   with_reducible rfl
                  rotate_left
                  ·simp only [Act.put, List.setIfInBounds_toArray, List.set_cons_zero, List.set_cons_succ, i64_w, i32_w]
                   rfl
                  refine take_ (i := 2) (N := some 51) (v := ?_) (a' := ?_) #[true, true, true, false, false, false, false, false, false] rfl rfl (take_ofW HT_.out HW_.out (by kernel_rfl)) (fun _ _ _ h => h) (Or.inl ⟨by rfl, ?_⟩) hHeld ?_ ?_
                  rotate_left
                  ·rintro w' ⟨s0, s1, s2, s3, s4, s5, s6⟩
                   go_simp
                   with_reducible rfl
                  rotate_left
                  ·simp only [Act.put, List.setIfInBounds_toArray, List.set_cons_zero, List.set_cons_succ, i64_w, i32_w]
                   rfl
                  refine take_ (i := 4) (N := some 53) (v := ?_) (a' := ?_) #[true, true, true, false, true, false, false, false, false] rfl rfl (take_ofW HT_.out HW_.out (by kernel_rfl)) (fun _ _ _ h => h) (Or.inl ⟨by rfl, ?_⟩) hHeld ?_ ?_
                  rotate_left
                  ·rintro w' ⟨s0, s1, s2, s3, s4, s5, s6⟩
                   go_simp
                   with_reducible rfl
                  rotate_left
                  ·simp only [Act.put, List.setIfInBounds_toArray, List.set_cons_zero, List.set_cons_succ, i64_w, i32_w]
                   rfl
                  refine take_ (i := 5) (N := some 54) (v := ?_) (a' := ?_) #[true, true, true, false, true, true, false, false, false] rfl rfl (take_ofW HT_.out HW_.out (by kernel_rfl)) (fun _ _ _ h => h) (Or.inl ⟨by rfl, ?_⟩) hHeld ?_ ?_
                  rotate_left
                  ·rintro w' ⟨s0, s1, s2, s3, s4, s5, s6⟩
                   go_simp
                   with_reducible rfl
                  rotate_left
                  ·simp only [Act.put, List.setIfInBounds_toArray, List.set_cons_zero, List.set_cons_succ, i64_w, i32_w]
                   rfl
                  refine one_ (i := 3) (N := some 52) #[true, true, true, true, true, true, false, false, false] rfl rfl (one_of HT_.out (by kernel_rfl)) (by decide) (fun K hK => ?_)
                  refine goes_ Try.func79 (by kernel_rfl) rfl #[.agg #[.string ((rd_T106 l0 x29_2).f0), .int .i64 ((rd_T106 l0 x29_2).f1), .int .i64 ((rd_T106 l0 x29_2).f2)], .int .i64 x174000_2] (by rfl) rfl rfl (by (try simp only [List.map_toArray, List.map_cons, List.map_nil]); first | done | rfl | (simp only [List.length_drop, List.length_take]; rfl)) ?_
                  with_reducible refine (impl_Player_wide.calls ((rd_T106 l0 x29_2).f0) ((rd_T106 l0 x29_2).f1) ((rd_T106 l0 x29_2).f2) x174000_2 t187 _ A32.out).mono ?_
                  rintro e w55 ⟨rfl, hb⟩
                  refine ⟨_, rfl, ?_⟩
                  have n0_ := Aside0.mk (Kd.R_below (by (with_reducible repeat (first | apply Kd.R_alloc | apply Kd.R_drewN | apply Kd.R_drew)); exact HO_6.out) hb)
                  have n1_ := Aside0.mk (blk_below (g := gb179) (o := .cells #[.string ((rd_T106 l0 x29_2).f0), .int .i64 ((rd_T106 l0 x29_2).f1), .int .i64 ((rd_T106 l0 x29_2).f2)] 106 (0, 0)) (by (with_reducible repeat (first | refine blk_drewN ?_ _ | refine blk_drew ?_ | refine blk_alloc ?_ _)); exact BK179.out) hb)
                  have n2_ := Aside0.mk (IsS3.below (by repeat (first | (with_reducible first | exact HI173.out | apply IsS3.alloc | apply IsS3.drewN | apply IsS3.drew | apply IsS3.set_0 | refine IsS3.far ?_ NB173_179.out _ | refine IsS3.far ?_ NB173_185.out _) | exact HI173.out)) hb)
                  have n3_ := Aside0.mk (blk_below (g := gb185) (o := .cells #[.string ((rd_T106 y180 x39_3).f0), .int .i64 ((rd_T106 y180 x39_3).f1), .int .i64 ((rd_T106 y180 x39_3).f2)] 106 (0, 0)) (by (with_reducible repeat (first | refine blk_drewN ?_ _ | refine blk_drew ?_ | refine blk_alloc ?_ _)); exact BK185.out) hb)
                  have n4_ := Aside0.mk (below_step (by repeat (first | (with_reducible first | exact HB.out | apply below_alloc | apply pw_below_drewN | apply below_drew1 | refine below_set ?_ (IsS3.ge HI173.out) | refine below_set ?_ GE179.out | refine below_set ?_ GE185.out) | exact HB.out)) hb)
                  clear HO_6
                  clear BK179
                  clear HI173
                  clear BK185
                  clear HB
                  have HO_6 := n0_
                  have BK179 := n1_
                  have HI173 := n2_
                  have BK185 := n3_
                  have HB := n4_
                  clear n0_ n1_ n2_ n3_ n4_
                  (try clear hb)
                  (try clear hb2)
                  (try clear hk)
                  (try clear hi)
                  refine hK.out _ _ ⟨(blk_cell BK179.out 0).trans rfl, (blk_cell BK179.out 1).trans rfl, (blk_cell BK179.out 2).trans rfl, (blk_cell HI173.out.1 0).trans rfl, (blk_cell BK185.out 0).trans rfl, (blk_cell BK185.out 1).trans rfl, (blk_cell BK185.out 2).trans rfl⟩ (fun hHeld => ?_)
                  clear hK K
                  refine norm_ (a' := ?_) ?_ ?_
                  rotate_left
                  ·show Act.put _ (some 52) _ = _
                   simp only [Act.put, List.setIfInBounds_toArray, List.set_cons_zero, List.set_cons_succ, i64_w, i32_w]
                   rfl
                  refine one_ (i := 6) (N := some 55) #[true, true, true, true, true, true, true, false, false] rfl rfl (one_of HT_.out (by kernel_rfl)) (by decide) (fun K hK => ?_)
                  refine goes_ Try.func79 (by kernel_rfl) rfl #[.agg #[.string ((rd_T106 y180 x39_3).f0), .int .i64 ((rd_T106 y180 x39_3).f1), .int .i64 ((rd_T106 y180 x39_3).f2)], .int .i64 x174000_2] (by rfl) rfl rfl (by (try simp only [List.map_toArray, List.map_cons, List.map_nil]); first | done | rfl | (simp only [List.length_drop, List.length_take]; rfl)) ?_
                  with_reducible refine (impl_Player_wide.calls ((rd_T106 y180 x39_3).f0) ((rd_T106 y180 x39_3).f1) ((rd_T106 y180 x39_3).f2) x174000_2 t188 _ A33.out).mono ?_
                  rintro e w56 ⟨rfl, hb⟩
                  refine ⟨_, rfl, ?_⟩
                  have n0_ := Aside0.mk (Kd.R_below (by (with_reducible repeat (first | apply Kd.R_alloc | apply Kd.R_drewN | apply Kd.R_drew)); exact HO_6.out) hb)
                  have n1_ := Aside0.mk (blk_below (g := gb179) (o := .cells #[.string ((rd_T106 l0 x29_2).f0), .int .i64 ((rd_T106 l0 x29_2).f1), .int .i64 ((rd_T106 l0 x29_2).f2)] 106 (0, 0)) (by (with_reducible repeat (first | refine blk_drewN ?_ _ | refine blk_drew ?_ | refine blk_alloc ?_ _)); exact BK179.out) hb)
                  have n2_ := Aside0.mk (IsS3.below (by repeat (first | (with_reducible first | exact HI173.out | apply IsS3.alloc | apply IsS3.drewN | apply IsS3.drew | apply IsS3.set_0 | refine IsS3.far ?_ NB173_179.out _ | refine IsS3.far ?_ NB173_185.out _) | exact HI173.out)) hb)
                  have n3_ := Aside0.mk (blk_below (g := gb185) (o := .cells #[.string ((rd_T106 y180 x39_3).f0), .int .i64 ((rd_T106 y180 x39_3).f1), .int .i64 ((rd_T106 y180 x39_3).f2)] 106 (0, 0)) (by (with_reducible repeat (first | refine blk_drewN ?_ _ | refine blk_drew ?_ | refine blk_alloc ?_ _)); exact BK185.out) hb)
                  have n4_ := Aside0.mk (below_step (by repeat (first | (with_reducible first | exact HB.out | apply below_alloc | apply pw_below_drewN | apply below_drew1 | refine below_set ?_ (IsS3.ge HI173.out) | refine below_set ?_ GE179.out | refine below_set ?_ GE185.out) | exact HB.out)) hb)
                  clear HO_6
                  clear BK179
                  clear HI173
                  clear BK185
                  clear HB
                  have HO_6 := n0_
                  have BK179 := n1_
                  have HI173 := n2_
                  have BK185 := n3_
                  have HB := n4_
                  clear n0_ n1_ n2_ n3_ n4_
                  (try clear hb)
                  (try clear hb2)
                  (try clear hk)
                  (try clear hi)
                  refine hK.out _ _ ⟨(blk_cell BK179.out 0).trans rfl, (blk_cell BK179.out 1).trans rfl, (blk_cell BK179.out 2).trans rfl, (blk_cell HI173.out.1 0).trans rfl, (blk_cell BK185.out 0).trans rfl, (blk_cell BK185.out 1).trans rfl, (blk_cell BK185.out 2).trans rfl⟩ (fun hHeld => ?_)
                  clear hK K
                  refine norm_ (a' := ?_) ?_ ?_
                  rotate_left
                  ·show Act.put _ (some 55) _ = _
                   simp only [Act.put, List.setIfInBounds_toArray, List.set_cons_zero, List.set_cons_succ, i64_w, i32_w]
                   rfl
                  refine pure_ (i := 7) (N := some 56) (v := ?_) (a' := ?_) #[true, true, true, true, true, true, true, true, false] rfl rfl (any_of HT_.out (by kernel_rfl)) (fun _ _ _ h => h) (Or.inl ⟨by rfl, ?_⟩) ?_ ?_
                  rotate_left
                  ·intro w'
                   go_simp
                   with_reducible rfl
                  rotate_left
                  ·simp only [Act.put, List.setIfInBounds_toArray, List.set_cons_zero, List.set_cons_succ, i64_w, i32_w]
                   rfl
                  refine pure_ (i := 8) (N := some 57) (v := ?_) (a' := ?_) #[true, true, true, true, true, true, true, true, true] rfl rfl (any_of HT_.out (by kernel_rfl)) (fun _ _ _ h => h) (Or.inl ⟨by rfl, ?_⟩) ?_ ?_
                  rotate_left
                  ·intro w'
                   go_simp
                   with_reducible rfl
                  rotate_left
                  ·simp only [Act.put, List.setIfInBounds_toArray, List.set_cons_zero, List.set_cons_succ, i64_w, i32_w]
                   rfl
                  refine done_ (done_of HT_.out (by kernel_rfl)) ?_
                  obtain ⟨Ao57, co57, eo57⟩ := Kd.R_slice HO_6.out
                  subst eo57
                  have znz58 := nilz_ (Kd.R_reads' HO_6.out).2.2 HZ_6.out
                  have hnz58 := fun (W : World) => Go.Lib.run_eql_slice_nil (P := Try.prog) W 55 9 Ao57 x6_3.length co57 0 0 Try.underlying55
                  simp only [znz58] at hnz58
                  clear znz58
                  try go_wp2
                  have n0_ := Aside0.mk (Kd.R_drew HO_6.out)
                  have n1_ := Aside0.mk (blk_drew BK179.out)
                  have n2_ := Aside0.mk (blk_drew BK185.out)
                  have n3_ := Aside0.mk (IsS3.drew HI173.out)
                  have n4_ := Aside0.mk (below_drew1 HB.out)
                  clear HO_6
                  clear BK179
                  clear BK185
                  clear HI173
                  clear HB
                  have HO_6 := n0_
                  have BK179 := n1_
                  have BK185 := n2_
                  have HI173 := n3_
                  have HB := n4_
                  clear n0_ n1_ n2_ n3_ n4_
                  refine start_ (n := 14) (S := fun w' => w'.cell? ⟨gb179, 0, none⟩ = some (.string ((rd_T106 l0 x29_2).f0)) ∧ w'.cell? ⟨gb179, 1, none⟩ = some (.int .i64 ((rd_T106 l0 x29_2).f1)) ∧ w'.cell? ⟨gb179, 2, none⟩ = some (.int .i64 ((rd_T106 l0 x29_2).f2)) ∧ w'.cell? ⟨gb185, 0, none⟩ = some (.string ((rd_T106 y180 x39_3).f0)) ∧ w'.cell? ⟨gb185, 1, none⟩ = some (.int .i64 ((rd_T106 y180 x39_3).f1)) ∧ w'.cell? ⟨gb185, 2, none⟩ = some (.int .i64 ((rd_T106 y180 x39_3).f2))) (ds := []) #[false, false, false, false, false, false, false, false, false, false, false, false, false, false] (by kernel_rfl) rfl rfl ⟨(blk_cell BK179.out 0).trans rfl, (blk_cell BK179.out 1).trans rfl, (blk_cell BK179.out 2).trans rfl, (blk_cell BK185.out 0).trans rfl, (blk_cell BK185.out 1).trans rfl, (blk_cell BK185.out 2).trans rfl⟩ (fun hHeld => ?_); refine with_tabW impl_NextMatch.tab14 impl_NextMatch.bits14 (fun HT_ HW_ => ?_)
                  generalize w56.drew = w59 at HO_6 BK179 BK185 HI173 HB hHeld ⊢
                  refine pure_ (i := 0) (N := some 75) (v := ?_) (a' := ?_) #[true, false, false, false, false, false, false, false, false, false, false, false, false, false] rfl rfl (any_of HT_.out (by kernel_rfl)) (fun _ _ _ h => h) (Or.inl ⟨by rfl, ?_⟩) ?_ ?_
                  rotate_left
                  ·intro w'
                   go_simp
                   with_reducible rfl
                  rotate_left
                  ·simp only [Act.put, List.setIfInBounds_toArray, List.set_cons_zero, List.set_cons_succ, i64_w, i32_w]
                   rfl
                  refine pure_ (i := 2) (N := some 77) (v := ?_) (a' := ?_) #[true, false, true, false, false, false, false, false, false, false, false, false, false, false] rfl rfl (any_of HT_.out (by kernel_rfl)) (fun _ _ _ h => h) (Or.inl ⟨by rfl, ?_⟩) ?_ ?_
                  rotate_left
                  ·intro w'
                   go_simp
                   with_reducible rfl
                  rotate_left
                  ·simp only [Act.put, List.setIfInBounds_toArray, List.set_cons_zero, List.set_cons_succ, i64_w, i32_w]
                   rfl
                  refine pure_ (i := 5) (N := some 80) (v := ?_) (a' := ?_) #[true, false, true, false, false, true, false, false, false, false, false, false, false, false] rfl rfl (any_of HT_.out (by kernel_rfl)) (fun _ _ _ h => h) (Or.inl ⟨by rfl, ?_⟩) ?_ ?_
                  rotate_left
                  ·intro w'
                   go_simp
                   with_reducible rfl
                  rotate_left
                  ·simp only [Act.put, List.setIfInBounds_toArray, List.set_cons_zero, List.set_cons_succ, i64_w, i32_w]
                   rfl
                  refine pure_ (i := 7) (N := some 82) (v := ?_) (a' := ?_) #[true, false, true, false, false, true, false, true, false, false, false, false, false, false] rfl rfl (any_of HT_.out (by kernel_rfl)) (fun _ _ _ h => h) (Or.inl ⟨by rfl, ?_⟩) ?_ ?_
                  rotate_left
                  ·intro w'
                   go_simp
                   with_reducible rfl
                  rotate_left
                  ·simp only [Act.put, List.setIfInBounds_toArray, List.set_cons_zero, List.set_cons_succ, i64_w, i32_w]
                   rfl
                  refine pure_ (i := 10) (N := some 85) (v := ?_) (a' := ?_) #[true, false, true, false, false, true, false, true, false, false, true, false, false, false] rfl rfl (any_of HT_.out (by kernel_rfl)) (fun _ _ _ h => h) (Or.inl ⟨by rfl, ?_⟩) ?_ ?_
                  rotate_left
                  ·intro w'
                   go_simp
                   with_reducible rfl
                  rotate_left
                  ·simp only [Act.put, List.setIfInBounds_toArray, List.set_cons_zero, List.set_cons_succ, i64_w, i32_w]
                   rfl
                  refine take_ (i := 1) (N := some 76) (v := ?_) (a' := ?_) #[true, true, true, false, false, true, false, true, false, false, true, false, false, false] rfl rfl (take_ofW HT_.out HW_.out (by kernel_rfl)) (fun _ _ _ h => h) (Or.inl ⟨by rfl, ?_⟩) hHeld ?_ ?_
                  rotate_left
                  ·rintro w' ⟨s0, s1, s2, s3, s4, s5⟩
                   go_simp
                   with_reducible rfl
                  rotate_left
                  ·simp only [Act.put, List.setIfInBounds_toArray, List.set_cons_zero, List.set_cons_succ, i64_w, i32_w]
                   rfl
                  refine take_ (i := 3) (N := some 78) (v := ?_) (a' := ?_) #[true, true, true, true, false, true, false, true, false, false, true, false, false, false] rfl rfl (take_ofW HT_.out HW_.out (by kernel_rfl)) (fun _ _ _ h => h) (Or.inl ⟨by rfl, ?_⟩) hHeld ?_ ?_
                  rotate_left
                  ·rintro w' ⟨s0, s1, s2, s3, s4, s5⟩
                   go_simp
                   with_reducible rfl
                  rotate_left
                  ·simp only [Act.put, List.setIfInBounds_toArray, List.set_cons_zero, List.set_cons_succ, i64_w, i32_w]
                   rfl
                  refine take_ (i := 6) (N := some 81) (v := ?_) (a' := ?_) #[true, true, true, true, false, true, true, true, false, false, true, false, false, false] rfl rfl (take_ofW HT_.out HW_.out (by kernel_rfl)) (fun _ _ _ h => h) (Or.inl ⟨by rfl, ?_⟩) hHeld ?_ ?_
                  rotate_left
                  ·rintro w' ⟨s0, s1, s2, s3, s4, s5⟩
                   go_simp
                   with_reducible rfl
                  rotate_left
                  ·simp only [Act.put, List.setIfInBounds_toArray, List.set_cons_zero, List.set_cons_succ, i64_w, i32_w]
                   rfl
                  refine take_ (i := 8) (N := some 83) (v := ?_) (a' := ?_) #[true, true, true, true, false, true, true, true, true, false, true, false, false, false] rfl rfl (take_ofW HT_.out HW_.out (by kernel_rfl)) (fun _ _ _ h => h) (Or.inl ⟨by rfl, ?_⟩) hHeld ?_ ?_
                  rotate_left
                  ·rintro w' ⟨s0, s1, s2, s3, s4, s5⟩
                   go_simp
                   with_reducible rfl
                  rotate_left
                  ·simp only [Act.put, List.setIfInBounds_toArray, List.set_cons_zero, List.set_cons_succ, i64_w, i32_w]
                   rfl
                  refine pure_ (i := 9) (N := some 84) (v := ?_) (a' := ?_) #[true, true, true, true, false, true, true, true, true, true, true, false, false, false] rfl rfl (any_of HT_.out (by kernel_rfl)) (fun _ _ _ h => h) (Or.inl ⟨by rfl, ?_⟩) ?_ ?_
                  rotate_left
                  ·intro w'
                   go_simp
                   with_reducible rfl
                  rotate_left
                  ·simp only [Act.put, List.setIfInBounds_toArray, List.set_cons_zero, List.set_cons_succ, i64_w, i32_w]
                   rfl
                  refine one_ (i := 4) (N := some 79) #[true, true, true, true, true, true, true, true, true, true, true, false, false, false] rfl rfl (one_of HT_.out (by kernel_rfl)) (by decide) (fun K hK => ?_)
                  refine Kd.R_lit_step Kd.string _ 9 ?hg (N := 79) ?hd (xs := ([((rd_T106 l0 x29_2).f0), (rd_T106 y180 x39_3).f0] : List ByteArray)) (inner := [.string ((rd_T106 l0 x29_2).f0), .string ((rd_T106 y180 x39_3).f0)]) (ok := fun _ => True) (okp := fun _ => True) ?hr ?hp (fun _ hk => hk) trivial (Below.refl _ _) (Nat.le_refl _) (by simp) ?_; (case hd => rfl); (case hg => rfl); (case hr => first | (go_simp; done) | (go_simp; rfl)); (case hp => exact (Reps.one (show Kd.M Kd.string _ _ _ ((rd_T106 l0 x29_2).f0) [.string ((rd_T106 l0 x29_2).f0)] from rfl) (Reps.one (show Kd.M Kd.string _ _ _ ((rd_T106 y180 x39_3).f0) [.string ((rd_T106 y180 x39_3).f0)] from rfl) (Reps.none _ _))))
                  intro v190 w60 ho61 hb hg_ hnew_
                  clear hg_ hnew_
                  (first | rw [← Ny189.out] at ho61 | (simp only [Int.reduceToNat] at ho61; rw [← Ny189.out] at ho61))
                  have n0_ := Aside0.mk (Kd.R_elder' (by (with_reducible repeat (first | apply Kd.R_alloc | apply Kd.R_drewN | apply Kd.R_drew)); exact HO_6.out) (Kd.R_base ho61) hb)
                  have n1_ := Aside0.mk (Kd.R_lower (Kd.R_new' ho61 (Kd.R_lt (by (with_reducible repeat (first | apply Kd.R_alloc | apply Kd.R_drewN | apply Kd.R_drew)); exact HO_6.out))) (below_size (by repeat (first | (with_reducible first | exact HB.out | apply below_alloc | apply pw_below_drewN | apply below_drew1 | refine below_set ?_ (IsS3.ge HI173.out) | refine below_set ?_ GE179.out | refine below_set ?_ GE185.out) | exact HB.out))))
                  have n2_ := Aside0.mk (blk_below (g := gb179) (o := .cells #[.string ((rd_T106 l0 x29_2).f0), .int .i64 ((rd_T106 l0 x29_2).f1), .int .i64 ((rd_T106 l0 x29_2).f2)] 106 (0, 0)) (by (with_reducible repeat (first | refine blk_drewN ?_ _ | refine blk_drew ?_ | refine blk_alloc ?_ _)); exact BK179.out) hb)
                  have n3_ := Aside0.mk (IsS3.below (by repeat (first | (with_reducible first | exact HI173.out | apply IsS3.alloc | apply IsS3.drewN | apply IsS3.drew | apply IsS3.set_0 | refine IsS3.far ?_ NB173_179.out _ | refine IsS3.far ?_ NB173_185.out _) | exact HI173.out)) hb)
                  have n4_ := Aside0.mk (blk_below (g := gb185) (o := .cells #[.string ((rd_T106 y180 x39_3).f0), .int .i64 ((rd_T106 y180 x39_3).f1), .int .i64 ((rd_T106 y180 x39_3).f2)] 106 (0, 0)) (by (with_reducible repeat (first | refine blk_drewN ?_ _ | refine blk_drew ?_ | refine blk_alloc ?_ _)); exact BK185.out) hb)
                  have n5_ := Aside0.mk (below_step (by repeat (first | (with_reducible first | exact HB.out | apply below_alloc | apply pw_below_drewN | apply below_drew1 | refine below_set ?_ (IsS3.ge HI173.out) | refine below_set ?_ GE179.out | refine below_set ?_ GE185.out) | exact HB.out)) hb)
                  clear HO_6
                  clear BK179
                  clear HI173
                  clear BK185
                  clear HB
                  have HO_6 := n0_
                  have HO191 := n1_
                  have BK179 := n2_
                  have HI173 := n3_
                  have BK185 := n4_
                  have HB := n5_
                  clear n0_ n1_ n2_ n3_ n4_ n5_
                  clear hb ho61
                  refine hK.out _ _ ⟨(blk_cell BK179.out 0).trans rfl, (blk_cell BK179.out 1).trans rfl, (blk_cell BK179.out 2).trans rfl, (blk_cell BK185.out 0).trans rfl, (blk_cell BK185.out 1).trans rfl, (blk_cell BK185.out 2).trans rfl⟩ (fun hHeld => ?_)
                  clear hK K
                  refine norm_ (a' := ?_) ?_ ?_
                  rotate_left
                  ·show Act.put _ (some 79) _ = _
                   simp only [Act.put, List.setIfInBounds_toArray, List.set_cons_zero, List.set_cons_succ, i64_w, i32_w]
                   rfl
                  refine pure_ (i := 11) (N := some 6) (v := ?_) (a' := ?_) #[true, true, true, true, true, true, true, true, true, true, true, true, false, false] rfl rfl (any_of HT_.out (by kernel_rfl)) (fun _ _ _ h => h) (Or.inl ⟨by rfl, ?_⟩) ?_ ?_
                  rotate_left
                  ·intro w'
                   go_simp
                   with_reducible rfl
                  rotate_left
                  ·simp only [Act.put, List.setIfInBounds_toArray, List.set_cons_zero, List.set_cons_succ, i64_w, i32_w]
                   rfl
                  refine pure_ (i := 12) (N := some 7) (v := ?_) (a' := ?_) #[true, true, true, true, true, true, true, true, true, true, true, true, true, false] rfl rfl (any_of HT_.out (by kernel_rfl)) (fun _ _ _ h => h) (Or.inl ⟨by rfl, ?_⟩) ?_ ?_
                  rotate_left
                  ·intro w'
                   go_simp
                   with_reducible rfl
                  rotate_left
                  ·simp only [Act.put, List.setIfInBounds_toArray, List.set_cons_zero, List.set_cons_succ, i64_w, i32_w]
                   rfl
                  refine pure_ (i := 13) (N := some 8) (v := ?_) (a' := ?_) #[true, true, true, true, true, true, true, true, true, true, true, true, true, true] rfl rfl (any_of HT_.out (by kernel_rfl)) (fun _ _ _ h => h) (Or.inl ⟨by rfl, ?_⟩) ?_ ?_
                  rotate_left
                  ·intro w'
                   go_simp
                   with_reducible rfl
                  rotate_left
                  ·simp only [Act.put, List.setIfInBounds_toArray, List.set_cons_zero, List.set_cons_succ, i64_w, i32_w]
                   rfl
                  refine done_ (done_of HT_.out (by kernel_rfl)) ?_
                  try go_wp2
                  go_roundg k3
                  case measure => have := HJ2.out; have := HK2.out; have := HK3.out; omega
                  case rel => exact ⟨(y189), (wrap64 (((rd_T106 l0 x29_2).f2) + ((rd_T106 y180 x39_3).f2))), (t186), (wrap64 (x39_3 + 1)), (by first | rfl | (simp; done) | (simp [*]; done)), (by first | rfl | (simp; done) | (simp [*]; done)), (by first | rfl | (simp; done) | (simp [*]; done)), H', ⟨by have := HJ2.out; have := HK2.out; have := HK3.out; omega⟩, ⟨by (with_reducible repeat (first | apply Kd.R_alloc | apply Kd.R_drewN | apply Kd.R_drew)); exact Kd.R_mono HO191.out (fun _ hk => trivial)⟩, ⟨fun h_ => absurd h_ (by first | exact List.cons_ne_nil _ _ | (rw [Ny189.out]; exact List.cons_ne_nil _ _) | simp; done)⟩, ⟨by (with_reducible repeat (first | refine blk_drewN ?_ _ | refine blk_drew ?_ | refine blk_alloc ?_ _)); exact BK179.out⟩, ⟨by repeat (first | (with_reducible first | exact HI173.out | apply IsS3.alloc | apply IsS3.drewN | apply IsS3.drew | apply IsS3.set_0 | refine IsS3.far ?_ NB173_179.out _ | refine IsS3.far ?_ NB173_185.out _) | exact HI173.out)⟩, ⟨by repeat (first | (with_reducible first | exact HB.out | apply below_alloc | apply pw_below_drewN | apply below_drew1 | refine below_set ?_ (IsS3.ge HI173.out) | refine below_set ?_ GE179.out | refine below_set ?_ GE185.out) | exact HB.out)⟩⟩
                 ·rw [if_neg c46] at H
                  have c46b0 : ((x6_3.length : Int) == 0) = false := beq_eq_false_iff_ne.mpr c46
                  have c46b1 : ((x6_3.length : Int) != 0) = true := bne_iff_ne.mpr c46
                  have c46b2 : ¬ (x6_3 = []) := fun h_ => c46 (by rw [h_]; rfl)
                  replace H := Option.bind_eq_some_iff.mp H
                  obtain ⟨t192, A620, H⟩ := H
                  replace H : ((cmp_Compare_int.f t186 x8_3).bind fun t193 => ((cmp_Or_int.f k3 (([t192, t193] : List Int))).bind fun t197 => (if t197 < 0 then (impl_NextMatch.l1 k3 l0 (([((rd_T106 l0 x29_2).f0), (rd_T106 y180 x39_3).f0] : List ByteArray)) (wrap64 (((rd_T106 l0 x29_2).f2) + ((rd_T106 y180 x39_3).f2))) t186 l0 (l0.length : Int) x29_2 y180 (y180.length : Int) (wrap64 (x39_3 + 1)) x174000_2 ((rd_T106 l0 x29_2).f0) ((rd_T106 l0 x29_2).f1) ((rd_T106 l0 x29_2).f2)) else (impl_NextMatch.l1 k3 l0 x6_3 x7_3 x8_3 l0 (l0.length : Int) x29_2 y180 (y180.length : Int) (wrap64 (x39_3 + 1)) x174000_2 ((rd_T106 l0 x29_2).f0) ((rd_T106 l0 x29_2).f1) ((rd_T106 l0 x29_2).f2))))) = some (r1, r2) := H
                  have A62 := Aside0.mk A620
                  clear A620
                  replace H := Option.bind_eq_some_iff.mp H
                  obtain ⟨t193, A630, H⟩ := H
                  replace H : ((cmp_Or_int.f k3 (([t192, t193] : List Int))).bind fun t197 => (if t197 < 0 then (impl_NextMatch.l1 k3 l0 (([((rd_T106 l0 x29_2).f0), (rd_T106 y180 x39_3).f0] : List ByteArray)) (wrap64 (((rd_T106 l0 x29_2).f2) + ((rd_T106 y180 x39_3).f2))) t186 l0 (l0.length : Int) x29_2 y180 (y180.length : Int) (wrap64 (x39_3 + 1)) x174000_2 ((rd_T106 l0 x29_2).f0) ((rd_T106 l0 x29_2).f1) ((rd_T106 l0 x29_2).f2)) else (impl_NextMatch.l1 k3 l0 x6_3 x7_3 x8_3 l0 (l0.length : Int) x29_2 y180 (y180.length : Int) (wrap64 (x39_3 + 1)) x174000_2 ((rd_T106 l0 x29_2).f0) ((rd_T106 l0 x29_2).f1) ((rd_T106 l0 x29_2).f2)))) = some (r1, r2) := H
                  have A63 := Aside0.mk A630
                  clear A630
                  obtain ⟨y194, hy194⟩ : ∃ y_ : List Int, y_ = (([t192, t193] : List Int)) := ⟨_, rfl⟩
                  replace H : ((cmp_Or_int.f k3 y194).bind fun t197 => (if t197 < 0 then (impl_NextMatch.l1 k3 l0 (([((rd_T106 l0 x29_2).f0), (rd_T106 y180 x39_3).f0] : List ByteArray)) (wrap64 (((rd_T106 l0 x29_2).f2) + ((rd_T106 y180 x39_3).f2))) t186 l0 (l0.length : Int) x29_2 y180 (y180.length : Int) (wrap64 (x39_3 + 1)) x174000_2 ((rd_T106 l0 x29_2).f0) ((rd_T106 l0 x29_2).f1) ((rd_T106 l0 x29_2).f2)) else (impl_NextMatch.l1 k3 l0 x6_3 x7_3 x8_3 l0 (l0.length : Int) x29_2 y180 (y180.length : Int) (wrap64 (x39_3 + 1)) x174000_2 ((rd_T106 l0 x29_2).f0) ((rd_T106 l0 x29_2).f1) ((rd_T106 l0 x29_2).f2)))) = some (r1, r2) := by first | (rw [hy194]; with_reducible exact H) | (have H2_ := (Option.bind_some _ _).symm.trans H; rw [hy194]; with_reducible exact H2_) | (have H2_ := (Option.bind_some _ _).symm.trans H; with_reducible exact H2_) | with_reducible exact H | (rw [hy194]; exact H) | exact H
                  have Ny194 := Aside0.mk hy194
                  clear hy194
                  replace H := Option.bind_eq_some_iff.mp H
                  obtain ⟨t197, A640, H⟩ := H
                  replace H : (if t197 < 0 then (impl_NextMatch.l1 k3 l0 (([((rd_T106 l0 x29_2).f0), (rd_T106 y180 x39_3).f0] : List ByteArray)) (wrap64 (((rd_T106 l0 x29_2).f2) + ((rd_T106 y180 x39_3).f2))) t186 l0 (l0.length : Int) x29_2 y180 (y180.length : Int) (wrap64 (x39_3 + 1)) x174000_2 ((rd_T106 l0 x29_2).f0) ((rd_T106 l0 x29_2).f1) ((rd_T106 l0 x29_2).f2)) else (impl_NextMatch.l1 k3 l0 x6_3 x7_3 x8_3 l0 (l0.length : Int) x29_2 y180 (y180.length : Int) (wrap64 (x39_3 + 1)) x174000_2 ((rd_T106 l0 x29_2).f0) ((rd_T106 l0 x29_2).f1) ((rd_T106 l0 x29_2).f2))) = some (r1, r2) := H
                  have A64 := Aside0.mk A640
                  clear A640
                  by_cases c65 : t197 < 0
                  ·rw [if_pos c65] at H
                   have c65b0 : decide (t197 < 0) = true := decide_eq_true c65
                   clear c65
                   obtain ⟨y198, hy198⟩ : ∃ y_ : List ByteArray, y_ = (([((rd_T106 l0 x29_2).f0), (rd_T106 y180 x39_3).f0] : List ByteArray)) := ⟨_, rfl⟩
                   replace H : (impl_NextMatch.l1 k3 l0 y198 (wrap64 (((rd_T106 l0 x29_2).f2) + ((rd_T106 y180 x39_3).f2))) t186 l0 (l0.length : Int) x29_2 y180 (y180.length : Int) (wrap64 (x39_3 + 1)) x174000_2 ((rd_T106 l0 x29_2).f0) ((rd_T106 l0 x29_2).f1) ((rd_T106 l0 x29_2).f2)) = some (r1, r2) := by first | (rw [hy198]; with_reducible exact H) | (have H2_ := (Option.bind_some _ _).symm.trans H; rw [hy198]; with_reducible exact H2_) | (have H2_ := (Option.bind_some _ _).symm.trans H; with_reducible exact H2_) | with_reducible exact H | (rw [hy198]; exact H) | exact H
                   have Ny198 := Aside0.mk hy198
                   clear hy198
                   have H' := Aside0.mk H
                   clear H
                   have p184 : 0 ≤ (x39_3 : Int) := of_decide_eq_true (by first | (with_reducible assumption) | assumption)
                   have q184 : x39_3 < (y180.length : Int) := of_decide_eq_true (by first | (with_reducible assumption) | assumption)
                   obtain ⟨ad184, e184, hx184_0, hx184_1, hx184_2⟩ := at_T106 HR183.out x39_3 p184 q184
                   cases e184
                   replace hx184_0 := (HB.out.cell (World.block_lt_of_cell? w _ hx184_0)).trans hx184_0
                   replace hx184_1 := (HB.out.cell (World.block_lt_of_cell? w _ hx184_1)).trans hx184_1
                   replace hx184_2 := (HB.out.cell (World.block_lt_of_cell? w _ hx184_2)).trans hx184_2
                   replace p184 := eq_true p184
                   replace q184 := eq_true q184
                   try go_wp2_with (first | ((with_reducible refine gate_dst (N := 12) rfl ?_); (try (refine gate_guard (by rfl) ?_; dsimp only)); refine box_event ?hg (N := 12) ?hd (cs := #[.string (⟨#[]⟩ : ByteArray), .int .i64 0, .int .i64 0]) (t := 106) ?hr ?_; (case hd => rfl); (case hg => rfl); (case hr => first | (go_simp; done) | (go_simp; rfl)); intro gb185 hg w66 hbox hb; have n0_ := Aside0.mk (Kd.R_below (by (with_reducible repeat (first | apply Kd.R_alloc | apply Kd.R_drewN | apply Kd.R_drew)); exact HO_6.out) hb); have n1_ := Aside0.mk (blk_below (g := gb179) (o := .cells #[.string ((rd_T106 l0 x29_2).f0), .int .i64 ((rd_T106 l0 x29_2).f1), .int .i64 ((rd_T106 l0 x29_2).f2)] 106 (0, 0)) (by (with_reducible repeat (first | refine blk_drewN ?_ _ | refine blk_drew ?_ | refine blk_alloc ?_ _)); exact BK179.out) hb); have n2_ := Aside0.mk (IsS3.below (by repeat (first | (with_reducible first | exact HI173.out | apply IsS3.alloc | apply IsS3.drewN | apply IsS3.drew | apply IsS3.set_0 | refine IsS3.far ?_ NB173_179.out _) | exact HI173.out)) hb); have n3_ := Aside0.mk (below_step (by repeat (first | (with_reducible first | exact HB.out | apply below_alloc | apply pw_below_drewN | apply below_drew1 | refine below_set ?_ (IsS3.ge HI173.out) | refine below_set ?_ GE179.out) | exact HB.out)) hb); have n4_ := Aside0.mk (hbox); have n5_ := Aside0.mk ((by rw [hg]; exact (below_size (by repeat (first | (with_reducible first | exact HB.out | apply below_alloc | apply pw_below_drewN | apply below_drew1 | refine below_set ?_ (IsS3.ge HI173.out) | refine below_set ?_ GE179.out) | exact HB.out))) : w.heap.size ≤ gb185)); have n6_ := Aside0.mk ((by rw [hg]; exact (below_size (by repeat (first | (with_reducible first | exact HB.out | apply below_alloc | apply pw_below_drewN | apply below_drew1 | refine below_set ?_ (IsS3.ge HI173.out) | refine below_set ?_ GE179.out) | exact HB.out))) : w.heap.size ≤ gb185)); have n7_ := Aside0.mk ((by rw [hg]; exact Nat.ne_of_lt (blk_lt (g := gb179) (o := .cells #[.string ((rd_T106 l0 x29_2).f0), .int .i64 ((rd_T106 l0 x29_2).f1), .int .i64 ((rd_T106 l0 x29_2).f2)] 106 (0, 0)) (by (with_reducible repeat (first | refine blk_drewN ?_ _ | refine blk_drew ?_ | refine blk_alloc ?_ _)); exact BK179.out)) : gb179 ≠ gb185)); have n8_ := Aside0.mk ((by rw [hg]; exact Nat.ne_of_gt (blk_lt (g := gb179) (o := .cells #[.string ((rd_T106 l0 x29_2).f0), .int .i64 ((rd_T106 l0 x29_2).f1), .int .i64 ((rd_T106 l0 x29_2).f2)] 106 (0, 0)) (by (with_reducible repeat (first | refine blk_drewN ?_ _ | refine blk_drew ?_ | refine blk_alloc ?_ _)); exact BK179.out)) : gb185 ≠ gb179)); have n9_ := Aside0.mk ((by rw [hg]; exact Nat.ne_of_lt (IsS3.lt (show IsS3 w _ gb173 x174000_2 from by repeat (first | (with_reducible first | exact HI173.out | apply IsS3.alloc | apply IsS3.drewN | apply IsS3.drew | apply IsS3.set_0 | refine IsS3.far ?_ NB173_179.out _) | exact HI173.out))) : gb173 ≠ gb185)); have n10_ := Aside0.mk ((by rw [hg]; exact Nat.ne_of_gt (IsS3.lt (show IsS3 w _ gb173 x174000_2 from by repeat (first | (with_reducible first | exact HI173.out | apply IsS3.alloc | apply IsS3.drewN | apply IsS3.drew | apply IsS3.set_0 | refine IsS3.far ?_ NB173_179.out _) | exact HI173.out))) : gb185 ≠ gb173)); clear HO_6; clear BK179; clear HI173; clear HB; have HO_6 := n0_; have BK179 := n1_; have HI173 := n2_; have HB := n3_; have BK185 := n4_; have GW185 := n5_; have GE185 := n6_; have NB179_185 := n7_; have NB185_179 := n8_; have NB173_185 := n9_; have NB185_173 := n10_; clear n0_ n1_ n2_ n3_ n4_ n5_ n6_ n7_ n8_ n9_ n10_; clear hb hbox hg; have hnb67 := NB185_179.out; have hnc67 := NB179_185.out; have hnb68 := NB185_173.out; have hnc68 := NB173_185.out; have hcz69_0 : w66.cell? ⟨gb185, 0, none⟩ = some (.string (⟨#[]⟩ : ByteArray)) := (blk_cell BK185.out 0).trans rfl; have hcz69_1 : w66.cell? ⟨gb185, 1, none⟩ = some (.int .i64 0) := (blk_cell BK185.out 1).trans rfl; have hcz69_2 : w66.cell? ⟨gb185, 2, none⟩ = some (.int .i64 0) := (blk_cell BK185.out 2).trans rfl; have hfz69_0 := blk_frozen BK185.out 0; have hfz69_1 := blk_frozen BK185.out 1; have hfz69_2 := blk_frozen BK185.out 2; have hnb70 := NB179_173.out; have hnc70 := NB173_179.out; have hcz71_0 : w66.cell? ⟨gb179, 0, none⟩ = some (.string ((rd_T106 l0 x29_2).f0)) := (blk_cell BK179.out 0).trans rfl; have hcz71_1 : w66.cell? ⟨gb179, 1, none⟩ = some (.int .i64 ((rd_T106 l0 x29_2).f1)) := (blk_cell BK179.out 1).trans rfl; have hcz71_2 : w66.cell? ⟨gb179, 2, none⟩ = some (.int .i64 ((rd_T106 l0 x29_2).f2)) := (blk_cell BK179.out 2).trans rfl; have hfz71_0 := blk_frozen BK179.out 0; have hfz71_1 := blk_frozen BK179.out 1; have hfz71_2 := blk_frozen BK179.out 2) | ((with_reducible refine gate_callee (f := 78) rfl ?_); refine goesL_ (some 48) rfl rfl Try.func78 (by kernel_rfl) rfl #[.int .i64 (wrap64 (((rd_T106 l0 x29_2).f1) - ((rd_T106 y180 x39_3).f1)))] rfl (by (try simp only [List.map_toArray, List.map_cons, List.map_nil]); first | done | rfl | (simp only [List.length_drop, List.length_take]; rfl)) ?_; (with_reducible refine (impl_size.calls (wrap64 (((rd_T106 l0 x29_2).f1) - ((rd_T106 y180 x39_3).f1))) t186 _ A31.out).mono ?_); rintro e w72 ⟨rfl, hb⟩; refine ⟨_, rfl, ?_⟩; have n0_ := Aside0.mk (Kd.R_below (by (with_reducible repeat (first | apply Kd.R_alloc | apply Kd.R_drewN | apply Kd.R_drew)); exact (Kd.R_mono (Kd.R_far (p := ⟨gb185, 2, none⟩) (Kd.R_far (p := ⟨gb185, 1, none⟩) (Kd.R_far (p := ⟨gb185, 0, none⟩) (Kd.R_types HO_6.out BK185.out (by decide)) (fun _ hk => hk.2) (.string ((rd_T106 y180 x39_3).f0))) (fun _ hk => hk.2) (.int .i64 ((rd_T106 y180 x39_3).f1))) (fun _ hk => hk.2) (.int .i64 ((rd_T106 y180 x39_3).f2))) (fun _ h_ => h_.1))) hb); have n1_ := Aside0.mk (blk_below (g := gb179) (o := .cells #[.string ((rd_T106 l0 x29_2).f0), .int .i64 ((rd_T106 l0 x29_2).f1), .int .i64 ((rd_T106 l0 x29_2).f2)] 106 (0, 0)) (by (with_reducible repeat (first | refine blk_drewN ?_ _ | refine blk_drew ?_ | refine blk_alloc ?_ _)); refine blk_far ?_ NB179_185.out _; (with_reducible repeat (first | refine blk_drewN ?_ _ | refine blk_drew ?_ | refine blk_alloc ?_ _)); refine blk_far ?_ NB179_185.out _; (with_reducible repeat (first | refine blk_drewN ?_ _ | refine blk_drew ?_ | refine blk_alloc ?_ _)); refine blk_far ?_ NB179_185.out _; (with_reducible repeat (first | refine blk_drewN ?_ _ | refine blk_drew ?_ | refine blk_alloc ?_ _)); exact BK179.out) hb); have n2_ := Aside0.mk (IsS3.below (show IsS3 w (((w66.setCell ⟨gb185, 0, none⟩ (.string ((rd_T106 y180 x39_3).f0))).setCell ⟨gb185, 1, none⟩ (.int .i64 ((rd_T106 y180 x39_3).f1))).setCell ⟨gb185, 2, none⟩ (.int .i64 ((rd_T106 y180 x39_3).f2))) gb173 x174000_2 from by repeat (first | (with_reducible first | exact HI173.out | apply IsS3.alloc | apply IsS3.drewN | apply IsS3.drew | apply IsS3.set_0 | refine IsS3.far ?_ NB173_179.out _ | refine IsS3.far ?_ NB173_185.out _) | exact HI173.out)) hb); have n3_ := Aside0.mk (blk_below (g := gb185) (o := .cells #[.string ((rd_T106 y180 x39_3).f0), .int .i64 ((rd_T106 y180 x39_3).f1), .int .i64 ((rd_T106 y180 x39_3).f2)] 106 (0, 0)) (by (with_reducible repeat (first | refine blk_drewN ?_ _ | refine blk_drew ?_ | refine blk_alloc ?_ _)); refine blk_put (cs := #[.string ((rd_T106 y180 x39_3).f0), .int .i64 ((rd_T106 y180 x39_3).f1), .int .i64 0]) ?_ 2 _ rfl; (with_reducible repeat (first | refine blk_drewN ?_ _ | refine blk_drew ?_ | refine blk_alloc ?_ _)); refine blk_put (cs := #[.string ((rd_T106 y180 x39_3).f0), .int .i64 0, .int .i64 0]) ?_ 1 _ rfl; (with_reducible repeat (first | refine blk_drewN ?_ _ | refine blk_drew ?_ | refine blk_alloc ?_ _)); refine blk_put (cs := #[.string (⟨#[]⟩ : ByteArray), .int .i64 0, .int .i64 0]) ?_ 0 _ rfl; (with_reducible repeat (first | refine blk_drewN ?_ _ | refine blk_drew ?_ | refine blk_alloc ?_ _)); exact BK185.out) hb); have n4_ := Aside0.mk (below_step (by repeat (first | (with_reducible first | exact HB.out | apply below_alloc | apply pw_below_drewN | apply below_drew1 | refine below_set ?_ (IsS3.ge HI173.out) | refine below_set ?_ GE179.out | refine below_set ?_ GE185.out) | exact HB.out)) hb); clear HO_6; clear BK179; clear HI173; clear BK185; clear HB; have HO_6 := n0_; have BK179 := n1_; have HI173 := n2_; have BK185 := n3_; have HB := n4_; clear n0_ n1_ n2_ n3_ n4_; (try clear hb); (try clear hb2); (try clear hk); (try clear hi)))
                   have n0_ := Aside0.mk (Kd.R_drew HO_6.out)
                   have n1_ := Aside0.mk (blk_drew BK179.out)
                   have n2_ := Aside0.mk (blk_drew BK185.out)
                   have n3_ := Aside0.mk (IsS3.drew HI173.out)
                   have n4_ := Aside0.mk (below_drew1 HB.out)
                   clear HO_6
                   clear BK179
                   clear BK185
                   clear HI173
                   clear HB
                   have HO_6 := n0_
                   have BK179 := n1_
                   have BK185 := n2_
                   have HI173 := n3_
                   have HB := n4_
                   clear n0_ n1_ n2_ n3_ n4_
                   refine start_ (n := 9) (S := fun w' => w'.cell? ⟨gb179, 0, none⟩ = some (.string ((rd_T106 l0 x29_2).f0)) ∧ w'.cell? ⟨gb179, 1, none⟩ = some (.int .i64 ((rd_T106 l0 x29_2).f1)) ∧ w'.cell? ⟨gb179, 2, none⟩ = some (.int .i64 ((rd_T106 l0 x29_2).f2)) ∧ w'.cell? ⟨gb173, 0, none⟩ = some (.int .i64 x174000_2) ∧ w'.cell? ⟨gb185, 0, none⟩ = some (.string ((rd_T106 y180 x39_3).f0)) ∧ w'.cell? ⟨gb185, 1, none⟩ = some (.int .i64 ((rd_T106 y180 x39_3).f1)) ∧ w'.cell? ⟨gb185, 2, none⟩ = some (.int .i64 ((rd_T106 y180 x39_3).f2))) (ds := []) #[false, false, false, false, false, false, false, false, false] (by kernel_rfl) rfl rfl ⟨(blk_cell BK179.out 0).trans rfl, (blk_cell BK179.out 1).trans rfl, (blk_cell BK179.out 2).trans rfl, (blk_cell HI173.out.1 0).trans rfl, (blk_cell BK185.out 0).trans rfl, (blk_cell BK185.out 1).trans rfl, (blk_cell BK185.out 2).trans rfl⟩ (fun hHeld => ?_); refine with_tabW impl_NextMatch.tab12 impl_NextMatch.bits12 (fun HT_ HW_ => ?_)
                   generalize w72.drew = w73 at HO_6 BK179 BK185 HI173 HB hHeld ⊢
                   refine pure_ (i := 0) (N := some 49) (v := ?_) (a' := ?_) #[true, false, false, false, false, false, false, false, false] rfl rfl (any_of HT_.out (by kernel_rfl)) (fun _ _ _ h => h) (Or.inl ⟨by rfl, ?_⟩) ?_ ?_
                   rotate_left
                   ·intro w'
                    go_simp
                    with_reducible rfl
                   rotate_left
                   ·simp only [Act.put, List.setIfInBounds_toArray, List.set_cons_zero, List.set_cons_succ, i64_w, i32_w]
                    rfl
                   refine take_ (i := 1) (N := some 50) (v := ?_) (a' := ?_) #[true, true, false, false, false, false, false, false, false] rfl rfl (take_ofW HT_.out HW_.out (by kernel_rfl)) (fun _ _ _ h => h) (Or.inl ⟨by rfl, ?_⟩) hHeld ?_ ?_
                   rotate_left
                   ·rintro w' ⟨s0, s1, s2, s3, s4, s5, s6⟩
                    go_simp
                    with_reducible rfl
                   rotate_left
                   ·simp only [Act.put, List.setIfInBounds_toArray, List.set_cons_zero, List.set_cons_succ, i64_w, i32_w]
                    rfl
                   refine take_ (i := 2) (N := some 51) (v := ?_) (a' := ?_) #[true, true, true, false, false, false, false, false, false] rfl rfl (take_ofW HT_.out HW_.out (by kernel_rfl)) (fun _ _ _ h => h) (Or.inl ⟨by rfl, ?_⟩) hHeld ?_ ?_
                   rotate_left
                   ·rintro w' ⟨s0, s1, s2, s3, s4, s5, s6⟩
                    go_simp
                    with_reducible rfl
                   rotate_left
                   ·simp only [Act.put, List.setIfInBounds_toArray, List.set_cons_zero, List.set_cons_succ, i64_w, i32_w]
                    rfl
                   refine take_ (i := 4) (N := some 53) (v := ?_) (a' := ?_) #[true, true, true, false, true, false, false, false, false] rfl rfl (take_ofW HT_.out HW_.out (by kernel_rfl)) (fun _ _ _ h => h) (Or.inl ⟨by rfl, ?_⟩) hHeld ?_ ?_
                   rotate_left
                   ·rintro w' ⟨s0, s1, s2, s3, s4, s5, s6⟩
                    go_simp
                    with_reducible rfl
                   rotate_left
                   ·simp only [Act.put, List.setIfInBounds_toArray, List.set_cons_zero, List.set_cons_succ, i64_w, i32_w]
                    rfl
                   refine take_ (i := 5) (N := some 54) (v := ?_) (a' := ?_) #[true, true, true, false, true, true, false, false, false] rfl rfl (take_ofW HT_.out HW_.out (by kernel_rfl)) (fun _ _ _ h => h) (Or.inl ⟨by rfl, ?_⟩) hHeld ?_ ?_
                   rotate_left
                   ·rintro w' ⟨s0, s1, s2, s3, s4, s5, s6⟩
                    go_simp
                    with_reducible rfl
                   rotate_left
                   ·simp only [Act.put, List.setIfInBounds_toArray, List.set_cons_zero, List.set_cons_succ, i64_w, i32_w]
                    rfl
                   refine one_ (i := 3) (N := some 52) #[true, true, true, true, true, true, false, false, false] rfl rfl (one_of HT_.out (by kernel_rfl)) (by decide) (fun K hK => ?_)
                   refine goes_ Try.func79 (by kernel_rfl) rfl #[.agg #[.string ((rd_T106 l0 x29_2).f0), .int .i64 ((rd_T106 l0 x29_2).f1), .int .i64 ((rd_T106 l0 x29_2).f2)], .int .i64 x174000_2] (by rfl) rfl rfl (by (try simp only [List.map_toArray, List.map_cons, List.map_nil]); first | done | rfl | (simp only [List.length_drop, List.length_take]; rfl)) ?_
                   with_reducible refine (impl_Player_wide.calls ((rd_T106 l0 x29_2).f0) ((rd_T106 l0 x29_2).f1) ((rd_T106 l0 x29_2).f2) x174000_2 t187 _ A32.out).mono ?_
                   rintro e w74 ⟨rfl, hb⟩
                   refine ⟨_, rfl, ?_⟩
                   have n0_ := Aside0.mk (Kd.R_below (by (with_reducible repeat (first | apply Kd.R_alloc | apply Kd.R_drewN | apply Kd.R_drew)); exact HO_6.out) hb)
                   have n1_ := Aside0.mk (blk_below (g := gb179) (o := .cells #[.string ((rd_T106 l0 x29_2).f0), .int .i64 ((rd_T106 l0 x29_2).f1), .int .i64 ((rd_T106 l0 x29_2).f2)] 106 (0, 0)) (by (with_reducible repeat (first | refine blk_drewN ?_ _ | refine blk_drew ?_ | refine blk_alloc ?_ _)); exact BK179.out) hb)
                   have n2_ := Aside0.mk (IsS3.below (by repeat (first | (with_reducible first | exact HI173.out | apply IsS3.alloc | apply IsS3.drewN | apply IsS3.drew | apply IsS3.set_0 | refine IsS3.far ?_ NB173_179.out _ | refine IsS3.far ?_ NB173_185.out _) | exact HI173.out)) hb)
                   have n3_ := Aside0.mk (blk_below (g := gb185) (o := .cells #[.string ((rd_T106 y180 x39_3).f0), .int .i64 ((rd_T106 y180 x39_3).f1), .int .i64 ((rd_T106 y180 x39_3).f2)] 106 (0, 0)) (by (with_reducible repeat (first | refine blk_drewN ?_ _ | refine blk_drew ?_ | refine blk_alloc ?_ _)); exact BK185.out) hb)
                   have n4_ := Aside0.mk (below_step (by repeat (first | (with_reducible first | exact HB.out | apply below_alloc | apply pw_below_drewN | apply below_drew1 | refine below_set ?_ (IsS3.ge HI173.out) | refine below_set ?_ GE179.out | refine below_set ?_ GE185.out) | exact HB.out)) hb)
                   clear HO_6
                   clear BK179
                   clear HI173
                   clear BK185
                   clear HB
                   have HO_6 := n0_
                   have BK179 := n1_
                   have HI173 := n2_
                   have BK185 := n3_
                   have HB := n4_
                   clear n0_ n1_ n2_ n3_ n4_
                   (try clear hb)
                   (try clear hb2)
                   (try clear hk)
                   (try clear hi)
                   refine hK.out _ _ ⟨(blk_cell BK179.out 0).trans rfl, (blk_cell BK179.out 1).trans rfl, (blk_cell BK179.out 2).trans rfl, (blk_cell HI173.out.1 0).trans rfl, (blk_cell BK185.out 0).trans rfl, (blk_cell BK185.out 1).trans rfl, (blk_cell BK185.out 2).trans rfl⟩ (fun hHeld => ?_)
                   clear hK K
                   refine norm_ (a' := ?_) ?_ ?_
                   rotate_left
                   ·show Act.put _ (some 52) _ = _
                    simp only [Act.put, List.setIfInBounds_toArray, List.set_cons_zero, List.set_cons_succ, i64_w, i32_w]
                    rfl
                   refine one_ (i := 6) (N := some 55) #[true, true, true, true, true, true, true, false, false] rfl rfl (one_of HT_.out (by kernel_rfl)) (by decide) (fun K hK => ?_)
                   refine goes_ Try.func79 (by kernel_rfl) rfl #[.agg #[.string ((rd_T106 y180 x39_3).f0), .int .i64 ((rd_T106 y180 x39_3).f1), .int .i64 ((rd_T106 y180 x39_3).f2)], .int .i64 x174000_2] (by rfl) rfl rfl (by (try simp only [List.map_toArray, List.map_cons, List.map_nil]); first | done | rfl | (simp only [List.length_drop, List.length_take]; rfl)) ?_
                   with_reducible refine (impl_Player_wide.calls ((rd_T106 y180 x39_3).f0) ((rd_T106 y180 x39_3).f1) ((rd_T106 y180 x39_3).f2) x174000_2 t188 _ A33.out).mono ?_
                   rintro e w75 ⟨rfl, hb⟩
                   refine ⟨_, rfl, ?_⟩
                   have n0_ := Aside0.mk (Kd.R_below (by (with_reducible repeat (first | apply Kd.R_alloc | apply Kd.R_drewN | apply Kd.R_drew)); exact HO_6.out) hb)
                   have n1_ := Aside0.mk (blk_below (g := gb179) (o := .cells #[.string ((rd_T106 l0 x29_2).f0), .int .i64 ((rd_T106 l0 x29_2).f1), .int .i64 ((rd_T106 l0 x29_2).f2)] 106 (0, 0)) (by (with_reducible repeat (first | refine blk_drewN ?_ _ | refine blk_drew ?_ | refine blk_alloc ?_ _)); exact BK179.out) hb)
                   have n2_ := Aside0.mk (IsS3.below (by repeat (first | (with_reducible first | exact HI173.out | apply IsS3.alloc | apply IsS3.drewN | apply IsS3.drew | apply IsS3.set_0 | refine IsS3.far ?_ NB173_179.out _ | refine IsS3.far ?_ NB173_185.out _) | exact HI173.out)) hb)
                   have n3_ := Aside0.mk (blk_below (g := gb185) (o := .cells #[.string ((rd_T106 y180 x39_3).f0), .int .i64 ((rd_T106 y180 x39_3).f1), .int .i64 ((rd_T106 y180 x39_3).f2)] 106 (0, 0)) (by (with_reducible repeat (first | refine blk_drewN ?_ _ | refine blk_drew ?_ | refine blk_alloc ?_ _)); exact BK185.out) hb)
                   have n4_ := Aside0.mk (below_step (by repeat (first | (with_reducible first | exact HB.out | apply below_alloc | apply pw_below_drewN | apply below_drew1 | refine below_set ?_ (IsS3.ge HI173.out) | refine below_set ?_ GE179.out | refine below_set ?_ GE185.out) | exact HB.out)) hb)
                   clear HO_6
                   clear BK179
                   clear HI173
                   clear BK185
                   clear HB
                   have HO_6 := n0_
                   have BK179 := n1_
                   have HI173 := n2_
                   have BK185 := n3_
                   have HB := n4_
                   clear n0_ n1_ n2_ n3_ n4_
                   (try clear hb)
                   (try clear hb2)
                   (try clear hk)
                   (try clear hi)
                   refine hK.out _ _ ⟨(blk_cell BK179.out 0).trans rfl, (blk_cell BK179.out 1).trans rfl, (blk_cell BK179.out 2).trans rfl, (blk_cell HI173.out.1 0).trans rfl, (blk_cell BK185.out 0).trans rfl, (blk_cell BK185.out 1).trans rfl, (blk_cell BK185.out 2).trans rfl⟩ (fun hHeld => ?_)
                   clear hK K
                   refine norm_ (a' := ?_) ?_ ?_
                   rotate_left
                   ·show Act.put _ (some 55) _ = _
                    simp only [Act.put, List.setIfInBounds_toArray, List.set_cons_zero, List.set_cons_succ, i64_w, i32_w]
                    rfl
                   refine pure_ (i := 7) (N := some 56) (v := ?_) (a' := ?_) #[true, true, true, true, true, true, true, true, false] rfl rfl (any_of HT_.out (by kernel_rfl)) (fun _ _ _ h => h) (Or.inl ⟨by rfl, ?_⟩) ?_ ?_
                   rotate_left
                   ·intro w'
                    go_simp
                    with_reducible rfl
                   rotate_left
                   ·simp only [Act.put, List.setIfInBounds_toArray, List.set_cons_zero, List.set_cons_succ, i64_w, i32_w]
                    rfl
                   refine pure_ (i := 8) (N := some 57) (v := ?_) (a' := ?_) #[true, true, true, true, true, true, true, true, true] rfl rfl (any_of HT_.out (by kernel_rfl)) (fun _ _ _ h => h) (Or.inl ⟨by rfl, ?_⟩) ?_ ?_
                   rotate_left
                   ·intro w'
                    go_simp
                    with_reducible rfl
                   rotate_left
                   ·simp only [Act.put, List.setIfInBounds_toArray, List.set_cons_zero, List.set_cons_succ, i64_w, i32_w]
                    rfl
                   refine done_ (done_of HT_.out (by kernel_rfl)) ?_
                   obtain ⟨Ao76, co76, eo76⟩ := Kd.R_slice HO_6.out
                   subst eo76
                   have znz77 := nilz_ (Kd.R_reads' HO_6.out).2.2 HZ_6.out
                   have hnz77 := fun (W : World) => Go.Lib.run_eql_slice_nil (P := Try.prog) W 55 9 Ao76 x6_3.length co76 0 0 Try.underlying55
                   simp only [znz77] at hnz77
                   clear znz77
                   have hcz78_0 : w75.cell? ⟨gb179, 0, none⟩ = some (.string ((rd_T106 l0 x29_2).f0)) := (blk_cell BK179.out 0).trans rfl
                   have hcz78_1 : w75.cell? ⟨gb179, 1, none⟩ = some (.int .i64 ((rd_T106 l0 x29_2).f1)) := (blk_cell BK179.out 1).trans rfl
                   have hcz78_2 : w75.cell? ⟨gb179, 2, none⟩ = some (.int .i64 ((rd_T106 l0 x29_2).f2)) := (blk_cell BK179.out 2).trans rfl
                   have hfz78_0 := blk_frozen BK179.out 0
                   have hfz78_1 := blk_frozen BK179.out 1
                   have hfz78_2 := blk_frozen BK179.out 2
                   have hcz79_0 : w75.cell? ⟨gb185, 0, none⟩ = some (.string ((rd_T106 y180 x39_3).f0)) := (blk_cell BK185.out 0).trans rfl
                   have hcz79_1 : w75.cell? ⟨gb185, 1, none⟩ = some (.int .i64 ((rd_T106 y180 x39_3).f1)) := (blk_cell BK185.out 1).trans rfl
                   have hcz79_2 : w75.cell? ⟨gb185, 2, none⟩ = some (.int .i64 ((rd_T106 y180 x39_3).f2)) := (blk_cell BK185.out 2).trans rfl
                   have hfz79_0 := blk_frozen BK185.out 0
                   have hfz79_1 := blk_frozen BK185.out 1
                   have hfz79_2 := blk_frozen BK185.out 2
                   try go_wp2_with (first | (go_at_call 81; (with_reducible refine (cmp_Compare_int.calls (wrap64 (((rd_T106 l0 x29_2).f2) + ((rd_T106 y180 x39_3).f2))) x7_3 t192 _ A62.out).mono ?_); rintro e w' ⟨rfl, ⟨nd, rfl⟩⟩) | (go_at_call 81; (with_reducible refine (cmp_Compare_int.calls t186 x8_3 t193 _ A63.out).mono ?_); rintro e w' ⟨rfl, ⟨nd, rfl⟩⟩) | ((with_reducible refine gate_dst (N := 71) rfl ?_); (try (refine gate_guard (by rfl) ?_; dsimp only)); refine Kd.R_lit (Kd.int .i64) _ 3 ?hg (N := 71) ?hd (xs := ([t192, t193] : List Int)) (inner := [.int .i64 t192, .int .i64 t193]) (ok := fun _ => True) (okp := fun _ => True) ?hr ?hp (fun _ hk => hk) trivial (Below.refl _ _) (Nat.le_refl _) (by simp) ?_; (case hd => rfl); (case hg => rfl); (case hr => first | (go_simp; done) | (go_simp; rfl)); (case hp => exact (Reps.one (show Kd.M (Kd.int .i64) _ _ _ t192 [.int .i64 t192] from rfl) (Reps.one (show Kd.M (Kd.int .i64) _ _ _ t193 [.int .i64 t193] from rfl) (Reps.none _ _)))); intro v195 w80 ho81 hb hg_ hnew_; clear hg_ hnew_; (first | rw [← Ny194.out] at ho81 | (simp only [Int.reduceToNat] at ho81; rw [← Ny194.out] at ho81)); have n0_ := Aside0.mk (Kd.R_below (by (with_reducible repeat (first | apply Kd.R_alloc | apply Kd.R_drewN | apply Kd.R_drew)); exact HO_6.out) hb); have n1_ := Aside0.mk (Kd.R_lower ho81 (below_size (by repeat (first | (with_reducible first | exact HB.out | apply below_alloc | apply pw_below_drewN | apply below_drew1 | refine below_set ?_ (IsS3.ge HI173.out) | refine below_set ?_ GE179.out | refine below_set ?_ GE185.out) | exact HB.out)))); have n2_ := Aside0.mk (blk_below (g := gb179) (o := .cells #[.string ((rd_T106 l0 x29_2).f0), .int .i64 ((rd_T106 l0 x29_2).f1), .int .i64 ((rd_T106 l0 x29_2).f2)] 106 (0, 0)) (by (with_reducible repeat (first | refine blk_drewN ?_ _ | refine blk_drew ?_ | refine blk_alloc ?_ _)); exact BK179.out) hb); have n3_ := Aside0.mk (IsS3.below (by repeat (first | (with_reducible first | exact HI173.out | apply IsS3.alloc | apply IsS3.drewN | apply IsS3.drew | apply IsS3.set_0 | refine IsS3.far ?_ NB173_179.out _ | refine IsS3.far ?_ NB173_185.out _) | exact HI173.out)) hb); have n4_ := Aside0.mk (blk_below (g := gb185) (o := .cells #[.string ((rd_T106 y180 x39_3).f0), .int .i64 ((rd_T106 y180 x39_3).f1), .int .i64 ((rd_T106 y180 x39_3).f2)] 106 (0, 0)) (by (with_reducible repeat (first | refine blk_drewN ?_ _ | refine blk_drew ?_ | refine blk_alloc ?_ _)); exact BK185.out) hb); have n5_ := Aside0.mk (below_step (by repeat (first | (with_reducible first | exact HB.out | apply below_alloc | apply pw_below_drewN | apply below_drew1 | refine below_set ?_ (IsS3.ge HI173.out) | refine below_set ?_ GE179.out | refine below_set ?_ GE185.out) | exact HB.out)) hb); clear HO_6; clear BK179; clear HI173; clear BK185; clear HB; have HO_6 := n0_; have HO196 := n1_; have BK179 := n2_; have HI173 := n3_; have BK185 := n4_; have HB := n5_; clear n0_ n1_ n2_ n3_ n4_ n5_; clear hb ho81; obtain ⟨Ao82, co82, eo82⟩ := Kd.R_slice HO196.out; subst eo82) | (go_at_call 80; (with_reducible refine (cmp_Or_int.calls k3 _ _ y194 t197 _ ?side1 ?side2 A64.out).mono ?_); (case side1 => repeat (first | exact (Kd.R_reads' HO196.out).2.2 | (with_reducible refine Kd.C_alloc ?_ _) | (with_reducible refine Kd.C_drewN ?_ _) | (with_reducible refine Kd.C_drew ?_))); (case side2 => exact (Kd.R_reads' HO196.out).2.1); rintro e w' ⟨rfl, ⟨nd, rfl⟩⟩))
                   (try (rw [drewN_self w80]; generalize hq_ : World.drewN w80 _ = w80; have n0_ : Aside0 (Kd.R (Kd.int .i64) 3 w80 w.heap.size (fun _ => True) (.slice Ao82 y194.length co82) y194) := ⟨by rw [← hq_]; exact (by (with_reducible repeat (first | apply Kd.R_alloc | apply Kd.R_drewN | apply Kd.R_drew)); exact HO196.out)⟩; have n1_ : Aside0 (Kd.R Kd.string 9 w80 w.heap.size (fun _ => True) (.slice Ao76 x6_3.length co76) x6_3) := ⟨by rw [← hq_]; exact (by (with_reducible repeat (first | apply Kd.R_alloc | apply Kd.R_drewN | apply Kd.R_drew)); exact HO_6.out)⟩; have n2_ : Aside0 (w80.heap[gb179]? = some (.cells #[.string ((rd_T106 l0 x29_2).f0), .int .i64 ((rd_T106 l0 x29_2).f1), .int .i64 ((rd_T106 l0 x29_2).f2)] 106 (0, 0))) := ⟨by rw [← hq_]; exact (by (with_reducible repeat (first | refine blk_drewN ?_ _ | refine blk_drew ?_ | refine blk_alloc ?_ _)); exact BK179.out)⟩; have n3_ : Aside0 (w80.heap[gb185]? = some (.cells #[.string ((rd_T106 y180 x39_3).f0), .int .i64 ((rd_T106 y180 x39_3).f1), .int .i64 ((rd_T106 y180 x39_3).f2)] 106 (0, 0))) := ⟨by rw [← hq_]; exact (by (with_reducible repeat (first | refine blk_drewN ?_ _ | refine blk_drew ?_ | refine blk_alloc ?_ _)); exact BK185.out)⟩; have n4_ : Aside0 (IsS3 w w80 gb173 x174000_2) := ⟨by rw [← hq_]; exact (by repeat (first | (with_reducible first | exact HI173.out | apply IsS3.alloc | apply IsS3.drewN | apply IsS3.drew | apply IsS3.set_0 | refine IsS3.far ?_ NB173_179.out _ | refine IsS3.far ?_ NB173_185.out _) | exact HI173.out))⟩; have n5_ : Aside0 (Below w.heap.size w w80) := ⟨by rw [← hq_]; exact (by repeat (first | (with_reducible first | exact HB.out | apply below_alloc | apply pw_below_drewN | apply below_drew1 | refine below_set ?_ (IsS3.ge HI173.out) | refine below_set ?_ GE179.out | refine below_set ?_ GE185.out) | exact HB.out))⟩; clear HO196 HO_6 BK179 BK185 HI173 HB hq_; have HO196 := n0_; have HO_6 := n1_; have BK179 := n2_; have BK185 := n3_; have HI173 := n4_; have HB := n5_; clear n0_ n1_ n2_ n3_ n4_ n5_))
                   have n0_ := Aside0.mk (Kd.R_drew HO_6.out)
                   have n1_ := Aside0.mk (Kd.R_drew HO196.out)
                   have n2_ := Aside0.mk (blk_drew BK179.out)
                   have n3_ := Aside0.mk (blk_drew BK185.out)
                   have n4_ := Aside0.mk (IsS3.drew HI173.out)
                   have n5_ := Aside0.mk (below_drew1 HB.out)
                   clear HO_6
                   clear HO196
                   clear BK179
                   clear BK185
                   clear HI173
                   clear HB
                   have HO_6 := n0_
                   have HO196 := n1_
                   have BK179 := n2_
                   have BK185 := n3_
                   have HI173 := n4_
                   have HB := n5_
                   clear n0_ n1_ n2_ n3_ n4_ n5_
                   refine start_ (n := 14) (S := fun w' => w'.cell? ⟨gb179, 0, none⟩ = some (.string ((rd_T106 l0 x29_2).f0)) ∧ w'.cell? ⟨gb179, 1, none⟩ = some (.int .i64 ((rd_T106 l0 x29_2).f1)) ∧ w'.cell? ⟨gb179, 2, none⟩ = some (.int .i64 ((rd_T106 l0 x29_2).f2)) ∧ w'.cell? ⟨gb185, 0, none⟩ = some (.string ((rd_T106 y180 x39_3).f0)) ∧ w'.cell? ⟨gb185, 1, none⟩ = some (.int .i64 ((rd_T106 y180 x39_3).f1)) ∧ w'.cell? ⟨gb185, 2, none⟩ = some (.int .i64 ((rd_T106 y180 x39_3).f2))) (ds := []) #[false, false, false, false, false, false, false, false, false, false, false, false, false, false] (by kernel_rfl) rfl rfl ⟨(blk_cell BK179.out 0).trans rfl, (blk_cell BK179.out 1).trans rfl, (blk_cell BK179.out 2).trans rfl, (blk_cell BK185.out 0).trans rfl, (blk_cell BK185.out 1).trans rfl, (blk_cell BK185.out 2).trans rfl⟩ (fun hHeld => ?_); refine with_tabW impl_NextMatch.tab14 impl_NextMatch.bits14 (fun HT_ HW_ => ?_)
                   generalize w80.drew = w83 at HO_6 HO196 BK179 BK185 HI173 HB hHeld ⊢
                   refine pure_ (i := 0) (N := some 75) (v := ?_) (a' := ?_) #[true, false, false, false, false, false, false, false, false, false, false, false, false, false] rfl rfl (any_of HT_.out (by kernel_rfl)) (fun _ _ _ h => h) (Or.inl ⟨by rfl, ?_⟩) ?_ ?_
                   rotate_left
                   ·intro w'
                    go_simp
                    with_reducible rfl
                   rotate_left
                   ·simp only [Act.put, List.setIfInBounds_toArray, List.set_cons_zero, List.set_cons_succ, i64_w, i32_w]
                    rfl
                   refine pure_ (i := 2) (N := some 77) (v := ?_) (a' := ?_) #[true, false, true, false, false, false, false, false, false, false, false, false, false, false] rfl rfl (any_of HT_.out (by kernel_rfl)) (fun _ _ _ h => h) (Or.inl ⟨by rfl, ?_⟩) ?_ ?_
                   rotate_left
                   ·intro w'
                    go_simp
                    with_reducible rfl
                   rotate_left
                   ·simp only [Act.put, List.setIfInBounds_toArray, List.set_cons_zero, List.set_cons_succ, i64_w, i32_w]
                    rfl
                   refine pure_ (i := 5) (N := some 80) (v := ?_) (a' := ?_) #[true, false, true, false, false, true, false, false, false, false, false, false, false, false] rfl rfl (any_of HT_.out (by kernel_rfl)) (fun _ _ _ h => h) (Or.inl ⟨by rfl, ?_⟩) ?_ ?_
                   rotate_left
                   ·intro w'
                    go_simp
                    with_reducible rfl
                   rotate_left
                   ·simp only [Act.put, List.setIfInBounds_toArray, List.set_cons_zero, List.set_cons_succ, i64_w, i32_w]
                    rfl
                   refine pure_ (i := 7) (N := some 82) (v := ?_) (a' := ?_) #[true, false, true, false, false, true, false, true, false, false, false, false, false, false] rfl rfl (any_of HT_.out (by kernel_rfl)) (fun _ _ _ h => h) (Or.inl ⟨by rfl, ?_⟩) ?_ ?_
                   rotate_left
                   ·intro w'
                    go_simp
                    with_reducible rfl
                   rotate_left
                   ·simp only [Act.put, List.setIfInBounds_toArray, List.set_cons_zero, List.set_cons_succ, i64_w, i32_w]
                    rfl
                   refine pure_ (i := 10) (N := some 85) (v := ?_) (a' := ?_) #[true, false, true, false, false, true, false, true, false, false, true, false, false, false] rfl rfl (any_of HT_.out (by kernel_rfl)) (fun _ _ _ h => h) (Or.inl ⟨by rfl, ?_⟩) ?_ ?_
                   rotate_left
                   ·intro w'
                    go_simp
                    with_reducible rfl
                   rotate_left
                   ·simp only [Act.put, List.setIfInBounds_toArray, List.set_cons_zero, List.set_cons_succ, i64_w, i32_w]
                    rfl
                   refine take_ (i := 1) (N := some 76) (v := ?_) (a' := ?_) #[true, true, true, false, false, true, false, true, false, false, true, false, false, false] rfl rfl (take_ofW HT_.out HW_.out (by kernel_rfl)) (fun _ _ _ h => h) (Or.inl ⟨by rfl, ?_⟩) hHeld ?_ ?_
                   rotate_left
                   ·rintro w' ⟨s0, s1, s2, s3, s4, s5⟩
                    go_simp
                    with_reducible rfl
                   rotate_left
                   ·simp only [Act.put, List.setIfInBounds_toArray, List.set_cons_zero, List.set_cons_succ, i64_w, i32_w]
                    rfl
                   refine take_ (i := 3) (N := some 78) (v := ?_) (a' := ?_) #[true, true, true, true, false, true, false, true, false, false, true, false, false, false] rfl rfl (take_ofW HT_.out HW_.out (by kernel_rfl)) (fun _ _ _ h => h) (Or.inl ⟨by rfl, ?_⟩) hHeld ?_ ?_
                   rotate_left
                   ·rintro w' ⟨s0, s1, s2, s3, s4, s5⟩
                    go_simp
                    with_reducible rfl
                   rotate_left
                   ·simp only [Act.put, List.setIfInBounds_toArray, List.set_cons_zero, List.set_cons_succ, i64_w, i32_w]
                    rfl
                   refine take_ (i := 6) (N := some 81) (v := ?_) (a' := ?_) #[true, true, true, true, false, true, true, true, false, false, true, false, false, false] rfl rfl (take_ofW HT_.out HW_.out (by kernel_rfl)) (fun _ _ _ h => h) (Or.inl ⟨by rfl, ?_⟩) hHeld ?_ ?_
                   rotate_left
                   ·rintro w' ⟨s0, s1, s2, s3, s4, s5⟩
                    go_simp
                    with_reducible rfl
                   rotate_left
                   ·simp only [Act.put, List.setIfInBounds_toArray, List.set_cons_zero, List.set_cons_succ, i64_w, i32_w]
                    rfl
                   refine take_ (i := 8) (N := some 83) (v := ?_) (a' := ?_) #[true, true, true, true, false, true, true, true, true, false, true, false, false, false] rfl rfl (take_ofW HT_.out HW_.out (by kernel_rfl)) (fun _ _ _ h => h) (Or.inl ⟨by rfl, ?_⟩) hHeld ?_ ?_
                   rotate_left
                   ·rintro w' ⟨s0, s1, s2, s3, s4, s5⟩
                    go_simp
                    with_reducible rfl
                   rotate_left
                   ·simp only [Act.put, List.setIfInBounds_toArray, List.set_cons_zero, List.set_cons_succ, i64_w, i32_w]
                    rfl
                   refine pure_ (i := 9) (N := some 84) (v := ?_) (a' := ?_) #[true, true, true, true, false, true, true, true, true, true, true, false, false, false] rfl rfl (any_of HT_.out (by kernel_rfl)) (fun _ _ _ h => h) (Or.inl ⟨by rfl, ?_⟩) ?_ ?_
                   rotate_left
                   ·intro w'
                    go_simp
                    with_reducible rfl
                   rotate_left
                   ·simp only [Act.put, List.setIfInBounds_toArray, List.set_cons_zero, List.set_cons_succ, i64_w, i32_w]
                    rfl
                   refine one_ (i := 4) (N := some 79) #[true, true, true, true, true, true, true, true, true, true, true, false, false, false] rfl rfl (one_of HT_.out (by kernel_rfl)) (by decide) (fun K hK => ?_)
                   refine Kd.R_lit_step Kd.string _ 9 ?hg (N := 79) ?hd (xs := ([((rd_T106 l0 x29_2).f0), (rd_T106 y180 x39_3).f0] : List ByteArray)) (inner := [.string ((rd_T106 l0 x29_2).f0), .string ((rd_T106 y180 x39_3).f0)]) (ok := fun _ => True) (okp := fun _ => True) ?hr ?hp (fun _ hk => hk) trivial (Below.refl _ _) (Nat.le_refl _) (by simp) ?_; (case hd => rfl); (case hg => rfl); (case hr => first | (go_simp; done) | (go_simp; rfl)); (case hp => exact (Reps.one (show Kd.M Kd.string _ _ _ ((rd_T106 l0 x29_2).f0) [.string ((rd_T106 l0 x29_2).f0)] from rfl) (Reps.one (show Kd.M Kd.string _ _ _ ((rd_T106 y180 x39_3).f0) [.string ((rd_T106 y180 x39_3).f0)] from rfl) (Reps.none _ _))))
                   intro v199 w84 ho85 hb hg_ hnew_
                   clear hg_ hnew_
                   (first | rw [← Ny198.out] at ho85 | (simp only [Int.reduceToNat] at ho85; rw [← Ny198.out] at ho85))
                   have n0_ := Aside0.mk (Kd.R_elder' (by (with_reducible repeat (first | apply Kd.R_alloc | apply Kd.R_drewN | apply Kd.R_drew)); exact HO_6.out) (Kd.R_base ho85) hb)
                   have n1_ := Aside0.mk (Kd.R_below (by (with_reducible repeat (first | apply Kd.R_alloc | apply Kd.R_drewN | apply Kd.R_drew)); exact HO196.out) hb)
                   have n2_ := Aside0.mk (Kd.R_lower (Kd.R_new' ho85 (Kd.R_lt (by (with_reducible repeat (first | apply Kd.R_alloc | apply Kd.R_drewN | apply Kd.R_drew)); exact HO_6.out))) (below_size (by repeat (first | (with_reducible first | exact HB.out | apply below_alloc | apply pw_below_drewN | apply below_drew1 | refine below_set ?_ (IsS3.ge HI173.out) | refine below_set ?_ GE179.out | refine below_set ?_ GE185.out) | exact HB.out))))
                   have n3_ := Aside0.mk (blk_below (g := gb179) (o := .cells #[.string ((rd_T106 l0 x29_2).f0), .int .i64 ((rd_T106 l0 x29_2).f1), .int .i64 ((rd_T106 l0 x29_2).f2)] 106 (0, 0)) (by (with_reducible repeat (first | refine blk_drewN ?_ _ | refine blk_drew ?_ | refine blk_alloc ?_ _)); exact BK179.out) hb)
                   have n4_ := Aside0.mk (IsS3.below (by repeat (first | (with_reducible first | exact HI173.out | apply IsS3.alloc | apply IsS3.drewN | apply IsS3.drew | apply IsS3.set_0 | refine IsS3.far ?_ NB173_179.out _ | refine IsS3.far ?_ NB173_185.out _) | exact HI173.out)) hb)
                   have n5_ := Aside0.mk (blk_below (g := gb185) (o := .cells #[.string ((rd_T106 y180 x39_3).f0), .int .i64 ((rd_T106 y180 x39_3).f1), .int .i64 ((rd_T106 y180 x39_3).f2)] 106 (0, 0)) (by (with_reducible repeat (first | refine blk_drewN ?_ _ | refine blk_drew ?_ | refine blk_alloc ?_ _)); exact BK185.out) hb)
                   have n6_ := Aside0.mk (below_step (by repeat (first | (with_reducible first | exact HB.out | apply below_alloc | apply pw_below_drewN | apply below_drew1 | refine below_set ?_ (IsS3.ge HI173.out) | refine below_set ?_ GE179.out | refine below_set ?_ GE185.out) | exact HB.out)) hb)
                   clear HO_6
                   clear HO196
                   clear BK179
                   clear HI173
                   clear BK185
                   clear HB
                   have HO_6 := n0_
                   have HO196 := n1_
                   have HO200 := n2_
                   have BK179 := n3_
                   have HI173 := n4_
                   have BK185 := n5_
                   have HB := n6_
                   clear n0_ n1_ n2_ n3_ n4_ n5_ n6_
                   clear hb ho85
                   refine hK.out _ _ ⟨(blk_cell BK179.out 0).trans rfl, (blk_cell BK179.out 1).trans rfl, (blk_cell BK179.out 2).trans rfl, (blk_cell BK185.out 0).trans rfl, (blk_cell BK185.out 1).trans rfl, (blk_cell BK185.out 2).trans rfl⟩ (fun hHeld => ?_)
                   clear hK K
                   refine norm_ (a' := ?_) ?_ ?_
                   rotate_left
                   ·show Act.put _ (some 79) _ = _
                    simp only [Act.put, List.setIfInBounds_toArray, List.set_cons_zero, List.set_cons_succ, i64_w, i32_w]
                    rfl
                   refine pure_ (i := 11) (N := some 6) (v := ?_) (a' := ?_) #[true, true, true, true, true, true, true, true, true, true, true, true, false, false] rfl rfl (any_of HT_.out (by kernel_rfl)) (fun _ _ _ h => h) (Or.inl ⟨by rfl, ?_⟩) ?_ ?_
                   rotate_left
                   ·intro w'
                    go_simp
                    with_reducible rfl
                   rotate_left
                   ·simp only [Act.put, List.setIfInBounds_toArray, List.set_cons_zero, List.set_cons_succ, i64_w, i32_w]
                    rfl
                   refine pure_ (i := 12) (N := some 7) (v := ?_) (a' := ?_) #[true, true, true, true, true, true, true, true, true, true, true, true, true, false] rfl rfl (any_of HT_.out (by kernel_rfl)) (fun _ _ _ h => h) (Or.inl ⟨by rfl, ?_⟩) ?_ ?_
                   rotate_left
                   ·intro w'
                    go_simp
                    with_reducible rfl
                   rotate_left
                   ·simp only [Act.put, List.setIfInBounds_toArray, List.set_cons_zero, List.set_cons_succ, i64_w, i32_w]
                    rfl
                   refine pure_ (i := 13) (N := some 8) (v := ?_) (a' := ?_) #[true, true, true, true, true, true, true, true, true, true, true, true, true, true] rfl rfl (any_of HT_.out (by kernel_rfl)) (fun _ _ _ h => h) (Or.inl ⟨by rfl, ?_⟩) ?_ ?_
                   rotate_left
                   ·intro w'
                    go_simp
                    with_reducible rfl
                   rotate_left
                   ·simp only [Act.put, List.setIfInBounds_toArray, List.set_cons_zero, List.set_cons_succ, i64_w, i32_w]
                    rfl
                   refine done_ (done_of HT_.out (by kernel_rfl)) ?_
                   try go_wp2
                   go_roundg k3
                   case measure => have := HJ2.out; have := HK2.out; have := HK3.out; omega
                   case rel => exact ⟨(y198), (wrap64 (((rd_T106 l0 x29_2).f2) + ((rd_T106 y180 x39_3).f2))), (t186), (wrap64 (x39_3 + 1)), (by first | rfl | (simp; done) | (simp [*]; done)), (by first | rfl | (simp; done) | (simp [*]; done)), (by first | rfl | (simp; done) | (simp [*]; done)), H', ⟨by have := HJ2.out; have := HK2.out; have := HK3.out; omega⟩, ⟨by (with_reducible repeat (first | apply Kd.R_alloc | apply Kd.R_drewN | apply Kd.R_drew)); exact Kd.R_mono HO200.out (fun _ hk => trivial)⟩, ⟨fun h_ => absurd h_ (by first | exact List.cons_ne_nil _ _ | (rw [Ny198.out]; exact List.cons_ne_nil _ _) | simp; done)⟩, ⟨by (with_reducible repeat (first | refine blk_drewN ?_ _ | refine blk_drew ?_ | refine blk_alloc ?_ _)); exact BK179.out⟩, ⟨by repeat (first | (with_reducible first | exact HI173.out | apply IsS3.alloc | apply IsS3.drewN | apply IsS3.drew | apply IsS3.set_0 | refine IsS3.far ?_ NB173_179.out _ | refine IsS3.far ?_ NB173_185.out _) | exact HI173.out)⟩, ⟨by repeat (first | (with_reducible first | exact HB.out | apply below_alloc | apply pw_below_drewN | apply below_drew1 | refine below_set ?_ (IsS3.ge HI173.out) | refine below_set ?_ GE179.out | refine below_set ?_ GE185.out) | exact HB.out)⟩⟩
                  ·rw [if_neg c65] at H
                   have c65b0 : decide (t197 < 0) = false := decide_eq_false c65
                   clear c65
                   have H' := Aside0.mk H
                   clear H
                   have p184 : 0 ≤ (x39_3 : Int) := of_decide_eq_true (by first | (with_reducible assumption) | assumption)
                   have q184 : x39_3 < (y180.length : Int) := of_decide_eq_true (by first | (with_reducible assumption) | assumption)
                   obtain ⟨ad184, e184, hx184_0, hx184_1, hx184_2⟩ := at_T106 HR183.out x39_3 p184 q184
                   cases e184
                   replace hx184_0 := (HB.out.cell (World.block_lt_of_cell? w _ hx184_0)).trans hx184_0
                   replace hx184_1 := (HB.out.cell (World.block_lt_of_cell? w _ hx184_1)).trans hx184_1
                   replace hx184_2 := (HB.out.cell (World.block_lt_of_cell? w _ hx184_2)).trans hx184_2
                   replace p184 := eq_true p184
                   replace q184 := eq_true q184
                   try go_wp2_with (first | ((with_reducible refine gate_dst (N := 12) rfl ?_); (try (refine gate_guard (by rfl) ?_; dsimp only)); refine box_event ?hg (N := 12) ?hd (cs := #[.string (⟨#[]⟩ : ByteArray), .int .i64 0, .int .i64 0]) (t := 106) ?hr ?_; (case hd => rfl); (case hg => rfl); (case hr => first | (go_simp; done) | (go_simp; rfl)); intro gb185 hg w86 hbox hb; have n0_ := Aside0.mk (Kd.R_below (by (with_reducible repeat (first | apply Kd.R_alloc | apply Kd.R_drewN | apply Kd.R_drew)); exact HO_6.out) hb); have n1_ := Aside0.mk (blk_below (g := gb179) (o := .cells #[.string ((rd_T106 l0 x29_2).f0), .int .i64 ((rd_T106 l0 x29_2).f1), .int .i64 ((rd_T106 l0 x29_2).f2)] 106 (0, 0)) (by (with_reducible repeat (first | refine blk_drewN ?_ _ | refine blk_drew ?_ | refine blk_alloc ?_ _)); exact BK179.out) hb); have n2_ := Aside0.mk (IsS3.below (by repeat (first | (with_reducible first | exact HI173.out | apply IsS3.alloc | apply IsS3.drewN | apply IsS3.drew | apply IsS3.set_0 | refine IsS3.far ?_ NB173_179.out _) | exact HI173.out)) hb); have n3_ := Aside0.mk (below_step (by repeat (first | (with_reducible first | exact HB.out | apply below_alloc | apply pw_below_drewN | apply below_drew1 | refine below_set ?_ (IsS3.ge HI173.out) | refine below_set ?_ GE179.out) | exact HB.out)) hb); have n4_ := Aside0.mk (hbox); have n5_ := Aside0.mk ((by rw [hg]; exact (below_size (by repeat (first | (with_reducible first | exact HB.out | apply below_alloc | apply pw_below_drewN | apply below_drew1 | refine below_set ?_ (IsS3.ge HI173.out) | refine below_set ?_ GE179.out) | exact HB.out))) : w.heap.size ≤ gb185)); have n6_ := Aside0.mk ((by rw [hg]; exact (below_size (by repeat (first | (with_reducible first | exact HB.out | apply below_alloc | apply pw_below_drewN | apply below_drew1 | refine below_set ?_ (IsS3.ge HI173.out) | refine below_set ?_ GE179.out) | exact HB.out))) : w.heap.size ≤ gb185)); have n7_ := Aside0.mk ((by rw [hg]; exact Nat.ne_of_lt (blk_lt (g := gb179) (o := .cells #[.string ((rd_T106 l0 x29_2).f0), .int .i64 ((rd_T106 l0 x29_2).f1), .int .i64 ((rd_T106 l0 x29_2).f2)] 106 (0, 0)) (by (with_reducible repeat (first | refine blk_drewN ?_ _ | refine blk_drew ?_ | refine blk_alloc ?_ _)); exact BK179.out)) : gb179 ≠ gb185)); have n8_ := Aside0.mk ((by rw [hg]; exact Nat.ne_of_gt (blk_lt (g := gb179) (o := .cells #[.string ((rd_T106 l0 x29_2).f0), .int .i64 ((rd_T106 l0 x29_2).f1), .int .i64 ((rd_T106 l0 x29_2).f2)] 106 (0, 0)) (by (with_reducible repeat (first | refine blk_drewN ?_ _ | refine blk_drew ?_ | refine blk_alloc ?_ _)); exact BK179.out)) : gb185 ≠ gb179)); have n9_ := Aside0.mk ((by rw [hg]; exact Nat.ne_of_lt (IsS3.lt (show IsS3 w _ gb173 x174000_2 from by repeat (first | (with_reducible first | exact HI173.out | apply IsS3.alloc | apply IsS3.drewN | apply IsS3.drew | apply IsS3.set_0 | refine IsS3.far ?_ NB173_179.out _) | exact HI173.out))) : gb173 ≠ gb185)); have n10_ := Aside0.mk ((by rw [hg]; exact Nat.ne_of_gt (IsS3.lt (show IsS3 w _ gb173 x174000_2 from by repeat (first | (with_reducible first | exact HI173.out | apply IsS3.alloc | apply IsS3.drewN | apply IsS3.drew | apply IsS3.set_0 | refine IsS3.far ?_ NB173_179.out _) | exact HI173.out))) : gb185 ≠ gb173)); clear HO_6; clear BK179; clear HI173; clear HB; have HO_6 := n0_; have BK179 := n1_; have HI173 := n2_; have HB := n3_; have BK185 := n4_; have GW185 := n5_; have GE185 := n6_; have NB179_185 := n7_; have NB185_179 := n8_; have NB173_185 := n9_; have NB185_173 := n10_; clear n0_ n1_ n2_ n3_ n4_ n5_ n6_ n7_ n8_ n9_ n10_; clear hb hbox hg; have hnb87 := NB185_179.out; have hnc87 := NB179_185.out; have hnb88 := NB185_173.out; have hnc88 := NB173_185.out; have hcz89_0 : w86.cell? ⟨gb185, 0, none⟩ = some (.string (⟨#[]⟩ : ByteArray)) := (blk_cell BK185.out 0).trans rfl; have hcz89_1 : w86.cell? ⟨gb185, 1, none⟩ = some (.int .i64 0) := (blk_cell BK185.out 1).trans rfl; have hcz89_2 : w86.cell? ⟨gb185, 2, none⟩ = some (.int .i64 0) := (blk_cell BK185.out 2).trans rfl; have hfz89_0 := blk_frozen BK185.out 0; have hfz89_1 := blk_frozen BK185.out 1; have hfz89_2 := blk_frozen BK185.out 2; have hnb90 := NB179_173.out; have hnc90 := NB173_179.out; have hcz91_0 : w86.cell? ⟨gb179, 0, none⟩ = some (.string ((rd_T106 l0 x29_2).f0)) := (blk_cell BK179.out 0).trans rfl; have hcz91_1 : w86.cell? ⟨gb179, 1, none⟩ = some (.int .i64 ((rd_T106 l0 x29_2).f1)) := (blk_cell BK179.out 1).trans rfl; have hcz91_2 : w86.cell? ⟨gb179, 2, none⟩ = some (.int .i64 ((rd_T106 l0 x29_2).f2)) := (blk_cell BK179.out 2).trans rfl; have hfz91_0 := blk_frozen BK179.out 0; have hfz91_1 := blk_frozen BK179.out 1; have hfz91_2 := blk_frozen BK179.out 2) | ((with_reducible refine gate_callee (f := 78) rfl ?_); refine goesL_ (some 48) rfl rfl Try.func78 (by kernel_rfl) rfl #[.int .i64 (wrap64 (((rd_T106 l0 x29_2).f1) - ((rd_T106 y180 x39_3).f1)))] rfl (by (try simp only [List.map_toArray, List.map_cons, List.map_nil]); first | done | rfl | (simp only [List.length_drop, List.length_take]; rfl)) ?_; (with_reducible refine (impl_size.calls (wrap64 (((rd_T106 l0 x29_2).f1) - ((rd_T106 y180 x39_3).f1))) t186 _ A31.out).mono ?_); rintro e w92 ⟨rfl, hb⟩; refine ⟨_, rfl, ?_⟩; have n0_ := Aside0.mk (Kd.R_below (by (with_reducible repeat (first | apply Kd.R_alloc | apply Kd.R_drewN | apply Kd.R_drew)); exact (Kd.R_mono (Kd.R_far (p := ⟨gb185, 2, none⟩) (Kd.R_far (p := ⟨gb185, 1, none⟩) (Kd.R_far (p := ⟨gb185, 0, none⟩) (Kd.R_types HO_6.out BK185.out (by decide)) (fun _ hk => hk.2) (.string ((rd_T106 y180 x39_3).f0))) (fun _ hk => hk.2) (.int .i64 ((rd_T106 y180 x39_3).f1))) (fun _ hk => hk.2) (.int .i64 ((rd_T106 y180 x39_3).f2))) (fun _ h_ => h_.1))) hb); have n1_ := Aside0.mk (blk_below (g := gb179) (o := .cells #[.string ((rd_T106 l0 x29_2).f0), .int .i64 ((rd_T106 l0 x29_2).f1), .int .i64 ((rd_T106 l0 x29_2).f2)] 106 (0, 0)) (by (with_reducible repeat (first | refine blk_drewN ?_ _ | refine blk_drew ?_ | refine blk_alloc ?_ _)); refine blk_far ?_ NB179_185.out _; (with_reducible repeat (first | refine blk_drewN ?_ _ | refine blk_drew ?_ | refine blk_alloc ?_ _)); refine blk_far ?_ NB179_185.out _; (with_reducible repeat (first | refine blk_drewN ?_ _ | refine blk_drew ?_ | refine blk_alloc ?_ _)); refine blk_far ?_ NB179_185.out _; (with_reducible repeat (first | refine blk_drewN ?_ _ | refine blk_drew ?_ | refine blk_alloc ?_ _)); exact BK179.out) hb); have n2_ := Aside0.mk (IsS3.below (show IsS3 w (((w86.setCell ⟨gb185, 0, none⟩ (.string ((rd_T106 y180 x39_3).f0))).setCell ⟨gb185, 1, none⟩ (.int .i64 ((rd_T106 y180 x39_3).f1))).setCell ⟨gb185, 2, none⟩ (.int .i64 ((rd_T106 y180 x39_3).f2))) gb173 x174000_2 from by repeat (first | (with_reducible first | exact HI173.out | apply IsS3.alloc | apply IsS3.drewN | apply IsS3.drew | apply IsS3.set_0 | refine IsS3.far ?_ NB173_179.out _ | refine IsS3.far ?_ NB173_185.out _) | exact HI173.out)) hb); have n3_ := Aside0.mk (blk_below (g := gb185) (o := .cells #[.string ((rd_T106 y180 x39_3).f0), .int .i64 ((rd_T106 y180 x39_3).f1), .int .i64 ((rd_T106 y180 x39_3).f2)] 106 (0, 0)) (by (with_reducible repeat (first | refine blk_drewN ?_ _ | refine blk_drew ?_ | refine blk_alloc ?_ _)); refine blk_put (cs := #[.string ((rd_T106 y180 x39_3).f0), .int .i64 ((rd_T106 y180 x39_3).f1), .int .i64 0]) ?_ 2 _ rfl; (with_reducible repeat (first | refine blk_drewN ?_ _ | refine blk_drew ?_ | refine blk_alloc ?_ _)); refine blk_put (cs := #[.string ((rd_T106 y180 x39_3).f0), .int .i64 0, .int .i64 0]) ?_ 1 _ rfl; (with_reducible repeat (first | refine blk_drewN ?_ _ | refine blk_drew ?_ | refine blk_alloc ?_ _)); refine blk_put (cs := #[.string (⟨#[]⟩ : ByteArray), .int .i64 0, .int .i64 0]) ?_ 0 _ rfl; (with_reducible repeat (first | refine blk_drewN ?_ _ | refine blk_drew ?_ | refine blk_alloc ?_ _)); exact BK185.out) hb); have n4_ := Aside0.mk (below_step (by repeat (first | (with_reducible first | exact HB.out | apply below_alloc | apply pw_below_drewN | apply below_drew1 | refine below_set ?_ (IsS3.ge HI173.out) | refine below_set ?_ GE179.out | refine below_set ?_ GE185.out) | exact HB.out)) hb); clear HO_6; clear BK179; clear HI173; clear BK185; clear HB; have HO_6 := n0_; have BK179 := n1_; have HI173 := n2_; have BK185 := n3_; have HB := n4_; clear n0_ n1_ n2_ n3_ n4_; (try clear hb); (try clear hb2); (try clear hk); (try clear hi)))
                   have n0_ := Aside0.mk (Kd.R_drew HO_6.out)
                   have n1_ := Aside0.mk (blk_drew BK179.out)
                   have n2_ := Aside0.mk (blk_drew BK185.out)
                   have n3_ := Aside0.mk (IsS3.drew HI173.out)
                   have n4_ := Aside0.mk (below_drew1 HB.out)
                   clear HO_6
                   clear BK179
                   clear BK185
                   clear HI173
                   clear HB
                   have HO_6 := n0_
                   have BK179 := n1_
                   have BK185 := n2_
                   have HI173 := n3_
                   have HB := n4_
                   clear n0_ n1_ n2_ n3_ n4_
                   refine start_ (n := 9) (S := fun w' => w'.cell? ⟨gb179, 0, none⟩ = some (.string ((rd_T106 l0 x29_2).f0)) ∧ w'.cell? ⟨gb179, 1, none⟩ = some (.int .i64 ((rd_T106 l0 x29_2).f1)) ∧ w'.cell? ⟨gb179, 2, none⟩ = some (.int .i64 ((rd_T106 l0 x29_2).f2)) ∧ w'.cell? ⟨gb173, 0, none⟩ = some (.int .i64 x174000_2) ∧ w'.cell? ⟨gb185, 0, none⟩ = some (.string ((rd_T106 y180 x39_3).f0)) ∧ w'.cell? ⟨gb185, 1, none⟩ = some (.int .i64 ((rd_T106 y180 x39_3).f1)) ∧ w'.cell? ⟨gb185, 2, none⟩ = some (.int .i64 ((rd_T106 y180 x39_3).f2))) (ds := []) #[false, false, false, false, false, false, false, false, false] (by kernel_rfl) rfl rfl ⟨(blk_cell BK179.out 0).trans rfl, (blk_cell BK179.out 1).trans rfl, (blk_cell BK179.out 2).trans rfl, (blk_cell HI173.out.1 0).trans rfl, (blk_cell BK185.out 0).trans rfl, (blk_cell BK185.out 1).trans rfl, (blk_cell BK185.out 2).trans rfl⟩ (fun hHeld => ?_); refine with_tabW impl_NextMatch.tab12 impl_NextMatch.bits12 (fun HT_ HW_ => ?_)
                   generalize w92.drew = w93 at HO_6 BK179 BK185 HI173 HB hHeld ⊢
                   refine pure_ (i := 0) (N := some 49) (v := ?_) (a' := ?_) #[true, false, false, false, false, false, false, false, false] rfl rfl (any_of HT_.out (by kernel_rfl)) (fun _ _ _ h => h) (Or.inl ⟨by rfl, ?_⟩) ?_ ?_
                   rotate_left
                   ·intro w'
                    go_simp
                    with_reducible rfl
                   rotate_left
                   ·simp only [Act.put, List.setIfInBounds_toArray, List.set_cons_zero, List.set_cons_succ, i64_w, i32_w]
                    rfl
                   refine take_ (i := 1) (N := some 50) (v := ?_) (a' := ?_) #[true, true, false, false, false, false, false, false, false] rfl rfl (take_ofW HT_.out HW_.out (by kernel_rfl)) (fun _ _ _ h => h) (Or.inl ⟨by rfl, ?_⟩) hHeld ?_ ?_
                   rotate_left
                   ·rintro w' ⟨s0, s1, s2, s3, s4, s5, s6⟩
                    go_simp
                    with_reducible rfl
                   rotate_left
                   ·simp only [Act.put, List.setIfInBounds_toArray, List.set_cons_zero, List.set_cons_succ, i64_w, i32_w]
                    rfl
                   refine take_ (i := 2) (N := some 51) (v := ?_) (a' := ?_) #[true, true, true, false, false, false, false, false, false] rfl rfl (take_ofW HT_.out HW_.out (by kernel_rfl)) (fun _ _ _ h => h) (Or.inl ⟨by rfl, ?_⟩) hHeld ?_ ?_
                   rotate_left
                   ·rintro w' ⟨s0, s1, s2, s3, s4, s5, s6⟩
                    go_simp
                    with_reducible rfl
                   rotate_left
                   ·simp only [Act.put, List.setIfInBounds_toArray, List.set_cons_zero, List.set_cons_succ, i64_w, i32_w]
                    rfl
                   refine take_ (i := 4) (N := some 53) (v := ?_) (a' := ?_) #[true, true, true, false, true, false, false, false, false] rfl rfl (take_ofW HT_.out HW_.out (by kernel_rfl)) (fun _ _ _ h => h) (Or.inl ⟨by rfl, ?_⟩) hHeld ?_ ?_
                   rotate_left
                   ·rintro w' ⟨s0, s1, s2, s3, s4, s5, s6⟩
                    go_simp
                    with_reducible rfl
                   rotate_left
                   ·simp only [Act.put, List.setIfInBounds_toArray, List.set_cons_zero, List.set_cons_succ, i64_w, i32_w]
                    rfl
                   refine take_ (i := 5) (N := some 54) (v := ?_) (a' := ?_) #[true, true, true, false, true, true, false, false, false] rfl rfl (take_ofW HT_.out HW_.out (by kernel_rfl)) (fun _ _ _ h => h) (Or.inl ⟨by rfl, ?_⟩) hHeld ?_ ?_
                   rotate_left
                   ·rintro w' ⟨s0, s1, s2, s3, s4, s5, s6⟩
                    go_simp
                    with_reducible rfl
                   rotate_left
                   ·simp only [Act.put, List.setIfInBounds_toArray, List.set_cons_zero, List.set_cons_succ, i64_w, i32_w]
                    rfl
                   refine one_ (i := 3) (N := some 52) #[true, true, true, true, true, true, false, false, false] rfl rfl (one_of HT_.out (by kernel_rfl)) (by decide) (fun K hK => ?_)
                   refine goes_ Try.func79 (by kernel_rfl) rfl #[.agg #[.string ((rd_T106 l0 x29_2).f0), .int .i64 ((rd_T106 l0 x29_2).f1), .int .i64 ((rd_T106 l0 x29_2).f2)], .int .i64 x174000_2] (by rfl) rfl rfl (by (try simp only [List.map_toArray, List.map_cons, List.map_nil]); first | done | rfl | (simp only [List.length_drop, List.length_take]; rfl)) ?_
                   with_reducible refine (impl_Player_wide.calls ((rd_T106 l0 x29_2).f0) ((rd_T106 l0 x29_2).f1) ((rd_T106 l0 x29_2).f2) x174000_2 t187 _ A32.out).mono ?_
                   rintro e w94 ⟨rfl, hb⟩
                   refine ⟨_, rfl, ?_⟩
                   have n0_ := Aside0.mk (Kd.R_below (by (with_reducible repeat (first | apply Kd.R_alloc | apply Kd.R_drewN | apply Kd.R_drew)); exact HO_6.out) hb)
                   have n1_ := Aside0.mk (blk_below (g := gb179) (o := .cells #[.string ((rd_T106 l0 x29_2).f0), .int .i64 ((rd_T106 l0 x29_2).f1), .int .i64 ((rd_T106 l0 x29_2).f2)] 106 (0, 0)) (by (with_reducible repeat (first | refine blk_drewN ?_ _ | refine blk_drew ?_ | refine blk_alloc ?_ _)); exact BK179.out) hb)
                   have n2_ := Aside0.mk (IsS3.below (by repeat (first | (with_reducible first | exact HI173.out | apply IsS3.alloc | apply IsS3.drewN | apply IsS3.drew | apply IsS3.set_0 | refine IsS3.far ?_ NB173_179.out _ | refine IsS3.far ?_ NB173_185.out _) | exact HI173.out)) hb)
                   have n3_ := Aside0.mk (blk_below (g := gb185) (o := .cells #[.string ((rd_T106 y180 x39_3).f0), .int .i64 ((rd_T106 y180 x39_3).f1), .int .i64 ((rd_T106 y180 x39_3).f2)] 106 (0, 0)) (by (with_reducible repeat (first | refine blk_drewN ?_ _ | refine blk_drew ?_ | refine blk_alloc ?_ _)); exact BK185.out) hb)
                   have n4_ := Aside0.mk (below_step (by repeat (first | (with_reducible first | exact HB.out | apply below_alloc | apply pw_below_drewN | apply below_drew1 | refine below_set ?_ (IsS3.ge HI173.out) | refine below_set ?_ GE179.out | refine below_set ?_ GE185.out) | exact HB.out)) hb)
                   clear HO_6
                   clear BK179
                   clear HI173
                   clear BK185
                   clear HB
                   have HO_6 := n0_
                   have BK179 := n1_
                   have HI173 := n2_
                   have BK185 := n3_
                   have HB := n4_
                   clear n0_ n1_ n2_ n3_ n4_
                   (try clear hb)
                   (try clear hb2)
                   (try clear hk)
                   (try clear hi)
                   refine hK.out _ _ ⟨(blk_cell BK179.out 0).trans rfl, (blk_cell BK179.out 1).trans rfl, (blk_cell BK179.out 2).trans rfl, (blk_cell HI173.out.1 0).trans rfl, (blk_cell BK185.out 0).trans rfl, (blk_cell BK185.out 1).trans rfl, (blk_cell BK185.out 2).trans rfl⟩ (fun hHeld => ?_)
                   clear hK K
                   refine norm_ (a' := ?_) ?_ ?_
                   rotate_left
                   ·show Act.put _ (some 52) _ = _
                    simp only [Act.put, List.setIfInBounds_toArray, List.set_cons_zero, List.set_cons_succ, i64_w, i32_w]
                    rfl
                   refine one_ (i := 6) (N := some 55) #[true, true, true, true, true, true, true, false, false] rfl rfl (one_of HT_.out (by kernel_rfl)) (by decide) (fun K hK => ?_)
                   refine goes_ Try.func79 (by kernel_rfl) rfl #[.agg #[.string ((rd_T106 y180 x39_3).f0), .int .i64 ((rd_T106 y180 x39_3).f1), .int .i64 ((rd_T106 y180 x39_3).f2)], .int .i64 x174000_2] (by rfl) rfl rfl (by (try simp only [List.map_toArray, List.map_cons, List.map_nil]); first | done | rfl | (simp only [List.length_drop, List.length_take]; rfl)) ?_
                   with_reducible refine (impl_Player_wide.calls ((rd_T106 y180 x39_3).f0) ((rd_T106 y180 x39_3).f1) ((rd_T106 y180 x39_3).f2) x174000_2 t188 _ A33.out).mono ?_
                   rintro e w95 ⟨rfl, hb⟩
                   refine ⟨_, rfl, ?_⟩
                   have n0_ := Aside0.mk (Kd.R_below (by (with_reducible repeat (first | apply Kd.R_alloc | apply Kd.R_drewN | apply Kd.R_drew)); exact HO_6.out) hb)
                   have n1_ := Aside0.mk (blk_below (g := gb179) (o := .cells #[.string ((rd_T106 l0 x29_2).f0), .int .i64 ((rd_T106 l0 x29_2).f1), .int .i64 ((rd_T106 l0 x29_2).f2)] 106 (0, 0)) (by (with_reducible repeat (first | refine blk_drewN ?_ _ | refine blk_drew ?_ | refine blk_alloc ?_ _)); exact BK179.out) hb)
                   have n2_ := Aside0.mk (IsS3.below (by repeat (first | (with_reducible first | exact HI173.out | apply IsS3.alloc | apply IsS3.drewN | apply IsS3.drew | apply IsS3.set_0 | refine IsS3.far ?_ NB173_179.out _ | refine IsS3.far ?_ NB173_185.out _) | exact HI173.out)) hb)
                   have n3_ := Aside0.mk (blk_below (g := gb185) (o := .cells #[.string ((rd_T106 y180 x39_3).f0), .int .i64 ((rd_T106 y180 x39_3).f1), .int .i64 ((rd_T106 y180 x39_3).f2)] 106 (0, 0)) (by (with_reducible repeat (first | refine blk_drewN ?_ _ | refine blk_drew ?_ | refine blk_alloc ?_ _)); exact BK185.out) hb)
                   have n4_ := Aside0.mk (below_step (by repeat (first | (with_reducible first | exact HB.out | apply below_alloc | apply pw_below_drewN | apply below_drew1 | refine below_set ?_ (IsS3.ge HI173.out) | refine below_set ?_ GE179.out | refine below_set ?_ GE185.out) | exact HB.out)) hb)
                   clear HO_6
                   clear BK179
                   clear HI173
                   clear BK185
                   clear HB
                   have HO_6 := n0_
                   have BK179 := n1_
                   have HI173 := n2_
                   have BK185 := n3_
                   have HB := n4_
                   clear n0_ n1_ n2_ n3_ n4_
                   (try clear hb)
                   (try clear hb2)
                   (try clear hk)
                   (try clear hi)
                   refine hK.out _ _ ⟨(blk_cell BK179.out 0).trans rfl, (blk_cell BK179.out 1).trans rfl, (blk_cell BK179.out 2).trans rfl, (blk_cell HI173.out.1 0).trans rfl, (blk_cell BK185.out 0).trans rfl, (blk_cell BK185.out 1).trans rfl, (blk_cell BK185.out 2).trans rfl⟩ (fun hHeld => ?_)
                   clear hK K
                   refine norm_ (a' := ?_) ?_ ?_
                   rotate_left
                   ·show Act.put _ (some 55) _ = _
                    simp only [Act.put, List.setIfInBounds_toArray, List.set_cons_zero, List.set_cons_succ, i64_w, i32_w]
                    rfl
                   refine pure_ (i := 7) (N := some 56) (v := ?_) (a' := ?_) #[true, true, true, true, true, true, true, true, false] rfl rfl (any_of HT_.out (by kernel_rfl)) (fun _ _ _ h => h) (Or.inl ⟨by rfl, ?_⟩) ?_ ?_
                   rotate_left
                   ·intro w'
                    go_simp
                    with_reducible rfl
                   rotate_left
                   ·simp only [Act.put, List.setIfInBounds_toArray, List.set_cons_zero, List.set_cons_succ, i64_w, i32_w]
                    rfl
                   refine pure_ (i := 8) (N := some 57) (v := ?_) (a' := ?_) #[true, true, true, true, true, true, true, true, true] rfl rfl (any_of HT_.out (by kernel_rfl)) (fun _ _ _ h => h) (Or.inl ⟨by rfl, ?_⟩) ?_ ?_
                   rotate_left
                   ·intro w'
                    go_simp
                    with_reducible rfl
                   rotate_left
                   ·simp only [Act.put, List.setIfInBounds_toArray, List.set_cons_zero, List.set_cons_succ, i64_w, i32_w]
                    rfl
                   refine done_ (done_of HT_.out (by kernel_rfl)) ?_
                   obtain ⟨Ao96, co96, eo96⟩ := Kd.R_slice HO_6.out
                   subst eo96
                   have znz97 := nilz_ (Kd.R_reads' HO_6.out).2.2 HZ_6.out
                   have hnz97 := fun (W : World) => Go.Lib.run_eql_slice_nil (P := Try.prog) W 55 9 Ao96 x6_3.length co96 0 0 Try.underlying55
                   simp only [znz97] at hnz97
                   clear znz97
                   have hcz98_0 : w95.cell? ⟨gb179, 0, none⟩ = some (.string ((rd_T106 l0 x29_2).f0)) := (blk_cell BK179.out 0).trans rfl
                   have hcz98_1 : w95.cell? ⟨gb179, 1, none⟩ = some (.int .i64 ((rd_T106 l0 x29_2).f1)) := (blk_cell BK179.out 1).trans rfl
                   have hcz98_2 : w95.cell? ⟨gb179, 2, none⟩ = some (.int .i64 ((rd_T106 l0 x29_2).f2)) := (blk_cell BK179.out 2).trans rfl
                   have hfz98_0 := blk_frozen BK179.out 0
                   have hfz98_1 := blk_frozen BK179.out 1
                   have hfz98_2 := blk_frozen BK179.out 2
                   have hcz99_0 : w95.cell? ⟨gb185, 0, none⟩ = some (.string ((rd_T106 y180 x39_3).f0)) := (blk_cell BK185.out 0).trans rfl
                   have hcz99_1 : w95.cell? ⟨gb185, 1, none⟩ = some (.int .i64 ((rd_T106 y180 x39_3).f1)) := (blk_cell BK185.out 1).trans rfl
                   have hcz99_2 : w95.cell? ⟨gb185, 2, none⟩ = some (.int .i64 ((rd_T106 y180 x39_3).f2)) := (blk_cell BK185.out 2).trans rfl
                   have hfz99_0 := blk_frozen BK185.out 0
                   have hfz99_1 := blk_frozen BK185.out 1
                   have hfz99_2 := blk_frozen BK185.out 2
                   try go_wp2_with (first | (go_at_call 81; (with_reducible refine (cmp_Compare_int.calls (wrap64 (((rd_T106 l0 x29_2).f2) + ((rd_T106 y180 x39_3).f2))) x7_3 t192 _ A62.out).mono ?_); rintro e w' ⟨rfl, ⟨nd, rfl⟩⟩) | (go_at_call 81; (with_reducible refine (cmp_Compare_int.calls t186 x8_3 t193 _ A63.out).mono ?_); rintro e w' ⟨rfl, ⟨nd, rfl⟩⟩) | ((with_reducible refine gate_dst (N := 71) rfl ?_); (try (refine gate_guard (by rfl) ?_; dsimp only)); refine Kd.R_lit (Kd.int .i64) _ 3 ?hg (N := 71) ?hd (xs := ([t192, t193] : List Int)) (inner := [.int .i64 t192, .int .i64 t193]) (ok := fun _ => True) (okp := fun _ => True) ?hr ?hp (fun _ hk => hk) trivial (Below.refl _ _) (Nat.le_refl _) (by simp) ?_; (case hd => rfl); (case hg => rfl); (case hr => first | (go_simp; done) | (go_simp; rfl)); (case hp => exact (Reps.one (show Kd.M (Kd.int .i64) _ _ _ t192 [.int .i64 t192] from rfl) (Reps.one (show Kd.M (Kd.int .i64) _ _ _ t193 [.int .i64 t193] from rfl) (Reps.none _ _)))); intro v195 w100 ho101 hb hg_ hnew_; clear hg_ hnew_; (first | rw [← Ny194.out] at ho101 | (simp only [Int.reduceToNat] at ho101; rw [← Ny194.out] at ho101)); have n0_ := Aside0.mk (Kd.R_below (by (with_reducible repeat (first | apply Kd.R_alloc | apply Kd.R_drewN | apply Kd.R_drew)); exact HO_6.out) hb); have n1_ := Aside0.mk (Kd.R_lower ho101 (below_size (by repeat (first | (with_reducible first | exact HB.out | apply below_alloc | apply pw_below_drewN | apply below_drew1 | refine below_set ?_ (IsS3.ge HI173.out) | refine below_set ?_ GE179.out | refine below_set ?_ GE185.out) | exact HB.out)))); have n2_ := Aside0.mk (blk_below (g := gb179) (o := .cells #[.string ((rd_T106 l0 x29_2).f0), .int .i64 ((rd_T106 l0 x29_2).f1), .int .i64 ((rd_T106 l0 x29_2).f2)] 106 (0, 0)) (by (with_reducible repeat (first | refine blk_drewN ?_ _ | refine blk_drew ?_ | refine blk_alloc ?_ _)); exact BK179.out) hb); have n3_ := Aside0.mk (IsS3.below (by repeat (first | (with_reducible first | exact HI173.out | apply IsS3.alloc | apply IsS3.drewN | apply IsS3.drew | apply IsS3.set_0 | refine IsS3.far ?_ NB173_179.out _ | refine IsS3.far ?_ NB173_185.out _) | exact HI173.out)) hb); have n4_ := Aside0.mk (blk_below (g := gb185) (o := .cells #[.string ((rd_T106 y180 x39_3).f0), .int .i64 ((rd_T106 y180 x39_3).f1), .int .i64 ((rd_T106 y180 x39_3).f2)] 106 (0, 0)) (by (with_reducible repeat (first | refine blk_drewN ?_ _ | refine blk_drew ?_ | refine blk_alloc ?_ _)); exact BK185.out) hb); have n5_ := Aside0.mk (below_step (by repeat (first | (with_reducible first | exact HB.out | apply below_alloc | apply pw_below_drewN | apply below_drew1 | refine below_set ?_ (IsS3.ge HI173.out) | refine below_set ?_ GE179.out | refine below_set ?_ GE185.out) | exact HB.out)) hb); clear HO_6; clear BK179; clear HI173; clear BK185; clear HB; have HO_6 := n0_; have HO196 := n1_; have BK179 := n2_; have HI173 := n3_; have BK185 := n4_; have HB := n5_; clear n0_ n1_ n2_ n3_ n4_ n5_; clear hb ho101; obtain ⟨Ao102, co102, eo102⟩ := Kd.R_slice HO196.out; subst eo102) | (go_at_call 80; (with_reducible refine (cmp_Or_int.calls k3 _ _ y194 t197 _ ?side1 ?side2 A64.out).mono ?_); (case side1 => repeat (first | exact (Kd.R_reads' HO196.out).2.2 | (with_reducible refine Kd.C_alloc ?_ _) | (with_reducible refine Kd.C_drewN ?_ _) | (with_reducible refine Kd.C_drew ?_))); (case side2 => exact (Kd.R_reads' HO196.out).2.1); rintro e w' ⟨rfl, ⟨nd, rfl⟩⟩))
                   go_roundg k3
                   case measure => have := HJ2.out; have := HK2.out; have := HK3.out; omega
                   case rel => exact ⟨(x6_3), (x7_3), (x8_3), (wrap64 (x39_3 + 1)), (by first | rfl | (simp; done) | (simp [*]; done)), (by first | rfl | (simp; done) | (simp [*]; done)), (by first | rfl | (simp; done) | (simp [*]; done)), H', ⟨by have := HJ2.out; have := HK2.out; have := HK3.out; omega⟩, ⟨by (with_reducible repeat (first | apply Kd.R_alloc | apply Kd.R_drewN | apply Kd.R_drew)); exact HO_6.out⟩, ⟨HZ_6.out⟩, ⟨by (with_reducible repeat (first | refine blk_drewN ?_ _ | refine blk_drew ?_ | refine blk_alloc ?_ _)); exact BK179.out⟩, ⟨by repeat (first | (with_reducible first | exact HI173.out | apply IsS3.alloc | apply IsS3.drewN | apply IsS3.drew | apply IsS3.set_0 | refine IsS3.far ?_ NB173_179.out _ | refine IsS3.far ?_ NB173_185.out _) | exact HI173.out)⟩, ⟨by repeat (first | (with_reducible first | exact HB.out | apply below_alloc | apply pw_below_drewN | apply below_drew1 | refine below_set ?_ (IsS3.ge HI173.out) | refine below_set ?_ GE179.out | refine below_set ?_ GE185.out) | exact HB.out)⟩⟩
               ·rw [if_neg c30] at H
                exact absurd H (by simp)
              ·rw [if_neg c29] at H
               exact absurd H (by simp)
             ·rw [if_neg c28] at H
              have c28b0 : decide (x39_3 < (y180.length : Int)) = false := decide_eq_false c28
              clear c28
              have H' := Aside0.mk H
              clear H
              go_wp2
              go_roundg k3
              case measure => have := HJ2.out; have := HK2.out; have := HK3.out; omega
              case rel => exact ⟨(x6_3), (x7_3), (x8_3), (wrap64 (x29_2 + 1)), (by first | rfl | (simp; done) | (simp [*]; done)), (by first | rfl | (simp; done) | (simp [*]; done)), (by first | rfl | (simp; done) | (simp [*]; done)), H', ⟨by have := HJ2.out; have := HK2.out; have := HK3.out; omega⟩, ⟨by (with_reducible repeat (first | apply Kd.R_alloc | apply Kd.R_drewN | apply Kd.R_drew)); exact HO_6.out⟩, ⟨HZ_6.out⟩, ⟨by repeat (first | (with_reducible first | exact HI173.out | apply IsS3.alloc | apply IsS3.drewN | apply IsS3.drew | apply IsS3.set_0 | refine IsS3.far ?_ NB173_179.out _) | exact HI173.out)⟩, ⟨by repeat (first | (with_reducible first | exact HB.out | apply below_alloc | apply pw_below_drewN | apply below_drew1 | refine below_set ?_ (IsS3.ge HI173.out) | refine below_set ?_ GE179.out) | exact HB.out)⟩⟩
          ·rw [if_neg c22] at H
           exact absurd H (by simp)
         ·rw [if_neg c21] at H
          exact absurd H (by simp)
        ·rw [if_neg c19] at H
         exact absurd H (by simp)
       ·rw [if_neg c18] at H
        exact absurd H (by simp)
      ·rw [if_neg c17] at H
       have c17b0 : decide (x29_2 < (l0.length : Int)) = false := decide_eq_false c17
       clear c17
       simp only [Option.some.injEq, Prod.mk.injEq] at H
       obtain ⟨rfl, rfl⟩ := H
       go_wp2
       go_ret2
       exact ⟨_, by first | rfl | (simp [errW_none, errW_some] <;> rfl) | (simp [*, errW_none, errW_some] <;> rfl), by (with_reducible repeat (first | apply Kd.R_alloc | apply Kd.R_drewN | apply Kd.R_drew)); exact HO_6.out, by repeat (first | (with_reducible first | exact HB.out | apply below_alloc | apply pw_below_drewN | apply below_drew1 | refine below_set ?_ (IsS3.ge HI173.out)) | exact HB.out)⟩

end Go.Proofs.Ytjbkagmfkcoclaa.XFnExactNextMatch

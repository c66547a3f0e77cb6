-- Lean text written by a program of this session out of the translation
import Derived.Test.YtjbkagmfkcoclaaXFnExactDropPartx0
import Derived.Test.YtjbkagmfkcoclaaXFnExactDropPartx5
namespace Go.Proofs.Ytjbkagmfkcoclaa.XFnExactDropPart
open Go.RowKit Go.Proofs.YtjbkagmfkcoclaaW.PrintWords Go.Proofs.YtjbkagmfkcoclaaW.PrintLast Go.Proofs.YtjbkagmfkcoclaaW.PrintMore
attribute [local go_sem] max2_int min2_int max_two min_two max_three min_three max_four min_four   -- for this text's walks alone
set_option linter.unusedVariables false
set_option linter.unusedSimpArgs false

/-! ### spec_GoodWorld: function 42 -/
mutual
def spec_GoodWorld.j0 : Nat → Bool → Int → Int → List (S76) → Option (Bool)
 | 0, _, _, _, _ => none
 | k + 1, x22, x176000, x176001, x176002 => if x22 = true then (some false) else (spec_GoodWorld.l0 k x176002 (x176002.length : Int) 0 x176000 x176001 x176002)
def spec_GoodWorld.l0 : Nat → List (S76) → Int → Int → Int → Int → List (S76) → Option (Bool)
 | 0, _, _, _, _, _, _ => none
 | k + 1, x24, x25, x26, x176000, x176001, x176002 => if x26 < x25 then (if 0 ≤ x26 then (if x26 < (x24.length : Int) then ((spec_l1In.f ((rd_T76 x24 x26).f0) 1 (wrap64 (x176000 - 1))).bind fun t180 => (if t180 = true then (if x26 > 0 then (if 0 ≤ (wrap64 (x26 - 1)) then (if (wrap64 (x26 - 1)) < (x176002.length : Int) then (if ((rd_T76 x176002 (wrap64 (x26 - 1))).f0) ≥ ((rd_T76 x24 x26).f0) then (spec_GoodWorld.j2 k x24 x25 x26 true x176000 x176001 x176002 ((rd_T76 x24 x26).f0) ((rd_T76 x24 x26).f1)) else (spec_GoodWorld.j2 k x24 x25 x26 (decide ((((rd_T76 x24 x26).f1).length : Int) > 12)) x176000 x176001 x176002 ((rd_T76 x24 x26).f0) ((rd_T76 x24 x26).f1))) else (none)) else (none)) else (spec_GoodWorld.j2 k x24 x25 x26 (decide ((((rd_T76 x24 x26).f1).length : Int) > 12)) x176000 x176001 x176002 ((rd_T76 x24 x26).f0) ((rd_T76 x24 x26).f1))) else (spec_GoodWorld.j2 k x24 x25 x26 true x176000 x176001 x176002 ((rd_T76 x24 x26).f0) ((rd_T76 x24 x26).f1)))) else (none)) else (none)) else (some true)
def spec_GoodWorld.j2 : Nat → List (S76) → Int → Int → Bool → Int → Int → List (S76) → Int → List (S91) → Option (Bool)
 | 0, _, _, _, _, _, _, _, _, _ => none
 | k + 1, x24, x25, x26, x59, x176000, x176001, x176002, x180000, x180001 => if x59 = true then (some false) else (spec_GoodWorld.l1 k x24 x25 x26 x180001 (x180001.length : Int) 0 x176000 x176001 x176002 x180000 x180001)
def spec_GoodWorld.l1 : Nat → List (S76) → Int → Int → List (S91) → Int → Int → Int → Int → List (S76) → Int → List (S91) → Option (Bool)
 | 0, _, _, _, _, _, _, _, _, _, _, _ => none
 | k + 1, x24, x25, x26, x61, x62, x63, x176000, x176001, x176002, x180000, x180001 => if x63 < x62 then (if 0 ≤ x63 then (if x63 < (x61.length : Int) then ((spec_GoodName.f k ((rd_T91 x61 x63).f0)).bind fun t184 => (if t184 = true then ((spec_l1In.f ((rd_T91 x61 x63).f2) 0 x176001).bind fun t185 => (if t185 = true then (if x63 > 0 then (if 0 ≤ (wrap64 (x63 - 1)) then (if (wrap64 (x63 - 1)) < (x180001.length : Int) then (if ((Op.bytesLess (((rd_T91 x180001 (wrap64 (x63 - 1))).f0).toList) (((rd_T91 x61 x63).f0).toList)) = true) then (spec_GoodWorld.l1 k x24 x25 x26 x61 x62 (wrap64 (x63 + 1)) x176000 x176001 x176002 x180000 x180001) else (some false)) else (none)) else (none)) else (spec_GoodWorld.l1 k x24 x25 x26 x61 x62 (wrap64 (x63 + 1)) x176000 x176001 x176002 x180000 x180001)) else (some false))) else (some false))) else (none)) else (none)) else (spec_GoodWorld.l0 k x24 x25 (wrap64 (x26 + 1)) x176000 x176001 x176002)
end
def spec_GoodWorld.f (k : Nat) (a0_0 : Int) (a0_1 : Int) (l0_2 : List (S76)) : Option (Bool) := (spec_l1In.f a0_0 1 1000000).bind fun t176 => (if t176 = true then ((spec_l1In.f a0_1 0 1000000).bind fun t177 => (if t177 = true then (spec_GoodWorld.j0 k (decide ((l0_2.length : Int) > 60)) a0_0 a0_1 l0_2) else (spec_GoodWorld.j0 k true a0_0 a0_1 l0_2))) else (spec_GoodWorld.j0 k true a0_0 a0_1 l0_2))
theorem spec_GoodWorld.mono_l : ∀ k, (∀ y0 y1 y2 y3, LeO (spec_GoodWorld.j0 k y0 y1 y2 y3) (spec_GoodWorld.j0 (k + 1) y0 y1 y2 y3)) ∧ (∀ y0 y1 y2 y3 y4 y5, LeO (spec_GoodWorld.l0 k y0 y1 y2 y3 y4 y5) (spec_GoodWorld.l0 (k + 1) y0 y1 y2 y3 y4 y5)) ∧ (∀ y0 y1 y2 y3 y4 y5 y6 y7 y8, LeO (spec_GoodWorld.j2 k y0 y1 y2 y3 y4 y5 y6 y7 y8) (spec_GoodWorld.j2 (k + 1) y0 y1 y2 y3 y4 y5 y6 y7 y8)) ∧ (∀ y0 y1 y2 y3 y4 y5 y6 y7 y8 y9 y10, LeO (spec_GoodWorld.l1 k y0 y1 y2 y3 y4 y5 y6 y7 y8 y9 y10) (spec_GoodWorld.l1 (k + 1) y0 y1 y2 y3 y4 y5 y6 y7 y8 y9 y10))
 | 0 => ⟨fun _ _ _ _ r h => by simp [spec_GoodWorld.j0] at h, fun _ _ _ _ _ _ r h => by simp [spec_GoodWorld.l0] at h, fun _ _ _ _ _ _ _ _ _ r h => by simp [spec_GoodWorld.j2] at h, fun _ _ _ _ _ _ _ _ _ _ _ r h => by simp [spec_GoodWorld.l1] at h⟩
 | k + 1 => by
  obtain ⟨ih0, ih1, ih2, ih3⟩ := spec_GoodWorld.mono_l k
  refine ⟨?_, ?_, ?_, ?_⟩
  ·intro y0 y1 y2 y3
   unfold spec_GoodWorld.j0
   repeat' first
   | (with_reducible exact ih0 _ _ _ _)
   | (with_reducible exact ih1 _ _ _ _ _ _)
   | (with_reducible exact ih2 _ _ _ _ _ _ _ _ _)
   | (with_reducible exact ih3 _ _ _ _ _ _ _ _ _ _ _)
   | (with_reducible exact spec_GoodName.mono _ _)
   | (with_reducible exact LeO.refl _)
   | (with_reducible exact LeO.none _)
   | (with_reducible refine LeO.ite ?_ ?_)
   | (with_reducible refine LeO.bind ?_ (fun _ => ?_))
   | exact ih0 _ _ _ _
   | exact ih1 _ _ _ _ _ _
   | exact ih2 _ _ _ _ _ _ _ _ _
   | exact ih3 _ _ _ _ _ _ _ _ _ _ _
   | exact spec_GoodName.mono _ _
   | exact LeO.none _
   | refine LeO.ite ?_ ?_
   | refine LeO.bind ?_ (fun _ => ?_)
  ·intro y0 y1 y2 y3 y4 y5
   unfold spec_GoodWorld.l0
   repeat' first
   | (with_reducible exact ih0 _ _ _ _)
   | (with_reducible exact ih1 _ _ _ _ _ _)
   | (with_reducible exact ih2 _ _ _ _ _ _ _ _ _)
   | (with_reducible exact ih3 _ _ _ _ _ _ _ _ _ _ _)
   | (with_reducible exact spec_GoodName.mono _ _)
   | (with_reducible exact LeO.refl _)
   | (with_reducible exact LeO.none _)
   | (with_reducible refine LeO.ite ?_ ?_)
   | (with_reducible refine LeO.bind ?_ (fun _ => ?_))
   | exact ih0 _ _ _ _
   | exact ih1 _ _ _ _ _ _
   | exact ih2 _ _ _ _ _ _ _ _ _
   | exact ih3 _ _ _ _ _ _ _ _ _ _ _
   | exact spec_GoodName.mono _ _
   | exact LeO.none _
   | refine LeO.ite ?_ ?_
   | refine LeO.bind ?_ (fun _ => ?_)
  ·intro y0 y1 y2 y3 y4 y5 y6 y7 y8
   unfold spec_GoodWorld.j2
   repeat' first
   | (with_reducible exact ih0 _ _ _ _)
   | (with_reducible exact ih1 _ _ _ _ _ _)
   | (with_reducible exact ih2 _ _ _ _ _ _ _ _ _)
   | (with_reducible exact ih3 _ _ _ _ _ _ _ _ _ _ _)
   | (with_reducible exact spec_GoodName.mono _ _)
   | (with_reducible exact LeO.refl _)
   | (with_reducible exact LeO.none _)
   | (with_reducible refine LeO.ite ?_ ?_)
   | (with_reducible refine LeO.bind ?_ (fun _ => ?_))
   | exact ih0 _ _ _ _
   | exact ih1 _ _ _ _ _ _
   | exact ih2 _ _ _ _ _ _ _ _ _
   | exact ih3 _ _ _ _ _ _ _ _ _ _ _
   | exact spec_GoodName.mono _ _
   | exact LeO.none _
   | refine LeO.ite ?_ ?_
   | refine LeO.bind ?_ (fun _ => ?_)
  ·intro y0 y1 y2 y3 y4 y5 y6 y7 y8 y9 y10
   unfold spec_GoodWorld.l1
   repeat' first
   | (with_reducible exact ih0 _ _ _ _)
   | (with_reducible exact ih1 _ _ _ _ _ _)
   | (with_reducible exact ih2 _ _ _ _ _ _ _ _ _)
   | (with_reducible exact ih3 _ _ _ _ _ _ _ _ _ _ _)
   | (with_reducible exact spec_GoodName.mono _ _)
   | (with_reducible exact LeO.refl _)
   | (with_reducible exact LeO.none _)
   | (with_reducible refine LeO.ite ?_ ?_)
   | (with_reducible refine LeO.bind ?_ (fun _ => ?_))
   | exact ih0 _ _ _ _
   | exact ih1 _ _ _ _ _ _
   | exact ih2 _ _ _ _ _ _ _ _ _
   | exact ih3 _ _ _ _ _ _ _ _ _ _ _
   | exact spec_GoodName.mono _ _
   | exact LeO.none _
   | refine LeO.ite ?_ ?_
   | refine LeO.bind ?_ (fun _ => ?_)
theorem spec_GoodWorld.mono : ∀ a0 a1 a2 k, LeO (spec_GoodWorld.f k a0 a1 a2) (spec_GoodWorld.f (k + 1) a0 a1 a2) := by
 intro a0 a1 a2 k
 obtain ⟨ih0, ih1, ih2, ih3⟩ := spec_GoodWorld.mono_l k
 unfold spec_GoodWorld.f
 repeat' first
   | (with_reducible exact ih0 _ _ _ _)
   | (with_reducible exact ih1 _ _ _ _ _ _)
   | (with_reducible exact ih2 _ _ _ _ _ _ _ _ _)
   | (with_reducible exact ih3 _ _ _ _ _ _ _ _ _ _ _)
   | (with_reducible exact spec_GoodName.mono _ _)
   | (with_reducible exact LeO.refl _)
   | (with_reducible exact LeO.none _)
   | (with_reducible refine LeO.ite ?_ ?_)
   | (with_reducible refine LeO.bind ?_ (fun _ => ?_))
   | exact ih0 _ _ _ _
   | exact ih1 _ _ _ _ _ _
   | exact ih2 _ _ _ _ _ _ _ _ _
   | exact ih3 _ _ _ _ _ _ _ _ _ _ _
   | exact spec_GoodName.mono _ _
   | exact LeO.none _
   | refine LeO.ite ?_ ?_
   | refine LeO.bind ?_ (fun _ => ?_)
set_option maxHeartbeats 8000000 in
set_option maxRecDepth 100000 in
theorem spec_GoodWorld.calls (k : Nat) (a0_0 : Int) (a0_1 : Int) (A0_2 : Option Addr) (c0_2 : Nat) (l0_2 : List (S76)) (r : Bool) (w : World) (hr0_2 : Kd.C k76 w A0_2 l0_2.length l0_2) (hc0_2 : l0_2.length ≤ c0_2) (h : spec_GoodWorld.f k a0_0 a0_1 l0_2 = some r) :
  Calls Try.prog 42 #[.agg #[.int .i64 a0_0, .int .i64 a0_1, .slice A0_2 l0_2.length c0_2]] w fun e w' => e = .returned (.bool r) ∧ Below w.heap.size w w' := by
 have hu28 := Try.underlying28
 have hu76 := Try.underlying76
 have hu91 := Try.underlying91
 have HR0_2 := Aside0.mk hr0_2
 have HC0_2 := Aside0.mk hc0_2
 clear hr0_2 hc0_2
 have HB := Aside0.mk (Below.refl w.heap.size w)
 have H : ((spec_l1In.f a0_0 1 1000000).bind fun t176 => (if t176 = true then ((spec_l1In.f a0_1 0 1000000).bind fun t177 => (if t177 = true then (spec_GoodWorld.j0 k (decide ((l0_2.length : Int) > 60)) a0_0 a0_1 l0_2) else (spec_GoodWorld.j0 k true a0_0 a0_1 l0_2))) else (spec_GoodWorld.j0 k true a0_0 a0_1 l0_2))) = some r := h
 clear h
 have HC2 := Aside0.mk H
 clear H
 go_enter Try.func42, Try.ntmps42
 go_upto_region 1 with (first | ((with_reducible refine gate_dst (N := 1) rfl ?_); (try (refine gate_guard (by rfl) ?_; dsimp only)); refine box_event ?hg (N := 1) ?hd (cs := #[.int .i64 a0_0, .int .i64 a0_1, .slice A0_2 l0_2.length c0_2]) (t := 28) ?hr ?_; (case hd => rfl); (case hg => rfl); (case hr => first | (go_simp; done) | (go_simp; rfl)); intro gb175 hg w3 hbox hb; have n0_ := Aside0.mk (below_step (by repeat (first | (with_reducible first | exact HB.out | apply below_alloc | apply pw_below_drewN | apply below_drew1) | exact HB.out)) hb); have n1_ := Aside0.mk (hbox); have n2_ := Aside0.mk ((by rw [hg]; exact (below_size (by repeat (first | (with_reducible first | exact HB.out | apply below_alloc | apply pw_below_drewN | apply below_drew1) | exact HB.out))) : w.heap.size ≤ gb175)); have n3_ := Aside0.mk ((by rw [hg]; exact (below_size (by repeat (first | (with_reducible first | exact HB.out | apply below_alloc | apply pw_below_drewN | apply below_drew1) | exact HB.out))) : w.heap.size ≤ gb175)); clear HB; have HB := n0_; have BK175 := n1_; have GW175 := n2_; have GE175 := n3_; clear n0_ n1_ n2_ n3_; clear hb hbox hg))
 repeat (go_quiet (first | ((with_reducible refine gate_dst (N := 1) rfl ?_); (try (refine gate_guard (by rfl) ?_; dsimp only)); refine box_event ?hg (N := 1) ?hd (cs := #[.int .i64 a0_0, .int .i64 a0_1, .slice A0_2 l0_2.length c0_2]) (t := 28) ?hr ?_; (case hd => rfl); (case hg => rfl); (case hr => first | (go_simp; done) | (go_simp; rfl)); intro gb175 hg w3 hbox hb; have n0_ := Aside0.mk (below_step (by repeat (first | (with_reducible first | exact HB.out | apply below_alloc | apply pw_below_drewN | apply below_drew1) | exact HB.out)) hb); have n1_ := Aside0.mk (hbox); have n2_ := Aside0.mk ((by rw [hg]; exact (below_size (by repeat (first | (with_reducible first | exact HB.out | apply below_alloc | apply pw_below_drewN | apply below_drew1) | exact HB.out))) : w.heap.size ≤ gb175)); have n3_ := Aside0.mk ((by rw [hg]; exact (below_size (by repeat (first | (with_reducible first | exact HB.out | apply below_alloc | apply pw_below_drewN | apply below_drew1) | exact HB.out))) : w.heap.size ≤ gb175)); clear HB; have HB := n0_; have BK175 := n1_; have GW175 := n2_; have GE175 := n3_; clear n0_ n1_ n2_ n3_; clear hb hbox hg)); go_upto_region 1 with (first | ((with_reducible refine gate_dst (N := 1) rfl ?_); (try (refine gate_guard (by rfl) ?_; dsimp only)); refine box_event ?hg (N := 1) ?hd (cs := #[.int .i64 a0_0, .int .i64 a0_1, .slice A0_2 l0_2.length c0_2]) (t := 28) ?hr ?_; (case hd => rfl); (case hg => rfl); (case hr => first | (go_simp; done) | (go_simp; rfl)); intro gb175 hg w3 hbox hb; have n0_ := Aside0.mk (below_step (by repeat (first | (with_reducible first | exact HB.out | apply below_alloc | apply pw_below_drewN | apply below_drew1) | exact HB.out)) hb); have n1_ := Aside0.mk (hbox); have n2_ := Aside0.mk ((by rw [hg]; exact (below_size (by repeat (first | (with_reducible first | exact HB.out | apply below_alloc | apply pw_below_drewN | apply below_drew1) | exact HB.out))) : w.heap.size ≤ gb175)); have n3_ := Aside0.mk ((by rw [hg]; exact (below_size (by repeat (first | (with_reducible first | exact HB.out | apply below_alloc | apply pw_below_drewN | apply below_drew1) | exact HB.out))) : w.heap.size ≤ gb175)); clear HB; have HB := n0_; have BK175 := n1_; have GW175 := n2_; have GE175 := n3_; clear n0_ n1_ n2_ n3_; clear hb hbox hg)))
 (try simp only [Act.put, List.setIfInBounds_toArray, List.set_cons_zero, List.set_cons_succ])
 go_cut [22] (fun v22 wc => ∃ (kq : Nat) (x22_1 : Bool), v22 = .bool x22_1 ∧ Aside0 (spec_GoodWorld.j0 kq x22_1 a0_0 a0_1 l0_2 = some r) ∧ Aside0 (kq ≤ k) ∧ Aside0 (wc.heap[gb175]? = some (.cells #[.int .i64 a0_0, .int .i64 a0_1, (.slice A0_2 l0_2.length c0_2)] 28 (0, 0))) ∧ Aside0 (Below w.heap.size w wc))
 case first =>
  have H := HC2.out
  clear HC2
  replace H := Option.bind_eq_some_iff.mp H
  obtain ⟨t176, A40, H⟩ := H
  replace H : (if t176 = true then ((spec_l1In.f a0_1 0 1000000).bind fun t177 => (if t177 = true then (spec_GoodWorld.j0 k (decide ((l0_2.length : Int) > 60)) a0_0 a0_1 l0_2) else (spec_GoodWorld.j0 k true a0_0 a0_1 l0_2))) else (spec_GoodWorld.j0 k true a0_0 a0_1 l0_2)) = some r := H
  have A4 := Aside0.mk A40
  clear A40
  by_cases c5 : t176 = true
  ·subst c5
   have H1 : ((spec_l1In.f a0_1 0 1000000).bind fun t177 => (if t177 = true then (spec_GoodWorld.j0 k (decide ((l0_2.length : Int) > 60)) a0_0 a0_1 l0_2) else (spec_GoodWorld.j0 k true a0_0 a0_1 l0_2))) = some r := by rw [if_pos rfl] at H; exact H
   clear H
   have H := H1
   clear H1
   replace H := Option.bind_eq_some_iff.mp H
   obtain ⟨t177, A60, H⟩ := H
   replace H : (if t177 = true then (spec_GoodWorld.j0 k (decide ((l0_2.length : Int) > 60)) a0_0 a0_1 l0_2) else (spec_GoodWorld.j0 k true a0_0 a0_1 l0_2)) = some r := H
   have A6 := Aside0.mk A60
   clear A60
   by_cases c7 : t177 = true
   ·subst c7
    have H1 : (spec_GoodWorld.j0 k (decide ((l0_2.length : Int) > 60)) a0_0 a0_1 l0_2) = some r := by rw [if_pos rfl] at H; exact H
    clear H
    have H := H1
    clear H1
    have H' := Aside0.mk H
    clear H
    have hcz8_0 : w3.cell? ⟨gb175, 0, none⟩ = some (.int .i64 a0_0) := (blk_cell BK175.out 0).trans rfl
    have hcz8_1 : w3.cell? ⟨gb175, 1, none⟩ = some (.int .i64 a0_1) := (blk_cell BK175.out 1).trans rfl
    have hcz8_2 : w3.cell? ⟨gb175, 2, none⟩ = some (.slice A0_2 l0_2.length c0_2) := (blk_cell BK175.out 2).trans rfl
    have hfz8_0 := blk_frozen BK175.out 0
    have hfz8_1 := blk_frozen BK175.out 1
    have hfz8_2 := blk_frozen BK175.out 2
    try go_wp2_with (first | (go_at_call 70; (with_reducible refine (spec_l1In.calls a0_0 1 1000000 true _ A4.out).mono ?_); rintro e w' ⟨rfl, ⟨nd, rfl⟩⟩; (try first | exact ⟨rfl, _, World.drewN_drewN _ _ _⟩ | exact ⟨rfl, _, Eq.trans (World.drewN_drewN _ _ _) (congrArg (World.drewN _) (Nat.add_assoc _ _ _))⟩)) | (go_at_call 70; (with_reducible refine (spec_l1In.calls a0_1 0 1000000 true _ A6.out).mono ?_); rintro e w' ⟨rfl, ⟨nd, rfl⟩⟩; (try first | exact ⟨rfl, _, World.drewN_drewN _ _ _⟩ | exact ⟨rfl, _, Eq.trans (World.drewN_drewN _ _ _) (congrArg (World.drewN _) (Nat.add_assoc _ _ _))⟩)))
    go_meet
    case rel => exact ⟨_, (decide ((l0_2.length : Int) > 60)), (by first | rfl | (simp; done) | (simp [*]; done)), H', ⟨by first | omega | exact Nat.le_refl _⟩, ⟨by exact BK175.out⟩, ⟨by repeat (first | (with_reducible first | exact HB.out | apply below_alloc | apply pw_below_drewN | apply below_drew1 | refine below_set ?_ GE175.out) | exact HB.out)⟩⟩
   ·replace c7 := Bool.eq_false_iff.mpr c7
    subst c7
    have H1 : (spec_GoodWorld.j0 k true a0_0 a0_1 l0_2) = some r := by rw [if_neg (show ¬ (false = true) by decide)] at H; exact H
    clear H
    have H := H1
    clear H1
    have H' := Aside0.mk H
    clear H
    have hcz9_0 : w3.cell? ⟨gb175, 0, none⟩ = some (.int .i64 a0_0) := (blk_cell BK175.out 0).trans rfl
    have hcz9_1 : w3.cell? ⟨gb175, 1, none⟩ = some (.int .i64 a0_1) := (blk_cell BK175.out 1).trans rfl
    have hcz9_2 : w3.cell? ⟨gb175, 2, none⟩ = some (.slice A0_2 l0_2.length c0_2) := (blk_cell BK175.out 2).trans rfl
    have hfz9_0 := blk_frozen BK175.out 0
    have hfz9_1 := blk_frozen BK175.out 1
    have hfz9_2 := blk_frozen BK175.out 2
    try go_wp2_with (first | (go_at_call 70; (with_reducible refine (spec_l1In.calls a0_0 1 1000000 true _ A4.out).mono ?_); rintro e w' ⟨rfl, ⟨nd, rfl⟩⟩; (try first | exact ⟨rfl, _, World.drewN_drewN _ _ _⟩ | exact ⟨rfl, _, Eq.trans (World.drewN_drewN _ _ _) (congrArg (World.drewN _) (Nat.add_assoc _ _ _))⟩)) | (go_at_call 70; (with_reducible refine (spec_l1In.calls a0_1 0 1000000 false _ A6.out).mono ?_); rintro e w' ⟨rfl, ⟨nd, rfl⟩⟩; (try first | exact ⟨rfl, _, World.drewN_drewN _ _ _⟩ | exact ⟨rfl, _, Eq.trans (World.drewN_drewN _ _ _) (congrArg (World.drewN _) (Nat.add_assoc _ _ _))⟩)))
    go_meet
    case rel => exact ⟨_, (true), (by first | rfl | (simp; done) | (simp [*]; done)), H', ⟨by first | omega | exact Nat.le_refl _⟩, ⟨by exact BK175.out⟩, ⟨by repeat (first | (with_reducible first | exact HB.out | apply below_alloc | apply pw_below_drewN | apply below_drew1 | refine below_set ?_ GE175.out) | exact HB.out)⟩⟩
  ·replace c5 := Bool.eq_false_iff.mpr c5
   subst c5
   have H1 : (spec_GoodWorld.j0 k true a0_0 a0_1 l0_2) = some r := by rw [if_neg (show ¬ (false = true) by decide)] at H; exact H
   clear H
   have H := H1
   clear H1
   have H' := Aside0.mk H
   clear H
   have hcz10_0 : w3.cell? ⟨gb175, 0, none⟩ = some (.int .i64 a0_0) := (blk_cell BK175.out 0).trans rfl
   have hcz10_1 : w3.cell? ⟨gb175, 1, none⟩ = some (.int .i64 a0_1) := (blk_cell BK175.out 1).trans rfl
   have hcz10_2 : w3.cell? ⟨gb175, 2, none⟩ = some (.slice A0_2 l0_2.length c0_2) := (blk_cell BK175.out 2).trans rfl
   have hfz10_0 := blk_frozen BK175.out 0
   have hfz10_1 := blk_frozen BK175.out 1
   have hfz10_2 := blk_frozen BK175.out 2
   try go_wp2_with (first | (go_at_call 70; (with_reducible refine (spec_l1In.calls a0_0 1 1000000 false _ A4.out).mono ?_); rintro e w' ⟨rfl, ⟨nd, rfl⟩⟩; (try first | exact ⟨rfl, _, World.drewN_drewN _ _ _⟩ | exact ⟨rfl, _, Eq.trans (World.drewN_drewN _ _ _) (congrArg (World.drewN _) (Nat.add_assoc _ _ _))⟩)))
   go_meet
   case rel => exact ⟨_, (true), (by first | rfl | (simp; done) | (simp [*]; done)), H', ⟨by first | omega | exact Nat.le_refl _⟩, ⟨by exact BK175.out⟩, ⟨by repeat (first | (with_reducible first | exact HB.out | apply below_alloc | apply pw_below_drewN | apply below_drew1 | refine below_set ?_ GE175.out) | exact HB.out)⟩⟩
 case rest =>
  clear HC2
  try clear p2
  try clear c4
  try clear c5
  try clear c7
  try clear hcz10_0
  try clear hcz10_1
  try clear hcz10_2
  try clear hcz8_0
  try clear hcz8_1
  try clear hcz8_2
  try clear hcz9_0
  try clear hcz9_1
  try clear hcz9_2
  try clear hfz10_0
  try clear hfz10_1
  try clear hfz10_2
  try clear hfz8_0
  try clear hfz8_1
  try clear hfz8_2
  try clear hfz9_0
  try clear hfz9_1
  try clear hfz9_2
  obtain ⟨kq, x22_1, rfl, HA, HJ1, BK175, HB⟩ := hcut
  cases kq with
  | zero => exact absurd HA.out (by simp [spec_GoodWorld.j0])
  | succ kj1 =>
   have H := HA.out
   clear HA
   simp only [spec_GoodWorld.j0] at H
   by_cases c11 : x22_1 = true
   ·subst c11
    have H1 : (some false) = some r := by rw [if_pos rfl] at H; exact H
    clear H
    have H := H1
    clear H1
    obtain rfl := Option.some.inj H
    try go_wp2
    go_ret
    exact ⟨by first | rfl | (simp [errW_none, errW_some] <;> rfl) | (simp [*, errW_none, errW_some] <;> rfl), by repeat (first | (with_reducible first | exact HB.out | apply below_alloc | apply pw_below_drewN | apply below_drew1 | refine below_set ?_ GE175.out) | exact HB.out)⟩
   ·replace c11 := Bool.eq_false_iff.mpr c11
    subst c11
    have H1 : (spec_GoodWorld.l0 kj1 l0_2 (l0_2.length : Int) 0 a0_0 a0_1 l0_2) = some r := by rw [if_neg (show ¬ (false = true) by decide)] at H; exact H
    clear H
    have H := H1
    clear H1
    have H' := Aside0.mk H
    clear H
    have hcz12_0 : wc.cell? ⟨gb175, 0, none⟩ = some (.int .i64 a0_0) := (blk_cell BK175.out 0).trans rfl
    have hcz12_1 : wc.cell? ⟨gb175, 1, none⟩ = some (.int .i64 a0_1) := (blk_cell BK175.out 1).trans rfl
    have hcz12_2 : wc.cell? ⟨gb175, 2, none⟩ = some (.slice A0_2 l0_2.length c0_2) := (blk_cell BK175.out 2).trans rfl
    have hfz12_0 := blk_frozen BK175.out 0
    have hfz12_1 := blk_frozen BK175.out 1
    have hfz12_2 := blk_frozen BK175.out 2
    try go_wp2
    go_loopg [26] kj1 (fun kq v26 w' => ∃ (x26_2 : Int), v26 = .int .i64 x26_2 ∧ Aside0 (spec_GoodWorld.l0 kq l0_2 (l0_2.length : Int) x26_2 a0_0 a0_1 l0_2 = some r) ∧ Aside0 (kq ≤ kj1) ∧ Aside0 (w'.heap[gb175]? = some (.cells #[.int .i64 a0_0, .int .i64 a0_1, (.slice A0_2 l0_2.length c0_2)] 28 (0, 0))) ∧ Aside0 (Below w.heap.size w w'))
    case atStart => exact ⟨(0), (by first | rfl | (simp; done) | (simp [*]; done)), H', ⟨Nat.le_refl _⟩, ⟨by exact BK175.out⟩, ⟨by repeat (first | (with_reducible first | exact HB.out | apply below_alloc | apply pw_below_drewN | apply below_drew1 | refine below_set ?_ GE175.out) | exact HB.out)⟩⟩
    case round =>
     clear H'
     try clear c1
     try clear p2
     try clear c4
     try clear c5
     try clear c7
     try clear c11
     try clear hcz10_0
     try clear hcz10_1
     try clear hcz10_2
     try clear hcz12_0
     try clear hcz12_1
     try clear hcz12_2
     try clear hcz8_0
     try clear hcz8_1
     try clear hcz8_2
     try clear hcz9_0
     try clear hcz9_1
     try clear hcz9_2
     try clear hfz10_0
     try clear hfz10_1
     try clear hfz10_2
     try clear hfz12_0
     try clear hfz12_1
     try clear hfz12_2
     try clear hfz8_0
     try clear hfz8_1
     try clear hfz8_2
     try clear hfz9_0
     try clear hfz9_1
     try clear hfz9_2
     try clear p2
     obtain ⟨x26_2, rfl, HA, HK2, BK175, HB⟩ := hrel
     cases gk with
     | zero => exact absurd HA.out (by simp [spec_GoodWorld.l0])
     | succ k2 =>
      have H := HA.out
      clear HA
      simp only [spec_GoodWorld.l0] at H
      by_cases c13 : x26_2 < (l0_2.length : Int)
      ·rw [if_pos c13] at H
       have c13b0 : decide (x26_2 < (l0_2.length : Int)) = true := decide_eq_true c13
       clear c13
       by_cases c14 : 0 ≤ x26_2
       ·rw [if_pos c14] at H
        have c14b0 : decide (0 ≤ x26_2) = true := decide_eq_true c14
        clear c14
        by_cases c15 : x26_2 < (l0_2.length : Int)
        ·rw [if_pos c15] at H
         have c15b0 : decide (x26_2 < (l0_2.length : Int)) = true := decide_eq_true c15
         clear c15
         have HC16 := Aside0.mk H
         clear H
         have p178 : 0 ≤ (x26_2 : Int) := of_decide_eq_true (by first | (with_reducible assumption) | assumption)
         have q178 : x26_2 < (l0_2.length : Int) := of_decide_eq_true (by first | (with_reducible assumption) | assumption)
         obtain ⟨ad178, A178_1, c178_1, e178, hx178_0, hx178_1, hl178_1, hi178_1⟩ := at_T76 HR0_2.out x26_2 p178 q178
         cases e178
         replace hx178_0 := (HB.out.cell (World.block_lt_of_cell? w _ hx178_0)).trans hx178_0
         replace hx178_1 := (HB.out.cell (World.block_lt_of_cell? w _ hx178_1)).trans hx178_1
         have HR178_1 := Aside0.mk hi178_1
         have HC178_1 := Aside0.mk hl178_1
         clear hi178_1 hl178_1
         replace p178 := eq_true p178
         replace q178 := eq_true q178
         go_upto_region 6 with (first | ((with_reducible refine gate_dst (N := 4) rfl ?_); (try (refine gate_guard (by rfl) ?_; dsimp only)); refine box_event ?hg (N := 4) ?hd (cs := #[.int .i64 0, .slice none 0 0]) (t := 76) ?hr ?_; (case hd => rfl); (case hg => rfl); (case hr => first | (go_simp; done) | (go_simp; rfl)); intro gb179 hg w17 hbox hb; have n0_ := Aside0.mk (blk_below (g := gb175) (o := .cells #[.int .i64 a0_0, .int .i64 a0_1, .slice (some ad178) l0_2.length c0_2] 28 (0, 0)) (by exact BK175.out) hb); have n1_ := Aside0.mk (below_step (by repeat (first | (with_reducible first | exact HB.out | apply below_alloc | apply pw_below_drewN | apply below_drew1 | refine below_set ?_ GE175.out) | exact HB.out)) hb); have n2_ := Aside0.mk (hbox); have n3_ := Aside0.mk ((by rw [hg]; exact (below_size (by repeat (first | (with_reducible first | exact HB.out | apply below_alloc | apply pw_below_drewN | apply below_drew1 | refine below_set ?_ GE175.out) | exact HB.out))) : w.heap.size ≤ gb179)); have n4_ := Aside0.mk ((by rw [hg]; exact (below_size (by repeat (first | (with_reducible first | exact HB.out | apply below_alloc | apply pw_below_drewN | apply below_drew1 | refine below_set ?_ GE175.out) | exact HB.out))) : w.heap.size ≤ gb179)); have n5_ := Aside0.mk ((by rw [hg]; exact Nat.ne_of_lt (blk_lt (g := gb175) (o := .cells #[.int .i64 a0_0, .int .i64 a0_1, .slice (some ad178) l0_2.length c0_2] 28 (0, 0)) (by exact BK175.out)) : gb175 ≠ gb179)); have n6_ := Aside0.mk ((by rw [hg]; exact Nat.ne_of_gt (blk_lt (g := gb175) (o := .cells #[.int .i64 a0_0, .int .i64 a0_1, .slice (some ad178) l0_2.length c0_2] 28 (0, 0)) (by exact BK175.out)) : gb179 ≠ gb175)); clear BK175; clear HB; have BK175 := n0_; have HB := n1_; have BK179 := n2_; have GW179 := n3_; have GE179 := n4_; have NB175_179 := n5_; have NB179_175 := n6_; clear n0_ n1_ n2_ n3_ n4_ n5_ n6_; clear hb hbox hg; have hnb18 := NB179_175.out; have hnc18 := NB175_179.out; have hcz19_0 : w17.cell? ⟨gb179, 0, none⟩ = some (.int .i64 0) := (blk_cell BK179.out 0).trans rfl; have hcz19_1 : w17.cell? ⟨gb179, 1, none⟩ = some (.slice none 0 0) := (blk_cell BK179.out 1).trans rfl; have hfz19_0 := blk_frozen BK179.out 0; have hfz19_1 := blk_frozen BK179.out 1))
         repeat (go_quiet (first | ((with_reducible refine gate_dst (N := 4) rfl ?_); (try (refine gate_guard (by rfl) ?_; dsimp only)); refine box_event ?hg (N := 4) ?hd (cs := #[.int .i64 0, .slice none 0 0]) (t := 76) ?hr ?_; (case hd => rfl); (case hg => rfl); (case hr => first | (go_simp; done) | (go_simp; rfl)); intro gb179 hg w17 hbox hb; have n0_ := Aside0.mk (blk_below (g := gb175) (o := .cells #[.int .i64 a0_0, .int .i64 a0_1, .slice (some ad178) l0_2.length c0_2] 28 (0, 0)) (by exact BK175.out) hb); have n1_ := Aside0.mk (below_step (by repeat (first | (with_reducible first | exact HB.out | apply below_alloc | apply pw_below_drewN | apply below_drew1 | refine below_set ?_ GE175.out) | exact HB.out)) hb); have n2_ := Aside0.mk (hbox); have n3_ := Aside0.mk ((by rw [hg]; exact (below_size (by repeat (first | (with_reducible first | exact HB.out | apply below_alloc | apply pw_below_drewN | apply below_drew1 | refine below_set ?_ GE175.out) | exact HB.out))) : w.heap.size ≤ gb179)); have n4_ := Aside0.mk ((by rw [hg]; exact (below_size (by repeat (first | (with_reducible first | exact HB.out | apply below_alloc | apply pw_below_drewN | apply below_drew1 | refine below_set ?_ GE175.out) | exact HB.out))) : w.heap.size ≤ gb179)); have n5_ := Aside0.mk ((by rw [hg]; exact Nat.ne_of_lt (blk_lt (g := gb175) (o := .cells #[.int .i64 a0_0, .int .i64 a0_1, .slice (some ad178) l0_2.length c0_2] 28 (0, 0)) (by exact BK175.out)) : gb175 ≠ gb179)); have n6_ := Aside0.mk ((by rw [hg]; exact Nat.ne_of_gt (blk_lt (g := gb175) (o := .cells #[.int .i64 a0_0, .int .i64 a0_1, .slice (some ad178) l0_2.length c0_2] 28 (0, 0)) (by exact BK175.out)) : gb179 ≠ gb175)); clear BK175; clear HB; have BK175 := n0_; have HB := n1_; have BK179 := n2_; have GW179 := n3_; have GE179 := n4_; have NB175_179 := n5_; have NB179_175 := n6_; clear n0_ n1_ n2_ n3_ n4_ n5_ n6_; clear hb hbox hg; have hnb18 := NB179_175.out; have hnc18 := NB175_179.out; have hcz19_0 : w17.cell? ⟨gb179, 0, none⟩ = some (.int .i64 0) := (blk_cell BK179.out 0).trans rfl; have hcz19_1 : w17.cell? ⟨gb179, 1, none⟩ = some (.slice none 0 0) := (blk_cell BK179.out 1).trans rfl; have hfz19_0 := blk_frozen BK179.out 0; have hfz19_1 := blk_frozen BK179.out 1)); go_upto_region 6 with (first | ((with_reducible refine gate_dst (N := 4) rfl ?_); (try (refine gate_guard (by rfl) ?_; dsimp only)); refine box_event ?hg (N := 4) ?hd (cs := #[.int .i64 0, .slice none 0 0]) (t := 76) ?hr ?_; (case hd => rfl); (case hg => rfl); (case hr => first | (go_simp; done) | (go_simp; rfl)); intro gb179 hg w17 hbox hb; have n0_ := Aside0.mk (blk_below (g := gb175) (o := .cells #[.int .i64 a0_0, .int .i64 a0_1, .slice (some ad178) l0_2.length c0_2] 28 (0, 0)) (by exact BK175.out) hb); have n1_ := Aside0.mk (below_step (by repeat (first | (with_reducible first | exact HB.out | apply below_alloc | apply pw_below_drewN | apply below_drew1 | refine below_set ?_ GE175.out) | exact HB.out)) hb); have n2_ := Aside0.mk (hbox); have n3_ := Aside0.mk ((by rw [hg]; exact (below_size (by repeat (first | (with_reducible first | exact HB.out | apply below_alloc | apply pw_below_drewN | apply below_drew1 | refine below_set ?_ GE175.out) | exact HB.out))) : w.heap.size ≤ gb179)); have n4_ := Aside0.mk ((by rw [hg]; exact (below_size (by repeat (first | (with_reducible first | exact HB.out | apply below_alloc | apply pw_below_drewN | apply below_drew1 | refine below_set ?_ GE175.out) | exact HB.out))) : w.heap.size ≤ gb179)); have n5_ := Aside0.mk ((by rw [hg]; exact Nat.ne_of_lt (blk_lt (g := gb175) (o := .cells #[.int .i64 a0_0, .int .i64 a0_1, .slice (some ad178) l0_2.length c0_2] 28 (0, 0)) (by exact BK175.out)) : gb175 ≠ gb179)); have n6_ := Aside0.mk ((by rw [hg]; exact Nat.ne_of_gt (blk_lt (g := gb175) (o := .cells #[.int .i64 a0_0, .int .i64 a0_1, .slice (some ad178) l0_2.length c0_2] 28 (0, 0)) (by exact BK175.out)) : gb179 ≠ gb175)); clear BK175; clear HB; have BK175 := n0_; have HB := n1_; have BK179 := n2_; have GW179 := n3_; have GE179 := n4_; have NB175_179 := n5_; have NB179_175 := n6_; clear n0_ n1_ n2_ n3_ n4_ n5_ n6_; clear hb hbox hg; have hnb18 := NB179_175.out; have hnc18 := NB175_179.out; have hcz19_0 : w17.cell? ⟨gb179, 0, none⟩ = some (.int .i64 0) := (blk_cell BK179.out 0).trans rfl; have hcz19_1 : w17.cell? ⟨gb179, 1, none⟩ = some (.slice none 0 0) := (blk_cell BK179.out 1).trans rfl; have hfz19_0 := blk_frozen BK179.out 0; have hfz19_1 := blk_frozen BK179.out 1)))
         (try simp only [Act.put, List.setIfInBounds_toArray, List.set_cons_zero, List.set_cons_succ])
         go_cut [59] (fun v59 wc => ∃ (kq : Nat) (x59_15 : Bool), v59 = .bool x59_15 ∧ Aside0 (spec_GoodWorld.j2 kq l0_2 (l0_2.length : Int) x26_2 x59_15 a0_0 a0_1 l0_2 ((rd_T76 l0_2 x26_2).f0) ((rd_T76 l0_2 x26_2).f1) = some r) ∧ Aside0 (kq ≤ k2) ∧ Aside0 (wc.heap[gb175]? = some (.cells #[.int .i64 a0_0, .int .i64 a0_1, (.slice (some ad178) l0_2.length c0_2)] 28 (0, 0))) ∧ Aside0 (wc.heap[gb179]? = some (.cells #[.int .i64 ((rd_T76 l0_2 x26_2).f0), (.slice A178_1 ((rd_T76 l0_2 x26_2).f1).length c178_1)] 76 (0, 0))) ∧ Aside0 (Below w.heap.size w wc))
         case first =>
          have H := HC16.out
          clear HC16
          replace H := Option.bind_eq_some_iff.mp H
          obtain ⟨t180, A200, H⟩ := H
          replace H : (if t180 = true then (if x26_2 > 0 then (if 0 ≤ (wrap64 (x26_2 - 1)) then (if (wrap64 (x26_2 - 1)) < (l0_2.length : Int) then (if ((rd_T76 l0_2 (wrap64 (x26_2 - 1))).f0) ≥ ((rd_T76 l0_2 x26_2).f0) then (spec_GoodWorld.j2 k2 l0_2 (l0_2.length : Int) x26_2 true a0_0 a0_1 l0_2 ((rd_T76 l0_2 x26_2).f0) ((rd_T76 l0_2 x26_2).f1)) else (spec_GoodWorld.j2 k2 l0_2 (l0_2.length : Int) x26_2 (decide ((((rd_T76 l0_2 x26_2).f1).length : Int) > 12)) a0_0 a0_1 l0_2 ((rd_T76 l0_2 x26_2).f0) ((rd_T76 l0_2 x26_2).f1))) else (none)) else (none)) else (spec_GoodWorld.j2 k2 l0_2 (l0_2.length : Int) x26_2 (decide ((((rd_T76 l0_2 x26_2).f1).length : Int) > 12)) a0_0 a0_1 l0_2 ((rd_T76 l0_2 x26_2).f0) ((rd_T76 l0_2 x26_2).f1))) else (spec_GoodWorld.j2 k2 l0_2 (l0_2.length : Int) x26_2 true a0_0 a0_1 l0_2 ((rd_T76 l0_2 x26_2).f0) ((rd_T76 l0_2 x26_2).f1))) = some r := H
          have A20 := Aside0.mk A200
          clear A200
          by_cases c21 : t180 = true
          ·subst c21
           have H1 : (if x26_2 > 0 then (if 0 ≤ (wrap64 (x26_2 - 1)) then (if (wrap64 (x26_2 - 1)) < (l0_2.length : Int) then (if ((rd_T76 l0_2 (wrap64 (x26_2 - 1))).f0) ≥ ((rd_T76 l0_2 x26_2).f0) then (spec_GoodWorld.j2 k2 l0_2 (l0_2.length : Int) x26_2 true a0_0 a0_1 l0_2 ((rd_T76 l0_2 x26_2).f0) ((rd_T76 l0_2 x26_2).f1)) else (spec_GoodWorld.j2 k2 l0_2 (l0_2.length : Int) x26_2 (decide ((((rd_T76 l0_2 x26_2).f1).length : Int) > 12)) a0_0 a0_1 l0_2 ((rd_T76 l0_2 x26_2).f0) ((rd_T76 l0_2 x26_2).f1))) else (none)) else (none)) else (spec_GoodWorld.j2 k2 l0_2 (l0_2.length : Int) x26_2 (decide ((((rd_T76 l0_2 x26_2).f1).length : Int) > 12)) a0_0 a0_1 l0_2 ((rd_T76 l0_2 x26_2).f0) ((rd_T76 l0_2 x26_2).f1))) = some r := by rw [if_pos rfl] at H; exact H
           clear H
           have H := H1
           clear H1
           by_cases c22 : x26_2 > 0
           ·rw [if_pos c22] at H
            have c22b0 : decide (0 < x26_2) = true := decide_eq_true c22
            clear c22
            (first | rw [c22b0] | (simp only [i64_w, i32_w]; rw [c22b0]) | rw [c22b3] | skip)
            obtain ⟨ji23, hji23⟩ : ∃ j_ : Int, (wrap64 (x26_2 - 1)) = j_ := ⟨_, rfl⟩
            replace H : (if 0 ≤ (ji23) then (if (ji23) < (l0_2.length : Int) then (if ((rd_T76 l0_2 (ji23)).f0) ≥ ((rd_T76 l0_2 x26_2).f0) then (spec_GoodWorld.j2 k2 l0_2 (l0_2.length : Int) x26_2 true a0_0 a0_1 l0_2 ((rd_T76 l0_2 x26_2).f0) ((rd_T76 l0_2 x26_2).f1)) else (spec_GoodWorld.j2 k2 l0_2 (l0_2.length : Int) x26_2 (decide ((((rd_T76 l0_2 x26_2).f1).length : Int) > 12)) a0_0 a0_1 l0_2 ((rd_T76 l0_2 x26_2).f0) ((rd_T76 l0_2 x26_2).f1))) else (none)) else (none)) = some r := by first | (rw [hji23] at H; exact H) | (simp only [hji23] at H ⊢; exact H)
            (try rw [hji23] at A20)
            have hji23w : (IntKind.i64.wrap (x26_2 - 1)) = ji23 := (i64_w _).trans hji23
            by_cases c24 : 0 ≤ (ji23)
            ·rw [if_pos c24] at H
             have c24b0 : decide (0 ≤ (ji23)) = true := decide_eq_true c24
             clear c24
             by_cases c25 : (ji23) < (l0_2.length : Int)
             ·rw [if_pos c25] at H
              have c25b0 : decide ((ji23) < (l0_2.length : Int)) = true := decide_eq_true c25
              clear c25
              by_cases c26 : ((rd_T76 l0_2 (ji23)).f0) ≥ ((rd_T76 l0_2 x26_2).f0)
              ·rw [if_pos c26] at H
               have c26b0 : decide (((rd_T76 l0_2 x26_2).f0) ≤ ((rd_T76 l0_2 (ji23)).f0)) = true := decide_eq_true c26
               clear c26
               have H' := Aside0.mk H
               clear H
               try go_wp2
               have hnb27 := NB179_175.out
               have hnc27 := NB175_179.out
               have hcz28_0 : w17.cell? ⟨gb179, 0, none⟩ = some (.int .i64 0) := (blk_cell BK179.out 0).trans rfl
               have hcz28_1 : w17.cell? ⟨gb179, 1, none⟩ = some (.slice none 0 0) := (blk_cell BK179.out 1).trans rfl
               have hfz28_0 := blk_frozen BK179.out 0
               have hfz28_1 := blk_frozen BK179.out 1
               have hcz29_0 : w17.cell? ⟨gb175, 0, none⟩ = some (.int .i64 a0_0) := (blk_cell BK175.out 0).trans rfl
               have hcz29_1 : w17.cell? ⟨gb175, 1, none⟩ = some (.int .i64 a0_1) := (blk_cell BK175.out 1).trans rfl
               have hcz29_2 : w17.cell? ⟨gb175, 2, none⟩ = some (.slice (some ad178) l0_2.length c0_2) := (blk_cell BK175.out 2).trans rfl
               have hfz29_0 := blk_frozen BK175.out 0
               have hfz29_1 := blk_frozen BK175.out 1
               have hfz29_2 := blk_frozen BK175.out 2
               have p181 : 0 ≤ ((ji23) : Int) := of_decide_eq_true (by first | (with_reducible assumption) | assumption)
               have q181 : (ji23) < (l0_2.length : Int) := of_decide_eq_true (by first | (with_reducible assumption) | assumption)
               obtain ⟨ad181, A181_1, c181_1, e181, hx181_0, hx181_1, hl181_1, hi181_1⟩ := at_T76 HR0_2.out (ji23) p181 q181
               obtain rfl : ad178 = ad181 := (by injection e181)
               have hn181_0 : ad178.block ≠ gb179 := Nat.ne_of_lt (Nat.lt_of_lt_of_le (by have := World.block_lt_of_cell? _ _ hx181_0; first | rwa [add_block] at this | exact this) GW179.out)
               have hn181_1 : ad178.block ≠ gb179 := Nat.ne_of_lt (Nat.lt_of_lt_of_le (by have := World.block_lt_of_cell? _ _ hx181_0; first | rwa [add_block] at this | exact this) GW179.out)
               replace hx181_0 := (HB.out.cell (World.block_lt_of_cell? w _ hx181_0)).trans hx181_0
               replace hx181_1 := (HB.out.cell (World.block_lt_of_cell? w _ hx181_1)).trans hx181_1
               have HR181_1 := Aside0.mk hi181_1
               have HC181_1 := Aside0.mk hl181_1
               clear hi181_1 hl181_1
               replace hx181_0 := (cell_far (p := ⟨gb179, 0, none⟩) (by first | (rw [add_block]; exact hn181_0) | (show (Addr.add _ _).block ≠ _; rw [add_block]; exact hn181_0) | exact hn181_0) (.int .i64 ((rd_T76 l0_2 x26_2).f0))).trans hx181_0
               replace hx181_1 := (cell_far (p := ⟨gb179, 0, none⟩) (by first | (rw [add_block]; exact hn181_0) | (show (Addr.add _ _).block ≠ _; rw [add_block]; exact hn181_0) | exact hn181_0) (.int .i64 ((rd_T76 l0_2 x26_2).f0))).trans hx181_1
               replace hx181_0 := (cell_far (p := ⟨gb179, 1, none⟩) (by first | (rw [add_block]; exact hn181_1) | (show (Addr.add _ _).block ≠ _; rw [add_block]; exact hn181_1) | exact hn181_1) (.slice A178_1 ((rd_T76 l0_2 x26_2).f1).length c178_1)).trans hx181_0
               replace hx181_1 := (cell_far (p := ⟨gb179, 1, none⟩) (by first | (rw [add_block]; exact hn181_1) | (show (Addr.add _ _).block ≠ _; rw [add_block]; exact hn181_1) | exact hn181_1) (.slice A178_1 ((rd_T76 l0_2 x26_2).f1).length c178_1)).trans hx181_1
               (try have hy181_0 := fun (n_ : Nat) => (show ((((w17.drewN n_).setCell ⟨gb179, 0, none⟩ (.int .i64 ((rd_T76 l0_2 x26_2).f0))).setCell ⟨gb179, 1, none⟩ (.slice A178_1 ((rd_T76 l0_2 x26_2).f1).length c178_1))).cell? _ = some _ from hx181_0))
               (try have hy181_1 := fun (n_ : Nat) => (show ((((w17.drewN n_).setCell ⟨gb179, 0, none⟩ (.int .i64 ((rd_T76 l0_2 x26_2).f0))).setCell ⟨gb179, 1, none⟩ (.slice A178_1 ((rd_T76 l0_2 x26_2).f1).length c178_1))).cell? _ = some _ from hx181_1))
               clear hn181_0
               clear hn181_1
               replace p181 := eq_true p181
               replace q181 := eq_true q181
               go_quiet (first | (go_at_call 70; refine calls_of_args (args' := #[.int .i64 ((rd_T76 l0_2 x26_2).f0), .int .i64 1, .int .i64 (wrap64 (a0_0 - 1))]) (by first | rfl | (simp only [i64_w, i32_w])) ?_; (with_reducible refine (spec_l1In.calls ((rd_T76 l0_2 x26_2).f0) 1 (wrap64 (a0_0 - 1)) true _ A20.out).mono ?_); rintro e w' ⟨rfl, ⟨nd, rfl⟩⟩; (try first | exact ⟨rfl, _, World.drewN_drewN _ _ _⟩ | exact ⟨rfl, _, Eq.trans (World.drewN_drewN _ _ _) (congrArg (World.drewN _) (Nat.add_assoc _ _ _))⟩)))
               try go_wp2
               go_meet
               case rel => exact ⟨_, (true), (by first | rfl | (simp; done) | (simp [*]; done)), H', ⟨by have := HJ1.out; have := HK2.out; first | omega | exact Nat.le_refl _⟩, ⟨by refine blk_far ?_ NB175_179.out _; refine blk_far ?_ NB175_179.out _; exact BK175.out⟩, ⟨by refine blk_put (cs := #[.int .i64 ((rd_T76 l0_2 x26_2).f0), .slice none 0 0]) ?_ 1 _ rfl; refine blk_put (cs := #[.int .i64 0, .slice none 0 0]) ?_ 0 _ rfl; exact BK179.out⟩, ⟨by repeat (first | (with_reducible first | exact HB.out | apply below_alloc | apply pw_below_drewN | apply below_drew1 | refine below_set ?_ GE175.out | refine below_set ?_ GE179.out) | exact HB.out)⟩⟩
              ·rw [if_neg c26] at H
               have c26b0 : decide (((rd_T76 l0_2 x26_2).f0) ≤ ((rd_T76 l0_2 (ji23)).f0)) = false := decide_eq_false c26
               clear c26
               have H' := Aside0.mk H
               clear H
               try go_wp2
               have hnb30 := NB179_175.out
               have hnc30 := NB175_179.out
               have hcz31_0 : w17.cell? ⟨gb179, 0, none⟩ = some (.int .i64 0) := (blk_cell BK179.out 0).trans rfl
               have hcz31_1 : w17.cell? ⟨gb179, 1, none⟩ = some (.slice none 0 0) := (blk_cell BK179.out 1).trans rfl
               have hfz31_0 := blk_frozen BK179.out 0
               have hfz31_1 := blk_frozen BK179.out 1
               have hcz32_0 : w17.cell? ⟨gb175, 0, none⟩ = some (.int .i64 a0_0) := (blk_cell BK175.out 0).trans rfl
               have hcz32_1 : w17.cell? ⟨gb175, 1, none⟩ = some (.int .i64 a0_1) := (blk_cell BK175.out 1).trans rfl
               have hcz32_2 : w17.cell? ⟨gb175, 2, none⟩ = some (.slice (some ad178) l0_2.length c0_2) := (blk_cell BK175.out 2).trans rfl
               have hfz32_0 := blk_frozen BK175.out 0
               have hfz32_1 := blk_frozen BK175.out 1
               have hfz32_2 := blk_frozen BK175.out 2
               have p181 : 0 ≤ ((ji23) : Int) := of_decide_eq_true (by first | (with_reducible assumption) | assumption)
               have q181 : (ji23) < (l0_2.length : Int) := of_decide_eq_true (by first | (with_reducible assumption) | assumption)
               obtain ⟨ad181, A181_1, c181_1, e181, hx181_0, hx181_1, hl181_1, hi181_1⟩ := at_T76 HR0_2.out (ji23) p181 q181
               obtain rfl : ad178 = ad181 := (by injection e181)
               have hn181_0 : ad178.block ≠ gb179 := Nat.ne_of_lt (Nat.lt_of_lt_of_le (by have := World.block_lt_of_cell? _ _ hx181_0; first | rwa [add_block] at this | exact this) GW179.out)
               have hn181_1 : ad178.block ≠ gb179 := Nat.ne_of_lt (Nat.lt_of_lt_of_le (by have := World.block_lt_of_cell? _ _ hx181_0; first | rwa [add_block] at this | exact this) GW179.out)
               replace hx181_0 := (HB.out.cell (World.block_lt_of_cell? w _ hx181_0)).trans hx181_0
               replace hx181_1 := (HB.out.cell (World.block_lt_of_cell? w _ hx181_1)).trans hx181_1
               have HR181_1 := Aside0.mk hi181_1
               have HC181_1 := Aside0.mk hl181_1
               clear hi181_1 hl181_1
               replace hx181_0 := (cell_far (p := ⟨gb179, 0, none⟩) (by first | (rw [add_block]; exact hn181_0) | (show (Addr.add _ _).block ≠ _; rw [add_block]; exact hn181_0) | exact hn181_0) (.int .i64 ((rd_T76 l0_2 x26_2).f0))).trans hx181_0
               replace hx181_1 := (cell_far (p := ⟨gb179, 0, none⟩) (by first | (rw [add_block]; exact hn181_0) | (show (Addr.add _ _).block ≠ _; rw [add_block]; exact hn181_0) | exact hn181_0) (.int .i64 ((rd_T76 l0_2 x26_2).f0))).trans hx181_1
               replace hx181_0 := (cell_far (p := ⟨gb179, 1, none⟩) (by first | (rw [add_block]; exact hn181_1) | (show (Addr.add _ _).block ≠ _; rw [add_block]; exact hn181_1) | exact hn181_1) (.slice A178_1 ((rd_T76 l0_2 x26_2).f1).length c178_1)).trans hx181_0
               replace hx181_1 := (cell_far (p := ⟨gb179, 1, none⟩) (by first | (rw [add_block]; exact hn181_1) | (show (Addr.add _ _).block ≠ _; rw [add_block]; exact hn181_1) | exact hn181_1) (.slice A178_1 ((rd_T76 l0_2 x26_2).f1).length c178_1)).trans hx181_1
               (try have hy181_0 := fun (n_ : Nat) => (show ((((w17.drewN n_).setCell ⟨gb179, 0, none⟩ (.int .i64 ((rd_T76 l0_2 x26_2).f0))).setCell ⟨gb179, 1, none⟩ (.slice A178_1 ((rd_T76 l0_2 x26_2).f1).length c178_1))).cell? _ = some _ from hx181_0))
               (try have hy181_1 := fun (n_ : Nat) => (show ((((w17.drewN n_).setCell ⟨gb179, 0, none⟩ (.int .i64 ((rd_T76 l0_2 x26_2).f0))).setCell ⟨gb179, 1, none⟩ (.slice A178_1 ((rd_T76 l0_2 x26_2).f1).length c178_1))).cell? _ = some _ from hx181_1))
               clear hn181_0
               clear hn181_1
               replace p181 := eq_true p181
               replace q181 := eq_true q181
               go_quiet (first | (go_at_call 70; refine calls_of_args (args' := #[.int .i64 ((rd_T76 l0_2 x26_2).f0), .int .i64 1, .int .i64 (wrap64 (a0_0 - 1))]) (by first | rfl | (simp only [i64_w, i32_w])) ?_; (with_reducible refine (spec_l1In.calls ((rd_T76 l0_2 x26_2).f0) 1 (wrap64 (a0_0 - 1)) true _ A20.out).mono ?_); rintro e w' ⟨rfl, ⟨nd, rfl⟩⟩; (try first | exact ⟨rfl, _, World.drewN_drewN _ _ _⟩ | exact ⟨rfl, _, Eq.trans (World.drewN_drewN _ _ _) (congrArg (World.drewN _) (Nat.add_assoc _ _ _))⟩)))
               try go_wp2
               go_meet
               case rel => exact ⟨_, (decide ((((rd_T76 l0_2 x26_2).f1).length : Int) > 12)), (by first | rfl | (simp; done) | (simp [*]; done)), H', ⟨by have := HJ1.out; have := HK2.out; first | omega | exact Nat.le_refl _⟩, ⟨by refine blk_far ?_ NB175_179.out _; refine blk_far ?_ NB175_179.out _; exact BK175.out⟩, ⟨by refine blk_put (cs := #[.int .i64 ((rd_T76 l0_2 x26_2).f0), .slice none 0 0]) ?_ 1 _ rfl; refine blk_put (cs := #[.int .i64 0, .slice none 0 0]) ?_ 0 _ rfl; exact BK179.out⟩, ⟨by repeat (first | (with_reducible first | exact HB.out | apply below_alloc | apply pw_below_drewN | apply below_drew1 | refine below_set ?_ GE175.out | refine below_set ?_ GE179.out) | exact HB.out)⟩⟩
             ·rw [if_neg c25] at H
              exact absurd H (by simp)
            ·rw [if_neg c24] at H
             exact absurd H (by simp)
           ·rw [if_neg c22] at H
            have c22b0 : decide (0 < x26_2) = false := decide_eq_false c22
            clear c22
            (first | rw [c22b0] | (simp only [i64_w, i32_w]; rw [c22b0]) | rw [c22b3] | skip)
            have H' := Aside0.mk H
            clear H
            try go_wp2
            have hnb33 := NB179_175.out
            have hnc33 := NB175_179.out
            have hcz34_0 : w17.cell? ⟨gb179, 0, none⟩ = some (.int .i64 0) := (blk_cell BK179.out 0).trans rfl
            have hcz34_1 : w17.cell? ⟨gb179, 1, none⟩ = some (.slice none 0 0) := (blk_cell BK179.out 1).trans rfl
            have hfz34_0 := blk_frozen BK179.out 0
            have hfz34_1 := blk_frozen BK179.out 1
            have hcz35_0 : w17.cell? ⟨gb175, 0, none⟩ = some (.int .i64 a0_0) := (blk_cell BK175.out 0).trans rfl
            have hcz35_1 : w17.cell? ⟨gb175, 1, none⟩ = some (.int .i64 a0_1) := (blk_cell BK175.out 1).trans rfl
            have hcz35_2 : w17.cell? ⟨gb175, 2, none⟩ = some (.slice (some ad178) l0_2.length c0_2) := (blk_cell BK175.out 2).trans rfl
            have hfz35_0 := blk_frozen BK175.out 0
            have hfz35_1 := blk_frozen BK175.out 1
            have hfz35_2 := blk_frozen BK175.out 2
            go_quiet (first | (go_at_call 70; refine calls_of_args (args' := #[.int .i64 ((rd_T76 l0_2 x26_2).f0), .int .i64 1, .int .i64 (wrap64 (a0_0 - 1))]) (by first | rfl | (simp only [i64_w, i32_w])) ?_; (with_reducible refine (spec_l1In.calls ((rd_T76 l0_2 x26_2).f0) 1 (wrap64 (a0_0 - 1)) true _ A20.out).mono ?_); rintro e w' ⟨rfl, ⟨nd, rfl⟩⟩; (try first | exact ⟨rfl, _, World.drewN_drewN _ _ _⟩ | exact ⟨rfl, _, Eq.trans (World.drewN_drewN _ _ _) (congrArg (World.drewN _) (Nat.add_assoc _ _ _))⟩)))
            try go_wp2
            go_meet
            case rel => exact ⟨_, (decide ((((rd_T76 l0_2 x26_2).f1).length : Int) > 12)), (by first | rfl | (simp; done) | (simp [*]; done)), H', ⟨by have := HJ1.out; have := HK2.out; first | omega | exact Nat.le_refl _⟩, ⟨by refine blk_far ?_ NB175_179.out _; refine blk_far ?_ NB175_179.out _; exact BK175.out⟩, ⟨by refine blk_put (cs := #[.int .i64 ((rd_T76 l0_2 x26_2).f0), .slice none 0 0]) ?_ 1 _ rfl; refine blk_put (cs := #[.int .i64 0, .slice none 0 0]) ?_ 0 _ rfl; exact BK179.out⟩, ⟨by repeat (first | (with_reducible first | exact HB.out | apply below_alloc | apply pw_below_drewN | apply below_drew1 | refine below_set ?_ GE175.out | refine below_set ?_ GE179.out) | exact HB.out)⟩⟩
          ·replace c21 := Bool.eq_false_iff.mpr c21
           subst c21
           have H1 : (spec_GoodWorld.j2 k2 l0_2 (l0_2.length : Int) x26_2 true a0_0 a0_1 l0_2 ((rd_T76 l0_2 x26_2).f0) ((rd_T76 l0_2 x26_2).f1)) = some r := by rw [if_neg (show ¬ (false = true) by decide)] at H; exact H
           clear H
           have H := H1
           clear H1
           have H' := Aside0.mk H
           clear H
           try go_wp2
           have hnb36 := NB179_175.out
           have hnc36 := NB175_179.out
           have hcz37_0 : w17.cell? ⟨gb179, 0, none⟩ = some (.int .i64 0) := (blk_cell BK179.out 0).trans rfl
           have hcz37_1 : w17.cell? ⟨gb179, 1, none⟩ = some (.slice none 0 0) := (blk_cell BK179.out 1).trans rfl
           have hfz37_0 := blk_frozen BK179.out 0
           have hfz37_1 := blk_frozen BK179.out 1
           have hcz38_0 : w17.cell? ⟨gb175, 0, none⟩ = some (.int .i64 a0_0) := (blk_cell BK175.out 0).trans rfl
           have hcz38_1 : w17.cell? ⟨gb175, 1, none⟩ = some (.int .i64 a0_1) := (blk_cell BK175.out 1).trans rfl
           have hcz38_2 : w17.cell? ⟨gb175, 2, none⟩ = some (.slice (some ad178) l0_2.length c0_2) := (blk_cell BK175.out 2).trans rfl
           have hfz38_0 := blk_frozen BK175.out 0
           have hfz38_1 := blk_frozen BK175.out 1
           have hfz38_2 := blk_frozen BK175.out 2
           go_quiet (first | (go_at_call 70; refine calls_of_args (args' := #[.int .i64 ((rd_T76 l0_2 x26_2).f0), .int .i64 1, .int .i64 (wrap64 (a0_0 - 1))]) (by first | rfl | (simp only [i64_w, i32_w])) ?_; (with_reducible refine (spec_l1In.calls ((rd_T76 l0_2 x26_2).f0) 1 (wrap64 (a0_0 - 1)) false _ A20.out).mono ?_); rintro e w' ⟨rfl, ⟨nd, rfl⟩⟩; (try first | exact ⟨rfl, _, World.drewN_drewN _ _ _⟩ | exact ⟨rfl, _, Eq.trans (World.drewN_drewN _ _ _) (congrArg (World.drewN _) (Nat.add_assoc _ _ _))⟩)))
           try go_wp2
           go_meet
           case rel => exact ⟨_, (true), (by first | rfl | (simp; done) | (simp [*]; done)), H', ⟨by have := HJ1.out; have := HK2.out; first | omega | exact Nat.le_refl _⟩, ⟨by refine blk_far ?_ NB175_179.out _; refine blk_far ?_ NB175_179.out _; exact BK175.out⟩, ⟨by refine blk_put (cs := #[.int .i64 ((rd_T76 l0_2 x26_2).f0), .slice none 0 0]) ?_ 1 _ rfl; refine blk_put (cs := #[.int .i64 0, .slice none 0 0]) ?_ 0 _ rfl; exact BK179.out⟩, ⟨by repeat (first | (with_reducible first | exact HB.out | apply below_alloc | apply pw_below_drewN | apply below_drew1 | refine below_set ?_ GE175.out | refine below_set ?_ GE179.out) | exact HB.out)⟩⟩
         case rest =>
          clear HC16
          try clear c1
          try clear p1
          try clear q1
          try clear hx1
          try clear c2
          try clear p2
          try clear c3
          try clear c4
          try clear c5
          try clear p6
          try clear c7
          try clear c11
          try clear c13
          try clear c13b0
          try clear c14
          try clear c14b0
          try clear c15
          try clear c15b0
          try clear c17
          try clear p17
          try clear q17
          try clear hx17
          try clear c18
          try clear p18
          try clear q18
          try clear hx18
          try clear c21
          try clear c22
          try clear c22b0
          try clear c24
          try clear c24b0
          try clear c25
          try clear c25b0
          try clear c26
          try clear c26b0
          try clear c27
          try clear c30
          try clear c33
          try clear c36
          try clear hcz10_0
          try clear hcz10_1
          try clear hcz10_2
          try clear hcz12_0
          try clear hcz12_1
          try clear hcz12_2
          try clear hcz19_0
          try clear hcz19_1
          try clear hcz28_0
          try clear hcz28_1
          try clear hcz29_0
          try clear hcz29_1
          try clear hcz29_2
          try clear hcz31_0
          try clear hcz31_1
          try clear hcz32_0
          try clear hcz32_1
          try clear hcz32_2
          try clear hcz34_0
          try clear hcz34_1
          try clear hcz35_0
          try clear hcz35_1
          try clear hcz35_2
          try clear hcz37_0
          try clear hcz37_1
          try clear hcz38_0
          try clear hcz38_1
          try clear hcz38_2
          try clear hcz8_0
          try clear hcz8_1
          try clear hcz8_2
          try clear hcz9_0
          try clear hcz9_1
          try clear hcz9_2
          try clear hfz10_0
          try clear hfz10_1
          try clear hfz10_2
          try clear hfz12_0
          try clear hfz12_1
          try clear hfz12_2
          try clear hfz19_0
          try clear hfz19_1
          try clear hfz28_0
          try clear hfz28_1
          try clear hfz29_0
          try clear hfz29_1
          try clear hfz29_2
          try clear hfz31_0
          try clear hfz31_1
          try clear hfz32_0
          try clear hfz32_1
          try clear hfz32_2
          try clear hfz34_0
          try clear hfz34_1
          try clear hfz35_0
          try clear hfz35_1
          try clear hfz35_2
          try clear hfz37_0
          try clear hfz37_1
          try clear hfz38_0
          try clear hfz38_1
          try clear hfz38_2
          try clear hfz8_0
          try clear hfz8_1
          try clear hfz8_2
          try clear hfz9_0
          try clear hfz9_1
          try clear hfz9_2
          try clear hx178_0
          try clear hx178_1
          try clear hx181_0
          try clear hx181_1
          try clear p178
          try clear p181
          try clear p2
          try clear q178
          try clear q181
          obtain ⟨kq, x59_15, rfl, HA, HJ15, BK175, BK179, HB⟩ := hcut
          cases kq with
          | zero => exact absurd HA.out (by simp [spec_GoodWorld.j2])
          | succ kj15 =>
           have H := HA.out
           clear HA
           simp only [spec_GoodWorld.j2] at H
           by_cases c39 : x59_15 = true
           ·subst c39
            have H1 : (some false) = some r := by rw [if_pos rfl] at H; exact H
            clear H
            have H := H1
            clear H1
            obtain rfl := Option.some.inj H
            try go_wp2
            go_ret
            exact ⟨by first | rfl | (simp [errW_none, errW_some] <;> rfl) | (simp [*, errW_none, errW_some] <;> rfl), by repeat (first | (with_reducible first | exact HB.out | apply below_alloc | apply pw_below_drewN | apply below_drew1 | refine below_set ?_ GE175.out | refine below_set ?_ GE179.out) | exact HB.out)⟩
           ·replace c39 := Bool.eq_false_iff.mpr c39
            subst c39
            have H1 : (spec_GoodWorld.l1 kj15 l0_2 (l0_2.length : Int) x26_2 ((rd_T76 l0_2 x26_2).f1) (((rd_T76 l0_2 x26_2).f1).length : Int) 0 a0_0 a0_1 l0_2 ((rd_T76 l0_2 x26_2).f0) ((rd_T76 l0_2 x26_2).f1)) = some r := by rw [if_neg (show ¬ (false = true) by decide)] at H; exact H
            clear H
            have H := H1
            clear H1
            have H' := Aside0.mk H
            clear H
            have hnb40 := NB179_175.out
            have hnc40 := NB175_179.out
            have hcz41_0 : wc.cell? ⟨gb179, 0, none⟩ = some (.int .i64 ((rd_T76 l0_2 x26_2).f0)) := (blk_cell BK179.out 0).trans rfl
            have hcz41_1 : wc.cell? ⟨gb179, 1, none⟩ = some (.slice A178_1 ((rd_T76 l0_2 x26_2).f1).length c178_1) := (blk_cell BK179.out 1).trans rfl
            have hfz41_0 := blk_frozen BK179.out 0
            have hfz41_1 := blk_frozen BK179.out 1
            try go_wp2
            go_loopg [63] kj15 (fun kq v63 w' => ∃ (x63_4 : Int), v63 = .int .i64 x63_4 ∧ Aside0 (spec_GoodWorld.l1 kq l0_2 (l0_2.length : Int) x26_2 ((rd_T76 l0_2 x26_2).f1) (((rd_T76 l0_2 x26_2).f1).length : Int) x63_4 a0_0 a0_1 l0_2 ((rd_T76 l0_2 x26_2).f0) ((rd_T76 l0_2 x26_2).f1) = some r) ∧ Aside0 (kq ≤ kj15) ∧ Aside0 (w'.heap[gb175]? = some (.cells #[.int .i64 a0_0, .int .i64 a0_1, (.slice (some ad178) l0_2.length c0_2)] 28 (0, 0))) ∧ Aside0 (w'.heap[gb179]? = some (.cells #[.int .i64 ((rd_T76 l0_2 x26_2).f0), (.slice A178_1 ((rd_T76 l0_2 x26_2).f1).length c178_1)] 76 (0, 0))) ∧ Aside0 (Below w.heap.size w w'))
            case atStart => exact ⟨(0), (by first | rfl | (simp; done) | (simp [*]; done)), H', ⟨Nat.le_refl _⟩, ⟨by exact BK175.out⟩, ⟨by exact BK179.out⟩, ⟨by repeat (first | (with_reducible first | exact HB.out | apply below_alloc | apply pw_below_drewN | apply below_drew1 | refine below_set ?_ GE175.out | refine below_set ?_ GE179.out) | exact HB.out)⟩⟩
            case round =>
             clear H'
             try clear c1
             try clear p1
             try clear q1
             try clear hx1
             try clear c2
             try clear p2
             try clear c3
             try clear c4
             try clear c5
             try clear p6
             try clear c7
             try clear c11
             try clear c13
             try clear c13b0
             try clear c14
             try clear c14b0
             try clear c15
             try clear c15b0
             try clear c17
             try clear p17
             try clear q17
             try clear hx17
             try clear c18
             try clear p18
             try clear q18
             try clear hx18
             try clear c21
             try clear c22
             try clear c22b0
             try clear c24
             try clear c24b0
             try clear c25
             try clear c25b0
             try clear c26
             try clear c26b0
             try clear c27
             try clear c30
             try clear c33
             try clear c36
             try clear c39
             try clear c40
             try clear hcz10_0
             try clear hcz10_1
             try clear hcz10_2
             try clear hcz12_0
             try clear hcz12_1
             try clear hcz12_2
             try clear hcz19_0
             try clear hcz19_1
             try clear hcz28_0
             try clear hcz28_1
             try clear hcz29_0
             try clear hcz29_1
             try clear hcz29_2
             try clear hcz31_0
             try clear hcz31_1
             try clear hcz32_0
             try clear hcz32_1
             try clear hcz32_2
             try clear hcz34_0
             try clear hcz34_1
             try clear hcz35_0
             try clear hcz35_1
             try clear hcz35_2
             try clear hcz37_0
             try clear hcz37_1
             try clear hcz38_0
             try clear hcz38_1
             try clear hcz38_2
             try clear hcz41_0
             try clear hcz41_1
             try clear hcz8_0
             try clear hcz8_1
             try clear hcz8_2
             try clear hcz9_0
             try clear hcz9_1
             try clear hcz9_2
             try clear hfz10_0
             try clear hfz10_1
             try clear hfz10_2
             try clear hfz12_0
             try clear hfz12_1
             try clear hfz12_2
             try clear hfz19_0
             try clear hfz19_1
             try clear hfz28_0
             try clear hfz28_1
             try clear hfz29_0
             try clear hfz29_1
             try clear hfz29_2
             try clear hfz31_0
             try clear hfz31_1
             try clear hfz32_0
             try clear hfz32_1
             try clear hfz32_2
             try clear hfz34_0
             try clear hfz34_1
             try clear hfz35_0
             try clear hfz35_1
             try clear hfz35_2
             try clear hfz37_0
             try clear hfz37_1
             try clear hfz38_0
             try clear hfz38_1
             try clear hfz38_2
             try clear hfz41_0
             try clear hfz41_1
             try clear hfz8_0
             try clear hfz8_1
             try clear hfz8_2
             try clear hfz9_0
             try clear hfz9_1
             try clear hfz9_2
             try clear hx178_0
             try clear hx178_1
             try clear hx181_0
             try clear hx181_1
             try clear p1
             try clear p17
             try clear p178
             try clear p18
             try clear p181
             try clear p2
             try clear p6
             try clear q1
             try clear q17
             try clear q178
             try clear q18
             try clear q181
             obtain ⟨x63_4, rfl, HA, HK4, BK175, BK179, HB⟩ := hrel
             cases gk with
             | zero => exact absurd HA.out (by simp [spec_GoodWorld.l1])
             | succ k4 =>
              have H := HA.out
              clear HA
              simp only [spec_GoodWorld.l1] at H
              by_cases c42 : x63_4 < (((rd_T76 l0_2 x26_2).f1).length : Int)
              ·rw [if_pos c42] at H
               have c42b0 : decide (x63_4 < (((rd_T76 l0_2 x26_2).f1).length : Int)) = true := decide_eq_true c42
               clear c42
               by_cases c43 : 0 ≤ x63_4
               ·rw [if_pos c43] at H
                have c43b0 : decide (0 ≤ x63_4) = true := decide_eq_true c43
                clear c43
                by_cases c44 : x63_4 < (((rd_T76 l0_2 x26_2).f1).length : Int)
                ·rw [if_pos c44] at H
                 have c44b0 : decide (x63_4 < (((rd_T76 l0_2 x26_2).f1).length : Int)) = true := decide_eq_true c44
                 clear c44
                 replace H := Option.bind_eq_some_iff.mp H
                 obtain ⟨t184, A450, H⟩ := H
                 replace H : (if t184 = true then ((spec_l1In.f ((rd_T91 ((rd_T76 l0_2 x26_2).f1) x63_4).f2) 0 a0_1).bind fun t185 => (if t185 = true then (if x63_4 > 0 then (if 0 ≤ (wrap64 (x63_4 - 1)) then (if (wrap64 (x63_4 - 1)) < (((rd_T76 l0_2 x26_2).f1).length : Int) then (if ((Op.bytesLess (((rd_T91 ((rd_T76 l0_2 x26_2).f1) (wrap64 (x63_4 - 1))).f0).toList) (((rd_T91 ((rd_T76 l0_2 x26_2).f1) x63_4).f0).toList)) = true) then (spec_GoodWorld.l1 k4 l0_2 (l0_2.length : Int) x26_2 ((rd_T76 l0_2 x26_2).f1) (((rd_T76 l0_2 x26_2).f1).length : Int) (wrap64 (x63_4 + 1)) a0_0 a0_1 l0_2 ((rd_T76 l0_2 x26_2).f0) ((rd_T76 l0_2 x26_2).f1)) else (some false)) else (none)) else (none)) else (spec_GoodWorld.l1 k4 l0_2 (l0_2.length : Int) x26_2 ((rd_T76 l0_2 x26_2).f1) (((rd_T76 l0_2 x26_2).f1).length : Int) (wrap64 (x63_4 + 1)) a0_0 a0_1 l0_2 ((rd_T76 l0_2 x26_2).f0) ((rd_T76 l0_2 x26_2).f1))) else (some false))) else (some false)) = some r := H
                 have A45 := Aside0.mk A450
                 clear A450
                 by_cases c46 : t184 = true
                 ·subst c46
                  have H1 : ((spec_l1In.f ((rd_T91 ((rd_T76 l0_2 x26_2).f1) x63_4).f2) 0 a0_1).bind fun t185 => (if t185 = true then (if x63_4 > 0 then (if 0 ≤ (wrap64 (x63_4 - 1)) then (if (wrap64 (x63_4 - 1)) < (((rd_T76 l0_2 x26_2).f1).length : Int) then (if ((Op.bytesLess (((rd_T91 ((rd_T76 l0_2 x26_2).f1) (wrap64 (x63_4 - 1))).f0).toList) (((rd_T91 ((rd_T76 l0_2 x26_2).f1) x63_4).f0).toList)) = true) then (spec_GoodWorld.l1 k4 l0_2 (l0_2.length : Int) x26_2 ((rd_T76 l0_2 x26_2).f1) (((rd_T76 l0_2 x26_2).f1).length : Int) (wrap64 (x63_4 + 1)) a0_0 a0_1 l0_2 ((rd_T76 l0_2 x26_2).f0) ((rd_T76 l0_2 x26_2).f1)) else (some false)) else (none)) else (none)) else (spec_GoodWorld.l1 k4 l0_2 (l0_2.length : Int) x26_2 ((rd_T76 l0_2 x26_2).f1) (((rd_T76 l0_2 x26_2).f1).length : Int) (wrap64 (x63_4 + 1)) a0_0 a0_1 l0_2 ((rd_T76 l0_2 x26_2).f0) ((rd_T76 l0_2 x26_2).f1))) else (some false))) = some r := by rw [if_pos rfl] at H; exact H
                  clear H
                  have H := H1
                  clear H1
                  replace H := Option.bind_eq_some_iff.mp H
                  obtain ⟨t185, A470, H⟩ := H
                  replace H : (if t185 = true then (if x63_4 > 0 then (if 0 ≤ (wrap64 (x63_4 - 1)) then (if (wrap64 (x63_4 - 1)) < (((rd_T76 l0_2 x26_2).f1).length : Int) then (if ((Op.bytesLess (((rd_T91 ((rd_T76 l0_2 x26_2).f1) (wrap64 (x63_4 - 1))).f0).toList) (((rd_T91 ((rd_T76 l0_2 x26_2).f1) x63_4).f0).toList)) = true) then (spec_GoodWorld.l1 k4 l0_2 (l0_2.length : Int) x26_2 ((rd_T76 l0_2 x26_2).f1) (((rd_T76 l0_2 x26_2).f1).length : Int) (wrap64 (x63_4 + 1)) a0_0 a0_1 l0_2 ((rd_T76 l0_2 x26_2).f0) ((rd_T76 l0_2 x26_2).f1)) else (some false)) else (none)) else (none)) else (spec_GoodWorld.l1 k4 l0_2 (l0_2.length : Int) x26_2 ((rd_T76 l0_2 x26_2).f1) (((rd_T76 l0_2 x26_2).f1).length : Int) (wrap64 (x63_4 + 1)) a0_0 a0_1 l0_2 ((rd_T76 l0_2 x26_2).f0) ((rd_T76 l0_2 x26_2).f1))) else (some false)) = some r := H
                  have A47 := Aside0.mk A470
                  clear A470
                  by_cases c48 : t185 = true
                  ·subst c48
                   have H1 : (if x63_4 > 0 then (if 0 ≤ (wrap64 (x63_4 - 1)) then (if (wrap64 (x63_4 - 1)) < (((rd_T76 l0_2 x26_2).f1).length : Int) then (if ((Op.bytesLess (((rd_T91 ((rd_T76 l0_2 x26_2).f1) (wrap64 (x63_4 - 1))).f0).toList) (((rd_T91 ((rd_T76 l0_2 x26_2).f1) x63_4).f0).toList)) = true) then (spec_GoodWorld.l1 k4 l0_2 (l0_2.length : Int) x26_2 ((rd_T76 l0_2 x26_2).f1) (((rd_T76 l0_2 x26_2).f1).length : Int) (wrap64 (x63_4 + 1)) a0_0 a0_1 l0_2 ((rd_T76 l0_2 x26_2).f0) ((rd_T76 l0_2 x26_2).f1)) else (some false)) else (none)) else (none)) else (spec_GoodWorld.l1 k4 l0_2 (l0_2.length : Int) x26_2 ((rd_T76 l0_2 x26_2).f1) (((rd_T76 l0_2 x26_2).f1).length : Int) (wrap64 (x63_4 + 1)) a0_0 a0_1 l0_2 ((rd_T76 l0_2 x26_2).f0) ((rd_T76 l0_2 x26_2).f1))) = some r := by rw [if_pos rfl] at H; exact H
                   clear H
                   have H := H1
                   clear H1
                   by_cases c49 : x63_4 > 0
                   ·rw [if_pos c49] at H
                    have c49b0 : decide (0 < x63_4) = true := decide_eq_true c49
                    clear c49
                    obtain ⟨ji50, hji50⟩ : ∃ j_ : Int, (wrap64 (x63_4 - 1)) = j_ := ⟨_, rfl⟩
                    replace H : (if 0 ≤ (ji50) then (if (ji50) < (((rd_T76 l0_2 x26_2).f1).length : Int) then (if ((Op.bytesLess (((rd_T91 ((rd_T76 l0_2 x26_2).f1) (ji50)).f0).toList) (((rd_T91 ((rd_T76 l0_2 x26_2).f1) x63_4).f0).toList)) = true) then (spec_GoodWorld.l1 k4 l0_2 (l0_2.length : Int) x26_2 ((rd_T76 l0_2 x26_2).f1) (((rd_T76 l0_2 x26_2).f1).length : Int) (wrap64 (x63_4 + 1)) a0_0 a0_1 l0_2 ((rd_T76 l0_2 x26_2).f0) ((rd_T76 l0_2 x26_2).f1)) else (some false)) else (none)) else (none)) = some r := by first | (rw [hji50] at H; exact H) | (simp only [hji50] at H ⊢; exact H)
                    (try rw [hji50] at A45)
                    (try rw [hji50] at A47)
                    have hji50w : (IntKind.i64.wrap (x63_4 - 1)) = ji50 := (i64_w _).trans hji50
                    by_cases c51 : 0 ≤ (ji50)
                    ·rw [if_pos c51] at H
                     have c51b0 : decide (0 ≤ (ji50)) = true := decide_eq_true c51
                     clear c51
                     by_cases c52 : (ji50) < (((rd_T76 l0_2 x26_2).f1).length : Int)
                     ·rw [if_pos c52] at H
                      have c52b0 : decide ((ji50) < (((rd_T76 l0_2 x26_2).f1).length : Int)) = true := decide_eq_true c52
                      clear c52
                      by_cases c53 : ((Op.bytesLess (((rd_T91 ((rd_T76 l0_2 x26_2).f1) (ji50)).f0).toList) (((rd_T91 ((rd_T76 l0_2 x26_2).f1) x63_4).f0).toList)) = true)
                      ·rw [if_pos c53] at H
                       have c53b0 : (Op.bytesLess (((rd_T91 ((rd_T76 l0_2 x26_2).f1) (ji50)).f0).toList) (((rd_T91 ((rd_T76 l0_2 x26_2).f1) x63_4).f0).toList)) = true := c53
                       clear c53
                       have H' := Aside0.mk H
                       clear H
                       have p182 : 0 ≤ (x63_4 : Int) := of_decide_eq_true (by first | (with_reducible assumption) | assumption)
                       have q182 : x63_4 < (((rd_T76 l0_2 x26_2).f1).length : Int) := of_decide_eq_true (by first | (with_reducible assumption) | assumption)
                       obtain ⟨ad182, e182, hx182_0, hx182_1, hx182_2⟩ := at_T91 HR178_1.out x63_4 p182 q182
                       cases e182
                       replace hx182_0 := (HB.out.cell (World.block_lt_of_cell? w _ hx182_0)).trans hx182_0
                       replace hx182_1 := (HB.out.cell (World.block_lt_of_cell? w _ hx182_1)).trans hx182_1
                       replace hx182_2 := (HB.out.cell (World.block_lt_of_cell? w _ hx182_2)).trans hx182_2
                       replace p182 := eq_true p182
                       replace q182 := eq_true q182
                       try go_wp2_with (first | ((with_reducible refine gate_dst (N := 6) rfl ?_); (try (refine gate_guard (by rfl) ?_; dsimp only)); refine box_event ?hg (N := 6) ?hd (cs := #[.string (⟨#[]⟩ : ByteArray), .int .i64 0, .int .i64 0]) (t := 91) ?hr ?_; (case hd => rfl); (case hg => rfl); (case hr => first | (go_simp; done) | (go_simp; rfl)); intro gb183 hg w54 hbox hb; have n0_ := Aside0.mk (blk_below (g := gb175) (o := .cells #[.int .i64 a0_0, .int .i64 a0_1, .slice (some ad178) l0_2.length c0_2] 28 (0, 0)) (by exact BK175.out) hb); have n1_ := Aside0.mk (blk_below (g := gb179) (o := .cells #[.int .i64 ((rd_T76 l0_2 x26_2).f0), .slice (some ad182) ((rd_T76 l0_2 x26_2).f1).length c178_1] 76 (0, 0)) (by exact BK179.out) hb); have n2_ := Aside0.mk (below_step (by repeat (first | (with_reducible first | exact HB.out | apply below_alloc | apply pw_below_drewN | apply below_drew1 | refine below_set ?_ GE175.out | refine below_set ?_ GE179.out) | exact HB.out)) hb); have n3_ := Aside0.mk (hbox); have n4_ := Aside0.mk ((by rw [hg]; exact (below_size (by repeat (first | (with_reducible first | exact HB.out | apply below_alloc | apply pw_below_drewN | apply below_drew1 | refine below_set ?_ GE175.out | refine below_set ?_ GE179.out) | exact HB.out))) : w.heap.size ≤ gb183)); have n5_ := Aside0.mk ((by rw [hg]; exact (below_size (by repeat (first | (with_reducible first | exact HB.out | apply below_alloc | apply pw_below_drewN | apply below_drew1 | refine below_set ?_ GE175.out | refine below_set ?_ GE179.out) | exact HB.out))) : w.heap.size ≤ gb183)); have n6_ := Aside0.mk ((by rw [hg]; exact Nat.ne_of_lt (blk_lt (g := gb175) (o := .cells #[.int .i64 a0_0, .int .i64 a0_1, .slice (some ad178) l0_2.length c0_2] 28 (0, 0)) (by exact BK175.out)) : gb175 ≠ gb183)); have n7_ := Aside0.mk ((by rw [hg]; exact Nat.ne_of_gt (blk_lt (g := gb175) (o := .cells #[.int .i64 a0_0, .int .i64 a0_1, .slice (some ad178) l0_2.length c0_2] 28 (0, 0)) (by exact BK175.out)) : gb183 ≠ gb175)); have n8_ := Aside0.mk ((by rw [hg]; exact Nat.ne_of_lt (blk_lt (g := gb179) (o := .cells #[.int .i64 ((rd_T76 l0_2 x26_2).f0), .slice (some ad182) ((rd_T76 l0_2 x26_2).f1).length c178_1] 76 (0, 0)) (by exact BK179.out)) : gb179 ≠ gb183)); have n9_ := Aside0.mk ((by rw [hg]; exact Nat.ne_of_gt (blk_lt (g := gb179) (o := .cells #[.int .i64 ((rd_T76 l0_2 x26_2).f0), .slice (some ad182) ((rd_T76 l0_2 x26_2).f1).length c178_1] 76 (0, 0)) (by exact BK179.out)) : gb183 ≠ gb179)); clear BK175; clear BK179; clear HB; have BK175 := n0_; have BK179 := n1_; have HB := n2_; have BK183 := n3_; have GW183 := n4_; have GE183 := n5_; have NB175_183 := n6_; have NB183_175 := n7_; have NB179_183 := n8_; have NB183_179 := n9_; clear n0_ n1_ n2_ n3_ n4_ n5_ n6_ n7_ n8_ n9_; clear hb hbox hg; have hnb55 := NB183_175.out; have hnc55 := NB175_183.out; have hnb56 := NB183_179.out; have hnc56 := NB179_183.out; have hcz57_0 : w54.cell? ⟨gb183, 0, none⟩ = some (.string (⟨#[]⟩ : ByteArray)) := (blk_cell BK183.out 0).trans rfl; have hcz57_1 : w54.cell? ⟨gb183, 1, none⟩ = some (.int .i64 0) := (blk_cell BK183.out 1).trans rfl; have hcz57_2 : w54.cell? ⟨gb183, 2, none⟩ = some (.int .i64 0) := (blk_cell BK183.out 2).trans rfl; have hfz57_0 := blk_frozen BK183.out 0; have hfz57_1 := blk_frozen BK183.out 1; have hfz57_2 := blk_frozen BK183.out 2))
                       have hnb58 := NB175_179.out
                       have hnc58 := NB179_175.out
                       have hcz59_0 : w54.cell? ⟨gb175, 0, none⟩ = some (.int .i64 a0_0) := (blk_cell BK175.out 0).trans rfl
                       have hcz59_1 : w54.cell? ⟨gb175, 1, none⟩ = some (.int .i64 a0_1) := (blk_cell BK175.out 1).trans rfl
                       have hcz59_2 : w54.cell? ⟨gb175, 2, none⟩ = some (.slice (some ad178) l0_2.length c0_2) := (blk_cell BK175.out 2).trans rfl
                       have hfz59_0 := blk_frozen BK175.out 0
                       have hfz59_1 := blk_frozen BK175.out 1
                       have hfz59_2 := blk_frozen BK175.out 2
                       have hcz60_0 : w54.cell? ⟨gb179, 0, none⟩ = some (.int .i64 ((rd_T76 l0_2 x26_2).f0)) := (blk_cell BK179.out 0).trans rfl
                       have hcz60_1 : w54.cell? ⟨gb179, 1, none⟩ = some (.slice (some ad182) ((rd_T76 l0_2 x26_2).f1).length c178_1) := (blk_cell BK179.out 1).trans rfl
                       have hfz60_0 := blk_frozen BK179.out 0
                       have hfz60_1 := blk_frozen BK179.out 1
                       have p186 : 0 ≤ ((ji50) : Int) := of_decide_eq_true (by first | (with_reducible assumption) | assumption)
                       have q186 : (ji50) < (((rd_T76 l0_2 x26_2).f1).length : Int) := of_decide_eq_true (by first | (with_reducible assumption) | assumption)
                       obtain ⟨ad186, e186, hx186_0, hx186_1, hx186_2⟩ := at_T91 HR178_1.out (ji50) p186 q186
                       obtain rfl : ad182 = ad186 := (by injection e186)
                       have hn186_0 : ad182.block ≠ gb183 := Nat.ne_of_lt (Nat.lt_of_lt_of_le (by have := World.block_lt_of_cell? _ _ hx186_0; first | rwa [add_block] at this | exact this) GW183.out)
                       have hn186_1 : ad182.block ≠ gb183 := Nat.ne_of_lt (Nat.lt_of_lt_of_le (by have := World.block_lt_of_cell? _ _ hx186_0; first | rwa [add_block] at this | exact this) GW183.out)
                       have hn186_2 : ad182.block ≠ gb183 := Nat.ne_of_lt (Nat.lt_of_lt_of_le (by have := World.block_lt_of_cell? _ _ hx186_0; first | rwa [add_block] at this | exact this) GW183.out)
                       replace hx186_0 := (HB.out.cell (World.block_lt_of_cell? w _ hx186_0)).trans hx186_0
                       replace hx186_1 := (HB.out.cell (World.block_lt_of_cell? w _ hx186_1)).trans hx186_1
                       replace hx186_2 := (HB.out.cell (World.block_lt_of_cell? w _ hx186_2)).trans hx186_2
                       replace hx186_0 := (cell_far (p := ⟨gb183, 0, none⟩) (by first | (rw [add_block]; exact hn186_0) | (show (Addr.add _ _).block ≠ _; rw [add_block]; exact hn186_0) | exact hn186_0) (.string ((rd_T91 ((rd_T76 l0_2 x26_2).f1) x63_4).f0))).trans hx186_0
                       replace hx186_1 := (cell_far (p := ⟨gb183, 0, none⟩) (by first | (rw [add_block]; exact hn186_0) | (show (Addr.add _ _).block ≠ _; rw [add_block]; exact hn186_0) | exact hn186_0) (.string ((rd_T91 ((rd_T76 l0_2 x26_2).f1) x63_4).f0))).trans hx186_1
                       replace hx186_2 := (cell_far (p := ⟨gb183, 0, none⟩) (by first | (rw [add_block]; exact hn186_0) | (show (Addr.add _ _).block ≠ _; rw [add_block]; exact hn186_0) | exact hn186_0) (.string ((rd_T91 ((rd_T76 l0_2 x26_2).f1) x63_4).f0))).trans hx186_2
                       replace hx186_0 := (cell_far (p := ⟨gb183, 1, none⟩) (by first | (rw [add_block]; exact hn186_1) | (show (Addr.add _ _).block ≠ _; rw [add_block]; exact hn186_1) | exact hn186_1) (.int .i64 ((rd_T91 ((rd_T76 l0_2 x26_2).f1) x63_4).f1))).trans hx186_0
                       replace hx186_1 := (cell_far (p := ⟨gb183, 1, none⟩) (by first | (rw [add_block]; exact hn186_1) | (show (Addr.add _ _).block ≠ _; rw [add_block]; exact hn186_1) | exact hn186_1) (.int .i64 ((rd_T91 ((rd_T76 l0_2 x26_2).f1) x63_4).f1))).trans hx186_1
                       replace hx186_2 := (cell_far (p := ⟨gb183, 1, none⟩) (by first | (rw [add_block]; exact hn186_1) | (show (Addr.add _ _).block ≠ _; rw [add_block]; exact hn186_1) | exact hn186_1) (.int .i64 ((rd_T91 ((rd_T76 l0_2 x26_2).f1) x63_4).f1))).trans hx186_2
                       replace hx186_0 := (cell_far (p := ⟨gb183, 2, none⟩) (by first | (rw [add_block]; exact hn186_2) | (show (Addr.add _ _).block ≠ _; rw [add_block]; exact hn186_2) | exact hn186_2) (.int .i64 ((rd_T91 ((rd_T76 l0_2 x26_2).f1) x63_4).f2))).trans hx186_0
                       replace hx186_1 := (cell_far (p := ⟨gb183, 2, none⟩) (by first | (rw [add_block]; exact hn186_2) | (show (Addr.add _ _).block ≠ _; rw [add_block]; exact hn186_2) | exact hn186_2) (.int .i64 ((rd_T91 ((rd_T76 l0_2 x26_2).f1) x63_4).f2))).trans hx186_1
                       replace hx186_2 := (cell_far (p := ⟨gb183, 2, none⟩) (by first | (rw [add_block]; exact hn186_2) | (show (Addr.add _ _).block ≠ _; rw [add_block]; exact hn186_2) | exact hn186_2) (.int .i64 ((rd_T91 ((rd_T76 l0_2 x26_2).f1) x63_4).f2))).trans hx186_2
                       (try have hy186_0 := fun (n_ : Nat) => (show (((((w54.drewN n_).setCell ⟨gb183, 0, none⟩ (.string ((rd_T91 ((rd_T76 l0_2 x26_2).f1) x63_4).f0))).setCell ⟨gb183, 1, none⟩ (.int .i64 ((rd_T91 ((rd_T76 l0_2 x26_2).f1) x63_4).f1))).setCell ⟨gb183, 2, none⟩ (.int .i64 ((rd_T91 ((rd_T76 l0_2 x26_2).f1) x63_4).f2)))).cell? _ = some _ from hx186_0))
                       (try have hy186_1 := fun (n_ : Nat) => (show (((((w54.drewN n_).setCell ⟨gb183, 0, none⟩ (.string ((rd_T91 ((rd_T76 l0_2 x26_2).f1) x63_4).f0))).setCell ⟨gb183, 1, none⟩ (.int .i64 ((rd_T91 ((rd_T76 l0_2 x26_2).f1) x63_4).f1))).setCell ⟨gb183, 2, none⟩ (.int .i64 ((rd_T91 ((rd_T76 l0_2 x26_2).f1) x63_4).f2)))).cell? _ = some _ from hx186_1))
                       (try have hy186_2 := fun (n_ : Nat) => (show (((((w54.drewN n_).setCell ⟨gb183, 0, none⟩ (.string ((rd_T91 ((rd_T76 l0_2 x26_2).f1) x63_4).f0))).setCell ⟨gb183, 1, none⟩ (.int .i64 ((rd_T91 ((rd_T76 l0_2 x26_2).f1) x63_4).f1))).setCell ⟨gb183, 2, none⟩ (.int .i64 ((rd_T91 ((rd_T76 l0_2 x26_2).f1) x63_4).f2)))).cell? _ = some _ from hx186_2))
                       clear hn186_0
                       clear hn186_1
                       clear hn186_2
                       replace p186 := eq_true p186
                       replace q186 := eq_true q186
                       go_quiet (first | (go_at_call 53; (with_reducible refine (spec_GoodName.calls k4 ((rd_T91 ((rd_T76 l0_2 x26_2).f1) x63_4).f0) true _ A45.out).mono ?_); rintro e w' ⟨rfl, ⟨nd, rfl⟩⟩; (try first | exact ⟨rfl, _, World.drewN_drewN _ _ _⟩ | exact ⟨rfl, _, Eq.trans (World.drewN_drewN _ _ _) (congrArg (World.drewN _) (Nat.add_assoc _ _ _))⟩)) | (go_at_call 70; (with_reducible refine (spec_l1In.calls ((rd_T91 ((rd_T76 l0_2 x26_2).f1) x63_4).f2) 0 a0_1 true _ A47.out).mono ?_); rintro e w' ⟨rfl, ⟨nd, rfl⟩⟩; (try first | exact ⟨rfl, _, World.drewN_drewN _ _ _⟩ | exact ⟨rfl, _, Eq.trans (World.drewN_drewN _ _ _) (congrArg (World.drewN _) (Nat.add_assoc _ _ _))⟩)))
                       try go_wp2
                       go_roundg k4
                       case measure => have := HJ1.out; have := HK2.out; have := HJ15.out; have := HK4.out; omega
                       case rel => exact ⟨(wrap64 (x63_4 + 1)), (by first | rfl | (simp; done) | (simp [*]; done)), H', ⟨by have := HJ1.out; have := HK2.out; have := HJ15.out; have := HK4.out; omega⟩, ⟨by refine blk_far ?_ NB175_183.out _; refine blk_far ?_ NB175_183.out _; refine blk_far ?_ NB175_183.out _; exact BK175.out⟩, ⟨by refine blk_far ?_ NB179_183.out _; refine blk_far ?_ NB179_183.out _; refine blk_far ?_ NB179_183.out _; exact BK179.out⟩, ⟨by repeat (first | (with_reducible first | exact HB.out | apply below_alloc | apply pw_below_drewN | apply below_drew1 | refine below_set ?_ GE175.out | refine below_set ?_ GE179.out | refine below_set ?_ GE183.out) | exact HB.out)⟩⟩
                      ·rw [if_neg c53] at H
                       have c53b0 : (Op.bytesLess (((rd_T91 ((rd_T76 l0_2 x26_2).f1) (ji50)).f0).toList) (((rd_T91 ((rd_T76 l0_2 x26_2).f1) x63_4).f0).toList)) = false := by simpa using c53
                       clear c53
                       obtain rfl := Option.some.inj H
                       have p182 : 0 ≤ (x63_4 : Int) := of_decide_eq_true (by first | (with_reducible assumption) | assumption)
                       have q182 : x63_4 < (((rd_T76 l0_2 x26_2).f1).length : Int) := of_decide_eq_true (by first | (with_reducible assumption) | assumption)
                       obtain ⟨ad182, e182, hx182_0, hx182_1, hx182_2⟩ := at_T91 HR178_1.out x63_4 p182 q182
                       cases e182
                       replace hx182_0 := (HB.out.cell (World.block_lt_of_cell? w _ hx182_0)).trans hx182_0
                       replace hx182_1 := (HB.out.cell (World.block_lt_of_cell? w _ hx182_1)).trans hx182_1
                       replace hx182_2 := (HB.out.cell (World.block_lt_of_cell? w _ hx182_2)).trans hx182_2
                       replace p182 := eq_true p182
                       replace q182 := eq_true q182
                       try go_wp2_with (first | ((with_reducible refine gate_dst (N := 6) rfl ?_); (try (refine gate_guard (by rfl) ?_; dsimp only)); refine box_event ?hg (N := 6) ?hd (cs := #[.string (⟨#[]⟩ : ByteArray), .int .i64 0, .int .i64 0]) (t := 91) ?hr ?_; (case hd => rfl); (case hg => rfl); (case hr => first | (go_simp; done) | (go_simp; rfl)); intro gb183 hg w61 hbox hb; have n0_ := Aside0.mk (blk_below (g := gb175) (o := .cells #[.int .i64 a0_0, .int .i64 a0_1, .slice (some ad178) l0_2.length c0_2] 28 (0, 0)) (by exact BK175.out) hb); have n1_ := Aside0.mk (blk_below (g := gb179) (o := .cells #[.int .i64 ((rd_T76 l0_2 x26_2).f0), .slice (some ad182) ((rd_T76 l0_2 x26_2).f1).length c178_1] 76 (0, 0)) (by exact BK179.out) hb); have n2_ := Aside0.mk (below_step (by repeat (first | (with_reducible first | exact HB.out | apply below_alloc | apply pw_below_drewN | apply below_drew1 | refine below_set ?_ GE175.out | refine below_set ?_ GE179.out) | exact HB.out)) hb); have n3_ := Aside0.mk (hbox); have n4_ := Aside0.mk ((by rw [hg]; exact (below_size (by repeat (first | (with_reducible first | exact HB.out | apply below_alloc | apply pw_below_drewN | apply below_drew1 | refine below_set ?_ GE175.out | refine below_set ?_ GE179.out) | exact HB.out))) : w.heap.size ≤ gb183)); have n5_ := Aside0.mk ((by rw [hg]; exact (below_size (by repeat (first | (with_reducible first | exact HB.out | apply below_alloc | apply pw_below_drewN | apply below_drew1 | refine below_set ?_ GE175.out | refine below_set ?_ GE179.out) | exact HB.out))) : w.heap.size ≤ gb183)); have n6_ := Aside0.mk ((by rw [hg]; exact Nat.ne_of_lt (blk_lt (g := gb175) (o := .cells #[.int .i64 a0_0, .int .i64 a0_1, .slice (some ad178) l0_2.length c0_2] 28 (0, 0)) (by exact BK175.out)) : gb175 ≠ gb183)); have n7_ := Aside0.mk ((by rw [hg]; exact Nat.ne_of_gt (blk_lt (g := gb175) (o := .cells #[.int .i64 a0_0, .int .i64 a0_1, .slice (some ad178) l0_2.length c0_2] 28 (0, 0)) (by exact BK175.out)) : gb183 ≠ gb175)); have n8_ := Aside0.mk ((by rw [hg]; exact Nat.ne_of_lt (blk_lt (g := gb179) (o := .cells #[.int .i64 ((rd_T76 l0_2 x26_2).f0), .slice (some ad182) ((rd_T76 l0_2 x26_2).f1).length c178_1] 76 (0, 0)) (by exact BK179.out)) : gb179 ≠ gb183)); have n9_ := Aside0.mk ((by rw [hg]; exact Nat.ne_of_gt (blk_lt (g := gb179) (o := .cells #[.int .i64 ((rd_T76 l0_2 x26_2).f0), .slice (some ad182) ((rd_T76 l0_2 x26_2).f1).length c178_1] 76 (0, 0)) (by exact BK179.out)) : gb183 ≠ gb179)); clear BK175; clear BK179; clear HB; have BK175 := n0_; have BK179 := n1_; have HB := n2_; have BK183 := n3_; have GW183 := n4_; have GE183 := n5_; have NB175_183 := n6_; have NB183_175 := n7_; have NB179_183 := n8_; have NB183_179 := n9_; clear n0_ n1_ n2_ n3_ n4_ n5_ n6_ n7_ n8_ n9_; clear hb hbox hg; have hnb62 := NB183_175.out; have hnc62 := NB175_183.out; have hnb63 := NB183_179.out; have hnc63 := NB179_183.out; have hcz64_0 : w61.cell? ⟨gb183, 0, none⟩ = some (.string (⟨#[]⟩ : ByteArray)) := (blk_cell BK183.out 0).trans rfl; have hcz64_1 : w61.cell? ⟨gb183, 1, none⟩ = some (.int .i64 0) := (blk_cell BK183.out 1).trans rfl; have hcz64_2 : w61.cell? ⟨gb183, 2, none⟩ = some (.int .i64 0) := (blk_cell BK183.out 2).trans rfl; have hfz64_0 := blk_frozen BK183.out 0; have hfz64_1 := blk_frozen BK183.out 1; have hfz64_2 := blk_frozen BK183.out 2))
                       have hnb65 := NB175_179.out
                       have hnc65 := NB179_175.out
                       have hcz66_0 : w61.cell? ⟨gb175, 0, none⟩ = some (.int .i64 a0_0) := (blk_cell BK175.out 0).trans rfl
                       have hcz66_1 : w61.cell? ⟨gb175, 1, none⟩ = some (.int .i64 a0_1) := (blk_cell BK175.out 1).trans rfl
                       have hcz66_2 : w61.cell? ⟨gb175, 2, none⟩ = some (.slice (some ad178) l0_2.length c0_2) := (blk_cell BK175.out 2).trans rfl
                       have hfz66_0 := blk_frozen BK175.out 0
                       have hfz66_1 := blk_frozen BK175.out 1
                       have hfz66_2 := blk_frozen BK175.out 2
                       have hcz67_0 : w61.cell? ⟨gb179, 0, none⟩ = some (.int .i64 ((rd_T76 l0_2 x26_2).f0)) := (blk_cell BK179.out 0).trans rfl
                       have hcz67_1 : w61.cell? ⟨gb179, 1, none⟩ = some (.slice (some ad182) ((rd_T76 l0_2 x26_2).f1).length c178_1) := (blk_cell BK179.out 1).trans rfl
                       have hfz67_0 := blk_frozen BK179.out 0
                       have hfz67_1 := blk_frozen BK179.out 1
                       have p186 : 0 ≤ ((ji50) : Int) := of_decide_eq_true (by first | (with_reducible assumption) | assumption)
                       have q186 : (ji50) < (((rd_T76 l0_2 x26_2).f1).length : Int) := of_decide_eq_true (by first | (with_reducible assumption) | assumption)
                       obtain ⟨ad186, e186, hx186_0, hx186_1, hx186_2⟩ := at_T91 HR178_1.out (ji50) p186 q186
                       obtain rfl : ad182 = ad186 := (by injection e186)
                       have hn186_0 : ad182.block ≠ gb183 := Nat.ne_of_lt (Nat.lt_of_lt_of_le (by have := World.block_lt_of_cell? _ _ hx186_0; first | rwa [add_block] at this | exact this) GW183.out)
                       have hn186_1 : ad182.block ≠ gb183 := Nat.ne_of_lt (Nat.lt_of_lt_of_le (by have := World.block_lt_of_cell? _ _ hx186_0; first | rwa [add_block] at this | exact this) GW183.out)
                       have hn186_2 : ad182.block ≠ gb183 := Nat.ne_of_lt (Nat.lt_of_lt_of_le (by have := World.block_lt_of_cell? _ _ hx186_0; first | rwa [add_block] at this | exact this) GW183.out)
                       replace hx186_0 := (HB.out.cell (World.block_lt_of_cell? w _ hx186_0)).trans hx186_0
                       replace hx186_1 := (HB.out.cell (World.block_lt_of_cell? w _ hx186_1)).trans hx186_1
                       replace hx186_2 := (HB.out.cell (World.block_lt_of_cell? w _ hx186_2)).trans hx186_2
                       replace hx186_0 := (cell_far (p := ⟨gb183, 0, none⟩) (by first | (rw [add_block]; exact hn186_0) | (show (Addr.add _ _).block ≠ _; rw [add_block]; exact hn186_0) | exact hn186_0) (.string ((rd_T91 ((rd_T76 l0_2 x26_2).f1) x63_4).f0))).trans hx186_0
                       replace hx186_1 := (cell_far (p := ⟨gb183, 0, none⟩) (by first | (rw [add_block]; exact hn186_0) | (show (Addr.add _ _).block ≠ _; rw [add_block]; exact hn186_0) | exact hn186_0) (.string ((rd_T91 ((rd_T76 l0_2 x26_2).f1) x63_4).f0))).trans hx186_1
                       replace hx186_2 := (cell_far (p := ⟨gb183, 0, none⟩) (by first | (rw [add_block]; exact hn186_0) | (show (Addr.add _ _).block ≠ _; rw [add_block]; exact hn186_0) | exact hn186_0) (.string ((rd_T91 ((rd_T76 l0_2 x26_2).f1) x63_4).f0))).trans hx186_2
                       replace hx186_0 := (cell_far (p := ⟨gb183, 1, none⟩) (by first | (rw [add_block]; exact hn186_1) | (show (Addr.add _ _).block ≠ _; rw [add_block]; exact hn186_1) | exact hn186_1) (.int .i64 ((rd_T91 ((rd_T76 l0_2 x26_2).f1) x63_4).f1))).trans hx186_0
                       replace hx186_1 := (cell_far (p := ⟨gb183, 1, none⟩) (by first | (rw [add_block]; exact hn186_1) | (show (Addr.add _ _).block ≠ _; rw [add_block]; exact hn186_1) | exact hn186_1) (.int .i64 ((rd_T91 ((rd_T76 l0_2 x26_2).f1) x63_4).f1))).trans hx186_1
                       replace hx186_2 := (cell_far (p := ⟨gb183, 1, none⟩) (by first | (rw [add_block]; exact hn186_1) | (show (Addr.add _ _).block ≠ _; rw [add_block]; exact hn186_1) | exact hn186_1) (.int .i64 ((rd_T91 ((rd_T76 l0_2 x26_2).f1) x63_4).f1))).trans hx186_2
                       replace hx186_0 := (cell_far (p := ⟨gb183, 2, none⟩) (by first | (rw [add_block]; exact hn186_2) | (show (Addr.add _ _).block ≠ _; rw [add_block]; exact hn186_2) | exact hn186_2) (.int .i64 ((rd_T91 ((rd_T76 l0_2 x26_2).f1) x63_4).f2))).trans hx186_0
                       replace hx186_1 := (cell_far (p := ⟨gb183, 2, none⟩) (by first | (rw [add_block]; exact hn186_2) | (show (Addr.add _ _).block ≠ _; rw [add_block]; exact hn186_2) | exact hn186_2) (.int .i64 ((rd_T91 ((rd_T76 l0_2 x26_2).f1) x63_4).f2))).trans hx186_1
                       replace hx186_2 := (cell_far (p := ⟨gb183, 2, none⟩) (by first | (rw [add_block]; exact hn186_2) | (show (Addr.add _ _).block ≠ _; rw [add_block]; exact hn186_2) | exact hn186_2) (.int .i64 ((rd_T91 ((rd_T76 l0_2 x26_2).f1) x63_4).f2))).trans hx186_2
                       (try have hy186_0 := fun (n_ : Nat) => (show (((((w61.drewN n_).setCell ⟨gb183, 0, none⟩ (.string ((rd_T91 ((rd_T76 l0_2 x26_2).f1) x63_4).f0))).setCell ⟨gb183, 1, none⟩ (.int .i64 ((rd_T91 ((rd_T76 l0_2 x26_2).f1) x63_4).f1))).setCell ⟨gb183, 2, none⟩ (.int .i64 ((rd_T91 ((rd_T76 l0_2 x26_2).f1) x63_4).f2)))).cell? _ = some _ from hx186_0))
                       (try have hy186_1 := fun (n_ : Nat) => (show (((((w61.drewN n_).setCell ⟨gb183, 0, none⟩ (.string ((rd_T91 ((rd_T76 l0_2 x26_2).f1) x63_4).f0))).setCell ⟨gb183, 1, none⟩ (.int .i64 ((rd_T91 ((rd_T76 l0_2 x26_2).f1) x63_4).f1))).setCell ⟨gb183, 2, none⟩ (.int .i64 ((rd_T91 ((rd_T76 l0_2 x26_2).f1) x63_4).f2)))).cell? _ = some _ from hx186_1))
                       (try have hy186_2 := fun (n_ : Nat) => (show (((((w61.drewN n_).setCell ⟨gb183, 0, none⟩ (.string ((rd_T91 ((rd_T76 l0_2 x26_2).f1) x63_4).f0))).setCell ⟨gb183, 1, none⟩ (.int .i64 ((rd_T91 ((rd_T76 l0_2 x26_2).f1) x63_4).f1))).setCell ⟨gb183, 2, none⟩ (.int .i64 ((rd_T91 ((rd_T76 l0_2 x26_2).f1) x63_4).f2)))).cell? _ = some _ from hx186_2))
                       clear hn186_0
                       clear hn186_1
                       clear hn186_2
                       replace p186 := eq_true p186
                       replace q186 := eq_true q186
                       go_quiet (first | (go_at_call 53; (with_reducible refine (spec_GoodName.calls k4 ((rd_T91 ((rd_T76 l0_2 x26_2).f1) x63_4).f0) true _ A45.out).mono ?_); rintro e w' ⟨rfl, ⟨nd, rfl⟩⟩; (try first | exact ⟨rfl, _, World.drewN_drewN _ _ _⟩ | exact ⟨rfl, _, Eq.trans (World.drewN_drewN _ _ _) (congrArg (World.drewN _) (Nat.add_assoc _ _ _))⟩)) | (go_at_call 70; (with_reducible refine (spec_l1In.calls ((rd_T91 ((rd_T76 l0_2 x26_2).f1) x63_4).f2) 0 a0_1 true _ A47.out).mono ?_); rintro e w' ⟨rfl, ⟨nd, rfl⟩⟩; (try first | exact ⟨rfl, _, World.drewN_drewN _ _ _⟩ | exact ⟨rfl, _, Eq.trans (World.drewN_drewN _ _ _) (congrArg (World.drewN _) (Nat.add_assoc _ _ _))⟩)))
                       try go_wp2
                       go_ret
                       exact ⟨by first | rfl | (simp [errW_none, errW_some] <;> rfl) | (simp only [← hji50]; first | rfl | (simp [errW_none, errW_some] <;> rfl)) | (simp [*, errW_none, errW_some] <;> rfl), by repeat (first | (with_reducible first | exact HB.out | apply below_alloc | apply pw_below_drewN | apply below_drew1 | refine below_set ?_ GE175.out | refine below_set ?_ GE179.out | refine below_set ?_ GE183.out) | exact HB.out)⟩
                     ·rw [if_neg c52] at H
                      exact absurd H (by simp)
                    ·rw [if_neg c51] at H
                     exact absurd H (by simp)
                   ·rw [if_neg c49] at H
                    have c49b0 : decide (0 < x63_4) = false := decide_eq_false c49
                    clear c49
                    have H' := Aside0.mk H
                    clear H
                    have p182 : 0 ≤ (x63_4 : Int) := of_decide_eq_true (by first | (with_reducible assumption) | assumption)
                    have q182 : x63_4 < (((rd_T76 l0_2 x26_2).f1).length : Int) := of_decide_eq_true (by first | (with_reducible assumption) | assumption)
                    obtain ⟨ad182, e182, hx182_0, hx182_1, hx182_2⟩ := at_T91 HR178_1.out x63_4 p182 q182
                    cases e182
                    replace hx182_0 := (HB.out.cell (World.block_lt_of_cell? w _ hx182_0)).trans hx182_0
                    replace hx182_1 := (HB.out.cell (World.block_lt_of_cell? w _ hx182_1)).trans hx182_1
                    replace hx182_2 := (HB.out.cell (World.block_lt_of_cell? w _ hx182_2)).trans hx182_2
                    replace p182 := eq_true p182
                    replace q182 := eq_true q182
                    try go_wp2_with (first | ((with_reducible refine gate_dst (N := 6) rfl ?_); (try (refine gate_guard (by rfl) ?_; dsimp only)); refine box_event ?hg (N := 6) ?hd (cs := #[.string (⟨#[]⟩ : ByteArray), .int .i64 0, .int .i64 0]) (t := 91) ?hr ?_; (case hd => rfl); (case hg => rfl); (case hr => first | (go_simp; done) | (go_simp; rfl)); intro gb183 hg w68 hbox hb; have n0_ := Aside0.mk (blk_below (g := gb175) (o := .cells #[.int .i64 a0_0, .int .i64 a0_1, .slice (some ad178) l0_2.length c0_2] 28 (0, 0)) (by exact BK175.out) hb); have n1_ := Aside0.mk (blk_below (g := gb179) (o := .cells #[.int .i64 ((rd_T76 l0_2 x26_2).f0), .slice (some ad182) ((rd_T76 l0_2 x26_2).f1).length c178_1] 76 (0, 0)) (by exact BK179.out) hb); have n2_ := Aside0.mk (below_step (by repeat (first | (with_reducible first | exact HB.out | apply below_alloc | apply pw_below_drewN | apply below_drew1 | refine below_set ?_ GE175.out | refine below_set ?_ GE179.out) | exact HB.out)) hb); have n3_ := Aside0.mk (hbox); have n4_ := Aside0.mk ((by rw [hg]; exact (below_size (by repeat (first | (with_reducible first | exact HB.out | apply below_alloc | apply pw_below_drewN | apply below_drew1 | refine below_set ?_ GE175.out | refine below_set ?_ GE179.out) | exact HB.out))) : w.heap.size ≤ gb183)); have n5_ := Aside0.mk ((by rw [hg]; exact (below_size (by repeat (first | (with_reducible first | exact HB.out | apply below_alloc | apply pw_below_drewN | apply below_drew1 | refine below_set ?_ GE175.out | refine below_set ?_ GE179.out) | exact HB.out))) : w.heap.size ≤ gb183)); have n6_ := Aside0.mk ((by rw [hg]; exact Nat.ne_of_lt (blk_lt (g := gb175) (o := .cells #[.int .i64 a0_0, .int .i64 a0_1, .slice (some ad178) l0_2.length c0_2] 28 (0, 0)) (by exact BK175.out)) : gb175 ≠ gb183)); have n7_ := Aside0.mk ((by rw [hg]; exact Nat.ne_of_gt (blk_lt (g := gb175) (o := .cells #[.int .i64 a0_0, .int .i64 a0_1, .slice (some ad178) l0_2.length c0_2] 28 (0, 0)) (by exact BK175.out)) : gb183 ≠ gb175)); have n8_ := Aside0.mk ((by rw [hg]; exact Nat.ne_of_lt (blk_lt (g := gb179) (o := .cells #[.int .i64 ((rd_T76 l0_2 x26_2).f0), .slice (some ad182) ((rd_T76 l0_2 x26_2).f1).length c178_1] 76 (0, 0)) (by exact BK179.out)) : gb179 ≠ gb183)); have n9_ := Aside0.mk ((by rw [hg]; exact Nat.ne_of_gt (blk_lt (g := gb179) (o := .cells #[.int .i64 ((rd_T76 l0_2 x26_2).f0), .slice (some ad182) ((rd_T76 l0_2 x26_2).f1).length c178_1] 76 (0, 0)) (by exact BK179.out)) : gb183 ≠ gb179)); clear BK175; clear BK179; clear HB; have BK175 := n0_; have BK179 := n1_; have HB := n2_; have BK183 := n3_; have GW183 := n4_; have GE183 := n5_; have NB175_183 := n6_; have NB183_175 := n7_; have NB179_183 := n8_; have NB183_179 := n9_; clear n0_ n1_ n2_ n3_ n4_ n5_ n6_ n7_ n8_ n9_; clear hb hbox hg; have hnb69 := NB183_175.out; have hnc69 := NB175_183.out; have hnb70 := NB183_179.out; have hnc70 := NB179_183.out; have hcz71_0 : w68.cell? ⟨gb183, 0, none⟩ = some (.string (⟨#[]⟩ : ByteArray)) := (blk_cell BK183.out 0).trans rfl; have hcz71_1 : w68.cell? ⟨gb183, 1, none⟩ = some (.int .i64 0) := (blk_cell BK183.out 1).trans rfl; have hcz71_2 : w68.cell? ⟨gb183, 2, none⟩ = some (.int .i64 0) := (blk_cell BK183.out 2).trans rfl; have hfz71_0 := blk_frozen BK183.out 0; have hfz71_1 := blk_frozen BK183.out 1; have hfz71_2 := blk_frozen BK183.out 2))
                    have hnb72 := NB175_179.out
                    have hnc72 := NB179_175.out
                    have hcz73_0 : w68.cell? ⟨gb175, 0, none⟩ = some (.int .i64 a0_0) := (blk_cell BK175.out 0).trans rfl
                    have hcz73_1 : w68.cell? ⟨gb175, 1, none⟩ = some (.int .i64 a0_1) := (blk_cell BK175.out 1).trans rfl
                    have hcz73_2 : w68.cell? ⟨gb175, 2, none⟩ = some (.slice (some ad178) l0_2.length c0_2) := (blk_cell BK175.out 2).trans rfl
                    have hfz73_0 := blk_frozen BK175.out 0
                    have hfz73_1 := blk_frozen BK175.out 1
                    have hfz73_2 := blk_frozen BK175.out 2
                    go_quiet (first | (go_at_call 53; (with_reducible refine (spec_GoodName.calls k4 ((rd_T91 ((rd_T76 l0_2 x26_2).f1) x63_4).f0) true _ A45.out).mono ?_); rintro e w' ⟨rfl, ⟨nd, rfl⟩⟩; (try first | exact ⟨rfl, _, World.drewN_drewN _ _ _⟩ | exact ⟨rfl, _, Eq.trans (World.drewN_drewN _ _ _) (congrArg (World.drewN _) (Nat.add_assoc _ _ _))⟩)) | (go_at_call 70; (with_reducible refine (spec_l1In.calls ((rd_T91 ((rd_T76 l0_2 x26_2).f1) x63_4).f2) 0 a0_1 true _ A47.out).mono ?_); rintro e w' ⟨rfl, ⟨nd, rfl⟩⟩; (try first | exact ⟨rfl, _, World.drewN_drewN _ _ _⟩ | exact ⟨rfl, _, Eq.trans (World.drewN_drewN _ _ _) (congrArg (World.drewN _) (Nat.add_assoc _ _ _))⟩)))
                    try go_wp2
                    go_roundg k4
                    case measure => have := HJ1.out; have := HK2.out; have := HJ15.out; have := HK4.out; omega
                    case rel => exact ⟨(wrap64 (x63_4 + 1)), (by first | rfl | (simp; done) | (simp [*]; done)), H', ⟨by have := HJ1.out; have := HK2.out; have := HJ15.out; have := HK4.out; omega⟩, ⟨by refine blk_far ?_ NB175_183.out _; refine blk_far ?_ NB175_183.out _; refine blk_far ?_ NB175_183.out _; exact BK175.out⟩, ⟨by refine blk_far ?_ NB179_183.out _; refine blk_far ?_ NB179_183.out _; refine blk_far ?_ NB179_183.out _; exact BK179.out⟩, ⟨by repeat (first | (with_reducible first | exact HB.out | apply below_alloc | apply pw_below_drewN | apply below_drew1 | refine below_set ?_ GE175.out | refine below_set ?_ GE179.out | refine below_set ?_ GE183.out) | exact HB.out)⟩⟩
                  ·replace c48 := Bool.eq_false_iff.mpr c48
                   subst c48
                   have H1 : (some false) = some r := by rw [if_neg (show ¬ (false = true) by decide)] at H; exact H
                   clear H
                   have H := H1
                   clear H1
                   obtain rfl := Option.some.inj H
                   have p182 : 0 ≤ (x63_4 : Int) := of_decide_eq_true (by first | (with_reducible assumption) | assumption)
                   have q182 : x63_4 < (((rd_T76 l0_2 x26_2).f1).length : Int) := of_decide_eq_true (by first | (with_reducible assumption) | assumption)
                   obtain ⟨ad182, e182, hx182_0, hx182_1, hx182_2⟩ := at_T91 HR178_1.out x63_4 p182 q182
                   cases e182
                   replace hx182_0 := (HB.out.cell (World.block_lt_of_cell? w _ hx182_0)).trans hx182_0
                   replace hx182_1 := (HB.out.cell (World.block_lt_of_cell? w _ hx182_1)).trans hx182_1
                   replace hx182_2 := (HB.out.cell (World.block_lt_of_cell? w _ hx182_2)).trans hx182_2
                   replace p182 := eq_true p182
                   replace q182 := eq_true q182
                   try go_wp2_with (first | ((with_reducible refine gate_dst (N := 6) rfl ?_); (try (refine gate_guard (by rfl) ?_; dsimp only)); refine box_event ?hg (N := 6) ?hd (cs := #[.string (⟨#[]⟩ : ByteArray), .int .i64 0, .int .i64 0]) (t := 91) ?hr ?_; (case hd => rfl); (case hg => rfl); (case hr => first | (go_simp; done) | (go_simp; rfl)); intro gb183 hg w74 hbox hb; have n0_ := Aside0.mk (blk_below (g := gb175) (o := .cells #[.int .i64 a0_0, .int .i64 a0_1, .slice (some ad178) l0_2.length c0_2] 28 (0, 0)) (by exact BK175.out) hb); have n1_ := Aside0.mk (blk_below (g := gb179) (o := .cells #[.int .i64 ((rd_T76 l0_2 x26_2).f0), .slice (some ad182) ((rd_T76 l0_2 x26_2).f1).length c178_1] 76 (0, 0)) (by exact BK179.out) hb); have n2_ := Aside0.mk (below_step (by repeat (first | (with_reducible first | exact HB.out | apply below_alloc | apply pw_below_drewN | apply below_drew1 | refine below_set ?_ GE175.out | refine below_set ?_ GE179.out) | exact HB.out)) hb); have n3_ := Aside0.mk (hbox); have n4_ := Aside0.mk ((by rw [hg]; exact (below_size (by repeat (first | (with_reducible first | exact HB.out | apply below_alloc | apply pw_below_drewN | apply below_drew1 | refine below_set ?_ GE175.out | refine below_set ?_ GE179.out) | exact HB.out))) : w.heap.size ≤ gb183)); have n5_ := Aside0.mk ((by rw [hg]; exact (below_size (by repeat (first | (with_reducible first | exact HB.out | apply below_alloc | apply pw_below_drewN | apply below_drew1 | refine below_set ?_ GE175.out | refine below_set ?_ GE179.out) | exact HB.out))) : w.heap.size ≤ gb183)); have n6_ := Aside0.mk ((by rw [hg]; exact Nat.ne_of_lt (blk_lt (g := gb175) (o := .cells #[.int .i64 a0_0, .int .i64 a0_1, .slice (some ad178) l0_2.length c0_2] 28 (0, 0)) (by exact BK175.out)) : gb175 ≠ gb183)); have n7_ := Aside0.mk ((by rw [hg]; exact Nat.ne_of_gt (blk_lt (g := gb175) (o := .cells #[.int .i64 a0_0, .int .i64 a0_1, .slice (some ad178) l0_2.length c0_2] 28 (0, 0)) (by exact BK175.out)) : gb183 ≠ gb175)); have n8_ := Aside0.mk ((by rw [hg]; exact Nat.ne_of_lt (blk_lt (g := gb179) (o := .cells #[.int .i64 ((rd_T76 l0_2 x26_2).f0), .slice (some ad182) ((rd_T76 l0_2 x26_2).f1).length c178_1] 76 (0, 0)) (by exact BK179.out)) : gb179 ≠ gb183)); have n9_ := Aside0.mk ((by rw [hg]; exact Nat.ne_of_gt (blk_lt (g := gb179) (o := .cells #[.int .i64 ((rd_T76 l0_2 x26_2).f0), .slice (some ad182) ((rd_T76 l0_2 x26_2).f1).length c178_1] 76 (0, 0)) (by exact BK179.out)) : gb183 ≠ gb179)); clear BK175; clear BK179; clear HB; have BK175 := n0_; have BK179 := n1_; have HB := n2_; have BK183 := n3_; have GW183 := n4_; have GE183 := n5_; have NB175_183 := n6_; have NB183_175 := n7_; have NB179_183 := n8_; have NB183_179 := n9_; clear n0_ n1_ n2_ n3_ n4_ n5_ n6_ n7_ n8_ n9_; clear hb hbox hg; have hnb75 := NB183_175.out; have hnc75 := NB175_183.out; have hnb76 := NB183_179.out; have hnc76 := NB179_183.out; have hcz77_0 : w74.cell? ⟨gb183, 0, none⟩ = some (.string (⟨#[]⟩ : ByteArray)) := (blk_cell BK183.out 0).trans rfl; have hcz77_1 : w74.cell? ⟨gb183, 1, none⟩ = some (.int .i64 0) := (blk_cell BK183.out 1).trans rfl; have hcz77_2 : w74.cell? ⟨gb183, 2, none⟩ = some (.int .i64 0) := (blk_cell BK183.out 2).trans rfl; have hfz77_0 := blk_frozen BK183.out 0; have hfz77_1 := blk_frozen BK183.out 1; have hfz77_2 := blk_frozen BK183.out 2))
                   have hnb78 := NB175_179.out
                   have hnc78 := NB179_175.out
                   have hcz79_0 : w74.cell? ⟨gb175, 0, none⟩ = some (.int .i64 a0_0) := (blk_cell BK175.out 0).trans rfl
                   have hcz79_1 : w74.cell? ⟨gb175, 1, none⟩ = some (.int .i64 a0_1) := (blk_cell BK175.out 1).trans rfl
                   have hcz79_2 : w74.cell? ⟨gb175, 2, none⟩ = some (.slice (some ad178) l0_2.length c0_2) := (blk_cell BK175.out 2).trans rfl
                   have hfz79_0 := blk_frozen BK175.out 0
                   have hfz79_1 := blk_frozen BK175.out 1
                   have hfz79_2 := blk_frozen BK175.out 2
                   go_quiet (first | (go_at_call 53; (with_reducible refine (spec_GoodName.calls k4 ((rd_T91 ((rd_T76 l0_2 x26_2).f1) x63_4).f0) true _ A45.out).mono ?_); rintro e w' ⟨rfl, ⟨nd, rfl⟩⟩; (try first | exact ⟨rfl, _, World.drewN_drewN _ _ _⟩ | exact ⟨rfl, _, Eq.trans (World.drewN_drewN _ _ _) (congrArg (World.drewN _) (Nat.add_assoc _ _ _))⟩)) | (go_at_call 70; (with_reducible refine (spec_l1In.calls ((rd_T91 ((rd_T76 l0_2 x26_2).f1) x63_4).f2) 0 a0_1 false _ A47.out).mono ?_); rintro e w' ⟨rfl, ⟨nd, rfl⟩⟩; (try first | exact ⟨rfl, _, World.drewN_drewN _ _ _⟩ | exact ⟨rfl, _, Eq.trans (World.drewN_drewN _ _ _) (congrArg (World.drewN _) (Nat.add_assoc _ _ _))⟩)))
                   try go_wp2
                   go_ret
                   exact ⟨by first | rfl | (simp [errW_none, errW_some] <;> rfl) | (simp [*, errW_none, errW_some] <;> rfl), by repeat (first | (with_reducible first | exact HB.out | apply below_alloc | apply pw_below_drewN | apply below_drew1 | refine below_set ?_ GE175.out | refine below_set ?_ GE179.out | refine below_set ?_ GE183.out) | exact HB.out)⟩
                 ·replace c46 := Bool.eq_false_iff.mpr c46
                  subst c46
                  have H1 : (some false) = some r := by rw [if_neg (show ¬ (false = true) by decide)] at H; exact H
                  clear H
                  have H := H1
                  clear H1
                  obtain rfl := Option.some.inj H
                  have p182 : 0 ≤ (x63_4 : Int) := of_decide_eq_true (by first | (with_reducible assumption) | assumption)
                  have q182 : x63_4 < (((rd_T76 l0_2 x26_2).f1).length : Int) := of_decide_eq_true (by first | (with_reducible assumption) | assumption)
                  obtain ⟨ad182, e182, hx182_0, hx182_1, hx182_2⟩ := at_T91 HR178_1.out x63_4 p182 q182
                  cases e182
                  replace hx182_0 := (HB.out.cell (World.block_lt_of_cell? w _ hx182_0)).trans hx182_0
                  replace hx182_1 := (HB.out.cell (World.block_lt_of_cell? w _ hx182_1)).trans hx182_1
                  replace hx182_2 := (HB.out.cell (World.block_lt_of_cell? w _ hx182_2)).trans hx182_2
                  replace p182 := eq_true p182
                  replace q182 := eq_true q182
                  try go_wp2_with (first | ((with_reducible refine gate_dst (N := 6) rfl ?_); (try (refine gate_guard (by rfl) ?_; dsimp only)); refine box_event ?hg (N := 6) ?hd (cs := #[.string (⟨#[]⟩ : ByteArray), .int .i64 0, .int .i64 0]) (t := 91) ?hr ?_; (case hd => rfl); (case hg => rfl); (case hr => first | (go_simp; done) | (go_simp; rfl)); intro gb183 hg w80 hbox hb; have n0_ := Aside0.mk (blk_below (g := gb175) (o := .cells #[.int .i64 a0_0, .int .i64 a0_1, .slice (some ad178) l0_2.length c0_2] 28 (0, 0)) (by exact BK175.out) hb); have n1_ := Aside0.mk (blk_below (g := gb179) (o := .cells #[.int .i64 ((rd_T76 l0_2 x26_2).f0), .slice (some ad182) ((rd_T76 l0_2 x26_2).f1).length c178_1] 76 (0, 0)) (by exact BK179.out) hb); have n2_ := Aside0.mk (below_step (by repeat (first | (with_reducible first | exact HB.out | apply below_alloc | apply pw_below_drewN | apply below_drew1 | refine below_set ?_ GE175.out | refine below_set ?_ GE179.out) | exact HB.out)) hb); have n3_ := Aside0.mk (hbox); have n4_ := Aside0.mk ((by rw [hg]; exact (below_size (by repeat (first | (with_reducible first | exact HB.out | apply below_alloc | apply pw_below_drewN | apply below_drew1 | refine below_set ?_ GE175.out | refine below_set ?_ GE179.out) | exact HB.out))) : w.heap.size ≤ gb183)); have n5_ := Aside0.mk ((by rw [hg]; exact (below_size (by repeat (first | (with_reducible first | exact HB.out | apply below_alloc | apply pw_below_drewN | apply below_drew1 | refine below_set ?_ GE175.out | refine below_set ?_ GE179.out) | exact HB.out))) : w.heap.size ≤ gb183)); have n6_ := Aside0.mk ((by rw [hg]; exact Nat.ne_of_lt (blk_lt (g := gb175) (o := .cells #[.int .i64 a0_0, .int .i64 a0_1, .slice (some ad178) l0_2.length c0_2] 28 (0, 0)) (by exact BK175.out)) : gb175 ≠ gb183)); have n7_ := Aside0.mk ((by rw [hg]; exact Nat.ne_of_gt (blk_lt (g := gb175) (o := .cells #[.int .i64 a0_0, .int .i64 a0_1, .slice (some ad178) l0_2.length c0_2] 28 (0, 0)) (by exact BK175.out)) : gb183 ≠ gb175)); have n8_ := Aside0.mk ((by rw [hg]; exact Nat.ne_of_lt (blk_lt (g := gb179) (o := .cells #[.int .i64 ((rd_T76 l0_2 x26_2).f0), .slice (some ad182) ((rd_T76 l0_2 x26_2).f1).length c178_1] 76 (0, 0)) (by exact BK179.out)) : gb179 ≠ gb183)); have n9_ := Aside0.mk ((by rw [hg]; exact Nat.ne_of_gt (blk_lt (g := gb179) (o := .cells #[.int .i64 ((rd_T76 l0_2 x26_2).f0), .slice (some ad182) ((rd_T76 l0_2 x26_2).f1).length c178_1] 76 (0, 0)) (by exact BK179.out)) : gb183 ≠ gb179)); clear BK175; clear BK179; clear HB; have BK175 := n0_; have BK179 := n1_; have HB := n2_; have BK183 := n3_; have GW183 := n4_; have GE183 := n5_; have NB175_183 := n6_; have NB183_175 := n7_; have NB179_183 := n8_; have NB183_179 := n9_; clear n0_ n1_ n2_ n3_ n4_ n5_ n6_ n7_ n8_ n9_; clear hb hbox hg; have hnb81 := NB183_175.out; have hnc81 := NB175_183.out; have hnb82 := NB183_179.out; have hnc82 := NB179_183.out; have hcz83_0 : w80.cell? ⟨gb183, 0, none⟩ = some (.string (⟨#[]⟩ : ByteArray)) := (blk_cell BK183.out 0).trans rfl; have hcz83_1 : w80.cell? ⟨gb183, 1, none⟩ = some (.int .i64 0) := (blk_cell BK183.out 1).trans rfl; have hcz83_2 : w80.cell? ⟨gb183, 2, none⟩ = some (.int .i64 0) := (blk_cell BK183.out 2).trans rfl; have hfz83_0 := blk_frozen BK183.out 0; have hfz83_1 := blk_frozen BK183.out 1; have hfz83_2 := blk_frozen BK183.out 2))
                  go_quiet (first | (go_at_call 53; (with_reducible refine (spec_GoodName.calls k4 ((rd_T91 ((rd_T76 l0_2 x26_2).f1) x63_4).f0) false _ A45.out).mono ?_); rintro e w' ⟨rfl, ⟨nd, rfl⟩⟩; (try first | exact ⟨rfl, _, World.drewN_drewN _ _ _⟩ | exact ⟨rfl, _, Eq.trans (World.drewN_drewN _ _ _) (congrArg (World.drewN _) (Nat.add_assoc _ _ _))⟩)))
                  try go_wp2
                  go_ret
                  exact ⟨by first | rfl | (simp [errW_none, errW_some] <;> rfl) | (simp [*, errW_none, errW_some] <;> rfl), by repeat (first | (with_reducible first | exact HB.out | apply below_alloc | apply pw_below_drewN | apply below_drew1 | refine below_set ?_ GE175.out | refine below_set ?_ GE179.out | refine below_set ?_ GE183.out) | exact HB.out)⟩
                ·rw [if_neg c44] at H
                 exact absurd H (by simp)
               ·rw [if_neg c43] at H
                exact absurd H (by simp)
              ·rw [if_neg c42] at H
               have c42b0 : decide (x63_4 < (((rd_T76 l0_2 x26_2).f1).length : Int)) = false := decide_eq_false c42
               clear c42
               have H' := Aside0.mk H
               clear H
               try go_wp2
               go_roundg k4
               case measure => have := HJ1.out; have := HK2.out; have := HJ15.out; have := HK4.out; omega
               case rel => exact ⟨(wrap64 (x26_2 + 1)), (by first | rfl | (simp; done) | (simp [*]; done)), H', ⟨by have := HJ1.out; have := HK2.out; have := HJ15.out; have := HK4.out; omega⟩, ⟨by exact BK175.out⟩, ⟨by repeat (first | (with_reducible first | exact HB.out | apply below_alloc | apply pw_below_drewN | apply below_drew1 | refine below_set ?_ GE175.out | refine below_set ?_ GE179.out) | exact HB.out)⟩⟩
        ·rw [if_neg c15] at H
         exact absurd H (by simp)
       ·rw [if_neg c14] at H
        exact absurd H (by simp)
      ·rw [if_neg c13] at H
       have c13b0 : decide (x26_2 < (l0_2.length : Int)) = false := decide_eq_false c13
       clear c13
       obtain rfl := Option.some.inj H
       try go_wp2
       go_ret
       exact ⟨by first | rfl | (simp [errW_none, errW_some] <;> rfl) | (simp [*, errW_none, errW_some] <;> rfl), by repeat (first | (with_reducible first | exact HB.out | apply below_alloc | apply pw_below_drewN | apply below_drew1 | refine below_set ?_ GE175.out) | exact HB.out)⟩

end Go.Proofs.Ytjbkagmfkcoclaa.XFnExactDropPart

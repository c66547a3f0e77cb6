-- Lean text written by a program of this session out of the translation
import Derived.Test.YtjbkagmfkcoclaaXFnExactDespawnx0
import Derived.Test.YtjbkagmfkcoclaaXFnExactDespawnx9
import Derived.Test.YtjbkagmfkcoclaaXFnExactDespawnx10
namespace Go.Proofs.Ytjbkagmfkcoclaa.XFnExactDespawn
open Go.RowKit Go.Proofs.YtjbkagmfkcoclaaW.PrintWords Go.Proofs.YtjbkagmfkcoclaaW.PrintLast Go.Proofs.YtjbkagmfkcoclaaW.PrintMore
attribute [local go_sem] max2_int min2_int max_two min_two max_three min_three max_four min_four   -- for this text's walks alone
set_option linter.unusedVariables false
set_option linter.unusedSimpArgs false

/-! ### impl_Despawn: function 17 -/
def impl_Despawn.f (k : Nat) (a0_0 : Int) (a0_1 : Int) (l0_2 : List (S76)) (a1 : Int) : Option (Int × Int × (List (S76)) × Int) := (impl_GoodWorld.f k a0_0 a0_1 l0_2).bind fun t254 => (if t254 = true then ((impl_World_clone.f k a0_0 a0_1 l0_2).bind fun bt255 => ((impl_World_place.f a0_0 a0_1 l0_2 a1).bind fun t260 => (if t260 < 0 then (some (bt255.1, bt255.2.1, bt255.2.2, 2)) else (if 0 ≤ t260 then (if t260 < (bt255.2.2.length : Int) then (some (bt255.1, bt255.2.1, (bt255.2.2.eraseIdx (t260 : Int).toNat), 0)) else (none)) else (none))))) else (some (0, 0, ([] : List (S76)), 1)))
theorem impl_Despawn.mono : ∀ a0 a1 a2 a3 k, LeO (impl_Despawn.f k a0 a1 a2 a3) (impl_Despawn.f (k + 1) a0 a1 a2 a3) := by
 intro a0 a1 a2 a3 k
 unfold impl_Despawn.f
 repeat' first
   | (with_reducible exact impl_GoodWorld.mono _ _ _ _)
   | (with_reducible exact impl_World_clone.mono _ _ _ _)
   | (with_reducible exact LeO.refl _)
   | (with_reducible exact LeO.none _)
   | (with_reducible refine LeO.ite ?_ ?_)
   | (with_reducible refine LeO.bind ?_ (fun _ => ?_))
   | exact impl_GoodWorld.mono _ _ _ _
   | exact impl_World_clone.mono _ _ _ _
   | exact LeO.none _
   | refine LeO.ite ?_ ?_
   | refine LeO.bind ?_ (fun _ => ?_)
def impl_Despawn.T3 : Bool × List (List Nat × List Nat) := (true, [([], []), ([0], [0]), ([], []), ([], []), ([2, 3, 1], [2, 3]), ([], []), ([5, 1, 4, 0, 1, 5], [1, 5]), ([4, 6, 0, 1, 2, 3, 4, 5, 6], [4])])
def impl_Despawn.B3 : List Nat := [0, 1, 0, 0, 15, 0, 63, 127]
theorem impl_Despawn.tab3 : rtab .any (opsOf Try.f17 3) = impl_Despawn.T3 := by kernel_rfl
theorem impl_Despawn.bits3 : waitsOk impl_Despawn.T3.2 impl_Despawn.B3 = true := by kernel_rfl
set_option maxHeartbeats 8000000 in
set_option maxRecDepth 100000 in
theorem impl_Despawn.calls (k : Nat) (a0_0 : Int) (a0_1 : Int) (A0_2 : Option Addr) (c0_2 : Nat) (l0_2 : List (S76)) (a1 : Int) (r1 : Int) (r2 : Int) (r3 : List (S76)) (r4 : Int) (w : World) (hr0_2 : Kd.C k76 w A0_2 l0_2.length l0_2) (hc0_2 : l0_2.length ≤ c0_2) (h : impl_Despawn.f k a0_0 a0_1 l0_2 a1 = some (r1, r2, r3, r4)) :
  Calls Try.prog 17 #[.agg #[.int .i64 a0_0, .int .i64 a0_1, .slice A0_2 l0_2.length c0_2], .int .i64 a1] w fun e w' => ∃ v2_ : Value, e = .returned (.tuple #[.agg #[.int .i64 r1, .int .i64 r2, v2_], .int .i64 r4]) ∧ Kd.S k76 76 w' w.heap.size (fun _ => True) v2_ r3 ∧ Below w.heap.size w w' := by
 have hu28 := Try.underlying28
 have HR0_2 := Aside0.mk hr0_2
 have HC0_2 := Aside0.mk hc0_2
 clear hr0_2 hc0_2
 have HB := Aside0.mk (Below.refl w.heap.size w)
 have H : ((impl_GoodWorld.f k a0_0 a0_1 l0_2).bind fun t254 => (if t254 = true then ((impl_World_clone.f k a0_0 a0_1 l0_2).bind fun bt255 => ((impl_World_place.f a0_0 a0_1 l0_2 a1).bind fun t260 => (if t260 < 0 then (some (bt255.1, bt255.2.1, bt255.2.2, 2)) else (if 0 ≤ t260 then (if t260 < (bt255.2.2.length : Int) then (some (bt255.1, bt255.2.1, (bt255.2.2.eraseIdx (t260 : Int).toNat), 0)) else (none)) else (none))))) else (some (0, 0, ([] : List (S76)), 1)))) = some (r1, r2, r3, r4) := h
 clear h
 replace H := Option.bind_eq_some_iff.mp H
 obtain ⟨t254, A30, H⟩ := H
 replace H : (if t254 = true then ((impl_World_clone.f k a0_0 a0_1 l0_2).bind fun bt255 => ((impl_World_place.f a0_0 a0_1 l0_2 a1).bind fun t260 => (if t260 < 0 then (some (bt255.1, bt255.2.1, bt255.2.2, 2)) else (if 0 ≤ t260 then (if t260 < (bt255.2.2.length : Int) then (some (bt255.1, bt255.2.1, (bt255.2.2.eraseIdx (t260 : Int).toNat), 0)) else (none)) else (none))))) else (some (0, 0, ([] : List (S76)), 1))) = some (r1, r2, r3, r4) := H
 have A3 := Aside0.mk A30
 clear A30
 by_cases c4 : t254 = true
 ·subst c4
  have H1 : ((impl_World_clone.f k a0_0 a0_1 l0_2).bind fun bt255 => ((impl_World_place.f a0_0 a0_1 l0_2 a1).bind fun t260 => (if t260 < 0 then (some (bt255.1, bt255.2.1, bt255.2.2, 2)) else (if 0 ≤ t260 then (if t260 < (bt255.2.2.length : Int) then (some (bt255.1, bt255.2.1, (bt255.2.2.eraseIdx (t260 : Int).toNat), 0)) else (none)) else (none))))) = some (r1, r2, r3, r4) := by rw [if_pos rfl] at H; exact H
  clear H
  have H := H1
  clear H1
  replace H := Option.bind_eq_some_iff.mp H
  obtain ⟨⟨t255, t256, t257⟩, A50, H⟩ := H
  replace H : ((impl_World_place.f a0_0 a0_1 l0_2 a1).bind fun t260 => (if t260 < 0 then (some (t255, t256, t257, 2)) else (if 0 ≤ t260 then (if t260 < (t257.length : Int) then (some (t255, t256, (t257.eraseIdx (t260 : Int).toNat), 0)) else (none)) else (none)))) = some (r1, r2, r3, r4) := H
  have A5 := Aside0.mk A50
  clear A50
  replace H := Option.bind_eq_some_iff.mp H
  obtain ⟨t260, A60, H⟩ := H
  replace H : (if t260 < 0 then (some (t255, t256, t257, 2)) else (if 0 ≤ t260 then (if t260 < (t257.length : Int) then (some (t255, t256, (t257.eraseIdx (t260 : Int).toNat), 0)) else (none)) else (none))) = some (r1, r2, r3, r4) := H
  have A6 := Aside0.mk A60
  clear A60
  by_cases c7 : t260 < 0
  ·rw [if_pos c7] at H
   have c7b0 : decide (t260 < 0) = true := decide_eq_true c7
   clear c7
   simp only [Option.some.injEq, Prod.mk.injEq] at H
   obtain ⟨rfl, rfl, rfl, rfl⟩ := H
   go_enter Try.func17, Try.ntmps17
   try go_wp2_with (first | ((with_reducible refine gate_dst (N := 2) rfl ?_); refine box_event ?hg (N := 2) ?hd (cs := #[.int .i64 a0_0, .int .i64 a0_1, .slice A0_2 l0_2.length c0_2]) (t := 28) ?hr ?_; (case hd => rfl); (case hg => rfl); (case hr => first | (go_simp; done) | (go_simp; rfl)); intro gb252 hg w8 hbox hb; have n0_ := Aside0.mk (below_step (by repeat (first | (with_reducible first | exact HB.out | apply below_alloc | apply pw_below_drewN | apply below_drew1) | exact HB.out)) hb); have n1_ := Aside0.mk (hbox); have n2_ := Aside0.mk ((by rw [hg]; exact (below_size (by repeat (first | (with_reducible first | exact HB.out | apply below_alloc | apply pw_below_drewN | apply below_drew1) | exact HB.out))) : w.heap.size ≤ gb252)); have n3_ := Aside0.mk ((by rw [hg]; exact (below_size (by repeat (first | (with_reducible first | exact HB.out | apply below_alloc | apply pw_below_drewN | apply below_drew1) | exact HB.out))) : w.heap.size ≤ gb252)); clear HB; have HB := n0_; have BK252 := n1_; have GW252 := n2_; have GE252 := n3_; clear n0_ n1_ n2_ n3_; clear hb hbox hg) | ((with_reducible refine gate_dst (N := 4) rfl ?_); refine box_event ?hg (N := 4) ?hd (cs := #[.int .i64 0, .int .i64 0, .slice none 0 0]) (t := 28) ?hr ?_; (case hd => rfl); (case hg => rfl); (case hr => first | (go_simp; done) | (go_simp; rfl)); intro gb253 hg w9 hbox hb; have n0_ := Aside0.mk (blk_below (g := gb252) (o := .cells #[.int .i64 a0_0, .int .i64 a0_1, .slice A0_2 l0_2.length c0_2] 28 (0, 0)) (by (with_reducible repeat (first | refine blk_drewN ?_ _ | refine blk_drew ?_ | refine blk_alloc ?_ _)); exact BK252.out) hb); have n1_ := Aside0.mk (below_step (by repeat (first | (with_reducible first | exact HB.out | apply below_alloc | apply pw_below_drewN | apply below_drew1 | refine below_set ?_ GE252.out) | exact HB.out)) hb); have n2_ := Aside0.mk (hbox); have n3_ := Aside0.mk ((by rw [hg]; exact (below_size (by repeat (first | (with_reducible first | exact HB.out | apply below_alloc | apply pw_below_drewN | apply below_drew1 | refine below_set ?_ GE252.out) | exact HB.out))) : w.heap.size ≤ gb253)); have n4_ := Aside0.mk ((by rw [hg]; exact (below_size (by repeat (first | (with_reducible first | exact HB.out | apply below_alloc | apply pw_below_drewN | apply below_drew1 | refine below_set ?_ GE252.out) | exact HB.out))) : w.heap.size ≤ gb253)); have n5_ := Aside0.mk ((by rw [hg]; exact Nat.ne_of_lt (blk_lt (g := gb252) (o := .cells #[.int .i64 a0_0, .int .i64 a0_1, .slice A0_2 l0_2.length c0_2] 28 (0, 0)) (by (with_reducible repeat (first | refine blk_drewN ?_ _ | refine blk_drew ?_ | refine blk_alloc ?_ _)); exact BK252.out)) : gb252 ≠ gb253)); have n6_ := Aside0.mk ((by rw [hg]; exact Nat.ne_of_gt (blk_lt (g := gb252) (o := .cells #[.int .i64 a0_0, .int .i64 a0_1, .slice A0_2 l0_2.length c0_2] 28 (0, 0)) (by (with_reducible repeat (first | refine blk_drewN ?_ _ | refine blk_drew ?_ | refine blk_alloc ?_ _)); exact BK252.out)) : gb253 ≠ gb252)); clear BK252; clear HB; have BK252 := n0_; have HB := n1_; have BK253 := n2_; have GW253 := n3_; have GE253 := n4_; have NB252_253 := n5_; have NB253_252 := n6_; clear n0_ n1_ n2_ n3_ n4_ n5_ n6_; clear hb hbox hg; have hnb10 := NB252_253.out; have hnc10 := NB253_252.out; have hcz11_0 : w9.cell? ⟨gb252, 0, none⟩ = some (.int .i64 a0_0) := (blk_cell BK252.out 0).trans rfl; have hcz11_1 : w9.cell? ⟨gb252, 1, none⟩ = some (.int .i64 a0_1) := (blk_cell BK252.out 1).trans rfl; have hcz11_2 : w9.cell? ⟨gb252, 2, none⟩ = some (.slice A0_2 l0_2.length c0_2) := (blk_cell BK252.out 2).trans rfl; have hfz11_0 := blk_frozen BK252.out 0; have hfz11_1 := blk_frozen BK252.out 1; have hfz11_2 := blk_frozen BK252.out 2) | ((with_reducible refine gate_callee (f := 45) rfl ?_); refine goesL_ (some 9) rfl rfl Try.func45 (by kernel_rfl) rfl #[.agg #[.int .i64 a0_0, .int .i64 a0_1, .slice A0_2 l0_2.length c0_2]] rfl (by (try simp only [List.map_toArray, List.map_cons, List.map_nil]); first | done | rfl | (simp only [List.length_drop, List.length_take]; rfl)) ?_; (with_reducible refine (impl_GoodWorld.calls k a0_0 a0_1 _ _ l0_2 true _ ?side1 ?side2 A3.out).mono ?_); (case side1 => repeat (first | exact (Kd.C_below HR0_2.out HB.out) | (with_reducible refine Kd.C_alloc ?_ _) | (with_reducible refine Kd.C_drewN ?_ _) | (with_reducible refine Kd.C_drew ?_))); (case side2 => exact HC0_2.out); rintro e w12 ⟨rfl, hb⟩; refine ⟨_, rfl, ?_⟩; have n0_ := Aside0.mk (blk_below (g := gb252) (o := .cells #[.int .i64 a0_0, .int .i64 a0_1, .slice A0_2 l0_2.length c0_2] 28 (0, 0)) (by (with_reducible repeat (first | refine blk_drewN ?_ _ | refine blk_drew ?_ | refine blk_alloc ?_ _)); exact BK252.out) hb); have n1_ := Aside0.mk (blk_below (g := gb253) (o := .cells #[.int .i64 0, .int .i64 0, .slice none 0 0] 28 (0, 0)) (by (with_reducible repeat (first | refine blk_drewN ?_ _ | refine blk_drew ?_ | refine blk_alloc ?_ _)); exact BK253.out) hb); have n2_ := Aside0.mk (below_step (by repeat (first | (with_reducible first | exact HB.out | apply below_alloc | apply pw_below_drewN | apply below_drew1 | refine below_set ?_ GE252.out | refine below_set ?_ GE253.out) | exact HB.out)) hb); clear BK252; clear BK253; clear HB; have BK252 := n0_; have BK253 := n1_; have HB := n2_; clear n0_ n1_ n2_; (try clear hb); (try clear hb2); (try clear hk); (try clear hi)))
   have n0_ := Aside0.mk (blk_drew BK252.out)
   have n1_ := Aside0.mk (blk_drew BK253.out)
   have n2_ := Aside0.mk (below_drew1 HB.out)
   clear BK252
   clear BK253
   clear HB
   have BK252 := n0_
   have BK253 := n1_
   have HB := n2_
   clear n0_ n1_ n2_
   refine start_ (n := 8) (S := fun w' => True) (ds := []) #[false, false, false, false, false, false, false, false] (by kernel_rfl) rfl rfl trivial (fun hHeld => ?_); refine with_tabW impl_Despawn.tab3 impl_Despawn.bits3 (fun HT_ HW_ => ?_)
   generalize w12.drew = w13 at BK252 BK253 HB hHeld ⊢
   refine pure_ (i := 3) (N := some 15) (v := ?_) (a' := ?_) #[false, false, false, true, false, false, false, false] rfl rfl (any_of HT_.out (by kernel_rfl)) (fun _ _ _ h => h) (Or.inl ⟨by rfl, ?_⟩) ?_ ?_
   rotate_left
   ·intro w'
    go_simp
    with_reducible rfl
   rotate_left
   ·simp only [Act.put, List.setIfInBounds_toArray, List.set_cons_zero, List.set_cons_succ, i64_w, i32_w]
    rfl
   refine inv_at [0, 1, 2, 4, 5, 6, 7] (fun a0_ b a w' => ∃ (v258 : Value) (gb261 : Nat) (m1_ : Value) (m5_ : Value), a = putSel a0_ b [(0, 12, .agg #[.int .i64 a0_0, .int .i64 a0_1, .slice A0_2 l0_2.length c0_2]), (1, 13, m1_), (2, 14, .agg #[.int .i64 a0_0, .int .i64 a0_1, .slice A0_2 l0_2.length c0_2]), (4, 16, .int .i64 t260), (5, 6, m5_), (7, 7, .int .i64 t260)] ∧ (w'.heap[gb252]? = some (.cells #[.int .i64 a0_0, .int .i64 a0_1, .slice A0_2 l0_2.length c0_2] 28 (0, 0))) ∧ (w'.heap[gb253]? = some (.cells #[.int .i64 0, .int .i64 0, .slice none 0 0] 28 (0, 0))) ∧ (Below w.heap.size w w') ∧ (b 1 = true → Kd.S k76 76 w' w.heap.size (fun _ => True) v258 t257) ∧ (b 5 = true → b 6 = false → w'.heap[gb261]? = some (.cells #[.int .i64 0, .int .i64 0, .slice none 0 0] 28 (0, 0))) ∧ (b 5 = true → w.heap.size ≤ gb261) ∧ (b 5 = true → w.heap.size ≤ gb261) ∧ (b 5 = true → gb252 ≠ gb261) ∧ (b 5 = true → gb261 ≠ gb252) ∧ (b 5 = true → gb253 ≠ gb261) ∧ (b 5 = true → gb261 ≠ gb253) ∧ (b 6 = true → w'.heap[gb261]? = some (.cells #[.int .i64 t255, .int .i64 t256, v258] 28 (0, 0))) ∧ (b 1 = true → (m1_ : Value) = .agg #[.int .i64 t255, .int .i64 t256, v258]) ∧ (b 5 = true → (m5_ : Value) = .pointer (some ⟨gb261, 0, none⟩))) HT_.out HW_.out (by kernel_rfl) (by kernel_rfl) ?_ ?_ ?_
   ·exact ⟨.bool false, 0, .bool false, .bool false, by simp only [putSel, Bool.false_eq_true, if_false], BK252.out, BK253.out, HB.out, fun h_ => absurd h_ (by decide), fun h_ => absurd h_ (by decide), fun h_ => absurd h_ (by decide), fun h_ => absurd h_ (by decide), fun h_ => absurd h_ (by decide), fun h_ => absurd h_ (by decide), fun h_ => absurd h_ (by decide), fun h_ => absurd h_ (by decide), fun h_ => absurd h_ (by decide), fun h_ => absurd h_ (by decide), fun h_ => absurd h_ (by decide)⟩
   ·skip
    clear BK252 BK253 HB
    refine steps_cons ?_ ?_
    ·rintro b a w' ⟨v258, gb261, m1_, m5_, ha, Q_BK252, Q_BK253, Q_HB, Q_HO259, Q_BK261, Q_GW261, Q_GE261, Q_NB252_261, Q_NB261_252, Q_NB253_261, Q_NB261_253, Q_BK261_e6, Q_X1_, Q_X5_⟩ hb_ hon hoff
     refine ⟨_, rfl, fun K hK => ?_⟩
     have e2 : a.tmps[2]? = some (.pointer (some ⟨gb252, 0, none⟩)) := by rw [ha]; exact (putSel_off rfl).trans rfl
     replace ha := Aside0.mk ha
     have BK252 := Aside0.mk Q_BK252
     have BK253 := Aside0.mk Q_BK253
     have HB := Aside0.mk Q_HB
     have hc0_ : w'.cell? ⟨gb252, 0, none⟩ = some (.int .i64 a0_0) := (blk_cell BK252.out 0).trans rfl
     have hc1_ : w'.cell? ⟨gb252, 1, none⟩ = some (.int .i64 a0_1) := (blk_cell BK252.out 1).trans rfl
     have hc2_ : w'.cell? ⟨gb252, 2, none⟩ = some (.slice A0_2 l0_2.length c0_2) := (blk_cell BK252.out 2).trans rfl
     refine value_ (w1 := w') (v := .agg #[.int .i64 a0_0, .int .i64 a0_1, .slice A0_2 l0_2.length c0_2]) (by rfl) rfl ?_ ?_
     ·go_simp
      (try simp only [i64_w])
      try rfl
     refine hK.out _ _ ⟨v258, gb261, m1_, m5_, (by rw [ha.out]; exact putSel_upk 0 hb_ rfl rfl rfl), Q_BK252, Q_BK253, Q_HB, fun h0_ => absurd ((hoff 1 (by kernel_rfl)).symm.trans h0_) (by decide), Q_BK261, Q_GW261, Q_GE261, Q_NB252_261, Q_NB261_252, Q_NB253_261, Q_NB261_253, fun h0_ => absurd ((hoff 6 (by kernel_rfl)).symm.trans h0_) (by decide), fun h0_ => absurd ((hoff 1 (by kernel_rfl)).symm.trans h0_) (by decide), Q_X5_⟩
    refine steps_cons ?_ ?_
    ·rintro b a w' ⟨v258, gb261, m1_, m5_, ha, Q_BK252, Q_BK253, Q_HB, Q_HO259, Q_BK261, Q_GW261, Q_GE261, Q_NB252_261, Q_NB261_252, Q_NB253_261, Q_NB261_253, Q_BK261_e6, Q_X1_, Q_X5_⟩ hb_ hon hoff
     refine ⟨_, rfl, fun K hK => ?_⟩
     have e12 : a.tmps[12]? = some (.agg #[.int .i64 a0_0, .int .i64 a0_1, .slice A0_2 l0_2.length c0_2]) := by rw [ha]; exact putSel_on (e := (0, 12, .agg #[.int .i64 a0_0, .int .i64 a0_1, .slice A0_2 l0_2.length c0_2])) 0 rfl rfl (hon 0 (by kernel_rfl)) rfl
     replace ha := Aside0.mk ha
     have BK252 := Aside0.mk Q_BK252
     have BK253 := Aside0.mk Q_BK253
     have HB := Aside0.mk Q_HB
     refine goes_ Try.func46 (by kernel_rfl) rfl #[.agg #[.int .i64 a0_0, .int .i64 a0_1, .slice A0_2 l0_2.length c0_2]] (by rfl) rfl rfl (by first | (simp only [List.map_toArray, List.map_cons, List.map_nil, Act.eval, Array.getD_eq_getD_getElem?, Option.getD_some, e12]; done) | (simp only [List.map_toArray, List.map_cons, List.map_nil, Act.eval, Array.getD_eq_getD_getElem?, Option.getD_some, e12]; rfl)) ?_
     with_reducible refine (impl_World_clone.calls k a0_0 a0_1 _ _ l0_2 t255 t256 t257 _ ?side1 ?side2 A5.out).mono ?_
     (case side1 => repeat (first | exact (Kd.C_below HR0_2.out HB.out) | (with_reducible refine Kd.C_alloc ?_ _) | (with_reducible refine Kd.C_drewN ?_ _) | (with_reducible refine Kd.C_drew ?_)))
     (case side2 => exact HC0_2.out)
     rintro e w14 ⟨v258, rfl, ho0, hb⟩
     refine ⟨_, rfl, ?_⟩
     have n0_ := Aside0.mk (Kd.S_lower ho0 (below_size (by repeat (first | (with_reducible first | exact HB.out | apply below_alloc | apply pw_below_drewN | apply below_drew1 | refine below_set ?_ GE252.out | refine below_set ?_ GE253.out) | exact HB.out))))
     have n1_ := Aside0.mk (blk_below (g := gb252) (o := .cells #[.int .i64 a0_0, .int .i64 a0_1, .slice A0_2 l0_2.length c0_2] 28 (0, 0)) (by (with_reducible repeat (first | refine blk_drewN ?_ _ | refine blk_drew ?_ | refine blk_alloc ?_ _)); exact BK252.out) hb)
     have n2_ := Aside0.mk (blk_below (g := gb253) (o := .cells #[.int .i64 0, .int .i64 0, .slice none 0 0] 28 (0, 0)) (by (with_reducible repeat (first | refine blk_drewN ?_ _ | refine blk_drew ?_ | refine blk_alloc ?_ _)); exact BK253.out) hb)
     have n3_ := Aside0.mk (below_step (by repeat (first | (with_reducible first | exact HB.out | apply below_alloc | apply pw_below_drewN | apply below_drew1 | refine below_set ?_ GE252.out | refine below_set ?_ GE253.out) | exact HB.out)) hb)
     have z_BK261 := fun (h0_ : b 5 = true) (h1_ : b 6 = false) => (show w14.heap[gb261]? = some (.cells #[.int .i64 0, .int .i64 0, .slice none 0 0] 28 (0, 0)) from by first | exact (blk_below (g := gb261) (o := .cells #[.int .i64 0, .int .i64 0, .slice none 0 0] 28 (0, 0)) (by (with_reducible repeat (first | refine blk_drewN ?_ _ | refine blk_drew ?_ | refine blk_alloc ?_ _)); exact (Q_BK261 h0_ h1_)) hb))
     clear BK252
     clear BK253
     clear HB
     have HO259 := n0_
     have BK252 := n1_
     have BK253 := n2_
     have HB := n3_
     clear n0_ n1_ n2_ n3_
     (try clear hb)
     (try clear hb2)
     (try clear hk)
     (try clear hi)
     (try clear ho0)
     refine hK.out _ _ ⟨v258, gb261, (.agg #[.int .i64 t255, .int .i64 t256, v258]), m5_, (by rw [ha.out]; exact putSel_upk 1 hb_ rfl rfl rfl), (by (with_reducible repeat (first | refine blk_drewN ?_ _ | refine blk_drew ?_ | refine blk_alloc ?_ _)); exact BK252.out), (by (with_reducible repeat (first | refine blk_drewN ?_ _ | refine blk_drew ?_ | refine blk_alloc ?_ _)); exact BK253.out), (by repeat (first | (with_reducible first | exact HB.out | apply below_alloc | apply pw_below_drewN | apply below_drew1 | refine below_set ?_ GE252.out | refine below_set ?_ GE253.out) | exact HB.out)), fun _ => (by (with_reducible repeat (first | apply Kd.S_alloc | apply Kd.S_drewN | apply Kd.S_drew)); exact HO259.out), z_BK261, Q_GW261, Q_GE261, Q_NB252_261, Q_NB261_252, Q_NB253_261, Q_NB261_253, fun h0_ => absurd ((hoff 6 (by kernel_rfl)).symm.trans h0_) (by decide), fun _ => rfl, Q_X5_⟩
    refine steps_cons ?_ ?_
    ·rintro b a w' ⟨v258, gb261, m1_, m5_, ha, Q_BK252, Q_BK253, Q_HB, Q_HO259, Q_BK261, Q_GW261, Q_GE261, Q_NB252_261, Q_NB261_252, Q_NB253_261, Q_NB261_253, Q_BK261_e6, Q_X1_, Q_X5_⟩ hb_ hon hoff
     refine ⟨_, rfl, fun K hK => ?_⟩
     have e2 : a.tmps[2]? = some (.pointer (some ⟨gb252, 0, none⟩)) := by rw [ha]; exact (putSel_off rfl).trans rfl
     replace ha := Aside0.mk ha
     have BK252 := Aside0.mk Q_BK252
     have BK253 := Aside0.mk Q_BK253
     have HB := Aside0.mk Q_HB
     have hc0_ : w'.cell? ⟨gb252, 0, none⟩ = some (.int .i64 a0_0) := (blk_cell BK252.out 0).trans rfl
     have hc1_ : w'.cell? ⟨gb252, 1, none⟩ = some (.int .i64 a0_1) := (blk_cell BK252.out 1).trans rfl
     have hc2_ : w'.cell? ⟨gb252, 2, none⟩ = some (.slice A0_2 l0_2.length c0_2) := (blk_cell BK252.out 2).trans rfl
     refine value_ (w1 := w') (v := .agg #[.int .i64 a0_0, .int .i64 a0_1, .slice A0_2 l0_2.length c0_2]) (by rfl) rfl ?_ ?_
     ·go_simp
      (try simp only [i64_w])
      try rfl
     refine hK.out _ _ ⟨v258, gb261, m1_, m5_, (by rw [ha.out]; exact putSel_upk 2 hb_ rfl rfl rfl), Q_BK252, Q_BK253, Q_HB, Q_HO259, Q_BK261, Q_GW261, Q_GE261, Q_NB252_261, Q_NB261_252, Q_NB253_261, Q_NB261_253, fun h0_ => absurd ((hoff 6 (by kernel_rfl)).symm.trans h0_) (by decide), Q_X1_, Q_X5_⟩
    refine steps_cons ?_ ?_
    ·rintro b a w' ⟨v258, gb261, m1_, m5_, ha, Q_BK252, Q_BK253, Q_HB, Q_HO259, Q_BK261, Q_GW261, Q_GE261, Q_NB252_261, Q_NB261_252, Q_NB253_261, Q_NB261_253, Q_BK261_e6, Q_X1_, Q_X5_⟩ hb_ hon hoff
     refine ⟨_, rfl, fun K hK => ?_⟩
     have e14 : a.tmps[14]? = some (.agg #[.int .i64 a0_0, .int .i64 a0_1, .slice A0_2 l0_2.length c0_2]) := by rw [ha]; exact putSel_on (e := (2, 14, .agg #[.int .i64 a0_0, .int .i64 a0_1, .slice A0_2 l0_2.length c0_2])) 2 rfl rfl (hon 2 (by kernel_rfl)) rfl
     have e15 : a.tmps[15]? = some (.int .i64 a1) := by rw [ha]; exact (putSel_off rfl).trans rfl
     replace ha := Aside0.mk ha
     have BK252 := Aside0.mk Q_BK252
     have BK253 := Aside0.mk Q_BK253
     have HB := Aside0.mk Q_HB
     have HO259 := Aside0.mk (Q_HO259 (hon 1 (by kernel_rfl)))
     refine goes_ Try.func51 (by kernel_rfl) rfl #[.agg #[.int .i64 a0_0, .int .i64 a0_1, .slice A0_2 l0_2.length c0_2], .int .i64 a1] (by rfl) rfl rfl (by first | (simp only [List.map_toArray, List.map_cons, List.map_nil, Act.eval, Array.getD_eq_getD_getElem?, Option.getD_some, e14, e15]; done) | (simp only [List.map_toArray, List.map_cons, List.map_nil, Act.eval, Array.getD_eq_getD_getElem?, Option.getD_some, e14, e15]; rfl)) ?_
     with_reducible refine (impl_World_place.calls a0_0 a0_1 _ _ l0_2 a1 t260 _ ?side1 ?side2 A6.out).mono ?_
     (case side1 => repeat (first | exact (Kd.C_below HR0_2.out HB.out) | (with_reducible refine Kd.C_alloc ?_ _) | (with_reducible refine Kd.C_drewN ?_ _) | (with_reducible refine Kd.C_drew ?_)))
     (case side2 => exact HC0_2.out)
     rintro e w16 ⟨rfl, hb⟩
     refine ⟨_, rfl, ?_⟩
     have n0_ := Aside0.mk (Kd.S_below (by (with_reducible repeat (first | apply Kd.S_alloc | apply Kd.S_drewN | apply Kd.S_drew)); exact HO259.out) hb)
     have n1_ := Aside0.mk (blk_below (g := gb252) (o := .cells #[.int .i64 a0_0, .int .i64 a0_1, .slice A0_2 l0_2.length c0_2] 28 (0, 0)) (by (with_reducible repeat (first | refine blk_drewN ?_ _ | refine blk_drew ?_ | refine blk_alloc ?_ _)); exact BK252.out) hb)
     have n2_ := Aside0.mk (blk_below (g := gb253) (o := .cells #[.int .i64 0, .int .i64 0, .slice none 0 0] 28 (0, 0)) (by (with_reducible repeat (first | refine blk_drewN ?_ _ | refine blk_drew ?_ | refine blk_alloc ?_ _)); exact BK253.out) hb)
     have n3_ := Aside0.mk (below_step (by repeat (first | (with_reducible first | exact HB.out | apply below_alloc | apply pw_below_drewN | apply below_drew1 | refine below_set ?_ GE252.out | refine below_set ?_ GE253.out) | exact HB.out)) hb)
     have z_BK261 := fun (h0_ : b 5 = true) (h1_ : b 6 = false) => (show w16.heap[gb261]? = some (.cells #[.int .i64 0, .int .i64 0, .slice none 0 0] 28 (0, 0)) from by first | exact (blk_below (g := gb261) (o := .cells #[.int .i64 0, .int .i64 0, .slice none 0 0] 28 (0, 0)) (by (with_reducible repeat (first | refine blk_drewN ?_ _ | refine blk_drew ?_ | refine blk_alloc ?_ _)); exact (Q_BK261 h0_ h1_)) hb))
     clear HO259
     clear BK252
     clear BK253
     clear HB
     have HO259 := n0_
     have BK252 := n1_
     have BK253 := n2_
     have HB := n3_
     clear n0_ n1_ n2_ n3_
     (try clear hb)
     (try clear hb2)
     (try clear hk)
     (try clear hi)
     refine hK.out _ _ ⟨v258, gb261, m1_, m5_, (by rw [ha.out]; exact putSel_upk 3 hb_ rfl rfl rfl), (by (with_reducible repeat (first | refine blk_drewN ?_ _ | refine blk_drew ?_ | refine blk_alloc ?_ _)); exact BK252.out), (by (with_reducible repeat (first | refine blk_drewN ?_ _ | refine blk_drew ?_ | refine blk_alloc ?_ _)); exact BK253.out), (by repeat (first | (with_reducible first | exact HB.out | apply below_alloc | apply pw_below_drewN | apply below_drew1 | refine below_set ?_ GE252.out | refine below_set ?_ GE253.out) | exact HB.out)), fun _ => (by (with_reducible repeat (first | apply Kd.S_alloc | apply Kd.S_drewN | apply Kd.S_drew)); exact HO259.out), z_BK261, Q_GW261, Q_GE261, Q_NB252_261, Q_NB261_252, Q_NB253_261, Q_NB261_253, fun h0_ => absurd ((hoff 6 (by kernel_rfl)).symm.trans h0_) (by decide), Q_X1_, Q_X5_⟩
    refine steps_cons ?_ ?_
    ·rintro b a w' ⟨v258, gb261, m1_, m5_, ha, Q_BK252, Q_BK253, Q_HB, Q_HO259, Q_BK261, Q_GW261, Q_GE261, Q_NB252_261, Q_NB261_252, Q_NB253_261, Q_NB261_253, Q_BK261_e6, Q_X1_, Q_X5_⟩ hb_ hon hoff
     refine ⟨_, rfl, fun K hK => ?_⟩
     replace ha := Aside0.mk ha
     have BK252 := Aside0.mk Q_BK252
     have BK253 := Aside0.mk Q_BK253
     have HB := Aside0.mk Q_HB
     refine box_step ?hg (N := 6) ?hd (cs := #[.int .i64 0, .int .i64 0, .slice none 0 0]) (t := 28) ?hr ?_; (case hd => rfl); (case hg => rfl); (case hr => first | (go_simp; done) | (go_simp; rfl))
     intro gb261 hg w14 hbox hb
     have n0_ := Aside0.mk (blk_below (g := gb252) (o := .cells #[.int .i64 a0_0, .int .i64 a0_1, .slice A0_2 l0_2.length c0_2] 28 (0, 0)) (by (with_reducible repeat (first | refine blk_drewN ?_ _ | refine blk_drew ?_ | refine blk_alloc ?_ _)); exact BK252.out) hb)
     have n1_ := Aside0.mk (blk_below (g := gb253) (o := .cells #[.int .i64 0, .int .i64 0, .slice none 0 0] 28 (0, 0)) (by (with_reducible repeat (first | refine blk_drewN ?_ _ | refine blk_drew ?_ | refine blk_alloc ?_ _)); exact BK253.out) hb)
     have n2_ := Aside0.mk (below_step (by repeat (first | (with_reducible first | exact HB.out | apply below_alloc | apply pw_below_drewN | apply below_drew1 | refine below_set ?_ GE252.out | refine below_set ?_ GE253.out) | exact HB.out)) hb)
     have n3_ := Aside0.mk (hbox)
     have n4_ := Aside0.mk ((by rw [hg]; exact (below_size (by repeat (first | (with_reducible first | exact HB.out | apply below_alloc | apply pw_below_drewN | apply below_drew1 | refine below_set ?_ GE252.out | refine below_set ?_ GE253.out) | exact HB.out))) : w.heap.size ≤ gb261))
     have n5_ := Aside0.mk ((by rw [hg]; exact (below_size (by repeat (first | (with_reducible first | exact HB.out | apply below_alloc | apply pw_below_drewN | apply below_drew1 | refine below_set ?_ GE252.out | refine below_set ?_ GE253.out) | exact HB.out))) : w.heap.size ≤ gb261))
     have n6_ := Aside0.mk ((by rw [hg]; exact Nat.ne_of_lt (blk_lt (g := gb252) (o := .cells #[.int .i64 a0_0, .int .i64 a0_1, .slice A0_2 l0_2.length c0_2] 28 (0, 0)) (by (with_reducible repeat (first | refine blk_drewN ?_ _ | refine blk_drew ?_ | refine blk_alloc ?_ _)); exact BK252.out)) : gb252 ≠ gb261))
     have n7_ := Aside0.mk ((by rw [hg]; exact Nat.ne_of_gt (blk_lt (g := gb252) (o := .cells #[.int .i64 a0_0, .int .i64 a0_1, .slice A0_2 l0_2.length c0_2] 28 (0, 0)) (by (with_reducible repeat (first | refine blk_drewN ?_ _ | refine blk_drew ?_ | refine blk_alloc ?_ _)); exact BK252.out)) : gb261 ≠ gb252))
     have n8_ := Aside0.mk ((by rw [hg]; exact Nat.ne_of_lt (blk_lt (g := gb253) (o := .cells #[.int .i64 0, .int .i64 0, .slice none 0 0] 28 (0, 0)) (by (with_reducible repeat (first | refine blk_drewN ?_ _ | refine blk_drew ?_ | refine blk_alloc ?_ _)); exact BK253.out)) : gb253 ≠ gb261))
     have n9_ := Aside0.mk ((by rw [hg]; exact Nat.ne_of_gt (blk_lt (g := gb253) (o := .cells #[.int .i64 0, .int .i64 0, .slice none 0 0] 28 (0, 0)) (by (with_reducible repeat (first | refine blk_drewN ?_ _ | refine blk_drew ?_ | refine blk_alloc ?_ _)); exact BK253.out)) : gb261 ≠ gb253))
     have z_HO259 := fun (h0_ : b 1 = true) => (show Kd.S k76 76 w14 w.heap.size (fun _ => True) v258 t257 from by first | exact (Kd.S_below (by (with_reducible repeat (first | apply Kd.S_alloc | apply Kd.S_drewN | apply Kd.S_drew)); exact (Q_HO259 h0_)) hb) | exact Kd.S_mono (Kd.S_below (by (with_reducible repeat (first | apply Kd.S_alloc | apply Kd.S_drewN | apply Kd.S_drew)); exact (Q_HO259 h0_)) hb) (fun _ h_ => by first | trivial | exact h_ | exact h_.1))
     clear BK252
     clear BK253
     clear HB
     have BK252 := n0_
     have BK253 := n1_
     have HB := n2_
     have BK261 := n3_
     have GW261 := n4_
     have GE261 := n5_
     have NB252_261 := n6_
     have NB261_252 := n7_
     have NB253_261 := n8_
     have NB261_253 := n9_
     clear n0_ n1_ n2_ n3_ n4_ n5_ n6_ n7_ n8_ n9_
     clear hb hbox hg
     refine hK.out _ _ ⟨v258, gb261, m1_, (.pointer (some ⟨gb261, 0, none⟩)), (by rw [ha.out]; exact putSel_upk 4 hb_ rfl rfl rfl), (by (with_reducible repeat (first | refine blk_drewN ?_ _ | refine blk_drew ?_ | refine blk_alloc ?_ _)); exact BK252.out), (by (with_reducible repeat (first | refine blk_drewN ?_ _ | refine blk_drew ?_ | refine blk_alloc ?_ _)); exact BK253.out), (by repeat (first | (with_reducible first | exact HB.out | apply below_alloc | apply pw_below_drewN | apply below_drew1 | refine below_set ?_ GE252.out | refine below_set ?_ GE253.out | refine below_set ?_ GE261.out) | exact HB.out)), z_HO259, fun _ _ => (by (with_reducible repeat (first | refine blk_drewN ?_ _ | refine blk_drew ?_ | refine blk_alloc ?_ _)); exact BK261.out), fun _ => GW261.out, fun _ => GE261.out, fun _ => NB252_261.out, fun _ => NB261_252.out, fun _ => NB253_261.out, fun _ => NB261_253.out, fun h0_ => absurd ((hoff 6 (by kernel_rfl)).symm.trans h0_) (by decide), Q_X1_, fun _ => rfl⟩
    refine steps_cons ?_ ?_
    ·rintro b a w' ⟨v258, gb261, m1_, m5_, ha, Q_BK252, Q_BK253, Q_HB, Q_HO259, Q_BK261, Q_GW261, Q_GE261, Q_NB252_261, Q_NB261_252, Q_NB253_261, Q_NB261_253, Q_BK261_e6, Q_X1_, Q_X5_⟩ hb_ hon hoff
     refine ⟨_, rfl, fun K hK => ?_⟩
     have e6 : a.tmps[6]? = some (m5_) := by rw [ha]; exact putSel_on (e := (5, 6, m5_)) 4 rfl rfl (hon 5 (by kernel_rfl)) rfl
     rw [Q_X5_ (hon 5 (by kernel_rfl))] at e6
     have e13 : a.tmps[13]? = some (m1_) := by rw [ha]; exact putSel_on (e := (1, 13, m1_)) 1 rfl rfl (hon 1 (by kernel_rfl)) rfl
     rw [Q_X1_ (hon 1 (by kernel_rfl))] at e13
     replace ha := Aside0.mk ha
     have BK252 := Aside0.mk Q_BK252
     have BK253 := Aside0.mk Q_BK253
     have HB := Aside0.mk Q_HB
     have HO259 := Aside0.mk (Q_HO259 (hon 1 (by kernel_rfl)))
     have BK261 := Aside0.mk (Q_BK261 (hon 5 (by kernel_rfl)) hb_)
     have GW261 := Aside0.mk (Q_GW261 (hon 5 (by kernel_rfl)))
     have GE261 := Aside0.mk (Q_GE261 (hon 5 (by kernel_rfl)))
     have NB252_261 := Aside0.mk (Q_NB252_261 (hon 5 (by kernel_rfl)))
     have NB261_252 := Aside0.mk (Q_NB261_252 (hon 5 (by kernel_rfl)))
     have NB253_261 := Aside0.mk (Q_NB253_261 (hon 5 (by kernel_rfl)))
     have NB261_253 := Aside0.mk (Q_NB261_253 (hon 5 (by kernel_rfl)))
     obtain ⟨Ao20, co20, eo20⟩ := Kd.S_slice HO259.out
     (first | subst eo20 | (injection eo20 with f1_ f2_ f3_; have f4_ := f1_.symm; have f5_ := f3_.symm; clear f1_ f2_ f3_; subst f4_; subst f5_))
     have hs18 : w'.cell? ⟨gb261, 0, none⟩ = some (.int .i64 0) := (blk_cell BK261.out 0).trans rfl
     have hfs18 := blk_frozen BK261.out 0
     have hns18_0 := NB252_261.out
     have hns18_1 := NB253_261.out
     have hms18_0 := NB261_252.out
     have hms18_1 := NB261_253.out
     have hs19 : w'.cell? ⟨gb261, 1, none⟩ = some (.int .i64 0) := (blk_cell BK261.out 1).trans rfl
     have hfs19 := blk_frozen BK261.out 1
     have hns19_0 := NB252_261.out
     have hns19_1 := NB253_261.out
     have hms19_0 := NB261_252.out
     have hms19_1 := NB261_253.out
     have hs21 : w'.cell? ⟨gb261, 2, none⟩ = some (.slice none 0 0) := (blk_cell BK261.out 2).trans rfl
     have hfs21 := blk_frozen BK261.out 2
     have hns21_0 := NB252_261.out
     have hns21_1 := NB253_261.out
     have hms21_0 := NB261_252.out
     have hms21_1 := NB261_253.out
     refine skip_ (w1 := ?_) (by rfl) rfl ?_ ?_
     rotate_left
     ·go_simp
      rfl
     refine hK.out _ _ ⟨.slice Ao20 t257.length co20, gb261, m1_, m5_, (by rw [ha.out]; exact putSel_none (v := undef) rfl), (by (with_reducible repeat (first | refine blk_drewN ?_ _ | refine blk_drew ?_ | refine blk_alloc ?_ _)); refine blk_far ?_ NB252_261.out _; (with_reducible repeat (first | refine blk_drewN ?_ _ | refine blk_drew ?_ | refine blk_alloc ?_ _)); refine blk_far ?_ NB252_261.out _; (with_reducible repeat (first | refine blk_drewN ?_ _ | refine blk_drew ?_ | refine blk_alloc ?_ _)); refine blk_far ?_ NB252_261.out _; (with_reducible repeat (first | refine blk_drewN ?_ _ | refine blk_drew ?_ | refine blk_alloc ?_ _)); exact BK252.out), (by (with_reducible repeat (first | refine blk_drewN ?_ _ | refine blk_drew ?_ | refine blk_alloc ?_ _)); refine blk_far ?_ NB253_261.out _; (with_reducible repeat (first | refine blk_drewN ?_ _ | refine blk_drew ?_ | refine blk_alloc ?_ _)); refine blk_far ?_ NB253_261.out _; (with_reducible repeat (first | refine blk_drewN ?_ _ | refine blk_drew ?_ | refine blk_alloc ?_ _)); refine blk_far ?_ NB253_261.out _; (with_reducible repeat (first | refine blk_drewN ?_ _ | refine blk_drew ?_ | refine blk_alloc ?_ _)); exact BK253.out), (by repeat (first | (with_reducible first | exact HB.out | apply below_alloc | apply pw_below_drewN | apply below_drew1 | refine below_set ?_ GE252.out | refine below_set ?_ GE253.out | refine below_set ?_ GE261.out) | exact HB.out)), fun _ => (by (with_reducible repeat (first | apply Kd.S_alloc | apply Kd.S_drewN | apply Kd.S_drew)); exact Kd.S_mono (Kd.S_far (p := ⟨gb261, 2, none⟩) (Kd.S_far (p := ⟨gb261, 1, none⟩) (Kd.S_far (p := ⟨gb261, 0, none⟩) (Kd.S_types HO259.out BK261.out (by decide)) (fun _ hk => hk.2) (.int .i64 t255)) (fun _ hk => hk.2) (.int .i64 t256)) (fun _ hk => hk.2) (.slice Ao20 t257.length co20)) (fun _ hk => trivial)), fun _ h1_ => absurd ((up_self b 6).symm.trans h1_) (by decide), fun _ => GW261.out, fun _ => GE261.out, fun _ => NB252_261.out, fun _ => NB261_252.out, fun _ => NB253_261.out, fun _ => NB261_253.out, fun _ => (by (with_reducible repeat (first | refine blk_drewN ?_ _ | refine blk_drew ?_ | refine blk_alloc ?_ _)); refine blk_put (cs := #[.int .i64 t255, .int .i64 t256, .slice none 0 0]) ?_ 2 _ rfl; (with_reducible repeat (first | refine blk_drewN ?_ _ | refine blk_drew ?_ | refine blk_alloc ?_ _)); refine blk_put (cs := #[.int .i64 t255, .int .i64 0, .slice none 0 0]) ?_ 1 _ rfl; (with_reducible repeat (first | refine blk_drewN ?_ _ | refine blk_drew ?_ | refine blk_alloc ?_ _)); refine blk_put (cs := #[.int .i64 0, .int .i64 0, .slice none 0 0]) ?_ 0 _ rfl; (with_reducible repeat (first | refine blk_drewN ?_ _ | refine blk_drew ?_ | refine blk_alloc ?_ _)); exact BK261.out), Q_X1_, Q_X5_⟩
    refine steps_cons ?_ ?_
    ·rintro b a w' ⟨v258, gb261, m1_, m5_, ha, Q_BK252, Q_BK253, Q_HB, Q_HO259, Q_BK261, Q_GW261, Q_GE261, Q_NB252_261, Q_NB261_252, Q_NB253_261, Q_NB261_253, Q_BK261_e6, Q_X1_, Q_X5_⟩ hb_ hon hoff
     refine ⟨_, rfl, fun K hK => ?_⟩
     have e16 : a.tmps[16]? = some (.int .i64 t260) := by rw [ha]; exact putSel_on (e := (4, 16, .int .i64 t260)) 3 rfl rfl (hon 4 (by kernel_rfl)) rfl
     replace ha := Aside0.mk ha
     have BK252 := Aside0.mk Q_BK252
     have BK253 := Aside0.mk Q_BK253
     have HB := Aside0.mk Q_HB
     have HO259 := Aside0.mk (Q_HO259 (hon 1 (by kernel_rfl)))
     have GW261 := Aside0.mk (Q_GW261 (hon 5 (by kernel_rfl)))
     have GE261 := Aside0.mk (Q_GE261 (hon 5 (by kernel_rfl)))
     have NB252_261 := Aside0.mk (Q_NB252_261 (hon 5 (by kernel_rfl)))
     have NB261_252 := Aside0.mk (Q_NB261_252 (hon 5 (by kernel_rfl)))
     have NB253_261 := Aside0.mk (Q_NB253_261 (hon 5 (by kernel_rfl)))
     have NB261_253 := Aside0.mk (Q_NB261_253 (hon 5 (by kernel_rfl)))
     have BK261 := Aside0.mk (Q_BK261_e6 (hon 6 (by kernel_rfl)))
     refine value_ (w1 := w') (v := .int .i64 t260) (by rfl) rfl ?_ ?_
     ·go_simp
      (try simp only [i64_w])
      try rfl
     refine hK.out _ _ ⟨v258, gb261, m1_, m5_, (by rw [ha.out]; exact putSel_upk 5 hb_ rfl rfl rfl), Q_BK252, Q_BK253, Q_HB, Q_HO259, fun _ h1_ => absurd ((hon 6 (by kernel_rfl)).symm.trans h1_) (by decide), Q_GW261, Q_GE261, Q_NB252_261, Q_NB261_252, Q_NB253_261, Q_NB261_253, Q_BK261_e6, Q_X1_, Q_X5_⟩
    exact steps_nil
   rintro b a w21 hall ⟨v258, gb261, m1_, m5_, ha, Q_BK252, Q_BK253, Q_HB, Q_HO259, Q_BK261, Q_GW261, Q_GE261, Q_NB252_261, Q_NB261_252, Q_NB253_261, Q_NB261_253, Q_BK261_e6, Q_X1_, Q_X5_⟩
   clear BK252 BK253 HB
   have hb0_ := hall 0 (by kernel_rfl)
   have hb1_ := hall 1 (by kernel_rfl)
   have hb2_ := hall 2 (by kernel_rfl)
   have hb4_ := hall 4 (by kernel_rfl)
   have hb5_ := hall 5 (by kernel_rfl)
   have hb6_ := hall 6 (by kernel_rfl)
   have hb7_ := hall 7 (by kernel_rfl)
   subst ha
   obtain rfl := Q_X1_ hb1_
   obtain rfl := Q_X5_ hb5_
   simp only [putSel, hb0_, hb1_, hb2_, hb4_, hb5_, hb6_, hb7_, if_true, Act.put, List.setIfInBounds_toArray, List.set_cons_zero, List.set_cons_succ]
   have BK252 := Aside0.mk Q_BK252
   clear Q_BK252
   have BK253 := Aside0.mk Q_BK253
   clear Q_BK253
   have HB := Aside0.mk Q_HB
   clear Q_HB
   have HO259 := Aside0.mk (Q_HO259 hb1_)
   clear Q_HO259
   clear Q_BK261
   have GW261 := Aside0.mk (Q_GW261 hb5_)
   clear Q_GW261
   have GE261 := Aside0.mk (Q_GE261 hb5_)
   clear Q_GE261
   have NB252_261 := Aside0.mk (Q_NB252_261 hb5_)
   clear Q_NB252_261
   have NB261_252 := Aside0.mk (Q_NB261_252 hb5_)
   clear Q_NB261_252
   have NB253_261 := Aside0.mk (Q_NB253_261 hb5_)
   clear Q_NB253_261
   have NB261_253 := Aside0.mk (Q_NB261_253 hb5_)
   clear Q_NB261_253
   have BK261 := Aside0.mk (Q_BK261_e6 hb6_)
   clear Q_BK261_e6
   clear hall hb0_ hb1_ hb2_ hb4_ hb5_ hb6_ hb7_
   have hnb22 := NB261_252.out
   have hnc22 := NB252_261.out
   have hnb23 := NB261_253.out
   have hnc23 := NB253_261.out
   have hcz24_0 : w21.cell? ⟨gb261, 0, none⟩ = some (.int .i64 t255) := (blk_cell BK261.out 0).trans rfl
   have hcz24_1 : w21.cell? ⟨gb261, 1, none⟩ = some (.int .i64 t256) := (blk_cell BK261.out 1).trans rfl
   have hcz24_2 : w21.cell? ⟨gb261, 2, none⟩ = some (v258) := (blk_cell BK261.out 2).trans rfl
   have hfz24_0 := blk_frozen BK261.out 0
   have hfz24_1 := blk_frozen BK261.out 1
   have hfz24_2 := blk_frozen BK261.out 2
   have hcz25_0 : w21.cell? ⟨gb253, 0, none⟩ = some (.int .i64 0) := (blk_cell BK253.out 0).trans rfl
   have hcz25_1 : w21.cell? ⟨gb253, 1, none⟩ = some (.int .i64 0) := (blk_cell BK253.out 1).trans rfl
   have hcz25_2 : w21.cell? ⟨gb253, 2, none⟩ = some (.slice none 0 0) := (blk_cell BK253.out 2).trans rfl
   have hfz25_0 := blk_frozen BK253.out 0
   have hfz25_1 := blk_frozen BK253.out 1
   have hfz25_2 := blk_frozen BK253.out 2
   obtain ⟨Ao26, co26, eo26⟩ := Kd.S_slice HO259.out
   subst eo26
   try go_wp2
   refine bodyPost_ret (results_ct rfl _ _ gb253 28 #[.int .i64 t255, .int .i64 t256, .slice Ao26 t257.length co26] (0, 0) _ rfl (by (with_reducible repeat (first | refine blk_drewN ?_ _ | refine blk_drew ?_ | refine blk_alloc ?_ _)); refine blk_put (cs := #[.int .i64 t255, .int .i64 t256, .slice none 0 0]) ?_ 2 _ rfl; (with_reducible repeat (first | refine blk_drewN ?_ _ | refine blk_drew ?_ | refine blk_alloc ?_ _)); refine blk_put (cs := #[.int .i64 t255, .int .i64 0, .slice none 0 0]) ?_ 1 _ rfl; (with_reducible repeat (first | refine blk_drewN ?_ _ | refine blk_drew ?_ | refine blk_alloc ?_ _)); refine blk_put (cs := #[.int .i64 0, .int .i64 0, .slice none 0 0]) ?_ 0 _ rfl; (with_reducible repeat (first | refine blk_drewN ?_ _ | refine blk_drew ?_ | refine blk_alloc ?_ _)); exact BK253.out) Try.underlying28 rfl (by kernel_rfl)) rfl ?_
   exact ⟨_, by first | rfl | (simp [errW_none, errW_some] <;> rfl) | (simp [*, errW_none, errW_some] <;> rfl), by (with_reducible repeat (first | apply Kd.S_alloc | apply Kd.S_drewN | apply Kd.S_drew)); exact Kd.S_mono (Kd.S_far (p := ⟨gb253, 2, none⟩) (Kd.S_far (p := ⟨gb253, 1, none⟩) (Kd.S_far (p := ⟨gb253, 0, none⟩) (Kd.S_types HO259.out BK253.out (by decide)) (fun _ hk => hk.2) (.int .i64 t255)) (fun _ hk => hk.2) (.int .i64 t256)) (fun _ hk => hk.2) (.slice Ao26 t257.length co26)) (fun _ hk => trivial), by repeat (first | (with_reducible first | exact HB.out | apply below_alloc | apply pw_below_drewN | apply below_drew1 | refine below_set ?_ GE252.out | refine below_set ?_ GE253.out | refine below_set ?_ GE261.out) | exact HB.out)⟩
  ·rw [if_neg c7] at H
   have c7b0 : decide (t260 < 0) = false := decide_eq_false c7
   clear c7
   by_cases c27 : 0 ≤ t260
   ·rw [if_pos c27] at H
    have c27b0 : decide (0 ≤ t260) = true := decide_eq_true c27
    clear c27
    by_cases c28 : t260 < (t257.length : Int)
    ·rw [if_pos c28] at H
     have c28b0 : decide (t260 < (t257.length : Int)) = true := decide_eq_true c28
     clear c28
     obtain ⟨y262, hy262⟩ : ∃ y_ : List (S76), y_ = (t257.eraseIdx (t260 : Int).toNat) := ⟨_, rfl⟩
     replace H : (some (t255, t256, y262, 0)) = some (r1, r2, r3, r4) := by first | (rw [hy262]; with_reducible exact H) | (have H2_ := (Option.bind_some _ _).symm.trans H; rw [hy262]; with_reducible exact H2_) | (have H2_ := (Option.bind_some _ _).symm.trans H; with_reducible exact H2_) | with_reducible exact H | (rw [hy262]; exact H) | exact H
     have Ny262 := Aside0.mk hy262
     clear hy262
     simp only [Option.some.injEq, Prod.mk.injEq] at H
     obtain ⟨rfl, rfl, rfl, rfl⟩ := H
     go_enter Try.func17, Try.ntmps17
     try go_wp2_with (first | ((with_reducible refine gate_dst (N := 2) rfl ?_); refine box_event ?hg (N := 2) ?hd (cs := #[.int .i64 a0_0, .int .i64 a0_1, .slice A0_2 l0_2.length c0_2]) (t := 28) ?hr ?_; (case hd => rfl); (case hg => rfl); (case hr => first | (go_simp; done) | (go_simp; rfl)); intro gb252 hg w29 hbox hb; have n0_ := Aside0.mk (below_step (by repeat (first | (with_reducible first | exact HB.out | apply below_alloc | apply pw_below_drewN | apply below_drew1) | exact HB.out)) hb); have n1_ := Aside0.mk (hbox); have n2_ := Aside0.mk ((by rw [hg]; exact (below_size (by repeat (first | (with_reducible first | exact HB.out | apply below_alloc | apply pw_below_drewN | apply below_drew1) | exact HB.out))) : w.heap.size ≤ gb252)); have n3_ := Aside0.mk ((by rw [hg]; exact (below_size (by repeat (first | (with_reducible first | exact HB.out | apply below_alloc | apply pw_below_drewN | apply below_drew1) | exact HB.out))) : w.heap.size ≤ gb252)); clear HB; have HB := n0_; have BK252 := n1_; have GW252 := n2_; have GE252 := n3_; clear n0_ n1_ n2_ n3_; clear hb hbox hg) | ((with_reducible refine gate_dst (N := 4) rfl ?_); refine box_event ?hg (N := 4) ?hd (cs := #[.int .i64 0, .int .i64 0, .slice none 0 0]) (t := 28) ?hr ?_; (case hd => rfl); (case hg => rfl); (case hr => first | (go_simp; done) | (go_simp; rfl)); intro gb253 hg w30 hbox hb; have n0_ := Aside0.mk (blk_below (g := gb252) (o := .cells #[.int .i64 a0_0, .int .i64 a0_1, .slice A0_2 l0_2.length c0_2] 28 (0, 0)) (by (with_reducible repeat (first | refine blk_drewN ?_ _ | refine blk_drew ?_ | refine blk_alloc ?_ _)); exact BK252.out) hb); have n1_ := Aside0.mk (below_step (by repeat (first | (with_reducible first | exact HB.out | apply below_alloc | apply pw_below_drewN | apply below_drew1 | refine below_set ?_ GE252.out) | exact HB.out)) hb); have n2_ := Aside0.mk (hbox); have n3_ := Aside0.mk ((by rw [hg]; exact (below_size (by repeat (first | (with_reducible first | exact HB.out | apply below_alloc | apply pw_below_drewN | apply below_drew1 | refine below_set ?_ GE252.out) | exact HB.out))) : w.heap.size ≤ gb253)); have n4_ := Aside0.mk ((by rw [hg]; exact (below_size (by repeat (first | (with_reducible first | exact HB.out | apply below_alloc | apply pw_below_drewN | apply below_drew1 | refine below_set ?_ GE252.out) | exact HB.out))) : w.heap.size ≤ gb253)); have n5_ := Aside0.mk ((by rw [hg]; exact Nat.ne_of_lt (blk_lt (g := gb252) (o := .cells #[.int .i64 a0_0, .int .i64 a0_1, .slice A0_2 l0_2.length c0_2] 28 (0, 0)) (by (with_reducible repeat (first | refine blk_drewN ?_ _ | refine blk_drew ?_ | refine blk_alloc ?_ _)); exact BK252.out)) : gb252 ≠ gb253)); have n6_ := Aside0.mk ((by rw [hg]; exact Nat.ne_of_gt (blk_lt (g := gb252) (o := .cells #[.int .i64 a0_0, .int .i64 a0_1, .slice A0_2 l0_2.length c0_2] 28 (0, 0)) (by (with_reducible repeat (first | refine blk_drewN ?_ _ | refine blk_drew ?_ | refine blk_alloc ?_ _)); exact BK252.out)) : gb253 ≠ gb252)); clear BK252; clear HB; have BK252 := n0_; have HB := n1_; have BK253 := n2_; have GW253 := n3_; have GE253 := n4_; have NB252_253 := n5_; have NB253_252 := n6_; clear n0_ n1_ n2_ n3_ n4_ n5_ n6_; clear hb hbox hg; have hnb31 := NB252_253.out; have hnc31 := NB253_252.out; have hcz32_0 : w30.cell? ⟨gb252, 0, none⟩ = some (.int .i64 a0_0) := (blk_cell BK252.out 0).trans rfl; have hcz32_1 : w30.cell? ⟨gb252, 1, none⟩ = some (.int .i64 a0_1) := (blk_cell BK252.out 1).trans rfl; have hcz32_2 : w30.cell? ⟨gb252, 2, none⟩ = some (.slice A0_2 l0_2.length c0_2) := (blk_cell BK252.out 2).trans rfl; have hfz32_0 := blk_frozen BK252.out 0; have hfz32_1 := blk_frozen BK252.out 1; have hfz32_2 := blk_frozen BK252.out 2) | ((with_reducible refine gate_callee (f := 45) rfl ?_); refine goesL_ (some 9) rfl rfl Try.func45 (by kernel_rfl) rfl #[.agg #[.int .i64 a0_0, .int .i64 a0_1, .slice A0_2 l0_2.length c0_2]] rfl (by (try simp only [List.map_toArray, List.map_cons, List.map_nil]); first | done | rfl | (simp only [List.length_drop, List.length_take]; rfl)) ?_; (with_reducible refine (impl_GoodWorld.calls k a0_0 a0_1 _ _ l0_2 true _ ?side1 ?side2 A3.out).mono ?_); (case side1 => repeat (first | exact (Kd.C_below HR0_2.out HB.out) | (with_reducible refine Kd.C_alloc ?_ _) | (with_reducible refine Kd.C_drewN ?_ _) | (with_reducible refine Kd.C_drew ?_))); (case side2 => exact HC0_2.out); rintro e w33 ⟨rfl, hb⟩; refine ⟨_, rfl, ?_⟩; have n0_ := Aside0.mk (blk_below (g := gb252) (o := .cells #[.int .i64 a0_0, .int .i64 a0_1, .slice A0_2 l0_2.length c0_2] 28 (0, 0)) (by (with_reducible repeat (first | refine blk_drewN ?_ _ | refine blk_drew ?_ | refine blk_alloc ?_ _)); exact BK252.out) hb); have n1_ := Aside0.mk (blk_below (g := gb253) (o := .cells #[.int .i64 0, .int .i64 0, .slice none 0 0] 28 (0, 0)) (by (with_reducible repeat (first | refine blk_drewN ?_ _ | refine blk_drew ?_ | refine blk_alloc ?_ _)); exact BK253.out) hb); have n2_ := Aside0.mk (below_step (by repeat (first | (with_reducible first | exact HB.out | apply below_alloc | apply pw_below_drewN | apply below_drew1 | refine below_set ?_ GE252.out | refine below_set ?_ GE253.out) | exact HB.out)) hb); clear BK252; clear BK253; clear HB; have BK252 := n0_; have BK253 := n1_; have HB := n2_; clear n0_ n1_ n2_; (try clear hb); (try clear hb2); (try clear hk); (try clear hi)))
     have n0_ := Aside0.mk (blk_drew BK252.out)
     have n1_ := Aside0.mk (blk_drew BK253.out)
     have n2_ := Aside0.mk (below_drew1 HB.out)
     clear BK252
     clear BK253
     clear HB
     have BK252 := n0_
     have BK253 := n1_
     have HB := n2_
     clear n0_ n1_ n2_
     refine start_ (n := 8) (S := fun w' => True) (ds := []) #[false, false, false, false, false, false, false, false] (by kernel_rfl) rfl rfl trivial (fun hHeld => ?_); refine with_tabW impl_Despawn.tab3 impl_Despawn.bits3 (fun HT_ HW_ => ?_)
     generalize w33.drew = w34 at BK252 BK253 HB hHeld ⊢
     refine pure_ (i := 3) (N := some 15) (v := ?_) (a' := ?_) #[false, false, false, true, false, false, false, false] rfl rfl (any_of HT_.out (by kernel_rfl)) (fun _ _ _ h => h) (Or.inl ⟨by rfl, ?_⟩) ?_ ?_
     rotate_left
     ·intro w'
      go_simp
      with_reducible rfl
     rotate_left
     ·simp only [Act.put, List.setIfInBounds_toArray, List.set_cons_zero, List.set_cons_succ, i64_w, i32_w]
      rfl
     refine inv_at [0, 1, 2, 4, 5, 6, 7] (fun a0_ b a w' => ∃ (v258 : Value) (gb261 : Nat) (m1_ : Value) (m5_ : Value), a = putSel a0_ b [(0, 12, .agg #[.int .i64 a0_0, .int .i64 a0_1, .slice A0_2 l0_2.length c0_2]), (1, 13, m1_), (2, 14, .agg #[.int .i64 a0_0, .int .i64 a0_1, .slice A0_2 l0_2.length c0_2]), (4, 16, .int .i64 t260), (5, 6, m5_), (7, 7, .int .i64 t260)] ∧ (w'.heap[gb252]? = some (.cells #[.int .i64 a0_0, .int .i64 a0_1, .slice A0_2 l0_2.length c0_2] 28 (0, 0))) ∧ (w'.heap[gb253]? = some (.cells #[.int .i64 0, .int .i64 0, .slice none 0 0] 28 (0, 0))) ∧ (Below w.heap.size w w') ∧ (b 1 = true → Kd.S k76 76 w' w.heap.size (fun _ => True) v258 t257) ∧ (b 5 = true → b 6 = false → w'.heap[gb261]? = some (.cells #[.int .i64 0, .int .i64 0, .slice none 0 0] 28 (0, 0))) ∧ (b 5 = true → w.heap.size ≤ gb261) ∧ (b 5 = true → w.heap.size ≤ gb261) ∧ (b 5 = true → gb252 ≠ gb261) ∧ (b 5 = true → gb261 ≠ gb252) ∧ (b 5 = true → gb253 ≠ gb261) ∧ (b 5 = true → gb261 ≠ gb253) ∧ (b 6 = true → w'.heap[gb261]? = some (.cells #[.int .i64 t255, .int .i64 t256, v258] 28 (0, 0))) ∧ (b 1 = true → (m1_ : Value) = .agg #[.int .i64 t255, .int .i64 t256, v258]) ∧ (b 5 = true → (m5_ : Value) = .pointer (some ⟨gb261, 0, none⟩))) HT_.out HW_.out (by kernel_rfl) (by kernel_rfl) ?_ ?_ ?_
     ·exact ⟨.bool false, 0, .bool false, .bool false, by simp only [putSel, Bool.false_eq_true, if_false], BK252.out, BK253.out, HB.out, fun h_ => absurd h_ (by decide), fun h_ => absurd h_ (by decide), fun h_ => absurd h_ (by decide), fun h_ => absurd h_ (by decide), fun h_ => absurd h_ (by decide), fun h_ => absurd h_ (by decide), fun h_ => absurd h_ (by decide), fun h_ => absurd h_ (by decide), fun h_ => absurd h_ (by decide), fun h_ => absurd h_ (by decide), fun h_ => absurd h_ (by decide)⟩
     ·skip
      clear BK252 BK253 HB
      refine steps_cons ?_ ?_
      ·rintro b a w' ⟨v258, gb261, m1_, m5_, ha, Q_BK252, Q_BK253, Q_HB, Q_HO259, Q_BK261, Q_GW261, Q_GE261, Q_NB252_261, Q_NB261_252, Q_NB253_261, Q_NB261_253, Q_BK261_e6, Q_X1_, Q_X5_⟩ hb_ hon hoff
       refine ⟨_, rfl, fun K hK => ?_⟩
       have e2 : a.tmps[2]? = some (.pointer (some ⟨gb252, 0, none⟩)) := by rw [ha]; exact (putSel_off rfl).trans rfl
       replace ha := Aside0.mk ha
       have BK252 := Aside0.mk Q_BK252
       have BK253 := Aside0.mk Q_BK253
       have HB := Aside0.mk Q_HB
       have hc0_ : w'.cell? ⟨gb252, 0, none⟩ = some (.int .i64 a0_0) := (blk_cell BK252.out 0).trans rfl
       have hc1_ : w'.cell? ⟨gb252, 1, none⟩ = some (.int .i64 a0_1) := (blk_cell BK252.out 1).trans rfl
       have hc2_ : w'.cell? ⟨gb252, 2, none⟩ = some (.slice A0_2 l0_2.length c0_2) := (blk_cell BK252.out 2).trans rfl
       refine value_ (w1 := w') (v := .agg #[.int .i64 a0_0, .int .i64 a0_1, .slice A0_2 l0_2.length c0_2]) (by rfl) rfl ?_ ?_
       ·go_simp
        (try simp only [i64_w])
        try rfl
       refine hK.out _ _ ⟨v258, gb261, m1_, m5_, (by rw [ha.out]; exact putSel_upk 0 hb_ rfl rfl rfl), Q_BK252, Q_BK253, Q_HB, fun h0_ => absurd ((hoff 1 (by kernel_rfl)).symm.trans h0_) (by decide), Q_BK261, Q_GW261, Q_GE261, Q_NB252_261, Q_NB261_252, Q_NB253_261, Q_NB261_253, fun h0_ => absurd ((hoff 6 (by kernel_rfl)).symm.trans h0_) (by decide), fun h0_ => absurd ((hoff 1 (by kernel_rfl)).symm.trans h0_) (by decide), Q_X5_⟩
      refine steps_cons ?_ ?_
      ·rintro b a w' ⟨v258, gb261, m1_, m5_, ha, Q_BK252, Q_BK253, Q_HB, Q_HO259, Q_BK261, Q_GW261, Q_GE261, Q_NB252_261, Q_NB261_252, Q_NB253_261, Q_NB261_253, Q_BK261_e6, Q_X1_, Q_X5_⟩ hb_ hon hoff
       refine ⟨_, rfl, fun K hK => ?_⟩
       have e12 : a.tmps[12]? = some (.agg #[.int .i64 a0_0, .int .i64 a0_1, .slice A0_2 l0_2.length c0_2]) := by rw [ha]; exact putSel_on (e := (0, 12, .agg #[.int .i64 a0_0, .int .i64 a0_1, .slice A0_2 l0_2.length c0_2])) 0 rfl rfl (hon 0 (by kernel_rfl)) rfl
       replace ha := Aside0.mk ha
       have BK252 := Aside0.mk Q_BK252
       have BK253 := Aside0.mk Q_BK253
       have HB := Aside0.mk Q_HB
       refine goes_ Try.func46 (by kernel_rfl) rfl #[.agg #[.int .i64 a0_0, .int .i64 a0_1, .slice A0_2 l0_2.length c0_2]] (by rfl) rfl rfl (by first | (simp only [List.map_toArray, List.map_cons, List.map_nil, Act.eval, Array.getD_eq_getD_getElem?, Option.getD_some, e12]; done) | (simp only [List.map_toArray, List.map_cons, List.map_nil, Act.eval, Array.getD_eq_getD_getElem?, Option.getD_some, e12]; rfl)) ?_
       with_reducible refine (impl_World_clone.calls k a0_0 a0_1 _ _ l0_2 t255 t256 t257 _ ?side1 ?side2 A5.out).mono ?_
       (case side1 => repeat (first | exact (Kd.C_below HR0_2.out HB.out) | (with_reducible refine Kd.C_alloc ?_ _) | (with_reducible refine Kd.C_drewN ?_ _) | (with_reducible refine Kd.C_drew ?_)))
       (case side2 => exact HC0_2.out)
       rintro e w35 ⟨v258, rfl, ho0, hb⟩
       refine ⟨_, rfl, ?_⟩
       have n0_ := Aside0.mk (Kd.S_lower ho0 (below_size (by repeat (first | (with_reducible first | exact HB.out | apply below_alloc | apply pw_below_drewN | apply below_drew1 | refine below_set ?_ GE252.out | refine below_set ?_ GE253.out) | exact HB.out))))
       have n1_ := Aside0.mk (blk_below (g := gb252) (o := .cells #[.int .i64 a0_0, .int .i64 a0_1, .slice A0_2 l0_2.length c0_2] 28 (0, 0)) (by (with_reducible repeat (first | refine blk_drewN ?_ _ | refine blk_drew ?_ | refine blk_alloc ?_ _)); exact BK252.out) hb)
       have n2_ := Aside0.mk (blk_below (g := gb253) (o := .cells #[.int .i64 0, .int .i64 0, .slice none 0 0] 28 (0, 0)) (by (with_reducible repeat (first | refine blk_drewN ?_ _ | refine blk_drew ?_ | refine blk_alloc ?_ _)); exact BK253.out) hb)
       have n3_ := Aside0.mk (below_step (by repeat (first | (with_reducible first | exact HB.out | apply below_alloc | apply pw_below_drewN | apply below_drew1 | refine below_set ?_ GE252.out | refine below_set ?_ GE253.out) | exact HB.out)) hb)
       have z_BK261 := fun (h0_ : b 5 = true) (h1_ : b 6 = false) => (show w35.heap[gb261]? = some (.cells #[.int .i64 0, .int .i64 0, .slice none 0 0] 28 (0, 0)) from by first | exact (blk_below (g := gb261) (o := .cells #[.int .i64 0, .int .i64 0, .slice none 0 0] 28 (0, 0)) (by (with_reducible repeat (first | refine blk_drewN ?_ _ | refine blk_drew ?_ | refine blk_alloc ?_ _)); exact (Q_BK261 h0_ h1_)) hb))
       clear BK252
       clear BK253
       clear HB
       have HO259 := n0_
       have BK252 := n1_
       have BK253 := n2_
       have HB := n3_
       clear n0_ n1_ n2_ n3_
       (try clear hb)
       (try clear hb2)
       (try clear hk)
       (try clear hi)
       (try clear ho0)
       refine hK.out _ _ ⟨v258, gb261, (.agg #[.int .i64 t255, .int .i64 t256, v258]), m5_, (by rw [ha.out]; exact putSel_upk 1 hb_ rfl rfl rfl), (by (with_reducible repeat (first | refine blk_drewN ?_ _ | refine blk_drew ?_ | refine blk_alloc ?_ _)); exact BK252.out), (by (with_reducible repeat (first | refine blk_drewN ?_ _ | refine blk_drew ?_ | refine blk_alloc ?_ _)); exact BK253.out), (by repeat (first | (with_reducible first | exact HB.out | apply below_alloc | apply pw_below_drewN | apply below_drew1 | refine below_set ?_ GE252.out | refine below_set ?_ GE253.out) | exact HB.out)), fun _ => (by (with_reducible repeat (first | apply Kd.S_alloc | apply Kd.S_drewN | apply Kd.S_drew)); exact HO259.out), z_BK261, Q_GW261, Q_GE261, Q_NB252_261, Q_NB261_252, Q_NB253_261, Q_NB261_253, fun h0_ => absurd ((hoff 6 (by kernel_rfl)).symm.trans h0_) (by decide), fun _ => rfl, Q_X5_⟩
      refine steps_cons ?_ ?_
      ·rintro b a w' ⟨v258, gb261, m1_, m5_, ha, Q_BK252, Q_BK253, Q_HB, Q_HO259, Q_BK261, Q_GW261, Q_GE261, Q_NB252_261, Q_NB261_252, Q_NB253_261, Q_NB261_253, Q_BK261_e6, Q_X1_, Q_X5_⟩ hb_ hon hoff
       refine ⟨_, rfl, fun K hK => ?_⟩
       have e2 : a.tmps[2]? = some (.pointer (some ⟨gb252, 0, none⟩)) := by rw [ha]; exact (putSel_off rfl).trans rfl
       replace ha := Aside0.mk ha
       have BK252 := Aside0.mk Q_BK252
       have BK253 := Aside0.mk Q_BK253
       have HB := Aside0.mk Q_HB
       have hc0_ : w'.cell? ⟨gb252, 0, none⟩ = some (.int .i64 a0_0) := (blk_cell BK252.out 0).trans rfl
       have hc1_ : w'.cell? ⟨gb252, 1, none⟩ = some (.int .i64 a0_1) := (blk_cell BK252.out 1).trans rfl
       have hc2_ : w'.cell? ⟨gb252, 2, none⟩ = some (.slice A0_2 l0_2.length c0_2) := (blk_cell BK252.out 2).trans rfl
       refine value_ (w1 := w') (v := .agg #[.int .i64 a0_0, .int .i64 a0_1, .slice A0_2 l0_2.length c0_2]) (by rfl) rfl ?_ ?_
       ·go_simp
        (try simp only [i64_w])
        try rfl
       refine hK.out _ _ ⟨v258, gb261, m1_, m5_, (by rw [ha.out]; exact putSel_upk 2 hb_ rfl rfl rfl), Q_BK252, Q_BK253, Q_HB, Q_HO259, Q_BK261, Q_GW261, Q_GE261, Q_NB252_261, Q_NB261_252, Q_NB253_261, Q_NB261_253, fun h0_ => absurd ((hoff 6 (by kernel_rfl)).symm.trans h0_) (by decide), Q_X1_, Q_X5_⟩
      refine steps_cons ?_ ?_
      ·rintro b a w' ⟨v258, gb261, m1_, m5_, ha, Q_BK252, Q_BK253, Q_HB, Q_HO259, Q_BK261, Q_GW261, Q_GE261, Q_NB252_261, Q_NB261_252, Q_NB253_261, Q_NB261_253, Q_BK261_e6, Q_X1_, Q_X5_⟩ hb_ hon hoff
       refine ⟨_, rfl, fun K hK => ?_⟩
       have e14 : a.tmps[14]? = some (.agg #[.int .i64 a0_0, .int .i64 a0_1, .slice A0_2 l0_2.length c0_2]) := by rw [ha]; exact putSel_on (e := (2, 14, .agg #[.int .i64 a0_0, .int .i64 a0_1, .slice A0_2 l0_2.length c0_2])) 2 rfl rfl (hon 2 (by kernel_rfl)) rfl
       have e15 : a.tmps[15]? = some (.int .i64 a1) := by rw [ha]; exact (putSel_off rfl).trans rfl
       replace ha := Aside0.mk ha
       have BK252 := Aside0.mk Q_BK252
       have BK253 := Aside0.mk Q_BK253
       have HB := Aside0.mk Q_HB
       have HO259 := Aside0.mk (Q_HO259 (hon 1 (by kernel_rfl)))
       refine goes_ Try.func51 (by kernel_rfl) rfl #[.agg #[.int .i64 a0_0, .int .i64 a0_1, .slice A0_2 l0_2.length c0_2], .int .i64 a1] (by rfl) rfl rfl (by first | (simp only [List.map_toArray, List.map_cons, List.map_nil, Act.eval, Array.getD_eq_getD_getElem?, Option.getD_some, e14, e15]; done) | (simp only [List.map_toArray, List.map_cons, List.map_nil, Act.eval, Array.getD_eq_getD_getElem?, Option.getD_some, e14, e15]; rfl)) ?_
       with_reducible refine (impl_World_place.calls a0_0 a0_1 _ _ l0_2 a1 t260 _ ?side1 ?side2 A6.out).mono ?_
       (case side1 => repeat (first | exact (Kd.C_below HR0_2.out HB.out) | (with_reducible refine Kd.C_alloc ?_ _) | (with_reducible refine Kd.C_drewN ?_ _) | (with_reducible refine Kd.C_drew ?_)))
       (case side2 => exact HC0_2.out)
       rintro e w37 ⟨rfl, hb⟩
       refine ⟨_, rfl, ?_⟩
       have n0_ := Aside0.mk (Kd.S_below (by (with_reducible repeat (first | apply Kd.S_alloc | apply Kd.S_drewN | apply Kd.S_drew)); exact HO259.out) hb)
       have n1_ := Aside0.mk (blk_below (g := gb252) (o := .cells #[.int .i64 a0_0, .int .i64 a0_1, .slice A0_2 l0_2.length c0_2] 28 (0, 0)) (by (with_reducible repeat (first | refine blk_drewN ?_ _ | refine blk_drew ?_ | refine blk_alloc ?_ _)); exact BK252.out) hb)
       have n2_ := Aside0.mk (blk_below (g := gb253) (o := .cells #[.int .i64 0, .int .i64 0, .slice none 0 0] 28 (0, 0)) (by (with_reducible repeat (first | refine blk_drewN ?_ _ | refine blk_drew ?_ | refine blk_alloc ?_ _)); exact BK253.out) hb)
       have n3_ := Aside0.mk (below_step (by repeat (first | (with_reducible first | exact HB.out | apply below_alloc | apply pw_below_drewN | apply below_drew1 | refine below_set ?_ GE252.out | refine below_set ?_ GE253.out) | exact HB.out)) hb)
       have z_BK261 := fun (h0_ : b 5 = true) (h1_ : b 6 = false) => (show w37.heap[gb261]? = some (.cells #[.int .i64 0, .int .i64 0, .slice none 0 0] 28 (0, 0)) from by first | exact (blk_below (g := gb261) (o := .cells #[.int .i64 0, .int .i64 0, .slice none 0 0] 28 (0, 0)) (by (with_reducible repeat (first | refine blk_drewN ?_ _ | refine blk_drew ?_ | refine blk_alloc ?_ _)); exact (Q_BK261 h0_ h1_)) hb))
       clear HO259
       clear BK252
       clear BK253
       clear HB
       have HO259 := n0_
       have BK252 := n1_
       have BK253 := n2_
       have HB := n3_
       clear n0_ n1_ n2_ n3_
       (try clear hb)
       (try clear hb2)
       (try clear hk)
       (try clear hi)
       refine hK.out _ _ ⟨v258, gb261, m1_, m5_, (by rw [ha.out]; exact putSel_upk 3 hb_ rfl rfl rfl), (by (with_reducible repeat (first | refine blk_drewN ?_ _ | refine blk_drew ?_ | refine blk_alloc ?_ _)); exact BK252.out), (by (with_reducible repeat (first | refine blk_drewN ?_ _ | refine blk_drew ?_ | refine blk_alloc ?_ _)); exact BK253.out), (by repeat (first | (with_reducible first | exact HB.out | apply below_alloc | apply pw_below_drewN | apply below_drew1 | refine below_set ?_ GE252.out | refine below_set ?_ GE253.out) | exact HB.out)), fun _ => (by (with_reducible repeat (first | apply Kd.S_alloc | apply Kd.S_drewN | apply Kd.S_drew)); exact HO259.out), z_BK261, Q_GW261, Q_GE261, Q_NB252_261, Q_NB261_252, Q_NB253_261, Q_NB261_253, fun h0_ => absurd ((hoff 6 (by kernel_rfl)).symm.trans h0_) (by decide), Q_X1_, Q_X5_⟩
      refine steps_cons ?_ ?_
      ·rintro b a w' ⟨v258, gb261, m1_, m5_, ha, Q_BK252, Q_BK253, Q_HB, Q_HO259, Q_BK261, Q_GW261, Q_GE261, Q_NB252_261, Q_NB261_252, Q_NB253_261, Q_NB261_253, Q_BK261_e6, Q_X1_, Q_X5_⟩ hb_ hon hoff
       refine ⟨_, rfl, fun K hK => ?_⟩
       replace ha := Aside0.mk ha
       have BK252 := Aside0.mk Q_BK252
       have BK253 := Aside0.mk Q_BK253
       have HB := Aside0.mk Q_HB
       refine box_step ?hg (N := 6) ?hd (cs := #[.int .i64 0, .int .i64 0, .slice none 0 0]) (t := 28) ?hr ?_; (case hd => rfl); (case hg => rfl); (case hr => first | (go_simp; done) | (go_simp; rfl))
       intro gb261 hg w35 hbox hb
       have n0_ := Aside0.mk (blk_below (g := gb252) (o := .cells #[.int .i64 a0_0, .int .i64 a0_1, .slice A0_2 l0_2.length c0_2] 28 (0, 0)) (by (with_reducible repeat (first | refine blk_drewN ?_ _ | refine blk_drew ?_ | refine blk_alloc ?_ _)); exact BK252.out) hb)
       have n1_ := Aside0.mk (blk_below (g := gb253) (o := .cells #[.int .i64 0, .int .i64 0, .slice none 0 0] 28 (0, 0)) (by (with_reducible repeat (first | refine blk_drewN ?_ _ | refine blk_drew ?_ | refine blk_alloc ?_ _)); exact BK253.out) hb)
       have n2_ := Aside0.mk (below_step (by repeat (first | (with_reducible first | exact HB.out | apply below_alloc | apply pw_below_drewN | apply below_drew1 | refine below_set ?_ GE252.out | refine below_set ?_ GE253.out) | exact HB.out)) hb)
       have n3_ := Aside0.mk (hbox)
       have n4_ := Aside0.mk ((by rw [hg]; exact (below_size (by repeat (first | (with_reducible first | exact HB.out | apply below_alloc | apply pw_below_drewN | apply below_drew1 | refine below_set ?_ GE252.out | refine below_set ?_ GE253.out) | exact HB.out))) : w.heap.size ≤ gb261))
       have n5_ := Aside0.mk ((by rw [hg]; exact (below_size (by repeat (first | (with_reducible first | exact HB.out | apply below_alloc | apply pw_below_drewN | apply below_drew1 | refine below_set ?_ GE252.out | refine below_set ?_ GE253.out) | exact HB.out))) : w.heap.size ≤ gb261))
       have n6_ := Aside0.mk ((by rw [hg]; exact Nat.ne_of_lt (blk_lt (g := gb252) (o := .cells #[.int .i64 a0_0, .int .i64 a0_1, .slice A0_2 l0_2.length c0_2] 28 (0, 0)) (by (with_reducible repeat (first | refine blk_drewN ?_ _ | refine blk_drew ?_ | refine blk_alloc ?_ _)); exact BK252.out)) : gb252 ≠ gb261))
       have n7_ := Aside0.mk ((by rw [hg]; exact Nat.ne_of_gt (blk_lt (g := gb252) (o := .cells #[.int .i64 a0_0, .int .i64 a0_1, .slice A0_2 l0_2.length c0_2] 28 (0, 0)) (by (with_reducible repeat (first | refine blk_drewN ?_ _ | refine blk_drew ?_ | refine blk_alloc ?_ _)); exact BK252.out)) : gb261 ≠ gb252))
       have n8_ := Aside0.mk ((by rw [hg]; exact Nat.ne_of_lt (blk_lt (g := gb253) (o := .cells #[.int .i64 0, .int .i64 0, .slice none 0 0] 28 (0, 0)) (by (with_reducible repeat (first | refine blk_drewN ?_ _ | refine blk_drew ?_ | refine blk_alloc ?_ _)); exact BK253.out)) : gb253 ≠ gb261))
       have n9_ := Aside0.mk ((by rw [hg]; exact Nat.ne_of_gt (blk_lt (g := gb253) (o := .cells #[.int .i64 0, .int .i64 0, .slice none 0 0] 28 (0, 0)) (by (with_reducible repeat (first | refine blk_drewN ?_ _ | refine blk_drew ?_ | refine blk_alloc ?_ _)); exact BK253.out)) : gb261 ≠ gb253))
       have z_HO259 := fun (h0_ : b 1 = true) => (show Kd.S k76 76 w35 w.heap.size (fun _ => True) v258 t257 from by first | exact (Kd.S_below (by (with_reducible repeat (first | apply Kd.S_alloc | apply Kd.S_drewN | apply Kd.S_drew)); exact (Q_HO259 h0_)) hb) | exact Kd.S_mono (Kd.S_below (by (with_reducible repeat (first | apply Kd.S_alloc | apply Kd.S_drewN | apply Kd.S_drew)); exact (Q_HO259 h0_)) hb) (fun _ h_ => by first | trivial | exact h_ | exact h_.1))
       clear BK252
       clear BK253
       clear HB
       have BK252 := n0_
       have BK253 := n1_
       have HB := n2_
       have BK261 := n3_
       have GW261 := n4_
       have GE261 := n5_
       have NB252_261 := n6_
       have NB261_252 := n7_
       have NB253_261 := n8_
       have NB261_253 := n9_
       clear n0_ n1_ n2_ n3_ n4_ n5_ n6_ n7_ n8_ n9_
       clear hb hbox hg
       refine hK.out _ _ ⟨v258, gb261, m1_, (.pointer (some ⟨gb261, 0, none⟩)), (by rw [ha.out]; exact putSel_upk 4 hb_ rfl rfl rfl), (by (with_reducible repeat (first | refine blk_drewN ?_ _ | refine blk_drew ?_ | refine blk_alloc ?_ _)); exact BK252.out), (by (with_reducible repeat (first | refine blk_drewN ?_ _ | refine blk_drew ?_ | refine blk_alloc ?_ _)); exact BK253.out), (by repeat (first | (with_reducible first | exact HB.out | apply below_alloc | apply pw_below_drewN | apply below_drew1 | refine below_set ?_ GE252.out | refine below_set ?_ GE253.out | refine below_set ?_ GE261.out) | exact HB.out)), z_HO259, fun _ _ => (by (with_reducible repeat (first | refine blk_drewN ?_ _ | refine blk_drew ?_ | refine blk_alloc ?_ _)); exact BK261.out), fun _ => GW261.out, fun _ => GE261.out, fun _ => NB252_261.out, fun _ => NB261_252.out, fun _ => NB253_261.out, fun _ => NB261_253.out, fun h0_ => absurd ((hoff 6 (by kernel_rfl)).symm.trans h0_) (by decide), Q_X1_, fun _ => rfl⟩
      refine steps_cons ?_ ?_
      ·rintro b a w' ⟨v258, gb261, m1_, m5_, ha, Q_BK252, Q_BK253, Q_HB, Q_HO259, Q_BK261, Q_GW261, Q_GE261, Q_NB252_261, Q_NB261_252, Q_NB253_261, Q_NB261_253, Q_BK261_e6, Q_X1_, Q_X5_⟩ hb_ hon hoff
       refine ⟨_, rfl, fun K hK => ?_⟩
       have e6 : a.tmps[6]? = some (m5_) := by rw [ha]; exact putSel_on (e := (5, 6, m5_)) 4 rfl rfl (hon 5 (by kernel_rfl)) rfl
       rw [Q_X5_ (hon 5 (by kernel_rfl))] at e6
       have e13 : a.tmps[13]? = some (m1_) := by rw [ha]; exact putSel_on (e := (1, 13, m1_)) 1 rfl rfl (hon 1 (by kernel_rfl)) rfl
       rw [Q_X1_ (hon 1 (by kernel_rfl))] at e13
       replace ha := Aside0.mk ha
       have BK252 := Aside0.mk Q_BK252
       have BK253 := Aside0.mk Q_BK253
       have HB := Aside0.mk Q_HB
       have HO259 := Aside0.mk (Q_HO259 (hon 1 (by kernel_rfl)))
       have BK261 := Aside0.mk (Q_BK261 (hon 5 (by kernel_rfl)) hb_)
       have GW261 := Aside0.mk (Q_GW261 (hon 5 (by kernel_rfl)))
       have GE261 := Aside0.mk (Q_GE261 (hon 5 (by kernel_rfl)))
       have NB252_261 := Aside0.mk (Q_NB252_261 (hon 5 (by kernel_rfl)))
       have NB261_252 := Aside0.mk (Q_NB261_252 (hon 5 (by kernel_rfl)))
       have NB253_261 := Aside0.mk (Q_NB253_261 (hon 5 (by kernel_rfl)))
       have NB261_253 := Aside0.mk (Q_NB261_253 (hon 5 (by kernel_rfl)))
       obtain ⟨Ao41, co41, eo41⟩ := Kd.S_slice HO259.out
       (first | subst eo41 | (injection eo41 with f1_ f2_ f3_; have f4_ := f1_.symm; have f5_ := f3_.symm; clear f1_ f2_ f3_; subst f4_; subst f5_))
       have hs39 : w'.cell? ⟨gb261, 0, none⟩ = some (.int .i64 0) := (blk_cell BK261.out 0).trans rfl
       have hfs39 := blk_frozen BK261.out 0
       have hns39_0 := NB252_261.out
       have hns39_1 := NB253_261.out
       have hms39_0 := NB261_252.out
       have hms39_1 := NB261_253.out
       have hs40 : w'.cell? ⟨gb261, 1, none⟩ = some (.int .i64 0) := (blk_cell BK261.out 1).trans rfl
       have hfs40 := blk_frozen BK261.out 1
       have hns40_0 := NB252_261.out
       have hns40_1 := NB253_261.out
       have hms40_0 := NB261_252.out
       have hms40_1 := NB261_253.out
       have hs42 : w'.cell? ⟨gb261, 2, none⟩ = some (.slice none 0 0) := (blk_cell BK261.out 2).trans rfl
       have hfs42 := blk_frozen BK261.out 2
       have hns42_0 := NB252_261.out
       have hns42_1 := NB253_261.out
       have hms42_0 := NB261_252.out
       have hms42_1 := NB261_253.out
       refine skip_ (w1 := ?_) (by rfl) rfl ?_ ?_
       rotate_left
       ·go_simp
        rfl
       refine hK.out _ _ ⟨.slice Ao41 t257.length co41, gb261, m1_, m5_, (by rw [ha.out]; exact putSel_none (v := undef) rfl), (by (with_reducible repeat (first | refine blk_drewN ?_ _ | refine blk_drew ?_ | refine blk_alloc ?_ _)); refine blk_far ?_ NB252_261.out _; (with_reducible repeat (first | refine blk_drewN ?_ _ | refine blk_drew ?_ | refine blk_alloc ?_ _)); refine blk_far ?_ NB252_261.out _; (with_reducible repeat (first | refine blk_drewN ?_ _ | refine blk_drew ?_ | refine blk_alloc ?_ _)); refine blk_far ?_ NB252_261.out _; (with_reducible repeat (first | refine blk_drewN ?_ _ | refine blk_drew ?_ | refine blk_alloc ?_ _)); exact BK252.out), (by (with_reducible repeat (first | refine blk_drewN ?_ _ | refine blk_drew ?_ | refine blk_alloc ?_ _)); refine blk_far ?_ NB253_261.out _; (with_reducible repeat (first | refine blk_drewN ?_ _ | refine blk_drew ?_ | refine blk_alloc ?_ _)); refine blk_far ?_ NB253_261.out _; (with_reducible repeat (first | refine blk_drewN ?_ _ | refine blk_drew ?_ | refine blk_alloc ?_ _)); refine blk_far ?_ NB253_261.out _; (with_reducible repeat (first | refine blk_drewN ?_ _ | refine blk_drew ?_ | refine blk_alloc ?_ _)); exact BK253.out), (by repeat (first | (with_reducible first | exact HB.out | apply below_alloc | apply pw_below_drewN | apply below_drew1 | refine below_set ?_ GE252.out | refine below_set ?_ GE253.out | refine below_set ?_ GE261.out) | exact HB.out)), fun _ => (by (with_reducible repeat (first | apply Kd.S_alloc | apply Kd.S_drewN | apply Kd.S_drew)); exact Kd.S_mono (Kd.S_far (p := ⟨gb261, 2, none⟩) (Kd.S_far (p := ⟨gb261, 1, none⟩) (Kd.S_far (p := ⟨gb261, 0, none⟩) (Kd.S_types HO259.out BK261.out (by decide)) (fun _ hk => hk.2) (.int .i64 t255)) (fun _ hk => hk.2) (.int .i64 t256)) (fun _ hk => hk.2) (.slice Ao41 t257.length co41)) (fun _ hk => trivial)), fun _ h1_ => absurd ((up_self b 6).symm.trans h1_) (by decide), fun _ => GW261.out, fun _ => GE261.out, fun _ => NB252_261.out, fun _ => NB261_252.out, fun _ => NB253_261.out, fun _ => NB261_253.out, fun _ => (by (with_reducible repeat (first | refine blk_drewN ?_ _ | refine blk_drew ?_ | refine blk_alloc ?_ _)); refine blk_put (cs := #[.int .i64 t255, .int .i64 t256, .slice none 0 0]) ?_ 2 _ rfl; (with_reducible repeat (first | refine blk_drewN ?_ _ | refine blk_drew ?_ | refine blk_alloc ?_ _)); refine blk_put (cs := #[.int .i64 t255, .int .i64 0, .slice none 0 0]) ?_ 1 _ rfl; (with_reducible repeat (first | refine blk_drewN ?_ _ | refine blk_drew ?_ | refine blk_alloc ?_ _)); refine blk_put (cs := #[.int .i64 0, .int .i64 0, .slice none 0 0]) ?_ 0 _ rfl; (with_reducible repeat (first | refine blk_drewN ?_ _ | refine blk_drew ?_ | refine blk_alloc ?_ _)); exact BK261.out), Q_X1_, Q_X5_⟩
      refine steps_cons ?_ ?_
      ·rintro b a w' ⟨v258, gb261, m1_, m5_, ha, Q_BK252, Q_BK253, Q_HB, Q_HO259, Q_BK261, Q_GW261, Q_GE261, Q_NB252_261, Q_NB261_252, Q_NB253_261, Q_NB261_253, Q_BK261_e6, Q_X1_, Q_X5_⟩ hb_ hon hoff
       refine ⟨_, rfl, fun K hK => ?_⟩
       have e16 : a.tmps[16]? = some (.int .i64 t260) := by rw [ha]; exact putSel_on (e := (4, 16, .int .i64 t260)) 3 rfl rfl (hon 4 (by kernel_rfl)) rfl
       replace ha := Aside0.mk ha
       have BK252 := Aside0.mk Q_BK252
       have BK253 := Aside0.mk Q_BK253
       have HB := Aside0.mk Q_HB
       have HO259 := Aside0.mk (Q_HO259 (hon 1 (by kernel_rfl)))
       have GW261 := Aside0.mk (Q_GW261 (hon 5 (by kernel_rfl)))
       have GE261 := Aside0.mk (Q_GE261 (hon 5 (by kernel_rfl)))
       have NB252_261 := Aside0.mk (Q_NB252_261 (hon 5 (by kernel_rfl)))
       have NB261_252 := Aside0.mk (Q_NB261_252 (hon 5 (by kernel_rfl)))
       have NB253_261 := Aside0.mk (Q_NB253_261 (hon 5 (by kernel_rfl)))
       have NB261_253 := Aside0.mk (Q_NB261_253 (hon 5 (by kernel_rfl)))
       have BK261 := Aside0.mk (Q_BK261_e6 (hon 6 (by kernel_rfl)))
       refine value_ (w1 := w') (v := .int .i64 t260) (by rfl) rfl ?_ ?_
       ·go_simp
        (try simp only [i64_w])
        try rfl
       refine hK.out _ _ ⟨v258, gb261, m1_, m5_, (by rw [ha.out]; exact putSel_upk 5 hb_ rfl rfl rfl), Q_BK252, Q_BK253, Q_HB, Q_HO259, fun _ h1_ => absurd ((hon 6 (by kernel_rfl)).symm.trans h1_) (by decide), Q_GW261, Q_GE261, Q_NB252_261, Q_NB261_252, Q_NB253_261, Q_NB261_253, Q_BK261_e6, Q_X1_, Q_X5_⟩
      exact steps_nil
     rintro b a w42 hall ⟨v258, gb261, m1_, m5_, ha, Q_BK252, Q_BK253, Q_HB, Q_HO259, Q_BK261, Q_GW261, Q_GE261, Q_NB252_261, Q_NB261_252, Q_NB253_261, Q_NB261_253, Q_BK261_e6, Q_X1_, Q_X5_⟩
     clear BK252 BK253 HB
     have hb0_ := hall 0 (by kernel_rfl)
     have hb1_ := hall 1 (by kernel_rfl)
     have hb2_ := hall 2 (by kernel_rfl)
     have hb4_ := hall 4 (by kernel_rfl)
     have hb5_ := hall 5 (by kernel_rfl)
     have hb6_ := hall 6 (by kernel_rfl)
     have hb7_ := hall 7 (by kernel_rfl)
     subst ha
     obtain rfl := Q_X1_ hb1_
     obtain rfl := Q_X5_ hb5_
     simp only [putSel, hb0_, hb1_, hb2_, hb4_, hb5_, hb6_, hb7_, if_true, Act.put, List.setIfInBounds_toArray, List.set_cons_zero, List.set_cons_succ]
     have BK252 := Aside0.mk Q_BK252
     clear Q_BK252
     have BK253 := Aside0.mk Q_BK253
     clear Q_BK253
     have HB := Aside0.mk Q_HB
     clear Q_HB
     have HO259 := Aside0.mk (Q_HO259 hb1_)
     clear Q_HO259
     clear Q_BK261
     have GW261 := Aside0.mk (Q_GW261 hb5_)
     clear Q_GW261
     have GE261 := Aside0.mk (Q_GE261 hb5_)
     clear Q_GE261
     have NB252_261 := Aside0.mk (Q_NB252_261 hb5_)
     clear Q_NB252_261
     have NB261_252 := Aside0.mk (Q_NB261_252 hb5_)
     clear Q_NB261_252
     have NB253_261 := Aside0.mk (Q_NB253_261 hb5_)
     clear Q_NB253_261
     have NB261_253 := Aside0.mk (Q_NB261_253 hb5_)
     clear Q_NB261_253
     have BK261 := Aside0.mk (Q_BK261_e6 hb6_)
     clear Q_BK261_e6
     clear hall hb0_ hb1_ hb2_ hb4_ hb5_ hb6_ hb7_
     have hnb43 := NB261_252.out
     have hnc43 := NB252_261.out
     have hnb44 := NB261_253.out
     have hnc44 := NB253_261.out
     have hcz45_0 : w42.cell? ⟨gb261, 0, none⟩ = some (.int .i64 t255) := (blk_cell BK261.out 0).trans rfl
     have hcz45_1 : w42.cell? ⟨gb261, 1, none⟩ = some (.int .i64 t256) := (blk_cell BK261.out 1).trans rfl
     have hcz45_2 : w42.cell? ⟨gb261, 2, none⟩ = some (v258) := (blk_cell BK261.out 2).trans rfl
     have hfz45_0 := blk_frozen BK261.out 0
     have hfz45_1 := blk_frozen BK261.out 1
     have hfz45_2 := blk_frozen BK261.out 2
     obtain ⟨Ao46, co46, eo46⟩ := Kd.S_slice HO259.out
     subst eo46
     try go_wp2_with (first | ((with_reducible refine gate_callee (f := 52) rfl ?_); have hj_ : 0 ≤ (t260 : Int) := of_decide_eq_true (by first | (with_reducible assumption) | assumption); have hl_ : (t260 : Int) < (t257.length : Int) := of_decide_eq_true (by first | (with_reducible assumption) | assumption); obtain ⟨gd48, cap_, ev_, _⟩ := Kd.S_form HO259.out (by omega); injection ev_ with ea_ _ ec_; subst ea_; subst ec_; refine goesL_ (some 25) rfl rfl Try.func52 (by kernel_rfl) rfl #[.slice (some ⟨gd48, 0, none⟩) t257.length co46, .int .i64 t260, .int .i64 (wrap64 (t260 + 1))] rfl (by (try simp only [List.map_toArray, List.map_cons, List.map_nil]); first | done | rfl) ?_; (with_reducible refine (impl_Entity_52.calls t257 t260 gd48 co46 _ w _ (by repeat (first | (with_reducible first | exact HB.out | apply below_alloc | apply pw_below_drewN | apply below_drew1 | refine below_set ?_ GE252.out | refine below_set ?_ GE253.out | refine below_set ?_ GE261.out) | exact HB.out)) (by (with_reducible repeat (first | apply Kd.S_alloc | apply Kd.S_drewN | apply Kd.S_drew)); exact HO259.out) hj_ hl_).mono ?_); rintro e w47 ⟨rfl, ho, hb, hg⟩; refine ⟨_, rfl, ?_⟩; clear hj_ hl_; rw [← Ny262.out] at ho; have hn_ : t257.length - 1 = y262.length := (by have := (Kd.S_reads' ho).1; omega); rw [hn_] at ho ⊢; clear hn_; have n0_ := Aside0.mk (blk_grown (g := gb252) (o := .cells #[.int .i64 a0_0, .int .i64 a0_1, .slice A0_2 l0_2.length c0_2] 28 (0, 0)) (by (with_reducible repeat (first | refine blk_drewN ?_ _ | refine blk_drew ?_ | refine blk_alloc ?_ _)); exact BK252.out) hg (Kd.S_ne HO259.out BK252.out (by decide))); have n1_ := Aside0.mk (blk_grown (g := gb253) (o := .cells #[.int .i64 0, .int .i64 0, .slice none 0 0] 28 (0, 0)) (by (with_reducible repeat (first | refine blk_drewN ?_ _ | refine blk_drew ?_ | refine blk_alloc ?_ _)); exact BK253.out) hg (Kd.S_ne HO259.out BK253.out (by decide))); have n2_ := Aside0.mk (ho); have n3_ := Aside0.mk (blk_grown (g := gb261) (o := .cells #[.int .i64 t255, .int .i64 t256, .slice (some ⟨gd48, 0, none⟩) t257.length co46] 28 (0, 0)) (by (with_reducible repeat (first | refine blk_drewN ?_ _ | refine blk_drew ?_ | refine blk_alloc ?_ _)); exact BK261.out) hg (Kd.S_ne HO259.out BK261.out (by decide))); have n4_ := Aside0.mk (hb); clear BK252; clear BK253; clear HO259; clear BK261; clear HB; have BK252 := n0_; have BK253 := n1_; have HO259 := n2_; have BK261 := n3_; have HB := n4_; clear n0_ n1_ n2_ n3_ n4_; clear ho hb hg; have hcz49_0 : w47.cell? ⟨gb261, 0, none⟩ = some (.int .i64 t255) := (blk_cell BK261.out 0).trans rfl; have hcz49_1 : w47.cell? ⟨gb261, 1, none⟩ = some (.int .i64 t256) := (blk_cell BK261.out 1).trans rfl; have hcz49_2 : w47.cell? ⟨gb261, 2, none⟩ = some (.slice (some ⟨gd48, 0, none⟩) t257.length co46) := (blk_cell BK261.out 2).trans rfl; have hfz49_0 := blk_frozen BK261.out 0; have hfz49_1 := blk_frozen BK261.out 1; have hfz49_2 := blk_frozen BK261.out 2; have hcz50_0 : w47.cell? ⟨gb253, 0, none⟩ = some (.int .i64 0) := (blk_cell BK253.out 0).trans rfl; have hcz50_1 : w47.cell? ⟨gb253, 1, none⟩ = some (.int .i64 0) := (blk_cell BK253.out 1).trans rfl; have hcz50_2 : w47.cell? ⟨gb253, 2, none⟩ = some (.slice none 0 0) := (blk_cell BK253.out 2).trans rfl; have hfz50_0 := blk_frozen BK253.out 0; have hfz50_1 := blk_frozen BK253.out 1; have hfz50_2 := blk_frozen BK253.out 2))
     refine bodyPost_ret (results_ct rfl _ _ gb253 28 #[.int .i64 t255, .int .i64 t256, .slice (some ⟨gd48, 0, none⟩) y262.length co46] (0, 0) _ rfl (by (with_reducible repeat (first | refine blk_drewN ?_ _ | refine blk_drew ?_ | refine blk_alloc ?_ _)); refine blk_put (cs := #[.int .i64 t255, .int .i64 t256, .slice none 0 0]) ?_ 2 _ rfl; (with_reducible repeat (first | refine blk_drewN ?_ _ | refine blk_drew ?_ | refine blk_alloc ?_ _)); refine blk_put (cs := #[.int .i64 t255, .int .i64 0, .slice none 0 0]) ?_ 1 _ rfl; (with_reducible repeat (first | refine blk_drewN ?_ _ | refine blk_drew ?_ | refine blk_alloc ?_ _)); refine blk_put (cs := #[.int .i64 0, .int .i64 0, .slice none 0 0]) ?_ 0 _ rfl; (with_reducible repeat (first | refine blk_drewN ?_ _ | refine blk_drew ?_ | refine blk_alloc ?_ _)); refine blk_far ?_ NB253_261.out _; (with_reducible repeat (first | refine blk_drewN ?_ _ | refine blk_drew ?_ | refine blk_alloc ?_ _)); exact BK253.out) Try.underlying28 rfl (by kernel_rfl)) rfl ?_
     exact ⟨_, by first | rfl | (simp [errW_none, errW_some] <;> rfl) | (simp [*, errW_none, errW_some] <;> rfl), by (with_reducible repeat (first | apply Kd.S_alloc | apply Kd.S_drewN | apply Kd.S_drew)); exact Kd.S_mono (Kd.S_far (p := ⟨gb253, 2, none⟩) (Kd.S_far (p := ⟨gb253, 1, none⟩) (Kd.S_far (p := ⟨gb253, 0, none⟩) (Kd.S_far (p := ⟨gb261, 2, none⟩) (Kd.S_types (Kd.S_types HO259.out BK261.out (by decide)) BK253.out (by decide)) (fun _ hk => hk.1.2) (.slice (some ⟨gd48, 0, none⟩) y262.length co46)) (fun _ hk => hk.2) (.int .i64 t255)) (fun _ hk => hk.2) (.int .i64 t256)) (fun _ hk => hk.2) (.slice (some ⟨gd48, 0, none⟩) y262.length co46)) (fun _ hk => trivial), by repeat (first | (with_reducible first | exact HB.out | apply below_alloc | apply pw_below_drewN | apply below_drew1 | refine below_set ?_ GE252.out | refine below_set ?_ GE253.out | refine below_set ?_ GE261.out) | exact HB.out)⟩
    ·rw [if_neg c28] at H
     exact absurd H (by simp)
   ·rw [if_neg c27] at H
    exact absurd H (by simp)
 ·replace c4 := Bool.eq_false_iff.mpr c4
  subst c4
  have H1 : (some (0, 0, ([] : List (S76)), 1)) = some (r1, r2, r3, r4) := by rw [if_neg (show ¬ (false = true) by decide)] at H; exact H
  clear H
  have H := H1
  clear H1
  simp only [Option.some.injEq, Prod.mk.injEq] at H
  obtain ⟨rfl, rfl, rfl, rfl⟩ := H
  go_enter Try.func17, Try.ntmps17
  go_wp2_with (first | ((with_reducible refine gate_dst (N := 2) rfl ?_); refine box_event ?hg (N := 2) ?hd (cs := #[.int .i64 a0_0, .int .i64 a0_1, .slice A0_2 l0_2.length c0_2]) (t := 28) ?hr ?_; (case hd => rfl); (case hg => rfl); (case hr => first | (go_simp; done) | (go_simp; rfl)); intro gb252 hg w51 hbox hb; have n0_ := Aside0.mk (below_step (by repeat (first | (with_reducible first | exact HB.out | apply below_alloc | apply pw_below_drewN | apply below_drew1) | exact HB.out)) hb); have n1_ := Aside0.mk (hbox); have n2_ := Aside0.mk ((by rw [hg]; exact (below_size (by repeat (first | (with_reducible first | exact HB.out | apply below_alloc | apply pw_below_drewN | apply below_drew1) | exact HB.out))) : w.heap.size ≤ gb252)); have n3_ := Aside0.mk ((by rw [hg]; exact (below_size (by repeat (first | (with_reducible first | exact HB.out | apply below_alloc | apply pw_below_drewN | apply below_drew1) | exact HB.out))) : w.heap.size ≤ gb252)); clear HB; have HB := n0_; have BK252 := n1_; have GW252 := n2_; have GE252 := n3_; clear n0_ n1_ n2_ n3_; clear hb hbox hg) | ((with_reducible refine gate_dst (N := 4) rfl ?_); refine box_event ?hg (N := 4) ?hd (cs := #[.int .i64 0, .int .i64 0, .slice none 0 0]) (t := 28) ?hr ?_; (case hd => rfl); (case hg => rfl); (case hr => first | (go_simp; done) | (go_simp; rfl)); intro gb253 hg w52 hbox hb; have n0_ := Aside0.mk (blk_below (g := gb252) (o := .cells #[.int .i64 a0_0, .int .i64 a0_1, .slice A0_2 l0_2.length c0_2] 28 (0, 0)) (by (with_reducible repeat (first | refine blk_drewN ?_ _ | refine blk_drew ?_ | refine blk_alloc ?_ _)); exact BK252.out) hb); have n1_ := Aside0.mk (below_step (by repeat (first | (with_reducible first | exact HB.out | apply below_alloc | apply pw_below_drewN | apply below_drew1 | refine below_set ?_ GE252.out) | exact HB.out)) hb); have n2_ := Aside0.mk (hbox); have n3_ := Aside0.mk ((by rw [hg]; exact (below_size (by repeat (first | (with_reducible first | exact HB.out | apply below_alloc | apply pw_below_drewN | apply below_drew1 | refine below_set ?_ GE252.out) | exact HB.out))) : w.heap.size ≤ gb253)); have n4_ := Aside0.mk ((by rw [hg]; exact (below_size (by repeat (first | (with_reducible first | exact HB.out | apply below_alloc | apply pw_below_drewN | apply below_drew1 | refine below_set ?_ GE252.out) | exact HB.out))) : w.heap.size ≤ gb253)); have n5_ := Aside0.mk ((by rw [hg]; exact Nat.ne_of_lt (blk_lt (g := gb252) (o := .cells #[.int .i64 a0_0, .int .i64 a0_1, .slice A0_2 l0_2.length c0_2] 28 (0, 0)) (by (with_reducible repeat (first | refine blk_drewN ?_ _ | refine blk_drew ?_ | refine blk_alloc ?_ _)); exact BK252.out)) : gb252 ≠ gb253)); have n6_ := Aside0.mk ((by rw [hg]; exact Nat.ne_of_gt (blk_lt (g := gb252) (o := .cells #[.int .i64 a0_0, .int .i64 a0_1, .slice A0_2 l0_2.length c0_2] 28 (0, 0)) (by (with_reducible repeat (first | refine blk_drewN ?_ _ | refine blk_drew ?_ | refine blk_alloc ?_ _)); exact BK252.out)) : gb253 ≠ gb252)); clear BK252; clear HB; have BK252 := n0_; have HB := n1_; have BK253 := n2_; have GW253 := n3_; have GE253 := n4_; have NB252_253 := n5_; have NB253_252 := n6_; clear n0_ n1_ n2_ n3_ n4_ n5_ n6_; clear hb hbox hg; have hnb53 := NB252_253.out; have hnc53 := NB253_252.out; have hcz54_0 : w52.cell? ⟨gb252, 0, none⟩ = some (.int .i64 a0_0) := (blk_cell BK252.out 0).trans rfl; have hcz54_1 : w52.cell? ⟨gb252, 1, none⟩ = some (.int .i64 a0_1) := (blk_cell BK252.out 1).trans rfl; have hcz54_2 : w52.cell? ⟨gb252, 2, none⟩ = some (.slice A0_2 l0_2.length c0_2) := (blk_cell BK252.out 2).trans rfl; have hfz54_0 := blk_frozen BK252.out 0; have hfz54_1 := blk_frozen BK252.out 1; have hfz54_2 := blk_frozen BK252.out 2) | ((with_reducible refine gate_callee (f := 45) rfl ?_); refine goesL_ (some 9) rfl rfl Try.func45 (by kernel_rfl) rfl #[.agg #[.int .i64 a0_0, .int .i64 a0_1, .slice A0_2 l0_2.length c0_2]] rfl (by (try simp only [List.map_toArray, List.map_cons, List.map_nil]); first | done | rfl | (simp only [List.length_drop, List.length_take]; rfl)) ?_; (with_reducible refine (impl_GoodWorld.calls k a0_0 a0_1 _ _ l0_2 false _ ?side1 ?side2 A3.out).mono ?_); (case side1 => repeat (first | exact (Kd.C_below HR0_2.out HB.out) | (with_reducible refine Kd.C_alloc ?_ _) | (with_reducible refine Kd.C_drewN ?_ _) | (with_reducible refine Kd.C_drew ?_))); (case side2 => exact HC0_2.out); rintro e w55 ⟨rfl, hb⟩; refine ⟨_, rfl, ?_⟩; have n0_ := Aside0.mk (blk_below (g := gb252) (o := .cells #[.int .i64 a0_0, .int .i64 a0_1, .slice A0_2 l0_2.length c0_2] 28 (0, 0)) (by (with_reducible repeat (first | refine blk_drewN ?_ _ | refine blk_drew ?_ | refine blk_alloc ?_ _)); exact BK252.out) hb); have n1_ := Aside0.mk (blk_below (g := gb253) (o := .cells #[.int .i64 0, .int .i64 0, .slice none 0 0] 28 (0, 0)) (by (with_reducible repeat (first | refine blk_drewN ?_ _ | refine blk_drew ?_ | refine blk_alloc ?_ _)); exact BK253.out) hb); have n2_ := Aside0.mk (below_step (by repeat (first | (with_reducible first | exact HB.out | apply below_alloc | apply pw_below_drewN | apply below_drew1 | refine below_set ?_ GE252.out | refine below_set ?_ GE253.out) | exact HB.out)) hb); clear BK252; clear BK253; clear HB; have BK252 := n0_; have BK253 := n1_; have HB := n2_; clear n0_ n1_ n2_; (try clear hb); (try clear hb2); (try clear hk); (try clear hi); have hcz56_0 : w55.cell? ⟨gb253, 0, none⟩ = some (.int .i64 0) := (blk_cell BK253.out 0).trans rfl; have hcz56_1 : w55.cell? ⟨gb253, 1, none⟩ = some (.int .i64 0) := (blk_cell BK253.out 1).trans rfl; have hcz56_2 : w55.cell? ⟨gb253, 2, none⟩ = some (.slice none 0 0) := (blk_cell BK253.out 2).trans rfl; have hfz56_0 := blk_frozen BK253.out 0; have hfz56_1 := blk_frozen BK253.out 1; have hfz56_2 := blk_frozen BK253.out 2))
  refine bodyPost_ret (results_ct rfl _ _ gb253 28 #[.int .i64 0, .int .i64 0, .slice none 0 0] (0, 0) _ rfl (by (with_reducible repeat (first | refine blk_drewN ?_ _ | refine blk_drew ?_ | refine blk_alloc ?_ _)); refine blk_put (cs := #[.int .i64 0, .int .i64 0, .slice none 0 0]) ?_ 2 _ rfl; (with_reducible repeat (first | refine blk_drewN ?_ _ | refine blk_drew ?_ | refine blk_alloc ?_ _)); refine blk_put (cs := #[.int .i64 0, .int .i64 0, .slice none 0 0]) ?_ 1 _ rfl; (with_reducible repeat (first | refine blk_drewN ?_ _ | refine blk_drew ?_ | refine blk_alloc ?_ _)); refine blk_put (cs := #[.int .i64 0, .int .i64 0, .slice none 0 0]) ?_ 0 _ rfl; (with_reducible repeat (first | refine blk_drewN ?_ _ | refine blk_drew ?_ | refine blk_alloc ?_ _)); exact BK253.out) Try.underlying28 rfl (by kernel_rfl)) rfl ?_
  exact ⟨_, by first | rfl | (simp [errW_none, errW_some] <;> rfl) | (simp [*, errW_none, errW_some] <;> rfl), by first | exact Kd.S_nil _ _ _ _ _ | exact Kd.N_nil _ _ _ _ _ | exact Kd.V_nil _ _ _ _ _ | exact Kd.Q_nil _ _ _ _ _ | exact Kd.R_nil _ _ _ _ _, by repeat (first | (with_reducible first | exact HB.out | apply below_alloc | apply pw_below_drewN | apply below_drew1 | refine below_set ?_ GE252.out | refine below_set ?_ GE253.out) | exact HB.out)⟩

end Go.Proofs.Ytjbkagmfkcoclaa.XFnExactDespawn

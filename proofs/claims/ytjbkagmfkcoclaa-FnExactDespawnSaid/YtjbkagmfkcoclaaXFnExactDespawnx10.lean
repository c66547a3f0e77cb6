-- Lean text written by a program of this session out of the translation
import Derived.Test.YtjbkagmfkcoclaaXFnExactDespawnx0
namespace Go.Proofs.Ytjbkagmfkcoclaa.XFnExactDespawn
open Go.RowKit Go.Proofs.YtjbkagmfkcoclaaW.PrintWords Go.Proofs.YtjbkagmfkcoclaaW.PrintLast Go.Proofs.YtjbkagmfkcoclaaW.PrintMore
attribute [local go_sem] max2_int min2_int max_two min_two max_three min_three max_four min_four   -- for this text's walks alone
set_option linter.unusedVariables false
set_option linter.unusedSimpArgs false

/-! ### impl_Part: function 91 -/
def impl_Part.f (l0 : List (S91)) : Option (List (S91)) := if l0.length < 4398046511104 then (some l0) else (none)
set_option maxHeartbeats 8000000 in
set_option maxRecDepth 100000 in
theorem impl_Part.calls (A0 : Option Addr) (c0 : Nat) (l0 : List (S91)) (r : List (S91)) (w : World) (hr0 : Kd.C k91 w A0 l0.length l0) (hc0 : l0.length ≤ c0) (h : impl_Part.f l0 = some r) :
    Calls Try.prog 91 #[.slice A0 l0.length c0] w fun e w' => ∃ v0_ : Value, e = .returned (v0_) ∧ Kd.R k91 91 w' w.heap.size (fun _ => True) v0_ r ∧ Below w.heap.size w w' := by
  unfold impl_Part.f at h
  by_cases hlim : l0.length < 4398046511104
  · rw [if_pos hlim] at h
    obtain rfl := Option.some.inj h
    have HLIM := Aside0.mk hlim
    have HR0 := Aside0.mk hr0
    clear hlim h hr0
    have hnil := fun (W : World) => Go.Lib.run_eql_slice_nil (P := Try.prog) W 74 91 A0 l0.length c0 0 0 Try.underlying74
    cases A0 with
    | none =>
      have hl0 : l0 = [] := by
        have h3 := HR0.out.2.2
        rcases Nat.eq_zero_or_pos l0.length with h4 | h4
        · exact List.eq_nil_of_length_eq_zero h4
        · obtain ⟨ad, h5, _⟩ := h3 h4
          cases h5
      have HL0 := Aside0.mk hl0
      clear hl0
      go_enter Try.func91, Try.ntmps91
      go_wp2
      go_ret
      exact ⟨_, rfl, by rw [HL0.out]; exact Kd.R_nil _ _ _ _ _, Below.refl _ _⟩
    | some ad =>
      have HB := Aside0.mk (Below.refl w.heap.size w)
      obtain ⟨y1, hy1⟩ : ∃ y_ : List (S91), y_ = [] := ⟨_, rfl⟩
      have Ny1 := Aside0.mk hy1
      clear hy1
      go_enter Try.func91, Try.ntmps91
      go_wp2_with (first | ((with_reducible refine gate_dst (N := 5) rfl ?_); refine Kd.R_lit k91 _ 91 ?hg (N := 5) ?hd (xs := ([] : List (S91))) (inner := []) (ok := fun _ => True) (okp := fun _ => True) ?hr ?hp (fun _ hk => hk) trivial (Below.refl _ _) (Nat.le_refl _) (by simp) ?_; (case hd => rfl); (case hg => rfl); (case hr => first | (go_simp; done) | (go_simp; rfl)); (case hp => exact (Reps.none _ _)); intro v1 w1 ho1 hb hg_ hnew_; clear hg_ hnew_; rw [← Ny1.out] at ho1; have n0_ := Aside0.mk (Kd.R_lower ho1 (below_size (by repeat (first | (with_reducible first | exact HB.out | apply below_alloc | apply pw_below_drewN | apply below_drew1) | exact HB.out)))); have n1_ := Aside0.mk (below_step (by repeat (first | (with_reducible first | exact HB.out | apply below_alloc | apply pw_below_drewN | apply below_drew1) | exact HB.out)) hb); clear HB; have HO1 := n0_; have HB := n1_; clear n0_ n1_; clear hb ho1) | ((with_reducible refine gate_builtin (b := .append) (xs := #[.tmp 5, .tmp 6]) rfl ?_); at_builtin; refine Kd.R_append_rows k91 (w0 := w) w.heap.size rfl (.tmp 5) (.tmp 6) 74 91 (.agg #[(.string ⟨#[]⟩), (.int .i64 0), (.int .i64 0)]) 32 rfl Try.underlying74 info91 rfl (by decide) (by omega) v1 y1 l0 _ _ _ (fun _ => True) (fun _ => False) rfl rfl ?aO ?aR (fun _ _ h => h) (fun _ h => h.elim) ?aF ?aB ?aS ?aL ?_; (case aR => repeat (first | exact (Kd.C_below HR0.out HB.out) | (with_reducible refine Kd.C_alloc ?_ _) | (with_reducible refine Kd.C_drewN ?_ _) | (with_reducible refine Kd.C_drew ?_))); (case aB => exact (by repeat (first | (with_reducible first | exact HB.out | apply below_alloc | apply pw_below_drewN | apply below_drew1) | exact HB.out))); (case aF => exact (fun _ _ => trivial)); (case aO => exact (by (with_reducible repeat (first | apply Kd.R_alloc | apply Kd.R_drewN | apply Kd.R_drew)); exact HO1.out)); (case aS => exact (below_size (by repeat (first | (with_reducible first | exact HB.out | apply below_alloc | apply pw_below_drewN | apply below_drew1) | exact HB.out)))); (case aL => have := HLIM.out; have e_ := congrArg List.length Ny1.out; simp only [List.length_nil] at e_; omega); intro v2 w2 ho hb hg hat; rw [Ny1.out, List.nil_append] at ho; clear hg hat; have HO2 := Aside0.mk ho; clear HB; have HB := Aside0.mk hb; clear ho hb))
      go_ret
      exact ⟨v2, by first | rfl | (simp; done), HO2.out, HB.out⟩
  · rw [if_neg hlim] at h
    cases h

/-! ### impl_World_clone: function 46 -/
def impl_World_clone.l0 : Nat → List (S76) → Int → Int → Int → Int → List (S76) → Option (Int × Int × (List (S76)))
 | 0, _, _, _, _, _, _ => none
 | k + 1, x12, x13, x14, x244000, x244001, x244002 => if x14 < x13 then (if 0 ≤ x14 then (if x14 < (x12.length : Int) then ((impl_Part.f ((rd_T76 x12 x14).f1)).bind fun t246 => (if x244002.length < 4398046511104 then (impl_World_clone.l0 k x12 x13 (wrap64 (x14 + 1)) x244000 x244001 (x244002 ++ [(⟨(rd_T76 x12 x14).f0, t246⟩ : S76)])) else (none))) else (none)) else (none)) else (some (x244000, x244001, x244002))
def impl_World_clone.f (k : Nat) (a0_0 : Int) (a0_1 : Int) (l0_2 : List (S76)) : Option (Int × Int × (List (S76))) := impl_World_clone.l0 k l0_2 (l0_2.length : Int) 0 a0_0 a0_1 ([] : List (S76))
theorem impl_World_clone.mono_l : ∀ k, (∀ y0 y1 y2 y3 y4 y5, LeO (impl_World_clone.l0 k y0 y1 y2 y3 y4 y5) (impl_World_clone.l0 (k + 1) y0 y1 y2 y3 y4 y5))
 | 0 => fun _ _ _ _ _ _ r h => by simp [impl_World_clone.l0] at h
 | k + 1 => by
  have ih0 := impl_World_clone.mono_l k
  ·intro y0 y1 y2 y3 y4 y5
   unfold impl_World_clone.l0
   repeat' first
   | (with_reducible exact ih0 _ _ _ _ _ _)
   | (with_reducible exact LeO.refl _)
   | (with_reducible exact LeO.none _)
   | (with_reducible refine LeO.ite ?_ ?_)
   | (with_reducible refine LeO.bind ?_ (fun _ => ?_))
   | exact ih0 _ _ _ _ _ _
   | exact LeO.none _
   | refine LeO.ite ?_ ?_
   | refine LeO.bind ?_ (fun _ => ?_)
theorem impl_World_clone.mono : ∀ a0 a1 a2 k, LeO (impl_World_clone.f k a0 a1 a2) (impl_World_clone.f (k + 1) a0 a1 a2) := by
 intro a0 a1 a2 k
 have ih0 := impl_World_clone.mono_l k
 unfold impl_World_clone.f
 repeat' first
   | (with_reducible exact ih0 _ _ _ _ _ _)
   | (with_reducible exact LeO.refl _)
   | (with_reducible exact LeO.none _)
   | (with_reducible refine LeO.ite ?_ ?_)
   | (with_reducible refine LeO.bind ?_ (fun _ => ?_))
   | exact ih0 _ _ _ _ _ _
   | exact LeO.none _
   | refine LeO.ite ?_ ?_
   | refine LeO.bind ?_ (fun _ => ?_)
def impl_World_clone.T5 : Bool × List (List Nat × List Nat) := (true, [([], []), ([0], [0]), ([], []), ([2], [2]), ([], []), ([4], [4]), ([5], [5]), ([3, 6], [3, 6]), ([7], [7]), ([1, 8, 6], [1, 8]), ([0, 1, 2, 3, 4, 5, 6, 7, 8, 9], []), ([10, 9, 9, 0, 1, 2, 3, 4, 5, 6, 7, 8, 9], [9, 10])])
def impl_World_clone.B5 : List Nat := [0, 1, 0, 4, 0, 16, 48, 124, 252, 511, 1023, 2047]
theorem impl_World_clone.tab5 : rtab .any (opsOf Try.f46 5) = impl_World_clone.T5 := by kernel_rfl
theorem impl_World_clone.bits5 : waitsOk impl_World_clone.T5.2 impl_World_clone.B5 = true := by kernel_rfl
set_option maxHeartbeats 8000000 in
set_option maxRecDepth 100000 in
theorem impl_World_clone.calls (k : Nat) (a0_0 : Int) (a0_1 : Int) (A0_2 : Option Addr) (c0_2 : Nat) (l0_2 : List (S76)) (r1 : Int) (r2 : Int) (r3 : List (S76)) (w : World) (hr0_2 : Kd.C k76 w A0_2 l0_2.length l0_2) (hc0_2 : l0_2.length ≤ c0_2) (h : impl_World_clone.f k a0_0 a0_1 l0_2 = some (r1, r2, r3)) :
  Calls Try.prog 46 #[.agg #[.int .i64 a0_0, .int .i64 a0_1, .slice A0_2 l0_2.length c0_2]] w fun e w' => ∃ v2_ : Value, e = .returned (.agg #[.int .i64 r1, .int .i64 r2, v2_]) ∧ Kd.S k76 76 w' w.heap.size (fun _ => True) v2_ r3 ∧ Below w.heap.size w w' := by
 have hu28 := Try.underlying28
 have hu76 := Try.underlying76
 have HR0_2 := Aside0.mk hr0_2
 have HC0_2 := Aside0.mk hc0_2
 clear hr0_2 hc0_2
 have HB := Aside0.mk (Below.refl w.heap.size w)
 have H : (impl_World_clone.l0 k l0_2 (l0_2.length : Int) 0 a0_0 a0_1 ([] : List (S76))) = some (r1, r2, r3) := h
 clear h
 have H' := Aside0.mk H
 clear H
 go_enter Try.func46, Try.ntmps46
 go_wp2_with (first | ((with_reducible refine gate_dst (N := 1) rfl ?_); refine box_event ?hg (N := 1) ?hd (cs := #[.int .i64 a0_0, .int .i64 a0_1, .slice A0_2 l0_2.length c0_2]) (t := 28) ?hr ?_; (case hd => rfl); (case hg => rfl); (case hr => first | (go_simp; done) | (go_simp; rfl)); intro gb241 hg w2 hbox hb; have n0_ := Aside0.mk (below_step (by repeat (first | (with_reducible first | exact HB.out | apply below_alloc | apply pw_below_drewN | apply below_drew1) | exact HB.out)) hb); have n1_ := Aside0.mk (hbox); have n2_ := Aside0.mk ((by rw [hg]; exact (below_size (by repeat (first | (with_reducible first | exact HB.out | apply below_alloc | apply pw_below_drewN | apply below_drew1) | exact HB.out))) : w.heap.size ≤ gb241)); have n3_ := Aside0.mk ((by rw [hg]; exact (below_size (by repeat (first | (with_reducible first | exact HB.out | apply below_alloc | apply pw_below_drewN | apply below_drew1) | exact HB.out))) : w.heap.size ≤ gb241)); clear HB; have HB := n0_; have BK241 := n1_; have GW241 := n2_; have GE241 := n3_; clear n0_ n1_ n2_ n3_; clear hb hbox hg) | ((with_reducible refine gate_dst (N := 2) rfl ?_); refine box_event ?hg (N := 2) ?hd (cs := #[.int .i64 0, .int .i64 0, .slice none 0 0]) (t := 28) ?hr ?_; (case hd => rfl); (case hg => rfl); (case hr => first | (go_simp; done) | (go_simp; rfl)); intro gb242 hg w3 hbox hb; have n0_ := Aside0.mk (blk_below (g := gb241) (o := .cells #[.int .i64 a0_0, .int .i64 a0_1, .slice A0_2 l0_2.length c0_2] 28 (0, 0)) (by (with_reducible repeat (first | refine blk_drewN ?_ _ | refine blk_drew ?_ | refine blk_alloc ?_ _)); exact BK241.out) hb); have n1_ := Aside0.mk (below_step (by repeat (first | (with_reducible first | exact HB.out | apply below_alloc | apply pw_below_drewN | apply below_drew1 | refine below_set ?_ GE241.out) | exact HB.out)) hb); have n2_ := Aside0.mk (hbox); have n3_ := Aside0.mk ((by rw [hg]; exact (below_size (by repeat (first | (with_reducible first | exact HB.out | apply below_alloc | apply pw_below_drewN | apply below_drew1 | refine below_set ?_ GE241.out) | exact HB.out))) : w.heap.size ≤ gb242)); have n4_ := Aside0.mk ((by rw [hg]; exact (below_size (by repeat (first | (with_reducible first | exact HB.out | apply below_alloc | apply pw_below_drewN | apply below_drew1 | refine below_set ?_ GE241.out) | exact HB.out))) : w.heap.size ≤ gb242)); have n5_ := Aside0.mk ((by rw [hg]; exact Nat.ne_of_lt (blk_lt (g := gb241) (o := .cells #[.int .i64 a0_0, .int .i64 a0_1, .slice A0_2 l0_2.length c0_2] 28 (0, 0)) (by (with_reducible repeat (first | refine blk_drewN ?_ _ | refine blk_drew ?_ | refine blk_alloc ?_ _)); exact BK241.out)) : gb241 ≠ gb242)); have n6_ := Aside0.mk ((by rw [hg]; exact Nat.ne_of_gt (blk_lt (g := gb241) (o := .cells #[.int .i64 a0_0, .int .i64 a0_1, .slice A0_2 l0_2.length c0_2] 28 (0, 0)) (by (with_reducible repeat (first | refine blk_drewN ?_ _ | refine blk_drew ?_ | refine blk_alloc ?_ _)); exact BK241.out)) : gb242 ≠ gb241)); clear BK241; clear HB; have BK241 := n0_; have HB := n1_; have BK242 := n2_; have GW242 := n3_; have GE242 := n4_; have NB241_242 := n5_; have NB242_241 := n6_; clear n0_ n1_ n2_ n3_ n4_ n5_ n6_; clear hb hbox hg; have hnb4 := NB241_242.out; have hnc4 := NB242_241.out; have hcz5_0 : w3.cell? ⟨gb241, 0, none⟩ = some (.int .i64 a0_0) := (blk_cell BK241.out 0).trans rfl; have hcz5_1 : w3.cell? ⟨gb241, 1, none⟩ = some (.int .i64 a0_1) := (blk_cell BK241.out 1).trans rfl; have hcz5_2 : w3.cell? ⟨gb241, 2, none⟩ = some (.slice A0_2 l0_2.length c0_2) := (blk_cell BK241.out 2).trans rfl; have hfz5_0 := blk_frozen BK241.out 0; have hfz5_1 := blk_frozen BK241.out 1; have hfz5_2 := blk_frozen BK241.out 2) | ((with_reducible refine gate_dst (N := 3) rfl ?_); refine box_event ?hg (N := 3) ?hd (cs := #[.int .i64 0, .int .i64 0, .slice none 0 0]) (t := 28) ?hr ?_; (case hd => rfl); (case hg => rfl); (case hr => first | (go_simp; done) | (go_simp; rfl)); intro gb243 hg w6 hbox hb; have n0_ := Aside0.mk (blk_below (g := gb241) (o := .cells #[.int .i64 a0_0, .int .i64 a0_1, .slice A0_2 l0_2.length c0_2] 28 (0, 0)) (by (with_reducible repeat (first | refine blk_drewN ?_ _ | refine blk_drew ?_ | refine blk_alloc ?_ _)); exact BK241.out) hb); have n1_ := Aside0.mk (blk_below (g := gb242) (o := .cells #[.int .i64 0, .int .i64 0, .slice none 0 0] 28 (0, 0)) (by (with_reducible repeat (first | refine blk_drewN ?_ _ | refine blk_drew ?_ | refine blk_alloc ?_ _)); exact BK242.out) hb); have n2_ := Aside0.mk (below_step (by repeat (first | (with_reducible first | exact HB.out | apply below_alloc | apply pw_below_drewN | apply below_drew1 | refine below_set ?_ GE241.out | refine below_set ?_ GE242.out) | exact HB.out)) hb); have n3_ := Aside0.mk (hbox); have n4_ := Aside0.mk ((by rw [hg]; exact (below_size (by repeat (first | (with_reducible first | exact HB.out | apply below_alloc | apply pw_below_drewN | apply below_drew1 | refine below_set ?_ GE241.out | refine below_set ?_ GE242.out) | exact HB.out))) : w.heap.size ≤ gb243)); have n5_ := Aside0.mk ((by rw [hg]; exact (below_size (by repeat (first | (with_reducible first | exact HB.out | apply below_alloc | apply pw_below_drewN | apply below_drew1 | refine below_set ?_ GE241.out | refine below_set ?_ GE242.out) | exact HB.out))) : w.heap.size ≤ gb243)); have n6_ := Aside0.mk ((by rw [hg]; exact Nat.ne_of_lt (blk_lt (g := gb241) (o := .cells #[.int .i64 a0_0, .int .i64 a0_1, .slice A0_2 l0_2.length c0_2] 28 (0, 0)) (by (with_reducible repeat (first | refine blk_drewN ?_ _ | refine blk_drew ?_ | refine blk_alloc ?_ _)); exact BK241.out)) : gb241 ≠ gb243)); have n7_ := Aside0.mk ((by rw [hg]; exact Nat.ne_of_gt (blk_lt (g := gb241) (o := .cells #[.int .i64 a0_0, .int .i64 a0_1, .slice A0_2 l0_2.length c0_2] 28 (0, 0)) (by (with_reducible repeat (first | refine blk_drewN ?_ _ | refine blk_drew ?_ | refine blk_alloc ?_ _)); exact BK241.out)) : gb243 ≠ gb241)); have n8_ := Aside0.mk ((by rw [hg]; exact Nat.ne_of_lt (blk_lt (g := gb242) (o := .cells #[.int .i64 0, .int .i64 0, .slice none 0 0] 28 (0, 0)) (by (with_reducible repeat (first | refine blk_drewN ?_ _ | refine blk_drew ?_ | refine blk_alloc ?_ _)); exact BK242.out)) : gb242 ≠ gb243)); have n9_ := Aside0.mk ((by rw [hg]; exact Nat.ne_of_gt (blk_lt (g := gb242) (o := .cells #[.int .i64 0, .int .i64 0, .slice none 0 0] 28 (0, 0)) (by (with_reducible repeat (first | refine blk_drewN ?_ _ | refine blk_drew ?_ | refine blk_alloc ?_ _)); exact BK242.out)) : gb243 ≠ gb242)); clear BK241; clear BK242; clear HB; have BK241 := n0_; have BK242 := n1_; have HB := n2_; have BK243 := n3_; have GW243 := n4_; have GE243 := n5_; have NB241_243 := n6_; have NB243_241 := n7_; have NB242_243 := n8_; have NB243_242 := n9_; clear n0_ n1_ n2_ n3_ n4_ n5_ n6_ n7_ n8_ n9_; clear hb hbox hg; have hnb7 := NB243_241.out; have hnc7 := NB241_243.out; have hnb8 := NB243_242.out; have hnc8 := NB242_243.out; have hcz9_0 : w6.cell? ⟨gb243, 0, none⟩ = some (.int .i64 0) := (blk_cell BK243.out 0).trans rfl; have hcz9_1 : w6.cell? ⟨gb243, 1, none⟩ = some (.int .i64 0) := (blk_cell BK243.out 1).trans rfl; have hcz9_2 : w6.cell? ⟨gb243, 2, none⟩ = some (.slice none 0 0) := (blk_cell BK243.out 2).trans rfl; have hfz9_0 := blk_frozen BK243.out 0; have hfz9_1 := blk_frozen BK243.out 1; have hfz9_2 := blk_frozen BK243.out 2; have hcz10_0 : w6.cell? ⟨gb241, 0, none⟩ = some (.int .i64 a0_0) := (blk_cell BK241.out 0).trans rfl; have hcz10_1 : w6.cell? ⟨gb241, 1, none⟩ = some (.int .i64 a0_1) := (blk_cell BK241.out 1).trans rfl; have hcz10_2 : w6.cell? ⟨gb241, 2, none⟩ = some (.slice A0_2 l0_2.length c0_2) := (blk_cell BK241.out 2).trans rfl; have hfz10_0 := blk_frozen BK241.out 0; have hfz10_1 := blk_frozen BK241.out 1; have hfz10_2 := blk_frozen BK241.out 2))
 go_loopg [14] k (fun kq v14 w' => ∃ (x14_1 : Int) (x244002_1 : List (S76)) (u244002 : Value), v14 = .int .i64 x14_1 ∧ Aside0 (impl_World_clone.l0 kq l0_2 (l0_2.length : Int) x14_1 a0_0 a0_1 x244002_1 = some (r1, r2, r3)) ∧ Aside0 (kq ≤ k) ∧ Aside0 (Kd.S k76 76 w' w.heap.size (fun _ => True) u244002 x244002_1) ∧ Aside0 (w'.heap[gb241]? = some (.cells #[.int .i64 a0_0, .int .i64 a0_1, (.slice A0_2 l0_2.length c0_2)] 28 (0, 0))) ∧ Aside0 (w'.heap[gb242]? = some (.cells #[.int .i64 0, .int .i64 0, (.slice none 0 0)] 28 (0, 0))) ∧ Aside0 (w'.heap[gb243]? = some (.cells #[.int .i64 a0_0, .int .i64 a0_1, u244002] 28 (0, 0))) ∧ Aside0 (Below w.heap.size w w'))
 case atStart => exact ⟨(0), (([] : List (S76))), (.slice none 0 0), (by first | rfl | (simp; done) | (simp [*]; done)), H', ⟨Nat.le_refl _⟩, ⟨by first | exact Kd.S_nil _ _ _ _ _ | exact Kd.N_nil _ _ _ _ _ | exact Kd.V_nil _ _ _ _ _ | exact Kd.Q_nil _ _ _ _ _ | exact Kd.R_nil _ _ _ _ _⟩, ⟨by (with_reducible repeat (first | refine blk_drewN ?_ _ | refine blk_drew ?_ | refine blk_alloc ?_ _)); refine blk_far ?_ NB241_243.out _; (with_reducible repeat (first | refine blk_drewN ?_ _ | refine blk_drew ?_ | refine blk_alloc ?_ _)); refine blk_far ?_ NB241_243.out _; (with_reducible repeat (first | refine blk_drewN ?_ _ | refine blk_drew ?_ | refine blk_alloc ?_ _)); refine blk_far ?_ NB241_243.out _; (with_reducible repeat (first | refine blk_drewN ?_ _ | refine blk_drew ?_ | refine blk_alloc ?_ _)); exact BK241.out⟩, ⟨by (with_reducible repeat (first | refine blk_drewN ?_ _ | refine blk_drew ?_ | refine blk_alloc ?_ _)); refine blk_far ?_ NB242_243.out _; (with_reducible repeat (first | refine blk_drewN ?_ _ | refine blk_drew ?_ | refine blk_alloc ?_ _)); refine blk_far ?_ NB242_243.out _; (with_reducible repeat (first | refine blk_drewN ?_ _ | refine blk_drew ?_ | refine blk_alloc ?_ _)); refine blk_far ?_ NB242_243.out _; (with_reducible repeat (first | refine blk_drewN ?_ _ | refine blk_drew ?_ | refine blk_alloc ?_ _)); exact BK242.out⟩, ⟨by (with_reducible repeat (first | refine blk_drewN ?_ _ | refine blk_drew ?_ | refine blk_alloc ?_ _)); refine blk_put (cs := #[.int .i64 a0_0, .int .i64 a0_1, .slice none 0 0]) ?_ 2 _ rfl; (with_reducible repeat (first | refine blk_drewN ?_ _ | refine blk_drew ?_ | refine blk_alloc ?_ _)); refine blk_put (cs := #[.int .i64 a0_0, .int .i64 0, .slice none 0 0]) ?_ 1 _ rfl; (with_reducible repeat (first | refine blk_drewN ?_ _ | refine blk_drew ?_ | refine blk_alloc ?_ _)); refine blk_put (cs := #[.int .i64 0, .int .i64 0, .slice none 0 0]) ?_ 0 _ rfl; (with_reducible repeat (first | refine blk_drewN ?_ _ | refine blk_drew ?_ | refine blk_alloc ?_ _)); exact BK243.out⟩, ⟨by repeat (first | (with_reducible first | exact HB.out | apply below_alloc | apply pw_below_drewN | apply below_drew1 | refine below_set ?_ GE241.out | refine below_set ?_ GE242.out | refine below_set ?_ GE243.out) | exact HB.out)⟩⟩
 case round =>
  clear H'
  try clear p2
  try clear c4
  try clear c7
  try clear c8
  try clear hcz10_0
  try clear hcz10_1
  try clear hcz10_2
  try clear hcz5_0
  try clear hcz5_1
  try clear hcz5_2
  try clear hcz9_0
  try clear hcz9_1
  try clear hcz9_2
  try clear hfz10_0
  try clear hfz10_1
  try clear hfz10_2
  try clear hfz5_0
  try clear hfz5_1
  try clear hfz5_2
  try clear hfz9_0
  try clear hfz9_1
  try clear hfz9_2
  obtain ⟨x14_1, x244002_1, u244002, rfl, HA, HK1, HO_244002, BK241, BK242, BK243, HB⟩ := hrel
  cases gk with
  | zero => exact absurd HA.out (by simp [impl_World_clone.l0])
  | succ k1 =>
   have H := HA.out
   clear HA
   simp only [impl_World_clone.l0] at H
   by_cases c11 : x14_1 < (l0_2.length : Int)
   ·rw [if_pos c11] at H
    have c11b0 : decide (x14_1 < (l0_2.length : Int)) = true := decide_eq_true c11
    clear c11
    by_cases c12 : 0 ≤ x14_1
    ·rw [if_pos c12] at H
     have c12b0 : decide (0 ≤ x14_1) = true := decide_eq_true c12
     clear c12
     by_cases c13 : x14_1 < (l0_2.length : Int)
     ·rw [if_pos c13] at H
      have c13b0 : decide (x14_1 < (l0_2.length : Int)) = true := decide_eq_true c13
      clear c13
      replace H := Option.bind_eq_some_iff.mp H
      obtain ⟨t246, A140, H⟩ := H
      replace H : (if x244002_1.length < 4398046511104 then (impl_World_clone.l0 k1 l0_2 (l0_2.length : Int) (wrap64 (x14_1 + 1)) a0_0 a0_1 (x244002_1 ++ [(⟨(rd_T76 l0_2 x14_1).f0, t246⟩ : S76)])) else (none)) = some (r1, r2, r3) := H
      have A14 := Aside0.mk A140
      clear A140
      by_cases c15 : x244002_1.length < 4398046511104
      ·rw [if_pos c15] at H
       have LMc15 := Aside0.mk c15
       clear c15
       obtain ⟨y249, hy249⟩ : ∃ y_ : List (S76), y_ = (x244002_1 ++ [(⟨(rd_T76 l0_2 x14_1).f0, t246⟩ : S76)]) := ⟨_, rfl⟩
       replace H : (impl_World_clone.l0 k1 l0_2 (l0_2.length : Int) (wrap64 (x14_1 + 1)) a0_0 a0_1 y249) = some (r1, r2, r3) := by first | (rw [hy249]; with_reducible exact H) | (have H2_ := (Option.bind_some _ _).symm.trans H; rw [hy249]; with_reducible exact H2_) | (have H2_ := (Option.bind_some _ _).symm.trans H; with_reducible exact H2_) | with_reducible exact H | (rw [hy249]; exact H) | exact H
       have Ny249 := Aside0.mk hy249
       clear hy249
       have H' := Aside0.mk H
       clear H
       have p244 : 0 ≤ (x14_1 : Int) := of_decide_eq_true (by first | (with_reducible assumption) | assumption)
       have q244 : x14_1 < (l0_2.length : Int) := of_decide_eq_true (by first | (with_reducible assumption) | assumption)
       obtain ⟨ad244, A244_1, c244_1, e244, hx244_0, hx244_1, hl244_1, hi244_1⟩ := at_T76 HR0_2.out x14_1 p244 q244
       cases e244
       replace hx244_0 := (HB.out.cell (World.block_lt_of_cell? w _ hx244_0)).trans hx244_0
       replace hx244_1 := (HB.out.cell (World.block_lt_of_cell? w _ hx244_1)).trans hx244_1
       have HR244_1 := Aside0.mk hi244_1
       have HC244_1 := Aside0.mk hl244_1
       clear hi244_1 hl244_1
       replace p244 := eq_true p244
       replace q244 := eq_true q244
       try go_wp2_with (first | ((with_reducible refine gate_dst (N := 5) rfl ?_); refine box_event ?hg (N := 5) ?hd (cs := #[.int .i64 0, .slice none 0 0]) (t := 76) ?hr ?_; (case hd => rfl); (case hg => rfl); (case hr => first | (go_simp; done) | (go_simp; rfl)); intro gb245 hg w16 hbox hb; have n0_ := Aside0.mk (Kd.S_below (Kd.S_elderB (by (with_reducible repeat (first | apply Kd.S_alloc | apply Kd.S_drewN | apply Kd.S_drew)); exact HO_244002.out) gb245 (Nat.le_of_eq hg.symm)) hb); have n1_ := Aside0.mk (blk_below (g := gb241) (o := .cells #[.int .i64 a0_0, .int .i64 a0_1, .slice (some ad244) l0_2.length c0_2] 28 (0, 0)) (by (with_reducible repeat (first | refine blk_drewN ?_ _ | refine blk_drew ?_ | refine blk_alloc ?_ _)); exact BK241.out) hb); have n2_ := Aside0.mk (blk_below (g := gb242) (o := .cells #[.int .i64 0, .int .i64 0, .slice none 0 0] 28 (0, 0)) (by (with_reducible repeat (first | refine blk_drewN ?_ _ | refine blk_drew ?_ | refine blk_alloc ?_ _)); exact BK242.out) hb); have n3_ := Aside0.mk (blk_below (g := gb243) (o := .cells #[.int .i64 a0_0, .int .i64 a0_1, u244002] 28 (0, 0)) (by (with_reducible repeat (first | refine blk_drewN ?_ _ | refine blk_drew ?_ | refine blk_alloc ?_ _)); exact BK243.out) hb); have n4_ := Aside0.mk (below_step (by repeat (first | (with_reducible first | exact HB.out | apply below_alloc | apply pw_below_drewN | apply below_drew1 | refine below_set ?_ GE241.out | refine below_set ?_ GE242.out | refine below_set ?_ GE243.out) | exact HB.out)) hb); have n5_ := Aside0.mk (hbox); have n6_ := Aside0.mk ((by rw [hg]; exact (below_size (by repeat (first | (with_reducible first | exact HB.out | apply below_alloc | apply pw_below_drewN | apply below_drew1 | refine below_set ?_ GE241.out | refine below_set ?_ GE242.out | refine below_set ?_ GE243.out) | exact HB.out))) : w.heap.size ≤ gb245)); have n7_ := Aside0.mk ((by rw [hg]; exact (below_size (by repeat (first | (with_reducible first | exact HB.out | apply below_alloc | apply pw_below_drewN | apply below_drew1 | refine below_set ?_ GE241.out | refine below_set ?_ GE242.out | refine below_set ?_ GE243.out) | exact HB.out))) : w.heap.size ≤ gb245)); have n8_ := Aside0.mk ((by rw [hg]; exact Nat.ne_of_lt (blk_lt (g := gb241) (o := .cells #[.int .i64 a0_0, .int .i64 a0_1, .slice (some ad244) l0_2.length c0_2] 28 (0, 0)) (by (with_reducible repeat (first | refine blk_drewN ?_ _ | refine blk_drew ?_ | refine blk_alloc ?_ _)); exact BK241.out)) : gb241 ≠ gb245)); have n9_ := Aside0.mk ((by rw [hg]; exact Nat.ne_of_gt (blk_lt (g := gb241) (o := .cells #[.int .i64 a0_0, .int .i64 a0_1, .slice (some ad244) l0_2.length c0_2] 28 (0, 0)) (by (with_reducible repeat (first | refine blk_drewN ?_ _ | refine blk_drew ?_ | refine blk_alloc ?_ _)); exact BK241.out)) : gb245 ≠ gb241)); have n10_ := Aside0.mk ((by rw [hg]; exact Nat.ne_of_lt (blk_lt (g := gb242) (o := .cells #[.int .i64 0, .int .i64 0, .slice none 0 0] 28 (0, 0)) (by (with_reducible repeat (first | refine blk_drewN ?_ _ | refine blk_drew ?_ | refine blk_alloc ?_ _)); exact BK242.out)) : gb242 ≠ gb245)); have n11_ := Aside0.mk ((by rw [hg]; exact Nat.ne_of_gt (blk_lt (g := gb242) (o := .cells #[.int .i64 0, .int .i64 0, .slice none 0 0] 28 (0, 0)) (by (with_reducible repeat (first | refine blk_drewN ?_ _ | refine blk_drew ?_ | refine blk_alloc ?_ _)); exact BK242.out)) : gb245 ≠ gb242)); have n12_ := Aside0.mk ((by rw [hg]; exact Nat.ne_of_lt (blk_lt (g := gb243) (o := .cells #[.int .i64 a0_0, .int .i64 a0_1, u244002] 28 (0, 0)) (by (with_reducible repeat (first | refine blk_drewN ?_ _ | refine blk_drew ?_ | refine blk_alloc ?_ _)); exact BK243.out)) : gb243 ≠ gb245)); have n13_ := Aside0.mk ((by rw [hg]; exact Nat.ne_of_gt (blk_lt (g := gb243) (o := .cells #[.int .i64 a0_0, .int .i64 a0_1, u244002] 28 (0, 0)) (by (with_reducible repeat (first | refine blk_drewN ?_ _ | refine blk_drew ?_ | refine blk_alloc ?_ _)); exact BK243.out)) : gb245 ≠ gb243)); clear HO_244002; clear BK241; clear BK242; clear BK243; clear HB; have HO_244002 := n0_; have BK241 := n1_; have BK242 := n2_; have BK243 := n3_; have HB := n4_; have BK245 := n5_; have GW245 := n6_; have GE245 := n7_; have NB241_245 := n8_; have NB245_241 := n9_; have NB242_245 := n10_; have NB245_242 := n11_; have NB243_245 := n12_; have NB245_243 := n13_; clear n0_ n1_ n2_ n3_ n4_ n5_ n6_ n7_ n8_ n9_ n10_ n11_ n12_ n13_; clear hb hbox hg; have hnb17 := NB245_241.out; have hnc17 := NB241_245.out; have hnb18 := NB245_242.out; have hnc18 := NB242_245.out; have hnb19 := NB245_243.out; have hnc19 := NB243_245.out; have hcz20_0 : w16.cell? ⟨gb245, 0, none⟩ = some (.int .i64 0) := (blk_cell BK245.out 0).trans rfl; have hcz20_1 : w16.cell? ⟨gb245, 1, none⟩ = some (.slice none 0 0) := (blk_cell BK245.out 1).trans rfl; have hfz20_0 := blk_frozen BK245.out 0; have hfz20_1 := blk_frozen BK245.out 1))
       have n0_ : Aside0 (Kd.S k76 76 ((w16.setCell ⟨gb245, 0, none⟩ (.int .i64 ((rd_T76 l0_2 x14_1).f0))).setCell ⟨gb245, 1, none⟩ (.slice A244_1 ((rd_T76 l0_2 x14_1).f1).length c244_1)) w.heap.size (fun k_ => k_ ≠ gb245) u244002 x244002_1) := ⟨by (with_reducible repeat (first | apply Kd.S_alloc | apply Kd.S_drewN | apply Kd.S_drew)); exact Kd.S_mono (Kd.S_far (p := ⟨gb245, 1, none⟩) (Kd.S_far (p := ⟨gb245, 0, none⟩) (Kd.S_mono HO_244002.out (fun k_ hk => (⟨hk, hk.2⟩ : _ ∧ k_ ≠ gb245))) (fun _ hk => hk.2) (.int .i64 ((rd_T76 l0_2 x14_1).f0))) (fun _ hk => hk.2) (.slice A244_1 ((rd_T76 l0_2 x14_1).f1).length c244_1)) (fun _ hk => hk.1.2)⟩
       have n1_ : Aside0 (((w16.setCell ⟨gb245, 0, none⟩ (.int .i64 ((rd_T76 l0_2 x14_1).f0))).setCell ⟨gb245, 1, none⟩ (.slice A244_1 ((rd_T76 l0_2 x14_1).f1).length c244_1)).heap[gb241]? = some (.cells #[.int .i64 a0_0, .int .i64 a0_1, .slice (some ad244) l0_2.length c0_2] 28 (0, 0))) := ⟨by (with_reducible repeat (first | refine blk_drewN ?_ _ | refine blk_drew ?_ | refine blk_alloc ?_ _)); refine blk_far ?_ NB241_245.out _; (with_reducible repeat (first | refine blk_drewN ?_ _ | refine blk_drew ?_ | refine blk_alloc ?_ _)); refine blk_far ?_ NB241_245.out _; (with_reducible repeat (first | refine blk_drewN ?_ _ | refine blk_drew ?_ | refine blk_alloc ?_ _)); exact BK241.out⟩
       have n2_ : Aside0 (((w16.setCell ⟨gb245, 0, none⟩ (.int .i64 ((rd_T76 l0_2 x14_1).f0))).setCell ⟨gb245, 1, none⟩ (.slice A244_1 ((rd_T76 l0_2 x14_1).f1).length c244_1)).heap[gb242]? = some (.cells #[.int .i64 0, .int .i64 0, .slice none 0 0] 28 (0, 0))) := ⟨by (with_reducible repeat (first | refine blk_drewN ?_ _ | refine blk_drew ?_ | refine blk_alloc ?_ _)); refine blk_far ?_ NB242_245.out _; (with_reducible repeat (first | refine blk_drewN ?_ _ | refine blk_drew ?_ | refine blk_alloc ?_ _)); refine blk_far ?_ NB242_245.out _; (with_reducible repeat (first | refine blk_drewN ?_ _ | refine blk_drew ?_ | refine blk_alloc ?_ _)); exact BK242.out⟩
       have n3_ : Aside0 (((w16.setCell ⟨gb245, 0, none⟩ (.int .i64 ((rd_T76 l0_2 x14_1).f0))).setCell ⟨gb245, 1, none⟩ (.slice A244_1 ((rd_T76 l0_2 x14_1).f1).length c244_1)).heap[gb243]? = some (.cells #[.int .i64 a0_0, .int .i64 a0_1, u244002] 28 (0, 0))) := ⟨by (with_reducible repeat (first | refine blk_drewN ?_ _ | refine blk_drew ?_ | refine blk_alloc ?_ _)); refine blk_far ?_ NB243_245.out _; (with_reducible repeat (first | refine blk_drewN ?_ _ | refine blk_drew ?_ | refine blk_alloc ?_ _)); refine blk_far ?_ NB243_245.out _; (with_reducible repeat (first | refine blk_drewN ?_ _ | refine blk_drew ?_ | refine blk_alloc ?_ _)); exact BK243.out⟩
       have n4_ : Aside0 (((w16.setCell ⟨gb245, 0, none⟩ (.int .i64 ((rd_T76 l0_2 x14_1).f0))).setCell ⟨gb245, 1, none⟩ (.slice A244_1 ((rd_T76 l0_2 x14_1).f1).length c244_1)).heap[gb245]? = some (.cells #[.int .i64 ((rd_T76 l0_2 x14_1).f0), .slice A244_1 ((rd_T76 l0_2 x14_1).f1).length c244_1] 76 (0, 0))) := ⟨by (with_reducible repeat (first | refine blk_drewN ?_ _ | refine blk_drew ?_ | refine blk_alloc ?_ _)); refine blk_put (cs := #[.int .i64 ((rd_T76 l0_2 x14_1).f0), .slice none 0 0]) ?_ 1 _ rfl; (with_reducible repeat (first | refine blk_drewN ?_ _ | refine blk_drew ?_ | refine blk_alloc ?_ _)); refine blk_put (cs := #[.int .i64 0, .slice none 0 0]) ?_ 0 _ rfl; (with_reducible repeat (first | refine blk_drewN ?_ _ | refine blk_drew ?_ | refine blk_alloc ?_ _)); exact BK245.out⟩
       have n5_ : Aside0 (Below w.heap.size w ((w16.setCell ⟨gb245, 0, none⟩ (.int .i64 ((rd_T76 l0_2 x14_1).f0))).setCell ⟨gb245, 1, none⟩ (.slice A244_1 ((rd_T76 l0_2 x14_1).f1).length c244_1))) := ⟨by repeat (first | (with_reducible first | exact HB.out | apply below_alloc | apply pw_below_drewN | apply below_drew1 | refine below_set ?_ GE241.out | refine below_set ?_ GE242.out | refine below_set ?_ GE243.out | refine below_set ?_ GE245.out) | exact HB.out)⟩
       (try clear HO_244002)
       (try clear BK241)
       (try clear BK242)
       (try clear BK243)
       (try clear BK245)
       (try clear HB)
       generalize ((w16.setCell ⟨gb245, 0, none⟩ (.int .i64 ((rd_T76 l0_2 x14_1).f0))).setCell ⟨gb245, 1, none⟩ (.slice A244_1 ((rd_T76 l0_2 x14_1).f1).length c244_1)) = w21 at n0_ n1_ n2_ n3_ n4_ n5_ ⊢
       have HO_244002 := n0_
       have BK241 := n1_
       have BK242 := n2_
       have BK243 := n3_
       have BK245 := n4_
       have HB := n5_
       clear n0_ n1_ n2_ n3_ n4_ n5_
       have n0_ := Aside0.mk (Kd.S_drew HO_244002.out)
       have n1_ := Aside0.mk (blk_drew BK241.out)
       have n2_ := Aside0.mk (blk_drew BK242.out)
       have n3_ := Aside0.mk (blk_drew BK243.out)
       have n4_ := Aside0.mk (blk_drew BK245.out)
       have n5_ := Aside0.mk (below_drew1 HB.out)
       clear HO_244002
       clear BK241
       clear BK242
       clear BK243
       clear BK245
       clear HB
       have HO_244002 := n0_
       have BK241 := n1_
       have BK242 := n2_
       have BK243 := n3_
       have BK245 := n4_
       have HB := n5_
       clear n0_ n1_ n2_ n3_ n4_ n5_
       refine start_ (n := 12) (S := fun w' => w'.cell? ⟨gb243, 0, none⟩ = some (.int .i64 a0_0) ∧ w'.cell? ⟨gb243, 1, none⟩ = some (.int .i64 a0_1) ∧ w'.cell? ⟨gb243, 2, none⟩ = some (u244002) ∧ w'.cell? ⟨gb245, 0, none⟩ = some (.int .i64 ((rd_T76 l0_2 x14_1).f0)) ∧ w'.cell? ⟨gb245, 1, none⟩ = some (.slice A244_1 ((rd_T76 l0_2 x14_1).f1).length c244_1)) (ds := [11]) #[false, false, false, false, false, false, false, false, false, false, false, false] (by kernel_rfl) rfl rfl ⟨(blk_cell BK243.out 0).trans rfl, (blk_cell BK243.out 1).trans rfl, (blk_cell BK243.out 2).trans rfl, (blk_cell BK245.out 0).trans rfl, (blk_cell BK245.out 1).trans rfl⟩ (fun hHeld => ?_); refine with_tabW impl_World_clone.tab5 impl_World_clone.bits5 (fun HT_ HW_ => ?_)
       generalize w21.drew = w22 at HO_244002 BK241 BK242 BK243 BK245 HB hHeld ⊢
       refine pure_ (i := 0) (N := some 18) (v := ?_) (a' := ?_) #[true, false, false, false, false, false, false, false, false, false, false, false] rfl rfl (any_of HT_.out (by kernel_rfl)) (fun _ _ _ h => h) (Or.inl ⟨by rfl, ?_⟩) ?_ ?_
       rotate_left
       ·intro w'
        go_simp
        with_reducible rfl
       rotate_left
       ·simp only [Act.put, List.setIfInBounds_toArray, List.set_cons_zero, List.set_cons_succ, i64_w, i32_w]
        rfl
       refine pure_ (i := 2) (N := some 20) (v := ?_) (a' := ?_) #[true, false, true, false, false, false, false, false, false, false, false, false] rfl rfl (any_of HT_.out (by kernel_rfl)) (fun _ _ _ h => h) (Or.inl ⟨by rfl, ?_⟩) ?_ ?_
       rotate_left
       ·intro w'
        go_simp
        with_reducible rfl
       rotate_left
       ·simp only [Act.put, List.setIfInBounds_toArray, List.set_cons_zero, List.set_cons_succ, i64_w, i32_w]
        rfl
       refine pure_ (i := 4) (N := some 22) (v := ?_) (a' := ?_) #[true, false, true, false, true, false, false, false, false, false, false, false] rfl rfl (any_of HT_.out (by kernel_rfl)) (fun _ _ _ h => h) (Or.inl ⟨by rfl, ?_⟩) ?_ ?_
       rotate_left
       ·intro w'
        go_simp
        with_reducible rfl
       rotate_left
       ·simp only [Act.put, List.setIfInBounds_toArray, List.set_cons_zero, List.set_cons_succ, i64_w, i32_w]
        rfl
       refine take_ (i := 1) (N := some 19) (v := ?_) (a' := ?_) #[true, true, true, false, true, false, false, false, false, false, false, false] rfl rfl (take_ofW HT_.out HW_.out (by kernel_rfl)) (fun _ _ _ h => h) (Or.inl ⟨by rfl, ?_⟩) hHeld ?_ ?_
       rotate_left
       ·rintro w' ⟨s0, s1, s2, s3, s4⟩
        go_simp
        with_reducible rfl
       rotate_left
       ·simp only [Act.put, List.setIfInBounds_toArray, List.set_cons_zero, List.set_cons_succ, i64_w, i32_w]
        rfl
       refine take_ (i := 3) (N := some 21) (v := ?_) (a' := ?_) #[true, true, true, true, true, false, false, false, false, false, false, false] rfl rfl (take_ofW HT_.out HW_.out (by kernel_rfl)) (fun _ _ _ h => h) (Or.inl ⟨by rfl, ?_⟩) hHeld ?_ ?_
       rotate_left
       ·rintro w' ⟨s0, s1, s2, s3, s4⟩
        go_simp
        with_reducible rfl
       rotate_left
       ·simp only [Act.put, List.setIfInBounds_toArray, List.set_cons_zero, List.set_cons_succ, i64_w, i32_w]
        rfl
       refine take_ (i := 5) (N := some 23) (v := ?_) (a' := ?_) #[true, true, true, true, true, true, false, false, false, false, false, false] rfl rfl (take_ofW HT_.out HW_.out (by kernel_rfl)) (fun _ _ _ h => h) (Or.inl ⟨by rfl, ?_⟩) hHeld ?_ ?_
       rotate_left
       ·rintro w' ⟨s0, s1, s2, s3, s4⟩
        go_simp
        with_reducible rfl
       rotate_left
       ·simp only [Act.put, List.setIfInBounds_toArray, List.set_cons_zero, List.set_cons_succ, i64_w, i32_w]
        rfl
       refine one_ (i := 6) (N := some 24) #[true, true, true, true, true, true, true, false, false, false, false, false] rfl rfl (one_of HT_.out (by kernel_rfl)) (by decide) (fun K hK => ?_)
       refine goes_ Try.func91 (by kernel_rfl) rfl #[.slice A244_1 ((rd_T76 l0_2 x14_1).f1).length c244_1] (by rfl) rfl rfl (by (try simp only [List.map_toArray, List.map_cons, List.map_nil]); first | done | rfl | (simp only [List.length_drop, List.length_take]; rfl)) ?_
       with_reducible refine (impl_Part.calls _ _ ((rd_T76 l0_2 x14_1).f1) t246 _ ?side1 ?side2 A14.out).mono ?_
       (case side1 => repeat (first | exact (Kd.C_below HR244_1.out HB.out) | (with_reducible refine Kd.C_alloc ?_ _) | (with_reducible refine Kd.C_drewN ?_ _) | (with_reducible refine Kd.C_drew ?_)))
       (case side2 => exact HC244_1.out)
       rintro e w23 ⟨v247, rfl, ho0, hb⟩
       refine ⟨_, rfl, ?_⟩
       have n0_ := Aside0.mk (Kd.S_elder' (by (with_reducible repeat (first | apply Kd.S_alloc | apply Kd.S_drewN | apply Kd.S_drew)); exact HO_244002.out) (Kd.R_base ho0) hb)
       have n1_ := Aside0.mk (Kd.R_lower ho0 (below_size (by repeat (first | (with_reducible first | exact HB.out | apply below_alloc | apply pw_below_drewN | apply below_drew1 | refine below_set ?_ GE241.out | refine below_set ?_ GE242.out | refine below_set ?_ GE243.out | refine below_set ?_ GE245.out) | exact HB.out))))
       have n2_ := Aside0.mk (blk_below (g := gb241) (o := .cells #[.int .i64 a0_0, .int .i64 a0_1, .slice (some ad244) l0_2.length c0_2] 28 (0, 0)) (by (with_reducible repeat (first | refine blk_drewN ?_ _ | refine blk_drew ?_ | refine blk_alloc ?_ _)); exact BK241.out) hb)
       have n3_ := Aside0.mk (blk_below (g := gb242) (o := .cells #[.int .i64 0, .int .i64 0, .slice none 0 0] 28 (0, 0)) (by (with_reducible repeat (first | refine blk_drewN ?_ _ | refine blk_drew ?_ | refine blk_alloc ?_ _)); exact BK242.out) hb)
       have n4_ := Aside0.mk (blk_below (g := gb243) (o := .cells #[.int .i64 a0_0, .int .i64 a0_1, u244002] 28 (0, 0)) (by (with_reducible repeat (first | refine blk_drewN ?_ _ | refine blk_drew ?_ | refine blk_alloc ?_ _)); exact BK243.out) hb)
       have n5_ := Aside0.mk (blk_below (g := gb245) (o := .cells #[.int .i64 ((rd_T76 l0_2 x14_1).f0), .slice A244_1 ((rd_T76 l0_2 x14_1).f1).length c244_1] 76 (0, 0)) (by (with_reducible repeat (first | refine blk_drewN ?_ _ | refine blk_drew ?_ | refine blk_alloc ?_ _)); exact BK245.out) hb)
       have n6_ := Aside0.mk (below_step (by repeat (first | (with_reducible first | exact HB.out | apply below_alloc | apply pw_below_drewN | apply below_drew1 | refine below_set ?_ GE241.out | refine below_set ?_ GE242.out | refine below_set ?_ GE243.out | refine below_set ?_ GE245.out) | exact HB.out)) hb)
       clear HO_244002
       clear BK241
       clear BK242
       clear BK243
       clear BK245
       clear HB
       have HO_244002 := n0_
       have HO248 := n1_
       have BK241 := n2_
       have BK242 := n3_
       have BK243 := n4_
       have BK245 := n5_
       have HB := n6_
       clear n0_ n1_ n2_ n3_ n4_ n5_ n6_
       (try clear hb)
       (try clear hb2)
       (try clear hk)
       (try clear hi)
       (try clear ho0)
       obtain ⟨Ao24, co24, eo24⟩ := Kd.R_slice HO248.out
       (first | subst eo24 | (injection eo24 with f1_ f2_ f3_; have f4_ := f1_.symm; have f5_ := f3_.symm; clear f1_ f2_ f3_; subst f4_; subst f5_))
       refine hK.out _ _ ⟨(blk_cell BK243.out 0).trans rfl, (blk_cell BK243.out 1).trans rfl, (blk_cell BK243.out 2).trans rfl, (blk_cell BK245.out 0).trans rfl, (blk_cell BK245.out 1).trans rfl⟩ (fun hHeld => ?_)
       clear hK K
       refine norm_ (a' := ?_) ?_ ?_
       rotate_left
       ·show Act.put _ (some 24) _ = _
        simp only [Act.put, List.setIfInBounds_toArray, List.set_cons_zero, List.set_cons_succ, i64_w, i32_w]
        rfl
       refine pure_ (i := 7) (N := some 25) (v := ?_) (a' := ?_) #[true, true, true, true, true, true, true, true, false, false, false, false] rfl rfl (any_of HT_.out (by kernel_rfl)) (fun _ _ _ h => h) (Or.inl ⟨by rfl, ?_⟩) ?_ ?_
       rotate_left
       ·intro w'
        go_simp
        with_reducible rfl
       rotate_left
       ·simp only [Act.put, List.setIfInBounds_toArray, List.set_cons_zero, List.set_cons_succ, i64_w, i32_w]
        rfl
       refine one_ (i := 8) (N := some 26) #[true, true, true, true, true, true, true, true, true, false, false, false] rfl rfl (one_of HT_.out (by kernel_rfl)) (by decide) (fun K hK => ?_)
       refine value_ (w1 := ?_) (v := ?_) (by rfl) rfl ?_ ?_
       rotate_left 2
       ·go_simp
        constructor
        ·rfl
        ·rfl
       refine hK.out _ _ ⟨(blk_cell (blk_alloc BK243.out _) 0).trans rfl, (blk_cell (blk_alloc BK243.out _) 1).trans rfl, (blk_cell (blk_alloc BK243.out _) 2).trans rfl, (blk_cell (blk_alloc BK245.out _) 0).trans rfl, (blk_cell (blk_alloc BK245.out _) 1).trans rfl⟩ (fun hHeld => ?_)
       clear hK K
       refine norm_ (a' := ?_) ?_ ?_
       rotate_left
       ·show Act.put _ (some 26) _ = _
        simp only [Act.put, List.setIfInBounds_toArray, List.set_cons_zero, List.set_cons_succ, i64_w, i32_w]
        rfl
       refine one_ (i := 9) (N := some 27) #[true, true, true, true, true, true, true, true, true, true, false, false] rfl rfl (one_of HT_.out (by kernel_rfl)) (by decide) (fun K hK => ?_)
       refine Kd.S_append_step k76 (w0 := w) w.heap.size (by rfl) (.tmp 19) (.tmp 26) 26 76 (.agg #[(.int .i64 0), (.slice none 0 0)]) 32 rfl Try.underlying26 info76 rfl (by decide) (by omega) u244002 x244002_1 (⟨(rd_T76 l0_2 x14_1).f0, t246⟩ : S76) [.int .i64 ((rd_T76 l0_2 x14_1).f0), .slice Ao24 t246.length co24] (fun k_ => k_ ≠ gb245) (fun k_ => some k_ = (.slice Ao24 t246.length co24 : Value).ownBlock) rfl rfl ?aP (fun k_ hk_ => ((Kd.R_mono (ok' := fun k_ => ((fun k_ => k_ ≠ gb245)) k_ ∧ some k_ ≠ (u244002 : Value).ownBlock) (Kd.R_types (Kd.R_apart' (HO248.out) (Kd.S_typed HO_244002.out) (by decide)) BK245.out (by decide)) (fun k_ hk => ⟨hk.2, hk.1.2⟩))).1 k_ hk_.symm) ?aF ?aO ?aB ?aS ?aL ?_
       (case aP => exact k76_mkM _ _ _ (⟨(rd_T76 l0_2 x14_1).f0, t246⟩ : S76) (Kd.R_mono (Kd.R_tight rfl (Kd.R_mono (ok' := fun k_ => ((fun k_ => k_ ≠ gb245)) k_ ∧ some k_ ≠ (u244002 : Value).ownBlock) (Kd.R_types (Kd.R_apart' (HO248.out) (Kd.S_typed HO_244002.out) (by decide)) BK245.out (by decide)) (fun k_ hk => ⟨hk.2, hk.1.2⟩))) (fun _ h_ => h_)))
       (case aB => exact (by repeat (first | (with_reducible first | exact HB.out | apply below_alloc | apply pw_below_drewN | apply below_drew1 | refine below_set ?_ GE241.out | refine below_set ?_ GE242.out | refine below_set ?_ GE243.out | refine below_set ?_ GE245.out) | exact HB.out)))
       (case aF => exact (fun k_ hk => Kd.freshB (g := gb245) (o := .cells #[.int .i64 ((rd_T76 l0_2 x14_1).f0), .slice A244_1 ((rd_T76 l0_2 x14_1).f1).length c244_1] 76 (0, 0)) (by (with_reducible repeat (first | refine blk_drewN ?_ _ | refine blk_drew ?_ | refine blk_alloc ?_ _)); exact BK245.out) k_ hk))
       (case aO => exact (by (with_reducible repeat (first | apply Kd.S_alloc | apply Kd.S_drewN | apply Kd.S_drew)); exact Kd.S_mono HO_244002.out (fun k_ hk => ⟨hk.1, fun e_ => hk.2 e_⟩)))
       (case aS => exact (below_size (by repeat (first | (with_reducible first | exact HB.out | apply below_alloc | apply pw_below_drewN | apply below_drew1 | refine below_set ?_ GE241.out | refine below_set ?_ GE242.out | refine below_set ?_ GE243.out | refine below_set ?_ GE245.out) | exact HB.out))))
       (case aL => have := LMc15.out; omega)
       intro v250 w25 ho hb hg hat
       rw [← Ny249.out] at ho
       have n0_ := Aside0.mk (blk_grown (g := gb241) (o := .cells #[.int .i64 a0_0, .int .i64 a0_1, .slice (some ad244) l0_2.length c0_2] 28 (0, 0)) (by (with_reducible repeat (first | refine blk_drewN ?_ _ | refine blk_drew ?_ | refine blk_alloc ?_ _)); exact BK241.out) hg (Kd.S_ne HO_244002.out BK241.out (by decide)))
       have n1_ := Aside0.mk (blk_grown (g := gb242) (o := .cells #[.int .i64 0, .int .i64 0, .slice none 0 0] 28 (0, 0)) (by (with_reducible repeat (first | refine blk_drewN ?_ _ | refine blk_drew ?_ | refine blk_alloc ?_ _)); exact BK242.out) hg (Kd.S_ne HO_244002.out BK242.out (by decide)))
       have n2_ := Aside0.mk (blk_grown (g := gb243) (o := .cells #[.int .i64 a0_0, .int .i64 a0_1, u244002] 28 (0, 0)) (by (with_reducible repeat (first | refine blk_drewN ?_ _ | refine blk_drew ?_ | refine blk_alloc ?_ _)); exact BK243.out) hg (Kd.S_ne HO_244002.out BK243.out (by decide)))
       have n3_ := Aside0.mk (blk_grown (g := gb245) (o := .cells #[.int .i64 ((rd_T76 l0_2 x14_1).f0), .slice A244_1 ((rd_T76 l0_2 x14_1).f1).length c244_1] 76 (0, 0)) (by (with_reducible repeat (first | refine blk_drewN ?_ _ | refine blk_drew ?_ | refine blk_alloc ?_ _)); exact BK245.out) hg (Kd.S_away HO_244002.out (fun _ hk => hk.1)))
       have n4_ := Aside0.mk (hb)
       have n5_ := Aside0.mk (ho)
       clear BK241
       clear BK242
       clear BK243
       clear BK245
       clear HB
       clear HO_244002
       clear HO248
       have BK241 := n0_
       have BK242 := n1_
       have BK243 := n2_
       have BK245 := n3_
       have HB := n4_
       have HO251 := n5_
       clear n0_ n1_ n2_ n3_ n4_ n5_
       clear ho hb hg hat
       obtain ⟨Ao26, co26, eo26⟩ := Kd.S_slice HO251.out
       (first | subst eo26 | (injection eo26 with f1_ f2_ f3_; have f4_ := f1_.symm; have f5_ := f3_.symm; clear f1_ f2_ f3_; subst f4_; subst f5_))
       refine hK.out _ _ ⟨(blk_cell BK243.out 0).trans rfl, (blk_cell BK243.out 1).trans rfl, (blk_cell BK243.out 2).trans rfl, (blk_cell BK245.out 0).trans rfl, (blk_cell BK245.out 1).trans rfl⟩ (fun hHeld => ?_)
       clear hK K
       refine norm_ (a' := ?_) ?_ ?_
       rotate_left
       ·show Act.put _ (some 27) _ = _
        simp only [Act.put, List.setIfInBounds_toArray, List.set_cons_zero, List.set_cons_succ, i64_w, i32_w]
        rfl
       refine pure_ (i := 10) (N := some 28) (v := ?_) (a' := ?_) #[true, true, true, true, true, true, true, true, true, true, true, false] rfl rfl (any_of HT_.out (by kernel_rfl)) (fun _ _ _ h => h) (Or.inl ⟨by rfl, ?_⟩) ?_ ?_
       rotate_left
       ·intro w'
        go_simp
        with_reducible rfl
       rotate_left
       ·simp only [Act.put, List.setIfInBounds_toArray, List.set_cons_zero, List.set_cons_succ, i64_w, i32_w]
        rfl
       refine last_ (i := 11) (N := none) #[true, true, true, true, true, true, true, true, true, true, true, true] rfl rfl (one_of HT_.out (by kernel_rfl)) (by decide) (fun K hK => ?_)
       have hs27 : w25.cell? ⟨gb243, 2, none⟩ = some (u244002) := (blk_cell BK243.out 2).trans rfl
       have hfs27 := blk_frozen BK243.out 2
       have hns27_0 := NB241_243.out
       have hns27_1 := NB242_243.out
       have hns27_3 := NB245_243.out
       have hms27_0 := NB243_241.out
       have hms27_1 := NB243_242.out
       have hms27_3 := NB243_245.out
       refine skip_ (w1 := ?_) (by rfl) rfl ?_ ?_
       rotate_left
       ·go_simp
        rfl
       refine hK.out _ _ ?_
       clear hK K
       refine done_ (done_of HT_.out (by kernel_rfl)) ?_
       try go_wp2
       go_roundg k1
       case measure => have := HK1.out; omega
       case rel => exact ⟨(wrap64 (x14_1 + 1)), (y249), (.slice Ao26 y249.length co26), (by first | rfl | (simp; done) | (simp [*]; done)), H', ⟨by have := HK1.out; omega⟩, ⟨by (with_reducible repeat (first | apply Kd.S_alloc | apply Kd.S_drewN | apply Kd.S_drew)); exact Kd.S_mono (Kd.S_far (p := ⟨gb243, 2, none⟩) (Kd.S_types HO251.out BK243.out (by decide)) (fun _ hk => hk.2) (.slice Ao26 y249.length co26)) (fun _ hk => trivial)⟩, ⟨by (with_reducible repeat (first | refine blk_drewN ?_ _ | refine blk_drew ?_ | refine blk_alloc ?_ _)); refine blk_far ?_ NB241_243.out _; (with_reducible repeat (first | refine blk_drewN ?_ _ | refine blk_drew ?_ | refine blk_alloc ?_ _)); exact BK241.out⟩, ⟨by (with_reducible repeat (first | refine blk_drewN ?_ _ | refine blk_drew ?_ | refine blk_alloc ?_ _)); refine blk_far ?_ NB242_243.out _; (with_reducible repeat (first | refine blk_drewN ?_ _ | refine blk_drew ?_ | refine blk_alloc ?_ _)); exact BK242.out⟩, ⟨by (with_reducible repeat (first | refine blk_drewN ?_ _ | refine blk_drew ?_ | refine blk_alloc ?_ _)); refine blk_put (cs := #[.int .i64 a0_0, .int .i64 a0_1, u244002]) ?_ 2 _ rfl; (with_reducible repeat (first | refine blk_drewN ?_ _ | refine blk_drew ?_ | refine blk_alloc ?_ _)); exact BK243.out⟩, ⟨by repeat (first | (with_reducible first | exact HB.out | apply below_alloc | apply pw_below_drewN | apply below_drew1 | refine below_set ?_ GE241.out | refine below_set ?_ GE242.out | refine below_set ?_ GE243.out | refine below_set ?_ GE245.out) | exact HB.out)⟩⟩
      ·rw [if_neg c15] at H
       exact absurd H (by simp)
     ·rw [if_neg c13] at H
      exact absurd H (by simp)
    ·rw [if_neg c12] at H
     exact absurd H (by simp)
   ·rw [if_neg c11] at H
    have c11b0 : decide (x14_1 < (l0_2.length : Int)) = false := decide_eq_false c11
    clear c11
    simp only [Option.some.injEq, Prod.mk.injEq] at H
    obtain ⟨rfl, rfl, rfl⟩ := H
    have hnb28 := NB243_241.out
    have hnc28 := NB241_243.out
    have hnb29 := NB243_242.out
    have hnc29 := NB242_243.out
    have hcz30_0 : wr.cell? ⟨gb243, 0, none⟩ = some (.int .i64 a0_0) := (blk_cell BK243.out 0).trans rfl
    have hcz30_1 : wr.cell? ⟨gb243, 1, none⟩ = some (.int .i64 a0_1) := (blk_cell BK243.out 1).trans rfl
    have hcz30_2 : wr.cell? ⟨gb243, 2, none⟩ = some (u244002) := (blk_cell BK243.out 2).trans rfl
    have hfz30_0 := blk_frozen BK243.out 0
    have hfz30_1 := blk_frozen BK243.out 1
    have hfz30_2 := blk_frozen BK243.out 2
    have hnb31 := NB242_241.out
    have hnc31 := NB241_242.out
    have hcz32_0 : wr.cell? ⟨gb242, 0, none⟩ = some (.int .i64 0) := (blk_cell BK242.out 0).trans rfl
    have hcz32_1 : wr.cell? ⟨gb242, 1, none⟩ = some (.int .i64 0) := (blk_cell BK242.out 1).trans rfl
    have hcz32_2 : wr.cell? ⟨gb242, 2, none⟩ = some (.slice none 0 0) := (blk_cell BK242.out 2).trans rfl
    have hfz32_0 := blk_frozen BK242.out 0
    have hfz32_1 := blk_frozen BK242.out 1
    have hfz32_2 := blk_frozen BK242.out 2
    obtain ⟨Ao33, co33, eo33⟩ := Kd.S_slice HO_244002.out
    subst eo33
    go_wp2
    refine bodyPost_ret (results_cell_row rfl _ _ gb242 28 #[.int .i64 a0_0, .int .i64 a0_1, .slice Ao33 x244002_1.length co33] (0, 0) _ rfl (by (with_reducible repeat (first | refine blk_drewN ?_ _ | refine blk_drew ?_ | refine blk_alloc ?_ _)); refine blk_put (cs := #[.int .i64 a0_0, .int .i64 a0_1, .slice none 0 0]) ?_ 2 _ rfl; (with_reducible repeat (first | refine blk_drewN ?_ _ | refine blk_drew ?_ | refine blk_alloc ?_ _)); refine blk_put (cs := #[.int .i64 a0_0, .int .i64 0, .slice none 0 0]) ?_ 1 _ rfl; (with_reducible repeat (first | refine blk_drewN ?_ _ | refine blk_drew ?_ | refine blk_alloc ?_ _)); refine blk_put (cs := #[.int .i64 0, .int .i64 0, .slice none 0 0]) ?_ 0 _ rfl; (with_reducible repeat (first | refine blk_drewN ?_ _ | refine blk_drew ?_ | refine blk_alloc ?_ _)); exact BK242.out) Try.underlying28 rfl (by kernel_rfl)) rfl ?_
    exact ⟨_, by first | rfl | (simp [errW_none, errW_some] <;> rfl) | (simp [*, errW_none, errW_some] <;> rfl), by (with_reducible repeat (first | apply Kd.S_alloc | apply Kd.S_drewN | apply Kd.S_drew)); exact Kd.S_mono (Kd.S_far (p := ⟨gb242, 2, none⟩) (Kd.S_far (p := ⟨gb242, 1, none⟩) (Kd.S_far (p := ⟨gb242, 0, none⟩) (Kd.S_types HO_244002.out BK242.out (by decide)) (fun _ hk => hk.2) (.int .i64 a0_0)) (fun _ hk => hk.2) (.int .i64 a0_1)) (fun _ hk => hk.2) (.slice Ao33 x244002_1.length co33)) (fun _ hk => trivial), by repeat (first | (with_reducible first | exact HB.out | apply below_alloc | apply pw_below_drewN | apply below_drew1 | refine below_set ?_ GE241.out | refine below_set ?_ GE242.out | refine below_set ?_ GE243.out) | exact HB.out)⟩

-- NOT PRINTED: function 95 (impl_Entity_95)

/-! ### impl_World_place: function 51 -/
def placeFrom (id : Int) : List (S76) → Int → Int
  | [], _ => -1
  | e :: r, i => if e.f0 = id then i else placeFrom id r (i + 1)
def impl_World_place.f (a0_0 : Int) (a0_1 : Int) (l0_2 : List (S76)) (a1 : Int) : Option (Int) := if l0_2.length ≤ 2000000 then some (placeFrom a1 l0_2 0) else none
set_option maxHeartbeats 8000000 in
set_option maxRecDepth 100000 in
theorem impl_World_place.lit (g : Nat) (id x : Int) (Ae : Option Addr) (n c : Nat) (w : World) (hc : w.cell? ⟨g, 0, none⟩ = some (.int .i64 id)) :
    Calls Try.prog 96 #[.agg #[.int .i64 x, .slice Ae n c], .pointer (some ⟨g, 0, none⟩)] w fun e w' => e = .returned (.bool (x == id)) ∧ Below w.heap.size w w' := by
  have hlt := World.block_lt_of_cell? _ _ hc
  have hu := Try.underlying76
  go_enter Try.func96, Try.ntmps96
  go_wp2_with (first | ((with_reducible refine gate_dst (N := 2) rfl ?_); refine box_event ?hg (N := 2) ?hd (cs := #[.int .i64 x, .slice Ae n c]) (t := 76) ?hr ?_; (case hd => rfl); (case hg => rfl); (case hr => first | (go_simp; done) | (go_simp; rfl)); intro gb hg w2 hbox hb; have hc0 : w2.cell? ⟨gb, 0, none⟩ = some (.int .i64 x) := (blk_cell hbox 0).trans rfl; have hc1 : w2.cell? ⟨g, 0, none⟩ = some (.int .i64 id) := (hb.cell hlt).trans hc; have HB := Aside0.mk hb; clear hb hbox hg))
  go_ret
  exact ⟨by first | rfl | simp, HB.out⟩
set_option maxHeartbeats 8000000 in
set_option maxRecDepth 100000 in
theorem impl_World_place.index (g : Nat) (id : Int) (A0 : Option Addr) (c0 : Nat) (l0 : List (S76)) (w : World) (hr0 : Kd.C k76 w A0 l0.length l0) (hl : l0.length ≤ 2000000) (hc : w.cell? ⟨g, 0, none⟩ = some (.int .i64 id)) :
    Calls Try.prog 95 #[.slice A0 l0.length c0, .func (.func 96) #[] #[.pointer (some ⟨g, 0, none⟩)]] w fun e w' => e = .returned (.int .i64 (placeFrom id l0 0)) ∧ Below w.heap.size w w' := by
  have hlt := Aside0.mk (World.block_lt_of_cell? _ _ hc)
  have HR := Aside0.mk hr0
  have HC := Aside0.mk hc
  have HL := Aside0.mk hl
  clear hr0 hc hl
  obtain ⟨r, hr⟩ : ∃ r, r = placeFrom id l0 0 := ⟨_, rfl⟩
  rw [← hr]
  have HE := Aside0.mk hr
  clear hr
  go_enter Try.func95, Try.ntmps95
  go_wp2
  go_loopg [8] (l0.length + 1) (fun kq v8 w' => ∃ j : Nat, v8 = .int .i64 j ∧ Aside0 (j + kq = l0.length + 1) ∧ Aside0 (r = placeFrom id (l0.drop j) j) ∧ Aside0 (Below w.heap.size w w'))
  case atStart => exact ⟨0, rfl, ⟨by omega⟩, ⟨by rw [HE.out]; rfl⟩, ⟨Below.refl _ _⟩⟩
  case round =>
    clear HE
    obtain ⟨j, rfl, HK, HE, HB⟩ := hrel
    by_cases hj : j < l0.length
    · obtain ⟨ad, A1, c1, e1, hx0, hx1, hl1, hi1⟩ := at_T76 (Kd.C_below HR.out HB.out) (j : Int) (by omega) (by omega)
      cases e1
      have hjj : ((j : Int)).toNat = j := by omega
      rw [hjj] at hx0 hx1
      clear hl1 hi1 hjj
      have hd : l0.drop j = (rd_T76 l0 (j : Int)) :: l0.drop (j + 1) := by
        rw [List.drop_eq_getElem_cons hj]
        congr 1
        unfold rd_T76
        rw [List.getD_eq_getElem?_getD, show ((j : Int)).toNat = j by omega, List.getElem?_eq_getElem hj]; rfl
      have HE2 := Aside0.mk (show r = if (rd_T76 l0 (j : Int)).f0 = id then (j : Int) else placeFrom id (l0.drop (j + 1)) ((j : Int) + 1) from by rw [HE.out, hd]; rfl)
      clear hd HE
      have hjb : decide (j < l0.length) = true := decide_eq_true hj
      have hjc : decide ((j : Int) < (l0.length : Int)) = true := decide_eq_true (by omega)
      have hcw : wr.cell? ⟨g, 0, none⟩ = some (.int .i64 id) := (HB.out.cell hlt.out).trans HC.out
      by_cases heq : (rd_T76 l0 (j : Int)).f0 = id
      · have h1 : ((rd_T76 l0 (j : Int)).f0 == id) = true := by rw [beq_iff_eq]; exact heq
        have HE3 := Aside0.mk (show r = (j : Int) from by rw [HE2.out, if_pos heq])
        clear HE2 heq
        go_wp2_with (first | ((with_reducible refine gate_calleeV (t := 11) rfl ?_); refine goesV_ (some 16) rfl rfl Try.func96 (by kernel_rfl) rfl #[.agg #[.int .i64 (rd_T76 l0 (j : Int)).f0, .slice A1 (rd_T76 l0 (j : Int)).f1.length c1]] #[.pointer (some ⟨g, 0, none⟩)] #[.agg #[.int .i64 (rd_T76 l0 (j : Int)).f0, .slice A1 (rd_T76 l0 (j : Int)).f1.length c1], .pointer (some ⟨g, 0, none⟩)] rfl rfl rfl (by (try simp only [List.map_toArray, List.map_cons, List.map_nil]); first | done | rfl) ?_; (with_reducible refine (impl_World_place.lit g id (rd_T76 l0 (j : Int)).f0 A1 _ c1 _ hcw).mono ?_); rintro e w2 ⟨rfl, hb⟩; refine ⟨_, rfl, ?_⟩; have HB2 := Aside0.mk (below_step HB.out hb); clear hb))
        go_ret
        exact ⟨by rw [HE3.out]; rfl, HB2.out⟩
      · have h1 : ((rd_T76 l0 (j : Int)).f0 == id) = false := by rw [beq_eq_false_iff_ne]; exact heq
        have HE3 := Aside0.mk (show r = placeFrom id (l0.drop (j + 1)) ((j + 1 : Nat) : Int) from by rw [HE2.out, if_neg heq]; rfl)
        clear HE2 heq
        go_wp2_with (first | ((with_reducible refine gate_calleeV (t := 11) rfl ?_); refine goesV_ (some 16) rfl rfl Try.func96 (by kernel_rfl) rfl #[.agg #[.int .i64 (rd_T76 l0 (j : Int)).f0, .slice A1 (rd_T76 l0 (j : Int)).f1.length c1]] #[.pointer (some ⟨g, 0, none⟩)] #[.agg #[.int .i64 (rd_T76 l0 (j : Int)).f0, .slice A1 (rd_T76 l0 (j : Int)).f1.length c1], .pointer (some ⟨g, 0, none⟩)] rfl rfl rfl (by (try simp only [List.map_toArray, List.map_cons, List.map_nil]); first | done | rfl) ?_; (with_reducible refine (impl_World_place.lit g id (rd_T76 l0 (j : Int)).f0 A1 _ c1 _ hcw).mono ?_); rintro e w2 ⟨rfl, hb⟩; refine ⟨_, rfl, ?_⟩; have HB2 := Aside0.mk (below_step HB.out hb); clear hb))
        cases gk with
        | zero => exact absurd HK.out (by omega)
        | succ k1 =>
          go_roundg k1
          case measure => omega
          case rel => exact ⟨j + 1, by rw [show wrap64 ((j : Int) + 1) = ((j + 1 : Nat) : Int) from by have := HL.out; unfold wrap64; omega], ⟨by have := HK.out; omega⟩, HE3, HB2⟩
    · have hjb : decide (j < l0.length) = false := decide_eq_false hj
      have hjc : decide ((j : Int) < (l0.length : Int)) = false := decide_eq_false (by omega)
      have HE3 := Aside0.mk (show r = -1 from by rw [HE.out, List.drop_eq_nil_of_le (by omega)]; rfl)
      clear HE hj
      go_wp2
      go_ret
      exact ⟨by rw [HE3.out]; rfl, HB.out⟩
set_option maxHeartbeats 8000000 in
set_option maxRecDepth 100000 in
theorem impl_World_place.calls (a0_0 : Int) (a0_1 : Int) (A0_2 : Option Addr) (c0_2 : Nat) (l0_2 : List (S76)) (a1 : Int) (r : Int) (w : World) (hr0_2 : Kd.C k76 w A0_2 l0_2.length l0_2) (hc0_2 : l0_2.length ≤ c0_2) (h : impl_World_place.f a0_0 a0_1 l0_2 a1 = some r) :
    Calls Try.prog 51 #[.agg #[.int .i64 a0_0, .int .i64 a0_1, .slice A0_2 l0_2.length c0_2], .int .i64 a1] w fun e w' => e = .returned (.int .i64 r) ∧ Below w.heap.size w w' := by
  have hu := Try.underlying28
  unfold impl_World_place.f at h
  by_cases hl : l0_2.length ≤ 2000000
  · rw [if_pos hl] at h
    obtain rfl := Option.some.inj h
    have HL := Aside0.mk hl
    have HR := Aside0.mk hr0_2
    clear h hl hr0_2 hc0_2
    go_enter Try.func51, Try.ntmps51
    go_wp2_with (first
      | ((with_reducible refine gate_dst (N := 2) rfl ?_); refine box_event ?hg (N := 2) ?hd (cs := #[.int .i64 a0_0, .int .i64 a0_1, .slice A0_2 l0_2.length c0_2]) (t := 28) ?hr ?_; (case hd => rfl); (case hg => rfl); (case hr => first | (go_simp; done) | (go_simp; rfl)); intro gb hg w2 hbox hb; have HB := Aside0.mk hb; have BK := Aside0.mk hbox; clear hb hbox hg)
      | ((with_reducible refine gate_dst (N := 3) rfl ?_); refine box_event ?hg (N := 3) ?hd (cs := #[.int .i64 a1]) (t := 3) ?hr ?_; (case hd => rfl); (case hg => rfl); (case hr => first | (go_simp; done) | (go_simp; rfl)); intro gi hg w3 hbox hb; have HB3 := Aside0.mk (below_step HB.out hb); have hb2 := blk_below BK.out hb; have hc2 : w3.cell? ⟨gb, 2, none⟩ = some (.slice A0_2 l0_2.length c0_2) := (blk_cell hb2 2).trans rfl; have HCI := Aside0.mk (show w3.cell? ⟨gi, 0, none⟩ = some (.int .i64 a1) from (blk_cell hbox 0).trans rfl); clear hb hbox hg hb2 BK)
      | (go_at_call 95; (with_reducible refine (impl_World_place.index gi a1 A0_2 c0_2 l0_2 _ ?s1 HL.out HCI.out).mono ?_); (case s1 => exact Kd.C_below HR.out HB3.out); rintro e w4 ⟨rfl, hb⟩; have HB4 := Aside0.mk (below_step HB3.out hb); clear hb))
    go_ret
    exact ⟨rfl, HB4.out⟩
  · rw [if_neg hl] at h; cases h

/-! ### impl_Entity_52: function 52 -/
theorem impl_Entity_52.tail_R {α : Type} {d : Kd α} {e base g n c off : Nat} {ok : Nat → Prop} {W : World} {xs : List α} (h : d.R e W base ok (.slice (some ⟨g, 0, none⟩) n c) xs) (zs : List Value) (ho : n * d.sz ≤ off) (hz : off + zs.length ≤ c * d.sz) :
    d.R e (W.setCells g off zs) base ok (.slice (some ⟨g, 0, none⟩) n c) xs := by
  obtain ⟨h0, inner, ⟨hlen, hown⟩, hr⟩ := h
  rcases hown with ⟨hv, _⟩ | ⟨g', cap, cur, hv, hb, hh, hnc, hcap, hsz, htk⟩
  · cases hv
  · injection hv with ha hn hc'
    injection ha with ha
    injection ha with ha _ _
    subst ha hn hc'
    obtain ⟨cur', h1, h2, h3⟩ := setCells_row zs off W cur hh (by omega)
    refine ⟨h0, inner, ⟨hlen, .inr ⟨g, c, cur', rfl, hb, h1, hnc, hcap, by rw [h2]; exact hsz, ?_⟩⟩, hr.imp_ (fun p cs hp => Kd.M_step hp (fun k hk _ => setCells_far zs off k (fun e_ => hk.2 (by rw [e_]; rfl))))⟩
    have hl : off ≤ cur.toList.length := by rw [Array.length_toList, hsz]; omega
    rw [h3, List.append_assoc, List.take_append_of_le_length (by rw [List.length_take]; omega), List.take_take, Nat.min_eq_left ho]
    exact htk
theorem impl_Entity_52.tail_S {α : Type} {d : Kd α} {e base g n c off : Nat} {ok : Nat → Prop} {W : World} {xs : List α} (h : Kd.S d e W base ok (.slice (some ⟨g, 0, none⟩) n c) xs) (zs : List Value) (ho : n * d.sz ≤ off) (hz : off + zs.length ≤ c * d.sz) :
    Kd.S d e (W.setCells g off zs) base ok (.slice (some ⟨g, 0, none⟩) n c) xs := by
  obtain ⟨f, h⟩ := h
  exact ⟨f, impl_Entity_52.tail_R h zs ho hz⟩
theorem impl_Entity_52.grown (W : World) (g off : Nat) (zs : List Value) : W.grownBy (W.setCells g off zs) (some g) := by
  obtain ⟨h1, h2, h3, h4⟩ := setCells_same g zs off W
  exact ⟨h1, h2, h3, by rw [h4]; exact Nat.le_refl _, fun k _ hne => setCells_far zs off k (fun e_ => hne (by rw [e_]))⟩
theorem impl_Entity_52.zero (w : World) : (zeroValue 76).run Try.prog w = .ok (.agg #[(.int .i64 0), (.slice none 0 0)]) w := by kernel_rfl
theorem impl_Entity_52.clear (W : World) (g off c : Nat) (ty : TypeId) (hc : ∀ j, j < 2 → (W.cell? ⟨g, off + j, none⟩).isSome = true) (hf : ∀ j, j < 2 → W.frozen? ⟨g, off + j, none⟩ = false) :
    (Builtin.clear_ #[26] ty #[.slice (some ⟨g, off, none⟩) 1 c]).run Try.prog W = .ok (.tuple #[]) (W.setCells g off [.int .i64 0, .slice none 0 0]) := by
  have hst := run_storeCells_cells (P := Try.prog) g off [.int .i64 0, .slice none 0 0] 0 W (by simpa using hc) (by simpa using hf) (by decide)
  simp only [Nat.add_zero] at hst
  have hzc : (Builtin.zeroCells ((.agg #[(.int .i64 0), (.slice none 0 0)]) : Value).cells 1).toList = [.int .i64 0, .slice none 0 0] := by kernel_rfl
  simp [Builtin.clear_, run_underlying Try.underlying26, impl_Entity_52.zero, hzc, hst]
set_option maxHeartbeats 8000000 in
set_option maxRecDepth 100000 in
theorem impl_Entity_52.goes (xs : List (S76)) (i j g c : Nat) (ok : Nat → Prop) (w0 w : World) (hj : j = i + 1) (HB : Below w0.heap.size w0 w) (HO : Kd.S k76 76 w w0.heap.size ok (.slice (some ⟨g, 0, none⟩) xs.length c) xs) (hi : i < xs.length) :
    Calls Try.prog 52 #[.slice (some ⟨g, 0, none⟩) xs.length c, .int .i64 (i : Int), .int .i64 (j : Int)] w fun e w' => e = .returned (.slice (some ⟨g, 0, none⟩) (xs.length - 1) c) ∧ Kd.S k76 76 w' w0.heap.size ok (.slice (some ⟨g, 0, none⟩) (xs.length - 1) c) (xs.eraseIdx i) ∧ Below w0.heap.size w0 w' ∧ w.grownBy w' (some g) := by
  have hn : xs.length ≤ c := (Kd.S_reads' HO).2.1
  have hcm : c ≤ maxLen := by
    obtain ⟨_, inner, ⟨_, hown⟩, _⟩ := Kd.S_R HO
    rcases hown with ⟨hv, _⟩ | ⟨g', cap, cur, hv, _, _, _, hcap, _, _⟩
    · cases hv
    · injection hv with _ _ h3; subst h3; exact hcap
  have hcm2 : c ≤ 9223372036854775807 := by unfold maxLen at hcm; omega
  clear hcm
  have HBs := Aside0.mk HB.size
  obtain ⟨A, hA, hA2⟩ : ∃ A : Addr, (if c = j then some (⟨g, 0, none⟩ : Addr) else some ⟨g, j * 2, none⟩) = some A ∧ Aside0 (some A = if c = i + 1 then some (⟨g, 0, none⟩ : Addr) else (some (⟨g, 0, none⟩ : Addr)).map (·.add ((i + 1) * 2))) := by
    subst hj
    by_cases h : c = i + 1
    · exact ⟨⟨g, 0, none⟩, by rw [if_pos h], ⟨by rw [if_pos h]⟩⟩
    · exact ⟨⟨g, (i + 1) * 2, none⟩, by rw [if_neg h], ⟨by rw [if_neg h]; simp [Addr.add]⟩⟩
  have HJ := Aside0.mk hj
  have hlt : i < j := by omega
  have heq : ¬ i = j := by omega
  have hij : i ≤ j := by omega
  have hjn : j ≤ xs.length := by omega
  have hic : i ≤ c := by omega
  have hjc : j ≤ c := by omega
  have HO' := Aside0.mk (Kd.S_drew HO)
  have HB' := Aside0.mk (below_drew1 HB)
  have HI := Aside0.mk hi
  clear HO HB hj hi
  have mixed : Try.prog.follows Departure.mixedOrders = true := by kernel_rfl
  go_enter Try.func52, Try.ntmps52
  go_wp2_with fail
  go_region_law_o (refine Kd.S_delete_step k76 (w0 := w0) w0.heap.size (by simp [Region.wanted]) (.tmp 22) (.tmp 25) 26 76 rfl Try.underlying26 (by kernel_rfl) (g := g) (n := xs.length) (c := c) (k := i) (m := xs.length - j) (c2 := c - j) (A := some A) (by simp [Act.eval, Act.put]) (by simp [Act.eval, Act.put]) hA2.out (by rw [HJ.out]) HO'.out HI.out HB'.out HBs.out ?_; intro w1 ho hb hg)
  have hx1 : 0 < xs.length := by have := HI.out; omega
  have hd1 : xs.length - 1 ≤ xs.length := by omega
  have hd2 : xs.length - 1 ≤ c := by omega
  have hd3 : ¬ c = xs.length - 1 := by omega
  have hd4 : decide (xs.length - 1 ≤ xs.length) = true := decide_eq_true hd1
  obtain ⟨cur, hh, hsz⟩ : ∃ cur : Array Value, w1.heap[g]? = some (.cells cur 76 (0, 0)) ∧ Aside0 (cur.size = c * 2) := by
    obtain ⟨_, inner, ⟨_, hown⟩, _⟩ := Kd.S_R ho
    rcases hown with ⟨hv, _⟩ | ⟨g', cap, cur, hv, _, hh, _, _, hsz, _⟩
    · cases hv
    · injection hv with h1 _ h3
      injection h1 with h1
      injection h1 with h1 _ _
      subst h1 h3
      exact ⟨cur, hh, ⟨hsz⟩⟩
  have hcl : ∀ ty, (Builtin.clear_ #[26] ty #[.slice (some ⟨g, (xs.length - 1) * 2, none⟩) (xs.length - (xs.length - 1)) (c - (xs.length - 1))]).run Try.prog w1 = .ok (.tuple #[]) (w1.setCells g ((xs.length - 1) * 2) [.int .i64 0, .slice none 0 0]) := by
    intro ty
    rw [show xs.length - (xs.length - 1) = 1 by omega]
    exact impl_Entity_52.clear w1 g _ _ ty (fun t ht => by rw [blk_cell hh, Array.getElem?_eq_getElem (by have := hsz.out; omega)]; rfl) (fun t ht => blk_frozen hh _)
  have HOO := Aside0.mk ho
  have HBB := Aside0.mk hb
  have HGG := Aside0.mk hg
  have HN := Aside0.mk hn
  have HX := Aside0.mk hx1
  clear ho hb hg hh hx1
  go_wp2
  go_ret
  refine ⟨rfl, impl_Entity_52.tail_S HOO.out _ (Nat.le_refl _) (by show (xs.length - 1) * 2 + 2 ≤ c * 2; have := HN.out; have := HX.out; omega), ?_, ?_⟩
  · obtain ⟨h1, h2, h3, h4⟩ := setCells_same g [.int .i64 0, .slice none 0 0] ((xs.length - 1) * 2) w1
    have hgg := Kd.S_base HOO.out g rfl
    exact ⟨h1.trans HBB.out.os, h2.trans HBB.out.tape, h3.trans HBB.out.output, by rw [h4]; exact HBB.out.size, fun k hk => (setCells_far _ _ k (by omega)).trans (HBB.out.block k hk)⟩
  · have h2 := impl_Entity_52.grown w1 g ((xs.length - 1) * 2) [.int .i64 0, .slice none 0 0]
    exact ⟨h2.os.trans HGG.out.os, h2.tape.trans HGG.out.tape, h2.output.trans HGG.out.output, Nat.le_trans HGG.out.size h2.size, fun k hk hne => (h2.block k (Nat.lt_of_lt_of_le hk HGG.out.size) hne).trans (HGG.out.block k hk hne)⟩
theorem impl_Entity_52.calls (xs : List (S76)) (i : Int) (g c : Nat) (ok : Nat → Prop) (w0 w : World) (HB : Below w0.heap.size w0 w) (HO : Kd.S k76 76 w w0.heap.size ok (.slice (some ⟨g, 0, none⟩) xs.length c) xs) (h0 : 0 ≤ i) (h1 : i < (xs.length : Int)) :
    Calls Try.prog 52 #[.slice (some ⟨g, 0, none⟩) xs.length c, .int .i64 i, .int .i64 (wrap64 (i + 1))] w fun e w' => e = .returned (.slice (some ⟨g, 0, none⟩) (xs.length - 1) c) ∧ Kd.S k76 76 w' w0.heap.size ok (.slice (some ⟨g, 0, none⟩) (xs.length - 1) c) (xs.eraseIdx i.toNat) ∧ Below w0.heap.size w0 w' ∧ w.grownBy w' (some g) := by
  have hcm : c ≤ maxLen := by
    obtain ⟨_, inner, ⟨_, hown⟩, _⟩ := Kd.S_R HO
    rcases hown with ⟨hv, _⟩ | ⟨g', cap, cur, hv, _, _, _, hcap, _, _⟩
    · cases hv
    · injection hv with _ _ h3; subst h3; exact hcap
  have hn : xs.length ≤ c := (Kd.S_reads' HO).2.1
  unfold maxLen at hcm
  have e1 : wrap64 (i + 1) = ((i.toNat + 1 : Nat) : Int) := by unfold wrap64; omega
  have h := impl_Entity_52.goes xs i.toNat (i.toNat + 1) g c ok w0 w rfl HB HO (by omega)
  rw [Int.toNat_of_nonneg h0, ← e1] at h
  exact h

end Go.Proofs.Ytjbkagmfkcoclaa.XFnExactDespawn

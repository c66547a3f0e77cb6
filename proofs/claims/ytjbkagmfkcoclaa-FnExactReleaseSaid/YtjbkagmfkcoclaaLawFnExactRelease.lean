-- Lean text written by a program of this session out of the translation
import Derived.Test.YtjbkagmfkcoclaaRows
import Derived.Test.YtjbkagmfkcoclaaXFnExactReleasex9
import Derived.Test.YtjbkagmfkcoclaaPureFnExactRelease
import Derived.Test.YtjbkagmfkcoclaaXOpenFnExactRelease
import Derived.WalkKit
import Derived.ProofKit
import Derived.OpenShut
import Derived.ShutString
import Derived.ChangeOld
import Derived.Below
import Derived.SizedLaws
import Derived.Lib.SmallJoins
namespace Go.Proofs.Ytjbkagmfkcoclaa.fnExactRelease
open Go.ChangeShapes Go.WideShapes Go.ChangeAt Go.RowKit Go.Joins Go.Proofs.Ytjbkagmfkcoclaa.XOpen Go.Proofs.Ytjbkagmfkcoclaa.XFnExactRelease Go.Proofs.YtjbkagmfkcoclaaW.PrintWords
open Go.ChangeMaps (open_string shut_string)
set_option linter.unusedVariables false
theorem own : ownKnob Try.prog.godebug = none := by kernel_rfl
theorem laidOut : laidOutB Try.prog = true := by kernel_rfl
set_option maxRecDepth 100000 in
theorem lifted (os : Os) (started : os.Started) (H : Type) (enc : TypeId × Value → H) :
    ReturnsInHanded {} Try.checked os 6 .any (Rows.fnExactReleaseSpec.pre6 enc Try.prog Try.f6 Rows.fnExactReleaseRow.domain false) (Rows.fnExactReleaseSpec.post enc Try.prog Try.f6 false true false false) := by
  refine returnsInHanded_of_change_sized (C := Try.checked) own started (by kernel_rfl) Try.func6
    (ChangeSpec.witness6 (enc := enc) (C := Try.checked) false ⟨#[], #[.agg #[.int .i64 0, .int .i64 0, .slice none 0 0], .string ByteArray.empty], []⟩ 8 (by kernel_rfl) (by kernel_rfl) (by kernel_rfl) (by kernel_rfl)) ?_
  intro W base args ds gs before hval0 hW hcnd hsz0 _
  have hval : ∀ (j : Nat) t v, Try.f6.params[j]? = some t → args[j]? = some v → Value.okWide Try.prog W .any base t v := hval0
  have hW' := hW
  obtain ⟨p, q, hA0, hV, rfl, hfz, hnd⟩ := hW
  have hA : DataW.TrodAll enc Try.prog W 0 (fun _ => true) true Try.f6.params.toList args.toList ds p := hA0
  rw [Try.params6] at hA hval
  obtain ⟨v0, vs0, d0, ds0, p0, q0, hargs, rfl, rfl, h0, r0⟩ := trodAll_cons hA
  obtain ⟨v1, vs1, d1, ds1, p1, q1, rfl, rfl, rfl, h1, r1⟩ := trodAll_cons r0
  obtain ⟨rfl, rfl, rfl⟩ := trodAll_nil r1
  obtain rfl : args = #[v0, v1] := by cases args; simp_all
  obtain ⟨rfl, rfl⟩ := trodVars_none hV
  have k0 := h0
  have lt0 : ∀ x ∈ p0, x.block < W.heap.size := by obtain ⟨m, hm⟩ := k0; exact DataW.trod_lt m _ _ _ hm
  obtain ⟨e0_0, e0_1, e0_2, z0_0, z0_1, z0_2, m0, rfl, _, _, hy0_0, hy0_1, hy0_2⟩ := open_agg3 Try.underlying42 (by kernel_rfl) (by kernel_rfl) (hval 0 42 v0 rfl rfl) h0
  obtain ⟨a0_0, he0_0, g0_0⟩ := (opens_int Try.underlying3) hy0_0
  obtain rfl : e0_0 = .int .i64 a0_0 := (List.cons.inj he0_0).1
  obtain ⟨a0_1, he0_1, g0_1⟩ := (opens_int Try.underlying3) hy0_1
  obtain rfl : e0_1 = .int .i64 a0_1 := (List.cons.inj he0_1).1
  obtain ⟨l0_2, ⟨A0_2, c0_2, he0_2, hc0_2, hr0_2⟩, g0_2⟩ := (opens_slice (d := k138) Try.underlying40 (by kernel_rfl) (show Opens Try.prog k138 138 _ from opens_struct Try.underlying138 (by kernel_rfl) (opensFs_cons (opens_string Try.underlying9) rfl (by kernel_rfl) (opensFs_cons (opens_int Try.underlying3) rfl (by kernel_rfl) (opensFs_cons (opens_int Try.underlying3) rfl (by kernel_rfl) (opensFs_one (opens_int Try.underlying3) rfl (by kernel_rfl))))) _ (fun x => ⟨x.1, x.2.1, x.2.2.1, x.2.2.2⟩) (fun _ => rfl))) hy0_2
  obtain rfl : e0_2 = .slice A0_2 l0_2.length c0_2 := (List.cons.inj he0_2).1
  obtain ⟨a1, rfl, rfl, rfl, y1⟩ := open_string Try.underlying9 (hval 1 9 v1 rfl rfl) h1
  clear hA0 hval0 hsz0
  refine (XFnExactRelease.laws_FnExactRelease.walk Pure.FnExactRelease a0_0 a0_1 _ _ l0_2 a1 W g0_0 g0_1 hr0_2 hc0_2 g0_2 y1).mono fun e W' ⟨he, bel⟩ => ?_
  subst he
  exact ⟨_, rfl, _, _, _, [], _, [], hW', trodAll_mk1 (shut_bool Try.underlying4 _), (trodAll_cons_mk (Below.trod laidOut (by kernel_rfl) (of_decide_eq_true (by kernel_rfl)) k0 bel lt0) (trodAll_cons_mk (shut_string Try.underlying9 y1) trodAll_mk0)), rfl, bel.frame _, fun h => by cases h⟩
theorem over : Rows.fnExactReleaseRow.holds Try.pinned (OpenSpec.ofChange Rows.fnExactReleaseSpec) :=
  OpenClaim.holds_of_wide 6 Try.f6 rfl rfl rfl rfl rfl rfl rfl ⟨rfl, rfl, rfl, rfl, rfl⟩ rfl rfl rfl rfl rfl (by kernel_rfl) Try.func6 (by kernel_rfl)
    (of_decide_eq_true (by kernel_rfl)) (by unfold Func.isWrapper; first | (rw [if_pos (by decide +kernel)]; kernel_rfl) | (rw [if_neg (by decide +kernel)]; exact ⟨rfl, rfl⟩))
    (fun os started H enc _ => lifted os started H enc)
theorem proved : Rows.FnExactReleaseSaid := over
#print axioms proved
end Go.Proofs.Ytjbkagmfkcoclaa.fnExactRelease
namespace Go.Proofs.Ytjbkagmfkcoclaa
/-- The row, under a short name, for the claim. -/
theorem fnExactRelease_holds : Rows.FnExactReleaseSaid := fnExactRelease.proved
end Go.Proofs.Ytjbkagmfkcoclaa

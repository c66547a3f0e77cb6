-- Lean text written by a program of this session out of the translation
import Derived.Test.YtnebjoanfknmeaaProg
import Derived.Below
import Derived.Deep.Draws
import Derived.Deep.AppendLies
import Derived.Maps.AppendAt
import Derived.OwnWalk
import Derived.Laws.BytesArg
import Derived.Laws.MakeOwn
import Derived.Laws.OwnMore
import Derived.Deep.OwnRows
import Derived.Tactics
import Derived.Lib.ConvBytes
import Derived.Laws.Slices
import Derived.WalkKit
import Derived.KernelRfl
import Derived.RowKit3
import Derived.Deep.LoopGhost
import Derived.Deep.QuietTactic
import Derived.BigQuiet
import Derived.WideLaws
import Derived.Deep.DeepCutAuto
import Derived.Deep.CutBlock
import Derived.Deep.RegionHeld3
import Derived.Laws.Rows
import Derived.Lib.AppendStr
import Derived.ArgAppend
import Derived.Laws.IdiomCopy
import Derived.OrdersHeld
import Derived.Laws.BitsLemmas
import Derived.RowKit
import Derived.Laws.Externs
import Derived.Test.YtnebjoanfknmeaaWWords
import Derived.Test.YtnebjoanfknmeaaWLast
import Derived.Test.YtnebjoanfknmeaaWTab
import Derived.Test.YtnebjoanfknmeaaWFour
import Derived.Test.YtnebjoanfknmeaaWQPut
import Derived.Test.YtnebjoanfknmeaaWApart
import Derived.Test.YtnebjoanfknmeaaWArr
import Derived.Test.YtnebjoanfknmeaaWZeros
import Derived.Test.YtnebjoanfknmeaaWFoot
import Derived.Test.YtnebjoanfknmeaaWKept
import Derived.Test.YtnebjoanfknmeaaWShare
import Derived.Test.YtnebjoanfknmeaaWN
import Derived.Test.YtnebjoanfknmeaaWFootNe
import Derived.Test.YtnebjoanfknmeaaWAt
import Derived.Test.YtnebjoanfknmeaaWEqStruct
import Derived.Test.YtnebjoanfknmeaaWRepsOne
import Derived.Test.YtnebjoanfknmeaaWInv
import Derived.Test.YtnebjoanfknmeaaWInvWords
import Derived.Test.YtnebjoanfknmeaaWGuard
import Derived.Test.YtnebjoanfknmeaaWNEv
import Derived.Test.YtnebjoanfknmeaaWMore
namespace Go.Proofs.Ytnebjoanfknmeaa.XFnFixed
open Go.RowKit Go.Proofs.YtnebjoanfknmeaaW.PrintWords Go.Proofs.YtnebjoanfknmeaaW.PrintLast Go.Proofs.YtnebjoanfknmeaaW.PrintMore
attribute [local go_sem] max2_int min2_int max_two min_two max_three min_three max_four min_four   -- for this text's walks alone
set_option linter.unusedVariables false
set_option linter.unusedSimpArgs false



def errW : Option Int → Value
  | none => .nilIface
  | some c => .iface 0 (.int .i64 c)
theorem errW_none : errW none = .nilIface := rfl
theorem errW_some (c : Int) : errW (some c) = .iface 0 (.int .i64 c) := rfl

theorem info3 : (Try.prog.info? 3).map (fun i => (i.zero, i.size, i.bytes)) = some (some (.int .i64 0), 1, 8) := by kernel_rfl
-- the values' own types

/-- The two halves of a sum, as the model's own entry of math/bits.Add64 has them (no carry comes in). -/
def add64lo (x y : Int) : Int := ((x.toNat + y.toNat) % 18446744073709551616 : Nat)
def add64hi (x y : Int) : Int := ((x.toNat + y.toNat) / 18446744073709551616 : Nat)
theorem xadd64 (x y : Int) (w : World) : (callFunc 63 #[.int .u64 x, .int .u64 y, .int .u64 0]).run Try.prog w = .ok (.value (.tuple #[.int .u64 (add64lo x y), .int .u64 (add64hi x y)])) w := by
  rw [run_callFunc_extern Try.func63 (by kernel_rfl) (by kernel_rfl) (by kernel_rfl) (e := add64Entry) (by kernel_rfl)]
  rfl

end Go.Proofs.Ytnebjoanfknmeaa.XFnFixed

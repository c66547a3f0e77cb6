/-
  No cell of these rows narrows 'for every input' (looked for: loops, veiled, ifaces, maps, wideKeys, modest, calm, conditions, laid).
  DERIVED. THE GIVEN ROWS OF THIS SEAT. 6 by the template 'for every input the law returns true; each argument reads behind the call as it read before'; 0 by the template 'total and deterministic' (their statements: YtjbkagmfkcoclaaTotals.lean).
  GIVEN WITH THE SEED: the statements are not yours to turn. If you find one false, say at which input.
  Laid BY PROGRAM, IN A SANDBOX (cutbox-rows.mjs): the forced cells as the released guide's own fill.sh prints them over the translation f087af1a3b779f87… (all of the seat's roots in one cut). By AI agents, Wed Nov 11 2026. No macro, syntax, notation, axiom, sorry.
-/
import Derived.Test.YtjbkagmfkcoclaaChecked
import GoSem.Claim
import GoSem.ClaimJoined
import GoSem.ClaimMapViews
import Derived.JoinedTies
import Derived.KernelRfl
namespace Go.Proofs.Ytjbkagmfkcoclaa
/- THE CELL 'sum', in the pinned program and in every row, IS THE sha256 OF THE DUMP (.gsa) THAT YtjbkagmfkcoclaaProg.lean LOADS. Nothing in Lean hashes anything: it is a label: what it is worth is what the hold of that sum in a sandbox is worth. -/
noncomputable def Try.pinned : Pinned := { name := "ytjbkagmfkcoclaa", sum := "f087af1a3b779f873df358e75bd2057cabf6c219c8bfe589d2a7978ed1b80a15", checked := Try.checked }
namespace Rows
def none {H : Type} : Left H := { results := [], args := [] }

/-- 'laws.FnExactSpawn': WHATEVER THE INPUT: true; the input reads as it did. -/
def fnExactSpawnSpec : ChangeSpec := { name := "fnExactSpawn", fn := fun _ => fun
  | [d] => { results := [.lit (.bool true)], args := [d] }
  | _ => none }
def fnExactSpawnRow : OpenClaim := { program := "ytjbkagmfkcoclaa", sum := "f087af1a3b779f873df358e75bd2057cabf6c219c8bfe589d2a7978ed1b80a15", func := "loop.example/g00064/laws.FnExactSpawn", spec := "fnExactSpawn", apart := false }
def FnExactSpawnSaid : Prop := fnExactSpawnRow.holds Try.pinned (OpenSpec.ofChange fnExactSpawnSpec)

/-- ITS FALSE NEIGHBOUR: 'it returns false'. Refute it at one input. -/
def fnExactSpawnWrong : ChangeSpec := { name := "fnExactSpawn", fn := fun _ => fun
  | [d] => { results := [.lit (.bool false)], args := [d] }
  | _ => none }
def FnExactSpawnWrongFalsely : Prop := fnExactSpawnRow.holds Try.pinned (OpenSpec.ofChange fnExactSpawnWrong)

/-- 'laws.FnExactDespawn': WHATEVER THE INPUT: true; the input reads as it did. -/
def fnExactDespawnSpec : ChangeSpec := { name := "fnExactDespawn", fn := fun _ => fun
  | [d1, d2] => { results := [.lit (.bool true)], args := [d1, d2] }
  | _ => none }
def fnExactDespawnRow : OpenClaim := { program := "ytjbkagmfkcoclaa", sum := "f087af1a3b779f873df358e75bd2057cabf6c219c8bfe589d2a7978ed1b80a15", func := "loop.example/g00064/laws.FnExactDespawn", spec := "fnExactDespawn", unfollowed := true, recurses := true, apart := false }
def FnExactDespawnSaid : Prop := fnExactDespawnRow.holds Try.pinned (OpenSpec.ofChange fnExactDespawnSpec)

/-- ITS FALSE NEIGHBOUR: 'it returns false'. Refute it at one input. -/
def fnExactDespawnWrong : ChangeSpec := { name := "fnExactDespawn", fn := fun _ => fun
  | [d1, d2] => { results := [.lit (.bool false)], args := [d1, d2] }
  | _ => none }
def FnExactDespawnWrongFalsely : Prop := fnExactDespawnRow.holds Try.pinned (OpenSpec.ofChange fnExactDespawnWrong)

/-- 'laws.FnExactDropPart': WHATEVER THE INPUT: true; the input reads as it did. -/
def fnExactDropPartSpec : ChangeSpec := { name := "fnExactDropPart", fn := fun _ => fun
  | [d1, d2, d3] => { results := [.lit (.bool true)], args := [d1, d2, d3] }
  | _ => none }
def fnExactDropPartRow : OpenClaim := { program := "ytjbkagmfkcoclaa", sum := "f087af1a3b779f873df358e75bd2057cabf6c219c8bfe589d2a7978ed1b80a15", func := "loop.example/g00064/laws.FnExactDropPart", spec := "fnExactDropPart", inPlace := ["internal/bytealg.abigen_runtime_cmpstring"], unfollowed := true, recurses := true, apart := false }
def FnExactDropPartSaid : Prop := fnExactDropPartRow.holds Try.pinned (OpenSpec.ofChange fnExactDropPartSpec)

/-- ITS FALSE NEIGHBOUR: 'it returns false'. Refute it at one input. -/
def fnExactDropPartWrong : ChangeSpec := { name := "fnExactDropPart", fn := fun _ => fun
  | [d1, d2, d3] => { results := [.lit (.bool false)], args := [d1, d2, d3] }
  | _ => none }
def FnExactDropPartWrongFalsely : Prop := fnExactDropPartRow.holds Try.pinned (OpenSpec.ofChange fnExactDropPartWrong)

/-- 'laws.FnExactRelease': WHATEVER THE INPUT: true; the input reads as it did. -/
def fnExactReleaseSpec : ChangeSpec := { name := "fnExactRelease", fn := fun _ => fun
  | [d1, d2] => { results := [.lit (.bool true)], args := [d1, d2] }
  | _ => none }
def fnExactReleaseRow : OpenClaim := { program := "ytjbkagmfkcoclaa", sum := "f087af1a3b779f873df358e75bd2057cabf6c219c8bfe589d2a7978ed1b80a15", func := "loop.example/g00064/laws.FnExactRelease", spec := "fnExactRelease", inPlace := ["internal/bytealg.abigen_runtime_cmpstring"], unfollowed := true, recurses := true, apart := false }
def FnExactReleaseSaid : Prop := fnExactReleaseRow.holds Try.pinned (OpenSpec.ofChange fnExactReleaseSpec)

/-- ITS FALSE NEIGHBOUR: 'it returns false'. Refute it at one input. -/
def fnExactReleaseWrong : ChangeSpec := { name := "fnExactRelease", fn := fun _ => fun
  | [d1, d2] => { results := [.lit (.bool false)], args := [d1, d2] }
  | _ => none }
def FnExactReleaseWrongFalsely : Prop := fnExactReleaseRow.holds Try.pinned (OpenSpec.ofChange fnExactReleaseWrong)

/-- 'laws.FnExactNextMatch': WHATEVER THE INPUT: true; the input reads as it did. -/
def fnExactNextMatchSpec : ChangeSpec := { name := "fnExactNextMatch", fn := fun _ => fun
  | [d1, d2] => { results := [.lit (.bool true)], args := [d1, d2] }
  | _ => none }
def fnExactNextMatchRow : OpenClaim := { program := "ytjbkagmfkcoclaa", sum := "f087af1a3b779f873df358e75bd2057cabf6c219c8bfe589d2a7978ed1b80a15", func := "loop.example/g00064/laws.FnExactNextMatch", spec := "fnExactNextMatch", unfollowed := true, recurses := true, apart := false }
def FnExactNextMatchSaid : Prop := fnExactNextMatchRow.holds Try.pinned (OpenSpec.ofChange fnExactNextMatchSpec)

/-- ITS FALSE NEIGHBOUR: 'it returns false'. Refute it at one input. -/
def fnExactNextMatchWrong : ChangeSpec := { name := "fnExactNextMatch", fn := fun _ => fun
  | [d1, d2] => { results := [.lit (.bool false)], args := [d1, d2] }
  | _ => none }
def FnExactNextMatchWrongFalsely : Prop := fnExactNextMatchRow.holds Try.pinned (OpenSpec.ofChange fnExactNextMatchWrong)

/-- 'laws.FnExactFairTeams': WHATEVER THE INPUT: true; the input reads as it did. -/
def fnExactFairTeamsSpec : ChangeSpec := { name := "fnExactFairTeams", fn := fun _ => fun
  | [d] => { results := [.lit (.bool true)], args := [d] }
  | _ => none }
def fnExactFairTeamsRow : OpenClaim := { program := "ytjbkagmfkcoclaa", sum := "f087af1a3b779f873df358e75bd2057cabf6c219c8bfe589d2a7978ed1b80a15", func := "loop.example/g00064/laws.FnExactFairTeams", spec := "fnExactFairTeams", apart := false }
def FnExactFairTeamsSaid : Prop := fnExactFairTeamsRow.holds Try.pinned (OpenSpec.ofChange fnExactFairTeamsSpec)

/-- ITS FALSE NEIGHBOUR: 'it returns false'. Refute it at one input. -/
def fnExactFairTeamsWrong : ChangeSpec := { name := "fnExactFairTeams", fn := fun _ => fun
  | [d] => { results := [.lit (.bool false)], args := [d] }
  | _ => none }
def FnExactFairTeamsWrongFalsely : Prop := fnExactFairTeamsRow.holds Try.pinned (OpenSpec.ofChange fnExactFairTeamsWrong)

/- THE SECOND FORM. 'bulk': how many values and letters a reading holds, each counted each time it is reached (what is shared counts as often as it is met; a slice's spare places count too). A statement '..UptoSaid' is the law's where the arguments, and the package variables that the reading takes, are together of bulk at most 1048576: NARROWER than '..Said'. Prove '..Said' where nothing that the law and all that it calls make is longer than what came in: it says more and counts as full. Else prove '..UptoSaid'. A law counts once. -/
mutual
def uptoBulk {H : Type} : DataW H → Nat
  | .lit (.string bytes) => bytes.length + 1
  | .lit _ => 1
  | .nil => 1
  | .ptr d => uptoBulk d + 1
  | .slice elems spare => uptoBulkAll elems + uptoBulkAll spare + 1
  | .agg parts => uptoBulkAll parts + 1
  | .iface _ d => uptoBulk d + 1
  | .map entries => uptoBulkEntries entries + 1
  | .held _ => 1
def uptoBulkAll {H : Type} : List (DataW H) → Nat
  | [] => 0
  | d :: r => uptoBulk d + uptoBulkAll r
def uptoBulkEntries {H : Type} : List (Lit × DataW H) → Nat
  | [] => 0
  | x :: r => uptoBulkEntry x + uptoBulkEntries r
def uptoBulkEntry {H : Type} : Lit × DataW H → Nat
  | (.string bytes, d) => bytes.length + uptoBulk d + 1
  | (_, d) => uptoBulk d + 1
 end
def uptoSmall : (H : Type) → List (DataW H) → Bool := fun _ ds => decide (uptoBulkAll ds ≤ 1048576)
def OpenSpec.upto (s : _root_.Go.ChangeSpec) : _root_.Go.OpenSpec := { _root_.Go.OpenSpec.ofChange s with cond := some uptoSmall }

/-- 'laws.FnExactSpawn', WHERE WHAT IT READS IS OF BULK AT MOST 1048576: true; the input reads as it did. -/
def fnExactSpawnUptoRow : OpenClaim := { program := "ytjbkagmfkcoclaa", sum := "f087af1a3b779f873df358e75bd2057cabf6c219c8bfe589d2a7978ed1b80a15", func := "loop.example/g00064/laws.FnExactSpawn", spec := "fnExactSpawn", apart := false, narrowed := true }
def FnExactSpawnUptoSaid : Prop := fnExactSpawnUptoRow.holds Try.pinned (OpenSpec.upto fnExactSpawnSpec)

/-- 'laws.FnExactDespawn', WHERE WHAT IT READS IS OF BULK AT MOST 1048576: true; the input reads as it did. -/
def fnExactDespawnUptoRow : OpenClaim := { program := "ytjbkagmfkcoclaa", sum := "f087af1a3b779f873df358e75bd2057cabf6c219c8bfe589d2a7978ed1b80a15", func := "loop.example/g00064/laws.FnExactDespawn", spec := "fnExactDespawn", unfollowed := true, recurses := true, apart := false, narrowed := true }
def FnExactDespawnUptoSaid : Prop := fnExactDespawnUptoRow.holds Try.pinned (OpenSpec.upto fnExactDespawnSpec)

/-- 'laws.FnExactDropPart', WHERE WHAT IT READS IS OF BULK AT MOST 1048576: true; the input reads as it did. -/
def fnExactDropPartUptoRow : OpenClaim := { program := "ytjbkagmfkcoclaa", sum := "f087af1a3b779f873df358e75bd2057cabf6c219c8bfe589d2a7978ed1b80a15", func := "loop.example/g00064/laws.FnExactDropPart", spec := "fnExactDropPart", inPlace := ["internal/bytealg.abigen_runtime_cmpstring"], unfollowed := true, recurses := true, apart := false, narrowed := true }
def FnExactDropPartUptoSaid : Prop := fnExactDropPartUptoRow.holds Try.pinned (OpenSpec.upto fnExactDropPartSpec)

/-- 'laws.FnExactRelease', WHERE WHAT IT READS IS OF BULK AT MOST 1048576: true; the input reads as it did. -/
def fnExactReleaseUptoRow : OpenClaim := { program := "ytjbkagmfkcoclaa", sum := "f087af1a3b779f873df358e75bd2057cabf6c219c8bfe589d2a7978ed1b80a15", func := "loop.example/g00064/laws.FnExactRelease", spec := "fnExactRelease", inPlace := ["internal/bytealg.abigen_runtime_cmpstring"], unfollowed := true, recurses := true, apart := false, narrowed := true }
def FnExactReleaseUptoSaid : Prop := fnExactReleaseUptoRow.holds Try.pinned (OpenSpec.upto fnExactReleaseSpec)

/-- 'laws.FnExactNextMatch', WHERE WHAT IT READS IS OF BULK AT MOST 1048576: true; the input reads as it did. -/
def fnExactNextMatchUptoRow : OpenClaim := { program := "ytjbkagmfkcoclaa", sum := "f087af1a3b779f873df358e75bd2057cabf6c219c8bfe589d2a7978ed1b80a15", func := "loop.example/g00064/laws.FnExactNextMatch", spec := "fnExactNextMatch", unfollowed := true, recurses := true, apart := false, narrowed := true }
def FnExactNextMatchUptoSaid : Prop := fnExactNextMatchUptoRow.holds Try.pinned (OpenSpec.upto fnExactNextMatchSpec)

/-- 'laws.FnExactFairTeams', WHERE WHAT IT READS IS OF BULK AT MOST 1048576: true; the input reads as it did. -/
def fnExactFairTeamsUptoRow : OpenClaim := { program := "ytjbkagmfkcoclaa", sum := "f087af1a3b779f873df358e75bd2057cabf6c219c8bfe589d2a7978ed1b80a15", func := "loop.example/g00064/laws.FnExactFairTeams", spec := "fnExactFairTeams", apart := false, narrowed := true }
def FnExactFairTeamsUptoSaid : Prop := fnExactFairTeamsUptoRow.holds Try.pinned (OpenSpec.upto fnExactFairTeamsSpec)

end Rows
end Go.Proofs.Ytjbkagmfkcoclaa

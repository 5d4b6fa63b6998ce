/-
  No cell of these rows narrows 'for every input' (looked for: loops, veiled, ifaces, maps, wideKeys, modest, calm, conditions, laid).
  DERIVED. THE GIVEN ROWS OF THIS SEAT. 3 by the template 'for every input the law returns true; each argument reads behind the call as it read before'; 0 by the template 'total and deterministic' (their statements: YtlhjbpachpjpkaaTotals.lean).
  GIVEN WITH THE SEED: the statements are not yours to turn. If you find one false, say at which input.
  Laid BY PROGRAM, IN A SANDBOX (cutbox-rows.mjs): the forced cells as the released guide's own fill.sh prints them over the translation 7e0f9f9d6a05aa07… (all of the seat's roots in one cut). By AI agents, Wed Nov 11 2026. No macro, syntax, notation, axiom, sorry.
-/
import Derived.Test.YtlhjbpachpjpkaaChecked
import GoSem.Claim
import GoSem.ClaimJoined
import GoSem.ClaimMapViews
import Derived.JoinedTies
import Derived.KernelRfl
namespace Go.Proofs.Ytlhjbpachpjpkaa
/- THE CELL 'sum', in the pinned program and in every row, IS THE sha256 OF THE DUMP (.gsa) THAT YtlhjbpachpjpkaaProg.lean LOADS. Nothing in Lean hashes anything: it is a label: what it is worth is what the hold of that sum in a sandbox is worth. -/
noncomputable def Try.pinned : Pinned := { name := "ytlhjbpachpjpkaa", sum := "7e0f9f9d6a05aa07eb2ec9fc14c13087a370043b8712200836e92e16f8d44f62", checked := Try.checked }
namespace Rows
def none {H : Type} : Left H := { results := [], args := [] }

/-- 'laws.FnConvex': WHATEVER THE INPUT: true; the input reads as it did. -/
def fnConvexSpec : ChangeSpec := { name := "fnConvex", fn := fun _ => fun
  | [d] => { results := [.lit (.bool true)], args := [d] }
  | _ => none }
def fnConvexRow : OpenClaim := { program := "ytlhjbpachpjpkaa", sum := "7e0f9f9d6a05aa07eb2ec9fc14c13087a370043b8712200836e92e16f8d44f62", func := "loop.example/g00860/laws.FnConvex", spec := "fnConvex", unfollowed := true, recurses := true, apart := false }
def FnConvexSaid : Prop := fnConvexRow.holds Try.pinned (OpenSpec.ofChange fnConvexSpec)

/-- ITS FALSE NEIGHBOUR: 'it returns false'. Refute it at one input. -/
def fnConvexWrong : ChangeSpec := { name := "fnConvex", fn := fun _ => fun
  | [d] => { results := [.lit (.bool false)], args := [d] }
  | _ => none }
def FnConvexWrongFalsely : Prop := fnConvexRow.holds Try.pinned (OpenSpec.ofChange fnConvexWrong)

/-- 'laws.FnBuilt': WHATEVER THE INPUT: true; the input reads as it did. -/
def fnBuiltSpec : ChangeSpec := { name := "fnBuilt", fn := fun _ => fun
  | [d] => { results := [.lit (.bool true)], args := [d] }
  | _ => none }
def fnBuiltRow : OpenClaim := { program := "ytlhjbpachpjpkaa", sum := "7e0f9f9d6a05aa07eb2ec9fc14c13087a370043b8712200836e92e16f8d44f62", func := "loop.example/g00860/laws.FnBuilt", spec := "fnBuilt", unfollowed := true, recurses := true, apart := false }
def FnBuiltSaid : Prop := fnBuiltRow.holds Try.pinned (OpenSpec.ofChange fnBuiltSpec)

/-- ITS FALSE NEIGHBOUR: 'it returns false'. Refute it at one input. -/
def fnBuiltWrong : ChangeSpec := { name := "fnBuilt", fn := fun _ => fun
  | [d] => { results := [.lit (.bool false)], args := [d] }
  | _ => none }
def FnBuiltWrongFalsely : Prop := fnBuiltRow.holds Try.pinned (OpenSpec.ofChange fnBuiltWrong)

/-- 'laws.FnExactGreatestPath': WHATEVER THE INPUT: true; the input reads as it did. -/
def fnExactGreatestPathSpec : ChangeSpec := { name := "fnExactGreatestPath", fn := fun _ => fun
  | [d1, d2] => { results := [.lit (.bool true)], args := [d1, d2] }
  | _ => none }
def fnExactGreatestPathRow : OpenClaim := { program := "ytlhjbpachpjpkaa", sum := "7e0f9f9d6a05aa07eb2ec9fc14c13087a370043b8712200836e92e16f8d44f62", func := "loop.example/g00860/laws.FnExactGreatestPath", spec := "fnExactGreatestPath", unfollowed := true, recurses := true, apart := false }
def FnExactGreatestPathSaid : Prop := fnExactGreatestPathRow.holds Try.pinned (OpenSpec.ofChange fnExactGreatestPathSpec)

/-- ITS FALSE NEIGHBOUR: 'it returns false'. Refute it at one input. -/
def fnExactGreatestPathWrong : ChangeSpec := { name := "fnExactGreatestPath", fn := fun _ => fun
  | [d1, d2] => { results := [.lit (.bool false)], args := [d1, d2] }
  | _ => none }
def FnExactGreatestPathWrongFalsely : Prop := fnExactGreatestPathRow.holds Try.pinned (OpenSpec.ofChange fnExactGreatestPathWrong)

/- THE SECOND FORM. 'bulk': how many values and letters a reading holds, each counted each time it is reached (what is shared counts as often as it is met; a slice's spare places count too). A statement '..UptoSaid' is the law's where the arguments, and the package variables that the reading takes, are together of bulk at most 1048576: NARROWER than '..Said'. Prove '..Said' where nothing that the law and all that it calls make is longer than what came in: it says more and counts as full. Else prove '..UptoSaid'. A law counts once. -/
mutual
def uptoBulk {H : Type} : DataW H → Nat
  | .lit (.string bytes) => bytes.length + 1
  | .lit _ => 1
  | .nil => 1
  | .ptr d => uptoBulk d + 1
  | .slice elems spare => uptoBulkAll elems + uptoBulkAll spare + 1
  | .agg parts => uptoBulkAll parts + 1
  | .iface _ d => uptoBulk d + 1
  | .map entries => uptoBulkEntries entries + 1
  | .held _ => 1
def uptoBulkAll {H : Type} : List (DataW H) → Nat
  | [] => 0
  | d :: r => uptoBulk d + uptoBulkAll r
def uptoBulkEntries {H : Type} : List (Lit × DataW H) → Nat
  | [] => 0
  | x :: r => uptoBulkEntry x + uptoBulkEntries r
def uptoBulkEntry {H : Type} : Lit × DataW H → Nat
  | (.string bytes, d) => bytes.length + uptoBulk d + 1
  | (_, d) => uptoBulk d + 1
 end
def uptoSmall : (H : Type) → List (DataW H) → Bool := fun _ ds => decide (uptoBulkAll ds ≤ 1048576)
def OpenSpec.upto (s : _root_.Go.ChangeSpec) : _root_.Go.OpenSpec := { _root_.Go.OpenSpec.ofChange s with cond := some uptoSmall }

/-- 'laws.FnConvex', WHERE WHAT IT READS IS OF BULK AT MOST 1048576: true; the input reads as it did. -/
def fnConvexUptoRow : OpenClaim := { program := "ytlhjbpachpjpkaa", sum := "7e0f9f9d6a05aa07eb2ec9fc14c13087a370043b8712200836e92e16f8d44f62", func := "loop.example/g00860/laws.FnConvex", spec := "fnConvex", unfollowed := true, recurses := true, apart := false, narrowed := true }
def FnConvexUptoSaid : Prop := fnConvexUptoRow.holds Try.pinned (OpenSpec.upto fnConvexSpec)

/-- 'laws.FnBuilt', WHERE WHAT IT READS IS OF BULK AT MOST 1048576: true; the input reads as it did. -/
def fnBuiltUptoRow : OpenClaim := { program := "ytlhjbpachpjpkaa", sum := "7e0f9f9d6a05aa07eb2ec9fc14c13087a370043b8712200836e92e16f8d44f62", func := "loop.example/g00860/laws.FnBuilt", spec := "fnBuilt", unfollowed := true, recurses := true, apart := false, narrowed := true }
def FnBuiltUptoSaid : Prop := fnBuiltUptoRow.holds Try.pinned (OpenSpec.upto fnBuiltSpec)

/-- 'laws.FnExactGreatestPath', WHERE WHAT IT READS IS OF BULK AT MOST 1048576: true; the input reads as it did. -/
def fnExactGreatestPathUptoRow : OpenClaim := { program := "ytlhjbpachpjpkaa", sum := "7e0f9f9d6a05aa07eb2ec9fc14c13087a370043b8712200836e92e16f8d44f62", func := "loop.example/g00860/laws.FnExactGreatestPath", spec := "fnExactGreatestPath", unfollowed := true, recurses := true, apart := false, narrowed := true }
def FnExactGreatestPathUptoSaid : Prop := fnExactGreatestPathUptoRow.holds Try.pinned (OpenSpec.upto fnExactGreatestPathSpec)

end Rows
end Go.Proofs.Ytlhjbpachpjpkaa

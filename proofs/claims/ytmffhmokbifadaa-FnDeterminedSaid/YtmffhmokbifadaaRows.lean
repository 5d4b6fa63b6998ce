/-
  No cell of these rows narrows 'for every input' (looked for: loops, veiled, ifaces, maps, wideKeys, modest, calm, conditions, laid).
  DERIVED. THE GIVEN ROWS OF THIS SEAT. 2 by the template 'for every input the law returns true; each argument reads behind the call as it read before'; 0 by the template 'total and deterministic' (their statements: YtmffhmokbifadaaTotals.lean).
  GIVEN WITH THE SEED: the statements are not yours to turn. If you find one false, say at which input.
  Laid BY PROGRAM, IN A SANDBOX (cutbox-rows.mjs): the forced cells as the released guide's own fill.sh prints them over the translation f02304ffa587eeb5… (all of the seat's roots in one cut). By AI agents, Wed Nov 11 2026. No macro, syntax, notation, axiom, sorry.
-/
import Derived.Test.YtmffhmokbifadaaChecked
import GoSem.Claim
import GoSem.ClaimJoined
import GoSem.ClaimMapViews
import Derived.JoinedTies
import Derived.KernelRfl
namespace Go.Proofs.Ytmffhmokbifadaa
/- THE CELL 'sum', in the pinned program and in every row, IS THE sha256 OF THE DUMP (.gsa) THAT YtmffhmokbifadaaProg.lean LOADS. Nothing in Lean hashes anything: it is a label: what it is worth is what the hold of that sum in a sandbox is worth. -/
noncomputable def Try.pinned : Pinned := { name := "ytmffhmokbifadaa", sum := "f02304ffa587eeb5786cd6249b4e27a005525a891a0616501b94e6e877b5e7ab", checked := Try.checked }
namespace Rows
def none {H : Type} : Left H := { results := [], args := [] }

/-- 'laws.FnGhosts': WHATEVER THE INPUT: true; the input reads as it did. -/
def fnGhostsSpec : ChangeSpec := { name := "fnGhosts", fn := fun _ => fun
  | [d] => { results := [.lit (.bool true)], args := [d] }
  | _ => none }
def fnGhostsRow : OpenClaim := { program := "ytmffhmokbifadaa", sum := "f02304ffa587eeb5786cd6249b4e27a005525a891a0616501b94e6e877b5e7ab", func := "loop.example/g00860/laws.FnGhosts", spec := "fnGhosts", apart := false }
def FnGhostsSaid : Prop := fnGhostsRow.holds Try.pinned (OpenSpec.ofChange fnGhostsSpec)

/-- ITS FALSE NEIGHBOUR: 'it returns false'. Refute it at one input. -/
def fnGhostsWrong : ChangeSpec := { name := "fnGhosts", fn := fun _ => fun
  | [d] => { results := [.lit (.bool false)], args := [d] }
  | _ => none }
def FnGhostsWrongFalsely : Prop := fnGhostsRow.holds Try.pinned (OpenSpec.ofChange fnGhostsWrong)

/-- 'laws.FnDetermined': WHATEVER THE INPUT: true; the input reads as it did. -/
def fnDeterminedSpec : ChangeSpec := { name := "fnDetermined", fn := fun _ => fun
  | [d] => { results := [.lit (.bool true)], args := [d] }
  | _ => none }
def fnDeterminedRow : OpenClaim := { program := "ytmffhmokbifadaa", sum := "f02304ffa587eeb5786cd6249b4e27a005525a891a0616501b94e6e877b5e7ab", func := "loop.example/g00860/laws.FnDetermined", spec := "fnDetermined", apart := false }
def FnDeterminedSaid : Prop := fnDeterminedRow.holds Try.pinned (OpenSpec.ofChange fnDeterminedSpec)

/-- ITS FALSE NEIGHBOUR: 'it returns false'. Refute it at one input. -/
def fnDeterminedWrong : ChangeSpec := { name := "fnDetermined", fn := fun _ => fun
  | [d] => { results := [.lit (.bool false)], args := [d] }
  | _ => none }
def FnDeterminedWrongFalsely : Prop := fnDeterminedRow.holds Try.pinned (OpenSpec.ofChange fnDeterminedWrong)

/- THE SECOND FORM. 'bulk': how many values and letters a reading holds, each counted each time it is reached (what is shared counts as often as it is met; a slice's spare places count too). A statement '..UptoSaid' is the law's where the arguments, and the package variables that the reading takes, are together of bulk at most 1048576: NARROWER than '..Said'. Prove '..Said' where nothing that the law and all that it calls make is longer than what came in: it says more and counts as full. Else prove '..UptoSaid'. A law counts once. -/
mutual
def uptoBulk {H : Type} : DataW H → Nat
  | .lit (.string bytes) => bytes.length + 1
  | .lit _ => 1
  | .nil => 1
  | .ptr d => uptoBulk d + 1
  | .slice elems spare => uptoBulkAll elems + uptoBulkAll spare + 1
  | .agg parts => uptoBulkAll parts + 1
  | .iface _ d => uptoBulk d + 1
  | .map entries => uptoBulkEntries entries + 1
  | .held _ => 1
def uptoBulkAll {H : Type} : List (DataW H) → Nat
  | [] => 0
  | d :: r => uptoBulk d + uptoBulkAll r
def uptoBulkEntries {H : Type} : List (Lit × DataW H) → Nat
  | [] => 0
  | x :: r => uptoBulkEntry x + uptoBulkEntries r
def uptoBulkEntry {H : Type} : Lit × DataW H → Nat
  | (.string bytes, d) => bytes.length + uptoBulk d + 1
  | (_, d) => uptoBulk d + 1
 end
def uptoSmall : (H : Type) → List (DataW H) → Bool := fun _ ds => decide (uptoBulkAll ds ≤ 1048576)
def OpenSpec.upto (s : _root_.Go.ChangeSpec) : _root_.Go.OpenSpec := { _root_.Go.OpenSpec.ofChange s with cond := some uptoSmall }

/-- 'laws.FnGhosts', WHERE WHAT IT READS IS OF BULK AT MOST 1048576: true; the input reads as it did. -/
def fnGhostsUptoRow : OpenClaim := { program := "ytmffhmokbifadaa", sum := "f02304ffa587eeb5786cd6249b4e27a005525a891a0616501b94e6e877b5e7ab", func := "loop.example/g00860/laws.FnGhosts", spec := "fnGhosts", apart := false, narrowed := true }
def FnGhostsUptoSaid : Prop := fnGhostsUptoRow.holds Try.pinned (OpenSpec.upto fnGhostsSpec)

/-- 'laws.FnDetermined', WHERE WHAT IT READS IS OF BULK AT MOST 1048576: true; the input reads as it did. -/
def fnDeterminedUptoRow : OpenClaim := { program := "ytmffhmokbifadaa", sum := "f02304ffa587eeb5786cd6249b4e27a005525a891a0616501b94e6e877b5e7ab", func := "loop.example/g00860/laws.FnDetermined", spec := "fnDetermined", apart := false, narrowed := true }
def FnDeterminedUptoSaid : Prop := fnDeterminedUptoRow.holds Try.pinned (OpenSpec.upto fnDeterminedSpec)

end Rows
end Go.Proofs.Ytmffhmokbifadaa

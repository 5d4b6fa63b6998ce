/-
  No cell of these rows narrows 'for every input' (looked for: loops, veiled, ifaces, maps, wideKeys, modest, calm, conditions, laid).
  DERIVED. THE GIVEN ROWS OF THIS SEAT. 3 by the template 'for every input the law returns true; each argument reads behind the call as it read before'; 0 by the template 'total and deterministic' (their statements: YtelojckohnopdaaTotals.lean).
  GIVEN WITH THE SEED: the statements are not yours to turn. If you find one false, say at which input.
  Laid BY PROGRAM, IN A SANDBOX (cutbox-rows.mjs): the forced cells as the released guide's own fill.sh prints them over the translation 1c20feef6e3ca62f… (all of the seat's roots in one cut). By AI agents, Wed Nov 11 2026. No macro, syntax, notation, axiom, sorry.
-/
import Derived.Test.YtelojckohnopdaaChecked
import GoSem.Claim
import GoSem.ClaimJoined
import GoSem.ClaimMapViews
import Derived.JoinedTies
import Derived.KernelRfl
namespace Go.Proofs.Ytelojckohnopdaa
/- THE CELL 'sum', in the pinned program and in every row, IS THE sha256 OF THE DUMP (.gsa) THAT YtelojckohnopdaaProg.lean LOADS. Nothing in Lean hashes anything: it is a label: what it is worth is what the hold of that sum in a sandbox is worth. -/
noncomputable def Try.pinned : Pinned := { name := "ytelojckohnopdaa", sum := "1c20feef6e3ca62fff26ee264c1d288d7e1ee5826dabdbbb09e13bbb481cfc87", checked := Try.checked }
namespace Rows
def none {H : Type} : Left H := { results := [], args := [] }

/-- 'laws.FnExactGreatestPath': WHATEVER THE INPUT: true; the input reads as it did. -/
def fnExactGreatestPathSpec : ChangeSpec := { name := "fnExactGreatestPath", fn := fun _ => fun
  | [d1, d2] => { results := [.lit (.bool true)], args := [d1, d2] }
  | _ => none }
def fnExactGreatestPathRow : OpenClaim := { program := "ytelojckohnopdaa", sum := "1c20feef6e3ca62fff26ee264c1d288d7e1ee5826dabdbbb09e13bbb481cfc87", func := "loop.example/g00860/laws.FnExactGreatestPath", spec := "fnExactGreatestPath", unfollowed := true, recurses := true, apart := false }
def FnExactGreatestPathSaid : Prop := fnExactGreatestPathRow.holds Try.pinned (OpenSpec.ofChange fnExactGreatestPathSpec)

/-- ITS FALSE NEIGHBOUR: 'it returns false'. Refute it at one input. -/
def fnExactGreatestPathWrong : ChangeSpec := { name := "fnExactGreatestPath", fn := fun _ => fun
  | [d1, d2] => { results := [.lit (.bool false)], args := [d1, d2] }
  | _ => none }
def FnExactGreatestPathWrongFalsely : Prop := fnExactGreatestPathRow.holds Try.pinned (OpenSpec.ofChange fnExactGreatestPathWrong)

/-- 'laws.FnExactBadRectangle': WHATEVER THE INPUT: true; the input reads as it did. -/
def fnExactBadRectangleSpec : ChangeSpec := { name := "fnExactBadRectangle", fn := fun _ => fun
  | [d1, d2, d3] => { results := [.lit (.bool true)], args := [d1, d2, d3] }
  | _ => none }
def fnExactBadRectangleRow : OpenClaim := { program := "ytelojckohnopdaa", sum := "1c20feef6e3ca62fff26ee264c1d288d7e1ee5826dabdbbb09e13bbb481cfc87", func := "loop.example/g00860/laws.FnExactBadRectangle", spec := "fnExactBadRectangle", unfollowed := true, recurses := true, apart := false }
def FnExactBadRectangleSaid : Prop := fnExactBadRectangleRow.holds Try.pinned (OpenSpec.ofChange fnExactBadRectangleSpec)

/-- ITS FALSE NEIGHBOUR: 'it returns false'. Refute it at one input. -/
def fnExactBadRectangleWrong : ChangeSpec := { name := "fnExactBadRectangle", fn := fun _ => fun
  | [d1, d2, d3] => { results := [.lit (.bool false)], args := [d1, d2, d3] }
  | _ => none }
def FnExactBadRectangleWrongFalsely : Prop := fnExactBadRectangleRow.holds Try.pinned (OpenSpec.ofChange fnExactBadRectangleWrong)

/-- 'laws.FnExactAddGhost': WHATEVER THE INPUT: true; the input reads as it did. -/
def fnExactAddGhostSpec : ChangeSpec := { name := "fnExactAddGhost", fn := fun _ => fun
  | [d1, d2, d3, d4] => { results := [.lit (.bool true)], args := [d1, d2, d3, d4] }
  | _ => none }
def fnExactAddGhostRow : OpenClaim := { program := "ytelojckohnopdaa", sum := "1c20feef6e3ca62fff26ee264c1d288d7e1ee5826dabdbbb09e13bbb481cfc87", func := "loop.example/g00860/laws.FnExactAddGhost", spec := "fnExactAddGhost", apart := false }
def FnExactAddGhostSaid : Prop := fnExactAddGhostRow.holds Try.pinned (OpenSpec.ofChange fnExactAddGhostSpec)

/-- ITS FALSE NEIGHBOUR: 'it returns false'. Refute it at one input. -/
def fnExactAddGhostWrong : ChangeSpec := { name := "fnExactAddGhost", fn := fun _ => fun
  | [d1, d2, d3, d4] => { results := [.lit (.bool false)], args := [d1, d2, d3, d4] }
  | _ => none }
def FnExactAddGhostWrongFalsely : Prop := fnExactAddGhostRow.holds Try.pinned (OpenSpec.ofChange fnExactAddGhostWrong)

/- THE SECOND FORM. 'bulk': how many values and letters a reading holds, each counted each time it is reached (what is shared counts as often as it is met; a slice's spare places count too). A statement '..UptoSaid' is the law's where the arguments, and the package variables that the reading takes, are together of bulk at most 1048576: NARROWER than '..Said'. Prove '..Said' where nothing that the law and all that it calls make is longer than what came in: it says more and counts as full. Else prove '..UptoSaid'. A law counts once. -/
mutual
def uptoBulk {H : Type} : DataW H → Nat
  | .lit (.string bytes) => bytes.length + 1
  | .lit _ => 1
  | .nil => 1
  | .ptr d => uptoBulk d + 1
  | .slice elems spare => uptoBulkAll elems + uptoBulkAll spare + 1
  | .agg parts => uptoBulkAll parts + 1
  | .iface _ d => uptoBulk d + 1
  | .map entries => uptoBulkEntries entries + 1
  | .held _ => 1
def uptoBulkAll {H : Type} : List (DataW H) → Nat
  | [] => 0
  | d :: r => uptoBulk d + uptoBulkAll r
def uptoBulkEntries {H : Type} : List (Lit × DataW H) → Nat
  | [] => 0
  | x :: r => uptoBulkEntry x + uptoBulkEntries r
def uptoBulkEntry {H : Type} : Lit × DataW H → Nat
  | (.string bytes, d) => bytes.length + uptoBulk d + 1
  | (_, d) => uptoBulk d + 1
 end
def uptoSmall : (H : Type) → List (DataW H) → Bool := fun _ ds => decide (uptoBulkAll ds ≤ 1048576)
def OpenSpec.upto (s : _root_.Go.ChangeSpec) : _root_.Go.OpenSpec := { _root_.Go.OpenSpec.ofChange s with cond := some uptoSmall }

/-- 'laws.FnExactGreatestPath', WHERE WHAT IT READS IS OF BULK AT MOST 1048576: true; the input reads as it did. -/
def fnExactGreatestPathUptoRow : OpenClaim := { program := "ytelojckohnopdaa", sum := "1c20feef6e3ca62fff26ee264c1d288d7e1ee5826dabdbbb09e13bbb481cfc87", func := "loop.example/g00860/laws.FnExactGreatestPath", spec := "fnExactGreatestPath", unfollowed := true, recurses := true, apart := false, narrowed := true }
def FnExactGreatestPathUptoSaid : Prop := fnExactGreatestPathUptoRow.holds Try.pinned (OpenSpec.upto fnExactGreatestPathSpec)

/-- 'laws.FnExactBadRectangle', WHERE WHAT IT READS IS OF BULK AT MOST 1048576: true; the input reads as it did. -/
def fnExactBadRectangleUptoRow : OpenClaim := { program := "ytelojckohnopdaa", sum := "1c20feef6e3ca62fff26ee264c1d288d7e1ee5826dabdbbb09e13bbb481cfc87", func := "loop.example/g00860/laws.FnExactBadRectangle", spec := "fnExactBadRectangle", unfollowed := true, recurses := true, apart := false, narrowed := true }
def FnExactBadRectangleUptoSaid : Prop := fnExactBadRectangleUptoRow.holds Try.pinned (OpenSpec.upto fnExactBadRectangleSpec)

/-- 'laws.FnExactAddGhost', WHERE WHAT IT READS IS OF BULK AT MOST 1048576: true; the input reads as it did. -/
def fnExactAddGhostUptoRow : OpenClaim := { program := "ytelojckohnopdaa", sum := "1c20feef6e3ca62fff26ee264c1d288d7e1ee5826dabdbbb09e13bbb481cfc87", func := "loop.example/g00860/laws.FnExactAddGhost", spec := "fnExactAddGhost", apart := false, narrowed := true }
def FnExactAddGhostUptoSaid : Prop := fnExactAddGhostUptoRow.holds Try.pinned (OpenSpec.upto fnExactAddGhostSpec)

end Rows
end Go.Proofs.Ytelojckohnopdaa

/-
  No cell of these rows narrows 'for every input' (looked for: loops, veiled, ifaces, maps, wideKeys, modest, calm, conditions, laid).
  DERIVED. THE GIVEN ROWS OF THIS SEAT. 12 by the template 'for every input the law returns true; each argument reads behind the call as it read before'; 0 by the template 'total and deterministic' (their statements: YtcaakbhcdiahpaaTotals.lean).
  GIVEN WITH THE SEED: the statements are not yours to turn. If you find one false, say at which input.
  Laid BY PROGRAM, IN A SANDBOX (cutbox-rows.mjs): the forced cells as the released guide's own fill.sh prints them over the translation f80293dc32cb6193… (all of the seat's roots in one cut). By AI agents, Wed Nov 11 2026. No macro, syntax, notation, axiom, sorry.
-/
import Derived.Test.YtcaakbhcdiahpaaChecked
import GoSem.Claim
import GoSem.ClaimJoined
import GoSem.ClaimMapViews
import Derived.JoinedTies
import Derived.KernelRfl
namespace Go.Proofs.Ytcaakbhcdiahpaa
/- THE CELL 'sum', in the pinned program and in every row, IS THE sha256 OF THE DUMP (.gsa) THAT YtcaakbhcdiahpaaProg.lean LOADS. Nothing in Lean hashes anything: it is a label: what it is worth is what the hold of that sum in a sandbox is worth. -/
noncomputable def Try.pinned : Pinned := { name := "ytcaakbhcdiahpaa", sum := "f80293dc32cb6193cdc0fa39ed9d4f74abd0de656332d6bc4de835342a913ca5", checked := Try.checked }
namespace Rows
def none {H : Type} : Left H := { results := [], args := [] }

/-- 'laws.FnExactIntervalOf': WHATEVER THE INPUT: true; the input reads as it did. -/
def fnExactIntervalOfSpec : ChangeSpec := { name := "fnExactIntervalOf", fn := fun _ => fun
  | [d] => { results := [.lit (.bool true)], args := [d] }
  | _ => none }
def fnExactIntervalOfRow : OpenClaim := { program := "ytcaakbhcdiahpaa", sum := "f80293dc32cb6193cdc0fa39ed9d4f74abd0de656332d6bc4de835342a913ca5", func := "loop.example/g00860/laws.FnExactIntervalOf", spec := "fnExactIntervalOf", apart := false }
def FnExactIntervalOfSaid : Prop := fnExactIntervalOfRow.holds Try.pinned (OpenSpec.ofChange fnExactIntervalOfSpec)

/-- ITS FALSE NEIGHBOUR: 'it returns false'. Refute it at one input. -/
def fnExactIntervalOfWrong : ChangeSpec := { name := "fnExactIntervalOf", fn := fun _ => fun
  | [d] => { results := [.lit (.bool false)], args := [d] }
  | _ => none }
def FnExactIntervalOfWrongFalsely : Prop := fnExactIntervalOfRow.holds Try.pinned (OpenSpec.ofChange fnExactIntervalOfWrong)

/-- 'laws.FnExactWeightOk': WHATEVER THE INPUT: true; the input reads as it did. -/
def fnExactWeightOkSpec : ChangeSpec := { name := "fnExactWeightOk", fn := fun _ => fun
  | [d1, d2, d3] => { results := [.lit (.bool true)], args := [d1, d2, d3] }
  | _ => none }
def fnExactWeightOkRow : OpenClaim := { program := "ytcaakbhcdiahpaa", sum := "f80293dc32cb6193cdc0fa39ed9d4f74abd0de656332d6bc4de835342a913ca5", func := "loop.example/g00860/laws.FnExactWeightOk", spec := "fnExactWeightOk", apart := false }
def FnExactWeightOkSaid : Prop := fnExactWeightOkRow.holds Try.pinned (OpenSpec.ofChange fnExactWeightOkSpec)

/-- ITS FALSE NEIGHBOUR: 'it returns false'. Refute it at one input. -/
def fnExactWeightOkWrong : ChangeSpec := { name := "fnExactWeightOk", fn := fun _ => fun
  | [d1, d2, d3] => { results := [.lit (.bool false)], args := [d1, d2, d3] }
  | _ => none }
def FnExactWeightOkWrongFalsely : Prop := fnExactWeightOkRow.holds Try.pinned (OpenSpec.ofChange fnExactWeightOkWrong)

/-- 'laws.FnExactDirectionsOk': WHATEVER THE INPUT: true; the input reads as it did. -/
def fnExactDirectionsOkSpec : ChangeSpec := { name := "fnExactDirectionsOk", fn := fun _ => fun
  | [d] => { results := [.lit (.bool true)], args := [d] }
  | _ => none }
def fnExactDirectionsOkRow : OpenClaim := { program := "ytcaakbhcdiahpaa", sum := "f80293dc32cb6193cdc0fa39ed9d4f74abd0de656332d6bc4de835342a913ca5", func := "loop.example/g00860/laws.FnExactDirectionsOk", spec := "fnExactDirectionsOk", apart := false }
def FnExactDirectionsOkSaid : Prop := fnExactDirectionsOkRow.holds Try.pinned (OpenSpec.ofChange fnExactDirectionsOkSpec)

/-- ITS FALSE NEIGHBOUR: 'it returns false'. Refute it at one input. -/
def fnExactDirectionsOkWrong : ChangeSpec := { name := "fnExactDirectionsOk", fn := fun _ => fun
  | [d] => { results := [.lit (.bool false)], args := [d] }
  | _ => none }
def FnExactDirectionsOkWrongFalsely : Prop := fnExactDirectionsOkRow.holds Try.pinned (OpenSpec.ofChange fnExactDirectionsOkWrong)

/-- 'laws.FnExactGhostSize': WHATEVER THE INPUT: true; the input reads as it did. -/
def fnExactGhostSizeSpec : ChangeSpec := { name := "fnExactGhostSize", fn := fun _ => fun
  | [d] => { results := [.lit (.bool true)], args := [d] }
  | _ => none }
def fnExactGhostSizeRow : OpenClaim := { program := "ytcaakbhcdiahpaa", sum := "f80293dc32cb6193cdc0fa39ed9d4f74abd0de656332d6bc4de835342a913ca5", func := "loop.example/g00860/laws.FnExactGhostSize", spec := "fnExactGhostSize", apart := false }
def FnExactGhostSizeSaid : Prop := fnExactGhostSizeRow.holds Try.pinned (OpenSpec.ofChange fnExactGhostSizeSpec)

/-- ITS FALSE NEIGHBOUR: 'it returns false'. Refute it at one input. -/
def fnExactGhostSizeWrong : ChangeSpec := { name := "fnExactGhostSize", fn := fun _ => fun
  | [d] => { results := [.lit (.bool false)], args := [d] }
  | _ => none }
def FnExactGhostSizeWrongFalsely : Prop := fnExactGhostSizeRow.holds Try.pinned (OpenSpec.ofChange fnExactGhostSizeWrong)

/-- 'laws.FnExactMaskOk': WHATEVER THE INPUT: true; the input reads as it did. -/
def fnExactMaskOkSpec : ChangeSpec := { name := "fnExactMaskOk", fn := fun _ => fun
  | [d1, d2, d3] => { results := [.lit (.bool true)], args := [d1, d2, d3] }
  | _ => none }
def fnExactMaskOkRow : OpenClaim := { program := "ytcaakbhcdiahpaa", sum := "f80293dc32cb6193cdc0fa39ed9d4f74abd0de656332d6bc4de835342a913ca5", func := "loop.example/g00860/laws.FnExactMaskOk", spec := "fnExactMaskOk", apart := false }
def FnExactMaskOkSaid : Prop := fnExactMaskOkRow.holds Try.pinned (OpenSpec.ofChange fnExactMaskOkSpec)

/-- ITS FALSE NEIGHBOUR: 'it returns false'. Refute it at one input. -/
def fnExactMaskOkWrong : ChangeSpec := { name := "fnExactMaskOk", fn := fun _ => fun
  | [d1, d2, d3] => { results := [.lit (.bool false)], args := [d1, d2, d3] }
  | _ => none }
def FnExactMaskOkWrongFalsely : Prop := fnExactMaskOkRow.holds Try.pinned (OpenSpec.ofChange fnExactMaskOkWrong)

/-- 'laws.FnExactMeetsMask': WHATEVER THE INPUT: true; the input reads as it did. -/
def fnExactMeetsMaskSpec : ChangeSpec := { name := "fnExactMeetsMask", fn := fun _ => fun
  | [d1, d2] => { results := [.lit (.bool true)], args := [d1, d2] }
  | _ => none }
def fnExactMeetsMaskRow : OpenClaim := { program := "ytcaakbhcdiahpaa", sum := "f80293dc32cb6193cdc0fa39ed9d4f74abd0de656332d6bc4de835342a913ca5", func := "loop.example/g00860/laws.FnExactMeetsMask", spec := "fnExactMeetsMask", apart := false }
def FnExactMeetsMaskSaid : Prop := fnExactMeetsMaskRow.holds Try.pinned (OpenSpec.ofChange fnExactMeetsMaskSpec)

/-- ITS FALSE NEIGHBOUR: 'it returns false'. Refute it at one input. -/
def fnExactMeetsMaskWrong : ChangeSpec := { name := "fnExactMeetsMask", fn := fun _ => fun
  | [d1, d2] => { results := [.lit (.bool false)], args := [d1, d2] }
  | _ => none }
def FnExactMeetsMaskWrongFalsely : Prop := fnExactMeetsMaskRow.holds Try.pinned (OpenSpec.ofChange fnExactMeetsMaskWrong)

/-- 'laws.FnExactIsDetermined': WHATEVER THE INPUT: true; the input reads as it did. -/
def fnExactIsDeterminedSpec : ChangeSpec := { name := "fnExactIsDetermined", fn := fun _ => fun
  | [d1, d2, d3] => { results := [.lit (.bool true)], args := [d1, d2, d3] }
  | _ => none }
def fnExactIsDeterminedRow : OpenClaim := { program := "ytcaakbhcdiahpaa", sum := "f80293dc32cb6193cdc0fa39ed9d4f74abd0de656332d6bc4de835342a913ca5", func := "loop.example/g00860/laws.FnExactIsDetermined", spec := "fnExactIsDetermined", apart := false }
def FnExactIsDeterminedSaid : Prop := fnExactIsDeterminedRow.holds Try.pinned (OpenSpec.ofChange fnExactIsDeterminedSpec)

/-- ITS FALSE NEIGHBOUR: 'it returns false'. Refute it at one input. -/
def fnExactIsDeterminedWrong : ChangeSpec := { name := "fnExactIsDetermined", fn := fun _ => fun
  | [d1, d2, d3] => { results := [.lit (.bool false)], args := [d1, d2, d3] }
  | _ => none }
def FnExactIsDeterminedWrongFalsely : Prop := fnExactIsDeterminedRow.holds Try.pinned (OpenSpec.ofChange fnExactIsDeterminedWrong)

/-- 'laws.FnExactWeightOf': WHATEVER THE INPUT: true; the input reads as it did. -/
def fnExactWeightOfSpec : ChangeSpec := { name := "fnExactWeightOf", fn := fun _ => fun
  | [d1, d2] => { results := [.lit (.bool true)], args := [d1, d2] }
  | _ => none }
def fnExactWeightOfRow : OpenClaim := { program := "ytcaakbhcdiahpaa", sum := "f80293dc32cb6193cdc0fa39ed9d4f74abd0de656332d6bc4de835342a913ca5", func := "loop.example/g00860/laws.FnExactWeightOf", spec := "fnExactWeightOf", apart := false }
def FnExactWeightOfSaid : Prop := fnExactWeightOfRow.holds Try.pinned (OpenSpec.ofChange fnExactWeightOfSpec)

/-- ITS FALSE NEIGHBOUR: 'it returns false'. Refute it at one input. -/
def fnExactWeightOfWrong : ChangeSpec := { name := "fnExactWeightOf", fn := fun _ => fun
  | [d1, d2] => { results := [.lit (.bool false)], args := [d1, d2] }
  | _ => none }
def FnExactWeightOfWrongFalsely : Prop := fnExactWeightOfRow.holds Try.pinned (OpenSpec.ofChange fnExactWeightOfWrong)

/-- 'laws.FnExactIsHConvex': WHATEVER THE INPUT: true; the input reads as it did. -/
def fnExactIsHConvexSpec : ChangeSpec := { name := "fnExactIsHConvex", fn := fun _ => fun
  | [d] => { results := [.lit (.bool true)], args := [d] }
  | _ => none }
def fnExactIsHConvexRow : OpenClaim := { program := "ytcaakbhcdiahpaa", sum := "f80293dc32cb6193cdc0fa39ed9d4f74abd0de656332d6bc4de835342a913ca5", func := "loop.example/g00860/laws.FnExactIsHConvex", spec := "fnExactIsHConvex", apart := false }
def FnExactIsHConvexSaid : Prop := fnExactIsHConvexRow.holds Try.pinned (OpenSpec.ofChange fnExactIsHConvexSpec)

/-- ITS FALSE NEIGHBOUR: 'it returns false'. Refute it at one input. -/
def fnExactIsHConvexWrong : ChangeSpec := { name := "fnExactIsHConvex", fn := fun _ => fun
  | [d] => { results := [.lit (.bool false)], args := [d] }
  | _ => none }
def FnExactIsHConvexWrongFalsely : Prop := fnExactIsHConvexRow.holds Try.pinned (OpenSpec.ofChange fnExactIsHConvexWrong)

/-- 'laws.FnExactPricesOk': WHATEVER THE INPUT: true; the input reads as it did. -/
def fnExactPricesOkSpec : ChangeSpec := { name := "fnExactPricesOk", fn := fun _ => fun
  | [d1, d2, d3, d4] => { results := [.lit (.bool true)], args := [d1, d2, d3, d4] }
  | _ => none }
def fnExactPricesOkRow : OpenClaim := { program := "ytcaakbhcdiahpaa", sum := "f80293dc32cb6193cdc0fa39ed9d4f74abd0de656332d6bc4de835342a913ca5", func := "loop.example/g00860/laws.FnExactPricesOk", spec := "fnExactPricesOk", apart := false }
def FnExactPricesOkSaid : Prop := fnExactPricesOkRow.holds Try.pinned (OpenSpec.ofChange fnExactPricesOkSpec)

/-- ITS FALSE NEIGHBOUR: 'it returns false'. Refute it at one input. -/
def fnExactPricesOkWrong : ChangeSpec := { name := "fnExactPricesOk", fn := fun _ => fun
  | [d1, d2, d3, d4] => { results := [.lit (.bool false)], args := [d1, d2, d3, d4] }
  | _ => none }
def FnExactPricesOkWrongFalsely : Prop := fnExactPricesOkRow.holds Try.pinned (OpenSpec.ofChange fnExactPricesOkWrong)

/-- 'laws.FnExactHasConflict': WHATEVER THE INPUT: true; the input reads as it did. -/
def fnExactHasConflictSpec : ChangeSpec := { name := "fnExactHasConflict", fn := fun _ => fun
  | [d1, d2, d3, d4, d5] => { results := [.lit (.bool true)], args := [d1, d2, d3, d4, d5] }
  | _ => none }
def fnExactHasConflictRow : OpenClaim := { program := "ytcaakbhcdiahpaa", sum := "f80293dc32cb6193cdc0fa39ed9d4f74abd0de656332d6bc4de835342a913ca5", func := "loop.example/g00860/laws.FnExactHasConflict", spec := "fnExactHasConflict", apart := false }
def FnExactHasConflictSaid : Prop := fnExactHasConflictRow.holds Try.pinned (OpenSpec.ofChange fnExactHasConflictSpec)

/-- ITS FALSE NEIGHBOUR: 'it returns false'. Refute it at one input. -/
def fnExactHasConflictWrong : ChangeSpec := { name := "fnExactHasConflict", fn := fun _ => fun
  | [d1, d2, d3, d4, d5] => { results := [.lit (.bool false)], args := [d1, d2, d3, d4, d5] }
  | _ => none }
def FnExactHasConflictWrongFalsely : Prop := fnExactHasConflictRow.holds Try.pinned (OpenSpec.ofChange fnExactHasConflictWrong)

/-- 'laws.FnExactAddGhost': WHATEVER THE INPUT: true; the input reads as it did. -/
def fnExactAddGhostSpec : ChangeSpec := { name := "fnExactAddGhost", fn := fun _ => fun
  | [d1, d2, d3, d4] => { results := [.lit (.bool true)], args := [d1, d2, d3, d4] }
  | _ => none }
def fnExactAddGhostRow : OpenClaim := { program := "ytcaakbhcdiahpaa", sum := "f80293dc32cb6193cdc0fa39ed9d4f74abd0de656332d6bc4de835342a913ca5", func := "loop.example/g00860/laws.FnExactAddGhost", spec := "fnExactAddGhost", apart := false }
def FnExactAddGhostSaid : Prop := fnExactAddGhostRow.holds Try.pinned (OpenSpec.ofChange fnExactAddGhostSpec)

/-- ITS FALSE NEIGHBOUR: 'it returns false'. Refute it at one input. -/
def fnExactAddGhostWrong : ChangeSpec := { name := "fnExactAddGhost", fn := fun _ => fun
  | [d1, d2, d3, d4] => { results := [.lit (.bool false)], args := [d1, d2, d3, d4] }
  | _ => none }
def FnExactAddGhostWrongFalsely : Prop := fnExactAddGhostRow.holds Try.pinned (OpenSpec.ofChange fnExactAddGhostWrong)

/- THE SECOND FORM. 'bulk': how many values and letters a reading holds, each counted each time it is reached (what is shared counts as often as it is met; a slice's spare places count too). A statement '..UptoSaid' is the law's where the arguments, and the package variables that the reading takes, are together of bulk at most 1048576: NARROWER than '..Said'. Prove '..Said' where nothing that the law and all that it calls make is longer than what came in: it says more and counts as full. Else prove '..UptoSaid'. A law counts once. -/
mutual
def uptoBulk {H : Type} : DataW H → Nat
  | .lit (.string bytes) => bytes.length + 1
  | .lit _ => 1
  | .nil => 1
  | .ptr d => uptoBulk d + 1
  | .slice elems spare => uptoBulkAll elems + uptoBulkAll spare + 1
  | .agg parts => uptoBulkAll parts + 1
  | .iface _ d => uptoBulk d + 1
  | .map entries => uptoBulkEntries entries + 1
  | .held _ => 1
def uptoBulkAll {H : Type} : List (DataW H) → Nat
  | [] => 0
  | d :: r => uptoBulk d + uptoBulkAll r
def uptoBulkEntries {H : Type} : List (Lit × DataW H) → Nat
  | [] => 0
  | x :: r => uptoBulkEntry x + uptoBulkEntries r
def uptoBulkEntry {H : Type} : Lit × DataW H → Nat
  | (.string bytes, d) => bytes.length + uptoBulk d + 1
  | (_, d) => uptoBulk d + 1
 end
def uptoSmall : (H : Type) → List (DataW H) → Bool := fun _ ds => decide (uptoBulkAll ds ≤ 1048576)
def OpenSpec.upto (s : _root_.Go.ChangeSpec) : _root_.Go.OpenSpec := { _root_.Go.OpenSpec.ofChange s with cond := some uptoSmall }

/-- 'laws.FnExactIntervalOf', WHERE WHAT IT READS IS OF BULK AT MOST 1048576: true; the input reads as it did. -/
def fnExactIntervalOfUptoRow : OpenClaim := { program := "ytcaakbhcdiahpaa", sum := "f80293dc32cb6193cdc0fa39ed9d4f74abd0de656332d6bc4de835342a913ca5", func := "loop.example/g00860/laws.FnExactIntervalOf", spec := "fnExactIntervalOf", apart := false, narrowed := true }
def FnExactIntervalOfUptoSaid : Prop := fnExactIntervalOfUptoRow.holds Try.pinned (OpenSpec.upto fnExactIntervalOfSpec)

/-- 'laws.FnExactWeightOk', WHERE WHAT IT READS IS OF BULK AT MOST 1048576: true; the input reads as it did. -/
def fnExactWeightOkUptoRow : OpenClaim := { program := "ytcaakbhcdiahpaa", sum := "f80293dc32cb6193cdc0fa39ed9d4f74abd0de656332d6bc4de835342a913ca5", func := "loop.example/g00860/laws.FnExactWeightOk", spec := "fnExactWeightOk", apart := false, narrowed := true }
def FnExactWeightOkUptoSaid : Prop := fnExactWeightOkUptoRow.holds Try.pinned (OpenSpec.upto fnExactWeightOkSpec)

/-- 'laws.FnExactDirectionsOk', WHERE WHAT IT READS IS OF BULK AT MOST 1048576: true; the input reads as it did. -/
def fnExactDirectionsOkUptoRow : OpenClaim := { program := "ytcaakbhcdiahpaa", sum := "f80293dc32cb6193cdc0fa39ed9d4f74abd0de656332d6bc4de835342a913ca5", func := "loop.example/g00860/laws.FnExactDirectionsOk", spec := "fnExactDirectionsOk", apart := false, narrowed := true }
def FnExactDirectionsOkUptoSaid : Prop := fnExactDirectionsOkUptoRow.holds Try.pinned (OpenSpec.upto fnExactDirectionsOkSpec)

/-- 'laws.FnExactGhostSize', WHERE WHAT IT READS IS OF BULK AT MOST 1048576: true; the input reads as it did. -/
def fnExactGhostSizeUptoRow : OpenClaim := { program := "ytcaakbhcdiahpaa", sum := "f80293dc32cb6193cdc0fa39ed9d4f74abd0de656332d6bc4de835342a913ca5", func := "loop.example/g00860/laws.FnExactGhostSize", spec := "fnExactGhostSize", apart := false, narrowed := true }
def FnExactGhostSizeUptoSaid : Prop := fnExactGhostSizeUptoRow.holds Try.pinned (OpenSpec.upto fnExactGhostSizeSpec)

/-- 'laws.FnExactMaskOk', WHERE WHAT IT READS IS OF BULK AT MOST 1048576: true; the input reads as it did. -/
def fnExactMaskOkUptoRow : OpenClaim := { program := "ytcaakbhcdiahpaa", sum := "f80293dc32cb6193cdc0fa39ed9d4f74abd0de656332d6bc4de835342a913ca5", func := "loop.example/g00860/laws.FnExactMaskOk", spec := "fnExactMaskOk", apart := false, narrowed := true }
def FnExactMaskOkUptoSaid : Prop := fnExactMaskOkUptoRow.holds Try.pinned (OpenSpec.upto fnExactMaskOkSpec)

/-- 'laws.FnExactMeetsMask', WHERE WHAT IT READS IS OF BULK AT MOST 1048576: true; the input reads as it did. -/
def fnExactMeetsMaskUptoRow : OpenClaim := { program := "ytcaakbhcdiahpaa", sum := "f80293dc32cb6193cdc0fa39ed9d4f74abd0de656332d6bc4de835342a913ca5", func := "loop.example/g00860/laws.FnExactMeetsMask", spec := "fnExactMeetsMask", apart := false, narrowed := true }
def FnExactMeetsMaskUptoSaid : Prop := fnExactMeetsMaskUptoRow.holds Try.pinned (OpenSpec.upto fnExactMeetsMaskSpec)

/-- 'laws.FnExactIsDetermined', WHERE WHAT IT READS IS OF BULK AT MOST 1048576: true; the input reads as it did. -/
def fnExactIsDeterminedUptoRow : OpenClaim := { program := "ytcaakbhcdiahpaa", sum := "f80293dc32cb6193cdc0fa39ed9d4f74abd0de656332d6bc4de835342a913ca5", func := "loop.example/g00860/laws.FnExactIsDetermined", spec := "fnExactIsDetermined", apart := false, narrowed := true }
def FnExactIsDeterminedUptoSaid : Prop := fnExactIsDeterminedUptoRow.holds Try.pinned (OpenSpec.upto fnExactIsDeterminedSpec)

/-- 'laws.FnExactWeightOf', WHERE WHAT IT READS IS OF BULK AT MOST 1048576: true; the input reads as it did. -/
def fnExactWeightOfUptoRow : OpenClaim := { program := "ytcaakbhcdiahpaa", sum := "f80293dc32cb6193cdc0fa39ed9d4f74abd0de656332d6bc4de835342a913ca5", func := "loop.example/g00860/laws.FnExactWeightOf", spec := "fnExactWeightOf", apart := false, narrowed := true }
def FnExactWeightOfUptoSaid : Prop := fnExactWeightOfUptoRow.holds Try.pinned (OpenSpec.upto fnExactWeightOfSpec)

/-- 'laws.FnExactIsHConvex', WHERE WHAT IT READS IS OF BULK AT MOST 1048576: true; the input reads as it did. -/
def fnExactIsHConvexUptoRow : OpenClaim := { program := "ytcaakbhcdiahpaa", sum := "f80293dc32cb6193cdc0fa39ed9d4f74abd0de656332d6bc4de835342a913ca5", func := "loop.example/g00860/laws.FnExactIsHConvex", spec := "fnExactIsHConvex", apart := false, narrowed := true }
def FnExactIsHConvexUptoSaid : Prop := fnExactIsHConvexUptoRow.holds Try.pinned (OpenSpec.upto fnExactIsHConvexSpec)

/-- 'laws.FnExactPricesOk', WHERE WHAT IT READS IS OF BULK AT MOST 1048576: true; the input reads as it did. -/
def fnExactPricesOkUptoRow : OpenClaim := { program := "ytcaakbhcdiahpaa", sum := "f80293dc32cb6193cdc0fa39ed9d4f74abd0de656332d6bc4de835342a913ca5", func := "loop.example/g00860/laws.FnExactPricesOk", spec := "fnExactPricesOk", apart := false, narrowed := true }
def FnExactPricesOkUptoSaid : Prop := fnExactPricesOkUptoRow.holds Try.pinned (OpenSpec.upto fnExactPricesOkSpec)

/-- 'laws.FnExactHasConflict', WHERE WHAT IT READS IS OF BULK AT MOST 1048576: true; the input reads as it did. -/
def fnExactHasConflictUptoRow : OpenClaim := { program := "ytcaakbhcdiahpaa", sum := "f80293dc32cb6193cdc0fa39ed9d4f74abd0de656332d6bc4de835342a913ca5", func := "loop.example/g00860/laws.FnExactHasConflict", spec := "fnExactHasConflict", apart := false, narrowed := true }
def FnExactHasConflictUptoSaid : Prop := fnExactHasConflictUptoRow.holds Try.pinned (OpenSpec.upto fnExactHasConflictSpec)

/-- 'laws.FnExactAddGhost', WHERE WHAT IT READS IS OF BULK AT MOST 1048576: true; the input reads as it did. -/
def fnExactAddGhostUptoRow : OpenClaim := { program := "ytcaakbhcdiahpaa", sum := "f80293dc32cb6193cdc0fa39ed9d4f74abd0de656332d6bc4de835342a913ca5", func := "loop.example/g00860/laws.FnExactAddGhost", spec := "fnExactAddGhost", apart := false, narrowed := true }
def FnExactAddGhostUptoSaid : Prop := fnExactAddGhostUptoRow.holds Try.pinned (OpenSpec.upto fnExactAddGhostSpec)

end Rows
end Go.Proofs.Ytcaakbhcdiahpaa

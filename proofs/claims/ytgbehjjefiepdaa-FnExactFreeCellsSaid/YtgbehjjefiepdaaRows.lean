/-
  No cell of these rows narrows 'for every input' (looked for: loops, veiled, ifaces, maps, wideKeys, modest, calm, conditions, laid).
  DERIVED. THE GIVEN ROWS OF THIS SEAT. 12 by the template 'for every input the law returns true; each argument reads behind the call as it read before'; 0 by the template 'total and deterministic' (their statements: YtgbehjjefiepdaaTotals.lean).
  GIVEN WITH THE SEED: the statements are not yours to turn. If you find one false, say at which input.
  Laid BY PROGRAM, IN A SANDBOX (cutbox-rows.mjs): the forced cells as the released guide's own fill.sh prints them over the translation 8ab4cbac38b61712… (all of the seat's roots in one cut). By AI agents, Wed Nov 11 2026. No macro, syntax, notation, axiom, sorry.
-/
import Derived.Test.YtgbehjjefiepdaaChecked
import GoSem.Claim
import GoSem.ClaimJoined
import GoSem.ClaimMapViews
import Derived.JoinedTies
import Derived.KernelRfl
namespace Go.Proofs.Ytgbehjjefiepdaa
/- THE CELL 'sum', in the pinned program and in every row, IS THE sha256 OF THE DUMP (.gsa) THAT YtgbehjjefiepdaaProg.lean LOADS. Nothing in Lean hashes anything: it is a label: what it is worth is what the hold of that sum in a sandbox is worth. -/
noncomputable def Try.pinned : Pinned := { name := "ytgbehjjefiepdaa", sum := "8ab4cbac38b617121414fc52f7141dfb566e0245cd6ea0f32a2685b47e59793a", checked := Try.checked }
namespace Rows
def none {H : Type} : Left H := { results := [], args := [] }

/-- 'laws.FnExactAllImages': WHATEVER THE INPUT: true; the input reads as it did. -/
def fnExactAllImagesSpec : ChangeSpec := { name := "fnExactAllImages", fn := fun _ => fun
  | [d1, d2] => { results := [.lit (.bool true)], args := [d1, d2] }
  | _ => none }
def fnExactAllImagesRow : OpenClaim := { program := "ytgbehjjefiepdaa", sum := "8ab4cbac38b617121414fc52f7141dfb566e0245cd6ea0f32a2685b47e59793a", func := "loop.example/g00860/laws.FnExactAllImages", spec := "fnExactAllImages", unfollowed := true, recurses := true, apart := false }
def FnExactAllImagesSaid : Prop := fnExactAllImagesRow.holds Try.pinned (OpenSpec.ofChange fnExactAllImagesSpec)

/-- ITS FALSE NEIGHBOUR: 'it returns false'. Refute it at one input. -/
def fnExactAllImagesWrong : ChangeSpec := { name := "fnExactAllImages", fn := fun _ => fun
  | [d1, d2] => { results := [.lit (.bool false)], args := [d1, d2] }
  | _ => none }
def FnExactAllImagesWrongFalsely : Prop := fnExactAllImagesRow.holds Try.pinned (OpenSpec.ofChange fnExactAllImagesWrong)

/-- 'laws.FnExactLeastImage': WHATEVER THE INPUT: true; the input reads as it did. -/
def fnExactLeastImageSpec : ChangeSpec := { name := "fnExactLeastImage", fn := fun _ => fun
  | [d1, d2] => { results := [.lit (.bool true)], args := [d1, d2] }
  | _ => none }
def fnExactLeastImageRow : OpenClaim := { program := "ytgbehjjefiepdaa", sum := "8ab4cbac38b617121414fc52f7141dfb566e0245cd6ea0f32a2685b47e59793a", func := "loop.example/g00860/laws.FnExactLeastImage", spec := "fnExactLeastImage", unfollowed := true, recurses := true, apart := false }
def FnExactLeastImageSaid : Prop := fnExactLeastImageRow.holds Try.pinned (OpenSpec.ofChange fnExactLeastImageSpec)

/-- ITS FALSE NEIGHBOUR: 'it returns false'. Refute it at one input. -/
def fnExactLeastImageWrong : ChangeSpec := { name := "fnExactLeastImage", fn := fun _ => fun
  | [d1, d2] => { results := [.lit (.bool false)], args := [d1, d2] }
  | _ => none }
def FnExactLeastImageWrongFalsely : Prop := fnExactLeastImageRow.holds Try.pinned (OpenSpec.ofChange fnExactLeastImageWrong)

/-- 'laws.FnExactCanPlace': WHATEVER THE INPUT: true; the input reads as it did. -/
def fnExactCanPlaceSpec : ChangeSpec := { name := "fnExactCanPlace", fn := fun _ => fun
  | [d1, d2, d3, d4, d5] => { results := [.lit (.bool true)], args := [d1, d2, d3, d4, d5] }
  | _ => none }
def fnExactCanPlaceRow : OpenClaim := { program := "ytgbehjjefiepdaa", sum := "8ab4cbac38b617121414fc52f7141dfb566e0245cd6ea0f32a2685b47e59793a", func := "loop.example/g00860/laws.FnExactCanPlace", spec := "fnExactCanPlace", unfollowed := true, recurses := true, apart := false }
def FnExactCanPlaceSaid : Prop := fnExactCanPlaceRow.holds Try.pinned (OpenSpec.ofChange fnExactCanPlaceSpec)

/-- ITS FALSE NEIGHBOUR: 'it returns false'. Refute it at one input. -/
def fnExactCanPlaceWrong : ChangeSpec := { name := "fnExactCanPlace", fn := fun _ => fun
  | [d1, d2, d3, d4, d5] => { results := [.lit (.bool false)], args := [d1, d2, d3, d4, d5] }
  | _ => none }
def FnExactCanPlaceWrongFalsely : Prop := fnExactCanPlaceRow.holds Try.pinned (OpenSpec.ofChange fnExactCanPlaceWrong)

/-- 'laws.FnExactFixedCells': WHATEVER THE INPUT: true; the input reads as it did. -/
def fnExactFixedCellsSpec : ChangeSpec := { name := "fnExactFixedCells", fn := fun _ => fun
  | [d1, d2] => { results := [.lit (.bool true)], args := [d1, d2] }
  | _ => none }
def fnExactFixedCellsRow : OpenClaim := { program := "ytgbehjjefiepdaa", sum := "8ab4cbac38b617121414fc52f7141dfb566e0245cd6ea0f32a2685b47e59793a", func := "loop.example/g00860/laws.FnExactFixedCells", spec := "fnExactFixedCells", unfollowed := true, recurses := true, apart := false }
def FnExactFixedCellsSaid : Prop := fnExactFixedCellsRow.holds Try.pinned (OpenSpec.ofChange fnExactFixedCellsSpec)

/-- ITS FALSE NEIGHBOUR: 'it returns false'. Refute it at one input. -/
def fnExactFixedCellsWrong : ChangeSpec := { name := "fnExactFixedCells", fn := fun _ => fun
  | [d1, d2] => { results := [.lit (.bool false)], args := [d1, d2] }
  | _ => none }
def FnExactFixedCellsWrongFalsely : Prop := fnExactFixedCellsRow.holds Try.pinned (OpenSpec.ofChange fnExactFixedCellsWrong)

/-- 'laws.FnExactIsFixed': WHATEVER THE INPUT: true; the input reads as it did. -/
def fnExactIsFixedSpec : ChangeSpec := { name := "fnExactIsFixed", fn := fun _ => fun
  | [d1, d2, d3] => { results := [.lit (.bool true)], args := [d1, d2, d3] }
  | _ => none }
def fnExactIsFixedRow : OpenClaim := { program := "ytgbehjjefiepdaa", sum := "8ab4cbac38b617121414fc52f7141dfb566e0245cd6ea0f32a2685b47e59793a", func := "loop.example/g00860/laws.FnExactIsFixed", spec := "fnExactIsFixed", unfollowed := true, recurses := true, apart := false }
def FnExactIsFixedSaid : Prop := fnExactIsFixedRow.holds Try.pinned (OpenSpec.ofChange fnExactIsFixedSpec)

/-- ITS FALSE NEIGHBOUR: 'it returns false'. Refute it at one input. -/
def fnExactIsFixedWrong : ChangeSpec := { name := "fnExactIsFixed", fn := fun _ => fun
  | [d1, d2, d3] => { results := [.lit (.bool false)], args := [d1, d2, d3] }
  | _ => none }
def FnExactIsFixedWrongFalsely : Prop := fnExactIsFixedRow.holds Try.pinned (OpenSpec.ofChange fnExactIsFixedWrong)

/-- 'laws.FnExactFreeCells': WHATEVER THE INPUT: true; the input reads as it did. -/
def fnExactFreeCellsSpec : ChangeSpec := { name := "fnExactFreeCells", fn := fun _ => fun
  | [d] => { results := [.lit (.bool true)], args := [d] }
  | _ => none }
def fnExactFreeCellsRow : OpenClaim := { program := "ytgbehjjefiepdaa", sum := "8ab4cbac38b617121414fc52f7141dfb566e0245cd6ea0f32a2685b47e59793a", func := "loop.example/g00860/laws.FnExactFreeCells", spec := "fnExactFreeCells", unfollowed := true, recurses := true, apart := false }
def FnExactFreeCellsSaid : Prop := fnExactFreeCellsRow.holds Try.pinned (OpenSpec.ofChange fnExactFreeCellsSpec)

/-- ITS FALSE NEIGHBOUR: 'it returns false'. Refute it at one input. -/
def fnExactFreeCellsWrong : ChangeSpec := { name := "fnExactFreeCells", fn := fun _ => fun
  | [d] => { results := [.lit (.bool false)], args := [d] }
  | _ => none }
def FnExactFreeCellsWrongFalsely : Prop := fnExactFreeCellsRow.holds Try.pinned (OpenSpec.ofChange fnExactFreeCellsWrong)

/-- 'laws.FnExactMaskedCount': WHATEVER THE INPUT: true; the input reads as it did. -/
def fnExactMaskedCountSpec : ChangeSpec := { name := "fnExactMaskedCount", fn := fun _ => fun
  | [d1, d2, d3] => { results := [.lit (.bool true)], args := [d1, d2, d3] }
  | _ => none }
def fnExactMaskedCountRow : OpenClaim := { program := "ytgbehjjefiepdaa", sum := "8ab4cbac38b617121414fc52f7141dfb566e0245cd6ea0f32a2685b47e59793a", func := "loop.example/g00860/laws.FnExactMaskedCount", spec := "fnExactMaskedCount", unfollowed := true, recurses := true, apart := false }
def FnExactMaskedCountSaid : Prop := fnExactMaskedCountRow.holds Try.pinned (OpenSpec.ofChange fnExactMaskedCountSpec)

/-- ITS FALSE NEIGHBOUR: 'it returns false'. Refute it at one input. -/
def fnExactMaskedCountWrong : ChangeSpec := { name := "fnExactMaskedCount", fn := fun _ => fun
  | [d1, d2, d3] => { results := [.lit (.bool false)], args := [d1, d2, d3] }
  | _ => none }
def FnExactMaskedCountWrongFalsely : Prop := fnExactMaskedCountRow.holds Try.pinned (OpenSpec.ofChange fnExactMaskedCountWrong)

/-- 'laws.FnExactMaskedImage': WHATEVER THE INPUT: true; the input reads as it did. -/
def fnExactMaskedImageSpec : ChangeSpec := { name := "fnExactMaskedImage", fn := fun _ => fun
  | [d1, d2, d3] => { results := [.lit (.bool true)], args := [d1, d2, d3] }
  | _ => none }
def fnExactMaskedImageRow : OpenClaim := { program := "ytgbehjjefiepdaa", sum := "8ab4cbac38b617121414fc52f7141dfb566e0245cd6ea0f32a2685b47e59793a", func := "loop.example/g00860/laws.FnExactMaskedImage", spec := "fnExactMaskedImage", unfollowed := true, recurses := true, apart := false }
def FnExactMaskedImageSaid : Prop := fnExactMaskedImageRow.holds Try.pinned (OpenSpec.ofChange fnExactMaskedImageSpec)

/-- ITS FALSE NEIGHBOUR: 'it returns false'. Refute it at one input. -/
def fnExactMaskedImageWrong : ChangeSpec := { name := "fnExactMaskedImage", fn := fun _ => fun
  | [d1, d2, d3] => { results := [.lit (.bool false)], args := [d1, d2, d3] }
  | _ => none }
def FnExactMaskedImageWrongFalsely : Prop := fnExactMaskedImageRow.holds Try.pinned (OpenSpec.ofChange fnExactMaskedImageWrong)

/-- 'laws.FnExactNearestImage': WHATEVER THE INPUT: true; the input reads as it did. -/
def fnExactNearestImageSpec : ChangeSpec := { name := "fnExactNearestImage", fn := fun _ => fun
  | [d1, d2, d3] => { results := [.lit (.bool true)], args := [d1, d2, d3] }
  | _ => none }
def fnExactNearestImageRow : OpenClaim := { program := "ytgbehjjefiepdaa", sum := "8ab4cbac38b617121414fc52f7141dfb566e0245cd6ea0f32a2685b47e59793a", func := "loop.example/g00860/laws.FnExactNearestImage", spec := "fnExactNearestImage", unfollowed := true, recurses := true, apart := false }
def FnExactNearestImageSaid : Prop := fnExactNearestImageRow.holds Try.pinned (OpenSpec.ofChange fnExactNearestImageSpec)

/-- ITS FALSE NEIGHBOUR: 'it returns false'. Refute it at one input. -/
def fnExactNearestImageWrong : ChangeSpec := { name := "fnExactNearestImage", fn := fun _ => fun
  | [d1, d2, d3] => { results := [.lit (.bool false)], args := [d1, d2, d3] }
  | _ => none }
def FnExactNearestImageWrongFalsely : Prop := fnExactNearestImageRow.holds Try.pinned (OpenSpec.ofChange fnExactNearestImageWrong)

/-- 'laws.FnExactHeaviestImage': WHATEVER THE INPUT: true; the input reads as it did. -/
def fnExactHeaviestImageSpec : ChangeSpec := { name := "fnExactHeaviestImage", fn := fun _ => fun
  | [d1, d2, d3] => { results := [.lit (.bool true)], args := [d1, d2, d3] }
  | _ => none }
def fnExactHeaviestImageRow : OpenClaim := { program := "ytgbehjjefiepdaa", sum := "8ab4cbac38b617121414fc52f7141dfb566e0245cd6ea0f32a2685b47e59793a", func := "loop.example/g00860/laws.FnExactHeaviestImage", spec := "fnExactHeaviestImage", unfollowed := true, recurses := true, apart := false }
def FnExactHeaviestImageSaid : Prop := fnExactHeaviestImageRow.holds Try.pinned (OpenSpec.ofChange fnExactHeaviestImageSpec)

/-- ITS FALSE NEIGHBOUR: 'it returns false'. Refute it at one input. -/
def fnExactHeaviestImageWrong : ChangeSpec := { name := "fnExactHeaviestImage", fn := fun _ => fun
  | [d1, d2, d3] => { results := [.lit (.bool false)], args := [d1, d2, d3] }
  | _ => none }
def FnExactHeaviestImageWrongFalsely : Prop := fnExactHeaviestImageRow.holds Try.pinned (OpenSpec.ofChange fnExactHeaviestImageWrong)

/-- 'laws.FnExactCountAgreeing': WHATEVER THE INPUT: true; the input reads as it did. -/
def fnExactCountAgreeingSpec : ChangeSpec := { name := "fnExactCountAgreeing", fn := fun _ => fun
  | [d1, d2] => { results := [.lit (.bool true)], args := [d1, d2] }
  | _ => none }
def fnExactCountAgreeingRow : OpenClaim := { program := "ytgbehjjefiepdaa", sum := "8ab4cbac38b617121414fc52f7141dfb566e0245cd6ea0f32a2685b47e59793a", func := "loop.example/g00860/laws.FnExactCountAgreeing", spec := "fnExactCountAgreeing", unfollowed := true, recurses := true, apart := false }
def FnExactCountAgreeingSaid : Prop := fnExactCountAgreeingRow.holds Try.pinned (OpenSpec.ofChange fnExactCountAgreeingSpec)

/-- ITS FALSE NEIGHBOUR: 'it returns false'. Refute it at one input. -/
def fnExactCountAgreeingWrong : ChangeSpec := { name := "fnExactCountAgreeing", fn := fun _ => fun
  | [d1, d2] => { results := [.lit (.bool false)], args := [d1, d2] }
  | _ => none }
def FnExactCountAgreeingWrongFalsely : Prop := fnExactCountAgreeingRow.holds Try.pinned (OpenSpec.ofChange fnExactCountAgreeingWrong)

/-- 'laws.FnExactIsEnough': WHATEVER THE INPUT: true; the input reads as it did. -/
def fnExactIsEnoughSpec : ChangeSpec := { name := "fnExactIsEnough", fn := fun _ => fun
  | [d1, d2] => { results := [.lit (.bool true)], args := [d1, d2] }
  | _ => none }
def fnExactIsEnoughRow : OpenClaim := { program := "ytgbehjjefiepdaa", sum := "8ab4cbac38b617121414fc52f7141dfb566e0245cd6ea0f32a2685b47e59793a", func := "loop.example/g00860/laws.FnExactIsEnough", spec := "fnExactIsEnough", unfollowed := true, recurses := true, apart := false }
def FnExactIsEnoughSaid : Prop := fnExactIsEnoughRow.holds Try.pinned (OpenSpec.ofChange fnExactIsEnoughSpec)

/-- ITS FALSE NEIGHBOUR: 'it returns false'. Refute it at one input. -/
def fnExactIsEnoughWrong : ChangeSpec := { name := "fnExactIsEnough", fn := fun _ => fun
  | [d1, d2] => { results := [.lit (.bool false)], args := [d1, d2] }
  | _ => none }
def FnExactIsEnoughWrongFalsely : Prop := fnExactIsEnoughRow.holds Try.pinned (OpenSpec.ofChange fnExactIsEnoughWrong)

/- THE SECOND FORM. 'bulk': how many values and letters a reading holds, each counted each time it is reached (what is shared counts as often as it is met; a slice's spare places count too). A statement '..UptoSaid' is the law's where the arguments, and the package variables that the reading takes, are together of bulk at most 1048576: NARROWER than '..Said'. Prove '..Said' where nothing that the law and all that it calls make is longer than what came in: it says more and counts as full. Else prove '..UptoSaid'. A law counts once. -/
mutual
def uptoBulk {H : Type} : DataW H → Nat
  | .lit (.string bytes) => bytes.length + 1
  | .lit _ => 1
  | .nil => 1
  | .ptr d => uptoBulk d + 1
  | .slice elems spare => uptoBulkAll elems + uptoBulkAll spare + 1
  | .agg parts => uptoBulkAll parts + 1
  | .iface _ d => uptoBulk d + 1
  | .map entries => uptoBulkEntries entries + 1
  | .held _ => 1
def uptoBulkAll {H : Type} : List (DataW H) → Nat
  | [] => 0
  | d :: r => uptoBulk d + uptoBulkAll r
def uptoBulkEntries {H : Type} : List (Lit × DataW H) → Nat
  | [] => 0
  | x :: r => uptoBulkEntry x + uptoBulkEntries r
def uptoBulkEntry {H : Type} : Lit × DataW H → Nat
  | (.string bytes, d) => bytes.length + uptoBulk d + 1
  | (_, d) => uptoBulk d + 1
 end
def uptoSmall : (H : Type) → List (DataW H) → Bool := fun _ ds => decide (uptoBulkAll ds ≤ 1048576)
def OpenSpec.upto (s : _root_.Go.ChangeSpec) : _root_.Go.OpenSpec := { _root_.Go.OpenSpec.ofChange s with cond := some uptoSmall }

/-- 'laws.FnExactAllImages', WHERE WHAT IT READS IS OF BULK AT MOST 1048576: true; the input reads as it did. -/
def fnExactAllImagesUptoRow : OpenClaim := { program := "ytgbehjjefiepdaa", sum := "8ab4cbac38b617121414fc52f7141dfb566e0245cd6ea0f32a2685b47e59793a", func := "loop.example/g00860/laws.FnExactAllImages", spec := "fnExactAllImages", unfollowed := true, recurses := true, apart := false, narrowed := true }
def FnExactAllImagesUptoSaid : Prop := fnExactAllImagesUptoRow.holds Try.pinned (OpenSpec.upto fnExactAllImagesSpec)

/-- 'laws.FnExactLeastImage', WHERE WHAT IT READS IS OF BULK AT MOST 1048576: true; the input reads as it did. -/
def fnExactLeastImageUptoRow : OpenClaim := { program := "ytgbehjjefiepdaa", sum := "8ab4cbac38b617121414fc52f7141dfb566e0245cd6ea0f32a2685b47e59793a", func := "loop.example/g00860/laws.FnExactLeastImage", spec := "fnExactLeastImage", unfollowed := true, recurses := true, apart := false, narrowed := true }
def FnExactLeastImageUptoSaid : Prop := fnExactLeastImageUptoRow.holds Try.pinned (OpenSpec.upto fnExactLeastImageSpec)

/-- 'laws.FnExactCanPlace', WHERE WHAT IT READS IS OF BULK AT MOST 1048576: true; the input reads as it did. -/
def fnExactCanPlaceUptoRow : OpenClaim := { program := "ytgbehjjefiepdaa", sum := "8ab4cbac38b617121414fc52f7141dfb566e0245cd6ea0f32a2685b47e59793a", func := "loop.example/g00860/laws.FnExactCanPlace", spec := "fnExactCanPlace", unfollowed := true, recurses := true, apart := false, narrowed := true }
def FnExactCanPlaceUptoSaid : Prop := fnExactCanPlaceUptoRow.holds Try.pinned (OpenSpec.upto fnExactCanPlaceSpec)

/-- 'laws.FnExactFixedCells', WHERE WHAT IT READS IS OF BULK AT MOST 1048576: true; the input reads as it did. -/
def fnExactFixedCellsUptoRow : OpenClaim := { program := "ytgbehjjefiepdaa", sum := "8ab4cbac38b617121414fc52f7141dfb566e0245cd6ea0f32a2685b47e59793a", func := "loop.example/g00860/laws.FnExactFixedCells", spec := "fnExactFixedCells", unfollowed := true, recurses := true, apart := false, narrowed := true }
def FnExactFixedCellsUptoSaid : Prop := fnExactFixedCellsUptoRow.holds Try.pinned (OpenSpec.upto fnExactFixedCellsSpec)

/-- 'laws.FnExactIsFixed', WHERE WHAT IT READS IS OF BULK AT MOST 1048576: true; the input reads as it did. -/
def fnExactIsFixedUptoRow : OpenClaim := { program := "ytgbehjjefiepdaa", sum := "8ab4cbac38b617121414fc52f7141dfb566e0245cd6ea0f32a2685b47e59793a", func := "loop.example/g00860/laws.FnExactIsFixed", spec := "fnExactIsFixed", unfollowed := true, recurses := true, apart := false, narrowed := true }
def FnExactIsFixedUptoSaid : Prop := fnExactIsFixedUptoRow.holds Try.pinned (OpenSpec.upto fnExactIsFixedSpec)

/-- 'laws.FnExactFreeCells', WHERE WHAT IT READS IS OF BULK AT MOST 1048576: true; the input reads as it did. -/
def fnExactFreeCellsUptoRow : OpenClaim := { program := "ytgbehjjefiepdaa", sum := "8ab4cbac38b617121414fc52f7141dfb566e0245cd6ea0f32a2685b47e59793a", func := "loop.example/g00860/laws.FnExactFreeCells", spec := "fnExactFreeCells", unfollowed := true, recurses := true, apart := false, narrowed := true }
def FnExactFreeCellsUptoSaid : Prop := fnExactFreeCellsUptoRow.holds Try.pinned (OpenSpec.upto fnExactFreeCellsSpec)

/-- 'laws.FnExactMaskedCount', WHERE WHAT IT READS IS OF BULK AT MOST 1048576: true; the input reads as it did. -/
def fnExactMaskedCountUptoRow : OpenClaim := { program := "ytgbehjjefiepdaa", sum := "8ab4cbac38b617121414fc52f7141dfb566e0245cd6ea0f32a2685b47e59793a", func := "loop.example/g00860/laws.FnExactMaskedCount", spec := "fnExactMaskedCount", unfollowed := true, recurses := true, apart := false, narrowed := true }
def FnExactMaskedCountUptoSaid : Prop := fnExactMaskedCountUptoRow.holds Try.pinned (OpenSpec.upto fnExactMaskedCountSpec)

/-- 'laws.FnExactMaskedImage', WHERE WHAT IT READS IS OF BULK AT MOST 1048576: true; the input reads as it did. -/
def fnExactMaskedImageUptoRow : OpenClaim := { program := "ytgbehjjefiepdaa", sum := "8ab4cbac38b617121414fc52f7141dfb566e0245cd6ea0f32a2685b47e59793a", func := "loop.example/g00860/laws.FnExactMaskedImage", spec := "fnExactMaskedImage", unfollowed := true, recurses := true, apart := false, narrowed := true }
def FnExactMaskedImageUptoSaid : Prop := fnExactMaskedImageUptoRow.holds Try.pinned (OpenSpec.upto fnExactMaskedImageSpec)

/-- 'laws.FnExactNearestImage', WHERE WHAT IT READS IS OF BULK AT MOST 1048576: true; the input reads as it did. -/
def fnExactNearestImageUptoRow : OpenClaim := { program := "ytgbehjjefiepdaa", sum := "8ab4cbac38b617121414fc52f7141dfb566e0245cd6ea0f32a2685b47e59793a", func := "loop.example/g00860/laws.FnExactNearestImage", spec := "fnExactNearestImage", unfollowed := true, recurses := true, apart := false, narrowed := true }
def FnExactNearestImageUptoSaid : Prop := fnExactNearestImageUptoRow.holds Try.pinned (OpenSpec.upto fnExactNearestImageSpec)

/-- 'laws.FnExactHeaviestImage', WHERE WHAT IT READS IS OF BULK AT MOST 1048576: true; the input reads as it did. -/
def fnExactHeaviestImageUptoRow : OpenClaim := { program := "ytgbehjjefiepdaa", sum := "8ab4cbac38b617121414fc52f7141dfb566e0245cd6ea0f32a2685b47e59793a", func := "loop.example/g00860/laws.FnExactHeaviestImage", spec := "fnExactHeaviestImage", unfollowed := true, recurses := true, apart := false, narrowed := true }
def FnExactHeaviestImageUptoSaid : Prop := fnExactHeaviestImageUptoRow.holds Try.pinned (OpenSpec.upto fnExactHeaviestImageSpec)

/-- 'laws.FnExactCountAgreeing', WHERE WHAT IT READS IS OF BULK AT MOST 1048576: true; the input reads as it did. -/
def fnExactCountAgreeingUptoRow : OpenClaim := { program := "ytgbehjjefiepdaa", sum := "8ab4cbac38b617121414fc52f7141dfb566e0245cd6ea0f32a2685b47e59793a", func := "loop.example/g00860/laws.FnExactCountAgreeing", spec := "fnExactCountAgreeing", unfollowed := true, recurses := true, apart := false, narrowed := true }
def FnExactCountAgreeingUptoSaid : Prop := fnExactCountAgreeingUptoRow.holds Try.pinned (OpenSpec.upto fnExactCountAgreeingSpec)

/-- 'laws.FnExactIsEnough', WHERE WHAT IT READS IS OF BULK AT MOST 1048576: true; the input reads as it did. -/
def fnExactIsEnoughUptoRow : OpenClaim := { program := "ytgbehjjefiepdaa", sum := "8ab4cbac38b617121414fc52f7141dfb566e0245cd6ea0f32a2685b47e59793a", func := "loop.example/g00860/laws.FnExactIsEnough", spec := "fnExactIsEnough", unfollowed := true, recurses := true, apart := false, narrowed := true }
def FnExactIsEnoughUptoSaid : Prop := fnExactIsEnoughUptoRow.holds Try.pinned (OpenSpec.upto fnExactIsEnoughSpec)

end Rows
end Go.Proofs.Ytgbehjjefiepdaa

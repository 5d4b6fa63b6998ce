/-
  No cell of these rows narrows 'for every input' (looked for: loops, veiled, ifaces, maps, wideKeys, modest, calm, conditions, laid).
  DERIVED. THE GIVEN ROWS OF THIS SEAT. 12 by the template 'for every input the law returns true; each argument reads behind the call as it read before'; 0 by the template 'total and deterministic' (their statements: YtnnkondlefjkcaaTotals.lean).
  GIVEN WITH THE SEED: the statements are not yours to turn. If you find one false, say at which input.
  Laid BY PROGRAM, IN A SANDBOX (cutbox-rows.mjs): the forced cells as the released guide's own fill.sh prints them over the translation 519e6944ce2a27d2… (all of the seat's roots in one cut). By AI agents, Wed Nov 11 2026. No macro, syntax, notation, axiom, sorry.
-/
import Derived.Test.YtnnkondlefjkcaaChecked
import GoSem.Claim
import GoSem.ClaimJoined
import GoSem.ClaimMapViews
import Derived.JoinedTies
import Derived.KernelRfl
namespace Go.Proofs.Ytnnkondlefjkcaa
/- THE CELL 'sum', in the pinned program and in every row, IS THE sha256 OF THE DUMP (.gsa) THAT YtnnkondlefjkcaaProg.lean LOADS. Nothing in Lean hashes anything: it is a label: what it is worth is what the hold of that sum in a sandbox is worth. -/
noncomputable def Try.pinned : Pinned := { name := "ytnnkondlefjkcaa", sum := "519e6944ce2a27d2ba8ea2edba5e36f80442d10789ceb214fb0e0bc13e949b22", checked := Try.checked }
namespace Rows
def none {H : Type} : Left H := { results := [], args := [] }

/-- 'laws.FnExactCountPieces': WHATEVER THE INPUT: true; the input reads as it did. -/
def fnExactCountPiecesSpec : ChangeSpec := { name := "fnExactCountPieces", fn := fun _ => fun
  | [d] => { results := [.lit (.bool true)], args := [d] }
  | _ => none }
def fnExactCountPiecesRow : OpenClaim := { program := "ytnnkondlefjkcaa", sum := "519e6944ce2a27d2ba8ea2edba5e36f80442d10789ceb214fb0e0bc13e949b22", func := "loop.example/g00860/laws.FnExactCountPieces", spec := "fnExactCountPieces", unfollowed := true, recurses := true, apart := false }
def FnExactCountPiecesSaid : Prop := fnExactCountPiecesRow.holds Try.pinned (OpenSpec.ofChange fnExactCountPiecesSpec)

/-- ITS FALSE NEIGHBOUR: 'it returns false'. Refute it at one input. -/
def fnExactCountPiecesWrong : ChangeSpec := { name := "fnExactCountPieces", fn := fun _ => fun
  | [d] => { results := [.lit (.bool false)], args := [d] }
  | _ => none }
def FnExactCountPiecesWrongFalsely : Prop := fnExactCountPiecesRow.holds Try.pinned (OpenSpec.ofChange fnExactCountPiecesWrong)

/-- 'laws.FnExactIsPolyomino': WHATEVER THE INPUT: true; the input reads as it did. -/
def fnExactIsPolyominoSpec : ChangeSpec := { name := "fnExactIsPolyomino", fn := fun _ => fun
  | [d] => { results := [.lit (.bool true)], args := [d] }
  | _ => none }
def fnExactIsPolyominoRow : OpenClaim := { program := "ytnnkondlefjkcaa", sum := "519e6944ce2a27d2ba8ea2edba5e36f80442d10789ceb214fb0e0bc13e949b22", func := "loop.example/g00860/laws.FnExactIsPolyomino", spec := "fnExactIsPolyomino", unfollowed := true, recurses := true, apart := false }
def FnExactIsPolyominoSaid : Prop := fnExactIsPolyominoRow.holds Try.pinned (OpenSpec.ofChange fnExactIsPolyominoSpec)

/-- ITS FALSE NEIGHBOUR: 'it returns false'. Refute it at one input. -/
def fnExactIsPolyominoWrong : ChangeSpec := { name := "fnExactIsPolyomino", fn := fun _ => fun
  | [d] => { results := [.lit (.bool false)], args := [d] }
  | _ => none }
def FnExactIsPolyominoWrongFalsely : Prop := fnExactIsPolyominoRow.holds Try.pinned (OpenSpec.ofChange fnExactIsPolyominoWrong)

/-- 'laws.FnExactIsVConvex': WHATEVER THE INPUT: true; the input reads as it did. -/
def fnExactIsVConvexSpec : ChangeSpec := { name := "fnExactIsVConvex", fn := fun _ => fun
  | [d] => { results := [.lit (.bool true)], args := [d] }
  | _ => none }
def fnExactIsVConvexRow : OpenClaim := { program := "ytnnkondlefjkcaa", sum := "519e6944ce2a27d2ba8ea2edba5e36f80442d10789ceb214fb0e0bc13e949b22", func := "loop.example/g00860/laws.FnExactIsVConvex", spec := "fnExactIsVConvex", apart := false }
def FnExactIsVConvexSaid : Prop := fnExactIsVConvexRow.holds Try.pinned (OpenSpec.ofChange fnExactIsVConvexSpec)

/-- ITS FALSE NEIGHBOUR: 'it returns false'. Refute it at one input. -/
def fnExactIsVConvexWrong : ChangeSpec := { name := "fnExactIsVConvex", fn := fun _ => fun
  | [d] => { results := [.lit (.bool false)], args := [d] }
  | _ => none }
def FnExactIsVConvexWrongFalsely : Prop := fnExactIsVConvexRow.holds Try.pinned (OpenSpec.ofChange fnExactIsVConvexWrong)

/-- 'laws.FnExactIsConvex': WHATEVER THE INPUT: true; the input reads as it did. -/
def fnExactIsConvexSpec : ChangeSpec := { name := "fnExactIsConvex", fn := fun _ => fun
  | [d] => { results := [.lit (.bool true)], args := [d] }
  | _ => none }
def fnExactIsConvexRow : OpenClaim := { program := "ytnnkondlefjkcaa", sum := "519e6944ce2a27d2ba8ea2edba5e36f80442d10789ceb214fb0e0bc13e949b22", func := "loop.example/g00860/laws.FnExactIsConvex", spec := "fnExactIsConvex", apart := false }
def FnExactIsConvexSaid : Prop := fnExactIsConvexRow.holds Try.pinned (OpenSpec.ofChange fnExactIsConvexSpec)

/-- ITS FALSE NEIGHBOUR: 'it returns false'. Refute it at one input. -/
def fnExactIsConvexWrong : ChangeSpec := { name := "fnExactIsConvex", fn := fun _ => fun
  | [d] => { results := [.lit (.bool false)], args := [d] }
  | _ => none }
def FnExactIsConvexWrongFalsely : Prop := fnExactIsConvexRow.holds Try.pinned (OpenSpec.ofChange fnExactIsConvexWrong)

/-- 'laws.FnExactGridSums': WHATEVER THE INPUT: true; the input reads as it did. -/
def fnExactGridSumsSpec : ChangeSpec := { name := "fnExactGridSums", fn := fun _ => fun
  | [d1, d2] => { results := [.lit (.bool true)], args := [d1, d2] }
  | _ => none }
def fnExactGridSumsRow : OpenClaim := { program := "ytnnkondlefjkcaa", sum := "519e6944ce2a27d2ba8ea2edba5e36f80442d10789ceb214fb0e0bc13e949b22", func := "loop.example/g00860/laws.FnExactGridSums", spec := "fnExactGridSums", apart := false }
def FnExactGridSumsSaid : Prop := fnExactGridSumsRow.holds Try.pinned (OpenSpec.ofChange fnExactGridSumsSpec)

/-- ITS FALSE NEIGHBOUR: 'it returns false'. Refute it at one input. -/
def fnExactGridSumsWrong : ChangeSpec := { name := "fnExactGridSums", fn := fun _ => fun
  | [d1, d2] => { results := [.lit (.bool false)], args := [d1, d2] }
  | _ => none }
def FnExactGridSumsWrongFalsely : Prop := fnExactGridSumsRow.holds Try.pinned (OpenSpec.ofChange fnExactGridSumsWrong)

/-- 'laws.FnExactFindPrices': WHATEVER THE INPUT: true; the input reads as it did. -/
def fnExactFindPricesSpec : ChangeSpec := { name := "fnExactFindPrices", fn := fun _ => fun
  | [d1, d2] => { results := [.lit (.bool true)], args := [d1, d2] }
  | _ => none }
def fnExactFindPricesRow : OpenClaim := { program := "ytnnkondlefjkcaa", sum := "519e6944ce2a27d2ba8ea2edba5e36f80442d10789ceb214fb0e0bc13e949b22", func := "loop.example/g00860/laws.FnExactFindPrices", spec := "fnExactFindPrices", apart := false }
def FnExactFindPricesSaid : Prop := fnExactFindPricesRow.holds Try.pinned (OpenSpec.ofChange fnExactFindPricesSpec)

/-- ITS FALSE NEIGHBOUR: 'it returns false'. Refute it at one input. -/
def fnExactFindPricesWrong : ChangeSpec := { name := "fnExactFindPrices", fn := fun _ => fun
  | [d1, d2] => { results := [.lit (.bool false)], args := [d1, d2] }
  | _ => none }
def FnExactFindPricesWrongFalsely : Prop := fnExactFindPricesRow.holds Try.pinned (OpenSpec.ofChange fnExactFindPricesWrong)

/-- 'laws.FnExactBasicGhost': WHATEVER THE INPUT: true; the input reads as it did. -/
def fnExactBasicGhostSpec : ChangeSpec := { name := "fnExactBasicGhost", fn := fun _ => fun
  | [d] => { results := [.lit (.bool true)], args := [d] }
  | _ => none }
def fnExactBasicGhostRow : OpenClaim := { program := "ytnnkondlefjkcaa", sum := "519e6944ce2a27d2ba8ea2edba5e36f80442d10789ceb214fb0e0bc13e949b22", func := "loop.example/g00860/laws.FnExactBasicGhost", spec := "fnExactBasicGhost", apart := false }
def FnExactBasicGhostSaid : Prop := fnExactBasicGhostRow.holds Try.pinned (OpenSpec.ofChange fnExactBasicGhostSpec)

/-- ITS FALSE NEIGHBOUR: 'it returns false'. Refute it at one input. -/
def fnExactBasicGhostWrong : ChangeSpec := { name := "fnExactBasicGhost", fn := fun _ => fun
  | [d] => { results := [.lit (.bool false)], args := [d] }
  | _ => none }
def FnExactBasicGhostWrongFalsely : Prop := fnExactBasicGhostRow.holds Try.pinned (OpenSpec.ofChange fnExactBasicGhostWrong)

/-- 'laws.FnExactIsGhost': WHATEVER THE INPUT: true; the input reads as it did. -/
def fnExactIsGhostSpec : ChangeSpec := { name := "fnExactIsGhost", fn := fun _ => fun
  | [d1, d2] => { results := [.lit (.bool true)], args := [d1, d2] }
  | _ => none }
def fnExactIsGhostRow : OpenClaim := { program := "ytnnkondlefjkcaa", sum := "519e6944ce2a27d2ba8ea2edba5e36f80442d10789ceb214fb0e0bc13e949b22", func := "loop.example/g00860/laws.FnExactIsGhost", spec := "fnExactIsGhost", apart := false }
def FnExactIsGhostSaid : Prop := fnExactIsGhostRow.holds Try.pinned (OpenSpec.ofChange fnExactIsGhostSpec)

/-- ITS FALSE NEIGHBOUR: 'it returns false'. Refute it at one input. -/
def fnExactIsGhostWrong : ChangeSpec := { name := "fnExactIsGhost", fn := fun _ => fun
  | [d1, d2] => { results := [.lit (.bool false)], args := [d1, d2] }
  | _ => none }
def FnExactIsGhostWrongFalsely : Prop := fnExactIsGhostRow.holds Try.pinned (OpenSpec.ofChange fnExactIsGhostWrong)

/-- 'laws.FnExactConvexImage': WHATEVER THE INPUT: true; the input reads as it did. -/
def fnExactConvexImageSpec : ChangeSpec := { name := "fnExactConvexImage", fn := fun _ => fun
  | [d1, d2] => { results := [.lit (.bool true)], args := [d1, d2] }
  | _ => none }
def fnExactConvexImageRow : OpenClaim := { program := "ytnnkondlefjkcaa", sum := "519e6944ce2a27d2ba8ea2edba5e36f80442d10789ceb214fb0e0bc13e949b22", func := "loop.example/g00860/laws.FnExactConvexImage", spec := "fnExactConvexImage", unfollowed := true, recurses := true, apart := false }
def FnExactConvexImageSaid : Prop := fnExactConvexImageRow.holds Try.pinned (OpenSpec.ofChange fnExactConvexImageSpec)

/-- ITS FALSE NEIGHBOUR: 'it returns false'. Refute it at one input. -/
def fnExactConvexImageWrong : ChangeSpec := { name := "fnExactConvexImage", fn := fun _ => fun
  | [d1, d2] => { results := [.lit (.bool false)], args := [d1, d2] }
  | _ => none }
def FnExactConvexImageWrongFalsely : Prop := fnExactConvexImageRow.holds Try.pinned (OpenSpec.ofChange fnExactConvexImageWrong)

/-- 'laws.FnExactConvexImages': WHATEVER THE INPUT: true; the input reads as it did. -/
def fnExactConvexImagesSpec : ChangeSpec := { name := "fnExactConvexImages", fn := fun _ => fun
  | [d1, d2] => { results := [.lit (.bool true)], args := [d1, d2] }
  | _ => none }
def fnExactConvexImagesRow : OpenClaim := { program := "ytnnkondlefjkcaa", sum := "519e6944ce2a27d2ba8ea2edba5e36f80442d10789ceb214fb0e0bc13e949b22", func := "loop.example/g00860/laws.FnExactConvexImages", spec := "fnExactConvexImages", unfollowed := true, recurses := true, apart := false }
def FnExactConvexImagesSaid : Prop := fnExactConvexImagesRow.holds Try.pinned (OpenSpec.ofChange fnExactConvexImagesSpec)

/-- ITS FALSE NEIGHBOUR: 'it returns false'. Refute it at one input. -/
def fnExactConvexImagesWrong : ChangeSpec := { name := "fnExactConvexImages", fn := fun _ => fun
  | [d1, d2] => { results := [.lit (.bool false)], args := [d1, d2] }
  | _ => none }
def FnExactConvexImagesWrongFalsely : Prop := fnExactConvexImagesRow.holds Try.pinned (OpenSpec.ofChange fnExactConvexImagesWrong)

/-- 'laws.FnExactUniqueConvex': WHATEVER THE INPUT: true; the input reads as it did. -/
def fnExactUniqueConvexSpec : ChangeSpec := { name := "fnExactUniqueConvex", fn := fun _ => fun
  | [d] => { results := [.lit (.bool true)], args := [d] }
  | _ => none }
def fnExactUniqueConvexRow : OpenClaim := { program := "ytnnkondlefjkcaa", sum := "519e6944ce2a27d2ba8ea2edba5e36f80442d10789ceb214fb0e0bc13e949b22", func := "loop.example/g00860/laws.FnExactUniqueConvex", spec := "fnExactUniqueConvex", unfollowed := true, recurses := true, apart := false }
def FnExactUniqueConvexSaid : Prop := fnExactUniqueConvexRow.holds Try.pinned (OpenSpec.ofChange fnExactUniqueConvexSpec)

/-- ITS FALSE NEIGHBOUR: 'it returns false'. Refute it at one input. -/
def fnExactUniqueConvexWrong : ChangeSpec := { name := "fnExactUniqueConvex", fn := fun _ => fun
  | [d] => { results := [.lit (.bool false)], args := [d] }
  | _ => none }
def FnExactUniqueConvexWrongFalsely : Prop := fnExactUniqueConvexRow.holds Try.pinned (OpenSpec.ofChange fnExactUniqueConvexWrong)

/-- 'laws.FnExactRevealNext': WHATEVER THE INPUT: true; the input reads as it did. -/
def fnExactRevealNextSpec : ChangeSpec := { name := "fnExactRevealNext", fn := fun _ => fun
  | [d1, d2] => { results := [.lit (.bool true)], args := [d1, d2] }
  | _ => none }
def fnExactRevealNextRow : OpenClaim := { program := "ytnnkondlefjkcaa", sum := "519e6944ce2a27d2ba8ea2edba5e36f80442d10789ceb214fb0e0bc13e949b22", func := "loop.example/g00860/laws.FnExactRevealNext", spec := "fnExactRevealNext", unfollowed := true, recurses := true, apart := false }
def FnExactRevealNextSaid : Prop := fnExactRevealNextRow.holds Try.pinned (OpenSpec.ofChange fnExactRevealNextSpec)

/-- ITS FALSE NEIGHBOUR: 'it returns false'. Refute it at one input. -/
def fnExactRevealNextWrong : ChangeSpec := { name := "fnExactRevealNext", fn := fun _ => fun
  | [d1, d2] => { results := [.lit (.bool false)], args := [d1, d2] }
  | _ => none }
def FnExactRevealNextWrongFalsely : Prop := fnExactRevealNextRow.holds Try.pinned (OpenSpec.ofChange fnExactRevealNextWrong)

/- THE SECOND FORM. 'bulk': how many values and letters a reading holds, each counted each time it is reached (what is shared counts as often as it is met; a slice's spare places count too). A statement '..UptoSaid' is the law's where the arguments, and the package variables that the reading takes, are together of bulk at most 1048576: NARROWER than '..Said'. Prove '..Said' where nothing that the law and all that it calls make is longer than what came in: it says more and counts as full. Else prove '..UptoSaid'. A law counts once. -/
mutual
def uptoBulk {H : Type} : DataW H → Nat
  | .lit (.string bytes) => bytes.length + 1
  | .lit _ => 1
  | .nil => 1
  | .ptr d => uptoBulk d + 1
  | .slice elems spare => uptoBulkAll elems + uptoBulkAll spare + 1
  | .agg parts => uptoBulkAll parts + 1
  | .iface _ d => uptoBulk d + 1
  | .map entries => uptoBulkEntries entries + 1
  | .held _ => 1
def uptoBulkAll {H : Type} : List (DataW H) → Nat
  | [] => 0
  | d :: r => uptoBulk d + uptoBulkAll r
def uptoBulkEntries {H : Type} : List (Lit × DataW H) → Nat
  | [] => 0
  | x :: r => uptoBulkEntry x + uptoBulkEntries r
def uptoBulkEntry {H : Type} : Lit × DataW H → Nat
  | (.string bytes, d) => bytes.length + uptoBulk d + 1
  | (_, d) => uptoBulk d + 1
 end
def uptoSmall : (H : Type) → List (DataW H) → Bool := fun _ ds => decide (uptoBulkAll ds ≤ 1048576)
def OpenSpec.upto (s : _root_.Go.ChangeSpec) : _root_.Go.OpenSpec := { _root_.Go.OpenSpec.ofChange s with cond := some uptoSmall }

/-- 'laws.FnExactCountPieces', WHERE WHAT IT READS IS OF BULK AT MOST 1048576: true; the input reads as it did. -/
def fnExactCountPiecesUptoRow : OpenClaim := { program := "ytnnkondlefjkcaa", sum := "519e6944ce2a27d2ba8ea2edba5e36f80442d10789ceb214fb0e0bc13e949b22", func := "loop.example/g00860/laws.FnExactCountPieces", spec := "fnExactCountPieces", unfollowed := true, recurses := true, apart := false, narrowed := true }
def FnExactCountPiecesUptoSaid : Prop := fnExactCountPiecesUptoRow.holds Try.pinned (OpenSpec.upto fnExactCountPiecesSpec)

/-- 'laws.FnExactIsPolyomino', WHERE WHAT IT READS IS OF BULK AT MOST 1048576: true; the input reads as it did. -/
def fnExactIsPolyominoUptoRow : OpenClaim := { program := "ytnnkondlefjkcaa", sum := "519e6944ce2a27d2ba8ea2edba5e36f80442d10789ceb214fb0e0bc13e949b22", func := "loop.example/g00860/laws.FnExactIsPolyomino", spec := "fnExactIsPolyomino", unfollowed := true, recurses := true, apart := false, narrowed := true }
def FnExactIsPolyominoUptoSaid : Prop := fnExactIsPolyominoUptoRow.holds Try.pinned (OpenSpec.upto fnExactIsPolyominoSpec)

/-- 'laws.FnExactIsVConvex', WHERE WHAT IT READS IS OF BULK AT MOST 1048576: true; the input reads as it did. -/
def fnExactIsVConvexUptoRow : OpenClaim := { program := "ytnnkondlefjkcaa", sum := "519e6944ce2a27d2ba8ea2edba5e36f80442d10789ceb214fb0e0bc13e949b22", func := "loop.example/g00860/laws.FnExactIsVConvex", spec := "fnExactIsVConvex", apart := false, narrowed := true }
def FnExactIsVConvexUptoSaid : Prop := fnExactIsVConvexUptoRow.holds Try.pinned (OpenSpec.upto fnExactIsVConvexSpec)

/-- 'laws.FnExactIsConvex', WHERE WHAT IT READS IS OF BULK AT MOST 1048576: true; the input reads as it did. -/
def fnExactIsConvexUptoRow : OpenClaim := { program := "ytnnkondlefjkcaa", sum := "519e6944ce2a27d2ba8ea2edba5e36f80442d10789ceb214fb0e0bc13e949b22", func := "loop.example/g00860/laws.FnExactIsConvex", spec := "fnExactIsConvex", apart := false, narrowed := true }
def FnExactIsConvexUptoSaid : Prop := fnExactIsConvexUptoRow.holds Try.pinned (OpenSpec.upto fnExactIsConvexSpec)

/-- 'laws.FnExactGridSums', WHERE WHAT IT READS IS OF BULK AT MOST 1048576: true; the input reads as it did. -/
def fnExactGridSumsUptoRow : OpenClaim := { program := "ytnnkondlefjkcaa", sum := "519e6944ce2a27d2ba8ea2edba5e36f80442d10789ceb214fb0e0bc13e949b22", func := "loop.example/g00860/laws.FnExactGridSums", spec := "fnExactGridSums", apart := false, narrowed := true }
def FnExactGridSumsUptoSaid : Prop := fnExactGridSumsUptoRow.holds Try.pinned (OpenSpec.upto fnExactGridSumsSpec)

/-- 'laws.FnExactFindPrices', WHERE WHAT IT READS IS OF BULK AT MOST 1048576: true; the input reads as it did. -/
def fnExactFindPricesUptoRow : OpenClaim := { program := "ytnnkondlefjkcaa", sum := "519e6944ce2a27d2ba8ea2edba5e36f80442d10789ceb214fb0e0bc13e949b22", func := "loop.example/g00860/laws.FnExactFindPrices", spec := "fnExactFindPrices", apart := false, narrowed := true }
def FnExactFindPricesUptoSaid : Prop := fnExactFindPricesUptoRow.holds Try.pinned (OpenSpec.upto fnExactFindPricesSpec)

/-- 'laws.FnExactBasicGhost', WHERE WHAT IT READS IS OF BULK AT MOST 1048576: true; the input reads as it did. -/
def fnExactBasicGhostUptoRow : OpenClaim := { program := "ytnnkondlefjkcaa", sum := "519e6944ce2a27d2ba8ea2edba5e36f80442d10789ceb214fb0e0bc13e949b22", func := "loop.example/g00860/laws.FnExactBasicGhost", spec := "fnExactBasicGhost", apart := false, narrowed := true }
def FnExactBasicGhostUptoSaid : Prop := fnExactBasicGhostUptoRow.holds Try.pinned (OpenSpec.upto fnExactBasicGhostSpec)

/-- 'laws.FnExactIsGhost', WHERE WHAT IT READS IS OF BULK AT MOST 1048576: true; the input reads as it did. -/
def fnExactIsGhostUptoRow : OpenClaim := { program := "ytnnkondlefjkcaa", sum := "519e6944ce2a27d2ba8ea2edba5e36f80442d10789ceb214fb0e0bc13e949b22", func := "loop.example/g00860/laws.FnExactIsGhost", spec := "fnExactIsGhost", apart := false, narrowed := true }
def FnExactIsGhostUptoSaid : Prop := fnExactIsGhostUptoRow.holds Try.pinned (OpenSpec.upto fnExactIsGhostSpec)

/-- 'laws.FnExactConvexImage', WHERE WHAT IT READS IS OF BULK AT MOST 1048576: true; the input reads as it did. -/
def fnExactConvexImageUptoRow : OpenClaim := { program := "ytnnkondlefjkcaa", sum := "519e6944ce2a27d2ba8ea2edba5e36f80442d10789ceb214fb0e0bc13e949b22", func := "loop.example/g00860/laws.FnExactConvexImage", spec := "fnExactConvexImage", unfollowed := true, recurses := true, apart := false, narrowed := true }
def FnExactConvexImageUptoSaid : Prop := fnExactConvexImageUptoRow.holds Try.pinned (OpenSpec.upto fnExactConvexImageSpec)

/-- 'laws.FnExactConvexImages', WHERE WHAT IT READS IS OF BULK AT MOST 1048576: true; the input reads as it did. -/
def fnExactConvexImagesUptoRow : OpenClaim := { program := "ytnnkondlefjkcaa", sum := "519e6944ce2a27d2ba8ea2edba5e36f80442d10789ceb214fb0e0bc13e949b22", func := "loop.example/g00860/laws.FnExactConvexImages", spec := "fnExactConvexImages", unfollowed := true, recurses := true, apart := false, narrowed := true }
def FnExactConvexImagesUptoSaid : Prop := fnExactConvexImagesUptoRow.holds Try.pinned (OpenSpec.upto fnExactConvexImagesSpec)

/-- 'laws.FnExactUniqueConvex', WHERE WHAT IT READS IS OF BULK AT MOST 1048576: true; the input reads as it did. -/
def fnExactUniqueConvexUptoRow : OpenClaim := { program := "ytnnkondlefjkcaa", sum := "519e6944ce2a27d2ba8ea2edba5e36f80442d10789ceb214fb0e0bc13e949b22", func := "loop.example/g00860/laws.FnExactUniqueConvex", spec := "fnExactUniqueConvex", unfollowed := true, recurses := true, apart := false, narrowed := true }
def FnExactUniqueConvexUptoSaid : Prop := fnExactUniqueConvexUptoRow.holds Try.pinned (OpenSpec.upto fnExactUniqueConvexSpec)

/-- 'laws.FnExactRevealNext', WHERE WHAT IT READS IS OF BULK AT MOST 1048576: true; the input reads as it did. -/
def fnExactRevealNextUptoRow : OpenClaim := { program := "ytnnkondlefjkcaa", sum := "519e6944ce2a27d2ba8ea2edba5e36f80442d10789ceb214fb0e0bc13e949b22", func := "loop.example/g00860/laws.FnExactRevealNext", spec := "fnExactRevealNext", unfollowed := true, recurses := true, apart := false, narrowed := true }
def FnExactRevealNextUptoSaid : Prop := fnExactRevealNextUptoRow.holds Try.pinned (OpenSpec.upto fnExactRevealNextSpec)

end Rows
end Go.Proofs.Ytnnkondlefjkcaa

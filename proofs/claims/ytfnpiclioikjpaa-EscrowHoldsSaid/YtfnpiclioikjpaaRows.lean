/-
  No cell of these rows narrows 'for every input' (looked for: loops, veiled, ifaces, maps, wideKeys, modest, calm, conditions, laid).
  DERIVED. THE GIVEN ROWS OF THIS SEAT. 11 by the template 'for every input the law returns true; each argument reads behind the call as it read before'; 0 by the template 'total and deterministic' (their statements: YtfnpiclioikjpaaTotals.lean).
  GIVEN WITH THE SEED: the statements are not yours to turn. If you find one false, say at which input.
  Laid BY PROGRAM, IN A SANDBOX (cutbox-rows.mjs): the forced cells as the released guide's own fill.sh prints them over the translation 6476aa2c69729adb… (all of the seat's roots in one cut). By AI agents, Wed Nov 11 2026. No macro, syntax, notation, axiom, sorry.
-/
import Derived.Test.YtfnpiclioikjpaaChecked
import GoSem.Claim
import GoSem.ClaimJoined
import GoSem.ClaimMapViews
import Derived.JoinedTies
import Derived.KernelRfl
namespace Go.Proofs.Ytfnpiclioikjpaa
/- THE CELL 'sum', in the pinned program and in every row, IS THE sha256 OF THE DUMP (.gsa) THAT YtfnpiclioikjpaaProg.lean LOADS. Nothing in Lean hashes anything: it is a label: what it is worth is what the hold of that sum in a sandbox is worth. -/
noncomputable def Try.pinned : Pinned := { name := "ytfnpiclioikjpaa", sum := "6476aa2c69729adbbfe0cc03a888ba8626cd2c39ba55a5e415ba3c02daca49c6", checked := Try.checked }
namespace Rows
def none {H : Type} : Left H := { results := [], args := [] }

/-- 'hucksterlaw12.RegisterSets': WHATEVER THE INPUT: true; the input reads as it did. -/
def registerSetsSpec : ChangeSpec := { name := "registerSets", fn := fun _ => fun
  | [d1, d2, d3] => { results := [.lit (.bool true)], args := [d1, d2, d3] }
  | _ => none }
def registerSetsRow : OpenClaim := { program := "ytfnpiclioikjpaa", sum := "6476aa2c69729adbbfe0cc03a888ba8626cd2c39ba55a5e415ba3c02daca49c6", func := "huckster/hucksterlaw12.RegisterSets", spec := "registerSets", inPlace := ["internal/bytealg.abigen_runtime_cmpstring", "slices.overlaps[huckster/api.Note]"], unfollowed := true, recurses := true, apart := false }
def RegisterSetsSaid : Prop := registerSetsRow.holds Try.pinned (OpenSpec.ofChange registerSetsSpec)

/-- ITS FALSE NEIGHBOUR: 'it returns false'. Refute it at one input. -/
def registerSetsWrong : ChangeSpec := { name := "registerSets", fn := fun _ => fun
  | [d1, d2, d3] => { results := [.lit (.bool false)], args := [d1, d2, d3] }
  | _ => none }
def RegisterSetsWrongFalsely : Prop := registerSetsRow.holds Try.pinned (OpenSpec.ofChange registerSetsWrong)

/-- 'hucksterlaw12.RegisterOrders': WHATEVER THE INPUT: true; the input reads as it did. -/
def registerOrdersSpec : ChangeSpec := { name := "registerOrders", fn := fun _ => fun
  | [d1, d2] => { results := [.lit (.bool true)], args := [d1, d2] }
  | _ => none }
def registerOrdersRow : OpenClaim := { program := "ytfnpiclioikjpaa", sum := "6476aa2c69729adbbfe0cc03a888ba8626cd2c39ba55a5e415ba3c02daca49c6", func := "huckster/hucksterlaw12.RegisterOrders", spec := "registerOrders", inPlace := ["internal/bytealg.abigen_runtime_cmpstring", "slices.overlaps[huckster/api.Note]"], unfollowed := true, recurses := true, apart := false }
def RegisterOrdersSaid : Prop := registerOrdersRow.holds Try.pinned (OpenSpec.ofChange registerOrdersSpec)

/-- ITS FALSE NEIGHBOUR: 'it returns false'. Refute it at one input. -/
def registerOrdersWrong : ChangeSpec := { name := "registerOrders", fn := fun _ => fun
  | [d1, d2] => { results := [.lit (.bool false)], args := [d1, d2] }
  | _ => none }
def RegisterOrdersWrongFalsely : Prop := registerOrdersRow.holds Try.pinned (OpenSpec.ofChange registerOrdersWrong)

/-- 'hucksterlaw12.RegisterLast': WHATEVER THE INPUT: true; the input reads as it did. -/
def registerLastSpec : ChangeSpec := { name := "registerLast", fn := fun _ => fun
  | [d1, d2] => { results := [.lit (.bool true)], args := [d1, d2] }
  | _ => none }
def registerLastRow : OpenClaim := { program := "ytfnpiclioikjpaa", sum := "6476aa2c69729adbbfe0cc03a888ba8626cd2c39ba55a5e415ba3c02daca49c6", func := "huckster/hucksterlaw12.RegisterLast", spec := "registerLast", inPlace := ["internal/bytealg.abigen_runtime_cmpstring", "slices.overlaps[huckster/api.Note]"], unfollowed := true, recurses := true, apart := false }
def RegisterLastSaid : Prop := registerLastRow.holds Try.pinned (OpenSpec.ofChange registerLastSpec)

/-- ITS FALSE NEIGHBOUR: 'it returns false'. Refute it at one input. -/
def registerLastWrong : ChangeSpec := { name := "registerLast", fn := fun _ => fun
  | [d1, d2] => { results := [.lit (.bool false)], args := [d1, d2] }
  | _ => none }
def RegisterLastWrongFalsely : Prop := registerLastRow.holds Try.pinned (OpenSpec.ofChange registerLastWrong)

/-- 'hucksterlaw10.TallySums': WHATEVER THE INPUT: true; the input reads as it did. -/
def tallySumsSpec : ChangeSpec := { name := "tallySums", fn := fun _ => fun
  | [d1, d2] => { results := [.lit (.bool true)], args := [d1, d2] }
  | _ => none }
def tallySumsRow : OpenClaim := { program := "ytfnpiclioikjpaa", sum := "6476aa2c69729adbbfe0cc03a888ba8626cd2c39ba55a5e415ba3c02daca49c6", func := "huckster/hucksterlaw10.TallySums", spec := "tallySums", inPlace := ["internal/bytealg.abigen_runtime_cmpstring", "slices.overlaps[huckster/api.Cell]"], unfollowed := true, recurses := true, apart := false }
def TallySumsSaid : Prop := tallySumsRow.holds Try.pinned (OpenSpec.ofChange tallySumsSpec)

/-- ITS FALSE NEIGHBOUR: 'it returns false'. Refute it at one input. -/
def tallySumsWrong : ChangeSpec := { name := "tallySums", fn := fun _ => fun
  | [d1, d2] => { results := [.lit (.bool false)], args := [d1, d2] }
  | _ => none }
def TallySumsWrongFalsely : Prop := tallySumsRow.holds Try.pinned (OpenSpec.ofChange tallySumsWrong)

/-- 'hucksterlaw10.TallyAdds': WHATEVER THE INPUT: true; the input reads as it did. -/
def tallyAddsSpec : ChangeSpec := { name := "tallyAdds", fn := fun _ => fun
  | [d1, d2, d3] => { results := [.lit (.bool true)], args := [d1, d2, d3] }
  | _ => none }
def tallyAddsRow : OpenClaim := { program := "ytfnpiclioikjpaa", sum := "6476aa2c69729adbbfe0cc03a888ba8626cd2c39ba55a5e415ba3c02daca49c6", func := "huckster/hucksterlaw10.TallyAdds", spec := "tallyAdds", inPlace := ["internal/bytealg.abigen_runtime_cmpstring", "slices.overlaps[huckster/api.Cell]"], unfollowed := true, recurses := true, apart := false }
def TallyAddsSaid : Prop := tallyAddsRow.holds Try.pinned (OpenSpec.ofChange tallyAddsSpec)

/-- ITS FALSE NEIGHBOUR: 'it returns false'. Refute it at one input. -/
def tallyAddsWrong : ChangeSpec := { name := "tallyAdds", fn := fun _ => fun
  | [d1, d2, d3] => { results := [.lit (.bool false)], args := [d1, d2, d3] }
  | _ => none }
def TallyAddsWrongFalsely : Prop := tallyAddsRow.holds Try.pinned (OpenSpec.ofChange tallyAddsWrong)

/-- 'hucksterlaw10.TallyOrders': WHATEVER THE INPUT: true; the input reads as it did. -/
def tallyOrdersSpec : ChangeSpec := { name := "tallyOrders", fn := fun _ => fun
  | [d1, d2] => { results := [.lit (.bool true)], args := [d1, d2] }
  | _ => none }
def tallyOrdersRow : OpenClaim := { program := "ytfnpiclioikjpaa", sum := "6476aa2c69729adbbfe0cc03a888ba8626cd2c39ba55a5e415ba3c02daca49c6", func := "huckster/hucksterlaw10.TallyOrders", spec := "tallyOrders", inPlace := ["internal/bytealg.abigen_runtime_cmpstring", "slices.overlaps[huckster/api.Cell]"], unfollowed := true, recurses := true, apart := false }
def TallyOrdersSaid : Prop := tallyOrdersRow.holds Try.pinned (OpenSpec.ofChange tallyOrdersSpec)

/-- ITS FALSE NEIGHBOUR: 'it returns false'. Refute it at one input. -/
def tallyOrdersWrong : ChangeSpec := { name := "tallyOrders", fn := fun _ => fun
  | [d1, d2] => { results := [.lit (.bool false)], args := [d1, d2] }
  | _ => none }
def TallyOrdersWrongFalsely : Prop := tallyOrdersRow.holds Try.pinned (OpenSpec.ofChange tallyOrdersWrong)

/-- 'hucksterlaw12.RegisterJoins': WHATEVER THE INPUT: true; the input reads as it did. -/
def registerJoinsSpec : ChangeSpec := { name := "registerJoins", fn := fun _ => fun
  | [d1, d2, d3] => { results := [.lit (.bool true)], args := [d1, d2, d3] }
  | _ => none }
def registerJoinsRow : OpenClaim := { program := "ytfnpiclioikjpaa", sum := "6476aa2c69729adbbfe0cc03a888ba8626cd2c39ba55a5e415ba3c02daca49c6", func := "huckster/hucksterlaw12.RegisterJoins", spec := "registerJoins", inPlace := ["internal/bytealg.abigen_runtime_cmpstring", "slices.overlaps[huckster/api.Note]"], unfollowed := true, recurses := true, apart := false }
def RegisterJoinsSaid : Prop := registerJoinsRow.holds Try.pinned (OpenSpec.ofChange registerJoinsSpec)

/-- ITS FALSE NEIGHBOUR: 'it returns false'. Refute it at one input. -/
def registerJoinsWrong : ChangeSpec := { name := "registerJoins", fn := fun _ => fun
  | [d1, d2, d3] => { results := [.lit (.bool false)], args := [d1, d2, d3] }
  | _ => none }
def RegisterJoinsWrongFalsely : Prop := registerJoinsRow.holds Try.pinned (OpenSpec.ofChange registerJoinsWrong)

/-- 'hucksterlaw11.EscrowTurns': WHATEVER THE INPUT: true; the input reads as it did. -/
def escrowTurnsSpec : ChangeSpec := { name := "escrowTurns", fn := fun _ => fun
  | [d1, d2] => { results := [.lit (.bool true)], args := [d1, d2] }
  | _ => none }
def escrowTurnsRow : OpenClaim := { program := "ytfnpiclioikjpaa", sum := "6476aa2c69729adbbfe0cc03a888ba8626cd2c39ba55a5e415ba3c02daca49c6", func := "huckster/hucksterlaw11.EscrowTurns", spec := "escrowTurns", inPlace := ["internal/bytealg.abigen_runtime_cmpstring", "slices.overlaps[huckster/api.Account]"], unfollowed := true, recurses := true, apart := false }
def EscrowTurnsSaid : Prop := escrowTurnsRow.holds Try.pinned (OpenSpec.ofChange escrowTurnsSpec)

/-- ITS FALSE NEIGHBOUR: 'it returns false'. Refute it at one input. -/
def escrowTurnsWrong : ChangeSpec := { name := "escrowTurns", fn := fun _ => fun
  | [d1, d2] => { results := [.lit (.bool false)], args := [d1, d2] }
  | _ => none }
def EscrowTurnsWrongFalsely : Prop := escrowTurnsRow.holds Try.pinned (OpenSpec.ofChange escrowTurnsWrong)

/-- 'hucksterlaw11.EscrowHolds': WHATEVER THE INPUT: true; the input reads as it did. -/
def escrowHoldsSpec : ChangeSpec := { name := "escrowHolds", fn := fun _ => fun
  | [d1, d2] => { results := [.lit (.bool true)], args := [d1, d2] }
  | _ => none }
def escrowHoldsRow : OpenClaim := { program := "ytfnpiclioikjpaa", sum := "6476aa2c69729adbbfe0cc03a888ba8626cd2c39ba55a5e415ba3c02daca49c6", func := "huckster/hucksterlaw11.EscrowHolds", spec := "escrowHolds", inPlace := ["internal/bytealg.abigen_runtime_cmpstring", "slices.overlaps[huckster/api.Account]"], unfollowed := true, recurses := true, apart := false }
def EscrowHoldsSaid : Prop := escrowHoldsRow.holds Try.pinned (OpenSpec.ofChange escrowHoldsSpec)

/-- ITS FALSE NEIGHBOUR: 'it returns false'. Refute it at one input. -/
def escrowHoldsWrong : ChangeSpec := { name := "escrowHolds", fn := fun _ => fun
  | [d1, d2] => { results := [.lit (.bool false)], args := [d1, d2] }
  | _ => none }
def EscrowHoldsWrongFalsely : Prop := escrowHoldsRow.holds Try.pinned (OpenSpec.ofChange escrowHoldsWrong)

/-- 'hucksterlaw11.EscrowMoves': WHATEVER THE INPUT: true; the input reads as it did. -/
def escrowMovesSpec : ChangeSpec := { name := "escrowMoves", fn := fun _ => fun
  | [d1, d2, d3] => { results := [.lit (.bool true)], args := [d1, d2, d3] }
  | _ => none }
def escrowMovesRow : OpenClaim := { program := "ytfnpiclioikjpaa", sum := "6476aa2c69729adbbfe0cc03a888ba8626cd2c39ba55a5e415ba3c02daca49c6", func := "huckster/hucksterlaw11.EscrowMoves", spec := "escrowMoves", inPlace := ["internal/bytealg.abigen_runtime_cmpstring", "slices.overlaps[huckster/api.Account]"], unfollowed := true, recurses := true, apart := false }
def EscrowMovesSaid : Prop := escrowMovesRow.holds Try.pinned (OpenSpec.ofChange escrowMovesSpec)

/-- ITS FALSE NEIGHBOUR: 'it returns false'. Refute it at one input. -/
def escrowMovesWrong : ChangeSpec := { name := "escrowMoves", fn := fun _ => fun
  | [d1, d2, d3] => { results := [.lit (.bool false)], args := [d1, d2, d3] }
  | _ => none }
def EscrowMovesWrongFalsely : Prop := escrowMovesRow.holds Try.pinned (OpenSpec.ofChange escrowMovesWrong)

/-- 'hucksterlaw11.EscrowTells': WHATEVER THE INPUT: true; the input reads as it did. -/
def escrowTellsSpec : ChangeSpec := { name := "escrowTells", fn := fun _ => fun
  | [d1, d2, d3] => { results := [.lit (.bool true)], args := [d1, d2, d3] }
  | _ => none }
def escrowTellsRow : OpenClaim := { program := "ytfnpiclioikjpaa", sum := "6476aa2c69729adbbfe0cc03a888ba8626cd2c39ba55a5e415ba3c02daca49c6", func := "huckster/hucksterlaw11.EscrowTells", spec := "escrowTells", inPlace := ["internal/bytealg.abigen_runtime_cmpstring", "slices.overlaps[huckster/api.Account]"], unfollowed := true, recurses := true, apart := false }
def EscrowTellsSaid : Prop := escrowTellsRow.holds Try.pinned (OpenSpec.ofChange escrowTellsSpec)

/-- ITS FALSE NEIGHBOUR: 'it returns false'. Refute it at one input. -/
def escrowTellsWrong : ChangeSpec := { name := "escrowTells", fn := fun _ => fun
  | [d1, d2, d3] => { results := [.lit (.bool false)], args := [d1, d2, d3] }
  | _ => none }
def EscrowTellsWrongFalsely : Prop := escrowTellsRow.holds Try.pinned (OpenSpec.ofChange escrowTellsWrong)

/- THE SECOND FORM. 'bulk': how many values and letters a reading holds, each counted each time it is reached (what is shared counts as often as it is met; a slice's spare places count too). A statement '..UptoSaid' is the law's where the arguments, and the package variables that the reading takes, are together of bulk at most 1048576: NARROWER than '..Said'. Prove '..Said' where nothing that the law and all that it calls make is longer than what came in: it says more and counts as full. Else prove '..UptoSaid'. A law counts once. -/
mutual
def uptoBulk {H : Type} : DataW H → Nat
  | .lit (.string bytes) => bytes.length + 1
  | .lit _ => 1
  | .nil => 1
  | .ptr d => uptoBulk d + 1
  | .slice elems spare => uptoBulkAll elems + uptoBulkAll spare + 1
  | .agg parts => uptoBulkAll parts + 1
  | .iface _ d => uptoBulk d + 1
  | .map entries => uptoBulkEntries entries + 1
  | .held _ => 1
def uptoBulkAll {H : Type} : List (DataW H) → Nat
  | [] => 0
  | d :: r => uptoBulk d + uptoBulkAll r
def uptoBulkEntries {H : Type} : List (Lit × DataW H) → Nat
  | [] => 0
  | x :: r => uptoBulkEntry x + uptoBulkEntries r
def uptoBulkEntry {H : Type} : Lit × DataW H → Nat
  | (.string bytes, d) => bytes.length + uptoBulk d + 1
  | (_, d) => uptoBulk d + 1
 end
def uptoSmall : (H : Type) → List (DataW H) → Bool := fun _ ds => decide (uptoBulkAll ds ≤ 1048576)
def OpenSpec.upto (s : _root_.Go.ChangeSpec) : _root_.Go.OpenSpec := { _root_.Go.OpenSpec.ofChange s with cond := some uptoSmall }

/-- 'hucksterlaw12.RegisterSets', WHERE WHAT IT READS IS OF BULK AT MOST 1048576: true; the input reads as it did. -/
def registerSetsUptoRow : OpenClaim := { program := "ytfnpiclioikjpaa", sum := "6476aa2c69729adbbfe0cc03a888ba8626cd2c39ba55a5e415ba3c02daca49c6", func := "huckster/hucksterlaw12.RegisterSets", spec := "registerSets", inPlace := ["internal/bytealg.abigen_runtime_cmpstring", "slices.overlaps[huckster/api.Note]"], unfollowed := true, recurses := true, apart := false, narrowed := true }
def RegisterSetsUptoSaid : Prop := registerSetsUptoRow.holds Try.pinned (OpenSpec.upto registerSetsSpec)

/-- 'hucksterlaw12.RegisterOrders', WHERE WHAT IT READS IS OF BULK AT MOST 1048576: true; the input reads as it did. -/
def registerOrdersUptoRow : OpenClaim := { program := "ytfnpiclioikjpaa", sum := "6476aa2c69729adbbfe0cc03a888ba8626cd2c39ba55a5e415ba3c02daca49c6", func := "huckster/hucksterlaw12.RegisterOrders", spec := "registerOrders", inPlace := ["internal/bytealg.abigen_runtime_cmpstring", "slices.overlaps[huckster/api.Note]"], unfollowed := true, recurses := true, apart := false, narrowed := true }
def RegisterOrdersUptoSaid : Prop := registerOrdersUptoRow.holds Try.pinned (OpenSpec.upto registerOrdersSpec)

/-- 'hucksterlaw12.RegisterLast', WHERE WHAT IT READS IS OF BULK AT MOST 1048576: true; the input reads as it did. -/
def registerLastUptoRow : OpenClaim := { program := "ytfnpiclioikjpaa", sum := "6476aa2c69729adbbfe0cc03a888ba8626cd2c39ba55a5e415ba3c02daca49c6", func := "huckster/hucksterlaw12.RegisterLast", spec := "registerLast", inPlace := ["internal/bytealg.abigen_runtime_cmpstring", "slices.overlaps[huckster/api.Note]"], unfollowed := true, recurses := true, apart := false, narrowed := true }
def RegisterLastUptoSaid : Prop := registerLastUptoRow.holds Try.pinned (OpenSpec.upto registerLastSpec)

/-- 'hucksterlaw10.TallySums', WHERE WHAT IT READS IS OF BULK AT MOST 1048576: true; the input reads as it did. -/
def tallySumsUptoRow : OpenClaim := { program := "ytfnpiclioikjpaa", sum := "6476aa2c69729adbbfe0cc03a888ba8626cd2c39ba55a5e415ba3c02daca49c6", func := "huckster/hucksterlaw10.TallySums", spec := "tallySums", inPlace := ["internal/bytealg.abigen_runtime_cmpstring", "slices.overlaps[huckster/api.Cell]"], unfollowed := true, recurses := true, apart := false, narrowed := true }
def TallySumsUptoSaid : Prop := tallySumsUptoRow.holds Try.pinned (OpenSpec.upto tallySumsSpec)

/-- 'hucksterlaw10.TallyAdds', WHERE WHAT IT READS IS OF BULK AT MOST 1048576: true; the input reads as it did. -/
def tallyAddsUptoRow : OpenClaim := { program := "ytfnpiclioikjpaa", sum := "6476aa2c69729adbbfe0cc03a888ba8626cd2c39ba55a5e415ba3c02daca49c6", func := "huckster/hucksterlaw10.TallyAdds", spec := "tallyAdds", inPlace := ["internal/bytealg.abigen_runtime_cmpstring", "slices.overlaps[huckster/api.Cell]"], unfollowed := true, recurses := true, apart := false, narrowed := true }
def TallyAddsUptoSaid : Prop := tallyAddsUptoRow.holds Try.pinned (OpenSpec.upto tallyAddsSpec)

/-- 'hucksterlaw10.TallyOrders', WHERE WHAT IT READS IS OF BULK AT MOST 1048576: true; the input reads as it did. -/
def tallyOrdersUptoRow : OpenClaim := { program := "ytfnpiclioikjpaa", sum := "6476aa2c69729adbbfe0cc03a888ba8626cd2c39ba55a5e415ba3c02daca49c6", func := "huckster/hucksterlaw10.TallyOrders", spec := "tallyOrders", inPlace := ["internal/bytealg.abigen_runtime_cmpstring", "slices.overlaps[huckster/api.Cell]"], unfollowed := true, recurses := true, apart := false, narrowed := true }
def TallyOrdersUptoSaid : Prop := tallyOrdersUptoRow.holds Try.pinned (OpenSpec.upto tallyOrdersSpec)

/-- 'hucksterlaw12.RegisterJoins', WHERE WHAT IT READS IS OF BULK AT MOST 1048576: true; the input reads as it did. -/
def registerJoinsUptoRow : OpenClaim := { program := "ytfnpiclioikjpaa", sum := "6476aa2c69729adbbfe0cc03a888ba8626cd2c39ba55a5e415ba3c02daca49c6", func := "huckster/hucksterlaw12.RegisterJoins", spec := "registerJoins", inPlace := ["internal/bytealg.abigen_runtime_cmpstring", "slices.overlaps[huckster/api.Note]"], unfollowed := true, recurses := true, apart := false, narrowed := true }
def RegisterJoinsUptoSaid : Prop := registerJoinsUptoRow.holds Try.pinned (OpenSpec.upto registerJoinsSpec)

/-- 'hucksterlaw11.EscrowTurns', WHERE WHAT IT READS IS OF BULK AT MOST 1048576: true; the input reads as it did. -/
def escrowTurnsUptoRow : OpenClaim := { program := "ytfnpiclioikjpaa", sum := "6476aa2c69729adbbfe0cc03a888ba8626cd2c39ba55a5e415ba3c02daca49c6", func := "huckster/hucksterlaw11.EscrowTurns", spec := "escrowTurns", inPlace := ["internal/bytealg.abigen_runtime_cmpstring", "slices.overlaps[huckster/api.Account]"], unfollowed := true, recurses := true, apart := false, narrowed := true }
def EscrowTurnsUptoSaid : Prop := escrowTurnsUptoRow.holds Try.pinned (OpenSpec.upto escrowTurnsSpec)

/-- 'hucksterlaw11.EscrowHolds', WHERE WHAT IT READS IS OF BULK AT MOST 1048576: true; the input reads as it did. -/
def escrowHoldsUptoRow : OpenClaim := { program := "ytfnpiclioikjpaa", sum := "6476aa2c69729adbbfe0cc03a888ba8626cd2c39ba55a5e415ba3c02daca49c6", func := "huckster/hucksterlaw11.EscrowHolds", spec := "escrowHolds", inPlace := ["internal/bytealg.abigen_runtime_cmpstring", "slices.overlaps[huckster/api.Account]"], unfollowed := true, recurses := true, apart := false, narrowed := true }
def EscrowHoldsUptoSaid : Prop := escrowHoldsUptoRow.holds Try.pinned (OpenSpec.upto escrowHoldsSpec)

/-- 'hucksterlaw11.EscrowMoves', WHERE WHAT IT READS IS OF BULK AT MOST 1048576: true; the input reads as it did. -/
def escrowMovesUptoRow : OpenClaim := { program := "ytfnpiclioikjpaa", sum := "6476aa2c69729adbbfe0cc03a888ba8626cd2c39ba55a5e415ba3c02daca49c6", func := "huckster/hucksterlaw11.EscrowMoves", spec := "escrowMoves", inPlace := ["internal/bytealg.abigen_runtime_cmpstring", "slices.overlaps[huckster/api.Account]"], unfollowed := true, recurses := true, apart := false, narrowed := true }
def EscrowMovesUptoSaid : Prop := escrowMovesUptoRow.holds Try.pinned (OpenSpec.upto escrowMovesSpec)

/-- 'hucksterlaw11.EscrowTells', WHERE WHAT IT READS IS OF BULK AT MOST 1048576: true; the input reads as it did. -/
def escrowTellsUptoRow : OpenClaim := { program := "ytfnpiclioikjpaa", sum := "6476aa2c69729adbbfe0cc03a888ba8626cd2c39ba55a5e415ba3c02daca49c6", func := "huckster/hucksterlaw11.EscrowTells", spec := "escrowTells", inPlace := ["internal/bytealg.abigen_runtime_cmpstring", "slices.overlaps[huckster/api.Account]"], unfollowed := true, recurses := true, apart := false, narrowed := true }
def EscrowTellsUptoSaid : Prop := escrowTellsUptoRow.holds Try.pinned (OpenSpec.upto escrowTellsSpec)

end Rows
end Go.Proofs.Ytfnpiclioikjpaa

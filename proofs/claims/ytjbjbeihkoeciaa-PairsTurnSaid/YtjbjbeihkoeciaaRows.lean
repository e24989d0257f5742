/-
  No cell of these rows narrows 'for every input' (looked for: loops, veiled, ifaces, maps, wideKeys, modest, calm, conditions, laid).
  DERIVED. THE GIVEN ROWS OF THIS SEAT. 3 by the template 'for every input the law returns true; each argument reads behind the call as it read before'; 0 by the template 'total and deterministic' (their statements: YtjbjbeihkoeciaaTotals.lean).
  GIVEN WITH THE SEED: the statements are not yours to turn. If you find one false, say at which input.
  Laid BY PROGRAM, IN A SANDBOX (cutbox-rows.mjs): the forced cells as the released guide's own fill.sh prints them over the translation 73da9522b66702fd… (all of the seat's roots in one cut). By AI agents, Wed Nov 11 2026. No macro, syntax, notation, axiom, sorry.
-/
import Derived.Test.YtjbjbeihkoeciaaChecked
import GoSem.Claim
import GoSem.ClaimJoined
import GoSem.ClaimMapViews
import Derived.JoinedTies
import Derived.KernelRfl
namespace Go.Proofs.Ytjbjbeihkoeciaa
/- THE CELL 'sum', in the pinned program and in every row, IS THE sha256 OF THE DUMP (.gsa) THAT YtjbjbeihkoeciaaProg.lean LOADS. Nothing in Lean hashes anything: it is a label: what it is worth is what the hold of that sum in a sandbox is worth. -/
noncomputable def Try.pinned : Pinned := { name := "ytjbjbeihkoeciaa", sum := "73da9522b66702fdfab5218fe863c8b6aa46a9f5617a18493f94cde708e77f58", checked := Try.checked }
namespace Rows
def none {H : Type} : Left H := { results := [], args := [] }

/-- 'hucksterlaw16.SortsChecks': WHATEVER THE INPUT: true; the input reads as it did. -/
def sortsChecksSpec : ChangeSpec := { name := "sortsChecks", fn := fun _ => fun
  | [d1, d2] => { results := [.lit (.bool true)], args := [d1, d2] }
  | _ => none }
def sortsChecksRow : OpenClaim := { program := "ytjbjbeihkoeciaa", sum := "73da9522b66702fdfab5218fe863c8b6aa46a9f5617a18493f94cde708e77f58", func := "huckster/hucksterlaw16.SortsChecks", spec := "sortsChecks", unfollowed := true, recurses := true, plainKeys := false, apart := false }
def SortsChecksSaid : Prop := sortsChecksRow.holds Try.pinned (OpenSpec.ofChange sortsChecksSpec)

/-- ITS FALSE NEIGHBOUR: 'it returns false'. Refute it at one input. -/
def sortsChecksWrong : ChangeSpec := { name := "sortsChecks", fn := fun _ => fun
  | [d1, d2] => { results := [.lit (.bool false)], args := [d1, d2] }
  | _ => none }
def SortsChecksWrongFalsely : Prop := sortsChecksRow.holds Try.pinned (OpenSpec.ofChange sortsChecksWrong)

/-- 'hucksterlaw21.PairsTurn': WHATEVER THE INPUT: true; the input reads as it did. -/
def pairsTurnSpec : ChangeSpec := { name := "pairsTurn", fn := fun _ => fun
  | [d1, d2, d3] => { results := [.lit (.bool true)], args := [d1, d2, d3] }
  | _ => none }
def pairsTurnRow : OpenClaim := { program := "ytjbjbeihkoeciaa", sum := "73da9522b66702fdfab5218fe863c8b6aa46a9f5617a18493f94cde708e77f58", func := "huckster/hucksterlaw21.PairsTurn", spec := "pairsTurn", unfollowed := true, recurses := true, plainKeys := false, apart := false }
def PairsTurnSaid : Prop := pairsTurnRow.holds Try.pinned (OpenSpec.ofChange pairsTurnSpec)

/-- ITS FALSE NEIGHBOUR: 'it returns false'. Refute it at one input. -/
def pairsTurnWrong : ChangeSpec := { name := "pairsTurn", fn := fun _ => fun
  | [d1, d2, d3] => { results := [.lit (.bool false)], args := [d1, d2, d3] }
  | _ => none }
def PairsTurnWrongFalsely : Prop := pairsTurnRow.holds Try.pinned (OpenSpec.ofChange pairsTurnWrong)

/-- 'hucksterlaw20.WpExact': WHATEVER THE INPUT: true; the input reads as it did. -/
def wpExactSpec : ChangeSpec := { name := "wpExact", fn := fun _ => fun
  | [d1, d2, d3] => { results := [.lit (.bool true)], args := [d1, d2, d3] }
  | _ => none }
def wpExactRow : OpenClaim := { program := "ytjbjbeihkoeciaa", sum := "73da9522b66702fdfab5218fe863c8b6aa46a9f5617a18493f94cde708e77f58", func := "huckster/hucksterlaw20.WpExact", spec := "wpExact", inPlace := ["slices.overlaps[string]", "internal/bytealg.abigen_runtime_cmpstring", "slices.overlaps[huckster/api.Cell]"], unfollowed := true, recurses := true, plainKeys := false, apart := false }
def WpExactSaid : Prop := wpExactRow.holds Try.pinned (OpenSpec.ofChange wpExactSpec)

/-- ITS FALSE NEIGHBOUR: 'it returns false'. Refute it at one input. -/
def wpExactWrong : ChangeSpec := { name := "wpExact", fn := fun _ => fun
  | [d1, d2, d3] => { results := [.lit (.bool false)], args := [d1, d2, d3] }
  | _ => none }
def WpExactWrongFalsely : Prop := wpExactRow.holds Try.pinned (OpenSpec.ofChange wpExactWrong)

/- THE SECOND FORM. 'bulk': how many values and letters a reading holds, each counted each time it is reached (what is shared counts as often as it is met; a slice's spare places count too). A statement '..UptoSaid' is the law's where the arguments, and the package variables that the reading takes, are together of bulk at most 1048576: NARROWER than '..Said'. Prove '..Said' where nothing that the law and all that it calls make is longer than what came in: it says more and counts as full. Else prove '..UptoSaid'. A law counts once. -/
mutual
def uptoBulk {H : Type} : DataW H → Nat
  | .lit (.string bytes) => bytes.length + 1
  | .lit _ => 1
  | .nil => 1
  | .ptr d => uptoBulk d + 1
  | .slice elems spare => uptoBulkAll elems + uptoBulkAll spare + 1
  | .agg parts => uptoBulkAll parts + 1
  | .iface _ d => uptoBulk d + 1
  | .map entries => uptoBulkEntries entries + 1
  | .held _ => 1
def uptoBulkAll {H : Type} : List (DataW H) → Nat
  | [] => 0
  | d :: r => uptoBulk d + uptoBulkAll r
def uptoBulkEntries {H : Type} : List (Lit × DataW H) → Nat
  | [] => 0
  | x :: r => uptoBulkEntry x + uptoBulkEntries r
def uptoBulkEntry {H : Type} : Lit × DataW H → Nat
  | (.string bytes, d) => bytes.length + uptoBulk d + 1
  | (_, d) => uptoBulk d + 1
 end
def uptoSmall : (H : Type) → List (DataW H) → Bool := fun _ ds => decide (uptoBulkAll ds ≤ 1048576)
def OpenSpec.upto (s : _root_.Go.ChangeSpec) : _root_.Go.OpenSpec := { _root_.Go.OpenSpec.ofChange s with cond := some uptoSmall }

/-- 'hucksterlaw16.SortsChecks', WHERE WHAT IT READS IS OF BULK AT MOST 1048576: true; the input reads as it did. -/
def sortsChecksUptoRow : OpenClaim := { program := "ytjbjbeihkoeciaa", sum := "73da9522b66702fdfab5218fe863c8b6aa46a9f5617a18493f94cde708e77f58", func := "huckster/hucksterlaw16.SortsChecks", spec := "sortsChecks", unfollowed := true, recurses := true, plainKeys := false, apart := false, narrowed := true }
def SortsChecksUptoSaid : Prop := sortsChecksUptoRow.holds Try.pinned (OpenSpec.upto sortsChecksSpec)

/-- 'hucksterlaw21.PairsTurn', WHERE WHAT IT READS IS OF BULK AT MOST 1048576: true; the input reads as it did. -/
def pairsTurnUptoRow : OpenClaim := { program := "ytjbjbeihkoeciaa", sum := "73da9522b66702fdfab5218fe863c8b6aa46a9f5617a18493f94cde708e77f58", func := "huckster/hucksterlaw21.PairsTurn", spec := "pairsTurn", unfollowed := true, recurses := true, plainKeys := false, apart := false, narrowed := true }
def PairsTurnUptoSaid : Prop := pairsTurnUptoRow.holds Try.pinned (OpenSpec.upto pairsTurnSpec)

/-- 'hucksterlaw20.WpExact', WHERE WHAT IT READS IS OF BULK AT MOST 1048576: true; the input reads as it did. -/
def wpExactUptoRow : OpenClaim := { program := "ytjbjbeihkoeciaa", sum := "73da9522b66702fdfab5218fe863c8b6aa46a9f5617a18493f94cde708e77f58", func := "huckster/hucksterlaw20.WpExact", spec := "wpExact", inPlace := ["slices.overlaps[string]", "internal/bytealg.abigen_runtime_cmpstring", "slices.overlaps[huckster/api.Cell]"], unfollowed := true, recurses := true, plainKeys := false, apart := false, narrowed := true }
def WpExactUptoSaid : Prop := wpExactUptoRow.holds Try.pinned (OpenSpec.upto wpExactSpec)

end Rows
end Go.Proofs.Ytjbjbeihkoeciaa

/-
  No cell of these rows narrows 'for every input' (looked for: loops, veiled, ifaces, maps, wideKeys, modest, calm, conditions, laid).
  DERIVED. THE GIVEN ROWS OF THIS SEAT. 6 by the template 'for every input the law returns true; each argument reads behind the call as it read before'; 0 by the template 'total and deterministic' (their statements: YtjbjbeihkoeciaaGreatTotals.lean).
  GIVEN WITH THE SEED: the statements are not yours to turn. If you find one false, say at which input.
  Laid BY PROGRAM, IN A SANDBOX (cutbox-rows.mjs): the forced cells as the released guide's own fill.sh prints them over the translation 08748a0d6d3d90e1… (all of the seat's roots in one cut). By AI agents, Wed Nov 11 2026. No macro, syntax, notation, axiom, sorry.
-/
import Derived.Test.YtjbjbeihkoeciaaGreatChecked
import GoSem.Claim
import GoSem.ClaimJoined
import GoSem.ClaimMapViews
import Derived.JoinedTies
import Derived.KernelRfl
namespace Go.Proofs.YtjbjbeihkoeciaaGreat
/- THE CELL 'sum', in the pinned program and in every row, IS THE sha256 OF THE DUMP (.gsa) THAT YtjbjbeihkoeciaaGreatProg.lean LOADS. Nothing in Lean hashes anything: it is a label: what it is worth is what the hold of that sum in a sandbox is worth. -/
noncomputable def Tryz.pinned : Pinned := { name := "ytjbjbeihkoeciaagreat", sum := "08748a0d6d3d90e1efaef1cb2e9c42dfc9575a0930982d8c20032a247aa9f1cf", checked := Tryz.checked }
namespace Rows
def none {H : Type} : Left H := { results := [], args := [] }

/-- 'hucksterlaw21.PairsAt': WHATEVER THE INPUT: true; the input reads as it did. -/
def pairsAtSpec : ChangeSpec := { name := "pairsAt", fn := fun _ => fun
  | [d1, d2, d3] => { results := [.lit (.bool true)], args := [d1, d2, d3] }
  | _ => none }
def pairsAtRow : OpenClaim := { program := "ytjbjbeihkoeciaagreat", sum := "08748a0d6d3d90e1efaef1cb2e9c42dfc9575a0930982d8c20032a247aa9f1cf", func := "huckster/hucksterlaw21.PairsAt", spec := "pairsAt", unfollowed := true, recurses := true, plainKeys := false, apart := false }
def PairsAtSaid : Prop := pairsAtRow.holds Tryz.pinned (OpenSpec.ofChange pairsAtSpec)

/-- ITS FALSE NEIGHBOUR: 'it returns false'. Refute it at one input. -/
def pairsAtWrong : ChangeSpec := { name := "pairsAt", fn := fun _ => fun
  | [d1, d2, d3] => { results := [.lit (.bool false)], args := [d1, d2, d3] }
  | _ => none }
def PairsAtWrongFalsely : Prop := pairsAtRow.holds Tryz.pinned (OpenSpec.ofChange pairsAtWrong)

/-- 'hucksterlaw21.PairsAll': WHATEVER THE INPUT: true; the input reads as it did. -/
def pairsAllSpec : ChangeSpec := { name := "pairsAll", fn := fun _ => fun
  | [d1, d2] => { results := [.lit (.bool true)], args := [d1, d2] }
  | _ => none }
def pairsAllRow : OpenClaim := { program := "ytjbjbeihkoeciaagreat", sum := "08748a0d6d3d90e1efaef1cb2e9c42dfc9575a0930982d8c20032a247aa9f1cf", func := "huckster/hucksterlaw21.PairsAll", spec := "pairsAll", unfollowed := true, recurses := true, plainKeys := false, apart := false }
def PairsAllSaid : Prop := pairsAllRow.holds Tryz.pinned (OpenSpec.ofChange pairsAllSpec)

/-- ITS FALSE NEIGHBOUR: 'it returns false'. Refute it at one input. -/
def pairsAllWrong : ChangeSpec := { name := "pairsAll", fn := fun _ => fun
  | [d1, d2] => { results := [.lit (.bool false)], args := [d1, d2] }
  | _ => none }
def PairsAllWrongFalsely : Prop := pairsAllRow.holds Tryz.pinned (OpenSpec.ofChange pairsAllWrong)

/-- 'hucksterlaw21.PairsStates': WHATEVER THE INPUT: true; the input reads as it did. -/
def pairsStatesSpec : ChangeSpec := { name := "pairsStates", fn := fun _ => fun
  | [d1, d2, d3] => { results := [.lit (.bool true)], args := [d1, d2, d3] }
  | _ => none }
def pairsStatesRow : OpenClaim := { program := "ytjbjbeihkoeciaagreat", sum := "08748a0d6d3d90e1efaef1cb2e9c42dfc9575a0930982d8c20032a247aa9f1cf", func := "huckster/hucksterlaw21.PairsStates", spec := "pairsStates", unfollowed := true, recurses := true, plainKeys := false, apart := false }
def PairsStatesSaid : Prop := pairsStatesRow.holds Tryz.pinned (OpenSpec.ofChange pairsStatesSpec)

/-- ITS FALSE NEIGHBOUR: 'it returns false'. Refute it at one input. -/
def pairsStatesWrong : ChangeSpec := { name := "pairsStates", fn := fun _ => fun
  | [d1, d2, d3] => { results := [.lit (.bool false)], args := [d1, d2, d3] }
  | _ => none }
def PairsStatesWrongFalsely : Prop := pairsStatesRow.holds Tryz.pinned (OpenSpec.ofChange pairsStatesWrong)

/-- 'hucksterlaw22.RepairBest': WHATEVER THE INPUT: true; the input reads as it did. -/
def repairBestSpec : ChangeSpec := { name := "repairBest", fn := fun _ => fun
  | [d] => { results := [.lit (.bool true)], args := [d] }
  | _ => none }
def repairBestRow : OpenClaim := { program := "ytjbjbeihkoeciaagreat", sum := "08748a0d6d3d90e1efaef1cb2e9c42dfc9575a0930982d8c20032a247aa9f1cf", func := "huckster/hucksterlaw22.RepairBest", spec := "repairBest", unfollowed := true, recurses := true, plainKeys := false, apart := false }
def RepairBestSaid : Prop := repairBestRow.holds Tryz.pinned (OpenSpec.ofChange repairBestSpec)

/-- ITS FALSE NEIGHBOUR: 'it returns false'. Refute it at one input. -/
def repairBestWrong : ChangeSpec := { name := "repairBest", fn := fun _ => fun
  | [d] => { results := [.lit (.bool false)], args := [d] }
  | _ => none }
def RepairBestWrongFalsely : Prop := repairBestRow.holds Tryz.pinned (OpenSpec.ofChange repairBestWrong)

/-- 'hucksterlaw22.RepairTries': WHATEVER THE INPUT: true; the input reads as it did. -/
def repairTriesSpec : ChangeSpec := { name := "repairTries", fn := fun _ => fun
  | [d1, d2] => { results := [.lit (.bool true)], args := [d1, d2] }
  | _ => none }
def repairTriesRow : OpenClaim := { program := "ytjbjbeihkoeciaagreat", sum := "08748a0d6d3d90e1efaef1cb2e9c42dfc9575a0930982d8c20032a247aa9f1cf", func := "huckster/hucksterlaw22.RepairTries", spec := "repairTries", unfollowed := true, recurses := true, plainKeys := false, apart := false }
def RepairTriesSaid : Prop := repairTriesRow.holds Tryz.pinned (OpenSpec.ofChange repairTriesSpec)

/-- ITS FALSE NEIGHBOUR: 'it returns false'. Refute it at one input. -/
def repairTriesWrong : ChangeSpec := { name := "repairTries", fn := fun _ => fun
  | [d1, d2] => { results := [.lit (.bool false)], args := [d1, d2] }
  | _ => none }
def RepairTriesWrongFalsely : Prop := repairTriesRow.holds Tryz.pinned (OpenSpec.ofChange repairTriesWrong)

/-- 'hucksterlaw22.RepairHolds': WHATEVER THE INPUT: true; the input reads as it did. -/
def repairHoldsSpec : ChangeSpec := { name := "repairHolds", fn := fun _ => fun
  | [d1, d2] => { results := [.lit (.bool true)], args := [d1, d2] }
  | _ => none }
def repairHoldsRow : OpenClaim := { program := "ytjbjbeihkoeciaagreat", sum := "08748a0d6d3d90e1efaef1cb2e9c42dfc9575a0930982d8c20032a247aa9f1cf", func := "huckster/hucksterlaw22.RepairHolds", spec := "repairHolds", unfollowed := true, recurses := true, plainKeys := false, apart := false }
def RepairHoldsSaid : Prop := repairHoldsRow.holds Tryz.pinned (OpenSpec.ofChange repairHoldsSpec)

/-- ITS FALSE NEIGHBOUR: 'it returns false'. Refute it at one input. -/
def repairHoldsWrong : ChangeSpec := { name := "repairHolds", fn := fun _ => fun
  | [d1, d2] => { results := [.lit (.bool false)], args := [d1, d2] }
  | _ => none }
def RepairHoldsWrongFalsely : Prop := repairHoldsRow.holds Tryz.pinned (OpenSpec.ofChange repairHoldsWrong)

/- THE SECOND FORM. 'bulk': how many values and letters a reading holds, each counted each time it is reached (what is shared counts as often as it is met; a slice's spare places count too). A statement '..UptoSaid' is the law's where the arguments, and the package variables that the reading takes, are together of bulk at most 1048576: NARROWER than '..Said'. Prove '..Said' where nothing that the law and all that it calls make is longer than what came in: it says more and counts as full. Else prove '..UptoSaid'. A law counts once. -/
mutual
def uptoBulk {H : Type} : DataW H → Nat
  | .lit (.string bytes) => bytes.length + 1
  | .lit _ => 1
  | .nil => 1
  | .ptr d => uptoBulk d + 1
  | .slice elems spare => uptoBulkAll elems + uptoBulkAll spare + 1
  | .agg parts => uptoBulkAll parts + 1
  | .iface _ d => uptoBulk d + 1
  | .map entries => uptoBulkEntries entries + 1
  | .held _ => 1
def uptoBulkAll {H : Type} : List (DataW H) → Nat
  | [] => 0
  | d :: r => uptoBulk d + uptoBulkAll r
def uptoBulkEntries {H : Type} : List (Lit × DataW H) → Nat
  | [] => 0
  | x :: r => uptoBulkEntry x + uptoBulkEntries r
def uptoBulkEntry {H : Type} : Lit × DataW H → Nat
  | (.string bytes, d) => bytes.length + uptoBulk d + 1
  | (_, d) => uptoBulk d + 1
 end
def uptoSmall : (H : Type) → List (DataW H) → Bool := fun _ ds => decide (uptoBulkAll ds ≤ 1048576)
def OpenSpec.upto (s : _root_.Go.ChangeSpec) : _root_.Go.OpenSpec := { _root_.Go.OpenSpec.ofChange s with cond := some uptoSmall }

/-- 'hucksterlaw21.PairsAt', WHERE WHAT IT READS IS OF BULK AT MOST 1048576: true; the input reads as it did. -/
def pairsAtUptoRow : OpenClaim := { program := "ytjbjbeihkoeciaagreat", sum := "08748a0d6d3d90e1efaef1cb2e9c42dfc9575a0930982d8c20032a247aa9f1cf", func := "huckster/hucksterlaw21.PairsAt", spec := "pairsAt", unfollowed := true, recurses := true, plainKeys := false, apart := false, narrowed := true }
def PairsAtUptoSaid : Prop := pairsAtUptoRow.holds Tryz.pinned (OpenSpec.upto pairsAtSpec)

/-- 'hucksterlaw21.PairsAll', WHERE WHAT IT READS IS OF BULK AT MOST 1048576: true; the input reads as it did. -/
def pairsAllUptoRow : OpenClaim := { program := "ytjbjbeihkoeciaagreat", sum := "08748a0d6d3d90e1efaef1cb2e9c42dfc9575a0930982d8c20032a247aa9f1cf", func := "huckster/hucksterlaw21.PairsAll", spec := "pairsAll", unfollowed := true, recurses := true, plainKeys := false, apart := false, narrowed := true }
def PairsAllUptoSaid : Prop := pairsAllUptoRow.holds Tryz.pinned (OpenSpec.upto pairsAllSpec)

/-- 'hucksterlaw21.PairsStates', WHERE WHAT IT READS IS OF BULK AT MOST 1048576: true; the input reads as it did. -/
def pairsStatesUptoRow : OpenClaim := { program := "ytjbjbeihkoeciaagreat", sum := "08748a0d6d3d90e1efaef1cb2e9c42dfc9575a0930982d8c20032a247aa9f1cf", func := "huckster/hucksterlaw21.PairsStates", spec := "pairsStates", unfollowed := true, recurses := true, plainKeys := false, apart := false, narrowed := true }
def PairsStatesUptoSaid : Prop := pairsStatesUptoRow.holds Tryz.pinned (OpenSpec.upto pairsStatesSpec)

/-- 'hucksterlaw22.RepairBest', WHERE WHAT IT READS IS OF BULK AT MOST 1048576: true; the input reads as it did. -/
def repairBestUptoRow : OpenClaim := { program := "ytjbjbeihkoeciaagreat", sum := "08748a0d6d3d90e1efaef1cb2e9c42dfc9575a0930982d8c20032a247aa9f1cf", func := "huckster/hucksterlaw22.RepairBest", spec := "repairBest", unfollowed := true, recurses := true, plainKeys := false, apart := false, narrowed := true }
def RepairBestUptoSaid : Prop := repairBestUptoRow.holds Tryz.pinned (OpenSpec.upto repairBestSpec)

/-- 'hucksterlaw22.RepairTries', WHERE WHAT IT READS IS OF BULK AT MOST 1048576: true; the input reads as it did. -/
def repairTriesUptoRow : OpenClaim := { program := "ytjbjbeihkoeciaagreat", sum := "08748a0d6d3d90e1efaef1cb2e9c42dfc9575a0930982d8c20032a247aa9f1cf", func := "huckster/hucksterlaw22.RepairTries", spec := "repairTries", unfollowed := true, recurses := true, plainKeys := false, apart := false, narrowed := true }
def RepairTriesUptoSaid : Prop := repairTriesUptoRow.holds Tryz.pinned (OpenSpec.upto repairTriesSpec)

/-- 'hucksterlaw22.RepairHolds', WHERE WHAT IT READS IS OF BULK AT MOST 1048576: true; the input reads as it did. -/
def repairHoldsUptoRow : OpenClaim := { program := "ytjbjbeihkoeciaagreat", sum := "08748a0d6d3d90e1efaef1cb2e9c42dfc9575a0930982d8c20032a247aa9f1cf", func := "huckster/hucksterlaw22.RepairHolds", spec := "repairHolds", unfollowed := true, recurses := true, plainKeys := false, apart := false, narrowed := true }
def RepairHoldsUptoSaid : Prop := repairHoldsUptoRow.holds Tryz.pinned (OpenSpec.upto repairHoldsSpec)

end Rows
end Go.Proofs.YtjbjbeihkoeciaaGreat

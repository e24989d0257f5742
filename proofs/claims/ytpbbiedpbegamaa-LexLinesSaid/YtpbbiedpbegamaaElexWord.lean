/- lex.Word, in the form that printed texts ask of a call. -/
import Derived.Test.YtpbbiedpbegamaaE2
namespace Go.Proofs.Ytpbbiedpbegamaa.X
open Go.RowKit
def lex_Word.f (a0 : ByteArray) : Option Bool := some (wordB a0)
theorem lex_Word.calls (a0 : ByteArray) (r : Bool) (w : World) (h : lex_Word.f a0 = some r) :
    Calls Try.prog 10 #[.string a0] w fun e w' => e = .returned (.bool r) ∧ Below w.heap.size w w' := by
  obtain rfl : wordB a0 = r := Option.some.inj h
  exact word_any a0 w
end Go.Proofs.Ytpbbiedpbegamaa.X

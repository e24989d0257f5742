/- lex.Read, in the form that printed texts ask of a call. -/
import Derived.Test.YtpbbiedpbegamaaE8
namespace Go.Proofs.Ytpbbiedpbegamaa.X
open Go.RowKit Go.Proofs.YtpbbiedpbegamaaW.PrintWords
def lex_Read.f (a0 : ByteArray) : Option (List S33 × Int × Int) := some (lexR a0)
theorem lex_Read.calls (a0 : ByteArray) (r1 : List S33) (r2 : Int) (r3 : Int) (w : World) (h : lex_Read.f a0 = some (r1, r2, r3)) :
    Calls Try.prog 7 #[.string a0] w fun e w' => ∃ v0_ : Value, e = .returned (.tuple #[v0_, .int .i64 r2, .int .i64 r3]) ∧ Kd.R k33 33 w' w.heap.size (fun _ => True) v0_ r1 ∧ Below w.heap.size w w' := by
  have h' : lexR a0 = (r1, r2, r3) := Option.some.inj h
  have := read_any a0 w
  rw [h'] at this
  exact this
end Go.Proofs.Ytpbbiedpbegamaa.X

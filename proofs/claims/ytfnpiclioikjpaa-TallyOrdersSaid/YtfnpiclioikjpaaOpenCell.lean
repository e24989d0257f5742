/- Slices of Cells that come in. -/
import Derived.Test.YtfnpiclioikjpaaOpen0
import Derived.Deep.Fields
import Derived.Test.YtfnpiclioikjpaaRowCell
set_option linter.unusedSimpArgs false
set_option linter.unusedVariables false
namespace Go.Proofs.Ytfnpiclioikjpaa.X
open Go.RowKit Go.Proofs.YtfnpiclioikjpaaW.PrintWords Go.ChangeShapes Go.WideShapes Go.Deep

theorem openCell {H : Type} {enc : TypeId × Value → H} {w : World} {spare : Nat → Bool} {held : Bool} :
    ∀ (n : Nat) (cs : List Value) (x : DataW H × List MemPlace), DataW.trod enc Try.prog w 0 spare held n 47 cs = some x → ∃ z : S47, cs = cellCell z ∧ True := by
  intro n cs x h
  obtain ⟨xs, m, rfl, rfl, hl, hxl, hf⟩ := DataW.trod_struct Try.underlying47 h
  have hl' : cs.length = 2 := hl.trans (by kernel_rfl)
  have hxl' : xs.length = 2 := hxl
  have hf' := struct_fields (by kernel_rfl) hf
  have e0 := hf' 0 _ rfl
  rw [List.getElem?_eq_getElem (by omega)] at e0
  obtain ⟨s0, g0, _, _⟩ := DataW.trod_string Try.underlying9 e0
  have c0 : cs[0]? = some (.string s0) := take1 g0
  have e1 := hf' 1 _ rfl
  rw [List.getElem?_eq_getElem (by omega)] at e1
  obtain ⟨s1, g1, _, _⟩ := DataW.trod_int Try.underlying3 e1
  have c1 : cs[1]? = some (.int .i64 s1) := take1 g1
  refine ⟨⟨s0, s1⟩, ?_, trivial⟩
  apply List.ext_getElem?
  intro j
  rcases j with _ | _ | j
  · exact c0
  · exact c1
  · rw [List.getElem?_eq_none (by omega)]; rfl
theorem CCell {w : World} {A : Option Addr} {len cap : Nat} {zs : List S47} (h : RowIs cellCell (fun _ => True) 2 w A len cap zs) : Kd.C k47 w A len zs := row_C rfl (fun z => k47_mk w z) h
end Go.Proofs.Ytfnpiclioikjpaa.X

/- Slices of Notes that come in. -/
import Derived.Test.YtfnpiclioikjpaaOpen0
import Derived.Deep.Fields
import Derived.Test.YtfnpiclioikjpaaRowNote
set_option linter.unusedSimpArgs false
set_option linter.unusedVariables false
namespace Go.Proofs.Ytfnpiclioikjpaa.X
open Go.RowKit Go.Proofs.YtfnpiclioikjpaaW.PrintWords Go.ChangeShapes Go.WideShapes Go.Deep

theorem openNote {H : Type} {enc : TypeId × Value → H} {w : World} {spare : Nat → Bool} {held : Bool} :
    ∀ (n : Nat) (cs : List Value) (x : DataW H × List MemPlace), DataW.trod enc Try.prog w 0 spare held n 24 cs = some x → ∃ z : S24, cs = cellNote z ∧ True := by
  intro n cs x h
  obtain ⟨xs, m, rfl, rfl, hl, hxl, hf⟩ := DataW.trod_struct Try.underlying24 h
  have hl' : cs.length = 4 := hl.trans (by kernel_rfl)
  have hxl' : xs.length = 4 := hxl
  have hf' := struct_fields (by kernel_rfl) hf
  have e0 := hf' 0 _ rfl
  rw [List.getElem?_eq_getElem (by omega)] at e0
  obtain ⟨s0, g0, _, _⟩ := DataW.trod_string Try.underlying9 e0
  have c0 : cs[0]? = some (.string s0) := take1 g0
  have e1 := hf' 1 _ rfl
  rw [List.getElem?_eq_getElem (by omega)] at e1
  obtain ⟨s1, g1, _, _⟩ := DataW.trod_int Try.underlying3 e1
  have c1 : cs[1]? = some (.int .i64 s1) := take1 g1
  have e2 := hf' 2 _ rfl
  rw [List.getElem?_eq_getElem (by omega)] at e2
  obtain ⟨s2, g2, _, _⟩ := DataW.trod_int Try.underlying3 e2
  have c2 : cs[2]? = some (.int .i64 s2) := take1 g2
  have e3 := hf' 3 _ rfl
  rw [List.getElem?_eq_getElem (by omega)] at e3
  obtain ⟨s3, g3, _, _⟩ := DataW.trod_string Try.underlying9 e3
  have c3 : cs[3]? = some (.string s3) := take1 g3
  refine ⟨⟨s0, s1, s2, s3⟩, ?_, trivial⟩
  apply List.ext_getElem?
  intro j
  rcases j with _ | _ | _ | _ | j
  · exact c0
  · exact c1
  · exact c2
  · exact c3
  · rw [List.getElem?_eq_none (by omega)]; rfl
theorem CNote {w : World} {A : Option Addr} {len cap : Nat} {zs : List S24} (h : RowIs cellNote (fun _ => True) 4 w A len cap zs) : Kd.C k24 w A len zs := row_C rfl (fun z => k24_mk w z) h
end Go.Proofs.Ytfnpiclioikjpaa.X

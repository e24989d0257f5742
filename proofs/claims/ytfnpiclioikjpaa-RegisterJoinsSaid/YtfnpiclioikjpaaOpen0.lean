/- Slices that come in, opened element by element. -/
import Derived.Test.YtfnpiclioikjpaaX0
import Derived.Deep.Slices
import Derived.Deep.Fields
import Derived.ChangeArms
import Derived.DataReads
set_option linter.unusedSimpArgs false
set_option linter.unusedVariables false
namespace Go.Proofs.Ytfnpiclioikjpaa.X
open Go.RowKit Go.Proofs.YtfnpiclioikjpaaW.PrintWords Go.ChangeShapes Go.WideShapes Go.Deep
theorem list_of {α : Type} {R : Nat → α → Prop} : ∀ n : Nat, (∀ i, i < n → ∃ z, R i z) → ∃ zs : List α, zs.length = n ∧ ∀ j p, zs[j]? = some p → R j p := by
  intro n
  induction n with
  | zero => intro _; exact ⟨[], rfl, fun j p h => by simp at h⟩
  | succ n ih =>
    intro h
    obtain ⟨zs, hl, hz⟩ := ih (fun i hi => h i (by omega))
    obtain ⟨z, hr⟩ := h n (by omega)
    refine ⟨zs ++ [z], by simp [hl], fun j p hj => ?_⟩
    rcases Nat.lt_trichotomy j n with h1 | h1 | h1
    · rw [List.getElem?_append_left (by omega)] at hj
      exact hz j p hj
    · subst h1
      rw [List.getElem?_append_right (by omega), hl, Nat.sub_self] at hj
      injection hj with hj
      subst hj
      exact hr
    · rw [List.getElem?_eq_none (by simp [hl]; omega)] at hj
      cases hj
/-- The cells of a row, as the printer's facts have them; good: what is known of each element. -/
def RowIs {α : Type} (K : α → List Value) (good : α → Prop) (sz : Nat) (w : World) (A : Option Addr) (len cap : Nat) (zs : List α) : Prop :=
  len ≤ cap ∧ len ≤ 9223372036854775807 ∧ zs.length = len ∧ (∀ z ∈ zs, good z) ∧ (0 < len → ∃ ad, A = some ad ∧ ∀ j p, zs[j]? = some p → (K p).length = sz ∧ ∀ i u, (K p)[i]? = some u → w.cell? (ad.add (j * sz + i)) = some u)
theorem open_rowOf {H : Type} {enc : TypeId × Value → H} {P : Program} {w : World} {spare : Nat → Bool} {held : Bool} {t e : TypeId} {v : Value} {d : DataW H} {p : List MemPlace} {α : Type} (K : α → List Value) (good : α → Prop) (sz : Nat) (hsz : P.cellsOf e = sz)
    (ht : P.underlying t = some (.slice e)) (hel : ∀ (n : Nat) (cs : List Value) (x : DataW H × List MemPlace), DataW.trod enc P w 0 spare held n e cs = some x → ∃ z : α, cs = K z ∧ good z) (a : Option Addr) (l c : Nat) (hv : v = .slice a l c)
    (h : DataW.Trod enc P w 0 spare held t v d p) : ∃ zs, RowIs K good sz w a l c zs := by
  subst hv
  obtain ⟨fuel, hf⟩ := h
  rcases open_slice ht hf with ⟨hcs, _⟩ | ⟨x, l', c', m, n, D, Pl, hcs, _, hl, hm, hmm, _, hi⟩
  · simp [Value.cells] at hcs
    obtain ⟨rfl, rfl, rfl⟩ := hcs
    exact ⟨[], ⟨Nat.le_refl 0, Nat.zero_le _, rfl, (fun z hz => by simp at hz), (fun h => absurd h (by omega))⟩⟩
  · simp [Value.cells] at hcs
    obtain ⟨rfl, rfl, rfl⟩ := hcs
    have hlm : l ≤ m := by rw [hmm]; split <;> omega
    obtain ⟨zs, hzl, hz⟩ := list_of (R := fun i z => good z ∧ (K z).length = sz ∧ ∀ j u, (K z)[j]? = some u → w.cell? (x.add (i * sz + j)) = some u) l (fun i hil => by
      obtain ⟨cs', hc, hd⟩ := hi i (by omega)
      obtain ⟨z, rfl, hg⟩ := hel n cs' _ hd
      rw [hsz] at hc
      obtain ⟨_, hlen, hat⟩ := World.cells?_some hc
      refine ⟨z, hg, hlen, fun j u hj => ?_⟩
      have hjl : j < sz := by rw [← hlen]; exact (List.getElem?_eq_some_iff.1 hj).1
      have := hat j hjl
      rw [Go.Deep.add_add] at this
      rw [this, hj])
    refine ⟨zs, hl, ?_, hzl, fun z hz' => ?_, fun _ => ⟨x, rfl, fun j p hj => (hz j p hj).2⟩⟩
    · simp only [maxLen] at hm; omega
    · obtain ⟨j, hj, rfl⟩ := List.mem_iff_getElem.1 hz'
      exact (hz j _ (List.getElem?_eq_getElem hj)).1
theorem struct_fields {H : Type} {enc : TypeId × Value → H} {P : Program} {w : World} {base : Nat} {spare : Nat → Bool} {held : Bool} {m : Nat} {fs : Array Field} {cs : List Value} {xs : List (DataW H × List MemPlace)} (hone : oneCellFields P fs = true)
    (hf : ∀ (i : Nat) (f : Field), fs[i]? = some f → DataW.trod enc P w base spare held m f.type ((cs.drop f.offset).take (P.cellsOf f.type)) = xs[i]?) :
    ∀ (i : Nat) (f : Field), fs[i]? = some f → DataW.trod enc P w base spare held m f.type ((cs.drop i).take 1) = xs[i]? := by
  intro i f hi
  have h1 := hf i f hi
  obtain ⟨ho, hk⟩ := hone_of hone i f hi
  rw [ho, hk] at h1
  exact h1
theorem take1 {cs : List Value} {i : Nat} {v : Value} (h : (cs.drop i).take 1 = [v]) : cs[i]? = some v := by
  have := congrArg (fun l => l[0]?) h
  simpa using this
theorem open_u8 {H : Type} {enc : TypeId × Value → H} {P : Program} {w : World} {spare : Nat → Bool} {held : Bool} {e : TypeId} (he : P.underlying e = some (.int .u8)) :
    ∀ (n : Nat) (cs : List Value) (x : DataW H × List MemPlace), DataW.trod enc P w 0 spare held n e cs = some x → ∃ z : Int, cs = [.int .u8 z] ∧ (0 ≤ z ∧ z ≤ 255) := by
  intro n cs x h
  obtain ⟨z, rfl, _, hw⟩ := DataW.trod_int he h
  refine ⟨z, rfl, ?_⟩
  simp [Lit.wf, IntKind.min, IntKind.max, IntKind.wrap, IntKind.bits, IntKind.signed] at hw
  omega
theorem row_C {α : Type} {d : Kd α} {K : α → List Value} {good : α → Prop} {sz : Nat} (hs : d.sz = sz) {w : World} (hK : ∀ z, d.K w z (K z)) {A : Option Addr} {len cap : Nat} {zs : List α} (h : RowIs K good sz w A len cap zs) : Kd.C d w A len zs := by
  subst hs
  refine ⟨h.2.2.1, h.2.1, fun h0 => ?_⟩
  obtain ⟨ad, e, hc⟩ := h.2.2.2.2 h0
  exact ⟨ad, e, fun j p hj => ⟨K p, (hc j p hj).1, hK p, (hc j p hj).2⟩⟩
end Go.Proofs.Ytfnpiclioikjpaa.X

/- Where a key stands among Cells. -/
import Derived.Test.YtfnpiclioikjpaaFindCell
set_option linter.unusedSimpArgs false
set_option linter.unusedVariables false
namespace Go.Proofs.Ytfnpiclioikjpaa.X
open Go.RowKit

theorem ks_lenCell (l : List S47) : (ksCell l).length = l.length := List.length_map ..
/-! #### where a key stands -/
theorem before_posCell (l : List S47) (key : ByteArray) : ∀ x ∈ l.take (posK (ksCell l) key), blt x.f0 key = true := by
  intro x hx
  obtain ⟨j, hj, rfl⟩ := List.mem_iff_getElem.1 hx
  rw [List.length_take] at hj
  have := posK_lt (ks := ksCell l) (key := key) j (by rw [ks_lenCell]; omega) (by omega)
  simpa [ksCell] using this
theorem after_posCell {l : List S47} (ho : OrdK (ksCell l)) (key : ByteArray) : ∀ x ∈ l.drop (posK (ksCell l) key), blt x.f0 key = false := by
  intro x hx
  obtain ⟨j, hj, rfl⟩ := List.mem_iff_getElem.1 hx
  rw [List.length_drop] at hj
  have hp : posK (ksCell l) key < (ksCell l).length := by rw [ks_lenCell]; omega
  have h0 := posK_not hp
  rw [List.getElem_drop]
  rcases Nat.eq_zero_or_pos j with rfl | h1
  · simpa [ksCell] using h0
  · have h2 := ordK_get ho (posK (ksCell l) key) (posK (ksCell l) key + j) (by omega) (by rw [ks_lenCell]; omega)
    cases h3 : blt (l[posK (ksCell l) key + j]).f0 key with
    | false => rfl
    | true =>
      have h4 : blt ((ksCell l)[posK (ksCell l) key + j]'(by rw [ks_lenCell]; omega)) key = true := by simpa [ksCell] using h3
      rw [blt_trans h2 h4] at h0
      cases h0
theorem rd_getCell (l : List S47) (i : Nat) (h : i < l.length) : rd_T47 l (i : Int) = l[i] := by
  unfold rd_T47
  simp [List.getD, h]
theorem has_yesCell {l : List S47} {key : ByteArray} (h : hasCell l key = true) : ∃ hp : posK (ksCell l) key < l.length, (l[posK (ksCell l) key]).f0 = key := by
  unfold hasCell at h
  rw [Bool.and_eq_true, decide_eq_true_eq, beq_iff_eq] at h
  refine ⟨h.1, ?_⟩
  have := bytes_eq h.2
  rw [rd_getCell l _ h.1] at this
  exact this
theorem has_noCell {l : List S47} {key : ByteArray} (ho : OrdK (ksCell l)) (h : hasCell l key = false) : ∀ x ∈ l, x.f0 ≠ key := by
  intro x hx he
  rw [← List.take_append_drop (posK (ksCell l) key) l] at hx
  rcases List.mem_append.1 hx with hx | hx
  · have := before_posCell l key x hx
    rw [he, blt_irrefl] at this
    cases this
  · obtain ⟨j, hj, hje⟩ := List.mem_iff_getElem.1 hx
    rw [List.length_drop] at hj
    have hp : posK (ksCell l) key < l.length := by omega
    have hne : (l[posK (ksCell l) key]).f0 ≠ key := by
      intro hk
      have : hasCell l key = true := by
        unfold hasCell
        rw [rd_getCell l _ hp, hk]
        simp [hp]
      rw [this] at h
      cases h
    have h0 := after_posCell ho key (l[posK (ksCell l) key]) (by rw [List.mem_iff_getElem]; exact ⟨0, by rw [List.length_drop]; omega, by rw [List.getElem_drop]; rfl⟩)
    rcases Nat.eq_zero_or_pos j with rfl | h1
    · rw [List.getElem_drop] at hje
      have : l[posK (ksCell l) key] = x := hje
      rw [this] at hne
      exact hne he
    · rw [List.getElem_drop] at hje
      have h2 := ordK_get ho (posK (ksCell l) key) (posK (ksCell l) key + j) (by omega) (by rw [ks_lenCell]; omega)
      have h3 : blt (l[posK (ksCell l) key]).f0 key = true := by
        have h4 : blt (l[posK (ksCell l) key]).f0 x.f0 = true := by rw [← hje]; simpa [ksCell] using h2
        rw [he] at h4
        exact h4
      rw [h3] at h0
      cases h0
theorem key_oneCell {l : List S47} (ho : OrdK (ksCell l)) {x y : S47} (hx : x ∈ l) (hy : y ∈ l) (h : x.f0 = y.f0) : x = y := by
  obtain ⟨i, hi, rfl⟩ := List.mem_iff_getElem.1 hx
  obtain ⟨j, hj, rfl⟩ := List.mem_iff_getElem.1 hy
  rcases Nat.lt_trichotomy i j with h1 | h1 | h1
  · have h2 := ordK_get ho i j h1 (by rw [ks_lenCell]; omega)
    simp only [ksCell, List.getElem_map] at h2
    rw [h, blt_irrefl] at h2
    cases h2
  · subst h1; rfl
  · have h2 := ordK_get ho j i h1 (by rw [ks_lenCell]; omega)
    simp only [ksCell, List.getElem_map] at h2
    rw [h, blt_irrefl] at h2
    cases h2

theorem ord_extCell : ∀ (a b : List S47), OrdK (ksCell a) → OrdK (ksCell b) → (∀ x, x ∈ a ↔ x ∈ b) → a = b := by
  intro a
  induction a with
  | nil =>
    intro b _ _ h
    cases b with
    | nil => rfl
    | cons y b => exact absurd ((h y).2 (List.mem_cons_self ..)) (by simp)
  | cons x a ih =>
    intro b ha hb h
    cases b with
    | nil => exact absurd ((h x).1 (List.mem_cons_self ..)) (by simp)
    | cons y b =>
      have ha' := List.pairwise_cons.1 ha
      have hb' := List.pairwise_cons.1 hb
      have hxa : ∀ z ∈ a, blt x.f0 z.f0 = true := fun z hz => ha'.1 _ (List.mem_map.2 ⟨z, hz, rfl⟩)
      have hyb : ∀ z ∈ b, blt y.f0 z.f0 = true := fun z hz => hb'.1 _ (List.mem_map.2 ⟨z, hz, rfl⟩)
      have hxy : x = y := by
        rcases List.mem_cons.1 ((h x).1 (List.mem_cons_self ..)) with e | e
        · exact e
        rcases List.mem_cons.1 ((h y).2 (List.mem_cons_self ..)) with e' | e'
        · exact e'.symm
        have h1 := hyb x e
        have h2 := hxa y e'
        rw [blt_asymm h1] at h2
        cases h2
      subst hxy
      rw [ih b ha'.2 hb'.2 (fun z => ?_)]
      constructor
      · intro hz
        rcases List.mem_cons.1 ((h z).1 (List.mem_cons_of_mem _ hz)) with e | e
        · have := hxa z hz
          rw [e, blt_irrefl] at this
          cases this
        · exact e
      · intro hz
        rcases List.mem_cons.1 ((h z).2 (List.mem_cons_of_mem _ hz)) with e | e
        · have := hyb z hz
          rw [e, blt_irrefl] at this
          cases this
        · exact e
end Go.Proofs.Ytfnpiclioikjpaa.X

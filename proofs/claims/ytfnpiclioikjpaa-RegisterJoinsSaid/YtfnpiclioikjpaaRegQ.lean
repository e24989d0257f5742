/- Registers, the plain law: of each key the latest note holds, whatever the order. -/
import Derived.Test.YtfnpiclioikjpaaRegP
set_option linter.unusedSimpArgs false
set_option linter.unusedVariables false
namespace Go.Proofs.Ytfnpiclioikjpaa.X
open Go.RowKit

theorem ks_len (l : List Nt) : (ksNote l).length = l.length := List.length_map ..
/-! #### where a key stands -/
theorem before_pos (l : List Nt) (key : ByteArray) : ∀ x ∈ l.take (posK (ksNote l) key), blt x.f0 key = true := by
  intro x hx
  obtain ⟨j, hj, rfl⟩ := List.mem_iff_getElem.1 hx
  rw [List.length_take] at hj
  have := posK_lt (ks := ksNote l) (key := key) j (by rw [ks_len]; omega) (by omega)
  simpa [ksNote] using this
theorem after_pos {l : List Nt} (ho : OrdK (ksNote l)) (key : ByteArray) : ∀ x ∈ l.drop (posK (ksNote l) key), blt x.f0 key = false := by
  intro x hx
  obtain ⟨j, hj, rfl⟩ := List.mem_iff_getElem.1 hx
  rw [List.length_drop] at hj
  have hp : posK (ksNote l) key < (ksNote l).length := by rw [ks_len]; omega
  have h0 := posK_not hp
  rw [List.getElem_drop]
  rcases Nat.eq_zero_or_pos j with rfl | h1
  · simpa [ksNote] using h0
  · have h2 := ordK_get ho (posK (ksNote l) key) (posK (ksNote l) key + j) (by omega) (by rw [ks_len]; omega)
    cases h3 : blt (l[posK (ksNote l) key + j]).f0 key with
    | false => rfl
    | true =>
      have h4 : blt ((ksNote l)[posK (ksNote l) key + j]'(by rw [ks_len]; omega)) key = true := by simpa [ksNote] using h3
      rw [blt_trans h2 h4] at h0
      cases h0
theorem rd_get (l : List Nt) (i : Nat) (h : i < l.length) : rd_T24 l (i : Int) = l[i] := by
  unfold rd_T24
  simp [List.getD, h]
theorem has_yes {l : List Nt} {key : ByteArray} (h : hasNote l key = true) : ∃ hp : posK (ksNote l) key < l.length, (l[posK (ksNote l) key]).f0 = key := by
  unfold hasNote at h
  rw [Bool.and_eq_true, decide_eq_true_eq, beq_iff_eq] at h
  refine ⟨h.1, ?_⟩
  have := bytes_eq h.2
  rw [rd_get l _ h.1] at this
  exact this
theorem has_no {l : List Nt} {key : ByteArray} (ho : OrdK (ksNote l)) (h : hasNote l key = false) : ∀ x ∈ l, x.f0 ≠ key := by
  intro x hx he
  rw [← List.take_append_drop (posK (ksNote l) key) l] at hx
  rcases List.mem_append.1 hx with hx | hx
  · have := before_pos l key x hx
    rw [he, blt_irrefl] at this
    cases this
  · obtain ⟨j, hj, hje⟩ := List.mem_iff_getElem.1 hx
    rw [List.length_drop] at hj
    have hp : posK (ksNote l) key < l.length := by omega
    have hne : (l[posK (ksNote l) key]).f0 ≠ key := by
      intro hk
      have : hasNote l key = true := by
        unfold hasNote
        rw [rd_get l _ hp, hk]
        simp [hp]
      rw [this] at h
      cases h
    have h0 := after_pos ho key (l[posK (ksNote l) key]) (by rw [List.mem_iff_getElem]; exact ⟨0, by rw [List.length_drop]; omega, by rw [List.getElem_drop]; rfl⟩)
    rcases Nat.eq_zero_or_pos j with rfl | h1
    · rw [List.getElem_drop] at hje
      have : l[posK (ksNote l) key] = x := hje
      rw [this] at hne
      exact hne he
    · rw [List.getElem_drop] at hje
      have h2 := ordK_get ho (posK (ksNote l) key) (posK (ksNote l) key + j) (by omega) (by rw [ks_len]; omega)
      have h3 : blt (l[posK (ksNote l) key]).f0 key = true := by
        have h4 : blt (l[posK (ksNote l) key]).f0 x.f0 = true := by rw [← hje]; simpa [ksNote] using h2
        rw [he] at h4
        exact h4
      rw [h3] at h0
      cases h0
theorem key_one {l : List Nt} (ho : OrdK (ksNote l)) {x y : Nt} (hx : x ∈ l) (hy : y ∈ l) (h : x.f0 = y.f0) : x = y := by
  obtain ⟨i, hi, rfl⟩ := List.mem_iff_getElem.1 hx
  obtain ⟨j, hj, rfl⟩ := List.mem_iff_getElem.1 hy
  rcases Nat.lt_trichotomy i j with h1 | h1 | h1
  · have h2 := ordK_get ho i j h1 (by rw [ks_len]; omega)
    simp only [ksNote, List.getElem_map] at h2
    rw [h, blt_irrefl] at h2
    cases h2
  · subst h1; rfl
  · have h2 := ordK_get ho j i h1 (by rw [ks_len]; omega)
    simp only [ksNote, List.getElem_map] at h2
    rw [h, blt_irrefl] at h2
    cases h2

/-! #### later -/
theorem ltr_irrefl (x : Nt) : ltrN x x = false := by
  unfold ltrN
  rw [if_pos rfl, if_pos rfl, blt_irrefl]
theorem ltr_trans {x y z : Nt} (h : ltrN x y = true) (k : ltrN y z = true) : ltrN x z = true := by
  unfold ltrN at *
  split at h <;> split at k
  · rename_i e1 e2
    rw [if_pos (e1.trans e2)]
    split at h <;> split at k
    · rename_i e3 e4
      rw [if_pos (e3.trans e4)]
      exact blt_trans k h
    · rename_i e3 e4
      rw [if_neg (by rw [e3]; exact e4), e3]; exact k
    · rename_i e3 e4
      rw [if_neg (by rw [← e4]; exact e3), ← e4]; exact h
    · rename_i e3 e4
      simp only [decide_eq_true_eq] at h k
      rw [if_neg (by omega)]
      simp only [decide_eq_true_eq]; omega
  · rename_i e1 e2
    rw [if_neg (by rw [e1]; exact e2), e1]; exact k
  · rename_i e1 e2
    rw [if_neg (by rw [← e2]; exact e1), ← e2]; exact h
  · rename_i e1 e2
    simp only [decide_eq_true_eq] at h k
    rw [if_neg (by omega)]
    simp only [decide_eq_true_eq]; omega
theorem ltr_tri {x y : Nt} (hk : x.f0 = y.f0) (h : ltrN x y = false) (k : ltrN y x = false) : x = y := by
  unfold ltrN at *
  by_cases e1 : x.f1 = y.f1
  · rw [if_pos e1] at h
    rw [if_pos e1.symm] at k
    by_cases e2 : x.f2 = y.f2
    · rw [if_pos e2] at h
      rw [if_pos e2.symm] at k
      have e3 := blt_tri k h
      cases x; cases y
      simp only at *
      subst hk; subst e1; subst e2; subst e3; rfl
    · rw [if_neg e2] at h
      rw [if_neg (fun e => e2 e.symm)] at k
      simp only [decide_eq_false_iff_not] at h k
      omega
  · rw [if_neg e1] at h
    rw [if_neg (fun e => e1 e.symm)] at k
    simp only [decide_eq_false_iff_not] at h k
    omega

/-! #### of each key the latest -/
structure Best (T : Nt → Prop) (a : List Nt) : Prop where
  ok : ∀ x ∈ a, okN x = true
  ord : OrdK (ksNote a)
  top : ∀ x ∈ a, T x ∧ ∀ y, T y → y.f0 = x.f0 → ltrN y x = false
  all : ∀ y, T y → ∃ x ∈ a, x.f0 = y.f0
theorem Best.nil : Best (fun _ => False) [] := ⟨(fun x h => by cases h), List.Pairwise.nil, (fun x h => by cases h), (fun y h => h.elim)⟩
theorem Best.chk {T : Nt → Prop} {a : List Nt} (h : Best T a) (hl : a.length ≤ 4000) : chkN a = true := (chkN_iff a).2 ⟨hl, h.ok, h.ord⟩
theorem Best.congr {T T' : Nt → Prop} {a : List Nt} (h : Best T a) (e : ∀ x, T x ↔ T' x) : Best T' a := by
  have : T = T' := funext fun x => propext (e x)
  rw [← this]; exact h
theorem ord_ext : ∀ (a b : List Nt), OrdK (ksNote a) → OrdK (ksNote b) → (∀ x, x ∈ a ↔ x ∈ b) → a = b := by
  intro a
  induction a with
  | nil =>
    intro b _ _ h
    cases b with
    | nil => rfl
    | cons y b => exact absurd ((h y).2 (List.mem_cons_self ..)) (by simp)
  | cons x a ih =>
    intro b ha hb h
    cases b with
    | nil => exact absurd ((h x).1 (List.mem_cons_self ..)) (by simp)
    | cons y b =>
      have ha' := List.pairwise_cons.1 ha
      have hb' := List.pairwise_cons.1 hb
      have hxa : ∀ z ∈ a, blt x.f0 z.f0 = true := fun z hz => ha'.1 _ (List.mem_map.2 ⟨z, hz, rfl⟩)
      have hyb : ∀ z ∈ b, blt y.f0 z.f0 = true := fun z hz => hb'.1 _ (List.mem_map.2 ⟨z, hz, rfl⟩)
      have hxy : x = y := by
        rcases List.mem_cons.1 ((h x).1 (List.mem_cons_self ..)) with e | e
        · exact e
        rcases List.mem_cons.1 ((h y).2 (List.mem_cons_self ..)) with e' | e'
        · exact e'.symm
        have h1 := hyb x e
        have h2 := hxa y e'
        rw [blt_asymm h1] at h2
        cases h2
      subst hxy
      rw [ih b ha'.2 hb'.2 (fun z => ?_)]
      constructor
      · intro hz
        rcases List.mem_cons.1 ((h z).1 (List.mem_cons_of_mem _ hz)) with e | e
        · have := hxa z hz
          rw [e, blt_irrefl] at this
          cases this
        · exact e
      · intro hz
        rcases List.mem_cons.1 ((h z).2 (List.mem_cons_of_mem _ hz)) with e | e
        · have := hyb z hz
          rw [e, blt_irrefl] at this
          cases this
        · exact e
theorem Best.one {T : Nt → Prop} {a b : List Nt} (ha : Best T a) (hb : Best T b) : a = b := by
  have sub : ∀ {a b : List Nt}, Best T a → Best T b → ∀ x, x ∈ a → x ∈ b := by
    intro a b ha hb x hx
    obtain ⟨h1, h2⟩ := ha.top x hx
    obtain ⟨y, hy, he⟩ := hb.all x h1
    obtain ⟨h3, h4⟩ := hb.top y hy
    have : x = y := ltr_tri he.symm (h4 x h1 he.symm) (h2 y h3 he)
    rw [this]; exact hy
  exact ord_ext a b ha.ord hb.ord (fun x => ⟨sub ha hb x, sub hb ha x⟩)

theorem Best.step {T : Nt → Prop} {a : List Nt} (h : Best T a) (n : Nt) (hn : okN n = true) (hl : a.length < 4000) :
    ∃ a', setN a n = (a', 0) ∧ a'.length ≤ a.length + 1 ∧ Best (fun x => T x ∨ x = n) a' := by
  unfold setN
  cases hh : hasNote a n.f0 with
  | true =>
    obtain ⟨hp, hk⟩ := has_yes hh
    rw [if_pos rfl, rd_get a _ hp]
    generalize hq : posK (ksNote a) n.f0 = p at *
    have hpa : a[p] ∈ a := List.getElem_mem ..
    obtain ⟨ht1, ht2⟩ := h.top _ hpa
    cases hlt : ltrN n a[p] with
    | true =>
      rw [if_pos rfl]
      have hset : a.set p n = a.take p ++ n :: a.drop (p + 1) := by rw [List.set_eq_take_append_cons_drop, if_pos hp]
      have ha : a = a.take p ++ a[p] :: a.drop (p + 1) := by rw [List.getElem_cons_drop, List.take_append_drop]
      have hkeys : ksNote (a.set p n) = ksNote a := by
        rw [hset]
        conv => rhs; rw [ha]
        simp only [ksNote, List.map_append, List.map_cons, hk]
      have hmem : ∀ x, x ∈ a.set p n → x = n ∨ (x ∈ a ∧ x.f0 ≠ n.f0) := by
        intro x hx
        rw [List.mem_iff_getElem] at hx
        obtain ⟨j, hj, rfl⟩ := hx
        rw [List.length_set] at hj
        rw [List.getElem_set]
        split
        · exact .inl rfl
        · rename_i hne
          refine .inr ⟨List.getElem_mem .., fun he => ?_⟩
          have := key_one h.ord (List.getElem_mem hj) hpa (he.trans hk.symm)
          rcases Nat.lt_trichotomy j p with h1 | h1 | h1
          · have h2 := ordK_get h.ord j p h1 (by rw [ks_len]; omega)
            simp only [ksNote, List.getElem_map] at h2
            rw [this, blt_irrefl] at h2
            cases h2
          · exact hne h1.symm
          · have h2 := ordK_get h.ord p j h1 (by rw [ks_len]; omega)
            simp only [ksNote, List.getElem_map] at h2
            rw [this, blt_irrefl] at h2
            cases h2
      have hnm : n ∈ a.set p n := by rw [hset]; simp
      have hkeep : ∀ x, x ∈ a → x.f0 ≠ n.f0 → x ∈ a.set p n := by
        intro x hx hne
        rw [ha] at hx
        rw [hset]
        rcases List.mem_append.1 hx with hx | hx
        · exact List.mem_append_left _ hx
        · rcases List.mem_cons.1 hx with e | hx
          · exact absurd (by rw [e]; exact hk) hne
          · exact List.mem_append_right _ (List.mem_cons_of_mem _ hx)
      refine ⟨_, rfl, by rw [List.length_set]; omega, ?_, by rw [hkeys]; exact h.ord, ?_, ?_⟩
      · intro x hx
        rcases hmem x hx with rfl | ⟨hx, _⟩
        · exact hn
        · exact h.ok x hx
      · intro x hx
        rcases hmem x hx with rfl | ⟨hx, hne⟩
        · refine ⟨.inr rfl, fun y hy he => ?_⟩
          rcases hy with hy | rfl
          · cases hc : ltrN y x with
            | false => rfl
            | true =>
              have := ht2 y hy (he.trans hk.symm)
              rw [ltr_trans hc hlt] at this
              cases this
          · exact ltr_irrefl _
        · obtain ⟨h1, h2⟩ := h.top x hx
          refine ⟨.inl h1, fun y hy he => ?_⟩
          rcases hy with hy | rfl
          · exact h2 y hy he
          · exact absurd he.symm hne
      · intro y hy
        rcases hy with hy | rfl
        · obtain ⟨x, hx, he⟩ := h.all y hy
          by_cases hxe : x.f0 = n.f0
          · exact ⟨n, hnm, by rw [← he, hxe]⟩
          · exact ⟨x, hkeep x hx hxe, he⟩
        · exact ⟨y, hnm, rfl⟩
    | false =>
      rw [if_neg (by decide)]
      refine ⟨_, rfl, by omega, h.ok, h.ord, ?_, ?_⟩
      · intro x hx
        obtain ⟨h1, h2⟩ := h.top x hx
        refine ⟨.inl h1, fun y hy he => ?_⟩
        rcases hy with hy | rfl
        · exact h2 y hy he
        · rw [key_one h.ord hx hpa (he.symm.trans hk.symm)]
          exact hlt
      · intro y hy
        rcases hy with hy | rfl
        · exact h.all y hy
        · exact ⟨_, hpa, hk⟩
  | false =>
    have hno := has_no h.ord hh
    rw [if_neg (by decide), if_neg (by omega)]
    have hb := before_pos a n.f0
    have hf := after_pos h.ord n.f0
    generalize posK (ksNote a) n.f0 = p at *
    have hmem : ∀ x, x ∈ a.take p ++ n :: a.drop p ↔ x = n ∨ x ∈ a := by
      intro x
      conv => rhs; rw [← List.take_append_drop p a]
      simp only [List.mem_append, List.mem_cons]
      constructor
      · rintro (h | h | h)
        · exact .inr (.inl h)
        · exact .inl h
        · exact .inr (.inr h)
      · rintro (h | h | h)
        · exact .inr (.inl h)
        · exact .inl h
        · exact .inr (.inr h)
    refine ⟨_, rfl, by simp only [List.length_append, List.length_cons, List.length_take, List.length_drop]; omega, ?_, ?_, ?_, ?_⟩
    · intro x hx
      rcases (hmem x).1 hx with rfl | hx
      · exact hn
      · exact h.ok x hx
    · have ho := h.ord
      rw [← List.take_append_drop p a] at ho
      unfold OrdK ksNote at ho ⊢
      rw [List.map_append, List.pairwise_append] at ho
      rw [List.map_append, List.pairwise_append, List.map_cons, List.pairwise_cons]
      refine ⟨ho.1, ⟨fun k hk => ?_, ho.2.1⟩, fun u hu k hk => ?_⟩
      · obtain ⟨x, hx, rfl⟩ := List.mem_map.1 hk
        have h1 := hf x hx
        have h2 := hno x (List.mem_of_mem_drop hx)
        cases hc : blt n.f0 x.f0 with
        | true => rfl
        | false => exact absurd (blt_tri h1 hc) h2
      · obtain ⟨x, hx, rfl⟩ := List.mem_map.1 hu
        rcases List.mem_cons.1 hk with rfl | hk
        · exact hb x hx
        · exact ho.2.2 _ hu _ hk
    · intro x hx
      rcases (hmem x).1 hx with rfl | hx
      · refine ⟨.inr rfl, fun y hy he => ?_⟩
        rcases hy with hy | rfl
        · obtain ⟨z, hz, hze⟩ := h.all y hy
          exact absurd (hze.trans he) (hno z hz)
        · exact ltr_irrefl _
      · obtain ⟨h1, h2⟩ := h.top x hx
        have hnx := hno x hx
        refine ⟨.inl h1, fun y hy he => ?_⟩
        rcases hy with hy | rfl
        · exact h2 y hy he
        · exact absurd he.symm hnx
    · intro y hy
      rcases hy with hy | rfl
      · obtain ⟨x, hx, he⟩ := h.all y hy
        exact ⟨x, (hmem x).2 (.inr hx), he⟩
      · exact ⟨y, (hmem y).2 (.inl rfl), rfl⟩
/-- A set on a register whose notes are the latest of T. -/
theorem Best.set {T : Nt → Prop} {a : List Nt} (h : Best T a) (n : Nt) (hn : okN n = true) (hl : a.length < 4000) :
    ∃ a', register_Set.f a n.f0 n.f1 n.f2 n.f3 = some (a', 0) ∧ a'.length ≤ a.length + 1 ∧ Best (fun x => T x ∨ x = n) a' := by
  obtain ⟨a', h1, h2, h3⟩ := h.step n hn hl
  refine ⟨a', ?_, h2, h3⟩
  unfold register_Set.f
  rw [h.chk (by omega), hn, Bool.and_self, if_pos rfl, h1]
end Go.Proofs.Ytfnpiclioikjpaa.X

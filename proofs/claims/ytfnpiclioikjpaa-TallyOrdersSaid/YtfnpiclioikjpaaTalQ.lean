/- Tallies, the plain law: what a key has, behind an add. -/
import Derived.Test.YtfnpiclioikjpaaTalP
import Derived.Test.YtfnpiclioikjpaaPosCell
set_option linter.unusedSimpArgs false
set_option linter.unusedVariables false
namespace Go.Proofs.Ytfnpiclioikjpaa.X
open Go.RowKit

/-- A key's number. -/
def Has (a : List Ct) (key : ByteArray) (v : Int) : Prop := (∃ x ∈ a, x.f0 = key ∧ x.f1 = v) ∨ (v = 0 ∧ ∀ x ∈ a, x.f0 ≠ key)
theorem Has.one {a : List Ct} (ho : OrdK (ksCell a)) {key : ByteArray} {u v : Int} (h : Has a key u) (k : Has a key v) : u = v := by
  rcases h with ⟨x, hx, h1, rfl⟩ | ⟨rfl, h1⟩ <;> rcases k with ⟨y, hy, h2, rfl⟩ | ⟨rfl, h2⟩
  · rw [key_oneCell ho hx hy (h1.trans h2.symm)]
  · exact absurd h1 (h2 x hx)
  · exact absurd h2 (h1 y hy)
  · rfl
theorem Has.at {a : List Ct} (ho : OrdK (ksCell a)) (key : ByteArray) : Has a key (if hasCell a key = true then (rd_T47 a (posK (ksCell a) key : Int)).f1 else 0) := by
  cases h : hasCell a key with
  | true =>
    obtain ⟨hp, hk⟩ := has_yesCell h
    rw [if_pos rfl, rd_getCell a _ hp]
    exact .inl ⟨_, List.getElem_mem hp, hk, rfl⟩
  | false =>
    rw [if_neg (by decide)]
    exact .inr ⟨rfl, has_noCell ho h⟩
theorem wrapId {n : Int} (h : -9223372036854775808 ≤ n) (k : n ≤ 9223372036854775807) : wrap64 n = n := by unfold wrap64; omega
/-- The notes of the row behind an add. -/
theorem mem_put {a : List Ct} (ho : OrdK (ksCell a)) {key : ByteArray} {n v : Int} (hv : Has a key v) (hs : -9223372036854775808 ≤ v + n ∧ v + n ≤ 9223372036854775807) (hz : ∀ x ∈ a, x.f1 ≠ 0) (x : Ct) :
    x ∈ putC a key n ↔ (x ∈ a ∧ x.f0 ≠ key) ∨ (x.f0 = key ∧ x.f1 = v + n ∧ v + n ≠ 0) := by
  unfold putC
  by_cases hn : n = 0
  · subst hn
    rw [if_pos rfl]
    constructor
    · intro hx
      by_cases he : x.f0 = key
      · have : x.f1 = v := Has.one ho (.inl ⟨x, hx, he, rfl⟩) hv
        have := hz x hx
        exact .inr ⟨he, by omega, by omega⟩
      · exact .inl ⟨hx, he⟩
    · rintro (⟨hx, _⟩ | ⟨he, h1, h2⟩)
      · exact hx
      · rcases hv with ⟨y, hy, hk, rfl⟩ | ⟨rfl, _⟩
        · have : x = y := by
            cases x; cases y
            simp only at *
            subst he; subst hk
            congr 1
            omega
          rw [this]; exact hy
        · omega
  · rw [if_neg hn]
    cases hh : hasCell a key with
    | true =>
      obtain ⟨hp, hk⟩ := has_yesCell hh
      rw [if_pos rfl, rd_getCell a _ hp]
      have hb := before_posCell a key
      generalize hq : posK (ksCell a) key = p at *
      have hpv : a[p].f1 = v := Has.one ho (.inl ⟨_, List.getElem_mem hp, hk, rfl⟩) hv
      have hsplit : a = a.take p ++ a[p] :: a.drop (p + 1) := by rw [List.getElem_cons_drop, List.take_append_drop]
      have hrest : ∀ y, y ∈ a.take p ∨ y ∈ a.drop (p + 1) ↔ y ∈ a ∧ y.f0 ≠ key := by
        intro y
        constructor
        · rintro (h | h)
          · refine ⟨List.mem_of_mem_take h, fun e => ?_⟩
            have := hb y h
            rw [e, blt_irrefl] at this
            cases this
          · refine ⟨List.mem_of_mem_drop h, fun e => ?_⟩
            obtain ⟨j, hj, rfl⟩ := List.mem_iff_getElem.1 h
            rw [List.length_drop] at hj
            rw [List.getElem_drop] at e
            have h2 := ordK_get ho p (p + 1 + j) (by omega) (by rw [ks_lenCell]; omega)
            simp only [ksCell, List.getElem_map] at h2
            rw [hk, e, blt_irrefl] at h2
            cases h2
        · rintro ⟨h, hne⟩
          rw [hsplit] at h
          rcases List.mem_append.1 h with h | h
          · exact .inl h
          · rcases List.mem_cons.1 h with e | h
            · exact absurd (by rw [e]; exact hk) hne
            · exact .inr h
      by_cases hneg : a[p].f1 = -n
      · rw [if_pos hneg, List.mem_append, hrest x]
        constructor
        · exact .inl
        · rintro (h | ⟨_, _, h⟩)
          · exact h
          · omega
      · rw [if_neg hneg, List.set_eq_take_append_cons_drop, if_pos hp, hpv, wrapId hs.1 hs.2, hk]
        rw [List.mem_append, List.mem_cons]
        constructor
        · rintro (h | rfl | h)
          · exact .inl ((hrest x).1 (.inl h))
          · exact .inr ⟨rfl, rfl, by omega⟩
          · exact .inl ((hrest x).1 (.inr h))
        · rintro (h | ⟨h1, h2, _⟩)
          · rcases (hrest x).2 h with h | h
            · exact .inl h
            · exact .inr (.inr h)
          · refine .inr (.inl ?_)
            cases x
            simp only at h1 h2
            rw [h1, h2]
    | false =>
      have hno := has_noCell ho hh
      rw [if_neg (by decide)]
      have hv0 : v = 0 := by
        rcases hv with ⟨y, hy, hk, _⟩ | ⟨h, _⟩
        · exact absurd hk (hno y hy)
        · exact h
      subst hv0
      rw [List.mem_append, List.mem_cons]
      constructor
      · rintro (h | rfl | h)
        · exact .inl ⟨List.mem_of_mem_take h, hno x (List.mem_of_mem_take h)⟩
        · exact .inr ⟨rfl, (Int.zero_add n).symm, by omega⟩
        · exact .inl ⟨List.mem_of_mem_drop h, hno x (List.mem_of_mem_drop h)⟩
      · rintro (⟨h, _⟩ | ⟨h1, h2, _⟩)
        · rw [← List.take_append_drop (posK (ksCell a) key) a] at h
          rcases List.mem_append.1 h with h | h
          · exact .inl h
          · exact .inr (.inr h)
        · refine .inr (.inl ?_)
          cases x
          simp only at h1 h2
          rw [h1, h2, Int.zero_add]
theorem has_put {a : List Ct} (ho : OrdK (ksCell a)) {key : ByteArray} {n v : Int} (hv : Has a key v) (hs : -9223372036854775808 ≤ v + n ∧ v + n ≤ 9223372036854775807) (hz : ∀ x ∈ a, x.f1 ≠ 0) {k : ByteArray} {u : Int} (hu : Has a k u) :
    Has (putC a key n) k (if k = key then u + n else u) := by
  have hm := mem_put ho hv hs hz
  by_cases hk : k = key
  · subst hk
    rw [if_pos rfl]
    have : u = v := Has.one ho hu hv
    subst this
    by_cases h0 : u + n = 0
    · refine .inr ⟨h0, fun x hx he => ?_⟩
      rcases (hm x).1 hx with ⟨_, h⟩ | ⟨_, _, h⟩
      · exact h he
      · exact h h0
    · exact .inl ⟨⟨k, u + n⟩, (hm _).2 (.inr ⟨rfl, rfl, h0⟩), rfl, rfl⟩
  · rw [if_neg hk]
    rcases hu with ⟨x, hx, h1, h2⟩ | ⟨h1, h2⟩
    · exact .inl ⟨x, (hm x).2 (.inl ⟨hx, by rw [h1]; exact hk⟩), h1, h2⟩
    · refine .inr ⟨h1, fun x hx he => ?_⟩
      rcases (hm x).1 hx with ⟨h, _⟩ | ⟨h, _⟩
      · exact h2 x h he
      · exact hk (he.symm.trans h)
theorem okC_num {x : Ct} (h : okC x = true) : x.f1 ≠ 0 ∧ x.f1 ≤ 1099511627776 ∧ -1099511627776 ≤ x.f1 := by
  unfold okC numOk at h
  simp only [Bool.and_eq_true, Bool.not_eq_true', decide_eq_true_eq, beq_eq_false_iff_ne] at h
  exact h.2
theorem chkC_nz {a : List Ct} (h : chkC a = true) : ∀ x ∈ a, x.f1 ≠ 0 := fun x hx => (okC_num (((chkC_iff a).1 h).2.1 x hx).1).1
theorem has_small {a : List Ct} (h : chkC a = true) {key : ByteArray} {v : Int} (hv : Has a key v) : v ≤ 1099511627776 ∧ -1099511627776 ≤ v := by
  rcases hv with ⟨x, hx, _, rfl⟩ | ⟨rfl, _⟩
  · exact (okC_num (((chkC_iff a).1 h).2.1 x hx).1).2
  · omega
theorem keyOk_num {key : ByteArray} {n : Int} (h : keyOk key n = true) : n ≤ 1000 ∧ -1000 ≤ n := by
  unfold keyOk at h
  simp only [Bool.and_eq_true, Bool.not_eq_true', decide_eq_true_eq] at h
  exact h.2.2
end Go.Proofs.Ytfnpiclioikjpaa.X

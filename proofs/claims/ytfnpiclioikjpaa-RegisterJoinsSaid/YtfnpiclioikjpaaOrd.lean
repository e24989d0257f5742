/- The order of texts, byte by byte. -/
import Derived.Test.YtfnpiclioikjpaaSL1
set_option linter.unusedSimpArgs false
set_option linter.unusedVariables false
namespace Go.Proofs.Ytfnpiclioikjpaa.X
open Go.RowKit Go.Proofs.YtfnpiclioikjpaaW.PrintWords

theorem less_nil (a : List UInt8) : Op.bytesLess a [] = false := by cases a <;> rfl
theorem less_cons (a b : UInt8) (x y : List UInt8) : Op.bytesLess (a :: x) (b :: y) = (decide (a < b) || (a == b && Op.bytesLess x y)) := rfl
theorem less_irrefl (a : List UInt8) : Op.bytesLess a a = false := by
  induction a with
  | nil => rfl
  | cons x a ih =>
    rw [less_cons, ih]
    simp
theorem less_trans (a b c : List UInt8) : Op.bytesLess a b = true → Op.bytesLess b c = true → Op.bytesLess a c = true := by
  induction a generalizing b c with
  | nil =>
    intro h1 h2
    cases b with
    | nil => rw [less_nil] at h1; cases h1
    | cons y b =>
      cases c with
      | nil => rw [less_nil] at h2; cases h2
      | cons z c => rfl
  | cons x a ih =>
    intro h1 h2
    cases b with
    | nil => rw [less_nil] at h1; cases h1
    | cons y b =>
      cases c with
      | nil => rw [less_nil] at h2; cases h2
      | cons z c =>
        rw [less_cons] at *
        simp only [Bool.or_eq_true, decide_eq_true_eq, Bool.and_eq_true, beq_iff_eq, UInt8.lt_iff_toNat_lt] at *
        rcases h1 with h1 | ⟨rfl, h1⟩
        · rcases h2 with h2 | ⟨rfl, h2⟩
          · exact .inl (by omega)
          · exact .inl h1
        · rcases h2 with h2 | ⟨rfl, h2⟩
          · exact .inl h2
          · exact .inr ⟨rfl, ih _ _ h1 h2⟩
theorem less_tri (a b : List UInt8) : Op.bytesLess a b = false → Op.bytesLess b a = false → a = b := by
  induction a generalizing b with
  | nil =>
    intro h1 h2
    cases b with
    | nil => rfl
    | cons y b => exact absurd h1 (by simp [Op.bytesLess])
  | cons x a ih =>
    intro h1 h2
    cases b with
    | nil => exact absurd h2 (by simp [Op.bytesLess])
    | cons y b =>
      rw [less_cons] at *
      simp only [Bool.or_eq_false_iff, decide_eq_false_iff_not, Bool.and_eq_false_iff, beq_eq_false_iff_ne, UInt8.lt_iff_toNat_lt] at *
      have hxy : x = y := UInt8.toNat_inj.1 (by omega)
      subst hxy
      rw [ih b (h1.2.resolve_left (fun h => h rfl)) (h2.2.resolve_left (fun h => h rfl))]
theorem compare_less (a b : List UInt8) : (Lib.compareBytes a b < 0 ↔ Op.bytesLess a b = true) ∧ (Lib.compareBytes a b = 0 ↔ a = b) := by
  induction a generalizing b with
  | nil =>
    cases b with
    | nil => exact ⟨by simp [Lib.compareBytes, Op.bytesLess], by simp [Lib.compareBytes]⟩
    | cons y b => exact ⟨by simp [Lib.compareBytes, Op.bytesLess], by simp [Lib.compareBytes]⟩
  | cons x a ih =>
    cases b with
    | nil => exact ⟨by simp [Lib.compareBytes, Op.bytesLess], by simp [Lib.compareBytes]⟩
    | cons y b =>
      rw [less_cons]
      simp only [Lib.compareBytes]
      by_cases h1 : x < y
      · have hne : x ≠ y := by rintro rfl; exact absurd h1 (by simp [UInt8.lt_iff_toNat_lt])
        rw [if_pos h1]
        exact ⟨by simp [h1], by simp [hne]⟩
      · rw [if_neg h1]
        by_cases h2 : y < x
        · have hne : x ≠ y := by rintro rfl; exact absurd h2 (by simp [UInt8.lt_iff_toNat_lt])
          rw [if_pos h2]
          exact ⟨by simp [h1, hne], by simp [hne]⟩
        · have hxy : x = y := UInt8.toNat_inj.1 (by rw [UInt8.lt_iff_toNat_lt] at h1 h2; omega)
          subst hxy
          rw [if_neg h2]
          obtain ⟨i1, i2⟩ := ih b
          exact ⟨by rw [i1]; simp [h1], by rw [i2]; simp⟩
/-- Is a text ahead of another one? -/
def blt (a b : ByteArray) : Bool := Op.bytesLess a.toList b.toList
theorem blt_irrefl (a : ByteArray) : blt a a = false := less_irrefl _
theorem blt_trans {a b c : ByteArray} (h : blt a b = true) (k : blt b c = true) : blt a c = true := less_trans _ _ _ h k
theorem bytes_eq {a b : ByteArray} (h : a.toList = b.toList) : a = b := by
  rw [ByteArray.toList_eq, ByteArray.toList_eq] at h
  have h2 : a.data = b.data := Array.toList_inj.1 h
  cases a; cases b; simp only at h2; rw [h2]
theorem blt_tri {a b : ByteArray} (h : blt a b = false) (k : blt b a = false) : a = b := bytes_eq (less_tri _ _ h k)
theorem blt_asymm {a b : ByteArray} (h : blt a b = true) : blt b a = false := by
  cases k : blt b a with
  | false => rfl
  | true => have := blt_trans h k; rw [blt_irrefl] at this; cases this
theorem bytes_le (a b : ByteArray) : (Op.bytesLess a.toList b.toList || a.toList == b.toList) = !(Op.bytesLess b.toList a.toList) := by
  cases h : Op.bytesLess a.toList b.toList with
  | true =>
    have := blt_asymm (a := a) (b := b) h
    unfold blt at this
    rw [this]; rfl
  | false =>
    cases k : Op.bytesLess b.toList a.toList with
    | true =>
      have : (a.toList == b.toList) = false := by
        rw [beq_eq_false_iff_ne]
        intro e
        rw [e, less_irrefl] at k
        cases k
      rw [this]; rfl
    | false => rw [less_tri _ _ h k]; simp
@[go_sem] theorem binOp_leq_less (t : TypeId) (a b : ByteArray) : binOp .leq t (.string a) (.string b) = pure (.bool (!(Op.bytesLess b.toList a.toList))) := by
  rw [← bytes_le]; simp [binOp, Op.stringOp]
@[go_sem] theorem binOp_gtr_less (t : TypeId) (a b : ByteArray) : binOp .gtr t (.string a) (.string b) = pure (.bool (Op.bytesLess b.toList a.toList)) := by
  rw [← Bool.not_not (Op.bytesLess b.toList a.toList), ← bytes_le]; simp [binOp, Op.stringOp]
@[go_sem] theorem binOp_geq_less (t : TypeId) (a b : ByteArray) : binOp .geq t (.string a) (.string b) = pure (.bool (!(Op.bytesLess a.toList b.toList))) := by simp [binOp, Op.stringOp]
def bcmp (a b : ByteArray) : Int := Lib.compareBytes a.data.toList b.data.toList
theorem bcmp_lt (a b : ByteArray) : bcmp a b < 0 ↔ blt a b = true := by
  unfold bcmp blt
  rw [ByteArray.toList_eq, ByteArray.toList_eq]
  exact (compare_less _ _).1
theorem bcmp_eq (a b : ByteArray) : bcmp a b = 0 ↔ a = b := by
  unfold bcmp
  rw [(compare_less _ _).2]
  constructor
  · intro h; exact bytes_eq (by rw [ByteArray.toList_eq, ByteArray.toList_eq]; exact h)
  · intro h; rw [h]
/-- Where a key stands, or would stand, among keys in order. -/
def posK (ks : List ByteArray) (key : ByteArray) : Nat := (ks.takeWhile fun x => blt x key).length
theorem posK_le (ks : List ByteArray) (key : ByteArray) : posK ks key ≤ ks.length := List.Sublist.length_le (List.takeWhile_sublist _)
/-- Keys in order. -/
def OrdK (ks : List ByteArray) : Prop := ks.Pairwise fun a b => blt a b = true
instance (ks : List ByteArray) : Decidable (OrdK ks) := by unfold OrdK; infer_instance
theorem ordK_get {ks : List ByteArray} (h : OrdK ks) (i j : Nat) (hij : i < j) (hj : j < ks.length) : blt (ks[i]'(by omega)) ks[j] = true := List.pairwise_iff_getElem.1 h i j (by omega) hj hij
theorem posK_of (ks : List ByteArray) (key : ByteArray) (i : Nat) (hi : i ≤ ks.length) (h1 : ∀ k (hk : k < ks.length), k < i → blt ks[k] key = true) (h2 : ∀ (hk : i < ks.length), blt ks[i] key = false) : posK ks key = i := by
  unfold posK
  induction ks generalizing i with
  | nil => simp at hi; simp [hi]
  | cons a ks ih =>
    rcases i with _ | i
    · have := h2 (by simp)
      simp only [List.getElem_cons_zero] at this
      rw [List.takeWhile_cons, this]
      rfl
    · have := h1 0 (by simp) (by omega)
      simp only [List.getElem_cons_zero] at this
      rw [List.takeWhile_cons, if_pos this, List.length_cons, ih i (by simpa using hi) (fun k hk hki => by have := h1 (k + 1) (by simpa using hk) (by omega); simp only [List.getElem_cons_succ] at this; exact this) (fun hk => by have := h2 (by simpa using hk); simp only [List.getElem_cons_succ] at this; exact this)]
theorem posK_lt {ks : List ByteArray} {key : ByteArray} (k : Nat) (hk : k < ks.length) (h : k < posK ks key) : blt ks[k] key = true := by
  unfold posK at h
  induction ks generalizing k with
  | nil => simp at hk
  | cons a ks ih =>
    rw [List.takeWhile_cons] at h
    split at h
    · rename_i ha
      rcases k with _ | k
      · exact ha
      · exact ih k (by simpa using hk) (by simpa using h)
    · simp at h
theorem posK_not {ks : List ByteArray} {key : ByteArray} (hk : posK ks key < ks.length) : blt ks[posK ks key] key = false := by
  induction ks with
  | nil => simp at hk
  | cons a ks ih =>
    by_cases ha : blt a key = true
    · have e : posK (a :: ks) key = posK ks key + 1 := by unfold posK; rw [List.takeWhile_cons, if_pos ha]; rfl
      have hk' : posK ks key < ks.length := by rw [e] at hk; simpa using hk
      have := ih hk'
      simp only [e, List.getElem_cons_succ]
      exact this
    · have e : posK (a :: ks) key = 0 := by unfold posK; rw [List.takeWhile_cons, if_neg ha]; rfl
      simp only [e, List.getElem_cons_zero]
      simpa using ha
end Go.Proofs.Ytfnpiclioikjpaa.X

/- Numbers as lists of bytes: the digits of a number, and the number of digits. -/
import Derived.Test.YtpbbiedpbegamaaP1
set_option linter.unusedSimpArgs false
set_option linter.unusedVariables false
namespace Go.Proofs.Ytpbbiedpbegamaa.X
open Go.RowKit Go.Proofs.YtpbbiedpbegamaaW.PrintWords Go.Proofs.YtpbbiedpbegamaaW.PrintLast Go.Proofs.YtpbbiedpbegamaaW.PrintMore

def digN (n : Nat) : List Int := if n < 10 then [48 + (n : Int)] else digN (n / 10) ++ [48 + ((n % 10 : Nat) : Int)]
def digL (v : Int) : List Int := if v < 0 then 45 :: digN (-v).toNat else digN v.toNat
def dval : List Int → Int → Option Int
  | [], acc => some acc
  | x :: l, acc => if digB x then dval l (10 * acc + (x - 48)) else none
def rv : List Int → Int → Int
  | [], acc => acc
  | x :: l, acc => rv l (if digB x then 10 * acc + (x - 48) else acc)
def numL (l : List Int) : Option Int :=
  if l.head? = some 45 then
    (if l.tail = [] ∨ 4 < l.tail.length ∨ l.tail.head? = some 48 then none else (dval l.tail 0).map fun n => -n)
  else (if l = [] ∨ 4 < l.length ∨ (l.head? = some 48 ∧ 1 < l.length) then none else dval l 0)
def refVal (l : List Int) : Int := if l.head? = some 45 then -(rv (l.take 6) 0) else rv (l.take 6) 0

theorem digN_small {n : Nat} (h : n < 10) : digN n = [48 + (n : Int)] := by rw [digN, if_pos h]
theorem digN_big {n : Nat} (h : ¬ n < 10) : digN n = digN (n / 10) ++ [48 + ((n % 10 : Nat) : Int)] := by rw [digN, if_neg h]
theorem dval_append (l m : List Int) : ∀ acc, dval (l ++ m) acc = (dval l acc).bind (dval m) := by
  induction l with
  | nil => intro acc; rfl
  | cons x l ih =>
    intro acc
    simp only [List.cons_append, dval]
    split
    · exact ih _
    · rfl
theorem dval_rv (l : List Int) : ∀ acc m, dval l acc = some m → rv l acc = m := by
  induction l with
  | nil => intro acc m h; exact Option.some.inj h
  | cons x l ih =>
    intro acc m h
    simp only [dval] at h
    split at h
    · rename_i hx
      simp only [rv, hx, if_true]
      exact ih _ _ h
    · cases h
/-- What the digits of a number are. -/
theorem digN_facts (n : Nat) : digN n ≠ [] ∧ dval (digN n) 0 = some (n : Int) ∧ (0 < n → (digN n).head? ≠ some 48) ∧ (digN n).head? ≠ some 45 ∧ (n < 10000 → (digN n).length ≤ 4) ∧ (n < 1000 → (digN n).length ≤ 3) ∧ (n < 100 → (digN n).length ≤ 2) ∧ (n < 10 → (digN n).length ≤ 1) := by
  induction n using Nat.strongRecOn with
  | _ n ih =>
  by_cases h : n < 10
  · rw [digN_small h]
    refine ⟨by simp, ?_, fun h0 => by simp; omega, by simp; omega, by simp, by simp, by simp, by simp⟩
    simp only [dval]
    rw [if_pos (digB_t (by omega) (by omega))]
    congr 1
    omega
  · rw [digN_big h]
    obtain ⟨h1, h2, h3, h4, h5, h6, h7, h8⟩ := ih (n / 10) (by omega)
    have hh : (digN (n / 10) ++ [48 + ((n % 10 : Nat) : Int)]).head? = (digN (n / 10)).head? := by
      cases hd : digN (n / 10) with
      | nil => exact absurd hd h1
      | cons a l => rfl
    refine ⟨by simp, ?_, fun _ => by rw [hh]; exact h3 (by omega), by rw [hh]; exact h4, fun h => ?_, fun h => ?_, fun h => ?_, fun h' => absurd h' h⟩
    · rw [dval_append, h2]
      simp only [Option.bind_some, dval]
      rw [if_pos (digB_t (by omega) (by omega))]
      congr 1
      omega
    · have := h6 (by omega); simp; omega
    · have := h7 (by omega); simp; omega
    · have := h8 (by omega); simp; omega
/-- Digits without a nought ahead are those of their number. -/
theorem dval_snoc (l : List Int) (x acc m : Int) (h : dval (l ++ [x]) acc = some m) : ∃ v, dval l acc = some v ∧ digB x = true ∧ m = 10 * v + (x - 48) := by
  rw [dval_append] at h
  obtain ⟨v, hv, h⟩ := Option.bind_eq_some_iff.1 h
  refine ⟨v, hv, ?_⟩
  simp only [dval] at h
  split at h
  · rename_i hx
    exact ⟨hx, (Option.some.inj h).symm⟩
  · cases h
theorem digN_of (n : Nat) : ∀ l : List Int, l.length = n → l ≠ [] → l.head? ≠ some 48 → ∀ m, dval l 0 = some m → 0 < m ∧ digN m.toNat = l := by
  induction n with
  | zero => intro l hl h0; exact absurd (List.eq_nil_of_length_eq_zero hl) h0
  | succ n ih =>
    intro l hl h0 h48 m hm
    obtain ⟨l', x, rfl⟩ : ∃ l' x, l = l' ++ [x] := ⟨l.dropLast, l.getLast h0, (List.dropLast_concat_getLast h0).symm⟩
    obtain ⟨v, hv, hx, rfl⟩ := dval_snoc l' x 0 m hm
    have hxd := digB_inv hx
    rcases l' with _ | ⟨y, l'⟩
    · simp only [dval] at hv
      obtain rfl : (0 : Int) = v := Option.some.inj hv
      have hx0 : x ≠ 48 := by simpa using h48
      refine ⟨by omega, ?_⟩
      rw [digN_small (by omega)]
      simp
      omega
    · obtain ⟨h1, h2⟩ := ih (y :: l') (by simpa using hl) (by simp) (by simpa using h48) v hv
      refine ⟨by omega, ?_⟩
      rw [digN_big (by omega), show (10 * v + (x - 48)).toNat / 10 = v.toNat by omega, h2]
      congr 1
      simp
      omega
theorem dval_bound (l : List Int) : ∀ (acc m : Int) (b : Int), 0 ≤ acc → acc ≤ b → dval l acc = some m → acc ≤ m ∧ (l.length = 0 → m ≤ b) ∧ (l.length ≤ 1 → m ≤ 10 * b + 9) ∧ (l.length ≤ 2 → m ≤ 100 * b + 99) ∧ (l.length ≤ 3 → m ≤ 1000 * b + 999) ∧ (l.length ≤ 4 → m ≤ 10000 * b + 9999) := by
  induction l with
  | nil =>
    intro acc m b h0 hb h
    obtain rfl : acc = m := Option.some.inj h
    exact ⟨Int.le_refl _, by intro; omega, by intro; omega, by intro; omega, by intro; omega, by intro; omega⟩
  | cons x l ih =>
    intro acc m b h0 hb h
    simp only [dval] at h
    split at h
    · rename_i hx
      have hxd := digB_inv hx
      obtain ⟨h1, h2, h3, h4, h5, h6⟩ := ih (10 * acc + (x - 48)) m (10 * b + 9) (by omega) (by omega) h
      refine ⟨by omega, fun h => by simp at h, fun h => ?_, fun h => ?_, fun h => ?_, fun h => ?_⟩
      · have := h2 (by simp at h; simp [h]); omega
      · have := h3 (by simp at h; omega); omega
      · have := h4 (by simp at h; omega); omega
      · have := h5 (by simp at h; omega); omega
    · cases h
/-- A number's text: its number is the reference's, and its digits are it. -/
theorem numL_some (l : List Int) (m : Int) (h : numL l = some m) : refVal l = m ∧ -9999 ≤ m ∧ m ≤ 9999 ∧ digL m = l := by
  unfold numL at h
  split at h
  · rename_i h45
    split at h
    · cases h
    rename_i hb
    rcases l with _ | ⟨a, l⟩
    · cases h45
    obtain rfl : a = 45 := by simpa using h45
    simp only [List.tail_cons, not_or] at hb h
    obtain ⟨hb1, hb2, hb3⟩ := hb
    obtain ⟨v, hv, rfl⟩ := Option.map_eq_some_iff.1 h
    have hbd := dval_bound l 0 v 0 (by omega) (by omega) hv
    have hlen : l.length ≤ 4 := by omega
    have hd := digN_of l.length l rfl hb1 hb3 v hv
    have h9 := hbd.2.2.2.2.2 hlen
    refine ⟨?_, by omega, by omega, ?_⟩
    · unfold refVal
      rw [if_pos (show (45 :: l).head? = some 45 from rfl), List.take_of_length_le (by simp; omega)]
      simp only [rv]
      rw [if_neg (by decide), dval_rv l 0 v hv]
    · unfold digL
      rw [if_pos (by omega), show (-(-v)).toNat = v.toNat by omega, hd.2]
  · rename_i h45
    split at h
    · cases h
    rename_i hb
    simp only [not_or] at hb
    obtain ⟨hb1, hb2, hb3⟩ := hb
    have hlen : l.length ≤ 4 := by omega
    have hbd := dval_bound l 0 m 0 (by omega) (by omega) h
    have h9 := hbd.2.2.2.2.2 hlen
    refine ⟨?_, by omega, by omega, ?_⟩
    · unfold refVal
      rw [if_neg h45, List.take_of_length_le (by omega), dval_rv l 0 m h]
    · unfold digL
      rw [if_neg (by omega)]
      by_cases h48 : l.head? = some 48
      · rcases l with _ | ⟨a, l⟩
        · exact absurd rfl hb1
        obtain rfl : a = 48 := by simpa using h48
        have : l = [] := by
          rcases l with _ | ⟨b, l⟩
          · rfl
          · exact absurd ⟨rfl, by simp⟩ hb3
        subst this
        simp only [dval] at h
        rw [if_pos (by decide)] at h
        obtain rfl : (10 * 0 + (48 - 48) : Int) = m := Option.some.inj h
        rw [digN_small (by decide)]
        rfl
      · exact (digN_of l.length l rfl hb1 h48 m h).2
theorem numL_of (v : Int) (h1 : -9999 ≤ v) (h2 : v ≤ 9999) : (numL (digL v)).isSome = true := by
  unfold digL
  split
  · rename_i h
    obtain ⟨f1, f2, f3, f4, f5, _⟩ := digN_facts (-v).toNat
    unfold numL
    rw [if_pos (show (45 :: digN (-v).toNat).head? = some 45 from rfl), List.tail_cons, if_neg (by
      rintro (h | h | h)
      · exact f1 h
      · have := f5 (by omega); omega
      · exact f3 (by omega) h), f2]
    rfl
  · rename_i h
    obtain ⟨f1, f2, f3, f4, f5, _, _, f8⟩ := digN_facts v.toNat
    unfold numL
    rw [if_neg f4, if_neg (by
      rintro (h | h | ⟨h, h'⟩)
      · exact f1 h
      · have := f5 (by omega); omega
      · rcases Nat.eq_zero_or_pos v.toNat with h0 | h0
        · have := f8 (by omega); omega
        · exact f3 h0 h), f2]
    rfl
end Go.Proofs.Ytpbbiedpbegamaa.X

/- The reference's numbers are those of lex.number. -/
import Derived.Test.YtpbbiedpbegamaaP2
set_option linter.unusedSimpArgs false
set_option linter.unusedVariables false
namespace Go.Proofs.Ytpbbiedpbegamaa.X
open Go.RowKit Go.Proofs.YtpbbiedpbegamaaW.PrintWords Go.Proofs.YtpbbiedpbegamaaW.PrintLast Go.Proofs.YtpbbiedpbegamaaW.PrintMore

theorem bytesOf_get (s : ByteArray) (i : Nat) (h : i < s.size) : (bytesOf s)[i]'(by rw [bytesOf_length]; exact h) = byt s i := by
  rw [byt_get s i h]
  simp [bytesOf]
  rfl
theorem bytesOf_drop (s : ByteArray) (i : Nat) (h : i < s.size) : (bytesOf s).drop i = byt s i :: (bytesOf s).drop (i + 1) := by
  rw [List.drop_eq_getElem_cons (by rw [bytesOf_length]; exact h), bytesOf_get s i h]
theorem bytesOf_append (a b : ByteArray) : bytesOf (a ++ b) = bytesOf a ++ bytesOf b := by
  unfold bytesOf
  rw [show (a ++ b).data = a.data ++ b.data from ByteArray.data_append]
  simp
theorem bytesOf_extract (s : ByteArray) (i j : Nat) (hj : j ≤ s.size) : bytesOf (s.extract i j) = ((bytesOf s).take j).drop i := by
  unfold bytesOf
  rw [ByteArray.data_extract]
  simp [List.map_take, List.map_drop, List.drop_take]
theorem bytesOf_inj {a b : ByteArray} : bytesOf a = bytesOf b ↔ a.toList = b.toList := by
  unfold bytesOf
  rw [ByteArray.toList_eq, ByteArray.toList_eq]
  exact List.map_inj_right fun x y hxy => by
    have : x.toNat = y.toNat := by exact_mod_cast hxy
    exact UInt8.toNat_inj.1 this
theorem bytesOf_head (s : ByteArray) : (bytesOf s).head? = if 0 < s.size then some (byt s 0) else none := by
  by_cases h : 0 < s.size
  · rw [if_pos h]
    have := bytesOf_drop s 0 h
    rw [List.drop_zero] at this
    rw [this]; rfl
  · rw [if_neg h]
    have : bytesOf s = [] := List.eq_nil_of_length_eq_zero (by rw [bytesOf_length]; omega)
    rw [this]; rfl
theorem digs_list (d : ByteArray) : ∀ (n pos : Nat) (acc : Int), pos + n = d.size → digsFrom d n pos acc = dval ((bytesOf d).drop pos) acc := by
  intro n
  induction n with
  | zero =>
    intro pos acc h
    rw [List.drop_eq_nil_of_le (by rw [bytesOf_length]; omega)]
    rfl
  | succ n ih =>
    intro pos acc h
    rw [bytesOf_drop d pos (by omega), digsFrom, if_pos (by omega), dval]
    split
    · exact ih _ _ (by omega)
    · rfl
theorem low_list (s : ByteArray) : lowB s = decide ((bytesOf s).head? = some 45) := by
  unfold lowB
  rw [bytesOf_head]
  by_cases h : 0 < s.size
  · rw [if_pos h, decide_eq_true h, Bool.true_and]
    exact decide_eq_decide.2 (by simp)
  · rw [if_neg h, decide_eq_false h, Bool.false_and]
    simp
theorem numO_list (s : ByteArray) : numO s = numL (bytesOf s) := by
  unfold numO numL numBad
  rw [low_list]
  by_cases hl : (bytesOf s).head? = some 45
  · have hD : numD s = s.extract 1 s.size := numD_t s (by rw [low_list]; exact decide_eq_true hl)
    have hsz : (numD s).size = (bytesOf s).tail.length := by
      rw [hD, ← bytesOf_length, bytesOf_extract s 1 s.size (Nat.le_refl _), List.take_of_length_le (by rw [bytesOf_length]; exact Nat.le_refl _), List.drop_one]
    have hb : bytesOf (numD s) = (bytesOf s).tail := by
      rw [hD, bytesOf_extract s 1 s.size (Nat.le_refl _), List.take_of_length_le (by rw [bytesOf_length]; exact Nat.le_refl _), List.drop_one]
    rw [if_pos hl, decide_eq_true hl, digs_list (numD s) _ 0 0 (by omega), List.drop_zero, hb]
    by_cases h1 : (bytesOf s).tail = [] ∨ 4 < (bytesOf s).tail.length
    · have a1 : (numD s).size = 0 ∨ 4 < (numD s).size := by
        rcases h1 with h | h
        · left; rw [hsz, h]; rfl
        · right; omega
      have a2 : (bytesOf s).tail = [] ∨ 4 < (bytesOf s).tail.length ∨ (bytesOf s).tail.head? = some 48 := by
        rcases h1 with h | h
        · exact .inl h
        · exact .inr (.inl h)
      rw [decide_eq_true a1, Bool.true_or, if_pos rfl, if_pos a2]
    · simp only [not_or] at h1
      have a1 : ¬ ((numD s).size = 0 ∨ 4 < (numD s).size) := by
        rw [hsz]
        rintro (h | h)
        · exact h1.1 (List.eq_nil_of_length_eq_zero h)
        · exact h1.2 h
      have h0 : 0 < (numD s).size := by
        rw [hsz]
        exact List.length_pos_iff.2 h1.1
      have hh := bytesOf_head (numD s)
      rw [hb, if_pos h0] at hh
      rw [decide_eq_false a1, Bool.false_or, Bool.or_true, Bool.and_true]
      by_cases h48 : byt (numD s) 0 = 48
      · rw [decide_eq_true h48, if_pos rfl, if_pos (by right; right; rw [hh, h48])]
      · rw [decide_eq_false h48, if_neg (by decide), if_neg (by
          rintro (h | h | h)
          · exact h1.1 h
          · exact h1.2 h
          · rw [hh] at h; exact h48 (Option.some.inj h))]
        rfl
  · have hD : numD s = s := numD_f s (by rw [low_list]; exact decide_eq_false hl)
    have hsz : s.size = (bytesOf s).length := (bytesOf_length s).symm
    rw [if_neg hl, decide_eq_false hl, hD, digs_list s _ 0 0 (by omega), List.drop_zero]
    by_cases h1 : bytesOf s = [] ∨ 4 < (bytesOf s).length
    · have a1 : s.size = 0 ∨ 4 < s.size := by
        rcases h1 with h | h
        · left; rw [hsz, h]; rfl
        · right; omega
      have a2 : bytesOf s = [] ∨ 4 < (bytesOf s).length ∨ ((bytesOf s).head? = some 48 ∧ 1 < (bytesOf s).length) := by
        rcases h1 with h | h
        · exact .inl h
        · exact .inr (.inl h)
      rw [decide_eq_true a1, Bool.true_or, if_pos rfl, if_pos a2]
    · simp only [not_or] at h1
      have a1 : ¬ (s.size = 0 ∨ 4 < s.size) := by
        rw [hsz]
        rintro (h | h)
        · exact h1.1 (List.eq_nil_of_length_eq_zero h)
        · exact h1.2 h
      have h0 : 0 < s.size := by
        rw [hsz]
        exact List.length_pos_iff.2 h1.1
      have hh := bytesOf_head s
      rw [if_pos h0] at hh
      rw [decide_eq_false a1, Bool.false_or, Bool.or_false]
      by_cases h48 : byt s 0 = 48 ∧ 1 < s.size
      · rw [decide_eq_true h48.1, decide_eq_true h48.2, if_pos (show (true && true) = true from rfl), if_pos (by right; right; rw [hh, h48.1, ← hsz]; exact ⟨rfl, h48.2⟩)]
      · rw [show (decide (byt s 0 = 48) && decide (1 < s.size)) = false by rw [← Bool.decide_and]; exact decide_eq_false h48, if_neg (by decide), if_neg (by
          rintro (h | h | ⟨h, h'⟩)
          · exact h1.1 h
          · exact h1.2 h
          · rw [hh] at h; exact h48 ⟨Option.some.inj h, by omega⟩)]
        cases dval (bytesOf s) 0 <;> rfl
end Go.Proofs.Ytpbbiedpbegamaa.X

/- The reading of a text as a plain function over bytes, and what holds of a reader on the way. -/
import Derived.Test.YtpbbiedpbegamaaE6
set_option linter.unusedSimpArgs false
set_option linter.unusedVariables false
namespace Go.Proofs.Ytpbbiedpbegamaa.X
open Go.RowKit Go.Proofs.YtpbbiedpbegamaaW.PrintWords Go.Proofs.YtpbbiedpbegamaaW.PrintLast Go.Proofs.YtpbbiedpbegamaaW.PrintMore

def partB (c : Int) : Bool := letB c || digB c || decide (c = 45)
theorem get_byt (s : ByteArray) (i : Nat) (h : i < s.size) : ((s.get! i).toNat : Int) = byt s i := by
  rw [byt_get s i h]
  have : s.get! i = s[i]'h := by
    show s.get! i = _
    simp [ByteArray.get!, getElem!_pos, h]
    rfl
  rw [this]
theorem decode_span (s : ByteArray) (pos : Nat) (h : pos < s.size) : 1 ≤ (Utf8.decode s pos).2 ∧ pos + (Utf8.decode s pos).2 ≤ s.size ∧ ∀ j, 1 ≤ j → j < (Utf8.decode s pos).2 → 128 ≤ byt s (pos + j) := by
  have hc : ∀ k, (decide (pos + k < s.size) && ((s.get! (pos + k)).toNat / 64 == 2)) = true → pos + k < s.size ∧ 128 ≤ byt s (pos + k) := by
    intro k hk
    simp only [Bool.and_eq_true, decide_eq_true_eq, beq_iff_eq] at hk
    refine ⟨hk.1, ?_⟩
    rw [← get_byt s _ hk.1]
    omega
  simp only [Utf8.decode]
  split
  · exact ⟨Nat.le_refl _, by omega, fun j h1 h2 => by simp at h2; omega⟩
  split
  · rename_i _ h1
    rw [Bool.and_eq_true] at h1
    have c1 := hc 1 h1.2
    split
    · refine ⟨by simp, by simp; omega, fun j h1 h2 => ?_⟩
      obtain rfl : j = 1 := by simp at h2; omega
      exact c1.2
    · exact ⟨Nat.le_refl _, by omega, fun j h1 h2 => by simp at h2; omega⟩
  split
  · rename_i _ _ h1
    rw [Bool.and_eq_true, Bool.and_eq_true] at h1
    have c1 := hc 1 h1.1.2
    have c2 := hc 2 h1.2
    split
    · refine ⟨by simp, by simp; omega, fun j h1 h2 => ?_⟩
      have : j = 1 ∨ j = 2 := by simp at h2; omega
      rcases this with rfl | rfl
      · exact c1.2
      · exact c2.2
    · exact ⟨Nat.le_refl _, by omega, fun j h1 h2 => by simp at h2; omega⟩
  split
  · rename_i _ _ _ h1
    rw [Bool.and_eq_true, Bool.and_eq_true, Bool.and_eq_true] at h1
    have c1 := hc 1 h1.1.1.2
    have c2 := hc 2 h1.1.2
    have c3 := hc 3 h1.2
    split
    · refine ⟨by simp, by simp; omega, fun j h1 h2 => ?_⟩
      have : j = 1 ∨ j = 2 ∨ j = 3 := by simp at h2; omega
      rcases this with rfl | rfl | rfl
      · exact c1.2
      · exact c2.2
      · exact c3.2
    · exact ⟨Nat.le_refl _, by omega, fun j h1 h2 => by simp at h2; omega⟩
  · exact ⟨Nat.le_refl _, by omega, fun j h1 h2 => by simp at h2; omega⟩

/-- What a byte at a place that is part of no word makes of the reader. -/
def RS.step (r : RS) (s : ByteArray) (pos : Nat) (c : Int) : RS := if (({ r with nt := false } : RS).close s pos).er = 0 then (({ r with nt := false } : RS).close s pos).one c else (({ r with nt := false } : RS).close s pos)
def RS.last (r : RS) (s : ByteArray) : RS := if (r.close s s.size).er = 0 then (r.close s s.size).put 0 ⟨#[]⟩ 0 else r.close s s.size
def RS.fin (r : RS) (s : ByteArray) : List S33 × Int × Int := if (r.last s).er = 0 then ((r.last s).xs, 0, 0) else ([], (r.last s).line, (r.last s).er)
def RS.from_ (r : RS) (pos : Nat) : RS := if r.fr < 0 then { r with fr := pos } else r
/-- n bytes are left. -/
def rf (s : ByteArray) : Nat → RS → List S33 × Int × Int
  | 0, r => r.fin s
  | n + 1, r =>
    if r.nt = true ∧ ¬ byt s (s.size - (n + 1)) = 10 then rf s n r
    else if partB (byt s (s.size - (n + 1))) then rf s n (r.from_ (s.size - (n + 1)))
    else if (r.step s (s.size - (n + 1)) (byt s (s.size - (n + 1)))).er = 0 then rf s n (r.step s (s.size - (n + 1)) (byt s (s.size - (n + 1))))
    else ([], r.line, (r.step s (s.size - (n + 1)) (byt s (s.size - (n + 1)))).er)
def lexR (s : ByteArray) : List S33 × Int × Int := if 4096 < s.size then ([], 0, 7) else rf s s.size ⟨[], 1, -1, false, 0⟩

theorem rf_skip (s : ByteArray) (r : RS) (hn : r.nt = true) : ∀ (k n : Nat), k ≤ n → n ≤ s.size → (∀ j, j < k → ¬ byt s (s.size - n + j) = 10) → rf s n r = rf s (n - k) r := by
  intro k
  induction k with
  | zero => intro n _ _ _; rfl
  | succ k ih =>
    intro n hk hs hj
    obtain ⟨m, rfl⟩ : ∃ m, n = m + 1 := ⟨n - 1, by omega⟩
    have h0 := hj 0 (by omega)
    rw [Nat.add_zero] at h0
    rw [rf, if_pos ⟨hn, h0⟩, ih m (by omega) (by omega) (fun j hjk => by
      have := hj (j + 1) (by omega)
      rwa [show s.size - (m + 1) + (j + 1) = s.size - m + j by omega] at this)]
    rw [show m + 1 - (k + 1) = m - k by omega]

/-- What holds of a reader at a place. -/
structure RI (r : RS) (pos : Nat) : Prop where
  er : r.er = 0
  len : r.xs.length ≤ 800
  line : 0 ≤ r.line ∧ r.line ≤ pos + 1
  fr : r.fr ≤ pos
theorem RI.start (p : Nat) : RI ⟨[], 1, -1, false, 0⟩ p := ⟨rfl, by simp, ⟨by simp, by simp; omega⟩, by simp⟩
theorem RI.later {r : RS} {p q : Nat} (h : RI r p) (hpq : p ≤ q) : RI r q := ⟨h.er, h.len, by have := h.line; omega, by have := h.fr; omega⟩
theorem RI.from_ {r : RS} {p : Nat} (h : RI r p) : RI (r.from_ p) p := by
  unfold RS.from_
  split
  · exact ⟨h.er, h.len, h.line, by simp⟩
  · exact h
theorem errOver_zero {n : Nat} {er : Int} (h : errOver n er = 0) : n < 800 ∧ er = 0 := by
  unfold errOver at h
  split at h
  · omega
  · rename_i h1
    exact ⟨by
      rcases Nat.lt_or_ge n 800 with h2 | h2
      · exact h2
      · exact absurd ⟨h2, h⟩ h1, h⟩
theorem close_len {r : RS} (s : ByteArray) (p : Nat) : (r.close s p).xs.length ≤ r.xs.length + 1 := by
  unfold RS.close
  split
  · omega
  split
  · simp [RS.put]
  split
  · simp [RS.put]
  · simp
theorem close_line {r : RS} (s : ByteArray) (p : Nat) : (r.close s p).line = r.line := by
  unfold RS.close
  split
  · rfl
  split
  · rfl
  split
  · rfl
  · rfl
theorem close_fr {r : RS} (s : ByteArray) (p : Nat) : (r.close s p).fr = -1 ∨ (r.close s p).fr < 0 := by
  unfold RS.close
  split
  · rename_i h; exact .inr h
  split
  · exact .inl rfl
  split
  · exact .inl rfl
  · exact .inl rfl
theorem close_good {r : RS} (s : ByteArray) (p : Nat) (hl : r.xs.length ≤ 800) (h : (r.close s p).er = 0) : (r.close s p).xs.length ≤ 800 := by
  unfold RS.close at *
  split at h
  · rename_i h1
    rw [if_pos h1]; exact hl
  rename_i h1
  rw [if_neg h1]
  split at h
  · rename_i h2
    rw [if_pos h2]
    have := (errOver_zero h).1
    simp only at this
    simp [RS.put]
    omega
  rename_i h2
  rw [if_neg h2]
  split at h
  · rename_i h3
    rw [if_pos h3]
    have := (errOver_zero h).1
    simp only at this
    simp [RS.put]
    omega
  · exact absurd h (by simp)
theorem one_good {r : RS} (c : Int) (hl : r.xs.length ≤ 800) (h : (r.one c).er = 0) : (r.one c).xs.length ≤ 800 ∧ r.line ≤ (r.one c).line ∧ (r.one c).line ≤ r.line + 1 ∧ (r.one c).fr = r.fr := by
  unfold RS.one at *
  split at h
  · rename_i h1; rw [if_pos h1]; exact ⟨hl, by omega, by omega, rfl⟩
  rename_i h1; rw [if_neg h1]
  split at h
  · rename_i h2; rw [if_pos h2]
    have := errOver_zero h
    exact ⟨by simp [RS.put]; omega, by simp [RS.put], by simp [RS.put]; omega, rfl⟩
  rename_i h2; rw [if_neg h2]
  split at h
  · rename_i h3; rw [if_pos h3]
    have := errOver_zero h
    exact ⟨by simp [RS.put]; omega, by simp [RS.put], by simp [RS.put]; omega, rfl⟩
  rename_i h3; rw [if_neg h3]
  split at h
  · rename_i h4; rw [if_pos h4]
    have := errOver_zero h
    exact ⟨by simp [RS.put]; omega, by simp [RS.put]; omega, by simp [RS.put], rfl⟩
  rename_i h4; rw [if_neg h4]
  split at h
  · rename_i h5; rw [if_pos h5]
    exact ⟨hl, by simp, by simp; omega, rfl⟩
  · exact absurd h (by simp)
theorem RI.step {r : RS} {s : ByteArray} {p : Nat} {c : Int} (h : RI r p) (he : (r.step s p c).er = 0) : RI (r.step s p c) (p + 1) := by
  have h1 := close_len (r := { r with nt := false }) s p
  have h2 := close_line (r := { r with nt := false }) s p
  have h3 := close_fr (r := { r with nt := false }) s p
  have h4 := close_good (r := { r with nt := false }) s p h.len
  unfold RS.step at *
  split at he
  · rename_i h5
    rw [if_pos h5]
    have h6 := one_good c (h4 h5) he
    have hl := h.line
    refine ⟨he, h6.1, ?_, ?_⟩
    · simp only at h2; omega
    · rw [h6.2.2.2]; omega
  · rename_i h5
    exact absurd he h5
theorem step_len {r : RS} {s : ByteArray} {p : Nat} (h : RI r p) : (({ r with nt := false } : RS).close s p).xs.length ≤ 801 := by
  have h1 := close_len (r := { r with nt := false }) s p
  have := h.len
  simp only at h1
  omega
end Go.Proofs.Ytpbbiedpbegamaa.X

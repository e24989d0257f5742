/- The reference's words as a plain function; small helpers for rounds. -/
import Derived.Test.YtpbbiedpbegamaaE7
import Derived.Test.YtpbbiedpbegamaaXhucksterref14Word
import Derived.Test.YtpbbiedpbegamaaXhucksterref14Number
import Derived.Test.YtpbbiedpbegamaaXhucksterref14Read
import Derived.Test.YtpbbiedpbegamaaXhucksterref14Same
set_option linter.unusedSimpArgs false
set_option linter.unusedVariables false
namespace Go.Proofs.Ytpbbiedpbegamaa.X
open Go.RowKit Go.Proofs.YtpbbiedpbegamaaW.PrintWords Go.Proofs.YtpbbiedpbegamaaW.PrintLast Go.Proofs.YtpbbiedpbegamaaW.PrintMore

theorem Ev.succ {α : Type} {g : Nat → Option α} {r : α} (h : Ev (fun k => g (k + 1)) r) : Ev g r := Ev.step (fun _ => rfl) h
theorem Ev.bind1 {α β : Type} {g : Option α} {f : Nat → α → Option β} {a : α} {r : β} (h : g = some a) (k : Ev (fun n => f n a) r) : Ev (fun n => g.bind (f n)) r := by
  subst h
  exact k
theorem Ev.yes {α : Type} {c : Prop} [Decidable c] {g f : Nat → Option α} {r : α} (h : c) (k : Ev g r) : Ev (fun n => if c then g n else f n) r := Ev.congr (fun _ => if_pos h) k
theorem Ev.no {α : Type} {c : Prop} [Decidable c] {g f : Nat → Option α} {r : α} (h : ¬ c) (k : Ev f r) : Ev (fun n => if c then g n else f n) r := Ev.congr (fun _ => if_neg h) k
theorem Ev.is {α : Type} {r r' : α} (h : r = r') : Ev (fun _ => some r) r' := h ▸ Ev.now r

theorem bt_byt (s : ByteArray) (i : Nat) : bt s (i : Int) = byt s i := by
  unfold bt byt
  simp
theorem letter_ref (c : Int) : hucksterref14_letter.f c = some (letB c) := by
  unfold hucksterref14_letter.f letB
  by_cases h1 : c ≥ 97
  · rw [if_pos h1]; simp; omega
  · rw [if_neg h1]; simp; omega
theorem digit_ref (c : Int) : hucksterref14_digit.f c = some (digB c) := by
  unfold hucksterref14_digit.f digB
  by_cases h1 : c ≥ 48
  · rw [if_pos h1]; simp; omega
  · rw [if_neg h1]; simp; omega
theorem wrap_succ (i n : Nat) (h : i < n) (hn : n ≤ 140737488355328) : wrap64 ((i : Int) + 1) = ((i + 1 : Nat) : Int) := by
  unfold wrap64; omega

theorem word_ref_from (s : ByteArray) (hs : s.size ≤ 140737488355328) : ∀ (n pos : Nat), pos + n = s.size → Ev (fun k => hucksterref14_Word.l0 k s (pos : Int)) (decide (1 ≤ s.size ∧ s.size ≤ 16) && wordFrom s n pos) := by
  intro n
  induction n with
  | zero =>
    intro pos hp
    refine Ev.succ ?_
    simp only [hucksterref14_Word.l0]
    refine Ev.no (by omega) ?_
    by_cases h1 : (s.size : Int) ≥ 1
    · refine Ev.yes h1 (Ev.is ?_)
      rw [wordFrom, Bool.and_true]
      exact decide_eq_decide.2 (by omega)
    · refine Ev.no h1 (Ev.is ?_)
      rw [decide_eq_false (by omega)]; rfl
  | succ n ih =>
    intro pos hp
    refine Ev.succ ?_
    simp only [hucksterref14_Word.l0]
    refine Ev.yes (by omega) (Ev.yes (by omega) ?_)
    rw [bt_byt, wrap_succ pos s.size (by omega) hs]
    refine Ev.bind1 (letter_ref _) ?_
    have ih' := ih (pos + 1) (by omega)
    by_cases hl : letB (byt s pos) = true
    · refine Ev.yes hl ?_
      have hw : wordFrom s (n + 1) pos = wordFrom s n (pos + 1) := by simp [wordFrom, wchar, hl, show pos < s.size by omega]
      rw [hw]; exact ih'
    · refine Ev.no hl (Ev.bind1 (digit_ref _) ?_)
      have hl' : letB (byt s pos) = false := by simpa using hl
      by_cases hd : digB (byt s pos) = true
      · refine Ev.yes hd ?_
        by_cases h0 : 0 < pos
        · refine Ev.yes (by omega) ?_
          have hw : wordFrom s (n + 1) pos = wordFrom s n (pos + 1) := by simp [wordFrom, wchar, hl', hd, h0, show pos < s.size by omega]
          rw [hw]; exact ih'
        · refine Ev.no (by omega) (Ev.is ?_)
          have hw : wordFrom s (n + 1) pos = false := by simp [wordFrom, wchar, hl', h0, show pos < s.size by omega]
          rw [hw]; simp
      · refine Ev.no hd (Ev.is ?_)
        have hd' : digB (byt s pos) = false := by simpa using hd
        have hw : wordFrom s (n + 1) pos = false := by simp [wordFrom, wchar, hl', hd', show pos < s.size by omega]
        rw [hw]; simp
theorem word_ref (s : ByteArray) (hs : s.size ≤ 140737488355328) : Ev (fun k => hucksterref14_Word.f k s) (wordB s) := word_ref_from s hs s.size 0 (by omega)
end Go.Proofs.Ytpbbiedpbegamaa.X

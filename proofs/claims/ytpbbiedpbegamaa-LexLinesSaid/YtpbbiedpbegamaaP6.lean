/- Whether tokens are alike; the small example. -/
import Derived.Test.YtpbbiedpbegamaaP5
import Derived.Test.YtpbbiedpbegamaaXhucksterlaw14awake
set_option linter.unusedSimpArgs false
set_option linter.unusedVariables false
namespace Go.Proofs.Ytpbbiedpbegamaa.X
open Go.RowKit Go.Proofs.YtpbbiedpbegamaaW.PrintWords Go.Proofs.YtpbbiedpbegamaaW.PrintLast Go.Proofs.YtpbbiedpbegamaaW.PrintMore

set_option maxRecDepth 100000 in
theorem awake_true : hucksterlaw14_awake.f = some true := by decide +kernel

theorem same_refl (l : List S33) (hl : l.length ≤ 140737488355328) : Ev (fun k => hucksterref14_Same.f k l l) true := by
  have key : ∀ (n i : Nat), i + n = l.length → Ev (fun k => hucksterref14_Same.l0 k l l (i : Int)) true := by
    intro n
    induction n with
    | zero =>
      intro i hi
      refine Ev.succ ?_
      simp only [hucksterref14_Same.l0]
      exact Ev.no (by omega) (Ev.now _)
    | succ n ih =>
      intro i hi
      refine Ev.succ ?_
      simp only [hucksterref14_Same.l0]
      refine Ev.yes (by omega) (Ev.yes (by omega) (Ev.yes (by omega) (Ev.no (by simp) ?_)))
      rw [wrap_succ i l.length (by omega) hl]
      exact ih (i + 1) (by omega)
  unfold hucksterref14_Same.f
  exact Ev.yes rfl (key l.length 0 (by omega))
theorem rf_len (s : ByteArray) : ∀ (n : Nat) (r : RS), RI r (s.size - n) → n ≤ s.size → (rf s n r).1.length ≤ 801 := by
  intro n
  induction n with
  | zero =>
    intro r hr _
    rw [rf]
    unfold RS.fin
    split
    · rename_i h
      unfold RS.last at *
      have h1 := close_len (r := r) s s.size
      have := hr.len
      split
      · rename_i h2
        rw [if_pos h2] at h
        have := (errOver_zero h).1
        simp only [RS.put, List.length_append, List.length_singleton]
        omega
      · rename_i h2
        rw [if_neg h2] at h
        exact absurd h h2
    · simp
  | succ n ih =>
    intro r hr hn
    rw [rf]
    have hs : s.size - n = s.size - (n + 1) + 1 := by omega
    split
    · exact ih _ (by rw [hs]; exact hr.later (by omega)) (by omega)
    split
    · exact ih _ (by rw [hs]; exact hr.from_.later (by omega)) (by omega)
    split
    · rename_i h
      exact ih _ (by rw [hs]; exact hr.step h) (by omega)
    · simp
theorem lexR_len (s : ByteArray) : (lexR s).1.length ≤ 801 := by
  unfold lexR
  split
  · simp
  · exact rf_len s s.size _ (by rw [Nat.sub_self]; exact RI.start 0) (Nat.le_refl _)
end Go.Proofs.Ytpbbiedpbegamaa.X

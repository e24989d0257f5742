/- The pure statement of the law: lex.Read and lex.Word tell what the reference tells, of any text. -/
import Derived.Test.YtpbbiedpbegamaaXhucksterlaw14LexReads
import Derived.Test.YtpbbiedpbegamaaP6
namespace Go.Proofs.Ytpbbiedpbegamaa.Pure
open Go.RowKit Go.Proofs.Ytpbbiedpbegamaa.X Go.Proofs.YtpbbiedpbegamaaW.PrintWords Go.Proofs.YtpbbiedpbegamaaW.PrintLast

theorem reads_yes (a0 a1 : ByteArray) : Ev (fun k => hucksterlaw14_LexReads.j0 k a0 a1 true) true := by
  refine Ev.succ ?_
  simp only [hucksterlaw14_LexReads.j0]
  exact Ev.yes (by simp) (Ev.bind1 awake_true (Ev.now _))
theorem LexReads : hucksterlaw14_LexReads.Pure := by
  intro a0 a1 h0 h1
  refine Ev.rounds ?_
  unfold hucksterlaw14_LexReads.f
  by_cases h5 : (a0.size : Int) > 5000
  · exact Ev.yes h5 (reads_yes a0 a1)
  refine Ev.no h5 ?_
  by_cases h6 : (a1.size : Int) > 100
  · rw [decide_eq_true h6]
    exact reads_yes a0 a1
  rw [decide_eq_false h6]
  refine Ev.succ ?_
  simp only [hucksterlaw14_LexReads.j0]
  refine Ev.no (by simp) (Ev.bind1 rfl (Ev.bind (read_ref a0) (Ev.bind (same_refl _ (Nat.le_trans (lexR_len a0) (by decide))) ?_)))
  refine Ev.yes rfl (Ev.yes rfl (Ev.yes rfl (Ev.bind1 rfl (Ev.bind (word_ref a1 (by omega)) ?_))))
  exact Ev.yes (by simp) (Ev.bind1 awake_true (Ev.now _))

end Go.Proofs.Ytpbbiedpbegamaa.Pure

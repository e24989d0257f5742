/- The laws' helpers on registers. -/
import Derived.Test.YtfnpiclioikjpaaRegQ
import Derived.Test.YtfnpiclioikjpaaXhucksterlaw12awake
import Derived.Test.YtfnpiclioikjpaaXhucksterlaw12Light
import Derived.Test.YtfnpiclioikjpaaXhucksterref12Same
import Derived.Test.YtfnpiclioikjpaaXhucksterref12One
set_option linter.unusedSimpArgs false
set_option linter.unusedVariables false
namespace Go.Proofs.Ytfnpiclioikjpaa.X
open Go.RowKit Go.Proofs.YtfnpiclioikjpaaW.PrintWords Go.Proofs.YtfnpiclioikjpaaW.PrintLast Go.Proofs.YtfnpiclioikjpaaW.PrintMore

theorem awake12 : Ev (fun k => hucksterlaw12_awake.f k) true := Ev.of hucksterlaw12_awake.mono (k := 40) (by decide +kernel)
theorem one_is (x : Nt) : hucksterref12_One.f x.f0 x.f1 x.f2 x.f3 = some (okN x) := may_is x
theorem light_from (l : List Nt) : ∀ (n pos : Nat), pos + n = 61 → ∃ b, Ev (fun k => hucksterlaw12_Light.l0 k l (pos : Int)) b ∧ (b = true → l.length ≤ 60) := by
  intro n
  induction n with
  | zero =>
    intro pos hp
    refine ⟨decide ((l.length : Int) ≤ 60), ?_, fun h => by simp at h; omega⟩
    refine Ev.succ ?_
    simp only [hucksterlaw12_Light.l0]
    by_cases h : (pos : Int) < (l.length : Int)
    · refine Ev.yes h (Ev.succ ?_)
      simp only [hucksterlaw12_Light.j1]
      exact Ev.no (by simp; omega) (Ev.now _)
    · refine Ev.no h (Ev.succ ?_)
      simp only [hucksterlaw12_Light.j1]
      exact Ev.no (by simp) (Ev.now _)
  | succ n ih =>
    intro pos hp
    by_cases h : (pos : Int) < (l.length : Int)
    · by_cases h1 : ((rd_T24 l (pos : Int)).f0.size : Int) > 100
      · refine ⟨false, ?_, fun h => by cases h⟩
        refine Ev.succ ?_
        simp only [hucksterlaw12_Light.l0]
        refine Ev.yes h (Ev.succ ?_)
        simp only [hucksterlaw12_Light.j1]
        exact Ev.yes (by simp; omega) (Ev.yes (by omega) (Ev.yes h (Ev.yes h1 (Ev.now _))))
      · by_cases h2 : ((rd_T24 l (pos : Int)).f3.size : Int) > 200
        · refine ⟨false, ?_, fun h => by cases h⟩
          refine Ev.succ ?_
          simp only [hucksterlaw12_Light.l0]
          refine Ev.yes h (Ev.succ ?_)
          simp only [hucksterlaw12_Light.j1]
          exact Ev.yes (by simp; omega) (Ev.yes (by omega) (Ev.yes h (Ev.no h1 (Ev.yes h2 (Ev.now _)))))
        · obtain ⟨b, hb, hl⟩ := ih (pos + 1) (by omega)
          refine ⟨b, ?_, hl⟩
          refine Ev.succ ?_
          simp only [hucksterlaw12_Light.l0]
          refine Ev.yes h (Ev.succ ?_)
          simp only [hucksterlaw12_Light.j1]
          rw [wrap_up pos (by omega)]
          exact Ev.yes (by simp; omega) (Ev.yes (by omega) (Ev.yes h (Ev.no h1 (Ev.no h2 hb))))
    · refine ⟨decide ((l.length : Int) ≤ 60), ?_, fun h => by simp at h; omega⟩
      refine Ev.succ ?_
      simp only [hucksterlaw12_Light.l0]
      refine Ev.no h (Ev.succ ?_)
      simp only [hucksterlaw12_Light.j1]
      exact Ev.no (by simp) (Ev.now _)
theorem light12 (l : List Nt) : ∃ b, Ev (fun k => hucksterlaw12_Light.f k l) b ∧ (b = true → l.length ≤ 60) := light_from l 61 0 (by omega)
theorem same_from (a : List Nt) (hl : a.length ≤ 1000000) : ∀ (n pos : Nat), pos + n = a.length → Ev (fun k => hucksterref12_Same.l0 k a a (pos : Int)) true := by
  intro n
  induction n with
  | zero =>
    intro pos hp
    refine Ev.succ ?_
    simp only [hucksterref12_Same.l0]
    exact Ev.no (by omega) (Ev.now _)
  | succ n ih =>
    intro pos hp
    refine Ev.succ ?_
    simp only [hucksterref12_Same.l0]
    rw [wrap_up pos (by omega)]
    exact Ev.yes (by omega) (Ev.yes (by omega) (Ev.yes (by omega) (Ev.no (by simp) (ih (pos + 1) (by omega)))))
theorem same12 (a : List Nt) (hl : a.length ≤ 1000000) : Ev (fun k => hucksterref12_Same.f k a a) true := by
  unfold hucksterref12_Same.f
  exact Ev.yes rfl (same_from a hl a.length 0 (by omega))
end Go.Proofs.Ytfnpiclioikjpaa.X

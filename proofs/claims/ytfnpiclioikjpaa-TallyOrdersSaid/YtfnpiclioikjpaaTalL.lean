/- The laws' helpers on tallies. -/
import Derived.Test.YtfnpiclioikjpaaTalQ
import Derived.Test.YtfnpiclioikjpaaXtallyGet
import Derived.Test.YtfnpiclioikjpaaXhucksterlaw10awake
import Derived.Test.YtfnpiclioikjpaaXhucksterlaw10Light
set_option linter.unusedSimpArgs false
set_option linter.unusedVariables false
namespace Go.Proofs.Ytfnpiclioikjpaa.X
open Go.RowKit Go.Proofs.YtfnpiclioikjpaaW.PrintWords Go.Proofs.YtfnpiclioikjpaaW.PrintLast Go.Proofs.YtfnpiclioikjpaaW.PrintMore

theorem awake10 : Ev (fun k => hucksterlaw10_awake.f k) true := Ev.of hucksterlaw10_awake.mono (k := 40) (by decide +kernel)
theorem light10_from (l : List Ct) : ∀ (n pos : Nat), pos + n = 61 → ∃ b, Ev (fun k => hucksterlaw10_Light.l0 k l (pos : Int)) b ∧ (b = true → l.length ≤ 60) := by
  intro n
  induction n with
  | zero =>
    intro pos hp
    refine ⟨decide ((l.length : Int) ≤ 60), ?_, fun h => by simp at h; omega⟩
    refine Ev.succ ?_
    simp only [hucksterlaw10_Light.l0]
    by_cases h : (pos : Int) < (l.length : Int)
    · refine Ev.yes h (Ev.succ ?_)
      simp only [hucksterlaw10_Light.j1]
      exact Ev.no (by simp; omega) (Ev.now _)
    · refine Ev.no h (Ev.succ ?_)
      simp only [hucksterlaw10_Light.j1]
      exact Ev.no (by simp) (Ev.now _)
  | succ n ih =>
    intro pos hp
    by_cases h : (pos : Int) < (l.length : Int)
    · by_cases h1 : ((rd_T47 l (pos : Int)).f0.size : Int) > 100
      · refine ⟨false, ?_, fun h => by cases h⟩
        refine Ev.succ ?_
        simp only [hucksterlaw10_Light.l0]
        refine Ev.yes h (Ev.succ ?_)
        simp only [hucksterlaw10_Light.j1]
        exact Ev.yes (by simp; omega) (Ev.yes (by omega) (Ev.yes h (Ev.yes h1 (Ev.now _))))
      · obtain ⟨b, hb, hl⟩ := ih (pos + 1) (by omega)
        refine ⟨b, ?_, hl⟩
        refine Ev.succ ?_
        simp only [hucksterlaw10_Light.l0]
        refine Ev.yes h (Ev.succ ?_)
        simp only [hucksterlaw10_Light.j1]
        rw [wrap_up pos (by omega)]
        exact Ev.yes (by simp; omega) (Ev.yes (by omega) (Ev.yes h (Ev.no h1 hb)))
    · refine ⟨decide ((l.length : Int) ≤ 60), ?_, fun h => by simp at h; omega⟩
      refine Ev.succ ?_
      simp only [hucksterlaw10_Light.l0]
      refine Ev.no h (Ev.succ ?_)
      simp only [hucksterlaw10_Light.j1]
      exact Ev.no (by simp) (Ev.now _)
theorem light10 (l : List Ct) : ∃ b, Ev (fun k => hucksterlaw10_Light.f k l) b ∧ (b = true → l.length ≤ 60) := light10_from l 61 0 (by omega)
theorem findC_is {a : List Ct} (h : chkC a = true) (key : ByteArray) : tally_find.f a key = some (((posK (ksCell a) key : Nat) : Int), hasCell a key) := by
  obtain ⟨h1, _, h3⟩ := (chkC_iff a).1 h
  unfold tally_find.f
  rw [if_pos ⟨h3, by omega⟩]
theorem get_is {a : List Ct} (h : chkC a = true) {key : ByteArray} {v : Int} (hv : Has a key v) : Ev (fun k => tally_Get.f k a key) v := by
  unfold tally_Get.f
  have hc := checkC_is a
  rw [h, if_pos rfl] at hc
  refine Ev.bind hc (Ev.yes rfl (Ev.bind1 (findC_is h key) ?_))
  have ho := ((chkC_iff a).1 h).2.2
  have ha := Has.at ho key
  have e := Has.one ho hv ha
  cases hh : hasCell a key with
  | true =>
    obtain ⟨hp, hk⟩ := has_yesCell hh
    rw [hh, if_pos rfl] at e
    refine Ev.yes rfl (Ev.yes (by simp) (Ev.yes (by simp; omega) (Ev.is e.symm)))
  | false =>
    rw [hh, if_neg (by decide)] at e
    exact Ev.no (by simp) (Ev.is e.symm)
end Go.Proofs.Ytfnpiclioikjpaa.X

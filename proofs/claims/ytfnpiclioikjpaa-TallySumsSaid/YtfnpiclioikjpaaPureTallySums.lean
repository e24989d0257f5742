/- The pure statement of the law. -/
import Derived.Test.YtfnpiclioikjpaaTalL
import Derived.Test.YtfnpiclioikjpaaXhucksterlaw10TallySums
set_option linter.unusedSimpArgs false
set_option linter.unusedVariables false
namespace Go.Proofs.Ytfnpiclioikjpaa.Pure
open Go.RowKit Go.Proofs.Ytfnpiclioikjpaa.X Go.Proofs.YtfnpiclioikjpaaW.PrintWords Go.Proofs.YtfnpiclioikjpaaW.PrintLast Go.Proofs.YtfnpiclioikjpaaW.PrintMore

theorem sums0 (l : List Ct) (hl : l.length ≤ 60) (key : ByteArray) :
    ∀ (m pos : Nat) (a : List Ct) (n : Int), pos + m = l.length → chkC a = true → Has a key n →
      Ev (fun k => hucksterlaw10_TallySums.l0 k l key a n (pos : Int)) true := by
  intro m
  induction m with
  | zero =>
    intro pos a n hp ha hn
    refine Ev.succ ?_
    simp only [hucksterlaw10_TallySums.l0]
    have hc := checkC_is a
    rw [ha, if_pos rfl] at hc
    exact Ev.no (by omega) (Ev.bind (get_is ha hn) (Ev.yes rfl (Ev.bind hc (Ev.yes rfl (Ev.bind awake10 (Ev.now _))))))
  | succ m ih =>
    intro pos a n hp ha hn
    have ew : wrap64 ((pos : Int) + 1) = ((pos + 1 : Nat) : Int) := wrap_up pos (by omega)
    refine Ev.succ ?_
    simp only [hucksterlaw10_TallySums.l0]
    refine Ev.yes (by omega) (Ev.yes (by omega) ?_)
    simp only [ew]
    generalize rd_T47 l (pos : Int) = c
    cases hk : keyOk c.f0 c.f1 with
    | false =>
      have hs : tally_Add.f a c.f0 c.f1 = some ([], 1) := by
        unfold tally_Add.f
        rw [hk, Bool.and_false, if_neg (by decide)]
      exact Ev.bind1 hs (Ev.no (by simp) (ih (pos + 1) a n (by omega) ha hn))
    | true =>
      cases hq : chkC (putC a c.f0 c.f1) with
      | false =>
        have hs : tally_Add.f a c.f0 c.f1 = some ([], 6) := by
          unfold tally_Add.f
          rw [ha, hk, Bool.and_self, if_pos rfl, hq, if_neg (by decide)]
        exact Ev.bind1 hs (Ev.no (by simp) (ih (pos + 1) a n (by omega) ha hn))
      | true =>
        have hs : tally_Add.f a c.f0 c.f1 = some (putC a c.f0 c.f1, 0) := by
          unfold tally_Add.f
          rw [ha, hk, Bool.and_self, if_pos rfl, hq, if_pos rfl]
        refine Ev.bind1 hs (Ev.yes rfl ?_)
        have ho := ((chkC_iff a).1 ha).2.2
        obtain ⟨v, hat⟩ : ∃ v, Has a c.f0 v := ⟨_, Has.at ho c.f0⟩
        have h1 := has_small ha hat
        have h2 := keyOk_num hk
        have hb : -9223372036854775808 ≤ v + c.f1 ∧ v + c.f1 ≤ 9223372036854775807 := by omega
        have hp := has_put ho hat hb (chkC_nz ha) hn
        have h3 := has_small ha hn
        by_cases he : c.f0 = key
        · refine Ev.yes (by rw [he]) ?_
          rw [if_pos he.symm] at hp
          have ew2 : wrap64 (n + c.f1) = n + c.f1 := wrapId (by omega) (by omega)
          rw [ew2]
          exact ih (pos + 1) _ _ (by omega) hq hp
        · refine Ev.no (fun e => he (bytes_eq e)) ?_
          rw [if_neg (fun e => he e.symm)] at hp
          exact ih (pos + 1) _ _ (by omega) hq hp
theorem TallySums (l0 : List S47) (h0 : l0.length ≤ 9223372036854775807) (a1 : ByteArray) : ∃ k, hucksterlaw10_TallySums.f k l0 a1 = some true := by
  have h : Ev (fun k => hucksterlaw10_TallySums.f k l0 a1) true := by
    unfold hucksterlaw10_TallySums.f
    obtain ⟨b, hb, hl⟩ := light10 l0
    refine Ev.bind hb ?_
    have aw : Ev (fun k => hucksterlaw10_TallySums.j0 k l0 a1 true) true := by
      refine Ev.succ ?_
      simp only [hucksterlaw10_TallySums.j0]
      exact Ev.yes (by simp) (Ev.bind awake10 (Ev.now _))
    cases b with
    | false => exact Ev.no (by simp) aw
    | true =>
      refine Ev.yes (by simp) ?_
      by_cases h1 : (a1.size : Int) > 100
      · rw [decide_eq_true h1]; exact aw
      · rw [decide_eq_false h1]
        refine Ev.succ ?_
        simp only [hucksterlaw10_TallySums.j0]
        exact Ev.no (by simp) (sums0 l0 (hl rfl) a1 l0.length 0 [] 0 (by omega) (by decide) (.inr ⟨rfl, fun x h => by cases h⟩))
  exact h.rounds
end Go.Proofs.Ytfnpiclioikjpaa.Pure

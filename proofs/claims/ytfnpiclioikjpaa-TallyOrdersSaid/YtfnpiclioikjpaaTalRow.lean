/- Tallies: the row in which a key has a number. -/
import Derived.Test.YtfnpiclioikjpaaTalL
import Derived.Test.YtfnpiclioikjpaaXhucksterref10Same
set_option linter.unusedSimpArgs false
set_option linter.unusedVariables false
namespace Go.Proofs.Ytfnpiclioikjpaa.X
open Go.RowKit Go.Proofs.YtfnpiclioikjpaaW.PrintWords Go.Proofs.YtfnpiclioikjpaaW.PrintLast Go.Proofs.YtfnpiclioikjpaaW.PrintMore

/-- The row in which a key has a number. -/
def setV (a : List Ct) (key : ByteArray) (v : Int) : List Ct :=
  if v = 0 then (if hasCell a key = true then a.take (posK (ksCell a) key) ++ a.drop (posK (ksCell a) key + 1) else a)
  else a.take (posK (ksCell a) key) ++ ⟨key, v⟩ :: (if hasCell a key = true then a.drop (posK (ksCell a) key + 1) else a.drop (posK (ksCell a) key))
theorem put_setV {a : List Ct} (ho : OrdK (ksCell a)) {key : ByteArray} {n v : Int} (hv : Has a key v) (hs : -9223372036854775808 ≤ v + n ∧ v + n ≤ 9223372036854775807) (hz : ∀ x ∈ a, x.f1 ≠ 0) : putC a key n = setV a key (v + n) := by
  unfold putC setV
  cases hh : hasCell a key with
  | true =>
    obtain ⟨hp, hk⟩ := has_yesCell hh
    rw [rd_getCell a _ hp]
    simp only [if_true]
    generalize posK (ksCell a) key = p at *
    have hpv : a[p].f1 = v := Has.one ho (.inl ⟨_, List.getElem_mem hp, hk, rfl⟩) hv
    have hnz := hz _ (List.getElem_mem hp)
    rw [hpv] at hnz
    have hsplit : a = a.take p ++ a[p] :: a.drop (p + 1) := by rw [List.getElem_cons_drop, List.take_append_drop]
    by_cases hn : n = 0
    · subst hn
      rw [if_pos rfl, if_neg (by omega)]
      conv => lhs; rw [hsplit]
      congr 2
      have e : a[p] = ⟨key, v⟩ := by
        generalize a[p] = x at *
        cases x
        simp only at hk hpv
        rw [hk, hpv]
      rw [e, Int.add_zero]
    · rw [if_neg hn, hpv]
      by_cases h0 : v = -n
      · rw [if_pos h0, if_pos (by omega)]
      · rw [if_neg h0, if_neg (by omega), List.set_eq_take_append_cons_drop, if_pos hp, wrapId hs.1 hs.2, hk]
  | false =>
    have hno := has_noCell ho hh
    have hv0 : v = 0 := by
      rcases hv with ⟨y, hy, hk, _⟩ | ⟨h, _⟩
      · exact absurd hk (hno y hy)
      · exact h
    subst hv0
    rw [if_neg (show ¬ (false = true) by decide), if_neg (show ¬ (false = true) by decide), if_neg (show ¬ (false = true) by decide), Int.zero_add]

theorem sameC_from (a : List Ct) (hl : a.length ≤ 1000000) : ∀ (n pos : Nat), pos + n = a.length → Ev (fun k => hucksterref10_Same.l0 k a a (pos : Int)) true := by
  intro n
  induction n with
  | zero =>
    intro pos hp
    refine Ev.succ ?_
    simp only [hucksterref10_Same.l0]
    exact Ev.no (by omega) (Ev.now _)
  | succ n ih =>
    intro pos hp
    refine Ev.succ ?_
    simp only [hucksterref10_Same.l0]
    rw [wrap_up pos (by omega)]
    exact Ev.yes (by omega) (Ev.yes (by omega) (Ev.yes (by omega) (Ev.no (by simp) (ih (pos + 1) (by omega)))))
theorem sameC_is (a : List Ct) (hl : a.length ≤ 1000000) : Ev (fun k => hucksterref10_Same.f k a a) true := by
  unfold hucksterref10_Same.f
  exact Ev.yes rfl (sameC_from a hl a.length 0 (by omega))

end Go.Proofs.Ytfnpiclioikjpaa.X

/- The pure statement of the law. -/
import Derived.Test.YtfnpiclioikjpaaTalR
import Derived.Test.YtfnpiclioikjpaaXhucksterlaw10TallyAdds
set_option linter.unusedSimpArgs false
set_option linter.unusedVariables false
namespace Go.Proofs.Ytfnpiclioikjpaa.Pure
open Go.RowKit Go.Proofs.Ytfnpiclioikjpaa.X Go.Proofs.YtfnpiclioikjpaaW.PrintWords Go.Proofs.YtfnpiclioikjpaaW.PrintLast Go.Proofs.YtfnpiclioikjpaaW.PrintMore

theorem setV_len (a : List Ct) (key : ByteArray) (v : Int) : (setV a key v).length ≤ a.length + 1 := by
  unfold setV
  split
  · split
    · simp only [List.length_append, List.length_take, List.length_drop]; omega
    · omega
  · split
    · simp only [List.length_append, List.length_cons, List.length_take, List.length_drop]; omega
    · simp only [List.length_append, List.length_cons, List.length_take, List.length_drop]; omega
theorem adds2 (l : List Ct) (key : ByteArray) (n : Int) (hn0 : -9223372036854775808 ≤ n) (hn1 : n ≤ 9223372036854775807) (hl : l.length ≤ 60) (ha : chkC l = true) :
    ∀ (x : List Ct) (e : Int) (bad : Bool), bad = !keyOk key n → tally_Add.f l key n = some (x, e) → Ev (fun k => hucksterlaw10_TallyAdds.j2 k l key n x e bad) true := by
  intro x e bad hbad hs
  refine Ev.succ ?_
  simp only [hucksterlaw10_TallyAdds.j2]
  cases hk : keyOk key n with
  | false =>
    rw [hk] at hbad
    subst hbad
    have hs' : tally_Add.f l key n = some ([], 1) := by
      unfold tally_Add.f
      rw [hk, Bool.and_false, if_neg (by decide)]
    rw [hs'] at hs
    simp only [Option.some.injEq, Prod.mk.injEq] at hs
    obtain ⟨rfl, rfl⟩ := hs
    exact Ev.yes (by simp) (Ev.yes rfl (Ev.yes rfl (Ev.bind awake10 (Ev.now _))))
  | true =>
    rw [hk] at hbad
    subst hbad
    have ho := ((chkC_iff l).1 ha).2.2
    obtain ⟨v, hv⟩ : ∃ v, Has l key v := ⟨_, Has.at ho key⟩
    have h1 := has_small ha hv
    have h2 := keyOk_num hk
    have hb : -9223372036854775808 ≤ v + n ∧ v + n ≤ 9223372036854775807 := by omega
    have ew : wrap64 (v + n) = v + n := wrapId hb.1 hb.2
    have hp := put_setV ho hv hb (chkC_nz ha)
    have hsl := setV_len l key (v + n)
    refine Ev.no (by simp) (Ev.bind (getC_is ha hv) ?_)
    simp only [ew]
    refine Ev.bind (setC_is ha key (v + n)) (Ev.bind (mayC_is _ (by omega)) ?_)
    cases hq : chkC (setV l key (v + n)) with
    | true =>
      have hs' : tally_Add.f l key n = some (setV l key (v + n), 0) := by
        unfold tally_Add.f
        rw [ha, hk, Bool.and_self, if_pos rfl, hp, hq, if_pos rfl]
      rw [hs'] at hs
      simp only [Option.some.injEq, Prod.mk.injEq] at hs
      obtain ⟨rfl, rfl⟩ := hs
      exact Ev.yes (by simp) (Ev.yes rfl (Ev.bind (sameC_is _ (by omega)) (Ev.yes rfl (Ev.bind awake10 (Ev.now _)))))
    | false =>
      have hs' : tally_Add.f l key n = some ([], 6) := by
        unfold tally_Add.f
        rw [ha, hk, Bool.and_self, if_pos rfl, hp, hq, if_neg (by decide)]
      rw [hs'] at hs
      simp only [Option.some.injEq, Prod.mk.injEq] at hs
      obtain ⟨rfl, rfl⟩ := hs
      exact Ev.no (by simp) (Ev.yes rfl (Ev.yes rfl (Ev.bind awake10 (Ev.now _))))
theorem adds1 (l : List Ct) (key : ByteArray) (n : Int) (hn0 : -9223372036854775808 ≤ n) (hn1 : n ≤ 9223372036854775807) (hl : l.length ≤ 60) (ha : chkC l = true) (x : List Ct) (e : Int) (hs : tally_Add.f l key n = some (x, e)) :
    Ev (fun k => hucksterlaw10_TallyAdds.j1 k l key n x e false) true := by
  have go := adds2 l key n hn0 hn1 hl ha x e
  refine Ev.succ ?_
  simp only [hucksterlaw10_TallyAdds.j1]
  refine Ev.no (by simp) ?_
  unfold keyOk at go
  by_cases h0 : key.toList = []
  · exact Ev.yes h0 (go true (by rw [h0]; rfl) hs)
  · refine Ev.no h0 ?_
    rw [beq_eq_false_iff_ne.2 h0] at go
    by_cases h1 : (key.size : Int) > 32
    · exact Ev.yes h1 (go true (by rw [decide_eq_false (by omega)]; rfl) hs)
    · refine Ev.no h1 ?_
      rw [decide_eq_true (show (key.size : Int) ≤ 32 by omega)] at go
      by_cases h2 : n > 1000
      · exact Ev.yes h2 (go true (by rw [decide_eq_false (show ¬ n ≤ 1000 by omega)]; rfl) hs)
      · refine Ev.no h2 ?_
        rw [decide_eq_true (show n ≤ 1000 by omega)] at go
        refine go _ ?_ hs
        by_cases h3 : n < -1000
        · rw [decide_eq_true h3, decide_eq_false (show ¬ -1000 ≤ n by omega)]; rfl
        · rw [decide_eq_false h3, decide_eq_true (show -1000 ≤ n by omega)]; rfl
theorem all_is {l : List Ct} (ha : chkC l = true) : Ev (fun k => tally_All.f k l) l := by
  unfold tally_All.f
  have hc := checkC_is l
  rw [ha, if_pos rfl] at hc
  have h1 := ((chkC_iff l).1 ha).1
  refine Ev.bind hc (Ev.yes rfl (Ev.bind1 (a := l) ?_ (Ev.now _)))
  unfold api_Cell_59.f
  rw [if_pos (by omega)]
theorem all_no {l : List Ct} (ha : chkC l = false) : Ev (fun k => tally_All.f k l) [] := by
  unfold tally_All.f
  have hc := checkC_is l
  rw [ha, if_neg (by decide)] at hc
  exact Ev.bind hc (Ev.no (by decide) (Ev.now _))
theorem get_no {l : List Ct} (ha : chkC l = false) (key : ByteArray) : Ev (fun k => tally_Get.f k l key) 0 := by
  unfold tally_Get.f
  have hc := checkC_is l
  rw [ha, if_neg (by decide)] at hc
  exact Ev.bind hc (Ev.no (by decide) (Ev.now _))
theorem TallyAdds (l0 : List S47) (h0 : l0.length ≤ 9223372036854775807) (a1 : ByteArray) (a2 : Int) (w2 : (Lit.int .i64 a2).wf = true) : ∃ k, hucksterlaw10_TallyAdds.f k l0 a1 a2 = some true := by
  have hw : -9223372036854775808 ≤ a2 ∧ a2 ≤ 9223372036854775807 := by
    simp [Lit.wf, IntKind.min, IntKind.max, IntKind.wrap, IntKind.bits, IntKind.signed] at w2
    omega
  have h : Ev (fun k => hucksterlaw10_TallyAdds.f k l0 a1 a2) true := by
    unfold hucksterlaw10_TallyAdds.f
    obtain ⟨b, hb, hl⟩ := light10 l0
    refine Ev.bind hb ?_
    have aw : Ev (fun k => hucksterlaw10_TallyAdds.j0 k l0 a1 a2 true) true := by
      refine Ev.succ ?_
      simp only [hucksterlaw10_TallyAdds.j0]
      exact Ev.yes (by simp) (Ev.bind awake10 (Ev.now _))
    cases b with
    | false => exact Ev.no (by simp) aw
    | true =>
      have hl := hl rfl
      refine Ev.yes (by simp) ?_
      by_cases h1 : (a1.size : Int) > 100
      · rw [decide_eq_true h1]; exact aw
      · rw [decide_eq_false h1]
        refine Ev.succ ?_
        simp only [hucksterlaw10_TallyAdds.j0]
        refine Ev.no (by simp) ?_
        obtain ⟨⟨x, e⟩, hs⟩ : ∃ r, tally_Add.f l0 a1 a2 = some r := by
          unfold tally_Add.f
          split
          · split
            · exact ⟨_, rfl⟩
            · exact ⟨_, rfl⟩
          · exact ⟨_, rfl⟩
        have hc := checkC_is l0
        have hm := mayC_is l0 (by omega)
        refine Ev.bind1 hs (Ev.bind hc (Ev.bind hm ?_))
        cases ha : chkC l0 with
        | true =>
          rw [ha] at hm
          refine Ev.no (by simp) (Ev.bind hm (Ev.yes rfl ?_))
          have ho := ((chkC_iff l0).1 ha).2.2
          obtain ⟨v, hv⟩ : ∃ v, Has l0 a1 v := ⟨_, Has.at ho a1⟩
          refine Ev.bind (get_is ha hv) (Ev.bind (getC_is ha hv) (Ev.yes rfl (Ev.bind (all_is ha) (Ev.bind (sameC_is l0 (by omega)) ?_))))
          exact adds1 l0 a1 a2 hw.1 hw.2 hl ha x e hs
        | false =>
          rw [ha] at hm
          have hs' : tally_Add.f l0 a1 a2 = some ([], 1) := by
            unfold tally_Add.f
            rw [ha, Bool.false_and, if_neg (by decide)]
          rw [hs'] at hs
          simp only [Option.some.injEq, Prod.mk.injEq] at hs
          obtain ⟨rfl, rfl⟩ := hs
          refine Ev.no (by simp) (Ev.bind hm (Ev.no (by simp) (Ev.yes rfl (Ev.yes rfl (Ev.bind (get_no ha a1) (Ev.yes rfl (Ev.bind (all_no ha) (Ev.yes rfl (Ev.bind awake10 (Ev.now _))))))))))
  exact h.rounds
end Go.Proofs.Ytfnpiclioikjpaa.Pure

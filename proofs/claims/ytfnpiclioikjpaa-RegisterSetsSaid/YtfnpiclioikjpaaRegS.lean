/- The reference's Set is what Set makes. -/
import Derived.Test.YtfnpiclioikjpaaERefSet
import Derived.Test.YtfnpiclioikjpaaRegL
import Derived.Test.YtfnpiclioikjpaaXhucksterref12May
set_option linter.unusedSimpArgs false
set_option linter.unusedVariables false
namespace Go.Proofs.Ytfnpiclioikjpaa.X
open Go.RowKit Go.Proofs.YtfnpiclioikjpaaW.PrintWords Go.Proofs.YtfnpiclioikjpaaW.PrintLast Go.Proofs.YtfnpiclioikjpaaW.PrintMore

theorem refR_done (n : Nt) (l : List Nt) : refR n true l = l.filter (fun x => !decide (x.f0 = n.f0)) := by
  induction l with
  | nil => rfl
  | cons x l ih =>
    simp only [refR, Bool.not_true, Bool.false_and, Bool.true_or, ih, List.filter_cons]
    by_cases hk : x.f0 = n.f0 <;> simp [hk]
theorem refR_app (n : Nt) (l m : List Nt) (h : ∀ x ∈ l, blt x.f0 n.f0 = true) : refR n false (l ++ m) = l ++ refR n false m := by
  induction l with
  | nil => rfl
  | cons x l ih =>
    have h1 := h x (List.mem_cons_self ..)
    have hne : x.f0 ≠ n.f0 := by rintro e; rw [e, blt_irrefl] at h1; cases h1
    simp only [List.cons_append, refR, h1, Bool.not_true, Bool.and_false, Bool.or_false]
    rw [ih (fun y hy => h y (List.mem_cons_of_mem _ hy)), if_neg hne]
    rfl
theorem filterN_id {l : List Nt} {key : ByteArray} (h : ∀ x ∈ l, x.f0 ≠ key) : l.filter (fun x => !decide (x.f0 = key)) = l := by
  rw [List.filter_eq_self]
  intro x hx
  simp [h x hx]
/-- A key's note; without a key: there is none. -/
def getN (l : List Nt) (key : ByteArray) : Nt := if hasNote l key = true then rd_T24 l (posK (ksNote l) key : Int) else ⟨⟨#[]⟩, 0, 0, ⟨#[]⟩⟩
theorem okN_key {x : Nt} (h : okN x = true) : (x.f0.toList == ([] : List UInt8)) = false := by
  unfold okN at h
  simp only [Bool.and_eq_true, Bool.not_eq_true'] at h
  exact h.1
theorem setN_ref {l : List Nt} (hc : chkN l = true) (n : Nt) (hl : l.length ≤ 60) : setN l n = ((if (!((getN l n.f0).f0.toList == ([] : List UInt8)) && !ltrN n (getN l n.f0)) = true then l else refR n false l), 0) := by
  obtain ⟨_, hok, ho⟩ := (chkN_iff l).1 hc
  unfold setN getN
  have hb := before_pos l n.f0
  have hf := after_pos ho n.f0
  cases hh : hasNote l n.f0 with
  | true =>
    obtain ⟨hp, hk⟩ := has_yes hh
    simp only [if_true]
    rw [rd_get l _ hp]
    generalize posK (ksNote l) n.f0 = p at *
    rw [okN_key (hok _ (List.getElem_mem hp)), Bool.not_false, Bool.true_and]
    cases hlt : ltrN n l[p] with
    | false => simp
    | true =>
      simp only [Bool.not_true, if_true, Bool.false_eq_true, if_false]
      have hsplit : l = l.take p ++ l[p] :: l.drop (p + 1) := by rw [List.getElem_cons_drop, List.take_append_drop]
      have hane : ∀ x ∈ l.drop (p + 1), x.f0 ≠ n.f0 := by
        intro x h e
        obtain ⟨j, hj, rfl⟩ := List.mem_iff_getElem.1 h
        rw [List.length_drop] at hj
        rw [List.getElem_drop] at e
        have h2 := ordK_get ho p (p + 1 + j) (by omega) (by rw [ks_len]; omega)
        simp only [ksNote, List.getElem_map] at h2
        rw [hk, e, blt_irrefl] at h2
        cases h2
      have h1 : blt l[p].f0 n.f0 = false := by rw [hk, blt_irrefl]
      have e : refR n false l = l.take p ++ n :: l.drop (p + 1) := by
        conv => lhs; rw [hsplit]
        rw [refR_app _ _ _ hb]
        congr 1
        simp only [refR, h1, Bool.not_false, Bool.and_true, Bool.or_true, if_true]
        rw [refR_done, filterN_id hane, if_pos hk]
        rfl
      rw [e, List.set_eq_take_append_cons_drop, if_pos hp]
  | false =>
    have hno := has_no ho hh
    simp only [Bool.false_eq_true, if_false]
    rw [if_neg (by omega)]
    have e : ((⟨#[]⟩ : ByteArray).toList == ([] : List UInt8)) = true := by rw [ByteArray.toList_eq]; rfl
    rw [e]
    simp only [Bool.not_true, Bool.false_and, Bool.false_eq_true, if_false]
    generalize posK (ksNote l) n.f0 = p at *
    have e : refR n false l = l.take p ++ n :: l.drop p := by
      conv => lhs; rw [← List.take_append_drop p l]
      rw [refR_app _ _ _ hb]
      congr 1
      have hdn : ∀ x ∈ l.drop p, x.f0 ≠ n.f0 := fun x hx => hno x (List.mem_of_mem_drop hx)
      cases hd : l.drop p with
      | nil => simp [refR]
      | cons x m =>
        rw [hd] at hf hdn
        have h1 := hf x (List.mem_cons_self ..)
        have h2 := hdn x (List.mem_cons_self ..)
        simp only [refR, h1, Bool.not_false, Bool.and_true, Bool.or_true, if_true]
        rw [refR_done, filterN_id (fun y hy => hdn y (List.mem_cons_of_mem _ hy)), if_neg h2]
        rfl
    rw [e]
theorem refGet_from (l : List Nt) (hl : l.length ≤ 4000) (ho : OrdK (ksNote l)) (key : ByteArray) : ∀ (n pos : Nat), pos + n = l.length → (∀ x ∈ l.take pos, x.f0 ≠ key) → Ev (fun k => hucksterref12_Get.l0 k l key (pos : Int)) ((getN l key).f0, (getN l key).f1, (getN l key).f2, (getN l key).f3) := by
  intro n
  induction n with
  | zero =>
    intro pos hp hno
    refine Ev.succ ?_
    simp only [hucksterref12_Get.l0]
    refine Ev.no (by omega) (Ev.is ?_)
    rw [List.take_of_length_le (by omega)] at hno
    have hh : hasNote l key = false := by
      cases h : hasNote l key with
      | false => rfl
      | true =>
        obtain ⟨hp, hk⟩ := has_yes h
        exact absurd hk (hno _ (List.getElem_mem hp))
    unfold getN
    rw [hh]
    rfl
  | succ n ih =>
    intro pos hp hno
    refine Ev.succ ?_
    simp only [hucksterref12_Get.l0]
    have hx := rd_get l pos (by omega)
    have hmem : l[pos]'(by omega) ∈ l := List.getElem_mem ..
    refine Ev.yes (by omega) (Ev.yes (by omega) ?_)
    simp only [hx, wrap_up pos (show (pos : Int) < 9223372036854775807 by omega)]
    by_cases hk : (l[pos]'(by omega)).f0 = key
    · refine Ev.yes (by rw [hk]) (Ev.is ?_)
      cases h : hasNote l key with
      | false => exact absurd hk (has_no ho h _ hmem)
      | true =>
        obtain ⟨hp, hk2⟩ := has_yes h
        have e : getN l key = l[pos]'(by omega) := by
          unfold getN
          rw [h, if_pos rfl, rd_get l _ hp]
          exact key_one ho (List.getElem_mem hp) hmem (hk2.trans hk.symm)
        rw [e]
    · refine Ev.no (fun e => hk (bytes_eq e)) (ih (pos + 1) (by omega) ?_)
      intro x hx
      rw [← List.take_append_getElem (by omega : pos < l.length)] at hx
      rcases List.mem_append.1 hx with hx | hx
      · exact hno x hx
      · rw [List.mem_singleton.1 hx]; exact hk
theorem refGet_is {l : List Nt} (hc : chkN l = true) (key : ByteArray) : Ev (fun k => hucksterref12_Get.f k l key) ((getN l key).f0, (getN l key).f1, (getN l key).f2, (getN l key).f3) := by
  obtain ⟨h1, _, h3⟩ := (chkN_iff l).1 hc
  exact refGet_from l h1 h3 key l.length 0 (by omega) (by simp)
theorem may_from (l : List Nt) (hl : l.length ≤ 4000) : ∀ (n pos : Nat), pos + n = l.length → Ev (fun k => hucksterref12_May.l0 k l (pos : Int)) (chkR (prevK l pos) (l.drop pos)) := by
  intro n
  induction n with
  | zero =>
    intro pos hp
    refine Ev.succ ?_
    simp only [hucksterref12_May.l0]
    refine Ev.no (by omega) (Ev.is ?_)
    rw [List.drop_eq_nil_of_le (by omega)]
    simp [chkR]
    omega
  | succ n ih =>
    intro pos hp
    refine Ev.succ ?_
    simp only [hucksterref12_May.l0]
    refine Ev.yes (by omega) (Ev.yes (by omega) ?_)
    refine Ev.bind1 (one_is _) ?_
    rw [rd_drop l pos (by omega), chkR_cons]
    rcases Bool.eq_false_or_eq_true (okN (rd_T24 l (pos : Int))) with hm | hm
    · rw [hm]
      refine Ev.yes rfl ?_
      have ih' := ih (pos + 1) (by omega)
      rw [prevK_succ] at ih'
      rw [wrap_up pos (by omega)]
      by_cases h0 : pos = 0
      · subst h0
        refine Ev.no (by omega) ?_
        simpa [prevK, aheadK] using ih'
      · refine Ev.yes (by omega) ?_
        rw [wrap_dn pos (by omega) (by omega)]
        refine Ev.yes (by omega) (Ev.yes (by omega) ?_)
        have hp : prevK l pos = some (rd_T24 l ((pos - 1 : Nat) : Int)).f0 := by unfold prevK; rw [if_neg h0]
        rw [hp]
        simp only [Bool.true_and, aheadK]
        rcases Bool.eq_false_or_eq_true (blt (rd_T24 l ((pos - 1 : Nat) : Int)).f0 (rd_T24 l (pos : Int)).f0) with hb | hb
        · refine Ev.yes hb ?_
          rw [hb, Bool.true_and]
          exact ih'
        · exact Ev.no (by unfold blt at hb; rw [hb]; simp) (Ev.is (by rw [hb]; rfl))
    · rw [hm]
      exact Ev.no (by simp) (Ev.is (by simp))
theorem mayR_is (l : List Nt) (hl : l.length ≤ 4000) : Ev (fun k => hucksterref12_May.f k l) (chkN l) := by
  have h := may_from l hl l.length 0 (by omega)
  unfold hucksterref12_May.f chkN
  rw [decide_eq_true hl, Bool.true_and]
  simpa [prevK] using h
end Go.Proofs.Ytfnpiclioikjpaa.X

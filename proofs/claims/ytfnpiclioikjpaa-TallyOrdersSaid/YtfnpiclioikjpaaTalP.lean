/- Tallies as plain lists. -/
import Derived.Test.YtfnpiclioikjpaaEvx
import Derived.Test.YtfnpiclioikjpaaFindCell
import Derived.Test.YtfnpiclioikjpaaXtallyCheck
set_option linter.unusedSimpArgs false
set_option linter.unusedVariables false
namespace Go.Proofs.Ytfnpiclioikjpaa.X
open Go.RowKit Go.Proofs.YtfnpiclioikjpaaW.PrintWords Go.Proofs.YtfnpiclioikjpaaW.PrintLast Go.Proofs.YtfnpiclioikjpaaW.PrintMore

abbrev Ct := S47
def numOk (n : Int) : Bool := !(n == 0) && (decide (n ≤ 1099511627776) && decide (-1099511627776 ≤ n))
def okC (x : Ct) : Bool := decide ((x.f0.size : Int) ≤ 32) && numOk x.f1
def chkT : ByteArray → List Ct → Bool
  | _, [] => true
  | p, x :: l => blt p x.f0 && (okC x && chkT x.f0 l)
def chkC (l : List Ct) : Bool := decide (l.length ≤ 4000) && chkT ⟨#[]⟩ l
theorem rdC_drop (l : List Ct) (i : Nat) (h : i < l.length) : l.drop i = rd_T47 l (i : Int) :: l.drop (i + 1) := by
  rw [← List.getElem_cons_drop (h := h)]
  congr 1
  unfold rd_T47
  simp [List.getD, h]
theorem checkC_from (l : List Ct) (hl : l.length ≤ 4000) : ∀ (n pos : Nat) (last : ByteArray), pos + n = l.length → Ev (fun k => tally_Check.l0 k last l (l.length : Int) (pos : Int)) (if chkT last (l.drop pos) = true then 0 else 1) := by
  intro n
  induction n with
  | zero =>
    intro pos last hp
    refine Ev.succ ?_
    simp only [tally_Check.l0]
    refine Ev.no (by omega) (Ev.is ?_)
    rw [List.drop_eq_nil_of_le (by omega)]
    rfl
  | succ n ih =>
    intro pos last hp
    refine Ev.succ ?_
    simp only [tally_Check.l0]
    refine Ev.yes (by omega) (Ev.yes (by omega) (Ev.yes (by omega) ?_))
    have hc : chkT last (l.drop pos) = (blt last (rd_T47 l (pos : Int)).f0 && (okC (rd_T47 l (pos : Int)) && chkT (rd_T47 l (pos : Int)).f0 (l.drop (pos + 1)))) := by
      rw [rdC_drop l pos (by omega)]; rfl
    rw [hc]
    unfold okC numOk
    rcases Bool.eq_false_or_eq_true (blt last (rd_T47 l (pos : Int)).f0) with hb | hb
    · refine Ev.yes hb ?_
      rw [hb]
      by_cases h1 : ((rd_T47 l (pos : Int)).f0.size : Int) > 32
      · exact Ev.yes h1 (Ev.is (by rw [decide_eq_false (by omega)]; simp))
      · refine Ev.no h1 ?_
        rw [decide_eq_true (show ((rd_T47 l (pos : Int)).f0.size : Int) ≤ 32 by omega)]
        by_cases h2 : (rd_T47 l (pos : Int)).f1 = 0
        · exact Ev.yes h2 (Ev.is (by simp [h2]))
        · refine Ev.no h2 ?_
          have h2' : ((rd_T47 l (pos : Int)).f1 == 0) = false := beq_eq_false_iff_ne.2 h2
          by_cases h3 : (rd_T47 l (pos : Int)).f1 > 1099511627776
          · exact Ev.yes h3 (Ev.is (by rw [h2', decide_eq_false (by omega)]; simp))
          · refine Ev.no h3 ?_
            by_cases h4 : (rd_T47 l (pos : Int)).f1 < -1099511627776
            · refine Ev.yes h4 (Ev.is ?_)
              rw [decide_eq_false (show ¬ -1099511627776 ≤ (rd_T47 l (pos : Int)).f1 by omega)]; simp
            · refine Ev.no h4 ?_
              rw [h2', decide_eq_true (show (rd_T47 l (pos : Int)).f1 ≤ 1099511627776 by omega), decide_eq_true (show -1099511627776 ≤ (rd_T47 l (pos : Int)).f1 by omega), wrap_up pos (by omega)]
              simpa using ih (pos + 1) (rd_T47 l (pos : Int)).f0 (by omega)
    · exact Ev.no (by unfold blt at hb; rw [hb]; simp) (Ev.is (by rw [hb]; simp))
theorem checkC_is (l : List Ct) : Ev (fun k => tally_Check.f k l) (if chkC l = true then 0 else 1) := by
  unfold tally_Check.f chkC
  by_cases hl : (l.length : Int) > 4000
  · refine Ev.yes hl (Ev.is ?_)
    rw [decide_eq_false (by omega), Bool.false_and]; simp
  · refine Ev.no hl ?_
    rw [decide_eq_true (by omega), Bool.true_and]
    exact checkC_from l (by omega) l.length 0 _ (by omega)
theorem chkT_ord {p : ByteArray} {l : List Ct} (h : chkT p l = true) : (∀ x ∈ l, okC x = true ∧ blt p x.f0 = true) ∧ OrdK (ksCell l) := by
  induction l generalizing p with
  | nil => exact ⟨(fun x hx => by cases hx), List.Pairwise.nil⟩
  | cons a l ih =>
    simp only [chkT, Bool.and_eq_true] at h
    obtain ⟨h1, h2⟩ := ih h.2.2
    refine ⟨fun x hx => ?_, List.Pairwise.cons (fun k hk => ?_) h2⟩
    · rcases List.mem_cons.1 hx with rfl | hx
      · exact ⟨h.2.1, h.1⟩
      · exact ⟨(h1 x hx).1, blt_trans h.1 (h1 x hx).2⟩
    · obtain ⟨y, hy, rfl⟩ := List.mem_map.1 hk
      exact (h1 y hy).2
theorem chkT_of {l : List Ct} (p : ByteArray) (ha : ∀ x ∈ l, okC x = true) (ho : OrdK (ksCell l)) (hp : ∀ x ∈ l, blt p x.f0 = true) : chkT p l = true := by
  induction l generalizing p with
  | nil => rfl
  | cons a l ih =>
    have ho' := List.pairwise_cons.1 ho
    simp only [chkT, Bool.and_eq_true]
    exact ⟨hp a (List.mem_cons_self ..), ha a (List.mem_cons_self ..), ih _ (fun x hx => ha x (List.mem_cons_of_mem _ hx)) ho'.2 (fun x hx => ho'.1 _ (List.mem_map.2 ⟨x, hx, rfl⟩))⟩
theorem blt_empty (x : ByteArray) : blt ⟨#[]⟩ x = !(x.toList == ([] : List UInt8)) := by
  unfold blt
  have e : (⟨#[]⟩ : ByteArray).toList = [] := by rw [ByteArray.toList_eq]
  rw [e]
  cases x.toList with
  | nil => rfl
  | cons a l => rfl
theorem chkC_iff (l : List Ct) : chkC l = true ↔ l.length ≤ 4000 ∧ (∀ x ∈ l, okC x = true ∧ x.f0.toList ≠ []) ∧ OrdK (ksCell l) := by
  unfold chkC
  rw [Bool.and_eq_true, decide_eq_true_eq]
  constructor
  · rintro ⟨h1, h2⟩
    obtain ⟨h3, h4⟩ := chkT_ord h2
    refine ⟨h1, fun x hx => ⟨(h3 x hx).1, fun e => ?_⟩, h4⟩
    have := (h3 x hx).2
    rw [blt_empty, e] at this
    simp at this
  · rintro ⟨h1, h2, h3⟩
    refine ⟨h1, chkT_of _ (fun x hx => (h2 x hx).1) h3 (fun x hx => ?_)⟩
    rw [blt_empty]
    have := (h2 x hx).2
    simpa using this

/-- What Add makes of the row. -/
def putC (l : List Ct) (key : ByteArray) (n : Int) : List Ct :=
  if n = 0 then l else if hasCell l key = true then
    (if (rd_T47 l (posK (ksCell l) key : Int)).f1 = -n then l.take (posK (ksCell l) key) ++ l.drop (posK (ksCell l) key + 1) else l.set (posK (ksCell l) key) ⟨(rd_T47 l (posK (ksCell l) key : Int)).f0, wrap64 ((rd_T47 l (posK (ksCell l) key : Int)).f1 + n)⟩)
  else l.take (posK (ksCell l) key) ++ ⟨key, n⟩ :: l.drop (posK (ksCell l) key)
def keyOk (key : ByteArray) (n : Int) : Bool := !(key.toList == ([] : List UInt8)) && (decide ((key.size : Int) ≤ 32) && (decide (n ≤ 1000) && decide (-1000 ≤ n)))
def tally_Add.f (l0 : List Ct) (a1 : ByteArray) (a2 : Int) : Option (List Ct × Int) :=
  if (chkC l0 && keyOk a1 a2) = true then (if chkC (putC l0 a1 a2) = true then some (putC l0 a1 a2, 0) else some ([], 6)) else some ([], 1)
end Go.Proofs.Ytfnpiclioikjpaa.X

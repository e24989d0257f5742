/- Registers as plain lists: may it be, what a set makes of it. -/
import Derived.Test.YtfnpiclioikjpaaEvx
import Derived.Test.YtfnpiclioikjpaaFindNote
import Derived.Test.YtfnpiclioikjpaaXregisterCheck
import Derived.Test.YtfnpiclioikjpaaXregisterLater
set_option linter.unusedSimpArgs false
set_option linter.unusedVariables false
namespace Go.Proofs.Ytfnpiclioikjpaa.X
open Go.RowKit Go.Proofs.YtfnpiclioikjpaaW.PrintWords Go.Proofs.YtfnpiclioikjpaaW.PrintLast Go.Proofs.YtfnpiclioikjpaaW.PrintMore

abbrev Nt := S24
def okN (x : Nt) : Bool := !(x.f0.toList == ([] : List UInt8)) && (decide ((x.f0.size : Int) ≤ 32) && (decide (x.f1 ≥ 1) && (decide (x.f1 ≤ 1099511627776) && (decide (x.f2 ≥ 1) && (decide (x.f2 ≤ 5) && decide ((x.f3.size : Int) ≤ 64))))))
def ltrN (x y : Nt) : Bool := if x.f1 = y.f1 then (if x.f2 = y.f2 then blt y.f3 x.f3 else decide (x.f2 > y.f2)) else decide (x.f1 > y.f1)
def chkR : Option ByteArray → List Nt → Bool
  | _, [] => true
  | p, x :: l => okN x && ((match p with | none => true | some k => blt k x.f0) && chkR (some x.f0) l)
def aheadK (p : Option ByteArray) (k : ByteArray) : Bool := match p with | none => true | some q => blt q k
theorem chkR_cons (p : Option ByteArray) (x : Nt) (l : List Nt) : chkR p (x :: l) = (okN x && (aheadK p x.f0 && chkR (some x.f0) l)) := by cases p <;> rfl
def chkN (l : List Nt) : Bool := decide (l.length ≤ 4000) && chkR none l

theorem may_is (x : Nt) : register_may.f x.f0 x.f1 x.f2 x.f3 = some (okN x) := by
  unfold register_may.f okN
  by_cases h : x.f0.toList = []
  · simp [h]
  · have hb : (x.f0.toList == ([] : List UInt8)) = false := beq_eq_false_iff_ne.2 h
    rw [if_neg h, hb, Bool.not_false, Bool.true_and]
    by_cases h1 : (x.f0.size : Int) ≤ 32 <;> by_cases h2 : x.f1 ≥ 1 <;> by_cases h3 : x.f1 ≤ 1099511627776 <;> by_cases h4 : x.f2 ≥ 1 <;> by_cases h5 : x.f2 ≤ 5 <;> simp only [if_pos, if_neg, h1, h2, h3, h4, h5, decide_true, decide_false, Bool.true_and, Bool.false_and, not_false_eq_true]
theorem later_is (x y : Nt) : register_Later.f x.f0 x.f1 x.f2 x.f3 y.f0 y.f1 y.f2 y.f3 = some (ltrN x y) := by
  unfold register_Later.f ltrN blt
  by_cases h : x.f1 = y.f1
  · rw [if_pos h, if_pos h]
    by_cases h2 : x.f2 = y.f2
    · rw [if_pos h2, if_pos h2]
    · rw [if_neg h2, if_neg h2]
  · rw [if_neg h, if_neg h]

theorem rd_drop (l : List Nt) (i : Nat) (h : i < l.length) : l.drop i = rd_T24 l (i : Int) :: l.drop (i + 1) := by
  rw [← List.getElem_cons_drop (h := h)]
  congr 1
  unfold rd_T24
  simp [List.getD, h]
def prevK (l : List Nt) (i : Nat) : Option ByteArray := if i = 0 then none else some (rd_T24 l ((i - 1 : Nat) : Int)).f0
theorem prevK_succ (l : List Nt) (i : Nat) : prevK l (i + 1) = some (rd_T24 l (i : Int)).f0 := by
  unfold prevK
  rw [if_neg (by omega), Nat.add_sub_cancel]
theorem check_from (l : List Nt) (hl : l.length ≤ 4000) : ∀ (n pos : Nat), pos + n = l.length → Ev (fun k => register_Check.l0 k l l (l.length : Int) (pos : Int)) (if chkR (prevK l pos) (l.drop pos) = true then 0 else 1) := by
  intro n
  induction n with
  | zero =>
    intro pos hp
    refine Ev.succ ?_
    simp only [register_Check.l0]
    refine Ev.no (by omega) (Ev.is ?_)
    rw [List.drop_eq_nil_of_le (by omega)]
    rfl
  | succ n ih =>
    intro pos hp
    refine Ev.succ ?_
    simp only [register_Check.l0]
    refine Ev.yes (by omega) (Ev.yes (by omega) (Ev.yes (by omega) ?_))
    refine Ev.bind1 (may_is _) ?_
    rw [rd_drop l pos (by omega), chkR_cons]
    cases hm : okN (rd_T24 l (pos : Int)) with
    | false => exact Ev.no (by simp) (Ev.is (by simp))
    | true =>
      refine Ev.yes rfl ?_
      have ih' := ih (pos + 1) (by omega)
      rw [prevK_succ] at ih'
      rw [wrap_up pos (by omega)]
      by_cases h0 : pos = 0
      · subst h0
        refine Ev.no (by omega) ?_
        simpa [prevK, aheadK] using ih'
      · refine Ev.yes (by omega) ?_
        rw [wrap_dn pos (by omega) (by omega)]
        refine Ev.yes (by omega) (Ev.yes (by omega) ?_)
        have hp : prevK l pos = some (rd_T24 l ((pos - 1 : Nat) : Int)).f0 := by unfold prevK; rw [if_neg h0]
        rw [hp]
        simp only [Bool.true_and, aheadK]
        cases hb : blt (rd_T24 l ((pos - 1 : Nat) : Int)).f0 (rd_T24 l (pos : Int)).f0 with
        | false => exact Ev.no (by unfold blt at hb; rw [hb]; simp) (Ev.is (by simp))
        | true =>
          refine Ev.yes hb ?_
          simpa using ih'
theorem check_is (l : List Nt) : Ev (fun k => register_Check.f k l) (if chkN l = true then 0 else 1) := by
  unfold register_Check.f chkN
  by_cases hl : (l.length : Int) > 4000
  · refine Ev.yes hl (Ev.is ?_)
    rw [decide_eq_false (by omega), Bool.false_and]; simp
  · refine Ev.no hl ?_
    rw [decide_eq_true (by omega), Bool.true_and]
    have := check_from l (by omega) l.length 0 (by omega)
    simpa [prevK] using this
theorem chkR_all {p : Option ByteArray} {l : List Nt} (h : chkR p l = true) : ∀ x ∈ l, okN x = true := by
  induction l generalizing p with
  | nil => intro x hx; cases hx
  | cons a l ih =>
    simp only [chkR, Bool.and_eq_true] at h
    intro x hx
    rcases List.mem_cons.1 hx with rfl | hx
    · exact h.1
    · exact ih h.2.2 x hx
theorem chkR_ord {p : Option ByteArray} {l : List Nt} (h : chkR p l = true) : OrdK (ksNote l) ∧ ∀ k, p = some k → ∀ x ∈ l, blt k x.f0 = true := by
  induction l generalizing p with
  | nil => exact ⟨List.Pairwise.nil, fun _ _ x hx => by cases hx⟩
  | cons a l ih =>
    simp only [chkR, Bool.and_eq_true] at h
    obtain ⟨h1, h2⟩ := ih h.2.2
    have h3 := h2 _ rfl
    refine ⟨List.Pairwise.cons (fun k hk => ?_) h1, fun k hk x hx => ?_⟩
    · obtain ⟨y, hy, rfl⟩ := List.mem_map.1 hk
      exact h3 y hy
    · subst hk
      have h4 := h.2.1
      rcases List.mem_cons.1 hx with rfl | hx
      · exact h4
      · exact blt_trans h4 (h3 x hx)
theorem chkR_of {l : List Nt} (p : Option ByteArray) (ha : ∀ x ∈ l, okN x = true) (ho : OrdK (ksNote l)) (hp : ∀ k, p = some k → ∀ x ∈ l, blt k x.f0 = true) : chkR p l = true := by
  induction l generalizing p with
  | nil => rfl
  | cons a l ih =>
    have ho' := List.pairwise_cons.1 ho
    simp only [chkR, Bool.and_eq_true]
    refine ⟨ha a (List.mem_cons_self ..), ?_, ih _ (fun x hx => ha x (List.mem_cons_of_mem _ hx)) ho'.2 ?_⟩
    · cases p with
      | none => rfl
      | some k => exact hp k rfl a (List.mem_cons_self ..)
    · rintro k hk x hx
      injection hk with hk
      subst hk
      exact ho'.1 _ (List.mem_map.2 ⟨x, hx, rfl⟩)
theorem chkN_iff (l : List Nt) : chkN l = true ↔ l.length ≤ 4000 ∧ (∀ x ∈ l, okN x = true) ∧ OrdK (ksNote l) := by
  unfold chkN
  rw [Bool.and_eq_true, decide_eq_true_eq]
  exact ⟨fun h => ⟨h.1, chkR_all h.2, (chkR_ord h.2).1⟩, fun h => ⟨h.1, chkR_of none h.2.1 h.2.2 (fun k hk => by cases hk)⟩⟩

/-- What Set makes. -/
def setN (l : List Nt) (n : Nt) : List Nt × Int :=
  if hasNote l n.f0 = true then (if ltrN n (rd_T24 l (posK (ksNote l) n.f0 : Int)) = true then (l.set (posK (ksNote l) n.f0) n, 0) else (l, 0))
  else if l.length = 4000 then ([], 6) else (l.take (posK (ksNote l) n.f0) ++ n :: l.drop (posK (ksNote l) n.f0), 0)
def register_Set.f (l0 : List Nt) (a1_0 : ByteArray) (a1_1 : Int) (a1_2 : Int) (a1_3 : ByteArray) : Option (List Nt × Int) :=
  if (chkN l0 && okN ⟨a1_0, a1_1, a1_2, a1_3⟩) = true then some (setN l0 ⟨a1_0, a1_1, a1_2, a1_3⟩) else some ([], 1)
end Go.Proofs.Ytfnpiclioikjpaa.X

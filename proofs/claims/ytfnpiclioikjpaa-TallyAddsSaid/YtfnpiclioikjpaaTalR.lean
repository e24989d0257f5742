/- Tallies: the reference's answers. -/
import Derived.Test.YtfnpiclioikjpaaTalL
import Derived.Test.YtfnpiclioikjpaaXtallyAll
import Derived.Test.YtfnpiclioikjpaaXhucksterref10May
import Derived.Test.YtfnpiclioikjpaaXhucksterref10Get
import Derived.Test.YtfnpiclioikjpaaXhucksterref10Set
import Derived.Test.YtfnpiclioikjpaaXhucksterref10Same
set_option linter.unusedSimpArgs false
set_option linter.unusedVariables false
namespace Go.Proofs.Ytfnpiclioikjpaa.X
open Go.RowKit Go.Proofs.YtfnpiclioikjpaaW.PrintWords Go.Proofs.YtfnpiclioikjpaaW.PrintLast Go.Proofs.YtfnpiclioikjpaaW.PrintMore

/-- The row in which a key has a number. -/
def setV (a : List Ct) (key : ByteArray) (v : Int) : List Ct :=
  if v = 0 then (if hasCell a key = true then a.take (posK (ksCell a) key) ++ a.drop (posK (ksCell a) key + 1) else a)
  else a.take (posK (ksCell a) key) ++ ⟨key, v⟩ :: (if hasCell a key = true then a.drop (posK (ksCell a) key + 1) else a.drop (posK (ksCell a) key))
theorem put_setV {a : List Ct} (ho : OrdK (ksCell a)) {key : ByteArray} {n v : Int} (hv : Has a key v) (hs : -9223372036854775808 ≤ v + n ∧ v + n ≤ 9223372036854775807) (hz : ∀ x ∈ a, x.f1 ≠ 0) : putC a key n = setV a key (v + n) := by
  unfold putC setV
  cases hh : hasCell a key with
  | true =>
    obtain ⟨hp, hk⟩ := has_yesCell hh
    rw [rd_getCell a _ hp]
    simp only [if_true]
    generalize posK (ksCell a) key = p at *
    have hpv : a[p].f1 = v := Has.one ho (.inl ⟨_, List.getElem_mem hp, hk, rfl⟩) hv
    have hnz := hz _ (List.getElem_mem hp)
    rw [hpv] at hnz
    have hsplit : a = a.take p ++ a[p] :: a.drop (p + 1) := by rw [List.getElem_cons_drop, List.take_append_drop]
    by_cases hn : n = 0
    · subst hn
      rw [if_pos rfl, if_neg (by omega)]
      conv => lhs; rw [hsplit]
      congr 2
      have e : a[p] = ⟨key, v⟩ := by
        generalize a[p] = x at *
        cases x
        simp only at hk hpv
        rw [hk, hpv]
      rw [e, Int.add_zero]
    · rw [if_neg hn, hpv]
      by_cases h0 : v = -n
      · rw [if_pos h0, if_pos (by omega)]
      · rw [if_neg h0, if_neg (by omega), List.set_eq_take_append_cons_drop, if_pos hp, wrapId hs.1 hs.2, hk]
  | false =>
    have hno := has_noCell ho hh
    have hv0 : v = 0 := by
      rcases hv with ⟨y, hy, hk, _⟩ | ⟨h, _⟩
      · exact absurd hk (hno y hy)
      · exact h
    subst hv0
    rw [if_neg (show ¬ (false = true) by decide), if_neg (show ¬ (false = true) by decide), if_neg (show ¬ (false = true) by decide), Int.zero_add]

def mayT : Option ByteArray → List Ct → Bool
  | _, [] => true
  | p, x :: l => !(x.f0.toList == ([] : List UInt8)) && (okC x && ((match p with | none => true | some k => blt k x.f0) && mayT (some x.f0) l))
theorem mayT_cons (p : Option ByteArray) (x : Ct) (l : List Ct) : mayT p (x :: l) = (!(x.f0.toList == ([] : List UInt8)) && (okC x && ((match p with | none => true | some k => blt k x.f0) && mayT (some x.f0) l))) := by cases p <;> rfl
def prevC (l : List Ct) (i : Nat) : Option ByteArray := if i = 0 then none else some (rd_T47 l ((i - 1 : Nat) : Int)).f0
theorem mayC_from (l : List Ct) (hl : l.length ≤ 4000) : ∀ (n pos : Nat), pos + n = l.length → Ev (fun k => hucksterref10_May.l0 k l (pos : Int)) (mayT (prevC l pos) (l.drop pos)) := by
  intro n
  induction n with
  | zero =>
    intro pos hp
    refine Ev.succ ?_
    simp only [hucksterref10_May.l0]
    refine Ev.no (by omega) (Ev.is ?_)
    rw [List.drop_eq_nil_of_le (by omega)]
    simp [mayT]
    omega
  | succ n ih =>
    intro pos hp
    have hps : prevC l (pos + 1) = some (rd_T47 l (pos : Int)).f0 := by
      unfold prevC
      rw [if_neg (by omega), Nat.add_sub_cancel]
    have ih' := ih (pos + 1) (by omega)
    rw [hps] at ih'
    refine Ev.succ ?_
    simp only [hucksterref10_May.l0]
    refine Ev.yes (by omega) (Ev.yes (by omega) ?_)
    have hc : mayT (prevC l pos) (l.drop pos) = (!((rd_T47 l (pos : Int)).f0.toList == ([] : List UInt8)) && (okC (rd_T47 l (pos : Int)) && ((match prevC l pos with | none => true | some k => blt k (rd_T47 l (pos : Int)).f0) && mayT (some (rd_T47 l (pos : Int)).f0) (l.drop (pos + 1))))) := by
      rw [rdC_drop l pos (by omega), mayT_cons]
    rw [hc]
    unfold okC numOk
    by_cases h0 : (rd_T47 l (pos : Int)).f0.toList = []
    · exact Ev.yes h0 (Ev.is (by rw [h0]; rfl))
    · refine Ev.no h0 ?_
      rw [beq_eq_false_iff_ne.2 h0]
      by_cases h1 : ((rd_T47 l (pos : Int)).f0.size : Int) > 32
      · exact Ev.yes h1 (Ev.is (by rw [decide_eq_false (by omega)]; rfl))
      · refine Ev.no h1 ?_
        rw [decide_eq_true (show ((rd_T47 l (pos : Int)).f0.size : Int) ≤ 32 by omega)]
        by_cases h2 : (rd_T47 l (pos : Int)).f1 = 0
        · exact Ev.yes h2 (Ev.is (by rw [h2]; rfl))
        · refine Ev.no h2 ?_
          rw [beq_eq_false_iff_ne.2 h2]
          by_cases h3 : (rd_T47 l (pos : Int)).f1 > 1099511627776
          · exact Ev.yes h3 (Ev.is (by rw [decide_eq_false (by omega)]; rfl))
          · refine Ev.no h3 ?_
            rw [decide_eq_true (show (rd_T47 l (pos : Int)).f1 ≤ 1099511627776 by omega)]
            by_cases h4 : (rd_T47 l (pos : Int)).f1 < -1099511627776
            · exact Ev.yes h4 (Ev.is (by rw [decide_eq_false (by omega)]; rfl))
            · refine Ev.no h4 ?_
              rw [decide_eq_true (show -1099511627776 ≤ (rd_T47 l (pos : Int)).f1 by omega), wrap_up pos (by omega)]
              simp only [Bool.not_false, Bool.true_and]
              by_cases hp0 : pos = 0
              · subst hp0
                refine Ev.no (by omega) ?_
                simpa [prevC] using ih'
              · refine Ev.yes (by omega) ?_
                rw [wrap_dn pos (by omega) (by omega)]
                refine Ev.yes (by omega) (Ev.yes (by omega) ?_)
                have hpv : prevC l pos = some (rd_T47 l ((pos - 1 : Nat) : Int)).f0 := by unfold prevC; rw [if_neg hp0]
                rw [hpv]
                rcases Bool.eq_false_or_eq_true (blt (rd_T47 l ((pos - 1 : Nat) : Int)).f0 (rd_T47 l (pos : Int)).f0) with hb | hb
                · refine Ev.yes hb ?_
                  simp only [hb, Bool.true_and]
                  exact ih'
                · refine Ev.no (by unfold blt at hb; rw [hb]; simp) (Ev.is ?_)
                  simp only [hb, Bool.false_and]
theorem mayT_ord {p : Option ByteArray} {l : List Ct} (h : mayT p l = true) : (∀ x ∈ l, okC x = true ∧ x.f0.toList ≠ []) ∧ OrdK (ksCell l) ∧ ∀ k, p = some k → ∀ x ∈ l, blt k x.f0 = true := by
  induction l generalizing p with
  | nil => exact ⟨(fun x hx => by cases hx), List.Pairwise.nil, (fun _ _ x hx => by cases hx)⟩
  | cons a l ih =>
    rw [mayT_cons] at h
    simp only [Bool.and_eq_true, Bool.not_eq_true', beq_eq_false_iff_ne] at h
    obtain ⟨h1, h2, h3⟩ := ih h.2.2.2
    have h4 := h3 _ rfl
    refine ⟨fun x hx => ?_, List.Pairwise.cons (fun k hk => ?_) h2, fun k hk x hx => ?_⟩
    · rcases List.mem_cons.1 hx with rfl | hx
      · exact ⟨h.2.1, h.1⟩
      · exact h1 x hx
    · obtain ⟨y, hy, rfl⟩ := List.mem_map.1 hk
      exact h4 y hy
    · subst hk
      have h5 := h.2.2.1
      rcases List.mem_cons.1 hx with rfl | hx
      · exact h5
      · exact blt_trans h5 (h4 x hx)
theorem mayT_of {l : List Ct} (p : Option ByteArray) (ha : ∀ x ∈ l, okC x = true ∧ x.f0.toList ≠ []) (ho : OrdK (ksCell l)) (hp : ∀ k, p = some k → ∀ x ∈ l, blt k x.f0 = true) : mayT p l = true := by
  induction l generalizing p with
  | nil => rfl
  | cons a l ih =>
    have ho' := List.pairwise_cons.1 ho
    have h1 := ha a (List.mem_cons_self ..)
    rw [mayT_cons]
    simp only [Bool.and_eq_true, Bool.not_eq_true', beq_eq_false_iff_ne]
    refine ⟨h1.2, h1.1, ?_, ih _ (fun x hx => ha x (List.mem_cons_of_mem _ hx)) ho'.2 ?_⟩
    · cases p with
      | none => rfl
      | some k => exact hp k rfl a (List.mem_cons_self ..)
    · rintro k hk x hx
      injection hk with hk
      subst hk
      exact ho'.1 _ (List.mem_map.2 ⟨x, hx, rfl⟩)
theorem mayC_is (l : List Ct) (hl : l.length ≤ 4000) : Ev (fun k => hucksterref10_May.f k l) (chkC l) := by
  have h := mayC_from l hl l.length 0 (by omega)
  have e : mayT (prevC l 0) (l.drop 0) = chkC l := by
    rw [Bool.eq_iff_iff, chkC_iff, List.drop_zero]
    exact ⟨fun h => ⟨hl, (mayT_ord h).1, (mayT_ord h).2.1⟩, fun h => mayT_of _ h.2.1 h.2.2 (fun k hk => by cases hk)⟩
  rw [e] at h
  exact h
theorem getC_from (l : List Ct) (hl : l.length ≤ 4000) (ho : OrdK (ksCell l)) (key : ByteArray) (v : Int) (hv : Has l key v) : ∀ (n pos : Nat), pos + n = l.length → (∀ x ∈ l.take pos, x.f0 ≠ key) → Ev (fun k => hucksterref10_Get.l0 k l key (pos : Int)) v := by
  intro n
  induction n with
  | zero =>
    intro pos hp hno
    refine Ev.succ ?_
    simp only [hucksterref10_Get.l0]
    refine Ev.no (by omega) (Ev.is ?_)
    rw [List.take_of_length_le (by omega)] at hno
    rcases hv with ⟨x, hx, hk, _⟩ | ⟨h, _⟩
    · exact absurd hk (hno x hx)
    · exact h.symm
  | succ n ih =>
    intro pos hp hno
    refine Ev.succ ?_
    simp only [hucksterref10_Get.l0]
    have hx := rd_getCell l pos (by omega)
    have hmem : l[pos]'(by omega) ∈ l := List.getElem_mem ..
    refine Ev.yes (by omega) (Ev.yes (by omega) ?_)
    rw [hx, wrap_up pos (by omega)]
    by_cases hk : (l[pos]'(by omega)).f0 = key
    · exact Ev.yes (by rw [hk]) (Ev.is (Has.one ho (.inl ⟨_, hmem, hk, rfl⟩) hv))
    · refine Ev.no (fun e => hk (bytes_eq e)) (ih (pos + 1) (by omega) ?_)
      intro x hx
      rw [← List.take_append_getElem (by omega : pos < l.length)] at hx
      rcases List.mem_append.1 hx with hx | hx
      · exact hno x hx
      · rw [List.mem_singleton.1 hx]; exact hk
theorem getC_is {l : List Ct} (h : chkC l = true) {key : ByteArray} {v : Int} (hv : Has l key v) : Ev (fun k => hucksterref10_Get.f k l key) v := by
  obtain ⟨h1, _, h3⟩ := (chkC_iff l).1 h
  exact getC_from l h1 h3 key v hv l.length 0 (by omega) (by simp)
theorem sameC_from (a : List Ct) (hl : a.length ≤ 1000000) : ∀ (n pos : Nat), pos + n = a.length → Ev (fun k => hucksterref10_Same.l0 k a a (pos : Int)) true := by
  intro n
  induction n with
  | zero =>
    intro pos hp
    refine Ev.succ ?_
    simp only [hucksterref10_Same.l0]
    exact Ev.no (by omega) (Ev.now _)
  | succ n ih =>
    intro pos hp
    refine Ev.succ ?_
    simp only [hucksterref10_Same.l0]
    rw [wrap_up pos (by omega)]
    exact Ev.yes (by omega) (Ev.yes (by omega) (Ev.yes (by omega) (Ev.no (by simp) (ih (pos + 1) (by omega)))))
theorem sameC_is (a : List Ct) (hl : a.length ≤ 1000000) : Ev (fun k => hucksterref10_Same.f k a a) true := by
  unfold hucksterref10_Same.f
  exact Ev.yes rfl (sameC_from a hl a.length 0 (by omega))

/-! #### the reference's Set -/
def refL (key : ByteArray) (v : Int) : Bool → List Ct → List Ct
  | d, [] => if d = true then [] else [⟨key, v⟩]
  | d, x :: l => (if (!d && !blt x.f0 key) = true then [⟨key, v⟩] else []) ++ ((if x.f0 = key then [] else [x]) ++ refL key v (d || !blt x.f0 key) l)
theorem setC_from (l : List Ct) (hl : l.length ≤ 4000) (key : ByteArray) (v : Int) : ∀ (n pos : Nat) (out : List Ct) (d : Bool), pos + n = l.length → out.length ≤ 2 * pos → Ev (fun k => hucksterref10_Set.l0 k l key v out d (pos : Int)) (out ++ refL key v d (l.drop pos)) := by
  intro n
  induction n with
  | zero =>
    intro pos out d hp ho
    refine Ev.succ ?_
    simp only [hucksterref10_Set.l0]
    refine Ev.no (by omega) ?_
    rw [List.drop_eq_nil_of_le (by omega)]
    cases d with
    | true => exact Ev.yes rfl (Ev.is (by simp [refL]))
    | false => exact Ev.no (by decide) (Ev.yes (by omega) (Ev.is (by simp [refL])))
  | succ n ih =>
    intro pos out d hp ho
    have hx := rd_getCell l pos (by omega)
    have hd : l.drop pos = l[pos]'(by omega) :: l.drop (pos + 1) := (List.getElem_cons_drop ..).symm
    have ew : wrap64 ((pos : Int) + 1) = ((pos + 1 : Nat) : Int) := wrap_up pos (by omega)
    have tail : ∀ (out : List Ct) (d : Bool), out.length ≤ 2 * pos + 1 → Ev (fun k => hucksterref10_Set.j1 k l key v out d (pos : Int) false) (out ++ ((if (l[pos]'(by omega)).f0 = key then [] else [l[pos]'(by omega)]) ++ refL key v d (l.drop (pos + 1)))) := by
      intro out d ho
      refine Ev.succ ?_
      simp only [hucksterref10_Set.j1]
      refine Ev.no (by decide) (Ev.yes (by omega) (Ev.yes (by omega) ?_))
      simp only [hx, ew]
      by_cases hk : (l[pos]'(by omega)).f0 = key
      · refine Ev.yes (by rw [hk]) ?_
        rw [if_pos hk, List.nil_append]
        exact ih (pos + 1) out d (by omega) (by omega)
      · refine Ev.no (fun e => hk (bytes_eq e)) (Ev.yes (by omega) ?_)
        rw [if_neg hk, ← List.append_assoc]
        exact ih (pos + 1) _ d (by omega) (by simp; omega)
    refine Ev.succ ?_
    simp only [hucksterref10_Set.l0]
    refine Ev.yes (by omega) ?_
    rw [hd, refL]
    cases d with
    | true =>
      refine Ev.yes rfl ?_
      simp only [Bool.not_true, Bool.false_and, Bool.true_or]
      rw [if_neg (by decide), List.nil_append]
      exact tail out true (by omega)
    | false =>
      refine Ev.no (by decide) (Ev.yes (by omega) ?_)
      simp only [hx]
      have hbl : Op.bytesLess (l[pos]'(by omega)).f0.toList key.toList = blt (l[pos]'(by omega)).f0 key := rfl
      rw [hbl]
      cases hb : blt (l[pos]'(by omega)).f0 key with
      | true =>
        simp only [Bool.not_true, Bool.and_false, Bool.or_false]
        rw [if_neg (by decide), List.nil_append]
        exact tail out false (by omega)
      | false =>
        simp only [Bool.not_false, Bool.and_true, Bool.or_true, if_true]
        refine Ev.succ ?_
        simp only [hucksterref10_Set.j1]
        refine Ev.yes (by simp) (Ev.yes (by omega) (Ev.bind1 rfl (Ev.yes (by omega) (Ev.yes (by omega) ?_))))
        simp only [hx, ew]
        have ho2 : (out ++ [(⟨key, v⟩ : Ct)]).length ≤ 2 * pos + 1 := by simp; omega
        rw [← List.append_assoc]
        by_cases hk : (l[pos]'(by omega)).f0 = key
        · refine Ev.yes (by rw [hk]) ?_
          rw [if_pos hk, List.nil_append]
          exact ih (pos + 1) _ true (by omega) (by omega)
        · refine Ev.no (fun e => hk (bytes_eq e)) (Ev.yes (by omega) ?_)
          rw [if_neg hk, ← List.append_assoc]
          exact ih (pos + 1) _ true (by omega) (by rw [List.length_append]; simp; simp at ho2; omega)
theorem refL_done (key : ByteArray) (v : Int) (l : List Ct) : refL key v true l = l.filter (fun x => !decide (x.f0 = key)) := by
  induction l with
  | nil => rfl
  | cons x l ih =>
    simp only [refL, Bool.not_true, Bool.false_and, Bool.true_or, ih, List.filter_cons]
    by_cases hk : x.f0 = key <;> simp [hk]
theorem refL_app (key : ByteArray) (v : Int) (l m : List Ct) (h : ∀ x ∈ l, blt x.f0 key = true) : refL key v false (l ++ m) = l ++ refL key v false m := by
  induction l with
  | nil => rfl
  | cons x l ih =>
    have h1 := h x (List.mem_cons_self ..)
    have hne : x.f0 ≠ key := by rintro e; rw [e, blt_irrefl] at h1; cases h1
    simp only [List.cons_append, refL, h1, Bool.not_true, Bool.and_false, Bool.or_false]
    rw [ih (fun y hy => h y (List.mem_cons_of_mem _ hy)), if_neg hne]
    rfl
theorem filter_id {l : List Ct} {key : ByteArray} (h : ∀ x ∈ l, x.f0 ≠ key) : l.filter (fun x => !decide (x.f0 = key)) = l := by
  rw [List.filter_eq_self]
  intro x hx
  simp [h x hx]
theorem refL_is {a : List Ct} (ho : OrdK (ksCell a)) (key : ByteArray) (v : Int) : refL key v (v == 0) a = setV a key v := by
  unfold setV
  have hb := before_posCell a key
  have hf := after_posCell ho key
  have hbne : ∀ x ∈ a.take (posK (ksCell a) key), x.f0 ≠ key := by
    intro x hx e
    have := hb x hx
    rw [e, blt_irrefl] at this
    cases this
  cases hh : hasCell a key with
  | true =>
    obtain ⟨hp, hk⟩ := has_yesCell hh
    generalize posK (ksCell a) key = p at *
    have hsplit : a = a.take p ++ a[p] :: a.drop (p + 1) := by rw [List.getElem_cons_drop, List.take_append_drop]
    have hane : ∀ x ∈ a.drop (p + 1), x.f0 ≠ key := by
      intro x h e
      obtain ⟨j, hj, rfl⟩ := List.mem_iff_getElem.1 h
      rw [List.length_drop] at hj
      rw [List.getElem_drop] at e
      have h2 := ordK_get ho p (p + 1 + j) (by omega) (by rw [ks_lenCell]; omega)
      simp only [ksCell, List.getElem_map] at h2
      rw [hk, e, blt_irrefl] at h2
      cases h2
    simp only [if_true]
    by_cases h0 : v = 0
    · subst h0
      rw [if_pos rfl]
      simp only [beq_self_eq_true]
      rw [refL_done]
      conv => lhs; rw [hsplit]
      rw [List.filter_append, filter_id hbne, List.filter_cons, filter_id hane, hk]
      simp
    · rw [if_neg h0, beq_eq_false_iff_ne.2 h0]
      conv => lhs; rw [hsplit]
      rw [refL_app _ _ _ _ hb]
      congr 1
      have h1 : blt a[p].f0 key = false := by rw [hk, blt_irrefl]
      simp only [refL, h1, Bool.not_false, Bool.and_true, Bool.or_true, if_true]
      rw [refL_done, filter_id hane, if_pos hk]
      rfl
  | false =>
    have hno := has_noCell ho hh
    by_cases h0 : v = 0
    · subst h0
      rw [if_pos rfl, if_neg (by decide)]
      simp only [beq_self_eq_true]
      rw [refL_done, filter_id hno]
    · rw [if_neg h0, beq_eq_false_iff_ne.2 h0, if_neg (by decide)]
      generalize posK (ksCell a) key = p at *
      conv => lhs; rw [← List.take_append_drop p a]
      rw [refL_app _ _ _ _ hb]
      congr 1
      have hdn : ∀ x ∈ a.drop p, x.f0 ≠ key := fun x hx => hno x (List.mem_of_mem_drop hx)
      cases hd : a.drop p with
      | nil => simp [refL]
      | cons x m =>
        rw [hd] at hf hdn
        have h1 := hf x (List.mem_cons_self ..)
        have h2 := hdn x (List.mem_cons_self ..)
        simp only [refL, h1, Bool.not_false, Bool.and_true, Bool.or_true, if_true]
        rw [refL_done, filter_id (fun y hy => hdn y (List.mem_cons_of_mem _ hy)), if_neg h2]
        rfl
theorem setC_is {l : List Ct} (h : chkC l = true) (key : ByteArray) (v : Int) : Ev (fun k => hucksterref10_Set.f k l key v) (setV l key v) := by
  obtain ⟨h1, _, h3⟩ := (chkC_iff l).1 h
  unfold hucksterref10_Set.f
  have := setC_from l h1 key v l.length 0 [] (v == 0) (by omega) (by simp)
  rw [List.nil_append, List.drop_zero, refL_is h3] at this
  exact this
end Go.Proofs.Ytfnpiclioikjpaa.X

/- The law RegisterJoins: two registers together; an array of two notes; the walk. -/
import Derived.Test.YtfnpiclioikjpaaERefSet
import Derived.Test.YtfnpiclioikjpaaRegL
import Derived.Test.YtfnpiclioikjpaaXhucksterref12May
import Derived.Test.YtfnpiclioikjpaaXregisterJoin
import Derived.Test.YtfnpiclioikjpaaXregisterSame
import Derived.Test.YtfnpiclioikjpaaOpenNote
import Derived.OpenShut
set_option linter.unusedSimpArgs false
set_option linter.unusedVariables false
namespace Go.Proofs.Ytfnpiclioikjpaa.X
section
open Go.RowKit Go.Proofs.YtfnpiclioikjpaaW.PrintWords Go.Proofs.YtfnpiclioikjpaaW.PrintLast Go.Proofs.YtfnpiclioikjpaaW.PrintMore

theorem refR_done (n : Nt) (l : List Nt) : refR n true l = l.filter (fun x => !decide (x.f0 = n.f0)) := by
  induction l with
  | nil => rfl
  | cons x l ih =>
    simp only [refR, Bool.not_true, Bool.false_and, Bool.true_or, ih, List.filter_cons]
    by_cases hk : x.f0 = n.f0 <;> simp [hk]
theorem refR_app (n : Nt) (l m : List Nt) (h : ∀ x ∈ l, blt x.f0 n.f0 = true) : refR n false (l ++ m) = l ++ refR n false m := by
  induction l with
  | nil => rfl
  | cons x l ih =>
    have h1 := h x (List.mem_cons_self ..)
    have hne : x.f0 ≠ n.f0 := by rintro e; rw [e, blt_irrefl] at h1; cases h1
    simp only [List.cons_append, refR, h1, Bool.not_true, Bool.and_false, Bool.or_false]
    rw [ih (fun y hy => h y (List.mem_cons_of_mem _ hy)), if_neg hne]
    rfl
theorem filterN_id {l : List Nt} {key : ByteArray} (h : ∀ x ∈ l, x.f0 ≠ key) : l.filter (fun x => !decide (x.f0 = key)) = l := by
  rw [List.filter_eq_self]
  intro x hx
  simp [h x hx]
/-- A key's note; without a key: there is none. -/
def getN (l : List Nt) (key : ByteArray) : Nt := if hasNote l key = true then rd_T24 l (posK (ksNote l) key : Int) else ⟨⟨#[]⟩, 0, 0, ⟨#[]⟩⟩
theorem okN_key {x : Nt} (h : okN x = true) : (x.f0.toList == ([] : List UInt8)) = false := by
  unfold okN at h
  simp only [Bool.and_eq_true, Bool.not_eq_true'] at h
  exact h.1
theorem setN_ref {l : List Nt} (hc : chkN l = true) (n : Nt) (hl : l.length < 4000) : setN l n = ((if (!((getN l n.f0).f0.toList == ([] : List UInt8)) && !ltrN n (getN l n.f0)) = true then l else refR n false l), 0) := by
  obtain ⟨_, hok, ho⟩ := (chkN_iff l).1 hc
  unfold setN getN
  have hb := before_pos l n.f0
  have hf := after_pos ho n.f0
  cases hh : hasNote l n.f0 with
  | true =>
    obtain ⟨hp, hk⟩ := has_yes hh
    simp only [if_true]
    rw [rd_get l _ hp]
    generalize posK (ksNote l) n.f0 = p at *
    rw [okN_key (hok _ (List.getElem_mem hp)), Bool.not_false, Bool.true_and]
    cases hlt : ltrN n l[p] with
    | false => simp
    | true =>
      simp only [Bool.not_true, if_true, Bool.false_eq_true, if_false]
      have hsplit : l = l.take p ++ l[p] :: l.drop (p + 1) := by rw [List.getElem_cons_drop, List.take_append_drop]
      have hane : ∀ x ∈ l.drop (p + 1), x.f0 ≠ n.f0 := by
        intro x h e
        obtain ⟨j, hj, rfl⟩ := List.mem_iff_getElem.1 h
        rw [List.length_drop] at hj
        rw [List.getElem_drop] at e
        have h2 := ordK_get ho p (p + 1 + j) (by omega) (by rw [ks_len]; omega)
        simp only [ksNote, List.getElem_map] at h2
        rw [hk, e, blt_irrefl] at h2
        cases h2
      have h1 : blt l[p].f0 n.f0 = false := by rw [hk, blt_irrefl]
      have e : refR n false l = l.take p ++ n :: l.drop (p + 1) := by
        conv => lhs; rw [hsplit]
        rw [refR_app _ _ _ hb]
        congr 1
        simp only [refR, h1, Bool.not_false, Bool.and_true, Bool.or_true, if_true]
        rw [refR_done, filterN_id hane, if_pos hk]
        rfl
      rw [e, List.set_eq_take_append_cons_drop, if_pos hp]
  | false =>
    have hno := has_no ho hh
    simp only [Bool.false_eq_true, if_false]
    rw [if_neg (by omega)]
    have e : ((⟨#[]⟩ : ByteArray).toList == ([] : List UInt8)) = true := by rw [ByteArray.toList_eq]; rfl
    rw [e]
    simp only [Bool.not_true, Bool.false_and, Bool.false_eq_true, if_false]
    generalize posK (ksNote l) n.f0 = p at *
    have e : refR n false l = l.take p ++ n :: l.drop p := by
      conv => lhs; rw [← List.take_append_drop p l]
      rw [refR_app _ _ _ hb]
      congr 1
      have hdn : ∀ x ∈ l.drop p, x.f0 ≠ n.f0 := fun x hx => hno x (List.mem_of_mem_drop hx)
      cases hd : l.drop p with
      | nil => simp [refR]
      | cons x m =>
        rw [hd] at hf hdn
        have h1 := hf x (List.mem_cons_self ..)
        have h2 := hdn x (List.mem_cons_self ..)
        simp only [refR, h1, Bool.not_false, Bool.and_true, Bool.or_true, if_true]
        rw [refR_done, filterN_id (fun y hy => hdn y (List.mem_cons_of_mem _ hy)), if_neg h2]
        rfl
    rw [e]
theorem refGet_from (l : List Nt) (hl : l.length ≤ 4000) (ho : OrdK (ksNote l)) (key : ByteArray) : ∀ (n pos : Nat), pos + n = l.length → (∀ x ∈ l.take pos, x.f0 ≠ key) → Ev (fun k => hucksterref12_Get.l0 k l key (pos : Int)) ((getN l key).f0, (getN l key).f1, (getN l key).f2, (getN l key).f3) := by
  intro n
  induction n with
  | zero =>
    intro pos hp hno
    refine Ev.succ ?_
    simp only [hucksterref12_Get.l0]
    refine Ev.no (by omega) (Ev.is ?_)
    rw [List.take_of_length_le (by omega)] at hno
    have hh : hasNote l key = false := by
      cases h : hasNote l key with
      | false => rfl
      | true =>
        obtain ⟨hp, hk⟩ := has_yes h
        exact absurd hk (hno _ (List.getElem_mem hp))
    unfold getN
    rw [hh]
    rfl
  | succ n ih =>
    intro pos hp hno
    refine Ev.succ ?_
    simp only [hucksterref12_Get.l0]
    have hx := rd_get l pos (by omega)
    have hmem : l[pos]'(by omega) ∈ l := List.getElem_mem ..
    refine Ev.yes (by omega) (Ev.yes (by omega) ?_)
    simp only [hx, wrap_up pos (show (pos : Int) < 9223372036854775807 by omega)]
    by_cases hk : (l[pos]'(by omega)).f0 = key
    · refine Ev.yes (by rw [hk]) (Ev.is ?_)
      cases h : hasNote l key with
      | false => exact absurd hk (has_no ho h _ hmem)
      | true =>
        obtain ⟨hp, hk2⟩ := has_yes h
        have e : getN l key = l[pos]'(by omega) := by
          unfold getN
          rw [h, if_pos rfl, rd_get l _ hp]
          exact key_one ho (List.getElem_mem hp) hmem (hk2.trans hk.symm)
        rw [e]
    · refine Ev.no (fun e => hk (bytes_eq e)) (ih (pos + 1) (by omega) ?_)
      intro x hx
      rw [← List.take_append_getElem (by omega : pos < l.length)] at hx
      rcases List.mem_append.1 hx with hx | hx
      · exact hno x hx
      · rw [List.mem_singleton.1 hx]; exact hk
theorem refGet_is {l : List Nt} (hc : chkN l = true) (key : ByteArray) : Ev (fun k => hucksterref12_Get.f k l key) ((getN l key).f0, (getN l key).f1, (getN l key).f2, (getN l key).f3) := by
  obtain ⟨h1, _, h3⟩ := (chkN_iff l).1 hc
  exact refGet_from l h1 h3 key l.length 0 (by omega) (by simp)
theorem may_from (l : List Nt) (hl : l.length ≤ 4000) : ∀ (n pos : Nat), pos + n = l.length → Ev (fun k => hucksterref12_May.l0 k l (pos : Int)) (chkR (prevK l pos) (l.drop pos)) := by
  intro n
  induction n with
  | zero =>
    intro pos hp
    refine Ev.succ ?_
    simp only [hucksterref12_May.l0]
    refine Ev.no (by omega) (Ev.is ?_)
    rw [List.drop_eq_nil_of_le (by omega)]
    simp [chkR]
    omega
  | succ n ih =>
    intro pos hp
    refine Ev.succ ?_
    simp only [hucksterref12_May.l0]
    refine Ev.yes (by omega) (Ev.yes (by omega) ?_)
    refine Ev.bind1 (one_is _) ?_
    rw [rd_drop l pos (by omega), chkR_cons]
    rcases Bool.eq_false_or_eq_true (okN (rd_T24 l (pos : Int))) with hm | hm
    · rw [hm]
      refine Ev.yes rfl ?_
      have ih' := ih (pos + 1) (by omega)
      rw [prevK_succ] at ih'
      rw [wrap_up pos (by omega)]
      by_cases h0 : pos = 0
      · subst h0
        refine Ev.no (by omega) ?_
        simpa [prevK, aheadK] using ih'
      · refine Ev.yes (by omega) ?_
        rw [wrap_dn pos (by omega) (by omega)]
        refine Ev.yes (by omega) (Ev.yes (by omega) ?_)
        have hp : prevK l pos = some (rd_T24 l ((pos - 1 : Nat) : Int)).f0 := by unfold prevK; rw [if_neg h0]
        rw [hp]
        simp only [Bool.true_and, aheadK]
        rcases Bool.eq_false_or_eq_true (blt (rd_T24 l ((pos - 1 : Nat) : Int)).f0 (rd_T24 l (pos : Int)).f0) with hb | hb
        · refine Ev.yes hb ?_
          rw [hb, Bool.true_and]
          exact ih'
        · exact Ev.no (by unfold blt at hb; rw [hb]; simp) (Ev.is (by rw [hb]; rfl))
    · rw [hm]
      exact Ev.no (by simp) (Ev.is (by simp))
theorem mayR_is (l : List Nt) (hl : l.length ≤ 4000) : Ev (fun k => hucksterref12_May.f k l) (chkN l) := by
  have h := may_from l hl l.length 0 (by omega)
  unfold hucksterref12_May.f chkN
  rw [decide_eq_true hl, Bool.true_and]
  simpa [prevK] using h
end
section
open Go.RowKit Go.Proofs.YtfnpiclioikjpaaW.PrintWords Go.Proofs.YtfnpiclioikjpaaW.PrintLast Go.Proofs.YtfnpiclioikjpaaW.PrintMore

theorem Best.self {a : List Nt} (h : chkN a = true) : Best (fun x => x ∈ a) a := by
  obtain ⟨_, h2, h3⟩ := (chkN_iff a).1 h
  refine ⟨h2, h3, fun x hx => ⟨hx, fun y hy e => ?_⟩, fun y hy => ⟨y, hy, rfl⟩⟩
  rw [key_one h3 hy hx e]
  exact ltr_irrefl _
def foldN (a b : List Nt) : List Nt := b.foldl (fun l n => (setN l n).1) a
/-- Behind some of b's notes. -/
theorem fold_best {a b : List Nt} (ha : chkN a = true) (hb : ∀ x ∈ b, okN x = true) (hl : a.length + b.length ≤ 3000) : Best (fun x => x ∈ a ∨ x ∈ b) (foldN a b) ∧ (foldN a b).length ≤ a.length + b.length := by
  have gen : ∀ (b : List Nt) (T : Nt → Prop) (a : List Nt), Best T a → (∀ x ∈ b, okN x = true) → a.length + b.length ≤ 3000 → Best (fun x => T x ∨ x ∈ b) (foldN a b) ∧ (foldN a b).length ≤ a.length + b.length := by
    intro b
    induction b with
    | nil =>
      intro T a h _ _
      exact ⟨h.congr fun x => by simp, by simp [foldN]⟩
    | cons n b ih =>
      intro T a h hok hl
      rw [List.length_cons] at hl
      obtain ⟨a', h1, h2, h3⟩ := h.step n (hok n (List.mem_cons_self ..)) (by omega)
      have e : foldN a (n :: b) = foldN a' b := by simp only [foldN, List.foldl_cons, h1]
      rw [e]
      obtain ⟨h4, h5⟩ := ih _ a' h3 (fun x hx => hok x (List.mem_cons_of_mem _ hx)) (by omega)
      exact ⟨h4.congr fun x => by simp only [List.mem_cons, or_assoc], by rw [List.length_cons]; omega⟩
  exact gen b _ a (Best.self ha) hb hl
theorem fold_comm {a b : List Nt} (ha : chkN a = true) (hb : chkN b = true) (hl : a.length + b.length ≤ 3000) : foldN b a = foldN a b := by
  have h1 := (fold_best ha ((chkN_iff b).1 hb).2.1 hl).1
  have h2 := (fold_best hb ((chkN_iff a).1 ha).2.1 (by omega)).1
  exact h2.one (h1.congr fun x => ⟨fun h => h.symm, fun h => h.symm⟩)
theorem fold_take (a b : List Nt) (pos : Nat) (h : pos < b.length) : foldN a (b.take (pos + 1)) = (setN (foldN a (b.take pos)) b[pos]).1 := by
  have e : b.take (pos + 1) = b.take pos ++ [b[pos]] := by rw [List.take_append_getElem]
  unfold foldN
  rw [e, List.foldl_append]
  rfl
theorem fold_chk {a b : List Nt} (ha : chkN a = true) (hb : chkN b = true) (hl : a.length + b.length ≤ 3000) (pos : Nat) : chkN (foldN a (b.take pos)) = true ∧ (foldN a (b.take pos)).length ≤ 3000 := by
  have hok : ∀ x ∈ b.take pos, okN x = true := fun x hx => ((chkN_iff b).1 hb).2.1 x (List.mem_of_mem_take hx)
  have hlt : (b.take pos).length ≤ b.length := by rw [List.length_take]; omega
  obtain ⟨h1, h2⟩ := fold_best ha hok (by omega)
  exact ⟨h1.chk (by omega), by omega⟩
theorem join_from (a b : List Nt) (ha : chkN a = true) (hb : chkN b = true) (hl : a.length + b.length ≤ 3000) : ∀ (n pos : Nat), pos + n = b.length → Ev (fun k => register_Join.l0 k (foldN a (b.take pos)) b (b.length : Int) (pos : Int)) (foldN a b, 0) := by
  intro n
  induction n with
  | zero =>
    intro pos hp
    refine Ev.succ ?_
    simp only [register_Join.l0]
    refine Ev.no (by omega) (Ev.is ?_)
    rw [List.take_of_length_le (by omega)]
  | succ n ih =>
    intro pos hp
    refine Ev.succ ?_
    simp only [register_Join.l0]
    refine Ev.yes (by omega) (Ev.yes (by omega) (Ev.yes (by omega) ?_))
    have hx := rd_get b pos (by omega)
    have hin : b[pos]'(by omega) ∈ b := List.getElem_mem ..
    obtain ⟨hc, hlen⟩ := fold_chk ha hb hl pos
    have hok := ((chkN_iff b).1 hb).2.1 _ hin
    obtain ⟨a', h1, _, _⟩ := (Best.self hc).step (b[pos]'(by omega)) hok (by omega)
    have hset : register_Set.f (foldN a (b.take pos)) (b[pos]'(by omega)).f0 (b[pos]'(by omega)).f1 (b[pos]'(by omega)).f2 (b[pos]'(by omega)).f3 = some (a', 0) := by
      unfold register_Set.f
      rw [hc, hok, Bool.and_self, if_pos rfl, h1]
    have e : a' = foldN a (b.take (pos + 1)) := by rw [fold_take a b pos (by omega), h1]
    simp only [hx, wrap_up pos (show (pos : Int) < 9223372036854775807 by omega)]
    refine Ev.bind1 hset (Ev.yes rfl ?_)
    rw [e]
    exact ih (pos + 1) (by omega)
theorem join_is {a b : List Nt} (ha : chkN a = true) (hb : chkN b = true) (hl : a.length + b.length ≤ 3000) : Ev (fun k => register_Join.f k a b) (foldN a b, 0) := by
  unfold register_Join.f
  have h1 := check_is a
  have h2 := check_is b
  rw [ha, if_pos rfl] at h1
  rw [hb, if_pos rfl] at h2
  refine Ev.bind h1 (Ev.yes rfl (Ev.bind h2 (Ev.succ ?_)))
  simp only [register_Join.j0]
  refine Ev.no (by decide) (Ev.bind1 (a := a) ?_ ?_)
  · unfold api_Note_56.f
    rw [if_pos (by omega)]
  · have := join_from a b ha hb hl b.length 0 (by omega)
    simpa [foldN] using this
theorem join_no {a b : List Nt} (h : (chkN a && chkN b) = false) : Ev (fun k => register_Join.f k a b) ([], 1) := by
  unfold register_Join.f
  have h1 := check_is a
  have h2 := check_is b
  cases ha : chkN a with
  | false =>
    rw [ha, if_neg (by decide)] at h1
    refine Ev.bind h1 (Ev.no (by decide) (Ev.succ ?_))
    simp only [register_Join.j0]
    exact Ev.yes (by simp) (Ev.now _)
  | true =>
    rw [ha, Bool.true_and] at h
    rw [ha, if_pos rfl] at h1
    rw [h, if_neg (by decide)] at h2
    refine Ev.bind h1 (Ev.yes rfl (Ev.bind h2 (Ev.succ ?_)))
    simp only [register_Join.j0]
    exact Ev.yes (by decide) (Ev.now _)
theorem same_both_from (a b : List Nt) (hl : a.length ≤ 1000000) (he : a.length = b.length) : ∀ (n pos : Nat), pos + n = a.length → ∃ s, Ev (fun k => api_Note_64.l0 k a b (a.length : Int) (pos : Int)) s ∧ Ev (fun k => hucksterref12_Same.l0 k a b (pos : Int)) s := by
  intro n
  induction n with
  | zero =>
    intro pos hp
    refine ⟨true, Ev.succ ?_, Ev.succ ?_⟩
    · simp only [api_Note_64.l0]
      exact Ev.no (by omega) (Ev.now _)
    · simp only [hucksterref12_Same.l0]
      exact Ev.no (by omega) (Ev.now _)
  | succ n ih =>
    intro pos hp
    obtain ⟨s, h1, h2⟩ := ih (pos + 1) (by omega)
    by_cases hc : (!((((rd_T24 a (pos : Int)).f0).toList) == (((rd_T24 b (pos : Int)).f0).toList)) || (!(((rd_T24 a (pos : Int)).f1) == ((rd_T24 b (pos : Int)).f1)) || (!(((rd_T24 a (pos : Int)).f2) == ((rd_T24 b (pos : Int)).f2)) || (!((((rd_T24 a (pos : Int)).f3).toList) == (((rd_T24 b (pos : Int)).f3).toList)))))) = true
    · refine ⟨false, Ev.succ ?_, Ev.succ ?_⟩
      · simp only [api_Note_64.l0]
        exact Ev.yes (by omega) (Ev.yes (by omega) (Ev.yes (by omega) (Ev.yes (by omega) (Ev.yes hc (Ev.now _)))))
      · simp only [hucksterref12_Same.l0]
        exact Ev.yes (by omega) (Ev.yes (by omega) (Ev.yes (by omega) (Ev.yes hc (Ev.now _))))
    · refine ⟨s, Ev.succ ?_, Ev.succ ?_⟩
      · simp only [api_Note_64.l0]
        rw [wrap_up pos (by omega)]
        exact Ev.yes (by omega) (Ev.yes (by omega) (Ev.yes (by omega) (Ev.yes (by omega) (Ev.no hc h1))))
      · simp only [hucksterref12_Same.l0]
        rw [wrap_up pos (by omega)]
        exact Ev.yes (by omega) (Ev.yes (by omega) (Ev.yes (by omega) (Ev.no hc h2)))
theorem same_both (a b : List Nt) (hl : a.length ≤ 1000000) : ∃ s, Ev (fun k => register_Same.f k a b) s ∧ Ev (fun k => hucksterref12_Same.f k a b) s := by
  unfold register_Same.f api_Note_64.f hucksterref12_Same.f
  by_cases he : a.length = b.length
  · obtain ⟨s, h1, h2⟩ := same_both_from a b hl he a.length 0 (by omega)
    exact ⟨s, Ev.bind (Ev.yes (by omega) h1) (Ev.now _), Ev.yes (by omega) h2⟩
  · exact ⟨false, Ev.bind (Ev.no (by omega) (Ev.now _)) (Ev.now _), Ev.no (by omega) (Ev.now _)⟩
end
section
open Go.RowKit Go.Proofs.YtfnpiclioikjpaaW.PrintWords Go.ChangeShapes Go.WideShapes Go.Deep

theorem okWide_arr {P : Program} {w : World} {r : Reach} {base : Nat} {t e : TypeId} {n : Nat} {v : Value} (ht : P.underlying t = some (.array n e)) (h : Value.okWide P w r base t v) : ∃ cs, v = .agg cs := by
  simp only [Value.okWide, ht] at h
  obtain ⟨cs, h1, _⟩ := h
  exact ⟨cs, h1⟩
set_option maxRecDepth 100000 in
theorem openTwo {H : Type} {enc : TypeId × Value → H} {w : World} {spare : Nat → Bool} {held : Bool} (n : Nat) (cs : List Value) (x : DataW H × List MemPlace) (h : DataW.trod enc Try.prog w 0 spare held n 56 cs = some x) :
    ∃ p q : S24, cs = cellNote p ++ cellNote q := by
  obtain ⟨xs, m, rfl, _, hl, hxl, hf⟩ := DataW.trod_array Try.underlying56 h
  have hl' : cs.length = 8 := hl.trans (by kernel_rfl)
  have hc : Try.prog.cellsOf 24 = 4 := by kernel_rfl
  have hg : ∀ i (hi : i < 2), DataW.trod enc Try.prog w 0 spare held m 24 ((cs.drop (i * 4)).take 4) = some (xs[i]'(by omega)) := by
    intro i hi
    have h1 := hf i hi
    rw [hc] at h1
    rw [h1, List.getElem?_eq_getElem (by omega)]
  have e0 := hg 0 (by omega)
  have e1 := hg 1 (by omega)
  obtain ⟨p, hp, _⟩ := openNote _ _ _ e0
  obtain ⟨q, hq, _⟩ := openNote _ _ _ e1
  refine ⟨p, q, ?_⟩
  rw [← hp, ← hq]
  rw [Nat.zero_mul, List.drop_zero, Nat.one_mul]
  have : (cs.drop 4).take 4 = cs.drop 4 := List.take_of_length_le (by rw [List.length_drop]; omega)
  rw [this, List.take_append_drop]
end
section
open Go.RowKit Go.Proofs.YtfnpiclioikjpaaW.PrintWords Go.Proofs.YtfnpiclioikjpaaW.PrintLast Go.Proofs.YtfnpiclioikjpaaW.PrintMore

theorem awake_call (w : World) : Calls Try.prog 15 #[] w fun e w' => e = .returned (.bool true) ∧ Below w.heap.size w w' := by
  obtain ⟨k, hk⟩ := awake12.rounds
  exact hucksterlaw12_awake.calls k true w hk
theorem may_call (A0 : Option Addr) (c0 : Nat) (l0 : List Nt) (w : World) (hr0 : Kd.C k24 w A0 l0.length l0) (hc0 : l0.length ≤ c0) (hl : l0.length ≤ 4000) :
    Calls Try.prog 19 #[.slice A0 l0.length c0] w fun e w' => e = .returned (.bool (chkN l0)) ∧ Below w.heap.size w w' := by
  obtain ⟨k, hk⟩ := (mayR_is l0 hl).rounds
  exact hucksterref12_May.calls k A0 c0 l0 _ w hr0 hc0 hk
def SetsPost (w : World) (e : Ending) (w' : World) : Prop := e = .returned (.bool true) ∧ Below w.heap.size w w'

theorem C_twoN (W : World) (p q : Nt) : Kd.C k24 (W.alloc (.cells #[.string p.f0, .int .i64 p.f1, .int .i64 p.f2, .string p.f3, .string q.f0, .int .i64 q.f1, .int .i64 q.f2, .string q.f3] 24)) (some ⟨W.heap.size, 0, none⟩) [p, q].length [p, q] := by
  refine ⟨rfl, by simp, fun _ => ⟨_, rfl, fun j x hj => ?_⟩⟩
  have hc : ∀ m, (W.alloc (.cells #[.string p.f0, .int .i64 p.f1, .int .i64 p.f2, .string p.f3, .string q.f0, .int .i64 q.f1, .int .i64 q.f2, .string q.f3] 24)).cell? ⟨W.heap.size, m, none⟩ = (cellNote p ++ cellNote q)[m]? := by
    intro m
    rw [cell_of_row _ W.heap.size m _ _ (0, 0) (heap_alloc_new W _), ← Array.getElem?_toList]
    rfl
  have ha : ∀ m, (⟨W.heap.size, 0, none⟩ : Addr).add m = ⟨W.heap.size, m, none⟩ := fun m => by simp [add_plain]
  rcases j with _ | _ | j
  · injection hj with hj
    subst hj
    refine ⟨cellNote p, rfl, k24_mk _ p, fun i u hu => ?_⟩
    have hi := (List.getElem?_eq_some_iff.1 hu).1
    rw [ha, hc, Nat.zero_mul, Nat.zero_add, List.getElem?_append_left hi]
    exact hu
  · injection hj with hj
    subst hj
    refine ⟨cellNote q, rfl, k24_mk _ q, fun i u hu => ?_⟩
    rw [ha, hc, show (0 + 1) * k24.sz + i = 4 + i by simp only [Nat.zero_add, Nat.one_mul]; rfl, List.getElem?_append_right (by simp [cellNote])]
    have : 4 + i - (cellNote p).length = i := by simp [cellNote]
    rw [this]
    exact hu
  · simp at hj
theorem two_blocks (w : World) (o : Obj) (x y : Nt) :
    ((((w.alloc o).alloc (.cells (boxN x) 24)).alloc (.cells (boxN y) 24)).drew).heap[w.heap.size + 1]? = some (.cells (boxN x) 24 (0, 0)) ∧
    ((((w.alloc o).alloc (.cells (boxN x) 24)).alloc (.cells (boxN y) 24)).drew).heap[w.heap.size + 2]? = some (.cells (boxN y) 24 (0, 0)) ∧
    Below w.heap.size w ((((w.alloc o).alloc (.cells (boxN x) 24)).alloc (.cells (boxN y) 24)).drew) := by
  refine ⟨?_, ?_, below_drew (below_alloc (below_alloc (below_alloc (Below.refl _ _) _) _) _)⟩
  · have h1 := heap_alloc_new (w.alloc o) (.cells (boxN x) 24)
    rw [World.size_alloc] at h1
    have h2 := (below_alloc (Below.refl ((w.alloc o).alloc (.cells (boxN x) 24)).heap.size ((w.alloc o).alloc (.cells (boxN x) 24))) (.cells (boxN y) 24)).block (w.heap.size + 1) (by rw [World.size_alloc, World.size_alloc]; omega)
    exact h2.trans h1
  · have h1 := heap_alloc_new ((w.alloc o).alloc (.cells (boxN x) 24)) (.cells (boxN y) 24)
    rw [World.size_alloc, World.size_alloc] at h1
    exact h1

set_option maxHeartbeats 4000000 in
set_option maxRecDepth 100000 in
theorem joins_walk (A0 : Option Addr) (c0 : Nat) (l0 : List Nt) (A1 : Option Addr) (c1 : Nat) (l1 : List Nt) (p q : Nt) (w : World) (hr0 : Kd.C k24 w A0 l0.length l0) (hc0 : l0.length ≤ c0) (hr1 : Kd.C k24 w A1 l1.length l1) (hc1 : l1.length ≤ c1) :
    Calls Try.prog 9 #[.slice A0 l0.length c0, .slice A1 l1.length c1, .agg #[.string p.f0, .int .i64 p.f1, .int .i64 p.f2, .string p.f3, .string q.f0, .int .i64 q.f1, .int .i64 q.f2, .string q.f3]] w (SetsPost w) := by
  have HR0 := Aside0.mk hr0
  have HR1 := Aside0.mk hr1
  clear hr0 hr1
  go_enter Try.func9, Try.ntmps9
  go_upto_region 1 with fail
  (try simp only [Act.put, List.setIfInBounds_toArray, List.set_cons_zero, List.set_cons_succ])
  go_cut [7, 8] (fun v7 v8 wc => ∃ g7 g8 : Nat, v7 = .pointer (some ⟨g7, 0, none⟩) ∧ v8 = .pointer (some ⟨g8, 0, none⟩) ∧ Aside0 (wc.heap[g7]? = some (.cells (boxN p) 24 (0, 0))) ∧ Aside0 (wc.heap[g8]? = some (.cells (boxN q) 24 (0, 0))) ∧ Aside0 (Below w.heap.size w wc))
  case first =>
    go_region_with (fail)
    all_goals go_wp2_with (fail)
    all_goals go_meet
    all_goals first
      | exact ⟨_, _, rfl, rfl, ⟨(two_blocks w _ p q).1⟩, ⟨(two_blocks w _ p q).2.1⟩, ⟨(two_blocks w _ p q).2.2⟩⟩
      | exact ⟨_, _, rfl, rfl, ⟨(two_blocks w _ q p).2.1⟩, ⟨(two_blocks w _ q p).1⟩, ⟨(two_blocks w _ q p).2.2⟩⟩
  case rest =>
    obtain ⟨g7, g8, rfl, rfl, HP, HQ, HB⟩ := hcut
    obtain ⟨b1, he1, hl1⟩ := light12 l0
    obtain ⟨k1, hk1⟩ := he1.rounds
    obtain ⟨b2, he2, hl2⟩ := light12 l1
    obtain ⟨k2, hk2⟩ := he2.rounds
    obtain ⟨b3, he3, _⟩ := light12 [p, q]
    obtain ⟨k3, hk3⟩ := he3.rounds
    have HL1 := Aside0.mk hk1; have HL2 := Aside0.mk hk2; have HL3 := Aside0.mk hk3
    clear hk1 hk2 hk3 he1 he2 he3
    go_wp2_with fail
    refine (hucksterlaw12_Light.calls k1 A0 c0 l0 b1 _ (Kd.C_below HR0.out HB.out) hc0 HL1.out).mono ?_
    rintro e w1 ⟨rfl, nd, rfl⟩
    cases b1 with
    | false =>
      go_wp2_with fail
      refine (awake_call _).mono ?_
      rintro e w2 ⟨rfl, hb2⟩
      go_wp2_with fail
      go_ret
      exact ⟨rfl, below_step (pw_below_drewN HB.out _) hb2⟩
    | true =>
      have hll0 := hl1 rfl
      go_wp2_with fail
      refine (hucksterlaw12_Light.calls k2 A1 c1 l1 b2 _ (Kd.C_drewN (Kd.C_below HR1.out HB.out) _) hc1 HL2.out).mono ?_
      rintro e w1 ⟨rfl, nd2, rfl⟩
      cases b2 with
      | false =>
        go_wp2_with fail
        refine (awake_call _).mono ?_
        rintro e w2 ⟨rfl, hb2⟩
        go_wp2_with fail
        go_ret
        exact ⟨rfl, below_step (pw_below_drewN HB.out _) hb2⟩
      | true =>
        have hll1 := hl2 rfl
        obtain ⟨w2, hw2⟩ : ∃ w2, w2 = (wc.drewN nd).drewN nd2 := ⟨_, rfl⟩
        have HB2 := Aside0.mk (show Below w.heap.size w w2 by rw [hw2]; exact pw_below_drewN (pw_below_drewN HB.out _) _)
        have HP2 := Aside0.mk (show w2.heap[g7]? = some (.cells (boxN p) 24 (0, 0)) by rw [hw2]; exact blk_drewN (blk_drewN HP.out _) _)
        have HQ2 := Aside0.mk (show w2.heap[g8]? = some (.cells (boxN q) 24 (0, 0)) by rw [hw2]; exact blk_drewN (blk_drewN HQ.out _) _)
        rw [← hw2]
        clear hw2 HB HP HQ
        obtain ⟨hx0, hx1, hx2, hx3⟩ := boxN_cells HP2.out
        obtain ⟨hy0, hy1, hy2, hy3⟩ := boxN_cells HQ2.out
        go_wp2_with fail
        refine (hucksterlaw12_Light.calls k3 _ _ [p, q] b3 _ (C_twoN w2 p q) (by simp) HL3.out).mono ?_
        rintro e w3 ⟨rfl, nd3, rfl⟩
        obtain ⟨w3, hw3⟩ : ∃ w3, w3 = (w2.alloc (.cells #[.string p.f0, .int .i64 p.f1, .int .i64 p.f2, .string p.f3, .string q.f0, .int .i64 q.f1, .int .i64 q.f2, .string q.f3] 24)).drewN nd3 := ⟨_, rfl⟩
        have HB3 := Aside0.mk (show Below w.heap.size w w3 by rw [hw3]; exact pw_below_drewN (below_alloc HB2.out _) _)
        have HP3 := Aside0.mk (show w3.heap[g7]? = some (.cells (boxN p) 24 (0, 0)) by rw [hw3]; exact blk_drewN (((below_alloc (Below.refl w2.heap.size w2) _).block g7 (Array.getElem?_eq_some_iff.1 HP2.out).1).trans HP2.out) _)
        have HQ3 := Aside0.mk (show w3.heap[g8]? = some (.cells (boxN q) 24 (0, 0)) by rw [hw3]; exact blk_drewN (((below_alloc (Below.refl w2.heap.size w2) _).block g8 (Array.getElem?_eq_some_iff.1 HQ2.out).1).trans HQ2.out) _)
        rw [← hw3]
        clear hw3 hx0 hx1 hx2 hx3 hy0 hy1 hy2 hy3 HB2 HP2 HQ2
        cases b3 with
        | false =>
          go_wp2_with fail
          refine (awake_call _).mono ?_
          rintro e w4 ⟨rfl, hb4⟩
          go_wp2_with fail
          go_ret
          exact ⟨rfl, below_step HB3.out hb4⟩
        | true =>
          obtain ⟨x, ec, hj, hjy, hjn⟩ : ∃ x ec, Ev (fun k => register_Join.f k l0 l1) (x, ec) ∧ ((chkN l0 && chkN l1) = true → x = foldN l0 l1 ∧ ec = 0) ∧ ((chkN l0 && chkN l1) = false → x = [] ∧ ec = 1) := by
            cases h : (chkN l0 && chkN l1) with
            | true =>
              have h' := h
              rw [Bool.and_eq_true] at h'
              exact ⟨_, _, join_is h'.1 h'.2 (by omega), (fun _ => ⟨rfl, rfl⟩), (fun e => by cases e)⟩
            | false => exact ⟨_, _, join_no h, (fun e => by cases e), (fun _ => ⟨rfl, rfl⟩)⟩
          have HJY := Aside0.mk hjy; have HJN := Aside0.mk hjn
          clear hjy hjn
          obtain ⟨kj, hkj⟩ := hj.rounds
          have HJ := Aside0.mk hj
          have HKJ := Aside0.mk hkj
          clear hj hkj
          go_wp2_with fail
          refine (register_Join.calls kj A0 c0 l0 A1 c1 l1 x ec _ (Kd.C_below HR0.out HB3.out) hc0 (Kd.C_below HR1.out HB3.out) hc1 HKJ.out).mono ?_
          rintro e w4 ⟨v9, rfl, hR4, hb4⟩
          have HB4 := Aside0.mk (below_step HB3.out hb4)
          have HP4 := Aside0.mk ((hb4.block g7 (Array.getElem?_eq_some_iff.1 HP3.out).1).trans HP3.out)
          have HQ4 := Aside0.mk ((hb4.block g8 (Array.getElem?_eq_some_iff.1 HQ3.out).1).trans HQ3.out)
          have HV4 := Aside0.mk (Kd.R_lower hR4 (below_size HB3.out))
          obtain ⟨A9, c9, rfl, hc9, _⟩ := Kd.R_reads HV4.out
          clear hR4 hb4 HB3 HP3 HQ3
          obtain ⟨s, hs1, hs2⟩ := same_both l0 l1 (by omega)
          obtain ⟨ka, hka⟩ := hs1.rounds
          obtain ⟨kb, hkb⟩ := hs2.rounds
          have HSa := Aside0.mk hka; have HSb := Aside0.mk hkb
          have HLa := Aside0.mk (later_is p q); have HLb := Aside0.mk (laterR_is p q)
          clear hs1 hs2 hka hkb
          go_upto_region 5 with fail
          go_cut [56] (fun v56 wc => v56 = .bool false ∧ Aside0 (Below w.heap.size w wc) ∧ Aside0 (Kd.R k24 24 wc w.heap.size (fun _ => True) (.slice A9 x.length c9) x))
          case first =>
            obtain ⟨hx0, hx1, hx2, hx3⟩ := boxN_cells HP4.out
            obtain ⟨hy0, hy1, hy2, hy3⟩ := boxN_cells HQ4.out
            have hss : (ltrN p q != ltrN p q) = false := by simp
            have hst : (s != s) = false := by simp
            refine start_ (n := 16) (S := fun w' => w'.cell? ⟨g7, 0, none⟩ = some (.string p.f0) ∧ w'.cell? ⟨g7, 1, none⟩ = some (.int .i64 p.f1) ∧ w'.cell? ⟨g7, 2, none⟩ = some (.int .i64 p.f2) ∧ w'.cell? ⟨g7, 3, none⟩ = some (.string p.f3) ∧ w'.cell? ⟨g8, 0, none⟩ = some (.string q.f0) ∧ w'.cell? ⟨g8, 1, none⟩ = some (.int .i64 q.f1) ∧ w'.cell? ⟨g8, 2, none⟩ = some (.int .i64 q.f2) ∧ w'.cell? ⟨g8, 3, none⟩ = some (.string q.f3)) (ds := []) #[false, false, false, false, false, false, false, false, false, false, false, false, false, false, false, false] (by kernel_rfl) rfl rfl ⟨hx0, hx1, hx2, hx3, hy0, hy1, hy2, hy3⟩ (fun hHeld => ?_)
            refine take_ (i := 0) (N := some 41) (v := ?_) (a' := ?_) #[true, false, false, false, false, false, false, false, false, false, false, false, false, false, false, false] rfl rfl (by kernel_rfl) (fun _ _ _ h => h) (Or.inl ⟨by rfl, ?_⟩) hHeld ?_ ?_
            rotate_left
            · rintro w' ⟨s0, s1, s2, s3, s4, s5, s6, s7⟩
              go_simp
              with_reducible rfl
            rotate_left
            · simp only [Act.put, List.setIfInBounds_toArray, List.set_cons_zero, List.set_cons_succ, i64_w, i32_w]
              rfl
            refine take_ (i := 1) (N := some 42) (v := ?_) (a' := ?_) #[true, true, false, false, false, false, false, false, false, false, false, false, false, false, false, false] rfl rfl (by kernel_rfl) (fun _ _ _ h => h) (Or.inl ⟨by rfl, ?_⟩) hHeld ?_ ?_
            rotate_left
            · rintro w' ⟨s0, s1, s2, s3, s4, s5, s6, s7⟩
              go_simp
              with_reducible rfl
            rotate_left
            · simp only [Act.put, List.setIfInBounds_toArray, List.set_cons_zero, List.set_cons_succ, i64_w, i32_w]
              rfl
            refine take_ (i := 3) (N := some 44) (v := ?_) (a' := ?_) #[true, true, false, true, false, false, false, false, false, false, false, false, false, false, false, false] rfl rfl (by kernel_rfl) (fun _ _ _ h => h) (Or.inl ⟨by rfl, ?_⟩) hHeld ?_ ?_
            rotate_left
            · rintro w' ⟨s0, s1, s2, s3, s4, s5, s6, s7⟩
              go_simp
              with_reducible rfl
            rotate_left
            · simp only [Act.put, List.setIfInBounds_toArray, List.set_cons_zero, List.set_cons_succ, i64_w, i32_w]
              rfl
            refine take_ (i := 4) (N := some 45) (v := ?_) (a' := ?_) #[true, true, false, true, true, false, false, false, false, false, false, false, false, false, false, false] rfl rfl (by kernel_rfl) (fun _ _ _ h => h) (Or.inl ⟨by rfl, ?_⟩) hHeld ?_ ?_
            rotate_left
            · rintro w' ⟨s0, s1, s2, s3, s4, s5, s6, s7⟩
              go_simp
              with_reducible rfl
            rotate_left
            · simp only [Act.put, List.setIfInBounds_toArray, List.set_cons_zero, List.set_cons_succ, i64_w, i32_w]
              rfl
            refine one_ (i := 2) (N := some 43) #[true, true, true, true, true, false, false, false, false, false, false, false, false, false, false, false] rfl rfl (by kernel_rfl) (by decide) (fun K hK => ?_)
            refine goes_ Try.func24 (by kernel_rfl) rfl #[.agg #[.string p.f0, .int .i64 p.f1, .int .i64 p.f2, .string p.f3], .agg #[.string q.f0, .int .i64 q.f1, .int .i64 q.f2, .string q.f3]] (by rfl) rfl rfl (by simp only [List.map_toArray, List.map_cons, List.map_nil]; rfl) ?_
            with_reducible refine (register_Later.calls _ _ _ _ _ _ _ _ _ _ HLa.out).mono ?_
            rintro e w5 ⟨rfl, hb5⟩
            refine ⟨_, rfl, ?_⟩
            have hc5 : ∀ {a : Addr} {v : Value} (_ : Unit), w4.drew.cell? a = some v → w5.cell? a = some v := fun _ h => (hb5.cell (World.block_lt_of_cell? _ _ h)).trans h
            have HB5 := Aside0.mk (below_step (below_drew HB4.out) hb5)
            have HV5 := Aside0.mk (Kd.R_below (Kd.R_drew HV4.out) hb5)
            refine hK.out _ _ ⟨(hc5 () hx0), (hc5 () hx1), (hc5 () hx2), (hc5 () hx3), (hc5 () hy0), (hc5 () hy1), (hc5 () hy2), (hc5 () hy3)⟩ (fun hHeld => ?_)
            clear hK K
            refine norm_ (a' := ?_) ?_ ?_
            rotate_left
            · show Act.put _ (some 43) _ = _
              simp only [Act.put, List.setIfInBounds_toArray, List.set_cons_zero, List.set_cons_succ, i64_w, i32_w]
              rfl
            refine one_ (i := 5) (N := some 46) #[true, true, true, true, true, true, false, false, false, false, false, false, false, false, false, false] rfl rfl (by kernel_rfl) (by decide) (fun K hK => ?_)
            refine goes_ Try.func37 (by kernel_rfl) rfl #[.agg #[.string p.f0, .int .i64 p.f1, .int .i64 p.f2, .string p.f3], .agg #[.string q.f0, .int .i64 q.f1, .int .i64 q.f2, .string q.f3]] (by rfl) rfl rfl (by simp only [List.map_toArray, List.map_cons, List.map_nil]; rfl) ?_
            with_reducible refine (hucksterref12_Later.calls _ _ _ _ _ _ _ _ _ _ HLb.out).mono ?_
            rintro e w6 ⟨rfl, hb6⟩
            refine ⟨_, rfl, ?_⟩
            have hc6 : ∀ {a : Addr} {v : Value} (_ : Unit), w5.cell? a = some v → w6.cell? a = some v := fun _ h => (hb6.cell (World.block_lt_of_cell? _ _ h)).trans h
            have HB6 := Aside0.mk (below_step HB5.out hb6)
            have HV6 := Aside0.mk (Kd.R_below HV5.out hb6)
            refine hK.out _ _ ⟨(hc6 () (hc5 () hx0)), (hc6 () (hc5 () hx1)), (hc6 () (hc5 () hx2)), (hc6 () (hc5 () hx3)), (hc6 () (hc5 () hy0)), (hc6 () (hc5 () hy1)), (hc6 () (hc5 () hy2)), (hc6 () (hc5 () hy3))⟩ (fun hHeld => ?_)
            clear hK K
            refine norm_ (a' := ?_) ?_ ?_
            rotate_left
            · show Act.put _ (some 46) _ = _
              simp only [Act.put, List.setIfInBounds_toArray, List.set_cons_zero, List.set_cons_succ, i64_w, i32_w]
              rfl
            refine pure_ (i := 6) (N := some 47) (v := ?_) (a' := ?_) #[true, true, true, true, true, true, true, false, false, false, false, false, false, false, false, false] rfl rfl (by kernel_rfl) (fun _ _ _ h => h) (Or.inl ⟨by rfl, ?_⟩) ?_ ?_
            rotate_left
            · intro w'
              go_simp
              with_reducible rfl
            rotate_left
            · simp only [Act.put, List.setIfInBounds_toArray, List.set_cons_zero, List.set_cons_succ, i64_w, i32_w]
              rfl
            refine pure_ (i := 7) (N := some 48) (v := ?_) (a' := ?_) #[true, true, true, true, true, true, true, true, false, false, false, false, false, false, false, false] rfl rfl (by kernel_rfl) (fun _ _ _ h => h) (Or.inl ⟨by rfl, ?_⟩) ?_ ?_
            rotate_left
            · intro w'
              go_simp
              with_reducible rfl
            rotate_left
            · simp only [Act.put, List.setIfInBounds_toArray, List.set_cons_zero, List.set_cons_succ, i64_w, i32_w]
              rfl
            refine pure_ (i := 8) (N := some 49) (v := ?_) (a' := ?_) #[true, true, true, true, true, true, true, true, true, false, false, false, false, false, false, false] rfl rfl (by kernel_rfl) (fun _ _ _ h => h) (Or.inl ⟨by rfl, ?_⟩) ?_ ?_
            rotate_left
            · intro w'
              go_simp
              with_reducible rfl
            rotate_left
            · simp only [Act.put, List.setIfInBounds_toArray, List.set_cons_zero, List.set_cons_succ, i64_w, i32_w]
              rfl
            refine pure_ (i := 9) (N := some 50) (v := ?_) (a' := ?_) #[true, true, true, true, true, true, true, true, true, true, false, false, false, false, false, false] rfl rfl (by kernel_rfl) (fun _ _ _ h => h) (Or.inl ⟨by rfl, ?_⟩) ?_ ?_
            rotate_left
            · intro w'
              go_simp
              with_reducible rfl
            rotate_left
            · simp only [Act.put, List.setIfInBounds_toArray, List.set_cons_zero, List.set_cons_succ, i64_w, i32_w]
              rfl
            refine pure_ (i := 11) (N := some 52) (v := ?_) (a' := ?_) #[true, true, true, true, true, true, true, true, true, true, false, true, false, false, false, false] rfl rfl (by kernel_rfl) (fun _ _ _ h => h) (Or.inl ⟨by rfl, ?_⟩) ?_ ?_
            rotate_left
            · intro w'
              go_simp
              with_reducible rfl
            rotate_left
            · simp only [Act.put, List.setIfInBounds_toArray, List.set_cons_zero, List.set_cons_succ, i64_w, i32_w]
              rfl
            refine pure_ (i := 12) (N := some 53) (v := ?_) (a' := ?_) #[true, true, true, true, true, true, true, true, true, true, false, true, true, false, false, false] rfl rfl (by kernel_rfl) (fun _ _ _ h => h) (Or.inl ⟨by rfl, ?_⟩) ?_ ?_
            rotate_left
            · intro w'
              go_simp
              with_reducible rfl
            rotate_left
            · simp only [Act.put, List.setIfInBounds_toArray, List.set_cons_zero, List.set_cons_succ, i64_w, i32_w]
              rfl
            refine one_ (i := 10) (N := some 51) #[true, true, true, true, true, true, true, true, true, true, true, true, true, false, false, false] rfl rfl (by kernel_rfl) (by decide) (fun K hK => ?_)
            refine goes_ Try.func38 (by kernel_rfl) rfl #[.slice A0 l0.length c0, .slice A1 l1.length c1] (by rfl) rfl rfl (by simp only [List.map_toArray, List.map_cons, List.map_nil]; rfl) ?_
            with_reducible refine (register_Same.calls ka A0 c0 l0 A1 c1 l1 s _ (Kd.C_below HR0.out HB6.out) hc0 (Kd.C_below HR1.out HB6.out) hc1 HSa.out).mono ?_
            rintro e w7 ⟨rfl, nd7, rfl⟩
            refine ⟨_, rfl, ?_⟩
            refine hK.out _ _ ⟨(hc6 () (hc5 () hx0)), (hc6 () (hc5 () hx1)), (hc6 () (hc5 () hx2)), (hc6 () (hc5 () hx3)), (hc6 () (hc5 () hy0)), (hc6 () (hc5 () hy1)), (hc6 () (hc5 () hy2)), (hc6 () (hc5 () hy3))⟩ (fun hHeld => ?_)
            clear hK K
            refine norm_ (a' := ?_) ?_ ?_
            rotate_left
            · show Act.put _ (some 51) _ = _
              simp only [Act.put, List.setIfInBounds_toArray, List.set_cons_zero, List.set_cons_succ, i64_w, i32_w]
              rfl
            refine one_ (i := 13) (N := some 54) #[true, true, true, true, true, true, true, true, true, true, true, true, true, true, false, false] rfl rfl (by kernel_rfl) (by decide) (fun K hK => ?_)
            refine goes_ Try.func22 (by kernel_rfl) rfl #[.slice A0 l0.length c0, .slice A1 l1.length c1] (by rfl) rfl rfl (by simp only [List.map_toArray, List.map_cons, List.map_nil]; rfl) ?_
            with_reducible refine (hucksterref12_Same.calls kb A0 c0 l0 A1 c1 l1 s _ (Kd.C_drewN (Kd.C_below HR0.out HB6.out) _) hc0 (Kd.C_drewN (Kd.C_below HR1.out HB6.out) _) hc1 HSb.out).mono ?_
            rintro e w8 ⟨rfl, nd8, rfl⟩
            refine ⟨_, rfl, ?_⟩
            refine hK.out _ _ ⟨(hc6 () (hc5 () hx0)), (hc6 () (hc5 () hx1)), (hc6 () (hc5 () hx2)), (hc6 () (hc5 () hx3)), (hc6 () (hc5 () hy0)), (hc6 () (hc5 () hy1)), (hc6 () (hc5 () hy2)), (hc6 () (hc5 () hy3))⟩ (fun hHeld => ?_)
            clear hK K
            refine norm_ (a' := ?_) ?_ ?_
            rotate_left
            · show Act.put _ (some 54) _ = _
              simp only [Act.put, List.setIfInBounds_toArray, List.set_cons_zero, List.set_cons_succ, i64_w, i32_w]
              rfl
            refine pure_ (i := 14) (N := some 55) (v := ?_) (a' := ?_) #[true, true, true, true, true, true, true, true, true, true, true, true, true, true, true, false] rfl rfl (by kernel_rfl) (fun _ _ _ h => h) (Or.inl ⟨by rfl, ?_⟩) ?_ ?_
            rotate_left
            · intro w'
              go_simp
              with_reducible rfl
            rotate_left
            · simp only [Act.put, List.setIfInBounds_toArray, List.set_cons_zero, List.set_cons_succ, i64_w, i32_w]
              rfl
            refine pure_ (i := 15) (N := some 56) (v := ?_) (a' := ?_) #[true, true, true, true, true, true, true, true, true, true, true, true, true, true, true, true] rfl rfl (by kernel_rfl) (fun _ _ _ h => h) (Or.inl ⟨by rfl, ?_⟩) ?_ ?_
            rotate_left
            · intro w'
              go_simp
              with_reducible rfl
            rotate_left
            · simp only [Act.put, List.setIfInBounds_toArray, List.set_cons_zero, List.set_cons_succ, i64_w, i32_w]
              rfl
            refine done_ (by kernel_rfl) ?_
            go_wp2_with (fail)
            go_meet
            first
              | exact ⟨rfl, ⟨pw_below_drewN (pw_below_drewN HB6.out _) _⟩, ⟨Kd.R_drewN (Kd.R_drewN HV6.out _) _⟩⟩
              | exact ⟨rfl, ⟨pw_below_drewN HB6.out _⟩, ⟨Kd.R_drewN HV6.out _⟩⟩
          case rest =>
            obtain ⟨rfl, HB5, HV5⟩ := hcut
            clear HB4 HP4 HQ4 HV4
            go_wp2_with fail
            refine (may_call A0 c0 l0 _ (Kd.C_below HR0.out HB5.out) hc0 (by omega)).mono ?_
            rintro e w6 ⟨rfl, hb6⟩
            have HB6 := Aside0.mk (below_step HB5.out hb6)
            have HV6 := Aside0.mk (Kd.R_below HV5.out hb6)
            clear hb6 HB5 HV5
            cases hc0' : chkN l0 with
            | false =>
              obtain ⟨hxx, hee⟩ := HJN.out (by rw [hc0']; rfl)
              subst hxx; subst hee
              go_wp2_with fail
              refine (awake_call _).mono ?_
              rintro e w8 ⟨rfl, hb8⟩
              go_wp2_with fail
              go_ret
              exact ⟨rfl, below_step HB6.out hb8⟩
            | true =>
              go_wp2_with fail
              refine (may_call A1 c1 l1 _ (Kd.C_below HR1.out HB6.out) hc1 (by omega)).mono ?_
              rintro e w7 ⟨rfl, hb7⟩
              have HB7 := Aside0.mk (below_step HB6.out hb7)
              have HV7 := Aside0.mk (Kd.R_below HV6.out hb7)
              clear hb7 HB6 HV6
              cases hc1' : chkN l1 with
              | false =>
                obtain ⟨hxx, hee⟩ := HJN.out (by rw [hc0', hc1']; rfl)
                subst hxx; subst hee
                go_wp2_with fail
                refine (awake_call _).mono ?_
                rintro e w8 ⟨rfl, hb8⟩
                go_wp2_with fail
                go_ret
                exact ⟨rfl, below_step HB7.out hb8⟩
              | true =>
                obtain ⟨hxx, hee⟩ := HJY.out (by rw [hc0', hc1']; rfl)
                have HXX := Aside0.mk hxx
                subst hee
                clear hxx
                go_wp2_with fail
                go_loopw [11, 12] (fun v11 v12 w' => ∃ (pos : Nat) (A : Option Addr) (c : Nat), v12 = .int .i64 (pos : Int) ∧ v11 = .slice A (foldN l0 (l1.take pos)).length c ∧ (foldN l0 (l1.take pos)).length ≤ c ∧ pos ≤ l1.length ∧ Aside0 (Kd.C k24 w' A (foldN l0 (l1.take pos)).length (foldN l0 (l1.take pos))) ∧ Aside0 (Below w.heap.size w w') ∧ Aside0 (Kd.R k24 24 w' w.heap.size (fun _ => True) (.slice A9 x.length c9) x)) (fun _ v12 _ => ((l1.length : Int) - intV v12).toNat)
                case atStart => exact ⟨0, A0, c0, rfl, rfl, hc0, Nat.zero_le _, ⟨Kd.C_below HR0.out HB7.out⟩, HB7, HV7⟩
                case round =>
                  clear HB7 HV7
                  obtain ⟨pos, A, c, rfl, rfl, hcw, hpl, HC, HB, HV⟩ := hrel
                  obtain ⟨hfc, hfl⟩ := fold_chk hc0' hc1' (by omega) pos
                  by_cases hp : pos < l1.length
                  · have hp' : decide ((pos : Int) < (l1.length : Int)) = true := by simp; omega
                    have p1 : 0 ≤ (pos : Int) := by omega
                    have p2 : (pos : Int) < (l1.length : Int) := by omega
                    obtain ⟨ad, e0, hy0, hy1, hy2, hy3⟩ := at_T24 (Kd.C_below HR1.out HB.out) (pos : Int) p1 p2
                    cases e0
                    simp only [Int.toNat_natCast] at hy0 hy1 hy2 hy3
                    have hw1 : IntKind.i64.wrap ((pos : Int) + 1) = (pos : Int) + 1 := by rw [IntKind.wrap_i64]; omega
                    replace p1 := eq_true p1
                    replace p2 := eq_true p2
                    obtain ⟨W, hW⟩ : ∃ W, W = foldN l0 (l1.take pos) := ⟨_, rfl⟩
                    rw [← hW] at hfc hfl hcw HC ⊢
                    obtain ⟨n, hn⟩ : ∃ n, n = rd_T24 l1 (pos : Int) := ⟨_, rfl⟩
                    rw [← hn] at hy0 hy1 hy2 hy3
                    have hnext : (setN W n).1 = foldN l0 (l1.take (pos + 1)) := by rw [fold_take l0 l1 pos hp, ← hW, hn, rd_get l1 pos hp]
                    obtain ⟨ks, hks⟩ := (refGet_is hfc n.f0).rounds
                    have hsr := setN_ref hfc n (by omega)
                    rw [hsr] at hnext
                    simp only at hnext
                    have HN := Aside0.mk hnext
                    have HKS := Aside0.mk hks
                    clear hW hn hnext hsr hks
                    go_wp2_with fail
                    refine (refSet_reads A c W n (getN W n.f0) ks _ HC.out hcw (by omega) HKS.out).mono ?_
                    rw [HN.out]
                    rintro e w9 ⟨A9', c9', rfl, hc9', hC9, hb9⟩
                    have HB9 := Aside0.mk (below_step HB.out hb9)
                    have HV9 := Aside0.mk (Kd.R_below HV.out hb9)
                    have HC9 := Aside0.mk hC9
                    clear hb9 hC9 hy0 hy1 hy2 hy3
                    go_wp2_with fail
                    go_roundw
                    case rel => exact ⟨pos + 1, A9', c9', rfl, rfl, hc9', by omega, HC9, HB9, HV9⟩
                    case measure => simp only [intV]; omega
                  · have hp' : decide ((pos : Int) < (l1.length : Int)) = false := by simp; omega
                    have hpe : l1.take pos = l1 := List.take_of_length_le (by omega)
                    rw [hpe] at hfc hfl hcw HC ⊢
                    obtain ⟨kk2, hkk2⟩ := (join_is hc1' hc0' (by omega)).rounds
                    rw [fold_comm hc0' hc1' (by omega)] at hkk2
                    obtain ⟨W, hW⟩ : ∃ W, W = foldN l0 l1 := ⟨_, rfl⟩
                    have hxW : x = W := by rw [HXX.out, hW]
                    rw [← hW] at hfc hfl hcw HC hkk2 ⊢
                    subst hxW
                    obtain ⟨km, hkm⟩ := (same12 x (by omega)).rounds
                    have HK2 := Aside0.mk hkk2
                    have HKM := Aside0.mk hkm
                    clear hkk2 hkm hW hpe
                    go_wp2_with fail
                    refine (register_Join.calls kk2 A1 c1 l1 A0 c0 l0 x 0 _ (Kd.C_below HR1.out HB.out) hc1 (Kd.C_below HR0.out HB.out) hc0 HK2.out).mono ?_
                    rintro e w10 ⟨v13, rfl, hR10, hb10⟩
                    have HB10 := Aside0.mk (below_step HB.out hb10)
                    have HV10 := Aside0.mk (Kd.R_below HV.out hb10)
                    have HC10 := Aside0.mk (Kd.C_below HC.out hb10)
                    have HZ10 := Aside0.mk hR10
                    obtain ⟨A13, c13, rfl, hc13, _⟩ := Kd.R_reads hR10
                    clear hR10 hb10 HB HV HC
                    go_wp2_with fail
                    refine (hucksterref12_Same.calls km A9 c9 x A c x true _ (Kd.R_reads' HV10.out).2.2 hc9 HC10.out hcw HKM.out).mono ?_
                    rintro e w11 ⟨rfl, nd11, rfl⟩
                    go_wp2_with fail
                    refine (hucksterref12_Same.calls km A13 c13 x A c x true _ (Kd.C_drewN (Kd.R_reads' HZ10.out).2.2 _) hc13 (Kd.C_drewN HC10.out _) hcw HKM.out).mono ?_
                    rintro e w12 ⟨rfl, nd12, rfl⟩
                    go_wp2_with fail
                    refine (awake_call _).mono ?_
                    rintro e w13 ⟨rfl, hb13⟩
                    go_wp2_with fail
                    go_ret
                    first
                      | exact ⟨rfl, below_step (pw_below_drewN (pw_below_drewN HB10.out _) _) hb13⟩
                      | exact ⟨rfl, below_step (pw_below_drewN HB10.out _) hb13⟩
end
end Go.Proofs.Ytfnpiclioikjpaa.X

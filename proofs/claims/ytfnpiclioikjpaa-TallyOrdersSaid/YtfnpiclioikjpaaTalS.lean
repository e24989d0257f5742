/- Tallies: adds in any order. -/
import Derived.Test.YtfnpiclioikjpaaTalRow
import Derived.Test.YtfnpiclioikjpaaXtallySame
set_option linter.unusedSimpArgs false
set_option linter.unusedVariables false
namespace Go.Proofs.Ytfnpiclioikjpaa.X
open Go.RowKit Go.Proofs.YtfnpiclioikjpaaW.PrintWords Go.Proofs.YtfnpiclioikjpaaW.PrintLast Go.Proofs.YtfnpiclioikjpaaW.PrintMore

theorem setV_ord {a : List Ct} (ho : OrdK (ksCell a)) (key : ByteArray) (v : Int) : OrdK (ksCell (setV a key v)) := by
  have sub : ∀ m, List.Sublist m a → OrdK (ksCell m) := fun m hm => List.Pairwise.sublist (hm.map _) ho
  unfold setV
  have hb := before_posCell a key
  have hf := after_posCell ho key
  have mid : ∀ r : List Ct, List.Sublist (a.take (posK (ksCell a) key) ++ r) a → (∀ x ∈ r, blt key x.f0 = true) → OrdK (ksCell (a.take (posK (ksCell a) key) ++ ⟨key, v⟩ :: r)) := by
    intro r hr hk
    have h1 := sub _ hr
    unfold OrdK ksCell at h1 ⊢
    rw [List.map_append, List.pairwise_append] at h1
    rw [List.map_append, List.pairwise_append, List.map_cons, List.pairwise_cons]
    refine ⟨h1.1, ⟨fun k hk' => ?_, h1.2.1⟩, fun u hu k hk' => ?_⟩
    · obtain ⟨x, hx, rfl⟩ := List.mem_map.1 hk'
      exact hk x hx
    · obtain ⟨x, hx, rfl⟩ := List.mem_map.1 hu
      rcases List.mem_cons.1 hk' with rfl | hk'
      · exact hb x hx
      · exact h1.2.2 _ hu _ hk'
  have cut : List.Sublist (a.take (posK (ksCell a) key) ++ a.drop (posK (ksCell a) key + 1)) a := by
    rw [← List.eraseIdx_eq_take_drop_succ]
    exact List.eraseIdx_sublist ..
  cases hh : hasCell a key with
  | true =>
    obtain ⟨hp, hk⟩ := has_yesCell hh
    simp only [if_true]
    split
    · exact sub _ cut
    · refine mid _ cut (fun x hx => ?_)
      obtain ⟨j, hj, rfl⟩ := List.mem_iff_getElem.1 hx
      rw [List.length_drop] at hj
      rw [List.getElem_drop]
      have h2 := ordK_get ho (posK (ksCell a) key) (posK (ksCell a) key + 1 + j) (by omega) (by rw [ks_lenCell]; omega)
      have h3 : blt (a[posK (ksCell a) key]).f0 (a[posK (ksCell a) key + 1 + j]).f0 = true := by simpa [ksCell] using h2
      rw [hk] at h3
      exact h3
  | false =>
    have hno := has_noCell ho hh
    simp only [Bool.false_eq_true, if_false]
    split
    · exact ho
    · refine mid _ (by rw [List.take_append_drop]; exact List.Sublist.refl _) (fun x hx => ?_)
      have h1 := hf x hx
      cases hc : blt key x.f0 with
      | true => rfl
      | false => exact absurd (blt_tri h1 hc) (hno x (List.mem_of_mem_drop hx))
theorem setV_le (a : List Ct) (key : ByteArray) (v : Int) : (setV a key v).length ≤ a.length + 1 := by
  unfold setV
  split
  · split
    · simp only [List.length_append, List.length_take, List.length_drop]; omega
    · omega
  · split
    · simp only [List.length_append, List.length_cons, List.length_take, List.length_drop]; omega
    · simp only [List.length_append, List.length_cons, List.length_take, List.length_drop]; omega
/-- An add that may be is done. -/
theorem add_ok {a : List Ct} (ha : chkC a = true) {key : ByteArray} {n v : Int} (hk : keyOk key n = true) (hv : Has a key v) (hs : v + n ≤ 1099511627776 ∧ -1099511627776 ≤ v + n) (hl : a.length < 4000) :
    tally_Add.f a key n = some (putC a key n, 0) ∧ chkC (putC a key n) = true ∧ (putC a key n).length ≤ a.length + 1 := by
  obtain ⟨h1, h2, h3⟩ := (chkC_iff a).1 ha
  have hb : -9223372036854775808 ≤ v + n ∧ v + n ≤ 9223372036854775807 := by omega
  have hp := put_setV h3 hv hb (chkC_nz ha)
  have hm := mem_put h3 hv hb (chkC_nz ha)
  have hle : (putC a key n).length ≤ a.length + 1 := by rw [hp]; exact setV_le ..
  have hk' := hk
  unfold keyOk at hk'
  simp only [Bool.and_eq_true, Bool.not_eq_true', beq_eq_false_iff_ne, decide_eq_true_eq] at hk'
  have hq : chkC (putC a key n) = true := by
    refine (chkC_iff _).2 ⟨by omega, fun x hx => ?_, by rw [hp]; exact setV_ord h3 _ _⟩
    rcases (hm x).1 hx with ⟨hx, _⟩ | ⟨e, e1, e2⟩
    · exact h2 x hx
    · refine ⟨?_, by rw [e]; exact hk'.1⟩
      unfold okC numOk
      rw [e, e1, decide_eq_true hk'.2.1, beq_eq_false_iff_ne.2 e2, decide_eq_true hs.1, decide_eq_true hs.2]
      rfl
  refine ⟨?_, hq, hle⟩
  unfold tally_Add.f
  rw [ha, hk, Bool.and_self, if_pos rfl, hq, if_pos rfl]

/-- What a key gets in all. -/
def one (c : Ct) (key : ByteArray) : Int := if keyOk c.f0 c.f1 = true ∧ key = c.f0 then c.f1 else 0
def sumK (key : ByteArray) : List Ct → Int
  | [] => 0
  | c :: l => one c key + sumK key l
theorem sumK_append (key : ByteArray) (l m : List Ct) : sumK key (l ++ m) = sumK key l + sumK key m := by
  induction l with
  | nil => simp [sumK]
  | cons c l ih => simp only [List.cons_append, sumK, ih]; omega
theorem sumK_perm (key : ByteArray) {l m : List Ct} (h : List.Perm l m) : sumK key l = sumK key m := by
  induction h with
  | nil => rfl
  | cons x _ ih => simp only [sumK, ih]
  | swap x y l => simp only [sumK]; omega
  | trans _ _ h1 h2 => exact h1.trans h2
theorem one_small (c : Ct) (key : ByteArray) : one c key ≤ 1000 ∧ -1000 ≤ one c key := by
  unfold one
  split
  · rename_i h
    exact keyOk_num h.1
  · omega
theorem sumK_small (key : ByteArray) (l : List Ct) : sumK key l ≤ 1000 * (l.length : Int) ∧ -1000 * (l.length : Int) ≤ sumK key l := by
  induction l with
  | nil => simp [sumK]
  | cons c l ih =>
    have := one_small c key
    simp only [sumK, List.length_cons]
    omega
/-- A tally that bears the sums of a list. -/
structure Bears (l : List Ct) (a : List Ct) : Prop where
  ok : chkC a = true
  len : a.length ≤ l.length
  has : ∀ key, Has a key (sumK key l)
theorem Bears.nil : Bears [] [] := ⟨(by decide), Nat.le_refl _, fun key => .inr ⟨rfl, fun x h => by cases h⟩⟩
theorem Bears.add {l a : List Ct} (h : Bears l a) (c : Ct) (hl : l.length ≤ 100) :
    ∃ x e, tally_Add.f a c.f0 c.f1 = some (x, e) ∧ ((e = 0 ∧ Bears (l ++ [c]) x) ∨ (e ≠ 0 ∧ Bears (l ++ [c]) a)) := by
  have hlen := h.len
  cases hk : keyOk c.f0 c.f1 with
  | false =>
    refine ⟨[], 1, ?_, .inr ⟨by decide, h.ok, by simp; omega, fun key => ?_⟩⟩
    · unfold tally_Add.f
      rw [hk, Bool.and_false, if_neg (by decide)]
    · rw [sumK_append]
      have : sumK key [c] = 0 := by simp [sumK, one, hk]
      rw [this, Int.add_zero]
      exact h.has key
  | true =>
    have hs := sumK_small c.f0 l
    have h2 := keyOk_num hk
    have hv := h.has c.f0
    obtain ⟨h3, h4, h5⟩ := add_ok h.ok hk hv (by omega) (by omega)
    refine ⟨_, 0, h3, .inl ⟨rfl, h4, by simp; omega, fun key => ?_⟩⟩
    have hb : -9223372036854775808 ≤ sumK c.f0 l + c.f1 ∧ sumK c.f0 l + c.f1 ≤ 9223372036854775807 := by omega
    have hp := has_put ((chkC_iff a).1 h.ok).2.2 hv hb (chkC_nz h.ok) (h.has key)
    rw [sumK_append]
    have : sumK key [c] = if key = c.f0 then c.f1 else 0 := by
      simp only [sumK, one, hk, true_and, Int.add_zero]
    rw [this]
    split at hp
    · rename_i e
      rw [if_pos e]; exact hp
    · rename_i e
      rw [if_neg e, Int.add_zero]; exact hp
theorem Bears.one {l m a b : List Ct} (h : Bears l a) (k : Bears m b) (e : List.Perm l m) : a = b := by
  have sub : ∀ {l m a b : List Ct}, Bears l a → Bears m b → List.Perm l m → ∀ x, x ∈ a → x ∈ b := by
    intro l m a b h k e x hx
    have h1 : Has a x.f0 x.f1 := .inl ⟨x, hx, rfl, rfl⟩
    have h2 := Has.one ((chkC_iff a).1 h.ok).2.2 h1 (h.has x.f0)
    have h3 := k.has x.f0
    rw [← sumK_perm x.f0 e, ← h2] at h3
    rcases h3 with ⟨y, hy, e1, e2⟩ | ⟨e1, _⟩
    · have : x = y := by
        cases x; cases y
        simp only at e1 e2
        rw [e1, e2]
      rw [this]; exact hy
    · exact absurd e1 (chkC_nz h.ok x hx)
  exact ord_extCell a b ((chkC_iff a).1 h.ok).2.2 ((chkC_iff b).1 k.ok).2.2 (fun x => ⟨sub h k e x, sub k h e.symm x⟩)
theorem sameT_from (a : List Ct) (hl : a.length ≤ 1000000) : ∀ (n pos : Nat), pos + n = a.length → Ev (fun k => api_Cell_63.l0 k a a (a.length : Int) (pos : Int)) true := by
  intro n
  induction n with
  | zero =>
    intro pos hp
    refine Ev.succ ?_
    simp only [api_Cell_63.l0]
    exact Ev.no (by omega) (Ev.now _)
  | succ n ih =>
    intro pos hp
    refine Ev.succ ?_
    simp only [api_Cell_63.l0]
    rw [wrap_up pos (by omega)]
    exact Ev.yes (by omega) (Ev.yes (by omega) (Ev.yes (by omega) (Ev.yes (by omega) (Ev.no (by simp) (ih (pos + 1) (by omega))))))
theorem sameT_is (a : List Ct) (hl : a.length ≤ 1000000) : Ev (fun k => tally_Same.f k a a) true := by
  unfold tally_Same.f api_Cell_63.f
  exact Ev.bind (Ev.yes rfl (sameT_from a hl a.length 0 (by omega))) (Ev.now _)
end Go.Proofs.Ytfnpiclioikjpaa.X

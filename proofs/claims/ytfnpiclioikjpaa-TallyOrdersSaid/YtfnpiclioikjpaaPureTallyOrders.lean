/- The pure statement of the law. -/
import Derived.Test.YtfnpiclioikjpaaTalS
import Derived.Test.YtfnpiclioikjpaaXTO
set_option linter.unusedSimpArgs false
set_option linter.unusedVariables false
namespace Go.Proofs.Ytfnpiclioikjpaa.Pure
open Go.RowKit Go.Proofs.Ytfnpiclioikjpaa.X Go.Proofs.YtfnpiclioikjpaaW.PrintWords Go.Proofs.YtfnpiclioikjpaaW.PrintLast Go.Proofs.YtfnpiclioikjpaaW.PrintMore

theorem take_out (R left : List Ct) (i : Nat) (h : i < left.length) : List.Perm ((R ++ [left[i]]) ++ (left.take i ++ left.drop (i + 1))) (R ++ left) := by
  rw [List.append_assoc]
  refine List.Perm.append_left R ?_
  have h1 : left = left.take i ++ left[i] :: left.drop (i + 1) := by rw [List.getElem_cons_drop, List.take_append_drop]
  conv => rhs; rw [h1]
  exact (List.perm_middle (a := left[i]) (l₁ := left.take i) (l₂ := left.drop (i + 1))).symm
theorem orders_loop (l : List Ct) (hl : l.length ≤ 60) (t : List Int) (ht : t.length ≤ 100) (gt : ∀ z ∈ t, 0 ≤ z ∧ z ≤ 255) :
    ∀ (m pos : Nat) (a b left R : List Ct), pos + m = l.length → Bears (l.take pos) a → Bears R b → List.Perm (R ++ left) l → left.length = m →
      Ev (fun k => TO.l0 k l t a b left (pos : Int)) true := by
  intro m
  induction m with
  | zero =>
    intro pos a b left R hp ha hb hperm hleft
    have hln : left = [] := List.eq_nil_of_length_eq_zero hleft
    subst hln
    rw [List.append_nil] at hperm
    rw [List.take_of_length_le (by omega)] at ha
    have hab : a = b := ha.one hb hperm.symm
    subst hab
    have := ha.len
    refine Ev.succ ?_
    simp only [TO.l0]
    exact Ev.no (by omega) (Ev.bind (sameT_is a (by omega)) (Ev.yes rfl (Ev.bind (sameC_is a (by omega)) (Ev.yes rfl (Ev.bind awake10 (Ev.now _))))))
  | succ m ih =>
    intro pos a b left R hp ha hb hperm hleft
    have hRl : R.length + left.length = l.length := by rw [← List.length_append]; exact hperm.length_eq
    have ew : wrap64 ((pos : Int) + 1) = ((pos + 1 : Nat) : Int) := wrap_up pos (by omega)
    have hx : rd_T47 l (pos : Int) = l[pos]'(by omega) := rd_getCell l pos (by omega)
    have et : l.take (pos + 1) = l.take pos ++ [l[pos]'(by omega)] := by rw [List.take_append_getElem]
    -- behind the first add
    have next : ∀ a' : List Ct, Bears (l.take (pos + 1)) a' → Ev (fun k => TO.j2 k l t a' b left (pos : Int)) true := by
      intro a' ha'
      -- behind the second one, with the i-th taken out
      have fin : ∀ (i : Nat) (hi : i < left.length) (b' : List Ct), Bears (R ++ [left[i]]) b' → Ev (fun k => TO.l0 k l t a' b' (left.take i ++ left.drop (i + 1)) ((pos + 1 : Nat) : Int)) true := by
        intro i hi b' hb'
        refine ih (pos + 1) a' b' _ _ (by omega) ha' hb' ((take_out R left i hi).trans hperm) ?_
        simp only [List.length_append, List.length_take, List.length_drop]
        omega
      refine Ev.succ ?_
      simp only [TO.j2]
      by_cases hpt : (pos : Int) < (t.length : Int)
      · refine Ev.yes hpt (Ev.yes (by omega) (Ev.no (by omega) ?_))
        obtain ⟨z, hz, g1, g2⟩ : ∃ z, rd t (pos : Int) = z ∧ 0 ≤ z ∧ z ≤ 255 := by
          refine ⟨t[pos]'(by omega), ?_, gt _ (List.getElem_mem _)⟩
          unfold rd
          simp [List.getD, show pos < t.length by omega]
        have ewz : wrap64 z = z := by unfold wrap64; omega
        obtain ⟨i, em, hm⟩ : ∃ i : Nat, Int.tmod z (left.length : Int) = (i : Int) ∧ i < left.length := by
          refine ⟨z.toNat % left.length, ?_, Nat.mod_lt _ (by omega)⟩
          obtain ⟨q, rfl⟩ : ∃ q : Nat, z = (q : Int) := ⟨z.toNat, by omega⟩
          rw [Int.tmod_eq_emod_of_nonneg g1, Int.toNat_natCast]
          exact (Int.natCast_emod q left.length).symm
        rw [hz, ewz, em]
        have hxi : rd_T47 left (i : Int) = left[i] := rd_getCell left i hm
        have ewi : wrap64 ((i : Int) + 1) = ((i + 1 : Nat) : Int) := wrap_up i (by omega)
        simp only [hxi, ewi, ew, Int.toNat_natCast]
        clear em ewz hz g1 g2 gt
        refine Ev.yes (by omega) ?_
        refine Ev.yes (by omega) ?_
        have hR100 : R.length ≤ 100 := by omega
        obtain ⟨x, e, hs, h | h⟩ := hb.add left[i] hR100
        · refine Ev.bind1 hs ?_
          refine Ev.yes h.1 ?_
          refine Ev.bind1 rfl ?_
          refine Ev.yes (by omega) ?_
          refine Ev.bind1 rfl ?_
          refine Ev.yes (by simp; omega) ?_
          refine Ev.bind1 rfl ?_
          refine Ev.yes (by omega) ?_
          refine Ev.yes (by omega) ?_
          refine Ev.bind1 rfl ?_
          refine Ev.yes (by simp; omega) ?_
          exact fin i hm x h.2
        · refine Ev.bind1 hs ?_
          refine Ev.no h.1 ?_
          refine Ev.bind1 rfl ?_
          refine Ev.yes (by omega) ?_
          refine Ev.bind1 rfl ?_
          refine Ev.yes (by simp; omega) ?_
          refine Ev.bind1 rfl ?_
          refine Ev.yes (by omega) ?_
          refine Ev.yes (by omega) ?_
          refine Ev.bind1 rfl ?_
          refine Ev.yes (by simp; omega) ?_
          exact fin i hm b h.2
      · refine Ev.no hpt (Ev.yes (by omega) ?_)
        have hxi : rd_T47 left 0 = left[0]'(by omega) := rd_getCell left 0 (by omega)
        simp only [hxi, ew]
        obtain ⟨x, e, hs, h | h⟩ := hb.add (left[0]'(by omega)) (by omega)
        · refine Ev.bind1 hs ?_
          refine Ev.yes h.1 ?_
          refine Ev.bind1 rfl ?_
          refine Ev.yes (by omega) ?_
          refine Ev.bind1 rfl ?_
          refine Ev.yes (by simp) ?_
          refine Ev.bind1 rfl ?_
          refine Ev.yes (by omega) ?_
          refine Ev.yes (by omega) ?_
          refine Ev.bind1 rfl ?_
          refine Ev.yes (by simp; omega) ?_
          exact fin 0 (by omega) x h.2
        · refine Ev.bind1 hs ?_
          refine Ev.no h.1 ?_
          refine Ev.bind1 rfl ?_
          refine Ev.yes (by omega) ?_
          refine Ev.bind1 rfl ?_
          refine Ev.yes (by simp) ?_
          refine Ev.bind1 rfl ?_
          refine Ev.yes (by omega) ?_
          refine Ev.yes (by omega) ?_
          refine Ev.bind1 rfl ?_
          refine Ev.yes (by simp; omega) ?_
          exact fin 0 (by omega) b h.2
    refine Ev.succ ?_
    simp only [TO.l0]
    refine Ev.yes (by omega) (Ev.yes (by omega) ?_)
    simp only [hx]
    obtain ⟨x, e, hs, h | h⟩ := ha.add (l[pos]'(by omega)) (by rw [List.length_take]; omega)
    · refine Ev.bind1 hs (Ev.yes h.1 (next x (by rw [et]; exact h.2)))
    · refine Ev.bind1 hs (Ev.no h.1 (next a (by rw [et]; exact h.2)))
theorem TallyOrders (l0 : List S47) (h0 : l0.length ≤ 9223372036854775807) (l1 : List Int) (g1 : ∀ z ∈ l1, 0 ≤ z ∧ z ≤ 255) : ∃ k, TO.f k l0 l1 = some true := by
  have h : Ev (fun k => TO.f k l0 l1) true := by
    unfold TO.f
    obtain ⟨b, hb, hl⟩ := light10 l0
    refine Ev.bind hb ?_
    have aw : Ev (fun k => TO.j0 k l0 l1 true) true := by
      refine Ev.succ ?_
      simp only [TO.j0]
      exact Ev.yes (by simp) (Ev.bind awake10 (Ev.now _))
    cases b with
    | false => exact Ev.no (by simp) aw
    | true =>
      have hl := hl rfl
      refine Ev.yes (by simp) ?_
      by_cases h1 : (l1.length : Int) > 100
      · rw [decide_eq_true h1]; exact aw
      · rw [decide_eq_false h1]
        refine Ev.succ ?_
        simp only [TO.j0]
        refine Ev.no (by simp) (Ev.bind1 rfl (Ev.yes (by simp; omega) ?_))
        exact orders_loop l0 hl l1 (by omega) g1 l0.length 0 [] [] _ [] (by omega) (by simpa using Bears.nil) Bears.nil (by simp) rfl
  exact h.rounds
end Go.Proofs.Ytfnpiclioikjpaa.Pure

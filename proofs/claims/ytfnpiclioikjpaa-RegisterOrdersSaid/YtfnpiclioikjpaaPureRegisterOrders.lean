/- The pure statement of the law. -/
import Derived.Test.YtfnpiclioikjpaaRegL
import Derived.Test.YtfnpiclioikjpaaXhucksterlaw12RegisterOrders
set_option linter.unusedSimpArgs false
set_option linter.unusedVariables false
namespace Go.Proofs.Ytfnpiclioikjpaa.Pure
open Go.RowKit Go.Proofs.Ytfnpiclioikjpaa.X Go.Proofs.YtfnpiclioikjpaaW.PrintWords Go.Proofs.YtfnpiclioikjpaaW.PrintLast Go.Proofs.YtfnpiclioikjpaaW.PrintMore

theorem orders2 (l : List Nt) (hl : l.length ≤ 60) (hok : ∀ x ∈ l, okN x = true) (a : List Nt) (ha : Best (fun x => x ∈ l) a) (hal : a.length ≤ 60) :
    ∀ (n : Nat) (T : Nt → Prop) (b : List Nt), n ≤ l.length → Best T b → (∀ x, T x → x ∈ l) → (∀ j (hj : j < l.length), n ≤ j → T l[j]) → b.length ≤ 200 + (l.length - n) →
      Ev (fun k => hucksterlaw12_RegisterOrders.l2 k l a b ((n : Int) - 1)) true := by
  intro n
  induction n with
  | zero =>
    intro T b _ hb hT hall hbl
    have hb' : Best (fun x => x ∈ l) b := hb.congr fun x => ⟨hT x, fun h => by
      obtain ⟨j, hj, rfl⟩ := List.mem_iff_getElem.1 h
      exact hall j hj (by omega)⟩
    have hab : a = b := ha.one hb'
    subst hab
    refine Ev.succ ?_
    simp only [hucksterlaw12_RegisterOrders.l2]
    refine Ev.no (by omega) (Ev.bind (same12 a (by omega)) (Ev.yes rfl (Ev.bind awake12 (Ev.now _))))
  | succ n ih =>
    intro T b hn hb hT hall hbl
    have e : ((n + 1 : Nat) : Int) - 1 = (n : Int) := by omega
    rw [e]
    refine Ev.succ ?_
    simp only [hucksterlaw12_RegisterOrders.l2]
    refine Ev.yes (by omega) (Ev.yes (by omega) (Ev.yes (by omega) ?_))
    have hx : rd_T24 l (n : Int) = l[n] := rd_get l n (by omega)
    have hin : l[n] ∈ l := List.getElem_mem ..
    obtain ⟨b', h1, h2, h3⟩ := hb.set l[n] (hok _ hin) (by omega)
    rw [hx]
    refine Ev.bind1 h1 ?_
    have ew : wrap64 ((n : Int) - 1) = (n : Int) - 1 := by unfold wrap64; omega
    simp only [ew]
    refine ih _ b' (by omega) h3 ?_ ?_ (by omega)
    · rintro x (h | rfl)
      · exact hT x h
      · exact hin
    · intro j hj hnj
      rcases Nat.eq_or_lt_of_le hnj with rfl | h
      · exact .inr rfl
      · exact .inl (hall j hj (by omega))
theorem orders1 (l : List Nt) (hl : l.length ≤ 60) (hok : ∀ x ∈ l, okN x = true) (a : List Nt) (ha : Best (fun x => x ∈ l) a) (hal : a.length ≤ 60) (t : List Int) (ht : t.length ≤ 100) (gt : ∀ z ∈ t, 0 ≤ z ∧ z ≤ 255) :
    ∀ (n pos : Nat) (T : Nt → Prop) (b : List Nt), pos + n = t.length → Best T b → (∀ x, T x → x ∈ l) → b.length ≤ pos →
      Ev (fun k => hucksterlaw12_RegisterOrders.l1 k l t a b (pos : Int)) true := by
  have last : ∀ (T : Nt → Prop) (b : List Nt), Best T b → (∀ x, T x → x ∈ l) → b.length ≤ 100 → Ev (fun k => hucksterlaw12_RegisterOrders.j3 k l a b) true := by
    intro T b hb hT hbl
    refine Ev.succ ?_
    simp only [hucksterlaw12_RegisterOrders.j3]
    have ew : wrap64 ((l.length : Int) - 1) = (l.length : Int) - 1 := by unfold wrap64; omega
    simp only [ew]
    exact orders2 l hl hok a ha hal l.length T b (Nat.le_refl _) hb hT (fun j hj h => absurd h (by omega)) (by omega)
  intro n
  induction n with
  | zero =>
    intro pos T b hp hb hT hbl
    refine Ev.succ ?_
    simp only [hucksterlaw12_RegisterOrders.l1]
    exact Ev.no (by omega) (last T b hb hT (by omega))
  | succ n ih =>
    intro pos T b hp hb hT hbl
    refine Ev.succ ?_
    simp only [hucksterlaw12_RegisterOrders.l1]
    refine Ev.yes (by omega) ?_
    by_cases h0 : (l.length : Int) > 0
    · refine Ev.yes h0 (Ev.yes (by omega) (Ev.no (by omega) ?_))
      have hrd : rd t (pos : Int) = t[pos]'(by omega) := by
        unfold rd
        simp [List.getD, show pos < t.length by omega]
      obtain ⟨g1, g2⟩ := gt _ (List.getElem_mem (by omega : pos < t.length))
      have ew : wrap64 (t[pos]'(by omega)) = t[pos]'(by omega) := by unfold wrap64; omega
      rw [hrd, ew]
      generalize t[pos]'(by omega) = z at *
      have em : Int.tmod z (l.length : Int) = ((z.toNat % l.length : Nat) : Int) := by
        obtain ⟨m, rfl⟩ : ∃ m : Nat, z = (m : Int) := ⟨z.toNat, by omega⟩
        rw [Int.tmod_eq_emod_of_nonneg g1, Int.toNat_natCast]
        exact (Int.natCast_emod m l.length).symm
      have hm : z.toNat % l.length < l.length := Nat.mod_lt _ (by omega)
      rw [em]
      generalize z.toNat % l.length = i at *
      refine Ev.yes (by omega) (Ev.yes (by omega) ?_)
      have hx : rd_T24 l (i : Int) = l[i] := rd_get l i hm
      have hin : l[i] ∈ l := List.getElem_mem ..
      obtain ⟨b', h1, h2, h3⟩ := hb.set l[i] (hok _ hin) (by omega)
      rw [hx]
      refine Ev.bind1 h1 ?_
      rw [wrap_up pos (by omega)]
      refine ih (pos + 1) _ b' (by omega) h3 ?_ (by omega)
      rintro x (h | rfl)
      · exact hT x h
      · exact hin
    · exact Ev.no h0 (last T b hb hT (by omega))
theorem orders0 (l : List Nt) (hl : l.length ≤ 60) (t : List Int) (ht : t.length ≤ 100) (gt : ∀ z ∈ t, 0 ≤ z ∧ z ≤ 255) :
    ∀ (n pos : Nat) (a : List Nt), pos + n = l.length → (∀ x ∈ l.take pos, okN x = true) → Best (fun x => x ∈ l.take pos) a → a.length ≤ pos →
      Ev (fun k => hucksterlaw12_RegisterOrders.l0 k l t a [] (pos : Int)) true := by
  intro n
  induction n with
  | zero =>
    intro pos a hp hok ha hal
    refine Ev.succ ?_
    simp only [hucksterlaw12_RegisterOrders.l0]
    have et : l.take pos = l := List.take_of_length_le (by omega)
    rw [et] at hok ha
    exact Ev.no (by omega) (orders1 l hl hok a ha (by omega) t ht gt t.length 0 (fun _ => False) [] (by omega) Best.nil (fun _ h => h.elim) (by simp))
  | succ n ih =>
    intro pos a hp hok ha hal
    refine Ev.succ ?_
    simp only [hucksterlaw12_RegisterOrders.l0]
    have hx : rd_T24 l (pos : Int) = l[pos]'(by omega) := rd_get l pos (by omega)
    refine Ev.yes (by omega) (Ev.yes (by omega) (Ev.bind1 (one_is _) ?_))
    rw [hx]
    have et : l.take (pos + 1) = l.take pos ++ [l[pos]'(by omega)] := by rw [List.take_append_getElem]
    cases hn : okN (l[pos]'(by omega)) with
    | false => exact Ev.no (by simp) (Ev.bind awake12 (Ev.now _))
    | true =>
      obtain ⟨a', h1, h2, h3⟩ := ha.set (l[pos]'(by omega)) hn (by omega)
      refine Ev.yes rfl (Ev.bind1 h1 ?_)
      rw [wrap_up pos (by omega)]
      refine ih (pos + 1) a' (by omega) ?_ (h3.congr fun x => by simp only [et, List.mem_append, List.mem_singleton]) (by omega)
      intro x hx
      rw [et] at hx
      rcases List.mem_append.1 hx with hx | hx
      · exact hok x hx
      · rw [List.mem_singleton.1 hx]; exact hn
theorem RegisterOrders (l0 : List S24) (h0 : l0.length ≤ 9223372036854775807) (l1 : List Int) (g1 : ∀ z ∈ l1, 0 ≤ z ∧ z ≤ 255) : ∃ k, hucksterlaw12_RegisterOrders.f k l0 l1 = some true := by
  have h : Ev (fun k => hucksterlaw12_RegisterOrders.f k l0 l1) true := by
    unfold hucksterlaw12_RegisterOrders.f
    obtain ⟨b, hb, hl⟩ := light12 l0
    refine Ev.bind hb ?_
    have aw : Ev (fun k => hucksterlaw12_RegisterOrders.j0 k l0 l1 true) true := by
      refine Ev.succ ?_
      simp only [hucksterlaw12_RegisterOrders.j0]
      exact Ev.yes (by simp) (Ev.bind awake12 (Ev.now _))
    cases b with
    | false => exact Ev.no (by simp) aw
    | true =>
      refine Ev.yes (by simp) ?_
      by_cases h1 : (l1.length : Int) > 100
      · rw [decide_eq_true h1]; exact aw
      · rw [decide_eq_false h1]
        refine Ev.succ ?_
        simp only [hucksterlaw12_RegisterOrders.j0]
        exact Ev.no (by simp) (orders0 l0 (hl rfl) l1 (by omega) g1 l0.length 0 [] (by omega) (by simp) (Best.nil.congr fun x => by simp) (by simp))
  exact h.rounds
end Go.Proofs.Ytfnpiclioikjpaa.Pure

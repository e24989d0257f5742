/- The pure statement of the law. -/
import Derived.Test.YtfnpiclioikjpaaRegL
import Derived.Test.YtfnpiclioikjpaaXhucksterlaw12RegisterLast
set_option linter.unusedSimpArgs false
set_option linter.unusedVariables false
namespace Go.Proofs.Ytfnpiclioikjpaa.Pure
open Go.RowKit Go.Proofs.Ytfnpiclioikjpaa.X Go.Proofs.YtfnpiclioikjpaaW.PrintWords Go.Proofs.YtfnpiclioikjpaaW.PrintLast Go.Proofs.YtfnpiclioikjpaaW.PrintMore

theorem nt_eq {x y : Nt} (h : x.f0.toList = y.f0.toList) (h1 : x.f1 = y.f1) (h2 : x.f2 = y.f2) (h3 : x.f3.toList = y.f3.toList) : x = y := by
  have e0 := bytes_eq h
  have e3 := bytes_eq h3
  cases x; cases y
  simp only at *
  subst e0; subst h1; subst h2; subst e3; rfl
theorem bytes_ne {a b : ByteArray} : a.toList = b.toList ↔ a = b := ⟨bytes_eq, fun h => by rw [h]⟩

/-- Where there is such a note. -/
theorem last_yes (l : List Nt) (hl : l.length ≤ 60) (key : ByteArray) (n : Nt) (hk : n.f0 = key) (htop : ∀ y ∈ l, okN y = true → y.f0 = key → ltrN y n = false) (hin : n ∈ l) (hok : okN n = true) :
    ∀ (m pos : Nat) (some : Bool), pos + m = l.length → (some = true ∨ n ∈ l.drop pos) →
      Ev (fun k => hucksterlaw12_RegisterLast.l1 k l key true some (pos : Int) n.f0 n.f1 n.f2 n.f3) true := by
  intro m
  induction m with
  | zero =>
    intro pos some hp hs
    refine Ev.succ ?_
    simp only [hucksterlaw12_RegisterLast.l1]
    refine Ev.no (by omega) ?_
    have : some = true := by
      rcases hs with h | h
      · exact h
      · rw [List.drop_eq_nil_of_le (by omega)] at h; cases h
    subst this
    exact Ev.yes (by decide) (Ev.bind awake12 (Ev.now _))
  | succ m ih =>
    intro pos some hp hs
    have hx : rd_T24 l (pos : Int) = l[pos]'(by omega) := rd_get l pos (by omega)
    have hd : l.drop pos = l[pos]'(by omega) :: l.drop (pos + 1) := (List.getElem_cons_drop ..).symm
    have hmem : l[pos]'(by omega) ∈ l := List.getElem_mem ..
    have ew : wrap64 ((pos : Int) + 1) = ((pos + 1 : Nat) : Int) := wrap_up pos (by omega)
    have skip : (l[pos]'(by omega) ≠ n) → (some = true ∨ n ∈ l.drop (pos + 1)) := by
      intro hne
      rcases hs with h | h
      · exact .inl h
      · rw [hd] at h
        rcases List.mem_cons.1 h with e | h
        · exact absurd e.symm hne
        · exact .inr h
    refine Ev.succ ?_
    simp only [hucksterlaw12_RegisterLast.l1]
    refine Ev.yes (by omega) (Ev.yes (by omega) ?_)
    simp only [hx, ew]
    by_cases h1 : (l[pos]'(by omega)).f0 = key
    · refine Ev.yes (by rw [h1]) (Ev.bind1 (one_is _) ?_)
      cases h2 : okN (l[pos]'(by omega)) with
      | false =>
        refine Ev.succ ?_
        simp only [hucksterlaw12_RegisterLast.j3]
        refine Ev.yes (by decide) ?_
        rw [ew]
        exact ih (pos + 1) some (by omega) (skip fun e => by rw [e, hok] at h2; cases h2)
      | true =>
        refine Ev.succ ?_
        simp only [hucksterlaw12_RegisterLast.j3]
        refine Ev.no (by decide) ?_
        have hlt := htop _ hmem h2 h1
        have hl8 := later_is (l[pos]'(by omega)) n
        rw [hlt] at hl8
        simp only [hx, ew]
        cases hsm : some with
        | true =>
          refine Ev.yes rfl (Ev.yes (by decide) (Ev.yes (by omega) (Ev.yes (by omega) (Ev.bind1 hl8 (Ev.no (by decide) ?_)))))
          exact ih (pos + 1) true (by omega) (.inl rfl)
        | false =>
          refine Ev.no (by decide) (Ev.yes (by omega) (Ev.yes (by omega) (Ev.yes (by decide) (Ev.bind1 hl8 (Ev.no (by decide) ?_)))))
          refine ih (pos + 1) _ (by omega) ?_
          by_cases he : l[pos]'(by omega) = n
          · left; rw [he]; simp
          · rcases skip he with h | h
            · rw [hsm] at h; cases h
            · exact .inr h
    · refine Ev.no (fun e => h1 (bytes_eq e)) ?_
      refine Ev.succ ?_
      simp only [hucksterlaw12_RegisterLast.j3]
      refine Ev.yes (by decide) ?_
      rw [ew]
      exact ih (pos + 1) some (by omega) (skip fun e => h1 (by rw [e]; exact hk))
/-- Where there is none. -/
theorem last_no (l : List Nt) (hl : l.length ≤ 60) (key : ByteArray) (z0 : ByteArray) (z1 z2 : Int) (z3 : ByteArray) (hno : ∀ y ∈ l, okN y = true → y.f0 ≠ key) :
    ∀ (m pos : Nat), pos + m = l.length → Ev (fun k => hucksterlaw12_RegisterLast.l1 k l key false false (pos : Int) z0 z1 z2 z3) true := by
  intro m
  induction m with
  | zero =>
    intro pos hp
    refine Ev.succ ?_
    simp only [hucksterlaw12_RegisterLast.l1]
    exact Ev.no (by omega) (Ev.yes (by decide) (Ev.bind awake12 (Ev.now _)))
  | succ m ih =>
    intro pos hp
    have hx : rd_T24 l (pos : Int) = l[pos]'(by omega) := rd_get l pos (by omega)
    have hmem : l[pos]'(by omega) ∈ l := List.getElem_mem ..
    have ew : wrap64 ((pos : Int) + 1) = ((pos + 1 : Nat) : Int) := wrap_up pos (by omega)
    refine Ev.succ ?_
    simp only [hucksterlaw12_RegisterLast.l1]
    refine Ev.yes (by omega) (Ev.yes (by omega) ?_)
    simp only [hx, ew]
    by_cases h1 : (l[pos]'(by omega)).f0 = key
    · refine Ev.yes (by rw [h1]) (Ev.bind1 (one_is _) ?_)
      have h2 : okN (l[pos]'(by omega)) = false := by
        cases h : okN (l[pos]'(by omega)) with
        | false => rfl
        | true => exact absurd h1 (hno _ hmem h)
      rw [h2]
      refine Ev.succ ?_
      simp only [hucksterlaw12_RegisterLast.j3]
      refine Ev.yes (by decide) ?_
      rw [ew]
      exact ih (pos + 1) (by omega)
    · refine Ev.no (fun e => h1 (bytes_eq e)) ?_
      refine Ev.succ ?_
      simp only [hucksterlaw12_RegisterLast.j3]
      refine Ev.yes (by decide) ?_
      rw [ew]
      exact ih (pos + 1) (by omega)
theorem last0 (l : List Nt) (hl : l.length ≤ 60) (key : ByteArray) :
    ∀ (m pos : Nat) (a : List Nt), pos + m = l.length → Best (fun x => x ∈ l.take pos ∧ okN x = true) a → a.length ≤ pos →
      Ev (fun k => hucksterlaw12_RegisterLast.l0 k l key a (pos : Int)) true := by
  intro m
  induction m with
  | zero =>
    intro pos a hp ha hal
    refine Ev.succ ?_
    simp only [hucksterlaw12_RegisterLast.l0]
    refine Ev.no (by omega) ?_
    have et : l.take pos = l := List.take_of_length_le (by omega)
    rw [et] at ha
    have hck := ha.chk (by omega)
    have hfind : register_find.f a key = some (((posK (ksNote a) key : Nat) : Int), hasNote a key) := by
      unfold register_find.f
      rw [if_pos ⟨ha.ord, by omega⟩]
    cases hh : hasNote a key with
    | true =>
      obtain ⟨hpl, hk⟩ := has_yes hh
      have hget : Ev (fun k => register_Get.f k a key) ((a[posK (ksNote a) key]).f0, (a[posK (ksNote a) key]).f1, (a[posK (ksNote a) key]).f2, (a[posK (ksNote a) key]).f3, true) := by
        unfold register_Get.f
        have hc := check_is a
        rw [hck, if_pos rfl] at hc
        refine Ev.bind hc (Ev.yes rfl ?_)
        rw [hh] at hfind
        refine Ev.bind1 hfind (Ev.yes rfl (Ev.yes (by simp) (Ev.yes (by simp; omega) (Ev.is ?_))))
        rw [rd_get a _ hpl]
      refine Ev.bind hget ?_
      obtain ⟨⟨h1, h2⟩, h3⟩ := ha.top _ (List.getElem_mem hpl)
      exact last_yes l hl key (a[posK (ksNote a) key]) hk (fun y hy hyo hyk => h3 y ⟨hy, hyo⟩ (hyk.trans hk.symm)) h1 h2 l.length 0 false (by omega) (.inr h1)
    | false =>
      have hget : Ev (fun k => register_Get.f k a key) ((⟨#[]⟩ : ByteArray), (0 : Int), (0 : Int), (⟨#[]⟩ : ByteArray), false) := by
        unfold register_Get.f
        have hc := check_is a
        rw [hck, if_pos rfl] at hc
        refine Ev.bind hc (Ev.yes rfl ?_)
        rw [hh] at hfind
        exact Ev.bind1 hfind (Ev.no (by simp) (Ev.now _))
      refine Ev.bind hget ?_
      refine last_no l hl key _ _ _ _ (fun y hy hyo hyk => ?_) l.length 0 (by omega)
      obtain ⟨x, hx, he⟩ := ha.all y ⟨hy, hyo⟩
      exact has_no ha.ord hh x hx (he.trans hyk)
  | succ m ih =>
    intro pos a hp ha hal
    have hx : rd_T24 l (pos : Int) = l[pos]'(by omega) := rd_get l pos (by omega)
    have et : l.take (pos + 1) = l.take pos ++ [l[pos]'(by omega)] := by rw [List.take_append_getElem]
    refine Ev.succ ?_
    simp only [hucksterlaw12_RegisterLast.l0]
    refine Ev.yes (by omega) (Ev.yes (by omega) ?_)
    simp only [hx, wrap_up pos (show (pos : Int) < 9223372036854775807 by omega)]
    cases hn : okN (l[pos]'(by omega)) with
    | false =>
      have hs : register_Set.f a (l[pos]'(by omega)).f0 (l[pos]'(by omega)).f1 (l[pos]'(by omega)).f2 (l[pos]'(by omega)).f3 = some ([], 1) := by
        unfold register_Set.f
        rw [hn, Bool.and_false, if_neg (by decide)]
      refine Ev.bind1 hs (Ev.no (by simp) ?_)
      refine ih (pos + 1) a (by omega) (ha.congr fun x => ?_) (by omega)
      simp only [et, List.mem_append, List.mem_singleton]
      constructor
      · rintro ⟨h1, h2⟩; exact ⟨.inl h1, h2⟩
      · rintro ⟨h1 | h1, h2⟩
        · exact ⟨h1, h2⟩
        · rw [h1, hn] at h2; cases h2
    | true =>
      obtain ⟨a', h1, h2, h3⟩ := ha.set (l[pos]'(by omega)) hn (by omega)
      refine Ev.bind1 h1 (Ev.yes rfl ?_)
      refine ih (pos + 1) a' (by omega) (h3.congr fun x => ?_) (by omega)
      simp only [et, List.mem_append, List.mem_singleton]
      constructor
      · rintro (⟨h1, h2⟩ | h1)
        · exact ⟨.inl h1, h2⟩
        · exact ⟨.inr h1, by rw [h1]; exact hn⟩
      · rintro ⟨h1 | h1, h2⟩
        · exact .inl ⟨h1, h2⟩
        · exact .inr h1
theorem RegisterLast (l0 : List S24) (h0 : l0.length ≤ 9223372036854775807) (a1 : ByteArray) : ∃ k, hucksterlaw12_RegisterLast.f k l0 a1 = some true := by
  have h : Ev (fun k => hucksterlaw12_RegisterLast.f k l0 a1) true := by
    unfold hucksterlaw12_RegisterLast.f
    obtain ⟨b, hb, hl⟩ := light12 l0
    refine Ev.bind hb ?_
    have aw : Ev (fun k => hucksterlaw12_RegisterLast.j0 k l0 a1 true) true := by
      refine Ev.succ ?_
      simp only [hucksterlaw12_RegisterLast.j0]
      exact Ev.yes (by simp) (Ev.bind awake12 (Ev.now _))
    cases b with
    | false => exact Ev.no (by simp) aw
    | true =>
      refine Ev.yes (by simp) ?_
      by_cases h1 : (a1.size : Int) > 100
      · rw [decide_eq_true h1]; exact aw
      · rw [decide_eq_false h1]
        refine Ev.succ ?_
        simp only [hucksterlaw12_RegisterLast.j0]
        exact Ev.no (by simp) (last0 l0 (hl rfl) a1 l0.length 0 [] (by omega) (Best.nil.congr fun x => by simp) (by simp))
  exact h.rounds
end Go.Proofs.Ytfnpiclioikjpaa.Pure

/- The pure statement of the law: what stands behind a line feed changes no token of the lines ahead, nor whether there is one. -/
import Derived.Test.YtpbbiedpbegamaaXhucksterlaw14LexLines
import Derived.Test.YtpbbiedpbegamaaP6
set_option linter.unusedSimpArgs false
set_option linter.unusedVariables false
set_option linter.unusedSectionVars false
namespace Go.Proofs.Ytpbbiedpbegamaa.Pure
open Go.RowKit Go.Proofs.Ytpbbiedpbegamaa.X Go.Proofs.YtpbbiedpbegamaaW.PrintWords Go.Proofs.YtpbbiedpbegamaaW.PrintLast

def E3 (e : Int) : Prop := e = 0 ∨ e = 2 ∨ e = 7
theorem E3_over {n : Nat} {e : Int} (h : E3 e) : E3 (errOver n e) := by
  unfold errOver
  split
  · exact .inr (.inr rfl)
  · exact h
theorem E3_close (r : RS) (s : ByteArray) (q : Nat) (h : E3 r.er) : E3 (r.close s q).er ∧ r.xs <+: (r.close s q).xs := by
  unfold RS.close
  split
  · exact ⟨h, List.prefix_rfl⟩
  split
  · exact ⟨E3_over h, List.prefix_append _ _⟩
  split
  · exact ⟨E3_over h, List.prefix_append _ _⟩
  · exact ⟨.inr (.inl rfl), List.prefix_rfl⟩
theorem E3_one (r : RS) (c : Int) (h : E3 r.er) : E3 (r.one c).er ∧ r.xs <+: (r.one c).xs := by
  unfold RS.one
  split
  · exact ⟨h, List.prefix_rfl⟩
  split
  · exact ⟨E3_over h, List.prefix_append _ _⟩
  split
  · exact ⟨E3_over h, List.prefix_append _ _⟩
  split
  · exact ⟨E3_over h, List.prefix_append _ _⟩
  split
  · exact ⟨h, List.prefix_rfl⟩
  · exact ⟨.inr (.inl rfl), List.prefix_rfl⟩
theorem E3_step (r : RS) (s : ByteArray) (q : Nat) (c : Int) (h : E3 r.er) : E3 (r.step s q c).er ∧ r.xs <+: (r.step s q c).xs := by
  unfold RS.step
  have h1 := E3_close { r with nt := false } s q h
  split
  · have h2 := E3_one (({ r with nt := false } : RS).close s q) c h1.1
    exact ⟨h2.1, h1.2.trans h2.2⟩
  · exact h1
theorem step_line {r : RS} {s : ByteArray} {p : Nat} {c : Int} (h : RI r p) (he : (r.step s p c).er = 0) : r.line ≤ (r.step s p c).line := by
  have h2 := close_line (r := { r with nt := false }) s p
  have h4 := close_good (r := { r with nt := false }) s p h.len
  unfold RS.step at *
  split at he
  · rename_i h5
    rw [if_pos h5]
    have h6 := one_good c (h4 h5) he
    simp only at h2
    omega
  · rename_i h5
    exact absurd he h5
def FR (r : RS) : Prop := r.fr = -1 ∨ 0 ≤ r.fr
theorem FR_close {r : RS} (h : FR r) (s : ByteArray) (q : Nat) : (r.close s q).fr = -1 ∧ (r.close s q).nt = r.nt := by
  unfold RS.close
  split
  · rename_i h1
    exact ⟨h.resolve_right (by omega), rfl⟩
  split
  · exact ⟨rfl, rfl⟩
  split
  · exact ⟨rfl, rfl⟩
  · exact ⟨rfl, rfl⟩
theorem FR_one (r : RS) (c : Int) : (r.one c).fr = r.fr := by
  unfold RS.one
  split
  · rfl
  split
  · rfl
  split
  · rfl
  split
  · rfl
  split <;> rfl
theorem FR_step {r : RS} (h : FR r) (s : ByteArray) (q : Nat) (c : Int) : FR (r.step s q c) := by
  have h1 := FR_close (r := { r with nt := false }) h s q
  unfold RS.step
  split
  · exact .inl (by rw [FR_one]; exact h1.1)
  · exact .inl h1.1
theorem FR_from {r : RS} (h : FR r) (q : Nat) : FR (r.from_ q) := by
  unfold RS.from_
  split
  · exact .inr (by simp)
  · exact h
theorem step_feed {r : RS} (h : FR r) (s : ByteArray) (q : Nat) (he : (r.step s q 10).er = 0) : r.step s q 10 = RS.at_ (r.step s q 10).xs (r.step s q 10).line := by
  have h1 := FR_close (r := { r with nt := false }) h s q
  have h2 : (r.step s q 10).fr = -1 ∧ (r.step s q 10).nt = false := by
    unfold RS.step
    split
    · refine ⟨by rw [FR_one]; exact h1.1, ?_⟩
      unfold RS.one
      rw [if_neg (by decide), if_neg (by decide), if_neg (by decide), if_pos rfl]
      exact h1.2
    · exact h1
  obtain ⟨R, hR⟩ : ∃ R, r.step s q 10 = R := ⟨_, rfl⟩
  rw [hR] at he h2 ⊢
  obtain ⟨xs, line, fr, nt, er⟩ := R
  obtain ⟨h3, h4⟩ := h2
  obtain rfl : fr = -1 := h3
  obtain rfl : nt = false := h4
  obtain rfl : er = 0 := he
  rfl
/-- What is told from a state on. -/
def Told (r : RS) (x : List S33 × Int × Int) : Prop := (x.2.2 = 0 ∧ r.xs <+: x.1 ∧ r.xs.length < x.1.length) ∨ (x.1 = [] ∧ 1 ≤ x.2.1 ∧ (x.2.2 = 2 ∨ x.2.2 = 7))
theorem told (s : ByteArray) : ∀ (n : Nat) (r : RS), RI r (s.size - n) → n ≤ s.size → 1 ≤ r.line → Told r (rf s n r) := by
  intro n
  induction n with
  | zero =>
    intro r hr _ hl
    rw [rf]
    unfold RS.fin
    have h1 := E3_close r s s.size (.inl hr.er)
    have h2 := close_line (r := r) s s.size
    have hlast : E3 (r.last s).er ∧ r.xs <+: (r.last s).xs ∧ (r.last s).line = r.line ∧ ((r.last s).er = 0 → r.xs.length < (r.last s).xs.length) := by
      unfold RS.last
      split
      · refine ⟨E3_over h1.1, h1.2.trans (List.prefix_append _ _), h2, fun _ => ?_⟩
        have := h1.2.length_le
        simp only [RS.put, List.length_append, List.length_singleton]
        omega
      · rename_i h
        exact ⟨h1.1, h1.2, h2, fun h' => absurd h' h⟩
    split
    · rename_i h
      exact .inl ⟨rfl, hlast.2.1, hlast.2.2.2 h⟩
    · rename_i h
      refine .inr ⟨rfl, ?_, ?_⟩
      · show 1 ≤ (r.last s).line
        rw [hlast.2.2.1]; exact hl
      · exact hlast.1.resolve_left h
  | succ n ih =>
    intro r hr hn hl
    rw [rf]
    have hs : s.size - n = s.size - (n + 1) + 1 := by omega
    split
    · exact ih r (by rw [hs]; exact hr.later (by omega)) (by omega) hl
    split
    · have := ih (r.from_ (s.size - (n + 1))) (by rw [hs]; exact hr.from_.later (by omega)) (by omega) (by unfold RS.from_; split <;> exact hl)
      have hx : (r.from_ (s.size - (n + 1))).xs = r.xs := by unfold RS.from_; split <;> rfl
      unfold Told at *
      rw [hx] at this
      exact this
    have h3 := E3_step r s (s.size - (n + 1)) (byt s (s.size - (n + 1))) (.inl hr.er)
    split
    · rename_i h
      have hln := step_line hr h
      have := ih _ (by rw [hs]; exact hr.step h) (by omega) (by omega)
      rcases this with h4 | h4
      · have := h3.2.length_le
        exact .inl ⟨h4.1, h3.2.trans h4.2.1, by omega⟩
      · exact .inr h4
    · rename_i h
      exact .inr ⟨rfl, hl, h3.1.resolve_left h⟩

section
variable (p t : ByteArray) (hsz : p.size ≤ t.size) (hby : ∀ i, i < p.size → byt t i = byt p i) (hex : ∀ i j, j ≤ p.size → t.extract i j = p.extract i j)
include hsz hby hex
theorem close_pre (r : RS) (q : Nat) (hq : q ≤ p.size) : r.close t q = r.close p q := by
  unfold RS.close
  rw [hex _ _ hq]
theorem step_pre (r : RS) (q : Nat) (hq : q ≤ p.size) (c : Int) : r.step t q c = r.step p q c := by
  unfold RS.step
  rw [close_pre p t hsz hby hex _ q hq]
/-- Over the text ahead both run alike: to the same fault, or to a reader at which no word goes on. -/
theorem runs (h10 : byt p (p.size - 1) = 10) (m : Nat) (hm : p.size + m = t.size) : ∀ (n : Nat) (r : RS), n + 1 ≤ p.size → RI r (p.size - (n + 1)) → 1 ≤ r.line → FR r →
    (∃ line er, rf p (n + 1) r = ([], line, er) ∧ rf t (n + 1 + m) r = ([], line, er) ∧ er ≠ 0) ∨
    (∃ xs line, rf p (n + 1) r = RS.fin ⟨xs, line, -1, false, 0⟩ p ∧ rf t (n + 1 + m) r = rf t m (RS.at_ xs line) ∧ RI (RS.at_ xs line) p.size ∧ 1 ≤ line) := by
  intro n
  induction n with
  | zero =>
    intro r hn hr hl hf
    obtain ⟨q, hq⟩ : ∃ q, q = p.size - 1 := ⟨_, rfl⟩
    rw [← hq] at h10
    have hqn : q + 1 = p.size := by omega
    have hnr : ¬ (r.nt = true ∧ ¬ byt p q = 10) := fun h => h.2 h10
    have r1 := rf_step (s := p) (n := 0 + 1) (pos := q) (r := r) (by omega) (by omega) hnr (by rw [h10]; rfl)
    have r2 := rf_step (s := t) (n := 0 + 1 + m) (pos := q) (r := r) (by omega) (by omega) (by rw [hby q (by omega)]; exact hnr) (by rw [hby q (by omega), h10]; rfl)
    rw [hby q (by omega), step_pre p t hsz hby hex r q (by omega)] at r2
    rw [show p.size - (0 + 1) = q by omega] at hr
    by_cases he : (r.step p q (byt p q)).er = 0
    · right
      have hi := hr.step he
      have hln := step_line hr he
      have hform : r.step p q (byt p q) = RS.at_ (r.step p q (byt p q)).xs (r.step p q (byt p q)).line := by
        rw [h10] at *
        exact step_feed hf p q he
      refine ⟨(r.step p q (byt p q)).xs, (r.step p q (byt p q)).line, ?_, ?_, ?_, ?_⟩
      · rw [r1, if_pos he, Nat.add_sub_cancel]
        show RS.fin _ p = _
        rw [hform]
        rfl
      · rw [r2, if_pos he, show 0 + 1 + m - 1 = m by omega, hform]
        rfl
      · rw [← hform, ← hqn]; exact hi
      · omega
    · left
      exact ⟨r.line, (r.step p q (byt p q)).er, by rw [r1, if_neg he], by rw [r2, if_neg he], he⟩
  | succ n ih =>
    intro r hn hr hl hf
    obtain ⟨q, hq⟩ : ∃ q, q = p.size - (n + 1 + 1) := ⟨_, rfl⟩
    rw [← hq] at hr
    have hs : p.size - (n + 1) = q + 1 := by omega
    by_cases hA : r.nt = true ∧ ¬ byt p q = 10
    · have r1 : rf p (n + 1 + 1) r = rf p (n + 1) r := by
        rw [rf, ← hq, if_pos hA]
      have r2 : rf t (n + 1 + 1 + m) r = rf t (n + 1 + m) r := by
        rw [show n + 1 + 1 + m = (n + 1 + m) + 1 by omega, rf, show t.size - (n + 1 + m + 1) = q by omega, if_pos (by rw [hby q (by omega)]; exact hA)]
      rw [r1, r2]
      exact ih r (by omega) (by rw [hs]; exact hr.later (by omega)) hl hf
    by_cases hp : partB (byt p q) = true
    · have r1 := rf_part (s := p) (n := n + 1 + 1) (pos := q) (r := r) (by omega) (by omega) hA hp
      have r2 := rf_part (s := t) (n := n + 1 + 1 + m) (pos := q) (r := r) (by omega) (by omega) (by rw [hby q (by omega)]; exact hA) (by rw [hby q (by omega)]; exact hp)
      rw [r1, r2, Nat.add_sub_cancel, show n + 1 + 1 + m - 1 = n + 1 + m by omega]
      exact ih _ (by omega) (by rw [hs]; exact hr.from_.later (by omega)) (by unfold RS.from_; split <;> exact hl) (FR_from hf _)
    · have hp' : partB (byt p q) = false := by simpa using hp
      have r1 := rf_step (s := p) (n := n + 1 + 1) (pos := q) (r := r) (by omega) (by omega) hA hp'
      have r2 := rf_step (s := t) (n := n + 1 + 1 + m) (pos := q) (r := r) (by omega) (by omega) (by rw [hby q (by omega)]; exact hA) (by rw [hby q (by omega)]; exact hp')
      rw [hby q (by omega), step_pre p t hsz hby hex r q (by omega)] at r2
      by_cases he : (r.step p q (byt p q)).er = 0
      · rw [r1, r2, if_pos he, if_pos he, Nat.add_sub_cancel, show n + 1 + 1 + m - 1 = n + 1 + m by omega]
        have hln := step_line hr he
        exact ih _ (by omega) (by rw [hs]; exact hr.step he) (by omega) (FR_step hf _ _ _)
      · left
        exact ⟨r.line, (r.step p q (byt p q)).er, by rw [r1, if_neg he], by rw [r2, if_neg he], he⟩
end
theorem lines_yes (a b : ByteArray) : Ev (fun k => hucksterlaw14_LexLines.j0 k a b true) true := by
  refine Ev.succ ?_
  simp only [hucksterlaw14_LexLines.j0]
  exact Ev.yes (by simp) (Ev.bind1 awake_true (Ev.now _))
theorem byt_left (a b : ByteArray) (i : Nat) (h : i < a.size) : byt (a ++ b) i = byt a i := by
  have hs : i < (a ++ b).size := by rw [ByteArray.size_append]; omega
  rw [← bytesOf_get _ i hs, ← bytesOf_get _ i h]
  simp only [bytesOf_append]
  rw [List.getElem_append_left]
theorem byt_right (a b : ByteArray) (i : Nat) (h : i < b.size) : byt (a ++ b) (a.size + i) = byt b i := by
  have hs : a.size + i < (a ++ b).size := by rw [ByteArray.size_append]; omega
  rw [← bytesOf_get _ _ hs, ← bytesOf_get _ i h]
  simp only [bytesOf_append]
  rw [List.getElem_append_right (by rw [bytesOf_length]; omega)]
  simp [bytesOf_length]
theorem eq_of_bytes {a b : ByteArray} (h : bytesOf a = bytesOf b) : a = b := by
  have h := bytesOf_inj.1 h
  rw [ByteArray.toList_eq, ByteArray.toList_eq] at h
  have h2 : a.data = b.data := Array.toList_inj.1 h
  cases a; cases b; simp only at h2; rw [h2]
/-- Both texts' tokens: alike in the lines ahead. -/
theorem two_texts (s more : ByteArray) (hs : s.size ≤ 2000) (hm : more.size ≤ 2000) :
    (∃ line er, lexR (s ++ (⟨#[10]⟩ : ByteArray)) = ([], line, er) ∧ lexR ((s ++ (⟨#[10]⟩ : ByteArray)) ++ more) = ([], line, er) ∧ er ≠ 0) ∨
    (∃ line, lexR (s ++ (⟨#[10]⟩ : ByteArray)) = ([], line, 7)) ∨
    (∃ xs line x, lexR (s ++ (⟨#[10]⟩ : ByteArray)) = (xs ++ [⟨0, ⟨#[]⟩, 0, line⟩], 0, 0) ∧ lexR ((s ++ (⟨#[10]⟩ : ByteArray)) ++ more) = x ∧ Told (RS.at_ xs line) x) := by
  have e1 : (⟨#[10]⟩ : ByteArray).size = 1 := rfl
  have s1 : (s ++ (⟨#[10]⟩ : ByteArray)).size = s.size + 1 := by rw [ByteArray.size_append, e1]
  have s2 : ((s ++ (⟨#[10]⟩ : ByteArray)) ++ more).size = s.size + 1 + more.size := by rw [ByteArray.size_append, s1]
  have h10 : byt (s ++ (⟨#[10]⟩ : ByteArray)) s.size = 10 := by
    have := byt_right s (⟨#[10]⟩ : ByteArray) 0 (by decide)
    rw [Nat.add_zero] at this
    rw [this]; rfl
  have hby : ∀ i, i < (s ++ (⟨#[10]⟩ : ByteArray)).size → byt ((s ++ (⟨#[10]⟩ : ByteArray)) ++ more) i = byt (s ++ (⟨#[10]⟩ : ByteArray)) i := fun i h => byt_left _ _ i h
  have hex : ∀ i j, j ≤ (s ++ (⟨#[10]⟩ : ByteArray)).size → ((s ++ (⟨#[10]⟩ : ByteArray)) ++ more).extract i j = (s ++ (⟨#[10]⟩ : ByteArray)).extract i j := by
    intro i j h
    apply eq_of_bytes
    rw [bytesOf_extract _ _ _ (by omega), bytesOf_extract _ _ _ h, bytesOf_append _ more, List.take_append_of_le_length (by rw [bytesOf_length]; exact h)]
  generalize hp : s ++ (⟨#[10]⟩ : ByteArray) = p at *
  generalize ht : p ++ more = t at *
  unfold lexR
  rw [if_neg (by omega), if_neg (by omega)]
  have hr := runs p t (by omega) hby hex (by rw [s1]; exact h10) more.size (by omega) s.size ⟨[], 1, -1, false, 0⟩ (by omega) (RI.start _) (by simp) (.inl rfl)
  rw [show s.size + 1 = p.size by omega, show p.size + more.size = t.size by omega] at hr
  rcases hr with ⟨line, er, h1, h2, h3⟩ | ⟨xs, line, h1, h2, h3, h4⟩
  · exact .inl ⟨line, er, h1, h2, h3⟩
  · right
    rw [h1, fin_at]
    by_cases h8 : 800 ≤ xs.length
    · rw [if_pos h8]
      exact .inl ⟨line, rfl⟩
    · rw [if_neg h8]
      refine .inr ⟨xs, line, _, rfl, rfl, ?_⟩
      rw [h2]
      exact told t more.size (RS.at_ xs line) (by rw [show t.size - more.size = p.size by omega]; exact h3) (by omega) h4
theorem LexLines : hucksterlaw14_LexLines.Pure := by
  intro a0 a1 h0 h1
  refine Ev.rounds ?_
  unfold hucksterlaw14_LexLines.f
  by_cases h5 : (a0.size : Int) > 2000
  · exact Ev.yes h5 (lines_yes a0 a1)
  refine Ev.no h5 ?_
  by_cases h6 : (a1.size : Int) > 2000
  · rw [decide_eq_true h6]
    exact lines_yes a0 a1
  rw [decide_eq_false h6]
  have e1 : (⟨#[10]⟩ : ByteArray).size = 1 := rfl
  have s1 : (a0 ++ (⟨#[10]⟩ : ByteArray)).size = a0.size + 1 := by rw [ByteArray.size_append, e1]
  have ht := two_texts a0 a1 (by omega) (by omega)
  have hlen := lexR_len (a0 ++ (⟨#[10]⟩ : ByteArray))
  refine Ev.succ ?_
  simp only [hucksterlaw14_LexLines.j0, lex_Read.f]
  refine Ev.no (by simp) (Ev.yes (by omega) ?_)
  generalize lexR (a0 ++ (⟨#[10]⟩ : ByteArray)) = x at *
  generalize lexR ((a0 ++ (⟨#[10]⟩ : ByteArray)) ++ a1) = y at *
  refine Ev.bind1 rfl (Ev.yes (by omega) (Ev.bind1 rfl ?_))
  have hyes : Ev (fun _ => (hucksterlaw14_awake.f).bind fun t => some t) true := Ev.bind1 awake_true (Ev.now _)
  rcases ht with ⟨line, er, rfl, rfl, he⟩ | ⟨line, rfl⟩ | ⟨xs, line, z, rfl, rfl, hz⟩
  · by_cases h7 : er = 7
    · exact Ev.yes h7 hyes
    · exact Ev.no h7 (Ev.no he (Ev.yes rfl (Ev.yes rfl (Ev.yes rfl hyes))))
  · exact Ev.yes rfl hyes
  · refine Ev.no (by show ¬ (0 : Int) = 7; decide) (Ev.yes rfl ?_)
    rcases hz with ⟨hz1, hz2, hz3⟩ | ⟨hz1, hz2, hz3⟩
    · have hn : wrap64 (((xs ++ [(⟨0, ⟨#[]⟩, 0, line⟩ : S33)]).length : Int) - 1) = (xs.length : Int) := by
        simp only [List.length_append, List.length_singleton] at hlen ⊢
        unfold wrap64; omega
      simp only [RS.at_] at hz2 hz3
      have hsm : xs.length ≤ 800 := by simp only [List.length_append, List.length_singleton] at hlen; omega
      refine Ev.yes hz1 ?_
      simp only [hn]
      refine Ev.yes (by omega) (Ev.yes (by omega) (Ev.yes (by omega) (Ev.yes (by simp; omega) (Ev.yes (by omega) ?_))))
      rw [Int.toNat_natCast, List.take_left' rfl, List.prefix_iff_eq_take.1 hz2 |>.symm]
      exact Ev.bind (same_refl xs (by omega)) (Ev.yes rfl hyes)
    · have h0 : ¬ y.2.2 = 0 := by omega
      refine Ev.no h0 ?_
      rcases hz3 with h | h
      · refine Ev.no (by omega) (Ev.yes h (Ev.yes (by omega) (Ev.yes (by rw [hz1]; rfl) hyes)))
      · refine Ev.yes h (Ev.yes (by omega) (Ev.yes (by rw [hz1]; rfl) hyes))
end Go.Proofs.Ytpbbiedpbegamaa.Pure

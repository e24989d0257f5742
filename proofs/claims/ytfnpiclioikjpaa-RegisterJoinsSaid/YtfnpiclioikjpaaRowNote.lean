/- The cells of a row of Notes. -/
import Derived.Test.YtfnpiclioikjpaaX0
import Derived.Test.YtfnpiclioikjpaaSL1
set_option linter.unusedSimpArgs false
set_option linter.unusedVariables false
namespace Go.Proofs.Ytfnpiclioikjpaa.X
open Go.RowKit Go.Proofs.YtfnpiclioikjpaaW.PrintWords Go.Proofs.YtfnpiclioikjpaaW.PrintLast Go.Proofs.YtfnpiclioikjpaaW.PrintMore

def cellNote (x : S24) : List Value := [.string x.f0, .int .i64 x.f1, .int .i64 x.f2, .string x.f3]
def cellsNote : List S24 → List Value
  | [] => []
  | x :: l => cellNote x ++ cellsNote l
theorem cellsNote_length (l : List S24) : (cellsNote l).length = l.length * 4 := by
  induction l with
  | nil => rfl
  | cons x l ih => simp only [cellsNote, List.length_append, ih, List.length_cons, cellNote, List.length_nil]; omega
theorem cellsNote_one (l : List S24) : ∀ u ∈ cellsNote l, u.oneCell' = true := by
  induction l with
  | nil => intro u hu; cases hu
  | cons x l ih =>
    intro u hu
    rcases List.mem_append.1 hu with h | h
    · simp only [cellNote, List.mem_cons, List.not_mem_nil, or_false] at h
      rcases h with rfl | h
      · rfl
      · repeat (first | (rcases h with rfl | h; · rfl) | (subst h; rfl))
    · exact ih u h
theorem cellsNote_append (l m : List S24) : cellsNote (l ++ m) = cellsNote l ++ cellsNote m := by
  induction l with
  | nil => rfl
  | cons x l ih => simp only [List.cons_append, cellsNote, ih, List.append_assoc]
theorem cellsNote_take (l : List S24) (i : Nat) : (cellsNote l).take (i * 4) = cellsNote (l.take i) := by
  rcases Nat.lt_or_ge l.length i with h | h
  · rw [List.take_of_length_le (by rw [cellsNote_length]; omega), List.take_of_length_le (by omega)]
  · have hl : (cellsNote (l.take i)).length = i * 4 := by rw [cellsNote_length, List.length_take]; rw [Nat.min_eq_left h]
    have he : cellsNote l = cellsNote (l.take i) ++ cellsNote (l.drop i) := by rw [← cellsNote_append, List.take_append_drop]
    rw [he, ← hl, List.take_left]
theorem cellsNote_drop (l : List S24) (i : Nat) : (cellsNote l).drop (i * 4) = cellsNote (l.drop i) := by
  rcases Nat.lt_or_ge l.length i with h | h
  · rw [List.drop_eq_nil_of_le (by rw [cellsNote_length]; omega), List.drop_eq_nil_of_le (by omega)]; rfl
  · have hl : (cellsNote (l.take i)).length = i * 4 := by rw [cellsNote_length, List.length_take]; rw [Nat.min_eq_left h]
    have he : cellsNote l = cellsNote (l.take i) ++ cellsNote (l.drop i) := by rw [← cellsNote_append, List.take_append_drop]
    rw [he, ← hl, List.drop_left]
theorem cellsNote_get (l : List S24) (i j : Nat) (hi : i < l.length) (hj : j < 4) : (cellsNote l)[i * 4 + j]? = (cellNote (l[i]))[j]? := by
  have he : cellsNote l = cellsNote (l.take i) ++ (cellNote l[i] ++ cellsNote (l.drop (i + 1))) := by
    have : l = l.take i ++ (l[i] :: l.drop (i + 1)) := by rw [List.getElem_cons_drop, List.take_append_drop]
    have h2 := congrArg cellsNote this
    rw [cellsNote_append] at h2
    exact h2
  have hl : (cellsNote (l.take i)).length = i * 4 := by rw [cellsNote_length, List.length_take]; rw [Nat.min_eq_left (by omega)]
  rw [he, List.getElem?_append_right (by omega), hl, show i * 4 + j - i * 4 = j by omega, List.getElem?_append_left (by simpa [cellNote] using hj)]
theorem repsNote {R : S24 → List Value → Prop} (hR : ∀ x c, R x c → c = cellNote x) : ∀ (l : List S24) (cs : List Value), Reps R 4 l cs → cs = cellsNote l := by
  intro l
  induction l with
  | nil =>
    intro cs h
    have := h.1
    simp only [List.length_nil, Nat.zero_mul] at this
    exact List.eq_nil_of_length_eq_zero this
  | cons x l ih =>
    intro cs h
    have h1 := h.1
    rw [List.length_cons] at h1
    have h0 := hR _ _ (h.2 0 x rfl)
    simp only [Nat.zero_mul, List.drop_zero] at h0
    have h2 := ih (cs.drop 4) ⟨by rw [List.length_drop, h1]; omega, fun j p hj => by
      have := h.2 (j + 1) p (by simpa using hj)
      rw [List.drop_drop, show 4 + j * 4 = (j + 1) * 4 by omega]
      exact this⟩
    rw [cellsNote, ← h0, ← h2, List.take_append_drop]
theorem cellsNote_reps {R : S24 → List Value → Prop} (hR : ∀ x, R x (cellNote x)) (l : List S24) : Reps R 4 l (cellsNote l) := by
  refine ⟨cellsNote_length l, fun j p hj => ?_⟩
  obtain ⟨hl, rfl⟩ := List.getElem?_eq_some_iff.1 hj
  have h1 : ((cellsNote l).drop (j * 4)).take 4 = cellNote l[j] := by
    rw [cellsNote_drop, ← List.getElem_cons_drop (h := hl), cellsNote]
    rw [List.take_append_of_le_length (by simp [cellNote])]
    rw [List.take_of_length_le (by simp [cellNote])]
  rw [h1]
  exact hR _
theorem ownRNote {w : World} {base : Nat} {ok : Nat → Prop} {v : Value} {l : List S24} (h : Kd.R k24 24 w base ok v l) : w.ownsRow base 24 4 v l.length (cellsNote l) := by
  obtain ⟨_, inner, ho, hr⟩ := h
  obtain rfl := repsNote (fun x c hp => k24_openM hp) l inner hr
  exact ho
theorem RownNote {w : World} {base : Nat} {v : Value} {l : List S24} {n : Nat} {cs : List Value} (hn : n = l.length) (hc : cs = cellsNote l) (h : w.ownsRow base 24 4 v n cs) : Kd.R k24 24 w base (fun _ => True) v l := by
  subst hn
  subst hc
  exact ⟨fun _ _ => trivial, cellsNote l, h, cellsNote_reps (fun x => k24_mkM _ _ _ x) l⟩
theorem ins_cellsNote (l : List S24) (x : S24) (i : Nat) : insCells (cellsNote l) (cellNote x) (i * 4) = cellsNote (l.take i ++ x :: l.drop i) := by
  unfold insCells
  rw [cellsNote_take, cellsNote_drop, cellsNote_append, cellsNote]
theorem del_cellsNote (l : List S24) (i : Nat) : delCells (cellsNote l) (i * 4) 4 = cellsNote (l.take i ++ l.drop (i + 1)) := by
  unfold delCells
  rw [cellsNote_take, show i * 4 + 4 = (i + 1) * 4 by omega, cellsNote_drop, cellsNote_append]
theorem set_cellsNote (l : List S24) (x : S24) (i : Nat) (hi : i < l.length) : (cellsNote l).take (i * 4) ++ (cellNote x ++ (cellsNote l).drop (i * 4 + (cellNote x).length)) = cellsNote (l.set i x) := by
  rw [show (cellNote x).length = 4 from rfl, cellsNote_take, show i * 4 + 4 = (i + 1) * 4 by omega, cellsNote_drop, List.set_eq_take_append_cons_drop, if_pos hi, cellsNote_append, cellsNote]
end Go.Proofs.Ytfnpiclioikjpaa.X

/- The cells of a row of Cells. -/
import Derived.Test.YtfnpiclioikjpaaX0
import Derived.Test.YtfnpiclioikjpaaSL1
set_option linter.unusedSimpArgs false
set_option linter.unusedVariables false
namespace Go.Proofs.Ytfnpiclioikjpaa.X
open Go.RowKit Go.Proofs.YtfnpiclioikjpaaW.PrintWords Go.Proofs.YtfnpiclioikjpaaW.PrintLast Go.Proofs.YtfnpiclioikjpaaW.PrintMore

def cellCell (x : S47) : List Value := [.string x.f0, .int .i64 x.f1]
def cellsCell : List S47 → List Value
  | [] => []
  | x :: l => cellCell x ++ cellsCell l
theorem cellsCell_length (l : List S47) : (cellsCell l).length = l.length * 2 := by
  induction l with
  | nil => rfl
  | cons x l ih => simp only [cellsCell, List.length_append, ih, List.length_cons, cellCell, List.length_nil]; omega
theorem cellsCell_one (l : List S47) : ∀ u ∈ cellsCell l, u.oneCell' = true := by
  induction l with
  | nil => intro u hu; cases hu
  | cons x l ih =>
    intro u hu
    rcases List.mem_append.1 hu with h | h
    · simp only [cellCell, List.mem_cons, List.not_mem_nil, or_false] at h
      rcases h with rfl | h
      · rfl
      · repeat (first | (rcases h with rfl | h; · rfl) | (subst h; rfl))
    · exact ih u h
theorem cellsCell_append (l m : List S47) : cellsCell (l ++ m) = cellsCell l ++ cellsCell m := by
  induction l with
  | nil => rfl
  | cons x l ih => simp only [List.cons_append, cellsCell, ih, List.append_assoc]
theorem cellsCell_take (l : List S47) (i : Nat) : (cellsCell l).take (i * 2) = cellsCell (l.take i) := by
  rcases Nat.lt_or_ge l.length i with h | h
  · rw [List.take_of_length_le (by rw [cellsCell_length]; omega), List.take_of_length_le (by omega)]
  · have hl : (cellsCell (l.take i)).length = i * 2 := by rw [cellsCell_length, List.length_take]; rw [Nat.min_eq_left h]
    have he : cellsCell l = cellsCell (l.take i) ++ cellsCell (l.drop i) := by rw [← cellsCell_append, List.take_append_drop]
    rw [he, ← hl, List.take_left]
theorem cellsCell_drop (l : List S47) (i : Nat) : (cellsCell l).drop (i * 2) = cellsCell (l.drop i) := by
  rcases Nat.lt_or_ge l.length i with h | h
  · rw [List.drop_eq_nil_of_le (by rw [cellsCell_length]; omega), List.drop_eq_nil_of_le (by omega)]; rfl
  · have hl : (cellsCell (l.take i)).length = i * 2 := by rw [cellsCell_length, List.length_take]; rw [Nat.min_eq_left h]
    have he : cellsCell l = cellsCell (l.take i) ++ cellsCell (l.drop i) := by rw [← cellsCell_append, List.take_append_drop]
    rw [he, ← hl, List.drop_left]
theorem cellsCell_get (l : List S47) (i j : Nat) (hi : i < l.length) (hj : j < 2) : (cellsCell l)[i * 2 + j]? = (cellCell (l[i]))[j]? := by
  have he : cellsCell l = cellsCell (l.take i) ++ (cellCell l[i] ++ cellsCell (l.drop (i + 1))) := by
    have : l = l.take i ++ (l[i] :: l.drop (i + 1)) := by rw [List.getElem_cons_drop, List.take_append_drop]
    have h2 := congrArg cellsCell this
    rw [cellsCell_append] at h2
    exact h2
  have hl : (cellsCell (l.take i)).length = i * 2 := by rw [cellsCell_length, List.length_take]; rw [Nat.min_eq_left (by omega)]
  rw [he, List.getElem?_append_right (by omega), hl, show i * 2 + j - i * 2 = j by omega, List.getElem?_append_left (by simpa [cellCell] using hj)]
theorem repsCell {R : S47 → List Value → Prop} (hR : ∀ x c, R x c → c = cellCell x) : ∀ (l : List S47) (cs : List Value), Reps R 2 l cs → cs = cellsCell l := by
  intro l
  induction l with
  | nil =>
    intro cs h
    have := h.1
    simp only [List.length_nil, Nat.zero_mul] at this
    exact List.eq_nil_of_length_eq_zero this
  | cons x l ih =>
    intro cs h
    have h1 := h.1
    rw [List.length_cons] at h1
    have h0 := hR _ _ (h.2 0 x rfl)
    simp only [Nat.zero_mul, List.drop_zero] at h0
    have h2 := ih (cs.drop 2) ⟨by rw [List.length_drop, h1]; omega, fun j p hj => by
      have := h.2 (j + 1) p (by simpa using hj)
      rw [List.drop_drop, show 2 + j * 2 = (j + 1) * 2 by omega]
      exact this⟩
    rw [cellsCell, ← h0, ← h2, List.take_append_drop]
theorem cellsCell_reps {R : S47 → List Value → Prop} (hR : ∀ x, R x (cellCell x)) (l : List S47) : Reps R 2 l (cellsCell l) := by
  refine ⟨cellsCell_length l, fun j p hj => ?_⟩
  obtain ⟨hl, rfl⟩ := List.getElem?_eq_some_iff.1 hj
  have h1 : ((cellsCell l).drop (j * 2)).take 2 = cellCell l[j] := by
    rw [cellsCell_drop, ← List.getElem_cons_drop (h := hl), cellsCell]
    rw [List.take_append_of_le_length (by simp [cellCell])]
    rw [List.take_of_length_le (by simp [cellCell])]
  rw [h1]
  exact hR _
theorem ownRCell {w : World} {base : Nat} {ok : Nat → Prop} {v : Value} {l : List S47} (h : Kd.R k47 47 w base ok v l) : w.ownsRow base 47 2 v l.length (cellsCell l) := by
  obtain ⟨_, inner, ho, hr⟩ := h
  obtain rfl := repsCell (fun x c hp => k47_openM hp) l inner hr
  exact ho
theorem RownCell {w : World} {base : Nat} {v : Value} {l : List S47} {n : Nat} {cs : List Value} (hn : n = l.length) (hc : cs = cellsCell l) (h : w.ownsRow base 47 2 v n cs) : Kd.R k47 47 w base (fun _ => True) v l := by
  subst hn
  subst hc
  exact ⟨fun _ _ => trivial, cellsCell l, h, cellsCell_reps (fun x => k47_mkM _ _ _ x) l⟩
theorem ins_cellsCell (l : List S47) (x : S47) (i : Nat) : insCells (cellsCell l) (cellCell x) (i * 2) = cellsCell (l.take i ++ x :: l.drop i) := by
  unfold insCells
  rw [cellsCell_take, cellsCell_drop, cellsCell_append, cellsCell]
theorem del_cellsCell (l : List S47) (i : Nat) : delCells (cellsCell l) (i * 2) 2 = cellsCell (l.take i ++ l.drop (i + 1)) := by
  unfold delCells
  rw [cellsCell_take, show i * 2 + 2 = (i + 1) * 2 by omega, cellsCell_drop, cellsCell_append]
theorem set_cellsCell (l : List S47) (x : S47) (i : Nat) (hi : i < l.length) : (cellsCell l).take (i * 2) ++ (cellCell x ++ (cellsCell l).drop (i * 2 + (cellCell x).length)) = cellsCell (l.set i x) := by
  rw [show (cellCell x).length = 2 from rfl, cellsCell_take, show i * 2 + 2 = (i + 1) * 2 by omega, cellsCell_drop, List.set_eq_take_append_cons_drop, if_pos hi, cellsCell_append, cellsCell]
end Go.Proofs.Ytfnpiclioikjpaa.X

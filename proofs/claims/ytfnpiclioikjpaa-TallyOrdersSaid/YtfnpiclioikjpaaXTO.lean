/- Functions of the seat as Lean functions, and that the calls come to them: written by this session's own program xprint.py over the kit's printer. -/
import Derived.Test.YtfnpiclioikjpaaX0
import Derived.Test.YtfnpiclioikjpaaEAdd
import Derived.Test.YtfnpiclioikjpaaXhucksterlaw10Light
import Derived.Test.YtfnpiclioikjpaaXhucksterlaw10awake
import Derived.Test.YtfnpiclioikjpaaXhucksterref10Same
import Derived.Test.YtfnpiclioikjpaaXtallySame
namespace Go.Proofs.Ytfnpiclioikjpaa.X
open Go.RowKit Go.Proofs.YtfnpiclioikjpaaW.PrintWords Go.Proofs.YtfnpiclioikjpaaW.PrintLast Go.Proofs.YtfnpiclioikjpaaW.PrintMore
attribute [local go_sem] max2_int min2_int max_two min_two max_three min_three max_four min_four   -- for this text's walks alone
set_option linter.unusedVariables false
set_option linter.unusedSimpArgs false

/-! ### TO: function 8 -/
mutual
def TO.j0 : Nat → List (S47) → List Int → Bool → Option (Bool)
  | 0, _, _, _ => none
  | k + 1, x0, x1, x21 => if x21 = true then ((hucksterlaw10_awake.f k).bind fun t359 => (some t359)) else ((some (([] : List (S47)) : List (S47))).bind fun y366 => (if y366.length + x0.length < 5864062014805 then (TO.l0 k x0 x1 (([] : List (S47))) (([] : List (S47))) (y366 ++ x0) 0) else (none)))
def TO.l0 : Nat → List (S47) → List Int → List (S47) → List (S47) → List (S47) → Int → Option (Bool)
  | 0, _, _, _, _, _, _ => none
  | k + 1, x0, x1, x5, x6, x7, x8 => if x8 < (x0.length : Int) then (if 0 ≤ x8 then ((tally_Add.f x5 ((rd_T47 x0 x8).f0) ((rd_T47 x0 x8).f1)).bind fun bt377 => (if bt377.2 = 0 then (TO.j2 k x0 x1 bt377.1 x6 x7 x8) else (TO.j2 k x0 x1 x5 x6 x7 x8))) else (none)) else ((tally_Same.f k x5 x6).bind fun t372 => (if t372 = true then ((hucksterref10_Same.f k x5 x6).bind fun t373 => (if t373 = true then ((hucksterlaw10_awake.f k).bind fun t374 => (some t374)) else (some false))) else (some false)))
def TO.j2 : Nat → List (S47) → List Int → List (S47) → List (S47) → List (S47) → Int → Option (Bool)
  | 0, _, _, _, _, _, _ => none
  | k + 1, x0, x1, x5, x6, x7, x8 => if x8 < (x1.length : Int) then (if 0 ≤ x8 then (if (x7.length : Int) = 0 then (none) else (if 0 ≤ (Int.tmod (wrap64 (rd x1 x8)) (x7.length : Int)) then (if (Int.tmod (wrap64 (rd x1 x8)) (x7.length : Int)) < (x7.length : Int) then ((tally_Add.f x6 ((rd_T47 x7 (Int.tmod (wrap64 (rd x1 x8)) (x7.length : Int))).f0) ((rd_T47 x7 (Int.tmod (wrap64 (rd x1 x8)) (x7.length : Int))).f1)).bind fun bt384 => (if bt384.2 = 0 then ((some (([] : List (S47)) : List (S47))).bind fun y388 => (if (Int.tmod (wrap64 (rd x1 x8)) (x7.length : Int)) ≤ (x7.length : Int) then ((some (x7.take ((Int.tmod (wrap64 (rd x1 x8)) (x7.length : Int)) : Int).toNat : List (S47))).bind fun y391 => (if y388.length + y391.length < 5864062014805 then ((some (y388 ++ y391 : List (S47))).bind fun y395 => (if 0 ≤ (wrap64 ((Int.tmod (wrap64 (rd x1 x8)) (x7.length : Int)) + 1)) then (if (wrap64 ((Int.tmod (wrap64 (rd x1 x8)) (x7.length : Int)) + 1)) ≤ (x7.length : Int) then ((some (x7.drop ((wrap64 ((Int.tmod (wrap64 (rd x1 x8)) (x7.length : Int)) + 1)) : Int).toNat : List (S47))).bind fun y398 => (if y395.length + y398.length < 5864062014805 then (TO.l0 k x0 x1 x5 bt384.1 (y395 ++ y398) (wrap64 (x8 + 1))) else (none))) else (none)) else (none))) else (none))) else (none))) else ((some (([] : List (S47)) : List (S47))).bind fun y405 => (if (Int.tmod (wrap64 (rd x1 x8)) (x7.length : Int)) ≤ (x7.length : Int) then ((some (x7.take ((Int.tmod (wrap64 (rd x1 x8)) (x7.length : Int)) : Int).toNat : List (S47))).bind fun y408 => (if y405.length + y408.length < 5864062014805 then ((some (y405 ++ y408 : List (S47))).bind fun y412 => (if 0 ≤ (wrap64 ((Int.tmod (wrap64 (rd x1 x8)) (x7.length : Int)) + 1)) then (if (wrap64 ((Int.tmod (wrap64 (rd x1 x8)) (x7.length : Int)) + 1)) ≤ (x7.length : Int) then ((some (x7.drop ((wrap64 ((Int.tmod (wrap64 (rd x1 x8)) (x7.length : Int)) + 1)) : Int).toNat : List (S47))).bind fun y415 => (if y412.length + y415.length < 5864062014805 then (TO.l0 k x0 x1 x5 x6 (y412 ++ y415) (wrap64 (x8 + 1))) else (none))) else (none)) else (none))) else (none))) else (none))))) else (none)) else (none))) else (none)) else (if 0 < (x7.length : Int) then ((tally_Add.f x6 ((rd_T47 x7 0).f0) ((rd_T47 x7 0).f1)).bind fun bt424 => (if bt424.2 = 0 then ((some (([] : List (S47)) : List (S47))).bind fun y428 => (if 0 ≤ (x7.length : Int) then ((some (x7.take 0 : List (S47))).bind fun y431 => (if y428.length + y431.length < 5864062014805 then ((some (y428 ++ y431 : List (S47))).bind fun y435 => (if (0 : Int) ≤ (0 + 1) then (if (0 + 1 : Int) ≤ (x7.length : Int) then ((some (x7.drop ((0 + 1) : Int).toNat : List (S47))).bind fun y438 => (if y435.length + y438.length < 5864062014805 then (TO.l0 k x0 x1 x5 bt424.1 (y435 ++ y438) (wrap64 (x8 + 1))) else (none))) else (none)) else (none))) else (none))) else (none))) else ((some (([] : List (S47)) : List (S47))).bind fun y445 => (if 0 ≤ (x7.length : Int) then ((some (x7.take 0 : List (S47))).bind fun y448 => (if y445.length + y448.length < 5864062014805 then ((some (y445 ++ y448 : List (S47))).bind fun y452 => (if (0 : Int) ≤ (0 + 1) then (if (0 + 1 : Int) ≤ (x7.length : Int) then ((some (x7.drop ((0 + 1) : Int).toNat : List (S47))).bind fun y455 => (if y452.length + y455.length < 5864062014805 then (TO.l0 k x0 x1 x5 x6 (y452 ++ y455) (wrap64 (x8 + 1))) else (none))) else (none)) else (none))) else (none))) else (none))))) else (none))
end
def TO.f (k : Nat) (l0 : List (S47)) (l1 : List Int) : Option (Bool) := (hucksterlaw10_Light.f k l0).bind fun t358 => (if t358 = true then (TO.j0 k l0 l1 (decide ((l1.length : Int) > 100))) else (TO.j0 k l0 l1 true))
theorem TO.mono_l : ∀ k, (∀ y0 y1 y2, LeO (TO.j0 k y0 y1 y2) (TO.j0 (k + 1) y0 y1 y2)) ∧ (∀ y0 y1 y2 y3 y4 y5, LeO (TO.l0 k y0 y1 y2 y3 y4 y5) (TO.l0 (k + 1) y0 y1 y2 y3 y4 y5)) ∧ (∀ y0 y1 y2 y3 y4 y5, LeO (TO.j2 k y0 y1 y2 y3 y4 y5) (TO.j2 (k + 1) y0 y1 y2 y3 y4 y5))
  | 0 => ⟨fun _ _ _ r h => by simp [TO.j0] at h, fun _ _ _ _ _ _ r h => by simp [TO.l0] at h, fun _ _ _ _ _ _ r h => by simp [TO.j2] at h⟩
  | k + 1 => by
    obtain ⟨ih0, ih1, ih2⟩ := TO.mono_l k
    refine ⟨?_, ?_, ?_⟩
    · intro y0 y1 y2
      unfold TO.j0
      repeat' first
      | (with_reducible exact ih0 _ _ _)
      | (with_reducible exact ih1 _ _ _ _ _ _)
      | (with_reducible exact ih2 _ _ _ _ _ _)
      | (with_reducible exact hucksterlaw10_Light.mono _ _)
      | (with_reducible exact hucksterlaw10_awake.mono _)
      | (with_reducible exact hucksterref10_Same.mono _ _ _)
      | (with_reducible exact tally_Same.mono _ _ _)
      | (with_reducible exact LeO.refl _)
      | (with_reducible exact LeO.none _)
      | (with_reducible refine LeO.ite ?_ ?_)
      | (with_reducible refine LeO.bind ?_ (fun _ => ?_))
      | exact ih0 _ _ _
      | exact ih1 _ _ _ _ _ _
      | exact ih2 _ _ _ _ _ _
      | exact hucksterlaw10_Light.mono _ _
      | exact hucksterlaw10_awake.mono _
      | exact hucksterref10_Same.mono _ _ _
      | exact tally_Same.mono _ _ _
      | exact LeO.none _
      | refine LeO.ite ?_ ?_
      | refine LeO.bind ?_ (fun _ => ?_)
    · intro y0 y1 y2 y3 y4 y5
      unfold TO.l0
      repeat' first
      | (with_reducible exact ih0 _ _ _)
      | (with_reducible exact ih1 _ _ _ _ _ _)
      | (with_reducible exact ih2 _ _ _ _ _ _)
      | (with_reducible exact hucksterlaw10_Light.mono _ _)
      | (with_reducible exact hucksterlaw10_awake.mono _)
      | (with_reducible exact hucksterref10_Same.mono _ _ _)
      | (with_reducible exact tally_Same.mono _ _ _)
      | (with_reducible exact LeO.refl _)
      | (with_reducible exact LeO.none _)
      | (with_reducible refine LeO.ite ?_ ?_)
      | (with_reducible refine LeO.bind ?_ (fun _ => ?_))
      | exact ih0 _ _ _
      | exact ih1 _ _ _ _ _ _
      | exact ih2 _ _ _ _ _ _
      | exact hucksterlaw10_Light.mono _ _
      | exact hucksterlaw10_awake.mono _
      | exact hucksterref10_Same.mono _ _ _
      | exact tally_Same.mono _ _ _
      | exact LeO.none _
      | refine LeO.ite ?_ ?_
      | refine LeO.bind ?_ (fun _ => ?_)
    · intro y0 y1 y2 y3 y4 y5
      unfold TO.j2
      repeat' first
      | (with_reducible exact ih0 _ _ _)
      | (with_reducible exact ih1 _ _ _ _ _ _)
      | (with_reducible exact ih2 _ _ _ _ _ _)
      | (with_reducible exact hucksterlaw10_Light.mono _ _)
      | (with_reducible exact hucksterlaw10_awake.mono _)
      | (with_reducible exact hucksterref10_Same.mono _ _ _)
      | (with_reducible exact tally_Same.mono _ _ _)
      | (with_reducible exact LeO.refl _)
      | (with_reducible exact LeO.none _)
      | (with_reducible refine LeO.ite ?_ ?_)
      | (with_reducible refine LeO.bind ?_ (fun _ => ?_))
      | exact ih0 _ _ _
      | exact ih1 _ _ _ _ _ _
      | exact ih2 _ _ _ _ _ _
      | exact hucksterlaw10_Light.mono _ _
      | exact hucksterlaw10_awake.mono _
      | exact hucksterref10_Same.mono _ _ _
      | exact tally_Same.mono _ _ _
      | exact LeO.none _
      | refine LeO.ite ?_ ?_
      | refine LeO.bind ?_ (fun _ => ?_)
theorem TO.mono : ∀ a0 a1 k, LeO (TO.f k a0 a1) (TO.f (k + 1) a0 a1) := by
  intro a0 a1 k
  obtain ⟨ih0, ih1, ih2⟩ := TO.mono_l k
  unfold TO.f
  repeat' first
      | (with_reducible exact ih0 _ _ _)
      | (with_reducible exact ih1 _ _ _ _ _ _)
      | (with_reducible exact ih2 _ _ _ _ _ _)
      | (with_reducible exact hucksterlaw10_Light.mono _ _)
      | (with_reducible exact hucksterlaw10_awake.mono _)
      | (with_reducible exact hucksterref10_Same.mono _ _ _)
      | (with_reducible exact tally_Same.mono _ _ _)
      | (with_reducible exact LeO.refl _)
      | (with_reducible exact LeO.none _)
      | (with_reducible refine LeO.ite ?_ ?_)
      | (with_reducible refine LeO.bind ?_ (fun _ => ?_))
      | exact ih0 _ _ _
      | exact ih1 _ _ _ _ _ _
      | exact ih2 _ _ _ _ _ _
      | exact hucksterlaw10_Light.mono _ _
      | exact hucksterlaw10_awake.mono _
      | exact hucksterref10_Same.mono _ _ _
      | exact tally_Same.mono _ _ _
      | exact LeO.none _
      | refine LeO.ite ?_ ?_
      | refine LeO.bind ?_ (fun _ => ?_)
def TO.T8 : Bool × List (List Nat × List Nat) := (true, [([], []), ([], []), ([], []), ([1, 2], [1, 2]), ([3], [3]), ([4], [4]), ([], []), ([], []), ([6, 7], [6, 7]), ([8], [8]), ([9], [9]), ([0, 5, 10], [0, 5, 10]), ([11], [11]), ([12], [12]), ([12], [12]), ([13, 11, 0, 1, 2, 3, 4, 5, 6, 7, 8, 9, 10, 11, 12, 13], [13]), ([14, 15, 0, 1, 2, 3, 4, 5, 6, 7, 8, 9, 10, 11, 12, 13, 14, 15], [14])])
def TO.B8 : List Nat := [0, 0, 0, 6, 14, 30, 0, 0, 192, 448, 960, 2047, 4095, 8191, 8191, 16383, 65535]
theorem TO.tab8 : rtab .any (opsOf Try.f8 8) = TO.T8 := by kernel_rfl
theorem TO.bits8 : waitsOk TO.T8.2 TO.B8 = true := by kernel_rfl
def TO.T14 : Bool × List (List Nat × List Nat) := (true, [([], []), ([], []), ([], []), ([1, 2], [1, 2]), ([3], [3]), ([4], [4]), ([], []), ([], []), ([6, 7], [6, 7]), ([8], [8]), ([9], [9]), ([0, 5, 10], [0, 5, 10]), ([11], [11]), ([12], [12]), ([12], [12]), ([13, 11, 0, 1, 2, 3, 4, 5, 6, 7, 8, 9, 10, 11, 12, 13], [13]), ([14, 15, 0, 1, 2, 3, 4, 5, 6, 7, 8, 9, 10, 11, 12, 13, 14, 15], [14])])
def TO.B14 : List Nat := [0, 0, 0, 6, 14, 30, 0, 0, 192, 448, 960, 2047, 4095, 8191, 8191, 16383, 65535]
theorem TO.tab14 : rtab .any (opsOf Try.f8 14) = TO.T14 := by kernel_rfl
theorem TO.bits14 : waitsOk TO.T14.2 TO.B14 = true := by kernel_rfl
def TO.T17 : Bool × List (List Nat × List Nat) := (true, [([], []), ([], []), ([], []), ([1, 2], [1, 2]), ([0, 3], [0, 3]), ([], []), ([], []), ([6], [6]), ([5, 7], [5, 7]), ([4, 8, 4], [4, 8]), ([9, 9, 0, 1, 2, 3, 4, 5, 6, 7, 8, 9], [1, 5, 9])])
def TO.B17 : List Nat := [0, 0, 0, 6, 15, 0, 0, 64, 224, 511, 1023]
theorem TO.tab17 : rtab .any (opsOf Try.f8 17) = TO.T17 := by kernel_rfl
theorem TO.bits17 : waitsOk TO.T17.2 TO.B17 = true := by kernel_rfl
theorem a0m {p : Prop} (h : p) : Aside0 p := ⟨h⟩
end Go.Proofs.Ytfnpiclioikjpaa.X

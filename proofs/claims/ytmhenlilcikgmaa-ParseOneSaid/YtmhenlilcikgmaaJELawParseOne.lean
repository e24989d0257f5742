/- The law LawParseOne: its walk, its plain law, its row. -/
import Derived.Test.YtmhenlilcikgmaaRows
import Derived.WalkKit
import Derived.ProofKit
import Derived.OpenShut
import Derived.ShutString
import Derived.ChangeOld
import Derived.Below
import Derived.SizedLaws
import Derived.Test.YtmhenlilcikgmaaJE1
import Derived.Test.YtmhenlilcikgmaaJE2
import Derived.Test.YtmhenlilcikgmaaJE3
import Derived.Test.YtmhenlilcikgmaaJE4
/- Functions of the seat as Lean functions, and that the calls come to them: written by this session's own program xprint.py over the kit's printer. -/
namespace Go.Proofs.Ytmhenlilcikgmaa.X
open Go.RowKit Go.Proofs.YtmhenlilcikgmaaW.PrintWords Go.Proofs.YtmhenlilcikgmaaW.PrintLast Go.Proofs.YtmhenlilcikgmaaW.PrintMore
attribute [local go_sem] max2_int min2_int max_two min_two max_three min_three max_four min_four   -- for this text's walks alone
set_option linter.unusedVariables false
set_option linter.unusedSimpArgs false

/-! ### hucksterlaw15_plain: function 9 -/
def hucksterlaw15_plain.l0 : Nat → ByteArray → Int → Option (Bool)
  | 0, _, _ => none
  | k + 1, x0, x3 => if x3 < (x0.size : Int) then (if 0 ≤ x3 then (if (bt x0 x3) ≥ 97 then (if ((bt x0 x3) ≤ 122) then (hucksterlaw15_plain.l0 k x0 (wrap64 (x3 + 1))) else (if (bt x0 x3) ≥ 48 then (if ((bt x0 x3) ≤ 57) then (hucksterlaw15_plain.l0 k x0 (wrap64 (x3 + 1))) else (some false)) else (some false))) else (if (bt x0 x3) ≥ 48 then (if ((bt x0 x3) ≤ 57) then (hucksterlaw15_plain.l0 k x0 (wrap64 (x3 + 1))) else (some false)) else (some false))) else (none)) else (some true)
def hucksterlaw15_plain.f (k : Nat) (a0 : ByteArray) : Option (Bool) := hucksterlaw15_plain.l0 k a0 0
theorem hucksterlaw15_plain.mono_l : ∀ k, (∀ y0 y1, LeO (hucksterlaw15_plain.l0 k y0 y1) (hucksterlaw15_plain.l0 (k + 1) y0 y1))
  | 0 => fun _ _ r h => by simp [hucksterlaw15_plain.l0] at h
  | k + 1 => by
    have ih0 := hucksterlaw15_plain.mono_l k
    · intro y0 y1
      unfold hucksterlaw15_plain.l0
      repeat' first
      | (with_reducible exact ih0 _ _)
      | (with_reducible exact LeO.refl _)
      | (with_reducible exact LeO.none _)
      | (with_reducible refine LeO.ite ?_ ?_)
      | (with_reducible refine LeO.bind ?_ (fun _ => ?_))
      | exact ih0 _ _
      | exact LeO.none _
      | refine LeO.ite ?_ ?_
      | refine LeO.bind ?_ (fun _ => ?_)
theorem hucksterlaw15_plain.mono : ∀ a0 k, LeO (hucksterlaw15_plain.f k a0) (hucksterlaw15_plain.f (k + 1) a0) := by
  intro a0 k
  have ih0 := hucksterlaw15_plain.mono_l k
  unfold hucksterlaw15_plain.f
  repeat' first
      | (with_reducible exact ih0 _ _)
      | (with_reducible exact LeO.refl _)
      | (with_reducible exact LeO.none _)
      | (with_reducible refine LeO.ite ?_ ?_)
      | (with_reducible refine LeO.bind ?_ (fun _ => ?_))
      | exact ih0 _ _
      | exact LeO.none _
      | refine LeO.ite ?_ ?_
      | refine LeO.bind ?_ (fun _ => ?_)
set_option maxHeartbeats 8000000 in
set_option maxRecDepth 100000 in
theorem hucksterlaw15_plain.calls (k : Nat) (a0 : ByteArray) (r : Bool) (w : World) (h : hucksterlaw15_plain.f k a0 = some r) :
    Calls Try.prog 9 #[.string a0] w fun e w' => e = .returned (.bool r) ∧ Drawn0 w w' := by
  have H : (hucksterlaw15_plain.l0 k a0 0) = some r := h
  clear h
  have H' := Aside0.mk H
  clear H
  go_enter Try.func9, Try.ntmps9
  go_wp2
  go_loopg [3] k (fun kq v3 w' => ∃ (x3_1 : Int), v3 = .int .i64 x3_1 ∧ Aside0 (hucksterlaw15_plain.l0 kq a0 x3_1 = some r) ∧ Aside0 (kq ≤ k) ∧ Drawn0 w w')
  case atStart => exact ⟨(0), (by first | rfl | (simp; done) | (simp [*]; done)), H', ⟨Nat.le_refl _⟩, by repeat (first | exact Drawn0.refl _ | apply Drawn0.step)⟩
  case round =>
    clear H'
    obtain ⟨x3_1, rfl, HA, HK1, ⟨m1, rfl⟩⟩ := hrel
    cases gk with
    | zero => exact absurd HA.out (by simp [hucksterlaw15_plain.l0])
    | succ k1 =>
      have H := HA.out
      clear HA
      simp only [hucksterlaw15_plain.l0] at H
      by_cases c2 : x3_1 < (a0.size : Int)
      · rw [if_pos c2] at H
        have c2b0 : decide (x3_1 < (a0.size : Int)) = true := decide_eq_true c2
        clear c2
        by_cases c3 : 0 ≤ x3_1
        · rw [if_pos c3] at H
          have c3b0 : decide (0 ≤ x3_1) = true := decide_eq_true c3
          clear c3
          by_cases c5 : (bt a0 x3_1) ≥ 97
          · rw [if_pos c5] at H
            have c5b0 : decide (97 ≤ (bt a0 x3_1)) = true := decide_eq_true c5
            clear c5
            by_cases c7 : ((bt a0 x3_1) ≤ 122)
            · rw [if_pos c7] at H
              have c7b0 : decide ((bt a0 x3_1) ≤ 122) = true := decide_eq_true c7
              clear c7
              have H' := Aside0.mk H
              clear H
              have p4 : 0 ≤ (x3_1 : Int) := of_decide_eq_true (by first | (with_reducible assumption) | assumption)
              have q4 : x3_1 < (a0.size : Int) := of_decide_eq_true (by first | (with_reducible assumption) | assumption)
              have hx4 := bt_at a0 x3_1
              replace p4 := eq_true p4
              replace q4 := eq_true q4
              have p6 : 0 ≤ (x3_1 : Int) := of_decide_eq_true (by first | (with_reducible assumption) | assumption)
              have q6 : x3_1 < (a0.size : Int) := of_decide_eq_true (by first | (with_reducible assumption) | assumption)
              have hx6 := bt_at a0 x3_1
              replace p6 := eq_true p6
              replace q6 := eq_true q6
              go_wp2
              go_roundg k1
              case measure => have := HK1.out; omega
              case rel => exact ⟨(wrap64 (x3_1 + 1)), (by first | rfl | (simp; done) | (simp [*]; done)), H', ⟨by have := HK1.out; omega⟩, by repeat (first | exact Drawn0.refl _ | apply Drawn0.step)⟩
            · rw [if_neg c7] at H
              have c7b0 : decide ((bt a0 x3_1) ≤ 122) = false := decide_eq_false c7
              clear c7
              by_cases c9 : (bt a0 x3_1) ≥ 48
              · rw [if_pos c9] at H
                have c9b0 : decide (48 ≤ (bt a0 x3_1)) = true := decide_eq_true c9
                clear c9
                by_cases c11 : ((bt a0 x3_1) ≤ 57)
                · rw [if_pos c11] at H
                  have c11b0 : decide ((bt a0 x3_1) ≤ 57) = true := decide_eq_true c11
                  clear c11
                  have H' := Aside0.mk H
                  clear H
                  have p4 : 0 ≤ (x3_1 : Int) := of_decide_eq_true (by first | (with_reducible assumption) | assumption)
                  have q4 : x3_1 < (a0.size : Int) := of_decide_eq_true (by first | (with_reducible assumption) | assumption)
                  have hx4 := bt_at a0 x3_1
                  replace p4 := eq_true p4
                  replace q4 := eq_true q4
                  have p6 : 0 ≤ (x3_1 : Int) := of_decide_eq_true (by first | (with_reducible assumption) | assumption)
                  have q6 : x3_1 < (a0.size : Int) := of_decide_eq_true (by first | (with_reducible assumption) | assumption)
                  have hx6 := bt_at a0 x3_1
                  replace p6 := eq_true p6
                  replace q6 := eq_true q6
                  have p8 : 0 ≤ (x3_1 : Int) := of_decide_eq_true (by first | (with_reducible assumption) | assumption)
                  have q8 : x3_1 < (a0.size : Int) := of_decide_eq_true (by first | (with_reducible assumption) | assumption)
                  have hx8 := bt_at a0 x3_1
                  replace p8 := eq_true p8
                  replace q8 := eq_true q8
                  have p10 : 0 ≤ (x3_1 : Int) := of_decide_eq_true (by first | (with_reducible assumption) | assumption)
                  have q10 : x3_1 < (a0.size : Int) := of_decide_eq_true (by first | (with_reducible assumption) | assumption)
                  have hx10 := bt_at a0 x3_1
                  replace p10 := eq_true p10
                  replace q10 := eq_true q10
                  go_wp2
                  go_roundg k1
                  case measure => have := HK1.out; omega
                  case rel => exact ⟨(wrap64 (x3_1 + 1)), (by first | rfl | (simp; done) | (simp [*]; done)), H', ⟨by have := HK1.out; omega⟩, by repeat (first | exact Drawn0.refl _ | apply Drawn0.step)⟩
                · rw [if_neg c11] at H
                  have c11b0 : decide ((bt a0 x3_1) ≤ 57) = false := decide_eq_false c11
                  clear c11
                  obtain rfl := Option.some.inj H
                  have p4 : 0 ≤ (x3_1 : Int) := of_decide_eq_true (by first | (with_reducible assumption) | assumption)
                  have q4 : x3_1 < (a0.size : Int) := of_decide_eq_true (by first | (with_reducible assumption) | assumption)
                  have hx4 := bt_at a0 x3_1
                  replace p4 := eq_true p4
                  replace q4 := eq_true q4
                  have p6 : 0 ≤ (x3_1 : Int) := of_decide_eq_true (by first | (with_reducible assumption) | assumption)
                  have q6 : x3_1 < (a0.size : Int) := of_decide_eq_true (by first | (with_reducible assumption) | assumption)
                  have hx6 := bt_at a0 x3_1
                  replace p6 := eq_true p6
                  replace q6 := eq_true q6
                  have p8 : 0 ≤ (x3_1 : Int) := of_decide_eq_true (by first | (with_reducible assumption) | assumption)
                  have q8 : x3_1 < (a0.size : Int) := of_decide_eq_true (by first | (with_reducible assumption) | assumption)
                  have hx8 := bt_at a0 x3_1
                  replace p8 := eq_true p8
                  replace q8 := eq_true q8
                  have p10 : 0 ≤ (x3_1 : Int) := of_decide_eq_true (by first | (with_reducible assumption) | assumption)
                  have q10 : x3_1 < (a0.size : Int) := of_decide_eq_true (by first | (with_reducible assumption) | assumption)
                  have hx10 := bt_at a0 x3_1
                  replace p10 := eq_true p10
                  replace q10 := eq_true q10
                  go_wp2
                  go_ret
                  exact ⟨by first | rfl | (simp; done) | (simp [*]; done), by repeat (first | exact Drawn0.refl _ | apply Drawn0.step)⟩
              · rw [if_neg c9] at H
                have c9b0 : decide (48 ≤ (bt a0 x3_1)) = false := decide_eq_false c9
                clear c9
                obtain rfl := Option.some.inj H
                have p4 : 0 ≤ (x3_1 : Int) := of_decide_eq_true (by first | (with_reducible assumption) | assumption)
                have q4 : x3_1 < (a0.size : Int) := of_decide_eq_true (by first | (with_reducible assumption) | assumption)
                have hx4 := bt_at a0 x3_1
                replace p4 := eq_true p4
                replace q4 := eq_true q4
                have p6 : 0 ≤ (x3_1 : Int) := of_decide_eq_true (by first | (with_reducible assumption) | assumption)
                have q6 : x3_1 < (a0.size : Int) := of_decide_eq_true (by first | (with_reducible assumption) | assumption)
                have hx6 := bt_at a0 x3_1
                replace p6 := eq_true p6
                replace q6 := eq_true q6
                have p8 : 0 ≤ (x3_1 : Int) := of_decide_eq_true (by first | (with_reducible assumption) | assumption)
                have q8 : x3_1 < (a0.size : Int) := of_decide_eq_true (by first | (with_reducible assumption) | assumption)
                have hx8 := bt_at a0 x3_1
                replace p8 := eq_true p8
                replace q8 := eq_true q8
                go_wp2
                go_ret
                exact ⟨by first | rfl | (simp; done) | (simp [*]; done), by repeat (first | exact Drawn0.refl _ | apply Drawn0.step)⟩
          · rw [if_neg c5] at H
            have c5b0 : decide (97 ≤ (bt a0 x3_1)) = false := decide_eq_false c5
            clear c5
            by_cases c13 : (bt a0 x3_1) ≥ 48
            · rw [if_pos c13] at H
              have c13b0 : decide (48 ≤ (bt a0 x3_1)) = true := decide_eq_true c13
              clear c13
              by_cases c15 : ((bt a0 x3_1) ≤ 57)
              · rw [if_pos c15] at H
                have c15b0 : decide ((bt a0 x3_1) ≤ 57) = true := decide_eq_true c15
                clear c15
                have H' := Aside0.mk H
                clear H
                have p4 : 0 ≤ (x3_1 : Int) := of_decide_eq_true (by first | (with_reducible assumption) | assumption)
                have q4 : x3_1 < (a0.size : Int) := of_decide_eq_true (by first | (with_reducible assumption) | assumption)
                have hx4 := bt_at a0 x3_1
                replace p4 := eq_true p4
                replace q4 := eq_true q4
                have p12 : 0 ≤ (x3_1 : Int) := of_decide_eq_true (by first | (with_reducible assumption) | assumption)
                have q12 : x3_1 < (a0.size : Int) := of_decide_eq_true (by first | (with_reducible assumption) | assumption)
                have hx12 := bt_at a0 x3_1
                replace p12 := eq_true p12
                replace q12 := eq_true q12
                have p14 : 0 ≤ (x3_1 : Int) := of_decide_eq_true (by first | (with_reducible assumption) | assumption)
                have q14 : x3_1 < (a0.size : Int) := of_decide_eq_true (by first | (with_reducible assumption) | assumption)
                have hx14 := bt_at a0 x3_1
                replace p14 := eq_true p14
                replace q14 := eq_true q14
                go_wp2
                go_roundg k1
                case measure => have := HK1.out; omega
                case rel => exact ⟨(wrap64 (x3_1 + 1)), (by first | rfl | (simp; done) | (simp [*]; done)), H', ⟨by have := HK1.out; omega⟩, by repeat (first | exact Drawn0.refl _ | apply Drawn0.step)⟩
              · rw [if_neg c15] at H
                have c15b0 : decide ((bt a0 x3_1) ≤ 57) = false := decide_eq_false c15
                clear c15
                obtain rfl := Option.some.inj H
                have p4 : 0 ≤ (x3_1 : Int) := of_decide_eq_true (by first | (with_reducible assumption) | assumption)
                have q4 : x3_1 < (a0.size : Int) := of_decide_eq_true (by first | (with_reducible assumption) | assumption)
                have hx4 := bt_at a0 x3_1
                replace p4 := eq_true p4
                replace q4 := eq_true q4
                have p12 : 0 ≤ (x3_1 : Int) := of_decide_eq_true (by first | (with_reducible assumption) | assumption)
                have q12 : x3_1 < (a0.size : Int) := of_decide_eq_true (by first | (with_reducible assumption) | assumption)
                have hx12 := bt_at a0 x3_1
                replace p12 := eq_true p12
                replace q12 := eq_true q12
                have p14 : 0 ≤ (x3_1 : Int) := of_decide_eq_true (by first | (with_reducible assumption) | assumption)
                have q14 : x3_1 < (a0.size : Int) := of_decide_eq_true (by first | (with_reducible assumption) | assumption)
                have hx14 := bt_at a0 x3_1
                replace p14 := eq_true p14
                replace q14 := eq_true q14
                go_wp2
                go_ret
                exact ⟨by first | rfl | (simp; done) | (simp [*]; done), by repeat (first | exact Drawn0.refl _ | apply Drawn0.step)⟩
            · rw [if_neg c13] at H
              have c13b0 : decide (48 ≤ (bt a0 x3_1)) = false := decide_eq_false c13
              clear c13
              obtain rfl := Option.some.inj H
              have p4 : 0 ≤ (x3_1 : Int) := of_decide_eq_true (by first | (with_reducible assumption) | assumption)
              have q4 : x3_1 < (a0.size : Int) := of_decide_eq_true (by first | (with_reducible assumption) | assumption)
              have hx4 := bt_at a0 x3_1
              replace p4 := eq_true p4
              replace q4 := eq_true q4
              have p12 : 0 ≤ (x3_1 : Int) := of_decide_eq_true (by first | (with_reducible assumption) | assumption)
              have q12 : x3_1 < (a0.size : Int) := of_decide_eq_true (by first | (with_reducible assumption) | assumption)
              have hx12 := bt_at a0 x3_1
              replace p12 := eq_true p12
              replace q12 := eq_true q12
              go_wp2
              go_ret
              exact ⟨by first | rfl | (simp; done) | (simp [*]; done), by repeat (first | exact Drawn0.refl _ | apply Drawn0.step)⟩
        · rw [if_neg c3] at H
          exact absurd H (by simp)
      · rw [if_neg c2] at H
        have c2b0 : decide (x3_1 < (a0.size : Int)) = false := decide_eq_false c2
        clear c2
        obtain rfl := Option.some.inj H
        go_wp2
        go_ret
        exact ⟨by first | rfl | (simp; done) | (simp [*]; done), by repeat (first | exact Drawn0.refl _ | apply Drawn0.step)⟩

end Go.Proofs.Ytmhenlilcikgmaa.X

/- Functions of the seat as Lean functions, and that the calls come to them: written by this session's own program xprint.py over the kit's printer. -/
namespace Go.Proofs.Ytmhenlilcikgmaa.X
open Go.RowKit Go.Proofs.YtmhenlilcikgmaaW.PrintWords Go.Proofs.YtmhenlilcikgmaaW.PrintLast Go.Proofs.YtmhenlilcikgmaaW.PrintMore
attribute [local go_sem] max2_int min2_int max_two min_two max_three min_three max_four min_four   -- for this text's walks alone
set_option linter.unusedVariables false
set_option linter.unusedSimpArgs false

/-! ### hucksterref14_digit: function 29 -/
def hucksterref14_digit.f (a0 : Int) : Option (Bool) := if a0 ≥ 48 then (some (decide (a0 ≤ 57))) else (some false)
set_option maxHeartbeats 8000000 in
set_option maxRecDepth 100000 in
theorem hucksterref14_digit.calls (a0 : Int) (r : Bool) (w : World) (h : hucksterref14_digit.f a0 = some r) :
    Calls Try.prog 29 #[.int .u8 a0] w fun e w' => e = .returned (.bool r) ∧ Drawn0 w w' := by
  have H : (if a0 ≥ 48 then (some (decide (a0 ≤ 57))) else (some false)) = some r := h
  clear h
  by_cases c2 : a0 ≥ 48
  · rw [if_pos c2] at H
    have c2b0 : decide (48 ≤ a0) = true := decide_eq_true c2
    clear c2
    obtain rfl := Option.some.inj H
    go_enter Try.func29, Try.ntmps29
    go_wp2
    go_ret
    exact ⟨by first | rfl | (simp; done) | (simp [*]; done), by repeat (first | exact Drawn0.refl _ | apply Drawn0.step)⟩
  · rw [if_neg c2] at H
    have c2b0 : decide (48 ≤ a0) = false := decide_eq_false c2
    clear c2
    obtain rfl := Option.some.inj H
    go_enter Try.func29, Try.ntmps29
    go_wp2
    go_ret
    exact ⟨by first | rfl | (simp; done) | (simp [*]; done), by repeat (first | exact Drawn0.refl _ | apply Drawn0.step)⟩

end Go.Proofs.Ytmhenlilcikgmaa.X

/- Functions of the seat as Lean functions, and that the calls come to them: written by this session's own program xprint.py over the kit's printer. -/
namespace Go.Proofs.Ytmhenlilcikgmaa.X
open Go.RowKit Go.Proofs.YtmhenlilcikgmaaW.PrintWords Go.Proofs.YtmhenlilcikgmaaW.PrintLast Go.Proofs.YtmhenlilcikgmaaW.PrintMore
attribute [local go_sem] max2_int min2_int max_two min_two max_three min_three max_four min_four   -- for this text's walks alone
set_option linter.unusedVariables false
set_option linter.unusedSimpArgs false

/-! ### hucksterref14_letter: function 28 -/
def hucksterref14_letter.f (a0 : Int) : Option (Bool) := if a0 ≥ 97 then (some (decide (a0 ≤ 122))) else (some false)
set_option maxHeartbeats 8000000 in
set_option maxRecDepth 100000 in
theorem hucksterref14_letter.calls (a0 : Int) (r : Bool) (w : World) (h : hucksterref14_letter.f a0 = some r) :
    Calls Try.prog 28 #[.int .u8 a0] w fun e w' => e = .returned (.bool r) ∧ Drawn0 w w' := by
  have H : (if a0 ≥ 97 then (some (decide (a0 ≤ 122))) else (some false)) = some r := h
  clear h
  by_cases c2 : a0 ≥ 97
  · rw [if_pos c2] at H
    have c2b0 : decide (97 ≤ a0) = true := decide_eq_true c2
    clear c2
    obtain rfl := Option.some.inj H
    go_enter Try.func28, Try.ntmps28
    go_wp2
    go_ret
    exact ⟨by first | rfl | (simp; done) | (simp [*]; done), by repeat (first | exact Drawn0.refl _ | apply Drawn0.step)⟩
  · rw [if_neg c2] at H
    have c2b0 : decide (97 ≤ a0) = false := decide_eq_false c2
    clear c2
    obtain rfl := Option.some.inj H
    go_enter Try.func28, Try.ntmps28
    go_wp2
    go_ret
    exact ⟨by first | rfl | (simp; done) | (simp [*]; done), by repeat (first | exact Drawn0.refl _ | apply Drawn0.step)⟩

end Go.Proofs.Ytmhenlilcikgmaa.X

/- Functions of the seat as Lean functions, and that the calls come to them: written by this session's own program xprint.py over the kit's printer. -/
namespace Go.Proofs.Ytmhenlilcikgmaa.X
open Go.RowKit Go.Proofs.YtmhenlilcikgmaaW.PrintWords Go.Proofs.YtmhenlilcikgmaaW.PrintLast Go.Proofs.YtmhenlilcikgmaaW.PrintMore
attribute [local go_sem] max2_int min2_int max_two min_two max_three min_three max_four min_four   -- for this text's walks alone
set_option linter.unusedVariables false
set_option linter.unusedSimpArgs false

/-! ### hucksterref14_Word: function 17 -/
def hucksterref14_Word.l0 : Nat → ByteArray → Int → Option (Bool)
  | 0, _, _ => none
  | k + 1, x0, x3 => if x3 < (x0.size : Int) then (if 0 ≤ x3 then ((hucksterref14_letter.f (bt x0 x3)).bind fun t139 => (if t139 = true then (hucksterref14_Word.l0 k x0 (wrap64 (x3 + 1))) else ((hucksterref14_digit.f (bt x0 x3)).bind fun t140 => (if t140 = true then (if x3 > 0 then (hucksterref14_Word.l0 k x0 (wrap64 (x3 + 1))) else (some false)) else (some false))))) else (none)) else (if (x0.size : Int) ≥ 1 then (some (decide ((x0.size : Int) ≤ 16))) else (some false))
def hucksterref14_Word.f (k : Nat) (a0 : ByteArray) : Option (Bool) := hucksterref14_Word.l0 k a0 0
theorem hucksterref14_Word.mono_l : ∀ k, (∀ y0 y1, LeO (hucksterref14_Word.l0 k y0 y1) (hucksterref14_Word.l0 (k + 1) y0 y1))
  | 0 => fun _ _ r h => by simp [hucksterref14_Word.l0] at h
  | k + 1 => by
    have ih0 := hucksterref14_Word.mono_l k
    · intro y0 y1
      unfold hucksterref14_Word.l0
      repeat' first
      | (with_reducible exact ih0 _ _)
      | (with_reducible exact LeO.refl _)
      | (with_reducible exact LeO.none _)
      | (with_reducible refine LeO.ite ?_ ?_)
      | (with_reducible refine LeO.bind ?_ (fun _ => ?_))
      | exact ih0 _ _
      | exact LeO.none _
      | refine LeO.ite ?_ ?_
      | refine LeO.bind ?_ (fun _ => ?_)
theorem hucksterref14_Word.mono : ∀ a0 k, LeO (hucksterref14_Word.f k a0) (hucksterref14_Word.f (k + 1) a0) := by
  intro a0 k
  have ih0 := hucksterref14_Word.mono_l k
  unfold hucksterref14_Word.f
  repeat' first
      | (with_reducible exact ih0 _ _)
      | (with_reducible exact LeO.refl _)
      | (with_reducible exact LeO.none _)
      | (with_reducible refine LeO.ite ?_ ?_)
      | (with_reducible refine LeO.bind ?_ (fun _ => ?_))
      | exact ih0 _ _
      | exact LeO.none _
      | refine LeO.ite ?_ ?_
      | refine LeO.bind ?_ (fun _ => ?_)
set_option maxHeartbeats 8000000 in
set_option maxRecDepth 100000 in
theorem hucksterref14_Word.calls (k : Nat) (a0 : ByteArray) (r : Bool) (w : World) (h : hucksterref14_Word.f k a0 = some r) :
    Calls Try.prog 17 #[.string a0] w fun e w' => e = .returned (.bool r) ∧ Drawn0 w w' := by
  have H : (hucksterref14_Word.l0 k a0 0) = some r := h
  clear h
  have H' := Aside0.mk H
  clear H
  go_enter Try.func17, Try.ntmps17
  go_wp2
  go_loopg [3] k (fun kq v3 w' => ∃ (x3_1 : Int), v3 = .int .i64 x3_1 ∧ Aside0 (hucksterref14_Word.l0 kq a0 x3_1 = some r) ∧ Aside0 (kq ≤ k) ∧ Drawn0 w w')
  case atStart => exact ⟨(0), (by first | rfl | (simp; done) | (simp [*]; done)), H', ⟨Nat.le_refl _⟩, by repeat (first | exact Drawn0.refl _ | apply Drawn0.step)⟩
  case round =>
    clear H'
    try clear c1
    obtain ⟨x3_1, rfl, HA, HK1, ⟨m1, rfl⟩⟩ := hrel
    cases gk with
    | zero => exact absurd HA.out (by simp [hucksterref14_Word.l0])
    | succ k1 =>
      have H := HA.out
      clear HA
      simp only [hucksterref14_Word.l0] at H
      by_cases c2 : x3_1 < (a0.size : Int)
      · rw [if_pos c2] at H
        have c2b0 : decide (x3_1 < (a0.size : Int)) = true := decide_eq_true c2
        clear c2
        by_cases c3 : 0 ≤ x3_1
        · rw [if_pos c3] at H
          have c3b0 : decide (0 ≤ x3_1) = true := decide_eq_true c3
          clear c3
          replace H := Option.bind_eq_some_iff.mp H
          obtain ⟨t139, A50, H⟩ := H
          replace H : (if t139 = true then (hucksterref14_Word.l0 k1 a0 (wrap64 (x3_1 + 1))) else ((hucksterref14_digit.f (bt a0 x3_1)).bind fun t140 => (if t140 = true then (if x3_1 > 0 then (hucksterref14_Word.l0 k1 a0 (wrap64 (x3_1 + 1))) else (some false)) else (some false)))) = some r := H
          have A5 := Aside0.mk A50
          clear A50
          by_cases c6 : t139 = true
          · subst c6
            have H1 : (hucksterref14_Word.l0 k1 a0 (wrap64 (x3_1 + 1))) = some r := by rw [if_pos rfl] at H; exact H
            clear H
            have H := H1
            clear H1
            have H' := Aside0.mk H
            clear H
            have p4 : 0 ≤ (x3_1 : Int) := of_decide_eq_true (by first | (with_reducible assumption) | assumption)
            have q4 : x3_1 < (a0.size : Int) := of_decide_eq_true (by first | (with_reducible assumption) | assumption)
            have hx4 := bt_at a0 x3_1
            replace p4 := eq_true p4
            replace q4 := eq_true q4
            go_wp2_with (first | ((with_reducible refine gate_callee (f := 28) rfl ?_); refine goesL_ (some 13) rfl rfl Try.func28 (by kernel_rfl) rfl #[.int .u8 (bt a0 x3_1)] rfl (by (try simp only [List.map_toArray, List.map_cons, List.map_nil]); first | done | rfl | (simp only [List.length_drop, List.length_take]; rfl)) ?_; (with_reducible refine (hucksterref14_letter.calls (bt a0 x3_1) true _ A5.out).mono ?_); rintro e w' ⟨rfl, ⟨nd, rfl⟩⟩; refine ⟨_, rfl, ?_⟩))
            go_roundg k1
            case measure => have := HK1.out; omega
            case rel => exact ⟨(wrap64 (x3_1 + 1)), (by first | rfl | (simp; done) | (simp [*]; done)), H', ⟨by have := HK1.out; omega⟩, by repeat (first | exact Drawn0.refl _ | apply Drawn0.step)⟩
          · replace c6 := Bool.eq_false_iff.mpr c6
            subst c6
            have H1 : ((hucksterref14_digit.f (bt a0 x3_1)).bind fun t140 => (if t140 = true then (if x3_1 > 0 then (hucksterref14_Word.l0 k1 a0 (wrap64 (x3_1 + 1))) else (some false)) else (some false))) = some r := by rw [if_neg (show ¬ (false = true) by decide)] at H; exact H
            clear H
            have H := H1
            clear H1
            replace H := Option.bind_eq_some_iff.mp H
            obtain ⟨t140, A80, H⟩ := H
            replace H : (if t140 = true then (if x3_1 > 0 then (hucksterref14_Word.l0 k1 a0 (wrap64 (x3_1 + 1))) else (some false)) else (some false)) = some r := H
            have A8 := Aside0.mk A80
            clear A80
            by_cases c9 : t140 = true
            · subst c9
              have H1 : (if x3_1 > 0 then (hucksterref14_Word.l0 k1 a0 (wrap64 (x3_1 + 1))) else (some false)) = some r := by rw [if_pos rfl] at H; exact H
              clear H
              have H := H1
              clear H1
              by_cases c10 : x3_1 > 0
              · rw [if_pos c10] at H
                have c10b0 : decide (0 < x3_1) = true := decide_eq_true c10
                clear c10
                have H' := Aside0.mk H
                clear H
                have p4 : 0 ≤ (x3_1 : Int) := of_decide_eq_true (by first | (with_reducible assumption) | assumption)
                have q4 : x3_1 < (a0.size : Int) := of_decide_eq_true (by first | (with_reducible assumption) | assumption)
                have hx4 := bt_at a0 x3_1
                replace p4 := eq_true p4
                replace q4 := eq_true q4
                go_wp2_with (first | ((with_reducible refine gate_callee (f := 28) rfl ?_); refine goesL_ (some 13) rfl rfl Try.func28 (by kernel_rfl) rfl #[.int .u8 (bt a0 x3_1)] rfl (by (try simp only [List.map_toArray, List.map_cons, List.map_nil]); first | done | rfl | (simp only [List.length_drop, List.length_take]; rfl)) ?_; (with_reducible refine (hucksterref14_letter.calls (bt a0 x3_1) false _ A5.out).mono ?_); rintro e w' ⟨rfl, ⟨nd, rfl⟩⟩; refine ⟨_, rfl, ?_⟩; have p7 : 0 ≤ (x3_1 : Int) := of_decide_eq_true (by first | (with_reducible assumption) | assumption); have q7 : x3_1 < (a0.size : Int) := of_decide_eq_true (by first | (with_reducible assumption) | assumption); have hx7 := bt_at a0 x3_1; replace p7 := eq_true p7; replace q7 := eq_true q7) | (go_at_call 29; (with_reducible refine (hucksterref14_digit.calls (bt a0 x3_1) true _ A8.out).mono ?_); rintro e w' ⟨rfl, ⟨nd, rfl⟩⟩))
                go_roundg k1
                case measure => have := HK1.out; omega
                case rel => exact ⟨(wrap64 (x3_1 + 1)), (by first | rfl | (simp; done) | (simp [*]; done)), H', ⟨by have := HK1.out; omega⟩, by repeat (first | exact Drawn0.refl _ | apply Drawn0.step)⟩
              · rw [if_neg c10] at H
                have c10b0 : decide (0 < x3_1) = false := decide_eq_false c10
                clear c10
                obtain rfl := Option.some.inj H
                have p4 : 0 ≤ (x3_1 : Int) := of_decide_eq_true (by first | (with_reducible assumption) | assumption)
                have q4 : x3_1 < (a0.size : Int) := of_decide_eq_true (by first | (with_reducible assumption) | assumption)
                have hx4 := bt_at a0 x3_1
                replace p4 := eq_true p4
                replace q4 := eq_true q4
                go_wp2_with (first | ((with_reducible refine gate_callee (f := 28) rfl ?_); refine goesL_ (some 13) rfl rfl Try.func28 (by kernel_rfl) rfl #[.int .u8 (bt a0 x3_1)] rfl (by (try simp only [List.map_toArray, List.map_cons, List.map_nil]); first | done | rfl | (simp only [List.length_drop, List.length_take]; rfl)) ?_; (with_reducible refine (hucksterref14_letter.calls (bt a0 x3_1) false _ A5.out).mono ?_); rintro e w' ⟨rfl, ⟨nd, rfl⟩⟩; refine ⟨_, rfl, ?_⟩; have p7 : 0 ≤ (x3_1 : Int) := of_decide_eq_true (by first | (with_reducible assumption) | assumption); have q7 : x3_1 < (a0.size : Int) := of_decide_eq_true (by first | (with_reducible assumption) | assumption); have hx7 := bt_at a0 x3_1; replace p7 := eq_true p7; replace q7 := eq_true q7) | (go_at_call 29; (with_reducible refine (hucksterref14_digit.calls (bt a0 x3_1) true _ A8.out).mono ?_); rintro e w' ⟨rfl, ⟨nd, rfl⟩⟩))
                go_ret
                exact ⟨by first | rfl | (simp; done) | (simp [*]; done), by repeat (first | exact Drawn0.refl _ | apply Drawn0.step)⟩
            · replace c9 := Bool.eq_false_iff.mpr c9
              subst c9
              have H1 : (some false) = some r := by rw [if_neg (show ¬ (false = true) by decide)] at H; exact H
              clear H
              have H := H1
              clear H1
              obtain rfl := Option.some.inj H
              have p4 : 0 ≤ (x3_1 : Int) := of_decide_eq_true (by first | (with_reducible assumption) | assumption)
              have q4 : x3_1 < (a0.size : Int) := of_decide_eq_true (by first | (with_reducible assumption) | assumption)
              have hx4 := bt_at a0 x3_1
              replace p4 := eq_true p4
              replace q4 := eq_true q4
              go_wp2_with (first | ((with_reducible refine gate_callee (f := 28) rfl ?_); refine goesL_ (some 13) rfl rfl Try.func28 (by kernel_rfl) rfl #[.int .u8 (bt a0 x3_1)] rfl (by (try simp only [List.map_toArray, List.map_cons, List.map_nil]); first | done | rfl | (simp only [List.length_drop, List.length_take]; rfl)) ?_; (with_reducible refine (hucksterref14_letter.calls (bt a0 x3_1) false _ A5.out).mono ?_); rintro e w' ⟨rfl, ⟨nd, rfl⟩⟩; refine ⟨_, rfl, ?_⟩; have p7 : 0 ≤ (x3_1 : Int) := of_decide_eq_true (by first | (with_reducible assumption) | assumption); have q7 : x3_1 < (a0.size : Int) := of_decide_eq_true (by first | (with_reducible assumption) | assumption); have hx7 := bt_at a0 x3_1; replace p7 := eq_true p7; replace q7 := eq_true q7) | (go_at_call 29; (with_reducible refine (hucksterref14_digit.calls (bt a0 x3_1) false _ A8.out).mono ?_); rintro e w' ⟨rfl, ⟨nd, rfl⟩⟩))
              go_ret
              exact ⟨by first | rfl | (simp; done) | (simp [*]; done), by repeat (first | exact Drawn0.refl _ | apply Drawn0.step)⟩
        · rw [if_neg c3] at H
          exact absurd H (by simp)
      · rw [if_neg c2] at H
        have c2b0 : decide (x3_1 < (a0.size : Int)) = false := decide_eq_false c2
        clear c2
        by_cases c11 : (a0.size : Int) ≥ 1
        · rw [if_pos c11] at H
          have c11b0 : decide (1 ≤ (a0.size : Int)) = true := decide_eq_true c11
          have c11b1 : decide (1 ≤ a0.size) = true := decide_eq_true (by omega)
          clear c11
          obtain rfl := Option.some.inj H
          go_wp2
          go_ret
          exact ⟨by first | rfl | (simp; done) | (simp [*]; done), by repeat (first | exact Drawn0.refl _ | apply Drawn0.step)⟩
        · rw [if_neg c11] at H
          have c11b0 : decide (1 ≤ (a0.size : Int)) = false := decide_eq_false c11
          have c11b1 : decide (1 ≤ a0.size) = false := decide_eq_false (by omega)
          clear c11
          obtain rfl := Option.some.inj H
          go_wp2
          go_ret
          exact ⟨by first | rfl | (simp; done) | (simp [*]; done), by repeat (first | exact Drawn0.refl _ | apply Drawn0.step)⟩

end Go.Proofs.Ytmhenlilcikgmaa.X

/- Functions of the seat as Lean functions, and that the calls come to them: written by this session's own program xprint.py over the kit's printer. -/
namespace Go.Proofs.Ytmhenlilcikgmaa.X
open Go.RowKit Go.Proofs.YtmhenlilcikgmaaW.PrintWords Go.Proofs.YtmhenlilcikgmaaW.PrintLast Go.Proofs.YtmhenlilcikgmaaW.PrintMore
attribute [local go_sem] max2_int min2_int max_two min_two max_three min_three max_four min_four   -- for this text's walks alone
set_option linter.unusedVariables false
set_option linter.unusedSimpArgs false

/-! ### hucksterref15_words: function 30 -/
def hucksterref15_words.f  : Option (List ByteArray) := some (([(⟨#[115, 101, 116]⟩ : ByteArray), (⟨#[99, 111, 117, 110, 116]⟩ : ByteArray), (⟨#[110, 111, 116, 101]⟩ : ByteArray), (⟨#[114, 117, 108, 101]⟩ : ByteArray), (⟨#[111, 112]⟩ : ByteArray), (⟨#[115, 116, 114, 105, 99, 116]⟩ : ByteArray), (⟨#[114, 101, 102]⟩ : ByteArray), (⟨#[98, 111, 116, 104]⟩ : ByteArray), (⟨#[108, 105, 109, 105, 116]⟩ : ByteArray), (⟨#[109, 111, 115, 116]⟩ : ByteArray), (⟨#[108, 101, 97, 115, 116]⟩ : ByteArray), (⟨#[110, 101, 101, 100, 115]⟩ : ByteArray), (⟨#[97, 100, 100]⟩ : ByteArray), (⟨#[100, 114, 111, 112]⟩ : ByteArray), (⟨#[117, 112]⟩ : ByteArray), (⟨#[100, 111, 119, 110]⟩ : ByteArray), (⟨#[112, 117, 116]⟩ : ByteArray)] : List ByteArray))
set_option maxHeartbeats 8000000 in
set_option maxRecDepth 100000 in
theorem hucksterref15_words.calls  (r : List ByteArray) (w : World) (h : hucksterref15_words.f  = some r) :
    Calls Try.prog 30 #[] w fun e w' => ∃ v0_ : Value, e = .returned (v0_) ∧ Kd.R Kd.string 9 w' w.heap.size (fun _ => True) v0_ r ∧ Below w.heap.size w w' := by
  have HB := Aside0.mk (Below.refl w.heap.size w)
  have H : (some (([(⟨#[115, 101, 116]⟩ : ByteArray), (⟨#[99, 111, 117, 110, 116]⟩ : ByteArray), (⟨#[110, 111, 116, 101]⟩ : ByteArray), (⟨#[114, 117, 108, 101]⟩ : ByteArray), (⟨#[111, 112]⟩ : ByteArray), (⟨#[115, 116, 114, 105, 99, 116]⟩ : ByteArray), (⟨#[114, 101, 102]⟩ : ByteArray), (⟨#[98, 111, 116, 104]⟩ : ByteArray), (⟨#[108, 105, 109, 105, 116]⟩ : ByteArray), (⟨#[109, 111, 115, 116]⟩ : ByteArray), (⟨#[108, 101, 97, 115, 116]⟩ : ByteArray), (⟨#[110, 101, 101, 100, 115]⟩ : ByteArray), (⟨#[97, 100, 100]⟩ : ByteArray), (⟨#[100, 114, 111, 112]⟩ : ByteArray), (⟨#[117, 112]⟩ : ByteArray), (⟨#[100, 111, 119, 110]⟩ : ByteArray), (⟨#[112, 117, 116]⟩ : ByteArray)] : List ByteArray))) = some r := h
  clear h
  obtain ⟨y141, hy141⟩ : ∃ y_ : List ByteArray, y_ = (([(⟨#[115, 101, 116]⟩ : ByteArray), (⟨#[99, 111, 117, 110, 116]⟩ : ByteArray), (⟨#[110, 111, 116, 101]⟩ : ByteArray), (⟨#[114, 117, 108, 101]⟩ : ByteArray), (⟨#[111, 112]⟩ : ByteArray), (⟨#[115, 116, 114, 105, 99, 116]⟩ : ByteArray), (⟨#[114, 101, 102]⟩ : ByteArray), (⟨#[98, 111, 116, 104]⟩ : ByteArray), (⟨#[108, 105, 109, 105, 116]⟩ : ByteArray), (⟨#[109, 111, 115, 116]⟩ : ByteArray), (⟨#[108, 101, 97, 115, 116]⟩ : ByteArray), (⟨#[110, 101, 101, 100, 115]⟩ : ByteArray), (⟨#[97, 100, 100]⟩ : ByteArray), (⟨#[100, 114, 111, 112]⟩ : ByteArray), (⟨#[117, 112]⟩ : ByteArray), (⟨#[100, 111, 119, 110]⟩ : ByteArray), (⟨#[112, 117, 116]⟩ : ByteArray)] : List ByteArray)) := ⟨_, rfl⟩
  replace H : (some y141) = some r := by first | (rw [hy141]; with_reducible exact H) | (have H2_ := (Option.bind_some _ _).symm.trans H; rw [hy141]; with_reducible exact H2_) | (have H2_ := (Option.bind_some _ _).symm.trans H; with_reducible exact H2_) | with_reducible exact H | (rw [hy141]; exact H) | exact H
  have Ny141 := Aside0.mk hy141
  clear hy141
  obtain rfl := Option.some.inj H
  go_enter Try.func30, Try.ntmps30
  go_wp2_with (first | ((with_reducible refine gate_dst (N := 1) rfl ?_); refine Kd.R_lit Kd.string _ 9 ?hg (N := 1) ?hd (xs := ([(⟨#[115, 101, 116]⟩ : ByteArray), (⟨#[99, 111, 117, 110, 116]⟩ : ByteArray), (⟨#[110, 111, 116, 101]⟩ : ByteArray), (⟨#[114, 117, 108, 101]⟩ : ByteArray), (⟨#[111, 112]⟩ : ByteArray), (⟨#[115, 116, 114, 105, 99, 116]⟩ : ByteArray), (⟨#[114, 101, 102]⟩ : ByteArray), (⟨#[98, 111, 116, 104]⟩ : ByteArray), (⟨#[108, 105, 109, 105, 116]⟩ : ByteArray), (⟨#[109, 111, 115, 116]⟩ : ByteArray), (⟨#[108, 101, 97, 115, 116]⟩ : ByteArray), (⟨#[110, 101, 101, 100, 115]⟩ : ByteArray), (⟨#[97, 100, 100]⟩ : ByteArray), (⟨#[100, 114, 111, 112]⟩ : ByteArray), (⟨#[117, 112]⟩ : ByteArray), (⟨#[100, 111, 119, 110]⟩ : ByteArray), (⟨#[112, 117, 116]⟩ : ByteArray)] : List ByteArray)) (inner := [.string (⟨#[115, 101, 116]⟩ : ByteArray), .string (⟨#[99, 111, 117, 110, 116]⟩ : ByteArray), .string (⟨#[110, 111, 116, 101]⟩ : ByteArray), .string (⟨#[114, 117, 108, 101]⟩ : ByteArray), .string (⟨#[111, 112]⟩ : ByteArray), .string (⟨#[115, 116, 114, 105, 99, 116]⟩ : ByteArray), .string (⟨#[114, 101, 102]⟩ : ByteArray), .string (⟨#[98, 111, 116, 104]⟩ : ByteArray), .string (⟨#[108, 105, 109, 105, 116]⟩ : ByteArray), .string (⟨#[109, 111, 115, 116]⟩ : ByteArray), .string (⟨#[108, 101, 97, 115, 116]⟩ : ByteArray), .string (⟨#[110, 101, 101, 100, 115]⟩ : ByteArray), .string (⟨#[97, 100, 100]⟩ : ByteArray), .string (⟨#[100, 114, 111, 112]⟩ : ByteArray), .string (⟨#[117, 112]⟩ : ByteArray), .string (⟨#[100, 111, 119, 110]⟩ : ByteArray), .string (⟨#[112, 117, 116]⟩ : ByteArray)]) (ok := fun _ => True) (okp := fun _ => True) ?hr ?hp (fun _ hk => hk) trivial (Below.refl _ _) (Nat.le_refl _) (by simp) ?_; (case hd => rfl); (case hg => rfl); (case hr => first | (go_simp; done) | (go_simp; rfl)); (case hp => exact (Reps.one (show Kd.M Kd.string _ _ _ (⟨#[115, 101, 116]⟩ : ByteArray) [.string (⟨#[115, 101, 116]⟩ : ByteArray)] from rfl) (Reps.one (show Kd.M Kd.string _ _ _ (⟨#[99, 111, 117, 110, 116]⟩ : ByteArray) [.string (⟨#[99, 111, 117, 110, 116]⟩ : ByteArray)] from rfl) (Reps.one (show Kd.M Kd.string _ _ _ (⟨#[110, 111, 116, 101]⟩ : ByteArray) [.string (⟨#[110, 111, 116, 101]⟩ : ByteArray)] from rfl) (Reps.one (show Kd.M Kd.string _ _ _ (⟨#[114, 117, 108, 101]⟩ : ByteArray) [.string (⟨#[114, 117, 108, 101]⟩ : ByteArray)] from rfl) (Reps.one (show Kd.M Kd.string _ _ _ (⟨#[111, 112]⟩ : ByteArray) [.string (⟨#[111, 112]⟩ : ByteArray)] from rfl) (Reps.one (show Kd.M Kd.string _ _ _ (⟨#[115, 116, 114, 105, 99, 116]⟩ : ByteArray) [.string (⟨#[115, 116, 114, 105, 99, 116]⟩ : ByteArray)] from rfl) (Reps.one (show Kd.M Kd.string _ _ _ (⟨#[114, 101, 102]⟩ : ByteArray) [.string (⟨#[114, 101, 102]⟩ : ByteArray)] from rfl) (Reps.one (show Kd.M Kd.string _ _ _ (⟨#[98, 111, 116, 104]⟩ : ByteArray) [.string (⟨#[98, 111, 116, 104]⟩ : ByteArray)] from rfl) (Reps.one (show Kd.M Kd.string _ _ _ (⟨#[108, 105, 109, 105, 116]⟩ : ByteArray) [.string (⟨#[108, 105, 109, 105, 116]⟩ : ByteArray)] from rfl) (Reps.one (show Kd.M Kd.string _ _ _ (⟨#[109, 111, 115, 116]⟩ : ByteArray) [.string (⟨#[109, 111, 115, 116]⟩ : ByteArray)] from rfl) (Reps.one (show Kd.M Kd.string _ _ _ (⟨#[108, 101, 97, 115, 116]⟩ : ByteArray) [.string (⟨#[108, 101, 97, 115, 116]⟩ : ByteArray)] from rfl) (Reps.one (show Kd.M Kd.string _ _ _ (⟨#[110, 101, 101, 100, 115]⟩ : ByteArray) [.string (⟨#[110, 101, 101, 100, 115]⟩ : ByteArray)] from rfl) (Reps.one (show Kd.M Kd.string _ _ _ (⟨#[97, 100, 100]⟩ : ByteArray) [.string (⟨#[97, 100, 100]⟩ : ByteArray)] from rfl) (Reps.one (show Kd.M Kd.string _ _ _ (⟨#[100, 114, 111, 112]⟩ : ByteArray) [.string (⟨#[100, 114, 111, 112]⟩ : ByteArray)] from rfl) (Reps.one (show Kd.M Kd.string _ _ _ (⟨#[117, 112]⟩ : ByteArray) [.string (⟨#[117, 112]⟩ : ByteArray)] from rfl) (Reps.one (show Kd.M Kd.string _ _ _ (⟨#[100, 111, 119, 110]⟩ : ByteArray) [.string (⟨#[100, 111, 119, 110]⟩ : ByteArray)] from rfl) (Reps.one (show Kd.M Kd.string _ _ _ (⟨#[112, 117, 116]⟩ : ByteArray) [.string (⟨#[112, 117, 116]⟩ : ByteArray)] from rfl) (Reps.none _ _))))))))))))))))))); intro v142 w1 ho2 hb hg_ hnew_; clear hg_ hnew_; (first | rw [← Ny141.out] at ho2 | (simp only [Int.reduceToNat] at ho2; rw [← Ny141.out] at ho2)); have n0_ := Aside0.mk (Kd.R_lower ho2 (below_size (by repeat (first | (with_reducible first | exact HB.out | apply below_alloc | apply pw_below_drewN | apply below_drew1) | exact HB.out)))); have n1_ := Aside0.mk (below_step (by repeat (first | (with_reducible first | exact HB.out | apply below_alloc | apply pw_below_drewN | apply below_drew1) | exact HB.out)) hb); clear HB; have HO143 := n0_; have HB := n1_; clear n0_ n1_; clear hb ho2))
  go_ret
  exact ⟨_, by first | rfl | (simp [errW_none, errW_some] <;> rfl) | (simp [*, errW_none, errW_some] <;> rfl), by (with_reducible repeat (first | apply Kd.R_alloc | apply Kd.R_drewN | apply Kd.R_drew)); exact HO143.out, by repeat (first | (with_reducible first | exact HB.out | apply below_alloc | apply pw_below_drewN | apply below_drew1) | exact HB.out)⟩

end Go.Proofs.Ytmhenlilcikgmaa.X

/- Functions of the seat as Lean functions, and that the calls come to them: written by this session's own program xprint.py over the kit's printer. -/
namespace Go.Proofs.Ytmhenlilcikgmaa.X
open Go.RowKit Go.Proofs.YtmhenlilcikgmaaW.PrintWords Go.Proofs.YtmhenlilcikgmaaW.PrintLast Go.Proofs.YtmhenlilcikgmaaW.PrintMore
attribute [local go_sem] max2_int min2_int max_two min_two max_three min_three max_four min_four   -- for this text's walks alone
set_option linter.unusedVariables false
set_option linter.unusedSimpArgs false

/-! ### hucksterref15_Kept: function 18 -/
def hucksterref15_Kept.l0 : Nat → ByteArray → List ByteArray → Int → Option (Bool)
  | 0, _, _, _ => none
  | k + 1, x0, x3, x4 => if x4 < (x3.length : Int) then (if 0 ≤ x4 then (if (rdOf ByteArray.empty x3 x4).toList = x0.toList then (some true) else (hucksterref15_Kept.l0 k x0 x3 (wrap64 (x4 + 1)))) else (none)) else (some false)
def hucksterref15_Kept.f (k : Nat) (a0 : ByteArray) : Option (Bool) := (hucksterref15_words.f).bind fun t144 => (hucksterref15_Kept.l0 k a0 t144 0)
theorem hucksterref15_Kept.mono_l : ∀ k, (∀ y0 y1 y2, LeO (hucksterref15_Kept.l0 k y0 y1 y2) (hucksterref15_Kept.l0 (k + 1) y0 y1 y2))
  | 0 => fun _ _ _ r h => by simp [hucksterref15_Kept.l0] at h
  | k + 1 => by
    have ih0 := hucksterref15_Kept.mono_l k
    · intro y0 y1 y2
      unfold hucksterref15_Kept.l0
      repeat' first
      | (with_reducible exact ih0 _ _ _)
      | (with_reducible exact LeO.refl _)
      | (with_reducible exact LeO.none _)
      | (with_reducible refine LeO.ite ?_ ?_)
      | (with_reducible refine LeO.bind ?_ (fun _ => ?_))
      | exact ih0 _ _ _
      | exact LeO.none _
      | refine LeO.ite ?_ ?_
      | refine LeO.bind ?_ (fun _ => ?_)
theorem hucksterref15_Kept.mono : ∀ a0 k, LeO (hucksterref15_Kept.f k a0) (hucksterref15_Kept.f (k + 1) a0) := by
  intro a0 k
  have ih0 := hucksterref15_Kept.mono_l k
  unfold hucksterref15_Kept.f
  repeat' first
      | (with_reducible exact ih0 _ _ _)
      | (with_reducible exact LeO.refl _)
      | (with_reducible exact LeO.none _)
      | (with_reducible refine LeO.ite ?_ ?_)
      | (with_reducible refine LeO.bind ?_ (fun _ => ?_))
      | exact ih0 _ _ _
      | exact LeO.none _
      | refine LeO.ite ?_ ?_
      | refine LeO.bind ?_ (fun _ => ?_)
set_option maxHeartbeats 8000000 in
set_option maxRecDepth 100000 in
theorem hucksterref15_Kept.calls (k : Nat) (a0 : ByteArray) (r : Bool) (w : World) (h : hucksterref15_Kept.f k a0 = some r) :
    Calls Try.prog 18 #[.string a0] w fun e w' => e = .returned (.bool r) ∧ Below w.heap.size w w' := by
  have HB := Aside0.mk (Below.refl w.heap.size w)
  have H : ((hucksterref15_words.f).bind fun t144 => (hucksterref15_Kept.l0 k a0 t144 0)) = some r := h
  clear h
  replace H := Option.bind_eq_some_iff.mp H
  obtain ⟨t144, A20, H⟩ := H
  replace H : (hucksterref15_Kept.l0 k a0 t144 0) = some r := H
  have A2 := Aside0.mk A20
  clear A20
  have H' := Aside0.mk H
  clear H
  go_enter Try.func18, Try.ntmps18
  go_wp2_with (first | ((with_reducible refine gate_callee (f := 30) rfl ?_); refine goesL_ (some 5) rfl rfl Try.func30 (by kernel_rfl) rfl #[] rfl (by (try simp only [List.map_toArray, List.map_cons, List.map_nil]); first | done | rfl | (simp only [List.length_drop, List.length_take]; rfl)) ?_; (with_reducible refine (hucksterref15_words.calls  t144 _ A2.out).mono ?_); rintro e w3 ⟨v145, rfl, ho0, hb⟩; refine ⟨_, rfl, ?_⟩; have n0_ := Aside0.mk (Kd.R_lower ho0 (below_size (by repeat (first | (with_reducible first | exact HB.out | apply below_alloc | apply pw_below_drewN | apply below_drew1) | exact HB.out)))); have n1_ := Aside0.mk (below_step (by repeat (first | (with_reducible first | exact HB.out | apply below_alloc | apply pw_below_drewN | apply below_drew1) | exact HB.out)) hb); clear HB; have HO146 := n0_; have HB := n1_; clear n0_ n1_; (try clear hb); (try clear hb2); (try clear hk); (try clear hi); (try clear ho0)))
  go_loopg [4] k (fun kq v4 w' => ∃ (x4_1 : Int), v4 = .int .i64 x4_1 ∧ Aside0 (hucksterref15_Kept.l0 kq a0 t144 x4_1 = some r) ∧ Aside0 (kq ≤ k) ∧ Aside0 (Kd.R Kd.string 9 w' w.heap.size (fun _ => True) v145 t144) ∧ Aside0 (Below w.heap.size w w'))
  case atStart => exact ⟨(0), (by first | rfl | (simp; done) | (simp [*]; done)), H', ⟨Nat.le_refl _⟩, ⟨by (with_reducible repeat (first | apply Kd.R_alloc | apply Kd.R_drewN | apply Kd.R_drew)); exact HO146.out⟩, ⟨by repeat (first | (with_reducible first | exact HB.out | apply below_alloc | apply pw_below_drewN | apply below_drew1) | exact HB.out)⟩⟩
  case round =>
    clear H'
    try clear c1
    try clear p2
    try clear c3
    obtain ⟨x4_1, rfl, HA, HK1, HO_3, HB⟩ := hrel
    cases gk with
    | zero => exact absurd HA.out (by simp [hucksterref15_Kept.l0])
    | succ k1 =>
      have H := HA.out
      clear HA
      simp only [hucksterref15_Kept.l0] at H
      by_cases c4 : x4_1 < (t144.length : Int)
      · rw [if_pos c4] at H
        have c4b0 : decide (x4_1 < (t144.length : Int)) = true := decide_eq_true c4
        clear c4
        by_cases c5 : 0 ≤ x4_1
        · rw [if_pos c5] at H
          have c5b0 : decide (0 ≤ x4_1) = true := decide_eq_true c5
          clear c5
          by_cases c6 : (rdOf ByteArray.empty t144 x4_1).toList = a0.toList
          · rw [if_pos c6] at H
            have c6b0 : ((rdOf ByteArray.empty t144 x4_1).toList == a0.toList) = true := beq_iff_eq.mpr c6
            have c6b1 : ((rdOf ByteArray.empty t144 x4_1).toList != a0.toList) = false := bne_eq_false_iff_eq.mpr c6
            clear c6
            obtain rfl := Option.some.inj H
            obtain ⟨Ao7, co7, eo7⟩ := Kd.R_slice HO_3.out
            subst eo7
            have p147 : 0 ≤ (x4_1 : Int) := of_decide_eq_true (by first | (with_reducible assumption) | assumption)
            have q147 : x4_1 < (t144.length : Int) := of_decide_eq_true (by first | (with_reducible assumption) | assumption)
            obtain ⟨ad147, e147, hx147_0⟩ := Kd.at_string (Kd.R_reads' HO_3.out).2.2 x4_1 p147 q147
            cases e147
            replace p147 := eq_true p147
            replace q147 := eq_true q147
            go_wp2
            go_ret
            exact ⟨by first | rfl | (simp [errW_none, errW_some] <;> rfl) | (simp [*, errW_none, errW_some] <;> rfl), by repeat (first | (with_reducible first | exact HB.out | apply below_alloc | apply pw_below_drewN | apply below_drew1) | exact HB.out)⟩
          · rw [if_neg c6] at H
            have c6b0 : ((rdOf ByteArray.empty t144 x4_1).toList == a0.toList) = false := beq_eq_false_iff_ne.mpr c6
            have c6b1 : ((rdOf ByteArray.empty t144 x4_1).toList != a0.toList) = true := bne_iff_ne.mpr c6
            have H' := Aside0.mk H
            clear H
            obtain ⟨Ao8, co8, eo8⟩ := Kd.R_slice HO_3.out
            subst eo8
            have p147 : 0 ≤ (x4_1 : Int) := of_decide_eq_true (by first | (with_reducible assumption) | assumption)
            have q147 : x4_1 < (t144.length : Int) := of_decide_eq_true (by first | (with_reducible assumption) | assumption)
            obtain ⟨ad147, e147, hx147_0⟩ := Kd.at_string (Kd.R_reads' HO_3.out).2.2 x4_1 p147 q147
            cases e147
            replace p147 := eq_true p147
            replace q147 := eq_true q147
            go_wp2
            go_roundg k1
            case measure => have := HK1.out; omega
            case rel => exact ⟨(wrap64 (x4_1 + 1)), (by first | rfl | (simp; done) | (simp [*]; done)), H', ⟨by have := HK1.out; omega⟩, ⟨by (with_reducible repeat (first | apply Kd.R_alloc | apply Kd.R_drewN | apply Kd.R_drew)); exact HO_3.out⟩, ⟨by repeat (first | (with_reducible first | exact HB.out | apply below_alloc | apply pw_below_drewN | apply below_drew1) | exact HB.out)⟩⟩
        · rw [if_neg c5] at H
          exact absurd H (by simp)
      · rw [if_neg c4] at H
        have c4b0 : decide (x4_1 < (t144.length : Int)) = false := decide_eq_false c4
        clear c4
        obtain rfl := Option.some.inj H
        obtain ⟨Ao9, co9, eo9⟩ := Kd.R_slice HO_3.out
        subst eo9
        go_wp2
        go_ret
        exact ⟨by first | rfl | (simp [errW_none, errW_some] <;> rfl) | (simp [*, errW_none, errW_some] <;> rfl), by repeat (first | (with_reducible first | exact HB.out | apply below_alloc | apply pw_below_drewN | apply below_drew1) | exact HB.out)⟩

end Go.Proofs.Ytmhenlilcikgmaa.X

/- Functions of the seat as Lean functions, and that the calls come to them: written by this session's own program xprint.py over the kit's printer. -/
namespace Go.Proofs.Ytmhenlilcikgmaa.X
open Go.RowKit Go.Proofs.YtmhenlilcikgmaaW.PrintWords Go.Proofs.YtmhenlilcikgmaaW.PrintLast Go.Proofs.YtmhenlilcikgmaaW.PrintMore
attribute [local go_sem] max2_int min2_int max_two min_two max_three min_three max_four min_four   -- for this text's walks alone
set_option linter.unusedVariables false
set_option linter.unusedSimpArgs false

/-! ### hucksterref15_Name: function 8 -/
def hucksterref15_Name.f (k : Nat) (a0 : ByteArray) : Option (Bool) := (hucksterref14_Word.f k a0).bind fun t148 => (if t148 = true then ((hucksterref15_Kept.f k a0).bind fun t149 => (some (!t149))) else (some false))
theorem hucksterref15_Name.mono : ∀ a0 k, LeO (hucksterref15_Name.f k a0) (hucksterref15_Name.f (k + 1) a0) := by
  intro a0 k
  unfold hucksterref15_Name.f
  repeat' first
      | (with_reducible exact hucksterref14_Word.mono _ _)
      | (with_reducible exact hucksterref15_Kept.mono _ _)
      | (with_reducible exact LeO.refl _)
      | (with_reducible exact LeO.none _)
      | (with_reducible refine LeO.ite ?_ ?_)
      | (with_reducible refine LeO.bind ?_ (fun _ => ?_))
      | exact hucksterref14_Word.mono _ _
      | exact hucksterref15_Kept.mono _ _
      | exact LeO.none _
      | refine LeO.ite ?_ ?_
      | refine LeO.bind ?_ (fun _ => ?_)
set_option maxHeartbeats 8000000 in
set_option maxRecDepth 100000 in
theorem hucksterref15_Name.calls (k : Nat) (a0 : ByteArray) (r : Bool) (w : World) (h : hucksterref15_Name.f k a0 = some r) :
    Calls Try.prog 8 #[.string a0] w fun e w' => e = .returned (.bool r) ∧ Below w.heap.size w w' := by
  have HB := Aside0.mk (Below.refl w.heap.size w)
  have H : ((hucksterref14_Word.f k a0).bind fun t148 => (if t148 = true then ((hucksterref15_Kept.f k a0).bind fun t149 => (some (!t149))) else (some false))) = some r := h
  clear h
  replace H := Option.bind_eq_some_iff.mp H
  obtain ⟨t148, A20, H⟩ := H
  replace H : (if t148 = true then ((hucksterref15_Kept.f k a0).bind fun t149 => (some (!t149))) else (some false)) = some r := H
  have A2 := Aside0.mk A20
  clear A20
  by_cases c3 : t148 = true
  · subst c3
    have H1 : ((hucksterref15_Kept.f k a0).bind fun t149 => (some (!t149))) = some r := by rw [if_pos rfl] at H; exact H
    clear H
    have H := H1
    clear H1
    replace H := Option.bind_eq_some_iff.mp H
    obtain ⟨t149, A40, H⟩ := H
    replace H : (some (!t149)) = some r := H
    have A4 := Aside0.mk A40
    clear A40
    obtain rfl := Option.some.inj H
    go_enter Try.func8, Try.ntmps8
    go_wp2_with (first | ((with_reducible refine gate_callee (f := 17) rfl ?_); refine goesL_ (some 4) rfl rfl Try.func17 (by kernel_rfl) rfl #[.string a0] rfl (by (try simp only [List.map_toArray, List.map_cons, List.map_nil]); first | done | rfl | (simp only [List.length_drop, List.length_take]; rfl)) ?_; (with_reducible refine (hucksterref14_Word.calls k a0 true _ A2.out).mono ?_); rintro e w' ⟨rfl, ⟨nd, rfl⟩⟩; refine ⟨_, rfl, ?_⟩) | (go_at_call 18; (with_reducible refine (hucksterref15_Kept.calls k a0 t149 _ A4.out).mono ?_); rintro e w5 ⟨rfl, hb⟩; have n0_ := Aside0.mk (below_step (by repeat (first | (with_reducible first | exact HB.out | apply below_alloc | apply pw_below_drewN | apply below_drew1) | exact HB.out)) hb); clear HB; have HB := n0_; clear n0_; (try clear hb); (try clear hb2); (try clear hk); (try clear hi)))
    go_ret
    exact ⟨by first | rfl | (simp [errW_none, errW_some] <;> rfl) | (simp [*, errW_none, errW_some] <;> rfl), by repeat (first | (with_reducible first | exact HB.out | apply below_alloc | apply pw_below_drewN | apply below_drew1) | exact HB.out)⟩
  · replace c3 := Bool.eq_false_iff.mpr c3
    subst c3
    have H1 : (some false) = some r := by rw [if_neg (show ¬ (false = true) by decide)] at H; exact H
    clear H
    have H := H1
    clear H1
    obtain rfl := Option.some.inj H
    go_enter Try.func8, Try.ntmps8
    go_wp2_with (first | ((with_reducible refine gate_callee (f := 17) rfl ?_); refine goesL_ (some 4) rfl rfl Try.func17 (by kernel_rfl) rfl #[.string a0] rfl (by (try simp only [List.map_toArray, List.map_cons, List.map_nil]); first | done | rfl | (simp only [List.length_drop, List.length_take]; rfl)) ?_; (with_reducible refine (hucksterref14_Word.calls k a0 false _ A2.out).mono ?_); rintro e w' ⟨rfl, ⟨nd, rfl⟩⟩; refine ⟨_, rfl, ?_⟩))
    go_ret
    exact ⟨by first | rfl | (simp [errW_none, errW_some] <;> rfl) | (simp [*, errW_none, errW_some] <;> rfl), by repeat (first | (with_reducible first | exact HB.out | apply below_alloc | apply pw_below_drewN | apply below_drew1) | exact HB.out)⟩

end Go.Proofs.Ytmhenlilcikgmaa.X

/- Functions of the seat as Lean functions, and that the calls come to them: written by this session's own program xprint.py over the kit's printer. -/
namespace Go.Proofs.Ytmhenlilcikgmaa.X
open Go.RowKit Go.Proofs.YtmhenlilcikgmaaW.PrintWords Go.Proofs.YtmhenlilcikgmaaW.PrintLast Go.Proofs.YtmhenlilcikgmaaW.PrintMore
attribute [local go_sem] max2_int min2_int max_two min_two max_three min_three max_four min_four   -- for this text's walks alone
set_option linter.unusedVariables false
set_option linter.unusedSimpArgs false

/-! ### hucksterlaw15_ParseOne: function 4 -/
mutual
def hucksterlaw15_ParseOne.j0 : Nat → ByteArray → ByteArray → Int → Bool → Option (Bool)
  | 0, _, _, _, _ => none
  | k + 1, x0, x1, x2, x18 => if x18 = true then ((hucksterlaw15_awake.f).bind fun t150 => (some t150)) else ((some (([(⟨#[114, 117, 108, 101, 32, 114, 101, 102, 32]⟩ : ByteArray), (⟨#[114, 117, 108, 101, 32, 98, 111, 116, 104, 32]⟩ : ByteArray), (⟨#[114, 117, 108, 101, 32, 115, 116, 114, 105, 99, 116, 32, 110, 101, 101, 100, 115, 32]⟩ : ByteArray), (⟨#[114, 117, 108, 101, 32, 115, 116, 114, 105, 99, 116, 32, 114, 101, 102, 32]⟩ : ByteArray)] : List ByteArray) : List ByteArray)).bind fun y151 => (if 0 ≤ (Int.tmod (wrap64 (x2)) 4) then (if (Int.tmod (wrap64 (x2)) 4) < (y151.length : Int) then (if (rdOf ByteArray.empty y151 (Int.tmod (wrap64 (x2)) 4)).size + x0.size ≤ 9223372036854775807 then (if ((rdOf ByteArray.empty y151 (Int.tmod (wrap64 (x2)) 4)) ++ x0).size + 1 ≤ 9223372036854775807 then (if (((rdOf ByteArray.empty y151 (Int.tmod (wrap64 (x2)) 4)) ++ x0) ++ (⟨#[32]⟩ : ByteArray)).size + x1.size ≤ 9223372036854775807 then ((parse_Lines.f ((((rdOf ByteArray.empty y151 (Int.tmod (wrap64 (x2)) 4)) ++ x0) ++ (⟨#[32]⟩ : ByteArray)) ++ x1)).bind fun bt155 => ((hucksterref15_Name.f k x0).bind fun t160 => (if t160 = true then ((hucksterref15_Name.f k x1).bind fun t161 => (hucksterlaw15_ParseOne.j1 k x0 x1 x2 bt155.1 bt155.2.1 bt155.2.2 (!t161))) else (hucksterlaw15_ParseOne.j1 k x0 x1 x2 bt155.1 bt155.2.1 bt155.2.2 true)))) else (none)) else (none)) else (none)) else (none)) else (none)))
def hucksterlaw15_ParseOne.j1 : Nat → ByteArray → ByteArray → Int → List (S29) → Int → Int → Bool → Option (Bool)
  | 0, _, _, _, _, _, _, _ => none
  | k + 1, x0, x1, x2, x8, x9, x10, x44 => if x44 = true then (if x10 = 0 then (if x0.toList = ([] : List UInt8) then ((hucksterlaw15_awake.f).bind fun t162 => (some t162)) else (if x1.toList = ([] : List UInt8) then ((hucksterlaw15_awake.f).bind fun t163 => (some t163)) else (if (x0.size : Int) > 16 then ((hucksterlaw15_awake.f).bind fun t164 => (some t164)) else (if (x1.size : Int) > 16 then ((hucksterlaw15_awake.f).bind fun t165 => (some t165)) else ((hucksterlaw15_plain.f k x0).bind fun t166 => (if t166 = true then ((hucksterlaw15_plain.f k x1).bind fun t167 => (if t167 = true then (some false) else ((hucksterlaw15_awake.f).bind fun t168 => (some t168)))) else ((hucksterlaw15_awake.f).bind fun t169 => (some t169)))))))) else ((hucksterlaw15_awake.f).bind fun t170 => (some t170))) else (if x10 = 0 then (if x9 = 0 then (if (x8.length : Int) = 1 then (if 0 < (x8.length : Int) then (if ((rd_T29 x8 0).f2).toList = x0.toList then (if ((rd_T29 x8 0).f3).toList = x1.toList then (if (((rd_T29 x8 0).f1) == (decide ((Int.tmod x2 4) ≥ 2))) = true then ((hucksterlaw15_awake.f).bind fun t174 => (some t174)) else (some false)) else (some false)) else (some false)) else (none)) else (some false)) else (some false)) else (some false))
end
def hucksterlaw15_ParseOne.f (k : Nat) (a0 : ByteArray) (a1 : ByteArray) (a2 : Int) : Option (Bool) := if (a0.size : Int) > 60 then (hucksterlaw15_ParseOne.j0 k a0 a1 a2 true) else (hucksterlaw15_ParseOne.j0 k a0 a1 a2 (decide ((a1.size : Int) > 60)))
theorem hucksterlaw15_ParseOne.mono_l : ∀ k, (∀ y0 y1 y2 y3, LeO (hucksterlaw15_ParseOne.j0 k y0 y1 y2 y3) (hucksterlaw15_ParseOne.j0 (k + 1) y0 y1 y2 y3)) ∧ (∀ y0 y1 y2 y3 y4 y5 y6, LeO (hucksterlaw15_ParseOne.j1 k y0 y1 y2 y3 y4 y5 y6) (hucksterlaw15_ParseOne.j1 (k + 1) y0 y1 y2 y3 y4 y5 y6))
  | 0 => ⟨fun _ _ _ _ r h => by simp [hucksterlaw15_ParseOne.j0] at h, fun _ _ _ _ _ _ _ r h => by simp [hucksterlaw15_ParseOne.j1] at h⟩
  | k + 1 => by
    obtain ⟨ih0, ih1⟩ := hucksterlaw15_ParseOne.mono_l k
    refine ⟨?_, ?_⟩
    · intro y0 y1 y2 y3
      unfold hucksterlaw15_ParseOne.j0
      repeat' first
      | (with_reducible exact ih0 _ _ _ _)
      | (with_reducible exact ih1 _ _ _ _ _ _ _)
      | (with_reducible exact hucksterlaw15_plain.mono _ _)
      | (with_reducible exact hucksterref15_Name.mono _ _)
      | (with_reducible exact LeO.refl _)
      | (with_reducible exact LeO.none _)
      | (with_reducible refine LeO.ite ?_ ?_)
      | (with_reducible refine LeO.bind ?_ (fun _ => ?_))
      | exact ih0 _ _ _ _
      | exact ih1 _ _ _ _ _ _ _
      | exact hucksterlaw15_plain.mono _ _
      | exact hucksterref15_Name.mono _ _
      | exact LeO.none _
      | refine LeO.ite ?_ ?_
      | refine LeO.bind ?_ (fun _ => ?_)
    · intro y0 y1 y2 y3 y4 y5 y6
      unfold hucksterlaw15_ParseOne.j1
      repeat' first
      | (with_reducible exact ih0 _ _ _ _)
      | (with_reducible exact ih1 _ _ _ _ _ _ _)
      | (with_reducible exact hucksterlaw15_plain.mono _ _)
      | (with_reducible exact hucksterref15_Name.mono _ _)
      | (with_reducible exact LeO.refl _)
      | (with_reducible exact LeO.none _)
      | (with_reducible refine LeO.ite ?_ ?_)
      | (with_reducible refine LeO.bind ?_ (fun _ => ?_))
      | exact ih0 _ _ _ _
      | exact ih1 _ _ _ _ _ _ _
      | exact hucksterlaw15_plain.mono _ _
      | exact hucksterref15_Name.mono _ _
      | exact LeO.none _
      | refine LeO.ite ?_ ?_
      | refine LeO.bind ?_ (fun _ => ?_)
theorem hucksterlaw15_ParseOne.mono : ∀ a0 a1 a2 k, LeO (hucksterlaw15_ParseOne.f k a0 a1 a2) (hucksterlaw15_ParseOne.f (k + 1) a0 a1 a2) := by
  intro a0 a1 a2 k
  obtain ⟨ih0, ih1⟩ := hucksterlaw15_ParseOne.mono_l k
  unfold hucksterlaw15_ParseOne.f
  repeat' first
      | (with_reducible exact ih0 _ _ _ _)
      | (with_reducible exact ih1 _ _ _ _ _ _ _)
      | (with_reducible exact hucksterlaw15_plain.mono _ _)
      | (with_reducible exact hucksterref15_Name.mono _ _)
      | (with_reducible exact LeO.refl _)
      | (with_reducible exact LeO.none _)
      | (with_reducible refine LeO.ite ?_ ?_)
      | (with_reducible refine LeO.bind ?_ (fun _ => ?_))
      | exact ih0 _ _ _ _
      | exact ih1 _ _ _ _ _ _ _
      | exact hucksterlaw15_plain.mono _ _
      | exact hucksterref15_Name.mono _ _
      | exact LeO.none _
      | refine LeO.ite ?_ ?_
      | refine LeO.bind ?_ (fun _ => ?_)
set_option maxHeartbeats 8000000 in
set_option maxRecDepth 100000 in
theorem hucksterlaw15_ParseOne.calls (k : Nat) (a0 : ByteArray) (a1 : ByteArray) (a2 : Int) (r : Bool) (w : World) (h : hucksterlaw15_ParseOne.f k a0 a1 a2 = some r) :
    Calls Try.prog 4 #[.string a0, .string a1, .int .u8 a2] w fun e w' => e = .returned (.bool r) ∧ Below w.heap.size w w' := by
  have HB := Aside0.mk (Below.refl w.heap.size w)
  have H : (if (a0.size : Int) > 60 then (hucksterlaw15_ParseOne.j0 k a0 a1 a2 true) else (hucksterlaw15_ParseOne.j0 k a0 a1 a2 (decide ((a1.size : Int) > 60)))) = some r := h
  clear h
  have HC4 := Aside0.mk H
  clear H
  go_enter Try.func4, Try.ntmps4
  go_upto_region 1 with (fail)
  go_cut [18] (fun v18 wc => ∃ (kq : Nat) (x18_3 : Bool), v18 = .bool x18_3 ∧ Aside0 (hucksterlaw15_ParseOne.j0 kq a0 a1 a2 x18_3 = some r) ∧ Aside0 (kq ≤ k) ∧ Aside0 (Below w.heap.size w wc))
  case first =>
    have H := HC4.out
    clear HC4
    by_cases c5 : (a0.size : Int) > 60
    · rw [if_pos c5] at H
      have c5b0 : decide (60 < (a0.size : Int)) = true := decide_eq_true c5
      have c5b1 : decide (60 < a0.size) = true := decide_eq_true (by omega)
      clear c5
      (first | rw [c5b0] | (simp only [i64_w, i32_w]; rw [c5b0]) | skip)
      have H' := Aside0.mk H
      clear H
      go_wp2
      go_meet
      case rel => exact ⟨_, (true), (by first | rfl | (simp; done) | (simp [*]; done)), H', ⟨by first | omega | exact Nat.le_refl _⟩, ⟨by repeat (first | (with_reducible first | exact HB.out | apply below_alloc | apply pw_below_drewN | apply below_drew1) | exact HB.out)⟩⟩
    · rw [if_neg c5] at H
      have c5b0 : decide (60 < (a0.size : Int)) = false := decide_eq_false c5
      have c5b1 : decide (60 < a0.size) = false := decide_eq_false (by omega)
      clear c5
      (first | rw [c5b0] | (simp only [i64_w, i32_w]; rw [c5b0]) | skip)
      have H' := Aside0.mk H
      clear H
      go_wp2
      go_meet
      case rel => exact ⟨_, (decide ((a1.size : Int) > 60)), (by first | rfl | (simp; done) | (simp [*]; done)), H', ⟨by first | omega | exact Nat.le_refl _⟩, ⟨by repeat (first | (with_reducible first | exact HB.out | apply below_alloc | apply pw_below_drewN | apply below_drew1) | exact HB.out)⟩⟩
  case rest =>
    clear HC4
    try clear p2
    try clear c4
    try clear c5
    try clear c5b0
    try clear c5b1
    obtain ⟨kq, x18_3, rfl, HA, HJ3, HB⟩ := hcut
    cases kq with
    | zero => exact absurd HA.out (by simp [hucksterlaw15_ParseOne.j0])
    | succ kj3 =>
      have H := HA.out
      clear HA
      simp only [hucksterlaw15_ParseOne.j0] at H
      by_cases c6 : x18_3 = true
      · subst c6
        have H1 : ((hucksterlaw15_awake.f).bind fun t150 => (some t150)) = some r := by rw [if_pos rfl] at H; exact H
        clear H
        have H := H1
        clear H1
        replace H := Option.bind_eq_some_iff.mp H
        obtain ⟨t150, A70, H⟩ := H
        replace H : (some t150) = some r := H
        have A7 := Aside0.mk A70
        clear A70
        obtain rfl := Option.some.inj H
        go_wp2_with (first | ((with_reducible refine gate_callee (f := 5) rfl ?_); refine goesL_ (some 19) rfl rfl Try.func5 (by kernel_rfl) rfl #[] rfl (by (try simp only [List.map_toArray, List.map_cons, List.map_nil]); first | done | rfl | (simp only [List.length_drop, List.length_take]; rfl)) ?_; (with_reducible refine (hucksterlaw15_awake.calls  t150 _ A7.out).mono ?_); rintro e w8 ⟨rfl, hb⟩; refine ⟨_, rfl, ?_⟩; have n0_ := Aside0.mk (below_step (by repeat (first | (with_reducible first | exact HB.out | apply below_alloc | apply pw_below_drewN | apply below_drew1) | exact HB.out)) hb); clear HB; have HB := n0_; clear n0_; (try clear hb); (try clear hb2); (try clear hk); (try clear hi)))
        go_ret
        exact ⟨by first | rfl | (simp [errW_none, errW_some] <;> rfl) | (simp [*, errW_none, errW_some] <;> rfl), by repeat (first | (with_reducible first | exact HB.out | apply below_alloc | apply pw_below_drewN | apply below_drew1) | exact HB.out)⟩
      · replace c6 := Bool.eq_false_iff.mpr c6
        subst c6
        have H1 : ((some (([(⟨#[114, 117, 108, 101, 32, 114, 101, 102, 32]⟩ : ByteArray), (⟨#[114, 117, 108, 101, 32, 98, 111, 116, 104, 32]⟩ : ByteArray), (⟨#[114, 117, 108, 101, 32, 115, 116, 114, 105, 99, 116, 32, 110, 101, 101, 100, 115, 32]⟩ : ByteArray), (⟨#[114, 117, 108, 101, 32, 115, 116, 114, 105, 99, 116, 32, 114, 101, 102, 32]⟩ : ByteArray)] : List ByteArray) : List ByteArray)).bind fun y151 => (if 0 ≤ (Int.tmod (wrap64 (a2)) 4) then (if (Int.tmod (wrap64 (a2)) 4) < (y151.length : Int) then (if (rdOf ByteArray.empty y151 (Int.tmod (wrap64 (a2)) 4)).size + a0.size ≤ 9223372036854775807 then (if ((rdOf ByteArray.empty y151 (Int.tmod (wrap64 (a2)) 4)) ++ a0).size + 1 ≤ 9223372036854775807 then (if (((rdOf ByteArray.empty y151 (Int.tmod (wrap64 (a2)) 4)) ++ a0) ++ (⟨#[32]⟩ : ByteArray)).size + a1.size ≤ 9223372036854775807 then ((parse_Lines.f ((((rdOf ByteArray.empty y151 (Int.tmod (wrap64 (a2)) 4)) ++ a0) ++ (⟨#[32]⟩ : ByteArray)) ++ a1)).bind fun bt155 => ((hucksterref15_Name.f kj3 a0).bind fun t160 => (if t160 = true then ((hucksterref15_Name.f kj3 a1).bind fun t161 => (hucksterlaw15_ParseOne.j1 kj3 a0 a1 a2 bt155.1 bt155.2.1 bt155.2.2 (!t161))) else (hucksterlaw15_ParseOne.j1 kj3 a0 a1 a2 bt155.1 bt155.2.1 bt155.2.2 true)))) else (none)) else (none)) else (none)) else (none)) else (none))) = some r := by rw [if_neg (show ¬ (false = true) by decide)] at H; exact H
        clear H
        have H := H1
        clear H1
        obtain ⟨y151, hy151⟩ : ∃ y_ : List ByteArray, y_ = (([(⟨#[114, 117, 108, 101, 32, 114, 101, 102, 32]⟩ : ByteArray), (⟨#[114, 117, 108, 101, 32, 98, 111, 116, 104, 32]⟩ : ByteArray), (⟨#[114, 117, 108, 101, 32, 115, 116, 114, 105, 99, 116, 32, 110, 101, 101, 100, 115, 32]⟩ : ByteArray), (⟨#[114, 117, 108, 101, 32, 115, 116, 114, 105, 99, 116, 32, 114, 101, 102, 32]⟩ : ByteArray)] : List ByteArray)) := ⟨_, rfl⟩
        replace H : (if 0 ≤ (Int.tmod (wrap64 (a2)) 4) then (if (Int.tmod (wrap64 (a2)) 4) < (y151.length : Int) then (if (rdOf ByteArray.empty y151 (Int.tmod (wrap64 (a2)) 4)).size + a0.size ≤ 9223372036854775807 then (if ((rdOf ByteArray.empty y151 (Int.tmod (wrap64 (a2)) 4)) ++ a0).size + 1 ≤ 9223372036854775807 then (if (((rdOf ByteArray.empty y151 (Int.tmod (wrap64 (a2)) 4)) ++ a0) ++ (⟨#[32]⟩ : ByteArray)).size + a1.size ≤ 9223372036854775807 then ((parse_Lines.f ((((rdOf ByteArray.empty y151 (Int.tmod (wrap64 (a2)) 4)) ++ a0) ++ (⟨#[32]⟩ : ByteArray)) ++ a1)).bind fun bt155 => ((hucksterref15_Name.f kj3 a0).bind fun t160 => (if t160 = true then ((hucksterref15_Name.f kj3 a1).bind fun t161 => (hucksterlaw15_ParseOne.j1 kj3 a0 a1 a2 bt155.1 bt155.2.1 bt155.2.2 (!t161))) else (hucksterlaw15_ParseOne.j1 kj3 a0 a1 a2 bt155.1 bt155.2.1 bt155.2.2 true)))) else (none)) else (none)) else (none)) else (none)) else (none)) = some r := by first | (rw [hy151]; with_reducible exact H) | (have H2_ := (Option.bind_some _ _).symm.trans H; rw [hy151]; with_reducible exact H2_) | (have H2_ := (Option.bind_some _ _).symm.trans H; with_reducible exact H2_) | with_reducible exact H | (rw [hy151]; exact H) | exact H
        have Ny151 := Aside0.mk hy151
        clear hy151
        obtain ⟨ji9, hji9⟩ : ∃ j_ : Int, (Int.tmod (wrap64 (a2)) 4) = j_ := ⟨_, rfl⟩
        replace H : (if 0 ≤ (ji9) then (if (ji9) < (y151.length : Int) then (if (rdOf ByteArray.empty y151 (ji9)).size + a0.size ≤ 9223372036854775807 then (if ((rdOf ByteArray.empty y151 (ji9)) ++ a0).size + 1 ≤ 9223372036854775807 then (if (((rdOf ByteArray.empty y151 (ji9)) ++ a0) ++ (⟨#[32]⟩ : ByteArray)).size + a1.size ≤ 9223372036854775807 then ((parse_Lines.f ((((rdOf ByteArray.empty y151 (ji9)) ++ a0) ++ (⟨#[32]⟩ : ByteArray)) ++ a1)).bind fun bt155 => ((hucksterref15_Name.f kj3 a0).bind fun t160 => (if t160 = true then ((hucksterref15_Name.f kj3 a1).bind fun t161 => (hucksterlaw15_ParseOne.j1 kj3 a0 a1 a2 bt155.1 bt155.2.1 bt155.2.2 (!t161))) else (hucksterlaw15_ParseOne.j1 kj3 a0 a1 a2 bt155.1 bt155.2.1 bt155.2.2 true)))) else (none)) else (none)) else (none)) else (none)) else (none)) = some r := by first | (rw [hji9] at H; exact H) | (simp only [hji9] at H ⊢; exact H)
        by_cases c10 : 0 ≤ (ji9)
        · rw [if_pos c10] at H
          have c10b0 : decide (0 ≤ (ji9)) = true := decide_eq_true c10
          clear c10
          by_cases c11 : (ji9) < (y151.length : Int)
          · rw [if_pos c11] at H
            have c11b0 : decide ((ji9) < (y151.length : Int)) = true := decide_eq_true c11
            clear c11
            by_cases c12 : (rdOf ByteArray.empty y151 (ji9)).size + a0.size ≤ 9223372036854775807
            · rw [if_pos c12] at H
              have c12b0 := eq_true c12
              have c12b1 : decide ((rdOf ByteArray.empty y151 (ji9)).size + a0.size ≤ 9223372036854775807) = true := decide_eq_true c12
              try have c12b2 : (9223372036854775807 < (rdOf ByteArray.empty y151 (ji9)).size + a0.size) = False := eq_false (Nat.not_lt.2 c12)
              try (have c12b3 := c12b2; simp only [ByteArray.size_append, (rfl : (⟨#[32]⟩ : ByteArray).size = 1), (rfl : (⟨#[10]⟩ : ByteArray).size = 1)] at c12b3)
              by_cases c13 : ((rdOf ByteArray.empty y151 (ji9)) ++ a0).size + 1 ≤ 9223372036854775807
              · rw [if_pos c13] at H
                have c13b0 := eq_true c13
                have c13b1 : decide (((rdOf ByteArray.empty y151 (ji9)) ++ a0).size + 1 ≤ 9223372036854775807) = true := decide_eq_true c13
                try have c13b2 : (9223372036854775807 < ((rdOf ByteArray.empty y151 (ji9)) ++ a0).size + 1) = False := eq_false (Nat.not_lt.2 c13)
                try (have c13b3 := c13b2; simp only [ByteArray.size_append, (rfl : (⟨#[32]⟩ : ByteArray).size = 1), (rfl : (⟨#[10]⟩ : ByteArray).size = 1)] at c13b3)
                by_cases c14 : (((rdOf ByteArray.empty y151 (ji9)) ++ a0) ++ (⟨#[32]⟩ : ByteArray)).size + a1.size ≤ 9223372036854775807
                · rw [if_pos c14] at H
                  have c14b0 := eq_true c14
                  have c14b1 : decide ((((rdOf ByteArray.empty y151 (ji9)) ++ a0) ++ (⟨#[32]⟩ : ByteArray)).size + a1.size ≤ 9223372036854775807) = true := decide_eq_true c14
                  try have c14b2 : (9223372036854775807 < (((rdOf ByteArray.empty y151 (ji9)) ++ a0) ++ (⟨#[32]⟩ : ByteArray)).size + a1.size) = False := eq_false (Nat.not_lt.2 c14)
                  try (have c14b3 := c14b2; simp only [ByteArray.size_append, (rfl : (⟨#[32]⟩ : ByteArray).size = 1), (rfl : (⟨#[10]⟩ : ByteArray).size = 1)] at c14b3)
                  replace H := Option.bind_eq_some_iff.mp H
                  obtain ⟨⟨t155, t156, t157⟩, A150, H⟩ := H
                  replace H : ((hucksterref15_Name.f kj3 a0).bind fun t160 => (if t160 = true then ((hucksterref15_Name.f kj3 a1).bind fun t161 => (hucksterlaw15_ParseOne.j1 kj3 a0 a1 a2 t155 t156 t157 (!t161))) else (hucksterlaw15_ParseOne.j1 kj3 a0 a1 a2 t155 t156 t157 true))) = some r := H
                  have A15 := Aside0.mk A150
                  clear A150
                  have HC16 := Aside0.mk H
                  clear H
                  go_upto_region 5 with (first | ((with_reducible refine gate_dst (N := 20) rfl ?_); (try (refine gate_guard (by rfl) ?_; dsimp only)); refine Kd.R_lit Kd.string _ 9 ?hg (N := 20) ?hd (xs := ([(⟨#[114, 117, 108, 101, 32, 114, 101, 102, 32]⟩ : ByteArray), (⟨#[114, 117, 108, 101, 32, 98, 111, 116, 104, 32]⟩ : ByteArray), (⟨#[114, 117, 108, 101, 32, 115, 116, 114, 105, 99, 116, 32, 110, 101, 101, 100, 115, 32]⟩ : ByteArray), (⟨#[114, 117, 108, 101, 32, 115, 116, 114, 105, 99, 116, 32, 114, 101, 102, 32]⟩ : ByteArray)] : List ByteArray)) (inner := [.string (⟨#[114, 117, 108, 101, 32, 114, 101, 102, 32]⟩ : ByteArray), .string (⟨#[114, 117, 108, 101, 32, 98, 111, 116, 104, 32]⟩ : ByteArray), .string (⟨#[114, 117, 108, 101, 32, 115, 116, 114, 105, 99, 116, 32, 110, 101, 101, 100, 115, 32]⟩ : ByteArray), .string (⟨#[114, 117, 108, 101, 32, 115, 116, 114, 105, 99, 116, 32, 114, 101, 102, 32]⟩ : ByteArray)]) (ok := fun _ => True) (okp := fun _ => True) ?hr ?hp (fun _ hk => hk) trivial (Below.refl _ _) (Nat.le_refl _) (by simp) ?_; (case hd => rfl); (case hg => rfl); (case hr => first | (go_simp; done) | (go_simp; rfl)); (case hp => exact (Reps.one (show Kd.M Kd.string _ _ _ (⟨#[114, 117, 108, 101, 32, 114, 101, 102, 32]⟩ : ByteArray) [.string (⟨#[114, 117, 108, 101, 32, 114, 101, 102, 32]⟩ : ByteArray)] from rfl) (Reps.one (show Kd.M Kd.string _ _ _ (⟨#[114, 117, 108, 101, 32, 98, 111, 116, 104, 32]⟩ : ByteArray) [.string (⟨#[114, 117, 108, 101, 32, 98, 111, 116, 104, 32]⟩ : ByteArray)] from rfl) (Reps.one (show Kd.M Kd.string _ _ _ (⟨#[114, 117, 108, 101, 32, 115, 116, 114, 105, 99, 116, 32, 110, 101, 101, 100, 115, 32]⟩ : ByteArray) [.string (⟨#[114, 117, 108, 101, 32, 115, 116, 114, 105, 99, 116, 32, 110, 101, 101, 100, 115, 32]⟩ : ByteArray)] from rfl) (Reps.one (show Kd.M Kd.string _ _ _ (⟨#[114, 117, 108, 101, 32, 115, 116, 114, 105, 99, 116, 32, 114, 101, 102, 32]⟩ : ByteArray) [.string (⟨#[114, 117, 108, 101, 32, 115, 116, 114, 105, 99, 116, 32, 114, 101, 102, 32]⟩ : ByteArray)] from rfl) (Reps.none _ _)))))); intro v152 w17 ho18 hb hg_ hnew_; clear hg_ hnew_; (first | rw [← Ny151.out] at ho18 | (simp only [Int.reduceToNat] at ho18; rw [← Ny151.out] at ho18)); have n0_ := Aside0.mk (Kd.R_lower ho18 (below_size (by repeat (first | (with_reducible first | exact HB.out | apply below_alloc | apply pw_below_drewN | apply below_drew1) | exact HB.out)))); have n1_ := Aside0.mk (below_step (by repeat (first | (with_reducible first | exact HB.out | apply below_alloc | apply pw_below_drewN | apply below_drew1) | exact HB.out)) hb); clear HB; have HO153 := n0_; have HB := n1_; clear n0_ n1_; clear hb ho18; obtain ⟨Ao19, co19, eo19⟩ := Kd.R_slice HO153.out; subst eo19; have p154 : 0 ≤ ((ji9) : Int) := of_decide_eq_true (by first | (with_reducible assumption) | assumption); have q154 : (ji9) < (y151.length : Int) := of_decide_eq_true (by first | (with_reducible assumption) | assumption); obtain ⟨ad154, e154, hx154_0⟩ := Kd.at_string (Kd.R_reads' HO153.out).2.2 (ji9) p154 q154; cases e154; replace p154 := eq_true p154; replace q154 := eq_true q154) | ((with_reducible refine gate_callee (f := 6) rfl ?_); refine goesL_ (some 33) rfl rfl Try.func6 (by kernel_rfl) rfl #[.string ((((rdOf ByteArray.empty y151 (ji9)) ++ a0) ++ (⟨#[32]⟩ : ByteArray)) ++ a1)] rfl (by (try simp only [List.map_toArray, List.map_cons, List.map_nil]); first | done | (simp only [hji9]; rfl) | rfl | (simp only [List.length_drop, List.length_take]; rfl)) ?_; (with_reducible refine (parse_Lines.calls ((((rdOf ByteArray.empty y151 (ji9)) ++ a0) ++ (⟨#[32]⟩ : ByteArray)) ++ a1) t155 t156 t157 _ A15.out).mono ?_); rintro e w20 ⟨v158, rfl, ho0, hb⟩; refine ⟨_, rfl, ?_⟩; have n0_ := Aside0.mk (Kd.R_below (by (with_reducible repeat (first | apply Kd.R_alloc | apply Kd.R_drewN | apply Kd.R_drew)); exact HO153.out) hb); have n1_ := Aside0.mk (Kd.R_lower ho0 (below_size (by repeat (first | (with_reducible first | exact HB.out | apply below_alloc | apply pw_below_drewN | apply below_drew1) | exact HB.out)))); have n2_ := Aside0.mk (below_step (by repeat (first | (with_reducible first | exact HB.out | apply below_alloc | apply pw_below_drewN | apply below_drew1) | exact HB.out)) hb); clear HO153; clear HB; have HO153 := n0_; have HO159 := n1_; have HB := n2_; clear n0_ n1_ n2_; (try clear hb); (try clear hb2); (try clear hk); (try clear hi); (try clear ho0)))
                  (try simp only [Act.put, List.setIfInBounds_toArray, List.set_cons_zero, List.set_cons_succ])
                  go_cut [44] (fun v44 wc => ∃ (kq : Nat) (x44_15 : Bool), v44 = .bool x44_15 ∧ Aside0 (hucksterlaw15_ParseOne.j1 kq a0 a1 a2 t155 t156 t157 x44_15 = some r) ∧ Aside0 (kq ≤ kj3) ∧ Aside0 (Kd.R k29 29 wc w.heap.size (fun _ => True) v158 t155) ∧ Aside0 (Below w.heap.size w wc))
                  case first =>
                    have H := HC16.out
                    clear HC16
                    replace H := Option.bind_eq_some_iff.mp H
                    obtain ⟨t160, A210, H⟩ := H
                    replace H : (if t160 = true then ((hucksterref15_Name.f kj3 a1).bind fun t161 => (hucksterlaw15_ParseOne.j1 kj3 a0 a1 a2 t155 t156 t157 (!t161))) else (hucksterlaw15_ParseOne.j1 kj3 a0 a1 a2 t155 t156 t157 true)) = some r := H
                    have A21 := Aside0.mk A210
                    clear A210
                    by_cases c22 : t160 = true
                    · subst c22
                      have H1 : ((hucksterref15_Name.f kj3 a1).bind fun t161 => (hucksterlaw15_ParseOne.j1 kj3 a0 a1 a2 t155 t156 t157 (!t161))) = some r := by rw [if_pos rfl] at H; exact H
                      clear H
                      have H := H1
                      clear H1
                      replace H := Option.bind_eq_some_iff.mp H
                      obtain ⟨t161, A230, H⟩ := H
                      replace H : (hucksterlaw15_ParseOne.j1 kj3 a0 a1 a2 t155 t156 t157 (!t161)) = some r := H
                      have A23 := Aside0.mk A230
                      clear A230
                      have H' := Aside0.mk H
                      clear H
                      go_wp2_with (first | ((with_reducible refine gate_callee (f := 8) rfl ?_); refine goesL_ (some 38) rfl rfl Try.func8 (by kernel_rfl) rfl #[.string a0] rfl (by (try simp only [List.map_toArray, List.map_cons, List.map_nil]); first | done | rfl | (simp only [List.length_drop, List.length_take]; rfl)) ?_; (with_reducible refine (hucksterref15_Name.calls kj3 a0 true _ A21.out).mono ?_); rintro e w24 ⟨rfl, hb⟩; refine ⟨_, rfl, ?_⟩; have n0_ := Aside0.mk (Kd.R_below (by (with_reducible repeat (first | apply Kd.R_alloc | apply Kd.R_drewN | apply Kd.R_drew)); exact HO153.out) hb); have n1_ := Aside0.mk (Kd.R_below (by (with_reducible repeat (first | apply Kd.R_alloc | apply Kd.R_drewN | apply Kd.R_drew)); exact HO159.out) hb); have n2_ := Aside0.mk (below_step (by repeat (first | (with_reducible first | exact HB.out | apply below_alloc | apply pw_below_drewN | apply below_drew1) | exact HB.out)) hb); clear HO153; clear HO159; clear HB; have HO153 := n0_; have HO159 := n1_; have HB := n2_; clear n0_ n1_ n2_; (try clear hb); (try clear hb2); (try clear hk); (try clear hi)) | (go_at_call 8; (with_reducible refine (hucksterref15_Name.calls kj3 a1 t161 _ A23.out).mono ?_); rintro e w25 ⟨rfl, hb⟩; have n0_ := Aside0.mk (Kd.R_below (by (with_reducible repeat (first | apply Kd.R_alloc | apply Kd.R_drewN | apply Kd.R_drew)); exact HO153.out) hb); have n1_ := Aside0.mk (Kd.R_below (by (with_reducible repeat (first | apply Kd.R_alloc | apply Kd.R_drewN | apply Kd.R_drew)); exact HO159.out) hb); have n2_ := Aside0.mk (below_step (by repeat (first | (with_reducible first | exact HB.out | apply below_alloc | apply pw_below_drewN | apply below_drew1) | exact HB.out)) hb); clear HO153; clear HO159; clear HB; have HO153 := n0_; have HO159 := n1_; have HB := n2_; clear n0_ n1_ n2_; (try clear hb); (try clear hb2); (try clear hk); (try clear hi)))
                      go_meet
                      case rel => exact ⟨_, (!t161), (by first | rfl | (simp; done) | (simp [*]; done)), H', ⟨by have := HJ3.out; first | omega | exact Nat.le_refl _⟩, ⟨by (with_reducible repeat (first | apply Kd.R_alloc | apply Kd.R_drewN | apply Kd.R_drew)); exact HO159.out⟩, ⟨by repeat (first | (with_reducible first | exact HB.out | apply below_alloc | apply pw_below_drewN | apply below_drew1) | exact HB.out)⟩⟩
                    · replace c22 := Bool.eq_false_iff.mpr c22
                      subst c22
                      have H1 : (hucksterlaw15_ParseOne.j1 kj3 a0 a1 a2 t155 t156 t157 true) = some r := by rw [if_neg (show ¬ (false = true) by decide)] at H; exact H
                      clear H
                      have H := H1
                      clear H1
                      have H' := Aside0.mk H
                      clear H
                      go_wp2_with (first | ((with_reducible refine gate_callee (f := 8) rfl ?_); refine goesL_ (some 38) rfl rfl Try.func8 (by kernel_rfl) rfl #[.string a0] rfl (by (try simp only [List.map_toArray, List.map_cons, List.map_nil]); first | done | rfl | (simp only [List.length_drop, List.length_take]; rfl)) ?_; (with_reducible refine (hucksterref15_Name.calls kj3 a0 false _ A21.out).mono ?_); rintro e w26 ⟨rfl, hb⟩; refine ⟨_, rfl, ?_⟩; have n0_ := Aside0.mk (Kd.R_below (by (with_reducible repeat (first | apply Kd.R_alloc | apply Kd.R_drewN | apply Kd.R_drew)); exact HO153.out) hb); have n1_ := Aside0.mk (Kd.R_below (by (with_reducible repeat (first | apply Kd.R_alloc | apply Kd.R_drewN | apply Kd.R_drew)); exact HO159.out) hb); have n2_ := Aside0.mk (below_step (by repeat (first | (with_reducible first | exact HB.out | apply below_alloc | apply pw_below_drewN | apply below_drew1) | exact HB.out)) hb); clear HO153; clear HO159; clear HB; have HO153 := n0_; have HO159 := n1_; have HB := n2_; clear n0_ n1_ n2_; (try clear hb); (try clear hb2); (try clear hk); (try clear hi)))
                      go_meet
                      case rel => exact ⟨_, (true), (by first | rfl | (simp; done) | (simp [*]; done)), H', ⟨by have := HJ3.out; first | omega | exact Nat.le_refl _⟩, ⟨by (with_reducible repeat (first | apply Kd.R_alloc | apply Kd.R_drewN | apply Kd.R_drew)); exact HO159.out⟩, ⟨by repeat (first | (with_reducible first | exact HB.out | apply below_alloc | apply pw_below_drewN | apply below_drew1) | exact HB.out)⟩⟩
                  case rest =>
                    clear HC16
                    try clear c1
                    try clear p1
                    try clear q1
                    try clear hx1
                    try clear c2
                    try clear p2
                    try clear c4
                    try clear c5
                    try clear c5b0
                    try clear c5b1
                    try clear c6
                    try clear p6
                    try clear c8
                    try clear c10
                    try clear c10b0
                    try clear c11
                    try clear c11b0
                    try clear c12
                    try clear c12b0
                    try clear c12b1
                    try clear c12b2
                    try clear c13
                    try clear c13b0
                    try clear c13b1
                    try clear c13b2
                    try clear c14
                    try clear c14b0
                    try clear c14b1
                    try clear c14b2
                    try clear p15
                    try clear q15
                    try clear hx15
                    try clear c22
                    try clear hx154_0
                    try clear p154
                    try clear p2
                    try clear q154
                    obtain ⟨kq, x44_15, rfl, HA, HJ15, HO_8, HB⟩ := hcut
                    cases kq with
                    | zero => exact absurd HA.out (by simp [hucksterlaw15_ParseOne.j1])
                    | succ kj15 =>
                      have H := HA.out
                      clear HA
                      simp only [hucksterlaw15_ParseOne.j1] at H
                      by_cases c27 : x44_15 = true
                      · subst c27
                        have H1 : (if t157 = 0 then (if a0.toList = ([] : List UInt8) then ((hucksterlaw15_awake.f).bind fun t162 => (some t162)) else (if a1.toList = ([] : List UInt8) then ((hucksterlaw15_awake.f).bind fun t163 => (some t163)) else (if (a0.size : Int) > 16 then ((hucksterlaw15_awake.f).bind fun t164 => (some t164)) else (if (a1.size : Int) > 16 then ((hucksterlaw15_awake.f).bind fun t165 => (some t165)) else ((hucksterlaw15_plain.f kj15 a0).bind fun t166 => (if t166 = true then ((hucksterlaw15_plain.f kj15 a1).bind fun t167 => (if t167 = true then (some false) else ((hucksterlaw15_awake.f).bind fun t168 => (some t168)))) else ((hucksterlaw15_awake.f).bind fun t169 => (some t169)))))))) else ((hucksterlaw15_awake.f).bind fun t170 => (some t170))) = some r := by rw [if_pos rfl] at H; exact H
                        clear H
                        have H := H1
                        clear H1
                        by_cases c28 : t157 = 0
                        · rw [if_pos c28] at H
                          have c28b0 : (t157 == 0) = true := beq_iff_eq.mpr c28
                          have c28b1 : (t157 != 0) = false := bne_eq_false_iff_eq.mpr c28
                          clear c28
                          by_cases c29 : a0.toList = ([] : List UInt8)
                          · rw [if_pos c29] at H
                            have c29b0 : (a0.toList == ([] : List UInt8)) = true := beq_iff_eq.mpr c29
                            have c29b1 : (a0.toList != ([] : List UInt8)) = false := bne_eq_false_iff_eq.mpr c29
                            clear c29
                            replace H := Option.bind_eq_some_iff.mp H
                            obtain ⟨t162, A300, H⟩ := H
                            replace H : (some t162) = some r := H
                            have A30 := Aside0.mk A300
                            clear A300
                            obtain rfl := Option.some.inj H
                            go_wp2_with (first | (go_at_call 5; (with_reducible refine (hucksterlaw15_awake.calls  t162 _ A30.out).mono ?_); rintro e w31 ⟨rfl, hb⟩; have n0_ := Aside0.mk (Kd.R_below (by (with_reducible repeat (first | apply Kd.R_alloc | apply Kd.R_drewN | apply Kd.R_drew)); exact HO_8.out) hb); have n1_ := Aside0.mk (below_step (by repeat (first | (with_reducible first | exact HB.out | apply below_alloc | apply pw_below_drewN | apply below_drew1) | exact HB.out)) hb); clear HO_8; clear HB; have HO_8 := n0_; have HB := n1_; clear n0_ n1_; (try clear hb); (try clear hb2); (try clear hk); (try clear hi)))
                            go_ret
                            exact ⟨by first | rfl | (simp [errW_none, errW_some] <;> rfl) | (simp only [← hji9]; first | rfl | (simp [errW_none, errW_some] <;> rfl)) | (simp [*, errW_none, errW_some] <;> rfl), by repeat (first | (with_reducible first | exact HB.out | apply below_alloc | apply pw_below_drewN | apply below_drew1) | exact HB.out)⟩
                          · rw [if_neg c29] at H
                            have c29b0 : (a0.toList == ([] : List UInt8)) = false := beq_eq_false_iff_ne.mpr c29
                            have c29b1 : (a0.toList != ([] : List UInt8)) = true := bne_iff_ne.mpr c29
                            by_cases c32 : a1.toList = ([] : List UInt8)
                            · rw [if_pos c32] at H
                              have c32b0 : (a1.toList == ([] : List UInt8)) = true := beq_iff_eq.mpr c32
                              have c32b1 : (a1.toList != ([] : List UInt8)) = false := bne_eq_false_iff_eq.mpr c32
                              clear c32
                              replace H := Option.bind_eq_some_iff.mp H
                              obtain ⟨t163, A330, H⟩ := H
                              replace H : (some t163) = some r := H
                              have A33 := Aside0.mk A330
                              clear A330
                              obtain rfl := Option.some.inj H
                              go_wp2_with (first | (go_at_call 5; (with_reducible refine (hucksterlaw15_awake.calls  t163 _ A33.out).mono ?_); rintro e w34 ⟨rfl, hb⟩; have n0_ := Aside0.mk (Kd.R_below (by (with_reducible repeat (first | apply Kd.R_alloc | apply Kd.R_drewN | apply Kd.R_drew)); exact HO_8.out) hb); have n1_ := Aside0.mk (below_step (by repeat (first | (with_reducible first | exact HB.out | apply below_alloc | apply pw_below_drewN | apply below_drew1) | exact HB.out)) hb); clear HO_8; clear HB; have HO_8 := n0_; have HB := n1_; clear n0_ n1_; (try clear hb); (try clear hb2); (try clear hk); (try clear hi)))
                              go_ret
                              exact ⟨by first | rfl | (simp [errW_none, errW_some] <;> rfl) | (simp only [← hji9]; first | rfl | (simp [errW_none, errW_some] <;> rfl)) | (simp [*, errW_none, errW_some] <;> rfl), by repeat (first | (with_reducible first | exact HB.out | apply below_alloc | apply pw_below_drewN | apply below_drew1) | exact HB.out)⟩
                            · rw [if_neg c32] at H
                              have c32b0 : (a1.toList == ([] : List UInt8)) = false := beq_eq_false_iff_ne.mpr c32
                              have c32b1 : (a1.toList != ([] : List UInt8)) = true := bne_iff_ne.mpr c32
                              by_cases c35 : (a0.size : Int) > 16
                              · rw [if_pos c35] at H
                                have c35b0 : decide (16 < (a0.size : Int)) = true := decide_eq_true c35
                                have c35b1 : decide (16 < a0.size) = true := decide_eq_true (by omega)
                                clear c35
                                replace H := Option.bind_eq_some_iff.mp H
                                obtain ⟨t164, A360, H⟩ := H
                                replace H : (some t164) = some r := H
                                have A36 := Aside0.mk A360
                                clear A360
                                obtain rfl := Option.some.inj H
                                go_wp2_with (first | (go_at_call 5; (with_reducible refine (hucksterlaw15_awake.calls  t164 _ A36.out).mono ?_); rintro e w37 ⟨rfl, hb⟩; have n0_ := Aside0.mk (Kd.R_below (by (with_reducible repeat (first | apply Kd.R_alloc | apply Kd.R_drewN | apply Kd.R_drew)); exact HO_8.out) hb); have n1_ := Aside0.mk (below_step (by repeat (first | (with_reducible first | exact HB.out | apply below_alloc | apply pw_below_drewN | apply below_drew1) | exact HB.out)) hb); clear HO_8; clear HB; have HO_8 := n0_; have HB := n1_; clear n0_ n1_; (try clear hb); (try clear hb2); (try clear hk); (try clear hi)))
                                go_ret
                                exact ⟨by first | rfl | (simp [errW_none, errW_some] <;> rfl) | (simp only [← hji9]; first | rfl | (simp [errW_none, errW_some] <;> rfl)) | (simp [*, errW_none, errW_some] <;> rfl), by repeat (first | (with_reducible first | exact HB.out | apply below_alloc | apply pw_below_drewN | apply below_drew1) | exact HB.out)⟩
                              · rw [if_neg c35] at H
                                have c35b0 : decide (16 < (a0.size : Int)) = false := decide_eq_false c35
                                have c35b1 : decide (16 < a0.size) = false := decide_eq_false (by omega)
                                clear c35
                                by_cases c38 : (a1.size : Int) > 16
                                · rw [if_pos c38] at H
                                  have c38b0 : decide (16 < (a1.size : Int)) = true := decide_eq_true c38
                                  have c38b1 : decide (16 < a1.size) = true := decide_eq_true (by omega)
                                  clear c38
                                  replace H := Option.bind_eq_some_iff.mp H
                                  obtain ⟨t165, A390, H⟩ := H
                                  replace H : (some t165) = some r := H
                                  have A39 := Aside0.mk A390
                                  clear A390
                                  obtain rfl := Option.some.inj H
                                  go_wp2_with (first | (go_at_call 5; (with_reducible refine (hucksterlaw15_awake.calls  t165 _ A39.out).mono ?_); rintro e w40 ⟨rfl, hb⟩; have n0_ := Aside0.mk (Kd.R_below (by (with_reducible repeat (first | apply Kd.R_alloc | apply Kd.R_drewN | apply Kd.R_drew)); exact HO_8.out) hb); have n1_ := Aside0.mk (below_step (by repeat (first | (with_reducible first | exact HB.out | apply below_alloc | apply pw_below_drewN | apply below_drew1) | exact HB.out)) hb); clear HO_8; clear HB; have HO_8 := n0_; have HB := n1_; clear n0_ n1_; (try clear hb); (try clear hb2); (try clear hk); (try clear hi)))
                                  go_ret
                                  exact ⟨by first | rfl | (simp [errW_none, errW_some] <;> rfl) | (simp only [← hji9]; first | rfl | (simp [errW_none, errW_some] <;> rfl)) | (simp [*, errW_none, errW_some] <;> rfl), by repeat (first | (with_reducible first | exact HB.out | apply below_alloc | apply pw_below_drewN | apply below_drew1) | exact HB.out)⟩
                                · rw [if_neg c38] at H
                                  have c38b0 : decide (16 < (a1.size : Int)) = false := decide_eq_false c38
                                  have c38b1 : decide (16 < a1.size) = false := decide_eq_false (by omega)
                                  clear c38
                                  replace H := Option.bind_eq_some_iff.mp H
                                  obtain ⟨t166, A410, H⟩ := H
                                  replace H : (if t166 = true then ((hucksterlaw15_plain.f kj15 a1).bind fun t167 => (if t167 = true then (some false) else ((hucksterlaw15_awake.f).bind fun t168 => (some t168)))) else ((hucksterlaw15_awake.f).bind fun t169 => (some t169))) = some r := H
                                  have A41 := Aside0.mk A410
                                  clear A410
                                  by_cases c42 : t166 = true
                                  · subst c42
                                    have H1 : ((hucksterlaw15_plain.f kj15 a1).bind fun t167 => (if t167 = true then (some false) else ((hucksterlaw15_awake.f).bind fun t168 => (some t168)))) = some r := by rw [if_pos rfl] at H; exact H
                                    clear H
                                    have H := H1
                                    clear H1
                                    replace H := Option.bind_eq_some_iff.mp H
                                    obtain ⟨t167, A430, H⟩ := H
                                    replace H : (if t167 = true then (some false) else ((hucksterlaw15_awake.f).bind fun t168 => (some t168))) = some r := H
                                    have A43 := Aside0.mk A430
                                    clear A430
                                    by_cases c44 : t167 = true
                                    · subst c44
                                      have H1 : (some false) = some r := by rw [if_pos rfl] at H; exact H
                                      clear H
                                      have H := H1
                                      clear H1
                                      obtain rfl := Option.some.inj H
                                      go_wp2_with (first | (go_at_call 9; (with_reducible refine (hucksterlaw15_plain.calls kj15 a0 true _ A41.out).mono ?_); rintro e w' ⟨rfl, ⟨nd, rfl⟩⟩) | (go_at_call 9; (with_reducible refine (hucksterlaw15_plain.calls kj15 a1 true _ A43.out).mono ?_); rintro e w' ⟨rfl, ⟨nd, rfl⟩⟩))
                                      go_ret
                                      exact ⟨by first | rfl | (simp [errW_none, errW_some] <;> rfl) | (simp only [← hji9]; first | rfl | (simp [errW_none, errW_some] <;> rfl)) | (simp [*, errW_none, errW_some] <;> rfl), by repeat (first | (with_reducible first | exact HB.out | apply below_alloc | apply pw_below_drewN | apply below_drew1) | exact HB.out)⟩
                                    · replace c44 := Bool.eq_false_iff.mpr c44
                                      subst c44
                                      have H1 : ((hucksterlaw15_awake.f).bind fun t168 => (some t168)) = some r := by rw [if_neg (show ¬ (false = true) by decide)] at H; exact H
                                      clear H
                                      have H := H1
                                      clear H1
                                      replace H := Option.bind_eq_some_iff.mp H
                                      obtain ⟨t168, A450, H⟩ := H
                                      replace H : (some t168) = some r := H
                                      have A45 := Aside0.mk A450
                                      clear A450
                                      obtain rfl := Option.some.inj H
                                      go_wp2_with (first | (go_at_call 9; (with_reducible refine (hucksterlaw15_plain.calls kj15 a0 true _ A41.out).mono ?_); rintro e w' ⟨rfl, ⟨nd, rfl⟩⟩) | (go_at_call 9; (with_reducible refine (hucksterlaw15_plain.calls kj15 a1 false _ A43.out).mono ?_); rintro e w' ⟨rfl, ⟨nd, rfl⟩⟩) | (go_at_call 5; (with_reducible refine (hucksterlaw15_awake.calls  t168 _ A45.out).mono ?_); rintro e w46 ⟨rfl, hb⟩; have n0_ := Aside0.mk (Kd.R_below (by (with_reducible repeat (first | apply Kd.R_alloc | apply Kd.R_drewN | apply Kd.R_drew)); exact HO_8.out) hb); have n1_ := Aside0.mk (below_step (by repeat (first | (with_reducible first | exact HB.out | apply below_alloc | apply pw_below_drewN | apply below_drew1) | exact HB.out)) hb); clear HO_8; clear HB; have HO_8 := n0_; have HB := n1_; clear n0_ n1_; (try clear hb); (try clear hb2); (try clear hk); (try clear hi)))
                                      go_ret
                                      exact ⟨by first | rfl | (simp [errW_none, errW_some] <;> rfl) | (simp only [← hji9]; first | rfl | (simp [errW_none, errW_some] <;> rfl)) | (simp [*, errW_none, errW_some] <;> rfl), by repeat (first | (with_reducible first | exact HB.out | apply below_alloc | apply pw_below_drewN | apply below_drew1) | exact HB.out)⟩
                                  · replace c42 := Bool.eq_false_iff.mpr c42
                                    subst c42
                                    have H1 : ((hucksterlaw15_awake.f).bind fun t169 => (some t169)) = some r := by rw [if_neg (show ¬ (false = true) by decide)] at H; exact H
                                    clear H
                                    have H := H1
                                    clear H1
                                    replace H := Option.bind_eq_some_iff.mp H
                                    obtain ⟨t169, A470, H⟩ := H
                                    replace H : (some t169) = some r := H
                                    have A47 := Aside0.mk A470
                                    clear A470
                                    obtain rfl := Option.some.inj H
                                    go_wp2_with (first | (go_at_call 9; (with_reducible refine (hucksterlaw15_plain.calls kj15 a0 false _ A41.out).mono ?_); rintro e w' ⟨rfl, ⟨nd, rfl⟩⟩) | (go_at_call 5; (with_reducible refine (hucksterlaw15_awake.calls  t169 _ A47.out).mono ?_); rintro e w48 ⟨rfl, hb⟩; have n0_ := Aside0.mk (Kd.R_below (by (with_reducible repeat (first | apply Kd.R_alloc | apply Kd.R_drewN | apply Kd.R_drew)); exact HO_8.out) hb); have n1_ := Aside0.mk (below_step (by repeat (first | (with_reducible first | exact HB.out | apply below_alloc | apply pw_below_drewN | apply below_drew1) | exact HB.out)) hb); clear HO_8; clear HB; have HO_8 := n0_; have HB := n1_; clear n0_ n1_; (try clear hb); (try clear hb2); (try clear hk); (try clear hi)))
                                    go_ret
                                    exact ⟨by first | rfl | (simp [errW_none, errW_some] <;> rfl) | (simp only [← hji9]; first | rfl | (simp [errW_none, errW_some] <;> rfl)) | (simp [*, errW_none, errW_some] <;> rfl), by repeat (first | (with_reducible first | exact HB.out | apply below_alloc | apply pw_below_drewN | apply below_drew1) | exact HB.out)⟩
                        · rw [if_neg c28] at H
                          have c28b0 : (t157 == 0) = false := beq_eq_false_iff_ne.mpr c28
                          have c28b1 : (t157 != 0) = true := bne_iff_ne.mpr c28
                          replace H := Option.bind_eq_some_iff.mp H
                          obtain ⟨t170, A490, H⟩ := H
                          replace H : (some t170) = some r := H
                          have A49 := Aside0.mk A490
                          clear A490
                          obtain rfl := Option.some.inj H
                          go_wp2_with (first | (go_at_call 5; (with_reducible refine (hucksterlaw15_awake.calls  t170 _ A49.out).mono ?_); rintro e w50 ⟨rfl, hb⟩; have n0_ := Aside0.mk (Kd.R_below (by (with_reducible repeat (first | apply Kd.R_alloc | apply Kd.R_drewN | apply Kd.R_drew)); exact HO_8.out) hb); have n1_ := Aside0.mk (below_step (by repeat (first | (with_reducible first | exact HB.out | apply below_alloc | apply pw_below_drewN | apply below_drew1) | exact HB.out)) hb); clear HO_8; clear HB; have HO_8 := n0_; have HB := n1_; clear n0_ n1_; (try clear hb); (try clear hb2); (try clear hk); (try clear hi)))
                          go_ret
                          exact ⟨by first | rfl | (simp [errW_none, errW_some] <;> rfl) | (simp only [← hji9]; first | rfl | (simp [errW_none, errW_some] <;> rfl)) | (simp [*, errW_none, errW_some] <;> rfl), by repeat (first | (with_reducible first | exact HB.out | apply below_alloc | apply pw_below_drewN | apply below_drew1) | exact HB.out)⟩
                      · replace c27 := Bool.eq_false_iff.mpr c27
                        subst c27
                        have H1 : (if t157 = 0 then (if t156 = 0 then (if (t155.length : Int) = 1 then (if 0 < (t155.length : Int) then (if ((rd_T29 t155 0).f2).toList = a0.toList then (if ((rd_T29 t155 0).f3).toList = a1.toList then (if (((rd_T29 t155 0).f1) == (decide ((Int.tmod a2 4) ≥ 2))) = true then ((hucksterlaw15_awake.f).bind fun t174 => (some t174)) else (some false)) else (some false)) else (some false)) else (none)) else (some false)) else (some false)) else (some false)) = some r := by rw [if_neg (show ¬ (false = true) by decide)] at H; exact H
                        clear H
                        have H := H1
                        clear H1
                        by_cases c51 : t157 = 0
                        · rw [if_pos c51] at H
                          have c51b0 : (t157 == 0) = true := beq_iff_eq.mpr c51
                          have c51b1 : (t157 != 0) = false := bne_eq_false_iff_eq.mpr c51
                          clear c51
                          by_cases c52 : t156 = 0
                          · rw [if_pos c52] at H
                            have c52b0 : (t156 == 0) = true := beq_iff_eq.mpr c52
                            have c52b1 : (t156 != 0) = false := bne_eq_false_iff_eq.mpr c52
                            clear c52
                            by_cases c53 : (t155.length : Int) = 1
                            · rw [if_pos c53] at H
                              have c53b0 : ((t155.length : Int) == 1) = true := beq_iff_eq.mpr c53
                              have c53b1 : ((t155.length : Int) != 1) = false := bne_eq_false_iff_eq.mpr c53
                              clear c53
                              by_cases c54 : 0 < (t155.length : Int)
                              · rw [if_pos c54] at H
                                have c54b0 : decide (0 < (t155.length : Int)) = true := decide_eq_true c54
                                have c54b1 : decide (0 < t155.length) = true := decide_eq_true (by omega)
                                clear c54
                                by_cases c55 : ((rd_T29 t155 0).f2).toList = a0.toList
                                · rw [if_pos c55] at H
                                  have c55b0 : (((rd_T29 t155 0).f2).toList == a0.toList) = true := beq_iff_eq.mpr c55
                                  have c55b1 : (((rd_T29 t155 0).f2).toList != a0.toList) = false := bne_eq_false_iff_eq.mpr c55
                                  clear c55
                                  by_cases c56 : ((rd_T29 t155 0).f3).toList = a1.toList
                                  · rw [if_pos c56] at H
                                    have c56b0 : (((rd_T29 t155 0).f3).toList == a1.toList) = true := beq_iff_eq.mpr c56
                                    have c56b1 : (((rd_T29 t155 0).f3).toList != a1.toList) = false := bne_eq_false_iff_eq.mpr c56
                                    clear c56
                                    by_cases c57 : (((rd_T29 t155 0).f1) == (decide ((Int.tmod a2 4) ≥ 2))) = true
                                    · rw [if_pos c57] at H
                                      have c57b0 : (((rd_T29 t155 0).f1) == (decide ((Int.tmod a2 4) ≥ 2))) = true := c57
                                      (try (have c57b1 : decide (((rd_T29 t155 0).f1) = (decide ((Int.tmod a2 4) ≥ 2))) = true := by simpa using c57))
                                      (try (have c57b2 : (((rd_T29 t155 0).f1) == (decide ((Int.tmod a2 4) ≥ 2))) = true := by simpa using c57))
                                      clear c57
                                      replace H := Option.bind_eq_some_iff.mp H
                                      obtain ⟨t174, A580, H⟩ := H
                                      replace H : (some t174) = some r := H
                                      have A58 := Aside0.mk A580
                                      clear A580
                                      obtain rfl := Option.some.inj H
                                      obtain ⟨Ao59, co59, eo59⟩ := Kd.R_slice HO_8.out
                                      subst eo59
                                      have p171 : 0 ≤ (0 : Int) := (by omega)
                                      have q171 : 0 < (t155.length : Int) := of_decide_eq_true (by first | (with_reducible assumption) | assumption)
                                      obtain ⟨ad171, A171_5, c171_5, e171, hx171_0, hx171_1, hx171_2, hx171_3, hx171_4, hx171_5, hx171_6, hl171_5, hi171_5⟩ := at_T29 (Kd.R_reads' HO_8.out).2.2 0 p171 q171
                                      cases e171
                                      obtain ⟨ce171, hce171, hMe171, hcc171⟩ := Kd.R_get HO_8.out z29 0 p171 (by first | exact q171 | exact of_decide_eq_true (by first | (with_reducible assumption) | assumption) | (have e_ := (Kd.R_reads' HO_8.out).1; omega))
                                      obtain ⟨ve171_5, rfl, ge171_5⟩ := k29_openM hMe171
                                      have hv171_5 := hcc171 5 _ rfl
                                      rw [add_field _ _ 5 (by omega)] at hv171_5
                                      replace hv171_5 := Option.some.inj (hv171_5.symm.trans hx171_5)
                                      rw [hv171_5] at ge171_5
                                      have HL171_5 := Aside0.mk (show Kd.R k60 60 _ _ _ _ ((rd_T29 t155 0).f5) from ge171_5)
                                      clear hv171_5 ge171_5
                                      clear hcc171 hce171
                                      have qi171 : (0 < t155.length) = True := eq_true (by omega)
                                      (try rw [show ((0 : Int)).toNat = 0 from rfl] at hx171_0)
                                      (try rw [show 0 * 7 = 0 from rfl] at hx171_0)
                                      (try rw [Addr.add_zero'] at hx171_0)
                                      (try rw [show ((0 : Int)).toNat = 0 from rfl] at hx171_1)
                                      (try rw [show 0 * 7 = 0 from rfl] at hx171_1)
                                      (try rw [Addr.add_zero'] at hx171_1)
                                      (try rw [show ((0 : Int)).toNat = 0 from rfl] at hx171_2)
                                      (try rw [show 0 * 7 = 0 from rfl] at hx171_2)
                                      (try rw [Addr.add_zero'] at hx171_2)
                                      (try rw [show ((0 : Int)).toNat = 0 from rfl] at hx171_3)
                                      (try rw [show 0 * 7 = 0 from rfl] at hx171_3)
                                      (try rw [Addr.add_zero'] at hx171_3)
                                      (try rw [show ((0 : Int)).toNat = 0 from rfl] at hx171_4)
                                      (try rw [show 0 * 7 = 0 from rfl] at hx171_4)
                                      (try rw [Addr.add_zero'] at hx171_4)
                                      (try rw [show ((0 : Int)).toNat = 0 from rfl] at hx171_5)
                                      (try rw [show 0 * 7 = 0 from rfl] at hx171_5)
                                      (try rw [Addr.add_zero'] at hx171_5)
                                      (try rw [show ((0 : Int)).toNat = 0 from rfl] at hx171_6)
                                      (try rw [show 0 * 7 = 0 from rfl] at hx171_6)
                                      (try rw [Addr.add_zero'] at hx171_6)
                                      have HR171_5 := Aside0.mk hi171_5
                                      have HC171_5 := Aside0.mk hl171_5
                                      clear hi171_5 hl171_5
                                      replace p171 := eq_true p171
                                      replace q171 := eq_true q171
                                      have p172 : 0 ≤ (0 : Int) := (by omega)
                                      have q172 : 0 < (t155.length : Int) := of_decide_eq_true (by first | (with_reducible assumption) | assumption)
                                      obtain ⟨ad172, A172_5, c172_5, e172, hx172_0, hx172_1, hx172_2, hx172_3, hx172_4, hx172_5, hx172_6, hl172_5, hi172_5⟩ := at_T29 (Kd.R_reads' HO_8.out).2.2 0 p172 q172
                                      obtain rfl : ad171 = ad172 := (by injection e172)
                                      obtain ⟨ce172, hce172, hMe172, hcc172⟩ := Kd.R_get HO_8.out z29 0 p172 (by first | exact q172 | exact of_decide_eq_true (by first | (with_reducible assumption) | assumption) | (have e_ := (Kd.R_reads' HO_8.out).1; omega))
                                      obtain ⟨ve172_5, rfl, ge172_5⟩ := k29_openM hMe172
                                      have hv172_5 := hcc172 5 _ rfl
                                      rw [add_field _ _ 5 (by omega)] at hv172_5
                                      replace hv172_5 := Option.some.inj (hv172_5.symm.trans hx172_5)
                                      rw [hv172_5] at ge172_5
                                      have HL172_5 := Aside0.mk (show Kd.R k60 60 _ _ _ _ ((rd_T29 t155 0).f5) from ge172_5)
                                      clear hv172_5 ge172_5
                                      clear hcc172 hce172
                                      have qi172 : (0 < t155.length) = True := eq_true (by omega)
                                      (try rw [show ((0 : Int)).toNat = 0 from rfl] at hx172_0)
                                      (try rw [show 0 * 7 = 0 from rfl] at hx172_0)
                                      (try rw [Addr.add_zero'] at hx172_0)
                                      (try rw [show ((0 : Int)).toNat = 0 from rfl] at hx172_1)
                                      (try rw [show 0 * 7 = 0 from rfl] at hx172_1)
                                      (try rw [Addr.add_zero'] at hx172_1)
                                      (try rw [show ((0 : Int)).toNat = 0 from rfl] at hx172_2)
                                      (try rw [show 0 * 7 = 0 from rfl] at hx172_2)
                                      (try rw [Addr.add_zero'] at hx172_2)
                                      (try rw [show ((0 : Int)).toNat = 0 from rfl] at hx172_3)
                                      (try rw [show 0 * 7 = 0 from rfl] at hx172_3)
                                      (try rw [Addr.add_zero'] at hx172_3)
                                      (try rw [show ((0 : Int)).toNat = 0 from rfl] at hx172_4)
                                      (try rw [show 0 * 7 = 0 from rfl] at hx172_4)
                                      (try rw [Addr.add_zero'] at hx172_4)
                                      (try rw [show ((0 : Int)).toNat = 0 from rfl] at hx172_5)
                                      (try rw [show 0 * 7 = 0 from rfl] at hx172_5)
                                      (try rw [Addr.add_zero'] at hx172_5)
                                      (try rw [show ((0 : Int)).toNat = 0 from rfl] at hx172_6)
                                      (try rw [show 0 * 7 = 0 from rfl] at hx172_6)
                                      (try rw [Addr.add_zero'] at hx172_6)
                                      have HR172_5 := Aside0.mk hi172_5
                                      have HC172_5 := Aside0.mk hl172_5
                                      clear hi172_5 hl172_5
                                      replace p172 := eq_true p172
                                      replace q172 := eq_true q172
                                      have ea_ := Option.some.inj (hx171_5.symm.trans hx172_5)
                                      injection ea_ with ea_ en_ ec_
                                      subst ea_
                                      subst ec_
                                      clear en_
                                      have p173 : 0 ≤ (0 : Int) := (by omega)
                                      have q173 : 0 < (t155.length : Int) := of_decide_eq_true (by first | (with_reducible assumption) | assumption)
                                      obtain ⟨ad173, A173_5, c173_5, e173, hx173_0, hx173_1, hx173_2, hx173_3, hx173_4, hx173_5, hx173_6, hl173_5, hi173_5⟩ := at_T29 (Kd.R_reads' HO_8.out).2.2 0 p173 q173
                                      obtain rfl : ad171 = ad173 := (by injection e173)
                                      obtain ⟨ce173, hce173, hMe173, hcc173⟩ := Kd.R_get HO_8.out z29 0 p173 (by first | exact q173 | exact of_decide_eq_true (by first | (with_reducible assumption) | assumption) | (have e_ := (Kd.R_reads' HO_8.out).1; omega))
                                      obtain ⟨ve173_5, rfl, ge173_5⟩ := k29_openM hMe173
                                      have hv173_5 := hcc173 5 _ rfl
                                      rw [add_field _ _ 5 (by omega)] at hv173_5
                                      replace hv173_5 := Option.some.inj (hv173_5.symm.trans hx173_5)
                                      rw [hv173_5] at ge173_5
                                      have HL173_5 := Aside0.mk (show Kd.R k60 60 _ _ _ _ ((rd_T29 t155 0).f5) from ge173_5)
                                      clear hv173_5 ge173_5
                                      clear hcc173 hce173
                                      have qi173 : (0 < t155.length) = True := eq_true (by omega)
                                      (try rw [show ((0 : Int)).toNat = 0 from rfl] at hx173_0)
                                      (try rw [show 0 * 7 = 0 from rfl] at hx173_0)
                                      (try rw [Addr.add_zero'] at hx173_0)
                                      (try rw [show ((0 : Int)).toNat = 0 from rfl] at hx173_1)
                                      (try rw [show 0 * 7 = 0 from rfl] at hx173_1)
                                      (try rw [Addr.add_zero'] at hx173_1)
                                      (try rw [show ((0 : Int)).toNat = 0 from rfl] at hx173_2)
                                      (try rw [show 0 * 7 = 0 from rfl] at hx173_2)
                                      (try rw [Addr.add_zero'] at hx173_2)
                                      (try rw [show ((0 : Int)).toNat = 0 from rfl] at hx173_3)
                                      (try rw [show 0 * 7 = 0 from rfl] at hx173_3)
                                      (try rw [Addr.add_zero'] at hx173_3)
                                      (try rw [show ((0 : Int)).toNat = 0 from rfl] at hx173_4)
                                      (try rw [show 0 * 7 = 0 from rfl] at hx173_4)
                                      (try rw [Addr.add_zero'] at hx173_4)
                                      (try rw [show ((0 : Int)).toNat = 0 from rfl] at hx173_5)
                                      (try rw [show 0 * 7 = 0 from rfl] at hx173_5)
                                      (try rw [Addr.add_zero'] at hx173_5)
                                      (try rw [show ((0 : Int)).toNat = 0 from rfl] at hx173_6)
                                      (try rw [show 0 * 7 = 0 from rfl] at hx173_6)
                                      (try rw [Addr.add_zero'] at hx173_6)
                                      have HR173_5 := Aside0.mk hi173_5
                                      have HC173_5 := Aside0.mk hl173_5
                                      clear hi173_5 hl173_5
                                      replace p173 := eq_true p173
                                      replace q173 := eq_true q173
                                      have ea_ := Option.some.inj (hx171_5.symm.trans hx173_5)
                                      injection ea_ with ea_ en_ ec_
                                      subst ea_
                                      subst ec_
                                      clear en_
                                      go_wp2_with (first | (go_at_call 5; (with_reducible refine (hucksterlaw15_awake.calls  t174 _ A58.out).mono ?_); rintro e w60 ⟨rfl, hb⟩; have n0_ := Aside0.mk (Kd.R_below (by (with_reducible repeat (first | apply Kd.R_alloc | apply Kd.R_drewN | apply Kd.R_drew)); exact HO_8.out) hb); have n1_ := Aside0.mk (Kd.R_below (by (with_reducible repeat (first | apply Kd.R_alloc | apply Kd.R_drewN | apply Kd.R_drew)); exact HL171_5.out) hb); have n2_ := Aside0.mk (Kd.R_below (by (with_reducible repeat (first | apply Kd.R_alloc | apply Kd.R_drewN | apply Kd.R_drew)); exact HL172_5.out) hb); have n3_ := Aside0.mk (Kd.R_below (by (with_reducible repeat (first | apply Kd.R_alloc | apply Kd.R_drewN | apply Kd.R_drew)); exact HL173_5.out) hb); have n4_ := Aside0.mk (Kd.C_below (by repeat (first | (with_reducible exact HR171_5.out) | (with_reducible refine Kd.C_alloc ?_ _) | (with_reducible refine Kd.C_drewN ?_ _) | (with_reducible refine Kd.C_drew ?_) | exact HR171_5.out)) hb); have n5_ := Aside0.mk (Kd.C_below (by repeat (first | (with_reducible exact HR172_5.out) | (with_reducible refine Kd.C_alloc ?_ _) | (with_reducible refine Kd.C_drewN ?_ _) | (with_reducible refine Kd.C_drew ?_) | exact HR172_5.out)) hb); have n6_ := Aside0.mk (Kd.C_below (by repeat (first | (with_reducible exact HR173_5.out) | (with_reducible refine Kd.C_alloc ?_ _) | (with_reducible refine Kd.C_drewN ?_ _) | (with_reducible refine Kd.C_drew ?_) | exact HR173_5.out)) hb); have n7_ := Aside0.mk (below_step (by repeat (first | (with_reducible first | exact HB.out | apply below_alloc | apply pw_below_drewN | apply below_drew1) | exact HB.out)) hb); clear HO_8; clear HL171_5; clear HL172_5; clear HL173_5; clear HR171_5; clear HR172_5; clear HR173_5; clear HB; have HO_8 := n0_; have HL171_5 := n1_; have HL172_5 := n2_; have HL173_5 := n3_; have HR171_5 := n4_; have HR172_5 := n5_; have HR173_5 := n6_; have HB := n7_; clear n0_ n1_ n2_ n3_ n4_ n5_ n6_ n7_; (try clear hb); (try clear hb2); (try clear hk); (try clear hi)))
                                      go_ret
                                      exact ⟨by first | rfl | (simp [errW_none, errW_some] <;> rfl) | (simp only [← hji9]; first | rfl | (simp [errW_none, errW_some] <;> rfl)) | (simp [*, errW_none, errW_some] <;> rfl), by repeat (first | (with_reducible first | exact HB.out | apply below_alloc | apply pw_below_drewN | apply below_drew1) | exact HB.out)⟩
                                    · rw [if_neg c57] at H
                                      have c57b0 : (((rd_T29 t155 0).f1) == (decide ((Int.tmod a2 4) ≥ 2))) = false := by simpa using c57
                                      (try (have c57b1 : decide (((rd_T29 t155 0).f1) = (decide ((Int.tmod a2 4) ≥ 2))) = false := by simpa using c57))
                                      (try (have c57b2 : (((rd_T29 t155 0).f1) == (decide ((Int.tmod a2 4) ≥ 2))) = false := by simpa using c57))
                                      (try (have c57b3 : ¬ (((rd_T29 t155 0).f1) = (decide ((Int.tmod a2 4) ≥ 2))) := by simpa using c57))
                                      clear c57
                                      obtain rfl := Option.some.inj H
                                      obtain ⟨Ao61, co61, eo61⟩ := Kd.R_slice HO_8.out
                                      subst eo61
                                      have p171 : 0 ≤ (0 : Int) := (by omega)
                                      have q171 : 0 < (t155.length : Int) := of_decide_eq_true (by first | (with_reducible assumption) | assumption)
                                      obtain ⟨ad171, A171_5, c171_5, e171, hx171_0, hx171_1, hx171_2, hx171_3, hx171_4, hx171_5, hx171_6, hl171_5, hi171_5⟩ := at_T29 (Kd.R_reads' HO_8.out).2.2 0 p171 q171
                                      cases e171
                                      obtain ⟨ce171, hce171, hMe171, hcc171⟩ := Kd.R_get HO_8.out z29 0 p171 (by first | exact q171 | exact of_decide_eq_true (by first | (with_reducible assumption) | assumption) | (have e_ := (Kd.R_reads' HO_8.out).1; omega))
                                      obtain ⟨ve171_5, rfl, ge171_5⟩ := k29_openM hMe171
                                      have hv171_5 := hcc171 5 _ rfl
                                      rw [add_field _ _ 5 (by omega)] at hv171_5
                                      replace hv171_5 := Option.some.inj (hv171_5.symm.trans hx171_5)
                                      rw [hv171_5] at ge171_5
                                      have HL171_5 := Aside0.mk (show Kd.R k60 60 _ _ _ _ ((rd_T29 t155 0).f5) from ge171_5)
                                      clear hv171_5 ge171_5
                                      clear hcc171 hce171
                                      have qi171 : (0 < t155.length) = True := eq_true (by omega)
                                      (try rw [show ((0 : Int)).toNat = 0 from rfl] at hx171_0)
                                      (try rw [show 0 * 7 = 0 from rfl] at hx171_0)
                                      (try rw [Addr.add_zero'] at hx171_0)
                                      (try rw [show ((0 : Int)).toNat = 0 from rfl] at hx171_1)
                                      (try rw [show 0 * 7 = 0 from rfl] at hx171_1)
                                      (try rw [Addr.add_zero'] at hx171_1)
                                      (try rw [show ((0 : Int)).toNat = 0 from rfl] at hx171_2)
                                      (try rw [show 0 * 7 = 0 from rfl] at hx171_2)
                                      (try rw [Addr.add_zero'] at hx171_2)
                                      (try rw [show ((0 : Int)).toNat = 0 from rfl] at hx171_3)
                                      (try rw [show 0 * 7 = 0 from rfl] at hx171_3)
                                      (try rw [Addr.add_zero'] at hx171_3)
                                      (try rw [show ((0 : Int)).toNat = 0 from rfl] at hx171_4)
                                      (try rw [show 0 * 7 = 0 from rfl] at hx171_4)
                                      (try rw [Addr.add_zero'] at hx171_4)
                                      (try rw [show ((0 : Int)).toNat = 0 from rfl] at hx171_5)
                                      (try rw [show 0 * 7 = 0 from rfl] at hx171_5)
                                      (try rw [Addr.add_zero'] at hx171_5)
                                      (try rw [show ((0 : Int)).toNat = 0 from rfl] at hx171_6)
                                      (try rw [show 0 * 7 = 0 from rfl] at hx171_6)
                                      (try rw [Addr.add_zero'] at hx171_6)
                                      have HR171_5 := Aside0.mk hi171_5
                                      have HC171_5 := Aside0.mk hl171_5
                                      clear hi171_5 hl171_5
                                      replace p171 := eq_true p171
                                      replace q171 := eq_true q171
                                      have p172 : 0 ≤ (0 : Int) := (by omega)
                                      have q172 : 0 < (t155.length : Int) := of_decide_eq_true (by first | (with_reducible assumption) | assumption)
                                      obtain ⟨ad172, A172_5, c172_5, e172, hx172_0, hx172_1, hx172_2, hx172_3, hx172_4, hx172_5, hx172_6, hl172_5, hi172_5⟩ := at_T29 (Kd.R_reads' HO_8.out).2.2 0 p172 q172
                                      obtain rfl : ad171 = ad172 := (by injection e172)
                                      obtain ⟨ce172, hce172, hMe172, hcc172⟩ := Kd.R_get HO_8.out z29 0 p172 (by first | exact q172 | exact of_decide_eq_true (by first | (with_reducible assumption) | assumption) | (have e_ := (Kd.R_reads' HO_8.out).1; omega))
                                      obtain ⟨ve172_5, rfl, ge172_5⟩ := k29_openM hMe172
                                      have hv172_5 := hcc172 5 _ rfl
                                      rw [add_field _ _ 5 (by omega)] at hv172_5
                                      replace hv172_5 := Option.some.inj (hv172_5.symm.trans hx172_5)
                                      rw [hv172_5] at ge172_5
                                      have HL172_5 := Aside0.mk (show Kd.R k60 60 _ _ _ _ ((rd_T29 t155 0).f5) from ge172_5)
                                      clear hv172_5 ge172_5
                                      clear hcc172 hce172
                                      have qi172 : (0 < t155.length) = True := eq_true (by omega)
                                      (try rw [show ((0 : Int)).toNat = 0 from rfl] at hx172_0)
                                      (try rw [show 0 * 7 = 0 from rfl] at hx172_0)
                                      (try rw [Addr.add_zero'] at hx172_0)
                                      (try rw [show ((0 : Int)).toNat = 0 from rfl] at hx172_1)
                                      (try rw [show 0 * 7 = 0 from rfl] at hx172_1)
                                      (try rw [Addr.add_zero'] at hx172_1)
                                      (try rw [show ((0 : Int)).toNat = 0 from rfl] at hx172_2)
                                      (try rw [show 0 * 7 = 0 from rfl] at hx172_2)
                                      (try rw [Addr.add_zero'] at hx172_2)
                                      (try rw [show ((0 : Int)).toNat = 0 from rfl] at hx172_3)
                                      (try rw [show 0 * 7 = 0 from rfl] at hx172_3)
                                      (try rw [Addr.add_zero'] at hx172_3)
                                      (try rw [show ((0 : Int)).toNat = 0 from rfl] at hx172_4)
                                      (try rw [show 0 * 7 = 0 from rfl] at hx172_4)
                                      (try rw [Addr.add_zero'] at hx172_4)
                                      (try rw [show ((0 : Int)).toNat = 0 from rfl] at hx172_5)
                                      (try rw [show 0 * 7 = 0 from rfl] at hx172_5)
                                      (try rw [Addr.add_zero'] at hx172_5)
                                      (try rw [show ((0 : Int)).toNat = 0 from rfl] at hx172_6)
                                      (try rw [show 0 * 7 = 0 from rfl] at hx172_6)
                                      (try rw [Addr.add_zero'] at hx172_6)
                                      have HR172_5 := Aside0.mk hi172_5
                                      have HC172_5 := Aside0.mk hl172_5
                                      clear hi172_5 hl172_5
                                      replace p172 := eq_true p172
                                      replace q172 := eq_true q172
                                      have ea_ := Option.some.inj (hx171_5.symm.trans hx172_5)
                                      injection ea_ with ea_ en_ ec_
                                      subst ea_
                                      subst ec_
                                      clear en_
                                      have p173 : 0 ≤ (0 : Int) := (by omega)
                                      have q173 : 0 < (t155.length : Int) := of_decide_eq_true (by first | (with_reducible assumption) | assumption)
                                      obtain ⟨ad173, A173_5, c173_5, e173, hx173_0, hx173_1, hx173_2, hx173_3, hx173_4, hx173_5, hx173_6, hl173_5, hi173_5⟩ := at_T29 (Kd.R_reads' HO_8.out).2.2 0 p173 q173
                                      obtain rfl : ad171 = ad173 := (by injection e173)
                                      obtain ⟨ce173, hce173, hMe173, hcc173⟩ := Kd.R_get HO_8.out z29 0 p173 (by first | exact q173 | exact of_decide_eq_true (by first | (with_reducible assumption) | assumption) | (have e_ := (Kd.R_reads' HO_8.out).1; omega))
                                      obtain ⟨ve173_5, rfl, ge173_5⟩ := k29_openM hMe173
                                      have hv173_5 := hcc173 5 _ rfl
                                      rw [add_field _ _ 5 (by omega)] at hv173_5
                                      replace hv173_5 := Option.some.inj (hv173_5.symm.trans hx173_5)
                                      rw [hv173_5] at ge173_5
                                      have HL173_5 := Aside0.mk (show Kd.R k60 60 _ _ _ _ ((rd_T29 t155 0).f5) from ge173_5)
                                      clear hv173_5 ge173_5
                                      clear hcc173 hce173
                                      have qi173 : (0 < t155.length) = True := eq_true (by omega)
                                      (try rw [show ((0 : Int)).toNat = 0 from rfl] at hx173_0)
                                      (try rw [show 0 * 7 = 0 from rfl] at hx173_0)
                                      (try rw [Addr.add_zero'] at hx173_0)
                                      (try rw [show ((0 : Int)).toNat = 0 from rfl] at hx173_1)
                                      (try rw [show 0 * 7 = 0 from rfl] at hx173_1)
                                      (try rw [Addr.add_zero'] at hx173_1)
                                      (try rw [show ((0 : Int)).toNat = 0 from rfl] at hx173_2)
                                      (try rw [show 0 * 7 = 0 from rfl] at hx173_2)
                                      (try rw [Addr.add_zero'] at hx173_2)
                                      (try rw [show ((0 : Int)).toNat = 0 from rfl] at hx173_3)
                                      (try rw [show 0 * 7 = 0 from rfl] at hx173_3)
                                      (try rw [Addr.add_zero'] at hx173_3)
                                      (try rw [show ((0 : Int)).toNat = 0 from rfl] at hx173_4)
                                      (try rw [show 0 * 7 = 0 from rfl] at hx173_4)
                                      (try rw [Addr.add_zero'] at hx173_4)
                                      (try rw [show ((0 : Int)).toNat = 0 from rfl] at hx173_5)
                                      (try rw [show 0 * 7 = 0 from rfl] at hx173_5)
                                      (try rw [Addr.add_zero'] at hx173_5)
                                      (try rw [show ((0 : Int)).toNat = 0 from rfl] at hx173_6)
                                      (try rw [show 0 * 7 = 0 from rfl] at hx173_6)
                                      (try rw [Addr.add_zero'] at hx173_6)
                                      have HR173_5 := Aside0.mk hi173_5
                                      have HC173_5 := Aside0.mk hl173_5
                                      clear hi173_5 hl173_5
                                      replace p173 := eq_true p173
                                      replace q173 := eq_true q173
                                      have ea_ := Option.some.inj (hx171_5.symm.trans hx173_5)
                                      injection ea_ with ea_ en_ ec_
                                      subst ea_
                                      subst ec_
                                      clear en_
                                      go_wp2
                                      go_ret
                                      exact ⟨by first | rfl | (simp [errW_none, errW_some] <;> rfl) | (simp only [← hji9]; first | rfl | (simp [errW_none, errW_some] <;> rfl)) | (simp [*, errW_none, errW_some] <;> rfl), by repeat (first | (with_reducible first | exact HB.out | apply below_alloc | apply pw_below_drewN | apply below_drew1) | exact HB.out)⟩
                                  · rw [if_neg c56] at H
                                    have c56b0 : (((rd_T29 t155 0).f3).toList == a1.toList) = false := beq_eq_false_iff_ne.mpr c56
                                    have c56b1 : (((rd_T29 t155 0).f3).toList != a1.toList) = true := bne_iff_ne.mpr c56
                                    obtain rfl := Option.some.inj H
                                    obtain ⟨Ao62, co62, eo62⟩ := Kd.R_slice HO_8.out
                                    subst eo62
                                    have p171 : 0 ≤ (0 : Int) := (by omega)
                                    have q171 : 0 < (t155.length : Int) := of_decide_eq_true (by first | (with_reducible assumption) | assumption)
                                    obtain ⟨ad171, A171_5, c171_5, e171, hx171_0, hx171_1, hx171_2, hx171_3, hx171_4, hx171_5, hx171_6, hl171_5, hi171_5⟩ := at_T29 (Kd.R_reads' HO_8.out).2.2 0 p171 q171
                                    cases e171
                                    obtain ⟨ce171, hce171, hMe171, hcc171⟩ := Kd.R_get HO_8.out z29 0 p171 (by first | exact q171 | exact of_decide_eq_true (by first | (with_reducible assumption) | assumption) | (have e_ := (Kd.R_reads' HO_8.out).1; omega))
                                    obtain ⟨ve171_5, rfl, ge171_5⟩ := k29_openM hMe171
                                    have hv171_5 := hcc171 5 _ rfl
                                    rw [add_field _ _ 5 (by omega)] at hv171_5
                                    replace hv171_5 := Option.some.inj (hv171_5.symm.trans hx171_5)
                                    rw [hv171_5] at ge171_5
                                    have HL171_5 := Aside0.mk (show Kd.R k60 60 _ _ _ _ ((rd_T29 t155 0).f5) from ge171_5)
                                    clear hv171_5 ge171_5
                                    clear hcc171 hce171
                                    have qi171 : (0 < t155.length) = True := eq_true (by omega)
                                    (try rw [show ((0 : Int)).toNat = 0 from rfl] at hx171_0)
                                    (try rw [show 0 * 7 = 0 from rfl] at hx171_0)
                                    (try rw [Addr.add_zero'] at hx171_0)
                                    (try rw [show ((0 : Int)).toNat = 0 from rfl] at hx171_1)
                                    (try rw [show 0 * 7 = 0 from rfl] at hx171_1)
                                    (try rw [Addr.add_zero'] at hx171_1)
                                    (try rw [show ((0 : Int)).toNat = 0 from rfl] at hx171_2)
                                    (try rw [show 0 * 7 = 0 from rfl] at hx171_2)
                                    (try rw [Addr.add_zero'] at hx171_2)
                                    (try rw [show ((0 : Int)).toNat = 0 from rfl] at hx171_3)
                                    (try rw [show 0 * 7 = 0 from rfl] at hx171_3)
                                    (try rw [Addr.add_zero'] at hx171_3)
                                    (try rw [show ((0 : Int)).toNat = 0 from rfl] at hx171_4)
                                    (try rw [show 0 * 7 = 0 from rfl] at hx171_4)
                                    (try rw [Addr.add_zero'] at hx171_4)
                                    (try rw [show ((0 : Int)).toNat = 0 from rfl] at hx171_5)
                                    (try rw [show 0 * 7 = 0 from rfl] at hx171_5)
                                    (try rw [Addr.add_zero'] at hx171_5)
                                    (try rw [show ((0 : Int)).toNat = 0 from rfl] at hx171_6)
                                    (try rw [show 0 * 7 = 0 from rfl] at hx171_6)
                                    (try rw [Addr.add_zero'] at hx171_6)
                                    have HR171_5 := Aside0.mk hi171_5
                                    have HC171_5 := Aside0.mk hl171_5
                                    clear hi171_5 hl171_5
                                    replace p171 := eq_true p171
                                    replace q171 := eq_true q171
                                    have p172 : 0 ≤ (0 : Int) := (by omega)
                                    have q172 : 0 < (t155.length : Int) := of_decide_eq_true (by first | (with_reducible assumption) | assumption)
                                    obtain ⟨ad172, A172_5, c172_5, e172, hx172_0, hx172_1, hx172_2, hx172_3, hx172_4, hx172_5, hx172_6, hl172_5, hi172_5⟩ := at_T29 (Kd.R_reads' HO_8.out).2.2 0 p172 q172
                                    obtain rfl : ad171 = ad172 := (by injection e172)
                                    obtain ⟨ce172, hce172, hMe172, hcc172⟩ := Kd.R_get HO_8.out z29 0 p172 (by first | exact q172 | exact of_decide_eq_true (by first | (with_reducible assumption) | assumption) | (have e_ := (Kd.R_reads' HO_8.out).1; omega))
                                    obtain ⟨ve172_5, rfl, ge172_5⟩ := k29_openM hMe172
                                    have hv172_5 := hcc172 5 _ rfl
                                    rw [add_field _ _ 5 (by omega)] at hv172_5
                                    replace hv172_5 := Option.some.inj (hv172_5.symm.trans hx172_5)
                                    rw [hv172_5] at ge172_5
                                    have HL172_5 := Aside0.mk (show Kd.R k60 60 _ _ _ _ ((rd_T29 t155 0).f5) from ge172_5)
                                    clear hv172_5 ge172_5
                                    clear hcc172 hce172
                                    have qi172 : (0 < t155.length) = True := eq_true (by omega)
                                    (try rw [show ((0 : Int)).toNat = 0 from rfl] at hx172_0)
                                    (try rw [show 0 * 7 = 0 from rfl] at hx172_0)
                                    (try rw [Addr.add_zero'] at hx172_0)
                                    (try rw [show ((0 : Int)).toNat = 0 from rfl] at hx172_1)
                                    (try rw [show 0 * 7 = 0 from rfl] at hx172_1)
                                    (try rw [Addr.add_zero'] at hx172_1)
                                    (try rw [show ((0 : Int)).toNat = 0 from rfl] at hx172_2)
                                    (try rw [show 0 * 7 = 0 from rfl] at hx172_2)
                                    (try rw [Addr.add_zero'] at hx172_2)
                                    (try rw [show ((0 : Int)).toNat = 0 from rfl] at hx172_3)
                                    (try rw [show 0 * 7 = 0 from rfl] at hx172_3)
                                    (try rw [Addr.add_zero'] at hx172_3)
                                    (try rw [show ((0 : Int)).toNat = 0 from rfl] at hx172_4)
                                    (try rw [show 0 * 7 = 0 from rfl] at hx172_4)
                                    (try rw [Addr.add_zero'] at hx172_4)
                                    (try rw [show ((0 : Int)).toNat = 0 from rfl] at hx172_5)
                                    (try rw [show 0 * 7 = 0 from rfl] at hx172_5)
                                    (try rw [Addr.add_zero'] at hx172_5)
                                    (try rw [show ((0 : Int)).toNat = 0 from rfl] at hx172_6)
                                    (try rw [show 0 * 7 = 0 from rfl] at hx172_6)
                                    (try rw [Addr.add_zero'] at hx172_6)
                                    have HR172_5 := Aside0.mk hi172_5
                                    have HC172_5 := Aside0.mk hl172_5
                                    clear hi172_5 hl172_5
                                    replace p172 := eq_true p172
                                    replace q172 := eq_true q172
                                    have ea_ := Option.some.inj (hx171_5.symm.trans hx172_5)
                                    injection ea_ with ea_ en_ ec_
                                    subst ea_
                                    subst ec_
                                    clear en_
                                    go_wp2
                                    go_ret
                                    exact ⟨by first | rfl | (simp [errW_none, errW_some] <;> rfl) | (simp only [← hji9]; first | rfl | (simp [errW_none, errW_some] <;> rfl)) | (simp [*, errW_none, errW_some] <;> rfl), by repeat (first | (with_reducible first | exact HB.out | apply below_alloc | apply pw_below_drewN | apply below_drew1) | exact HB.out)⟩
                                · rw [if_neg c55] at H
                                  have c55b0 : (((rd_T29 t155 0).f2).toList == a0.toList) = false := beq_eq_false_iff_ne.mpr c55
                                  have c55b1 : (((rd_T29 t155 0).f2).toList != a0.toList) = true := bne_iff_ne.mpr c55
                                  obtain rfl := Option.some.inj H
                                  obtain ⟨Ao63, co63, eo63⟩ := Kd.R_slice HO_8.out
                                  subst eo63
                                  have p171 : 0 ≤ (0 : Int) := (by omega)
                                  have q171 : 0 < (t155.length : Int) := of_decide_eq_true (by first | (with_reducible assumption) | assumption)
                                  obtain ⟨ad171, A171_5, c171_5, e171, hx171_0, hx171_1, hx171_2, hx171_3, hx171_4, hx171_5, hx171_6, hl171_5, hi171_5⟩ := at_T29 (Kd.R_reads' HO_8.out).2.2 0 p171 q171
                                  cases e171
                                  obtain ⟨ce171, hce171, hMe171, hcc171⟩ := Kd.R_get HO_8.out z29 0 p171 (by first | exact q171 | exact of_decide_eq_true (by first | (with_reducible assumption) | assumption) | (have e_ := (Kd.R_reads' HO_8.out).1; omega))
                                  obtain ⟨ve171_5, rfl, ge171_5⟩ := k29_openM hMe171
                                  have hv171_5 := hcc171 5 _ rfl
                                  rw [add_field _ _ 5 (by omega)] at hv171_5
                                  replace hv171_5 := Option.some.inj (hv171_5.symm.trans hx171_5)
                                  rw [hv171_5] at ge171_5
                                  have HL171_5 := Aside0.mk (show Kd.R k60 60 _ _ _ _ ((rd_T29 t155 0).f5) from ge171_5)
                                  clear hv171_5 ge171_5
                                  clear hcc171 hce171
                                  have qi171 : (0 < t155.length) = True := eq_true (by omega)
                                  (try rw [show ((0 : Int)).toNat = 0 from rfl] at hx171_0)
                                  (try rw [show 0 * 7 = 0 from rfl] at hx171_0)
                                  (try rw [Addr.add_zero'] at hx171_0)
                                  (try rw [show ((0 : Int)).toNat = 0 from rfl] at hx171_1)
                                  (try rw [show 0 * 7 = 0 from rfl] at hx171_1)
                                  (try rw [Addr.add_zero'] at hx171_1)
                                  (try rw [show ((0 : Int)).toNat = 0 from rfl] at hx171_2)
                                  (try rw [show 0 * 7 = 0 from rfl] at hx171_2)
                                  (try rw [Addr.add_zero'] at hx171_2)
                                  (try rw [show ((0 : Int)).toNat = 0 from rfl] at hx171_3)
                                  (try rw [show 0 * 7 = 0 from rfl] at hx171_3)
                                  (try rw [Addr.add_zero'] at hx171_3)
                                  (try rw [show ((0 : Int)).toNat = 0 from rfl] at hx171_4)
                                  (try rw [show 0 * 7 = 0 from rfl] at hx171_4)
                                  (try rw [Addr.add_zero'] at hx171_4)
                                  (try rw [show ((0 : Int)).toNat = 0 from rfl] at hx171_5)
                                  (try rw [show 0 * 7 = 0 from rfl] at hx171_5)
                                  (try rw [Addr.add_zero'] at hx171_5)
                                  (try rw [show ((0 : Int)).toNat = 0 from rfl] at hx171_6)
                                  (try rw [show 0 * 7 = 0 from rfl] at hx171_6)
                                  (try rw [Addr.add_zero'] at hx171_6)
                                  have HR171_5 := Aside0.mk hi171_5
                                  have HC171_5 := Aside0.mk hl171_5
                                  clear hi171_5 hl171_5
                                  replace p171 := eq_true p171
                                  replace q171 := eq_true q171
                                  go_wp2
                                  go_ret
                                  exact ⟨by first | rfl | (simp [errW_none, errW_some] <;> rfl) | (simp only [← hji9]; first | rfl | (simp [errW_none, errW_some] <;> rfl)) | (simp [*, errW_none, errW_some] <;> rfl), by repeat (first | (with_reducible first | exact HB.out | apply below_alloc | apply pw_below_drewN | apply below_drew1) | exact HB.out)⟩
                              · rw [if_neg c54] at H
                                exact absurd H (by simp)
                            · rw [if_neg c53] at H
                              have c53b0 : ((t155.length : Int) == 1) = false := beq_eq_false_iff_ne.mpr c53
                              have c53b1 : ((t155.length : Int) != 1) = true := bne_iff_ne.mpr c53
                              obtain rfl := Option.some.inj H
                              obtain ⟨Ao64, co64, eo64⟩ := Kd.R_slice HO_8.out
                              subst eo64
                              go_wp2
                              go_ret
                              exact ⟨by first | rfl | (simp [errW_none, errW_some] <;> rfl) | (simp only [← hji9]; first | rfl | (simp [errW_none, errW_some] <;> rfl)) | (simp [*, errW_none, errW_some] <;> rfl), by repeat (first | (with_reducible first | exact HB.out | apply below_alloc | apply pw_below_drewN | apply below_drew1) | exact HB.out)⟩
                          · rw [if_neg c52] at H
                            have c52b0 : (t156 == 0) = false := beq_eq_false_iff_ne.mpr c52
                            have c52b1 : (t156 != 0) = true := bne_iff_ne.mpr c52
                            obtain rfl := Option.some.inj H
                            go_wp2
                            go_ret
                            exact ⟨by first | rfl | (simp [errW_none, errW_some] <;> rfl) | (simp only [← hji9]; first | rfl | (simp [errW_none, errW_some] <;> rfl)) | (simp [*, errW_none, errW_some] <;> rfl), by repeat (first | (with_reducible first | exact HB.out | apply below_alloc | apply pw_below_drewN | apply below_drew1) | exact HB.out)⟩
                        · rw [if_neg c51] at H
                          have c51b0 : (t157 == 0) = false := beq_eq_false_iff_ne.mpr c51
                          have c51b1 : (t157 != 0) = true := bne_iff_ne.mpr c51
                          obtain rfl := Option.some.inj H
                          go_wp2
                          go_ret
                          exact ⟨by first | rfl | (simp [errW_none, errW_some] <;> rfl) | (simp only [← hji9]; first | rfl | (simp [errW_none, errW_some] <;> rfl)) | (simp [*, errW_none, errW_some] <;> rfl), by repeat (first | (with_reducible first | exact HB.out | apply below_alloc | apply pw_below_drewN | apply below_drew1) | exact HB.out)⟩
                · rw [if_neg c14] at H
                  exact absurd H (by simp)
              · rw [if_neg c13] at H
                exact absurd H (by simp)
            · rw [if_neg c12] at H
              exact absurd H (by simp)
          · rw [if_neg c11] at H
            exact absurd H (by simp)
        · rw [if_neg c10] at H
          exact absurd H (by simp)

/-- THE ONE PURE STATEMENT of hucksterlaw15_ParseOne: yours. -/
def hucksterlaw15_ParseOne.Pure : Prop := ∀ (a0 : ByteArray) (a1 : ByteArray) (a2 : Int), a0.size ≤ 140737488351232 → a1.size ≤ 140737488351232 → (Lit.int .u8 a2).wf = true → ∃ k, hucksterlaw15_ParseOne.f k a0 a1 a2 = some true
theorem hucksterlaw15_ParseOne.walk (P : hucksterlaw15_ParseOne.Pure) (a0 : ByteArray) (a1 : ByteArray) (a2 : Int) (w : World) (w0 : a0.size ≤ 140737488351232) (w1 : a1.size ≤ 140737488351232) (w2 : (Lit.int .u8 a2).wf = true) :
    Calls Try.prog 4 #[.string a0, .string a1, .int .u8 a2] w fun e w' => e = .returned (.bool true) ∧ Below w.heap.size w w' := by
  obtain ⟨k, h⟩ := P a0 a1 a2 w0 w1 w2
  refine (hucksterlaw15_ParseOne.calls k a0 a1 a2 true w h).mono ?_
  rintro e w' ⟨rfl, hd⟩
  exact ⟨rfl, hd⟩

end Go.Proofs.Ytmhenlilcikgmaa.X

/- Words with a blank between, read. -/
set_option linter.unusedSimpArgs false
set_option linter.unusedVariables false
namespace Go.Proofs.Ytmhenlilcikgmaa.X
open Go.RowKit Go.Proofs.YtmhenlilcikgmaaW.PrintWords Go.Proofs.YtmhenlilcikgmaaW.PrintLast Go.Proofs.YtmhenlilcikgmaaW.PrintMore

/-- A reader at which no word goes on. -/
def RS.at_ (xs : List S45) (line : Int) : RS := ⟨xs, line, -1, false, 0⟩
theorem close_at (xs : List S45) (line : Int) (nt : Bool) (s : ByteArray) (p : Nat) : (⟨xs, line, -1, nt, 0⟩ : RS).close s p = ⟨xs, line, -1, nt, 0⟩ := by
  unfold RS.close
  rw [if_pos (by simp)]
theorem step_at (xs : List S45) (line : Int) (nt : Bool) (s : ByteArray) (p : Nat) (c : Int) : (⟨xs, line, -1, nt, 0⟩ : RS).step s p c = (RS.at_ xs line).one c := by
  unfold RS.step
  rw [show ({ (⟨xs, line, -1, nt, 0⟩ : RS) with nt := false } : RS) = ⟨xs, line, -1, false, 0⟩ from rfl, close_at, if_pos rfl]
  rfl
theorem fin_at (xs : List S45) (line : Int) (nt : Bool) (s : ByteArray) : (⟨xs, line, -1, nt, 0⟩ : RS).fin s = if 800 ≤ xs.length then ([], line, 7) else (xs ++ [⟨0, ⟨#[]⟩, 0, line⟩], 0, 0) := by
  unfold RS.fin RS.last
  rw [close_at, if_pos rfl]
  unfold RS.put errOver
  by_cases h : 800 ≤ xs.length
  · simp [h]
  · simp [h]
theorem word_close (xs : List S45) (line : Int) (p : Nat) (s : ByteArray) (q : Nat) : (⟨xs, line, (p : Int), false, 0⟩ : RS).close s q =
    if wordB (s.extract p q) then ⟨xs ++ [⟨1, s.extract p q, 0, line⟩], line, -1, false, errOver xs.length 0⟩
    else if (numO (s.extract p q)).isSome then ⟨xs ++ [⟨2, ⟨#[]⟩, numV (s.extract p q), line⟩], line, -1, false, errOver xs.length 0⟩ else ⟨xs, line, -1, false, 2⟩ := by
  unfold RS.close
  rw [if_neg (by simp), Int.toNat_natCast]
  rfl
/-- Where a word ends, it is closed; then all goes on as if none had been. -/
theorem word_ends (s : ByteArray) (xs : List S45) (line : Int) (p n q : Nat) (hq : q + n = s.size) (hb : q < s.size → partB (byt s q) = false) :
    rf s n ⟨xs, line, (p : Int), false, 0⟩ = if ((⟨xs, line, (p : Int), false, 0⟩ : RS).close s q).er = 0 then rf s n (RS.at_ ((⟨xs, line, (p : Int), false, 0⟩ : RS).close s q).xs line) else ([], line, ((⟨xs, line, (p : Int), false, 0⟩ : RS).close s q).er) := by
  have hC : ∀ C : RS, (⟨xs, line, (p : Int), false, 0⟩ : RS).close s q = C → C.er = 0 → C = RS.at_ C.xs line := by
    intro C hC he
    rw [word_close] at hC
    split at hC
    · subst hC; simp only at he; simp [RS.at_, he]
    split at hC
    · subst hC; simp only at he; simp [RS.at_, he]
    · subst hC; simp at he
  obtain ⟨C, h1⟩ : ∃ C, (⟨xs, line, (p : Int), false, 0⟩ : RS).close s q = C := ⟨_, rfl⟩
  have hln : C.line = line := by rw [← h1]; exact close_line s q
  rw [h1]
  rcases n with _ | n
  · have hqs : q = s.size := by omega
    subst hqs
    by_cases he : C.er = 0
    · rw [if_pos he]
      show RS.fin _ s = RS.fin _ s
      rw [show RS.at_ C.xs line = ⟨C.xs, line, -1, false, 0⟩ from rfl]
      unfold RS.fin RS.last
      rw [h1, close_at, if_pos he, hC C h1 he]
      rfl
    · rw [if_neg he]
      show RS.fin _ s = _
      unfold RS.fin RS.last
      rw [h1, if_neg he, if_neg he, hln]
  · have hqs : q < s.size := by omega
    have hpt := hb hqs
    rw [rf_step hq hqs (by simp) hpt]
    have hst : (⟨xs, line, (p : Int), false, 0⟩ : RS).step s q (byt s q) = if C.er = 0 then C.one (byt s q) else C := by
      unfold RS.step
      rw [show ({ (⟨xs, line, (p : Int), false, 0⟩ : RS) with nt := false } : RS) = ⟨xs, line, (p : Int), false, 0⟩ from rfl, h1]
    rw [hst]
    by_cases he : C.er = 0
    · rw [if_pos he, if_pos he]
      have := rf_step (r := RS.at_ C.xs line) hq hqs (by simp [RS.at_]) hpt
      rw [this, show RS.at_ C.xs line = ⟨C.xs, line, -1, false, 0⟩ from rfl, step_at, ← hC C h1 he]
    · rw [if_neg he, if_neg he, if_neg he]

theorem wordFrom_all (s : ByteArray) : ∀ (b pos : Nat), pos + b = s.size → wordFrom s b pos = true → ∀ i, pos ≤ i → i < s.size → partB (byt s i) = true := by
  intro b
  induction b with
  | zero => intro pos h _ i h1 h2; omega
  | succ b ih =>
    intro pos h hw i h1 h2
    simp only [wordFrom] at hw
    rw [if_pos (by omega), Bool.and_eq_true] at hw
    by_cases hi : i = pos
    · subst hi
      have := hw.1
      unfold wchar at this
      unfold partB
      by_cases hl : letB (byt s i) = true
      · rw [hl]; rfl
      · have hl' : letB (byt s i) = false := by simpa using hl
        rw [hl', Bool.false_or, Bool.and_eq_true] at this
        rw [this.2]; simp
    · exact ih (pos + 1) (by omega) hw.2 i (by omega) h2
theorem wordB_all (a : ByteArray) (h : wordB a = true) : 0 < a.size ∧ ∀ i, i < a.size → partB (byt a i) = true := by
  unfold wordB at h
  rw [Bool.and_eq_true, decide_eq_true_eq] at h
  exact ⟨by omega, fun i hi => wordFrom_all a a.size 0 (by omega) h.2 i (by omega) hi⟩
/-- Over bytes that are parts a word goes on. -/
theorem run_on (s : ByteArray) (xs : List S45) (line : Int) (p : Nat) : ∀ (m q n : Nat), q + n = s.size → m ≤ n → (∀ i, q ≤ i → i < q + m → partB (byt s i) = true) → rf s n ⟨xs, line, (p : Int), false, 0⟩ = rf s (n - m) ⟨xs, line, (p : Int), false, 0⟩ := by
  intro m
  induction m with
  | zero => intro q n _ _ _; rfl
  | succ m ih =>
    intro q n hq hm hp
    rw [rf_part hq (by omega) (by simp) (hp q (by omega) (by omega))]
    have : (⟨xs, line, (p : Int), false, 0⟩ : RS).from_ q = ⟨xs, line, (p : Int), false, 0⟩ := by
      unfold RS.from_
      rw [if_neg (by simp)]
    rw [this, ih (q + 1) (n - 1) (by omega) (by omega) (fun i h1 h2 => hp i (by omega) (by omega))]
    congr 1
    omega
/-- What a word, or a number, adds to the tokens. -/
def lexW : List ByteArray → List Tk → Int → List Tk × Int × Int
  | [], xs, line => if 800 ≤ xs.length then ([], line, 7) else (xs ++ [⟨0, ⟨#[]⟩, 0, line⟩], 0, 0)
  | w :: ws, xs, line => if wordB w then lexW ws (xs ++ [⟨1, w, 0, line⟩]) line else if (numO w).isSome then lexW ws (xs ++ [⟨2, ⟨#[]⟩, numV w, line⟩]) line else ([], line, 2)
def blank : ByteArray := ⟨#[32]⟩
def jn : List ByteArray → ByteArray
  | [] => ByteArray.empty
  | [w] => w
  | w :: ws => w ++ (blank ++ jn ws)
theorem seg (s w : ByteArray) (p q : Nat) (hw0 : p < q) (hq : q ≤ s.size) (he : s.extract p q = w) (hp : ∀ i, p ≤ i → i < q → partB (byt s i) = true) (hb : q < s.size → partB (byt s q) = false) (xs : List Tk) (line : Int) (hx : xs.length < 800) :
    rf s (s.size - p) (RS.at_ xs line) = if wordB w then rf s (s.size - q) (RS.at_ (xs ++ [⟨1, w, 0, line⟩]) line) else if (numO w).isSome then rf s (s.size - q) (RS.at_ (xs ++ [⟨2, ⟨#[]⟩, numV w, line⟩]) line) else ([], line, 2) := by
  have h1 := rf_part (n := s.size - p) (r := RS.at_ xs line) (by omega) (by omega) (by simp [RS.at_]) (hp p (by omega) hw0)
  have h2 : (RS.at_ xs line).from_ p = ⟨xs, line, (p : Int), false, 0⟩ := by
    unfold RS.from_ RS.at_
    rw [if_pos (by simp)]
  rw [h1, h2, run_on s xs line p (q - p - 1) (p + 1) (s.size - p - 1) (by omega) (by omega) (fun i h3 h4 => hp i (by omega) (by omega))]
  rw [show s.size - p - 1 - (q - p - 1) = s.size - q by omega, word_ends s xs line p (s.size - q) q (by omega) hb, word_close, he]
  by_cases hw : wordB w = true
  · rw [if_pos hw, if_pos hw, over_ok hx, if_pos rfl]
  · rw [if_neg hw, if_neg hw]
    by_cases hn : (numO w).isSome = true
    · rw [if_pos hn, if_pos hn, over_ok hx, if_pos rfl]
    · rw [if_neg hn, if_neg hn]
      rfl
theorem skip_blank (s : ByteArray) (q : Nat) (hq : q < s.size) (h32 : byt s q = 32) (xs : List Tk) (line : Int) : rf s (s.size - q) (RS.at_ xs line) = rf s (s.size - (q + 1)) (RS.at_ xs line) := by
  have r2 := rf_step (s := s) (n := s.size - q) (pos := q) (r := RS.at_ xs line) (by omega) hq (by simp [RS.at_]) (by rw [h32]; rfl)
  have hone : (RS.at_ xs line).one 32 = RS.at_ xs line := by unfold RS.one; rw [if_pos (.inl rfl)]
  rw [show RS.at_ xs line = ⟨xs, line, -1, false, 0⟩ from rfl, step_at, h32, hone, if_pos (show (RS.at_ xs line).er = 0 from rfl)] at r2
  rw [show RS.at_ xs line = ⟨xs, line, -1, false, 0⟩ from rfl, r2, show s.size - q - 1 = s.size - (q + 1) by omega]
  rfl
theorem lex_words : ∀ (ws : List ByteArray) (pre : ByteArray) (xs : List Tk) (line : Int), ws ≠ [] → (∀ w ∈ ws, 0 < w.size ∧ ∀ i, i < w.size → partB (byt w i) = true) → xs.length + ws.length ≤ 800 →
    rf (pre ++ jn ws) ((pre ++ jn ws).size - pre.size) (RS.at_ xs line) = lexW ws xs line := by
  intro ws
  induction ws with
  | nil => intro pre xs line h; exact absurd rfl h
  | cons w ws ih =>
    intro pre xs line _ hall hx
    obtain ⟨w0, wp⟩ := hall w (List.mem_cons_self ..)
    simp only [List.length_cons] at hx
    cases ws with
    | nil =>
      show rf (pre ++ w) ((pre ++ w).size - pre.size) (RS.at_ xs line) = _
      have hs : (pre ++ w).size = pre.size + w.size := ByteArray.size_append ..
      have hb : ∀ i, pre.size ≤ i → i < (pre ++ w).size → byt (pre ++ w) i = byt w (i - pre.size) := fun i h1 h2 => by
        have := byt_append_right pre w (i - pre.size) (by omega)
        rwa [show pre.size + (i - pre.size) = i by omega] at this
      have he : (pre ++ w).extract pre.size (pre ++ w).size = w := by
        apply bytes_eq_of
        · rw [ByteArray.size_extract]; omega
        · intro k hk
          rw [ByteArray.size_extract] at hk
          rw [byt_extract _ _ _ _ (by omega), byt_append_right _ _ _ (by omega)]
      have := seg (pre ++ w) w pre.size (pre ++ w).size (by omega) (Nat.le_refl _) he (fun i h1 h2 => by rw [hb i h1 h2]; exact wp _ (by omega)) (fun h => by omega) xs line (by omega)
      rw [this, Nat.sub_self]
      have fin : ∀ ys : List Tk, rf (pre ++ w) 0 (RS.at_ ys line) = lexW [] ys line := fun ys => fin_at ys line false (pre ++ w)
      rw [fin, fin]
      rfl
    | cons v vs =>
      show rf (pre ++ (w ++ (blank ++ jn (v :: vs)))) ((pre ++ (w ++ (blank ++ jn (v :: vs)))).size - pre.size) (RS.at_ xs line) = _
      have hbl : blank.size = 1 := rfl
      have hs : (pre ++ (w ++ (blank ++ jn (v :: vs)))).size = pre.size + w.size + 1 + (jn (v :: vs)).size := by
        rw [ByteArray.size_append, ByteArray.size_append, ByteArray.size_append, hbl]; omega
      have eq2 : pre ++ (w ++ (blank ++ jn (v :: vs))) = (pre ++ w ++ blank) ++ jn (v :: vs) := by
        rw [ByteArray.append_assoc, ByteArray.append_assoc]
      have hs2 : (pre ++ w ++ blank).size = pre.size + w.size + 1 := by
        rw [ByteArray.size_append, ByteArray.size_append, hbl]
      have hb : ∀ i, pre.size ≤ i → i < pre.size + w.size → byt (pre ++ (w ++ (blank ++ jn (v :: vs)))) i = byt w (i - pre.size) := fun i h1 h2 => by
        have := byt_append_right pre (w ++ (blank ++ jn (v :: vs))) (i - pre.size) (by rw [ByteArray.size_append]; omega)
        rw [show pre.size + (i - pre.size) = i by omega] at this
        rw [this, byt_append_left _ _ _ (by omega)]
      have hbq : byt (pre ++ (w ++ (blank ++ jn (v :: vs)))) (pre.size + w.size) = 32 := by
        have := byt_append_right pre (w ++ (blank ++ jn (v :: vs))) w.size (by rw [ByteArray.size_append, ByteArray.size_append]; omega)
        rw [this]
        have := byt_append_right w (blank ++ jn (v :: vs)) 0 (by rw [ByteArray.size_append]; omega)
        rw [Nat.add_zero] at this
        rw [this, byt_append_left _ _ _ (by decide)]
        rfl
      have he : (pre ++ (w ++ (blank ++ jn (v :: vs)))).extract pre.size (pre.size + w.size) = w := by
        apply bytes_eq_of
        · rw [ByteArray.size_extract]; omega
        · intro k hk
          rw [ByteArray.size_extract] at hk
          rw [byt_extract _ _ _ _ (by omega), hb _ (by omega) (by omega)]
          congr 1
          omega
      have h1 := seg _ w pre.size (pre.size + w.size) (by omega) (by omega) he (fun i h1 h2 => by rw [hb i h1 h2]; exact wp _ (by omega)) (fun h => by rw [hbq]; rfl) xs line (by omega)
      have nx : ∀ ys : List Tk, ys.length + (v :: vs).length ≤ 800 → rf (pre ++ (w ++ (blank ++ jn (v :: vs)))) ((pre ++ (w ++ (blank ++ jn (v :: vs)))).size - (pre.size + w.size)) (RS.at_ ys line) = lexW (v :: vs) ys line := by
        intro ys hy
        rw [skip_blank _ _ (by omega) hbq]
        have := ih (pre ++ w ++ blank) ys line (by simp) (fun u hu => hall u (List.mem_cons_of_mem _ hu)) hy
        rw [← eq2, hs2] at this
        exact this
      rw [h1]
      rw [nx _ (by simp only [List.length_append, List.length_singleton, List.length_cons, List.length_nil] at *; omega), nx _ (by simp only [List.length_append, List.length_singleton, List.length_cons, List.length_nil] at *; omega)]
      rfl
theorem lexR_words (ws : List ByteArray) (h0 : ws ≠ []) (hall : ∀ w ∈ ws, 0 < w.size ∧ ∀ i, i < w.size → partB (byt w i) = true) (hl : ws.length ≤ 800) (hs : (jn ws).size ≤ 4096) : lexR (jn ws) = lexW ws [] 1 := by
  have := lex_words ws ByteArray.empty [] 1 h0 hall (by simpa using hl)
  rw [ByteArray.empty_append] at this
  unfold lexR
  rw [if_neg (by omega)]
  exact this
end Go.Proofs.Ytmhenlilcikgmaa.X

/- The pure statement of the law. -/
set_option linter.unusedSimpArgs false
set_option linter.unusedVariables false
namespace Go.Proofs.Ytmhenlilcikgmaa.Pure
open Go.RowKit Go.Proofs.Ytmhenlilcikgmaa.X Go.Proofs.YtmhenlilcikgmaaW.PrintWords Go.Proofs.YtmhenlilcikgmaaW.PrintLast Go.Proofs.YtmhenlilcikgmaaW.PrintMore

theorem fin15 : Ev (fun k => (hucksterlaw15_awake.f).bind fun t => some t) true := Ev.bind1 rfl (Ev.now _)
theorem bt_byt (s : ByteArray) (i : Nat) : bt s (i : Int) = byt s i := by
  unfold bt byt
  simp
theorem letter_ref (c : Int) : hucksterref14_letter.f c = some (letB c) := by
  unfold hucksterref14_letter.f letB
  by_cases h1 : c ≥ 97
  · rw [if_pos h1]; simp; omega
  · rw [if_neg h1]; simp; omega
theorem digit_ref (c : Int) : hucksterref14_digit.f c = some (digB c) := by
  unfold hucksterref14_digit.f digB
  by_cases h1 : c ≥ 48
  · rw [if_pos h1]; simp; omega
  · rw [if_neg h1]; simp; omega
theorem wrap_succ (i n : Nat) (h : i < n) (hn : n ≤ 140737488355328) : wrap64 ((i : Int) + 1) = ((i + 1 : Nat) : Int) := by
  unfold wrap64; omega

theorem word_ref_from (s : ByteArray) (hs : s.size ≤ 140737488355328) : ∀ (n pos : Nat), pos + n = s.size → Ev (fun k => hucksterref14_Word.l0 k s (pos : Int)) (decide (1 ≤ s.size ∧ s.size ≤ 16) && wordFrom s n pos) := by
  intro n
  induction n with
  | zero =>
    intro pos hp
    refine Ev.succ ?_
    simp only [hucksterref14_Word.l0]
    refine Ev.no (by omega) ?_
    by_cases h1 : (s.size : Int) ≥ 1
    · refine Ev.yes h1 (Ev.is ?_)
      rw [wordFrom, Bool.and_true]
      exact decide_eq_decide.2 (by omega)
    · refine Ev.no h1 (Ev.is ?_)
      rw [decide_eq_false (by omega)]; rfl
  | succ n ih =>
    intro pos hp
    refine Ev.succ ?_
    simp only [hucksterref14_Word.l0]
    refine Ev.yes (by omega) (Ev.yes (by omega) ?_)
    rw [bt_byt, wrap_succ pos s.size (by omega) hs]
    refine Ev.bind1 (letter_ref _) ?_
    have ih' := ih (pos + 1) (by omega)
    by_cases hl : letB (byt s pos) = true
    · refine Ev.yes hl ?_
      have hw : wordFrom s (n + 1) pos = wordFrom s n (pos + 1) := by simp [wordFrom, wchar, hl, show pos < s.size by omega]
      rw [hw]; exact ih'
    · refine Ev.no hl (Ev.bind1 (digit_ref _) ?_)
      have hl' : letB (byt s pos) = false := by simpa using hl
      by_cases hd : digB (byt s pos) = true
      · refine Ev.yes hd ?_
        by_cases h0 : 0 < pos
        · refine Ev.yes (by omega) ?_
          have hw : wordFrom s (n + 1) pos = wordFrom s n (pos + 1) := by simp [wordFrom, wchar, hl', hd, h0, show pos < s.size by omega]
          rw [hw]; exact ih'
        · refine Ev.no (by omega) (Ev.is ?_)
          have hw : wordFrom s (n + 1) pos = false := by simp [wordFrom, wchar, hl', h0, show pos < s.size by omega]
          rw [hw]; simp
      · refine Ev.no hd (Ev.is ?_)
        have hd' : digB (byt s pos) = false := by simpa using hd
        have hw : wordFrom s (n + 1) pos = false := by simp [wordFrom, wchar, hl', hd', show pos < s.size by omega]
        rw [hw]; simp
theorem word_ref (s : ByteArray) (hs : s.size ≤ 140737488355328) : Ev (fun k => hucksterref14_Word.f k s) (wordB s) := word_ref_from s hs s.size 0 (by omega)

/-! The reference's names. -/
theorem kept_l0 (s : ByteArray) (l : List ByteArray) (hl : l.length ≤ 100) : ∀ (m pos : Nat), pos + m = l.length → Ev (fun k => hucksterref15_Kept.l0 k s l (pos : Int)) (hasB (l.drop pos) s) := by
  intro m
  induction m with
  | zero =>
    intro pos hp
    refine Ev.succ ?_
    simp only [hucksterref15_Kept.l0]
    rw [List.drop_eq_nil_of_le (by omega)]
    exact Ev.no (by omega) (Ev.now _)
  | succ m ih =>
    intro pos hp
    have hlt : pos < l.length := by omega
    refine Ev.succ ?_
    simp only [hucksterref15_Kept.l0]
    rw [wrap_up pos (by omega), ← List.getElem_cons_drop (h := hlt)]
    have hrd : rdOf ByteArray.empty l (pos : Int) = l[pos] := by simp [rdOf, hlt]
    rw [hrd]
    refine Ev.yes (by omega) (Ev.yes (by omega) ?_)
    by_cases he : l[pos].toList = s.toList
    · have : hasB (l[pos] :: l.drop (pos + 1)) s = true := by
        unfold hasB
        rw [List.any_cons, decide_eq_true (ba_toList_inj he)]
        rfl
      rw [this]
      exact Ev.yes he (Ev.now _)
    · have : hasB (l[pos] :: l.drop (pos + 1)) s = hasB (l.drop (pos + 1)) s := by
        unfold hasB
        rw [List.any_cons, decide_eq_false (fun h => he (by rw [h]))]
        rfl
      rw [this]
      exact Ev.no he (ih (pos + 1) (by omega))
theorem name_ref (s : ByteArray) (hs : s.size ≤ 140737488355328) : Ev (fun k => hucksterref15_Name.f k s) (nmB s) := by
  unfold hucksterref15_Name.f nmB
  refine Ev.bind (word_ref s hs) ?_
  by_cases hw : wordB s = true
  · rw [hw, Bool.true_and]
    refine Ev.yes rfl ?_
    have hk : Ev (fun k => hucksterref15_Kept.f k s) (hasB kwords s) := by
      unfold hucksterref15_Kept.f
      exact Ev.bind1 rfl (kept_l0 s kwords (by decide) 17 0 rfl)
    exact Ev.bind hk (Ev.now _)
  · have : wordB s = false := by simpa using hw
    rw [this, Bool.false_and]
    exact Ev.no (by simp) (Ev.now _)
/-- Has a text letters and digits alone, from a place on? -/
def plainFrom (s : ByteArray) : Nat → Nat → Bool
  | 0, _ => true
  | n + 1, pos => (letB (byt s pos) || digB (byt s pos)) && plainFrom s n (pos + 1)
theorem plain_ref (s : ByteArray) (hs : s.size ≤ 1000) : ∀ (n pos : Nat), pos + n = s.size → Ev (fun k => hucksterlaw15_plain.l0 k s (pos : Int)) (plainFrom s n pos) := by
  intro n
  induction n with
  | zero =>
    intro pos hp
    refine Ev.succ ?_
    simp only [hucksterlaw15_plain.l0]
    exact Ev.no (by omega) (Ev.now _)
  | succ n ih =>
    intro pos hp
    have ih' := ih (pos + 1) (by omega)
    refine Ev.succ ?_
    simp only [hucksterlaw15_plain.l0]
    rw [wrap_up pos (by omega), bt_byt, plainFrom]
    refine Ev.yes (by omega) (Ev.yes (by omega) ?_)
    unfold letB digB
    by_cases h1 : byt s pos ≥ 97
    · refine Ev.yes h1 ?_
      by_cases h2 : byt s pos ≤ 122
      · rw [decide_eq_true ⟨h1, h2⟩]
        exact Ev.yes h2 ih'
      · rw [decide_eq_false (by omega), decide_eq_false (by omega)]
        exact Ev.no h2 (Ev.yes (by omega) (Ev.no (by omega) (Ev.now _)))
    · refine Ev.no h1 ?_
      rw [decide_eq_false (show ¬ (97 ≤ byt s pos ∧ byt s pos ≤ 122) by omega)]
      by_cases h2 : byt s pos ≥ 48
      · refine Ev.yes h2 ?_
        by_cases h3 : byt s pos ≤ 57
        · rw [decide_eq_true ⟨h2, h3⟩]
          exact Ev.yes h3 ih'
        · rw [decide_eq_false (by omega)]
          exact Ev.no h3 (Ev.now _)
      · rw [decide_eq_false (by omega)]
        exact Ev.no h2 (Ev.now _)
theorem plain_all (s : ByteArray) : ∀ (n pos : Nat), pos + n = s.size → plainFrom s n pos = true → ∀ i, pos ≤ i → i < s.size → partB (byt s i) = true := by
  intro n
  induction n with
  | zero => intro pos h _ i h1 h2; omega
  | succ n ih =>
    intro pos h hw i h1 h2
    rw [plainFrom, Bool.and_eq_true] at hw
    by_cases hi : i = pos
    · subst hi
      unfold partB
      rw [hw.1]; rfl
    · exact ih (pos + 1) (by omega) hw.2 i (by omega) h2

/-! One line of two names, parsed. -/
/-- What a rule of two names tells. -/
def pR (k : Int) (b : Bool) (ts : List Tk) : PR Dl := pBind (pPair k ts) fun d ts => .ok ({ d with f1 := b }, ts)
theorem pair_names (k : Int) (b : Bool) (x y : ByteArray) (l : Int) (e : Tk) (hx : nmB x = true) (hy : nmB y = true) : pR k b [⟨1, x, 0, l⟩, ⟨1, y, 0, l⟩, e] = .ok (⟨k, b, x, y, 0, [], 0⟩, [e]) := by
  unfold nmB at hx hy
  rw [Bool.and_eq_true, Bool.not_eq_true'] at hx hy
  have n1 : ∀ (z : ByteArray) (ts : List Tk), hasB kwords z = false → pName (⟨1, z, 0, l⟩ :: ts) = .ok (z, ts) := fun z ts hz => by
    unfold pName
    rw [if_neg (fun h => by have := h.2; simp only [hdT] at this; rw [hz] at this; cases this)]
    rfl
  unfold pR pPair pThing
  rw [n1 _ _ hx.2]
  show pBind (pBind (pName _) _) _ = _
  rw [n1 _ _ hy.2]
  rfl
theorem name_bad (t : Tk) (ts : List Tk) (h : t.f0 = 1 → hasB kwords t.f1 = true) : ∃ e, pName (t :: ts) = .error e := by
  unfold pName
  by_cases h1 : t.f0 = 1
  · rw [if_pos ⟨h1, h h1⟩]
    exact ⟨_, rfl⟩
  · rw [if_neg (fun h2 => h1 h2.1)]
    unfold pNext
    rw [if_neg (show ¬ (hdT (t :: ts)).f0 = 1 from h1)]
    exact ⟨_, rfl⟩
theorem pair_bad (k : Int) (b : Bool) (s t e : Tk) (h : (s.f0 = 1 → hasB kwords s.f1 = true) ∨ (t.f0 = 1 → hasB kwords t.f1 = true)) : ∃ x, pR k b [s, t, e] = .error x := by
  unfold pR pPair pThing
  cases hs : pName [s, t, e] with
  | error x => exact ⟨x, rfl⟩
  | ok y =>
    obtain ⟨z, u⟩ := y
    have hu := pName_len hs
    subst hu
    rcases h with h | h
    · obtain ⟨x, hx⟩ := name_bad s [t, e] h
      rw [hx] at hs; cases hs
    · obtain ⟨x, hx⟩ := name_bad t [e] h
      refine ⟨x, ?_⟩
      show pBind (pBind (pName [t, e]) _) _ = _
      rw [hx]
      rfl
theorem head0 (l : Int) (ts : List Tk) : pDecl0 (⟨1, (⟨#[114, 117, 108, 101]⟩ : ByteArray), 0, l⟩ :: ⟨1, (⟨#[114, 101, 102]⟩ : ByteArray), 0, l⟩ :: ts) = pR 4 false ts := by
  have w : ∀ (s z : ByteArray) (us : List Tk), pWordB s (⟨1, z, 0, l⟩ :: us) = (z.toList == s.toList) := fun _ _ _ => rfl
  have g0 : ((⟨#[114, 117, 108, 101]⟩ : ByteArray).toList == (⟨#[115, 101, 116]⟩ : ByteArray).toList) = false := by decide +kernel
  have g1 : ((⟨#[114, 117, 108, 101]⟩ : ByteArray).toList == (⟨#[99, 111, 117, 110, 116]⟩ : ByteArray).toList) = false := by decide +kernel
  have g2 : ((⟨#[114, 117, 108, 101]⟩ : ByteArray).toList == (⟨#[110, 111, 116, 101]⟩ : ByteArray).toList) = false := by decide +kernel
  have g3 : ((⟨#[114, 117, 108, 101]⟩ : ByteArray).toList == (⟨#[114, 117, 108, 101]⟩ : ByteArray).toList) = true := by decide +kernel
  have g4 : ((⟨#[114, 101, 102]⟩ : ByteArray).toList == (⟨#[115, 116, 114, 105, 99, 116]⟩ : ByteArray).toList) = false := by decide +kernel
  have g5 : ((⟨#[114, 101, 102]⟩ : ByteArray).toList == (⟨#[114, 101, 102]⟩ : ByteArray).toList) = true := by decide +kernel
  unfold pDecl0 pRule pRule1 tS bS pWordT
  simp only [w, List.tail_cons, g0, g1, g2, g3, g4, g5, if_true, Bool.false_eq_true, if_false]
  rfl
theorem jn0 (a b : ByteArray) : ((((⟨#[114, 117, 108, 101, 32, 114, 101, 102, 32]⟩ : ByteArray)) ++ a) ++ (⟨#[32]⟩ : ByteArray)) ++ b = jn [(⟨#[114, 117, 108, 101]⟩ : ByteArray), (⟨#[114, 101, 102]⟩ : ByteArray), a, b] := by
  have e : (⟨#[114, 117, 108, 101, 32, 114, 101, 102, 32]⟩ : ByteArray) = (⟨#[114, 117, 108, 101]⟩ : ByteArray) ++ (⟨#[32]⟩ : ByteArray) ++ (⟨#[114, 101, 102]⟩ : ByteArray) ++ (⟨#[32]⟩ : ByteArray) := by decide +kernel
  rw [e]
  simp only [jn, ByteArray.append_assoc]
  rfl
theorem lexW0 (a b : ByteArray) : lexW [(⟨#[114, 117, 108, 101]⟩ : ByteArray), (⟨#[114, 101, 102]⟩ : ByteArray), a, b] [] 1 = lexW [a, b] ([⟨1, (⟨#[114, 117, 108, 101]⟩ : ByteArray), 0, 1⟩, ⟨1, (⟨#[114, 101, 102]⟩ : ByteArray), 0, 1⟩] : List Tk) 1 := by
  have w : ∀ (z : ByteArray) (us : List ByteArray) (xs : List Tk), wordB z = true → lexW (z :: us) xs 1 = lexW us (xs ++ [⟨1, z, 0, 1⟩]) 1 := fun z us xs h => by rw [lexW, if_pos h]
  rw [w _ _ _ (by decide +kernel), w _ _ _ (by decide +kernel)]
  rfl
theorem head1 (l : Int) (ts : List Tk) : pDecl0 (⟨1, (⟨#[114, 117, 108, 101]⟩ : ByteArray), 0, l⟩ :: ⟨1, (⟨#[98, 111, 116, 104]⟩ : ByteArray), 0, l⟩ :: ts) = pR 5 false ts := by
  have w : ∀ (s z : ByteArray) (us : List Tk), pWordB s (⟨1, z, 0, l⟩ :: us) = (z.toList == s.toList) := fun _ _ _ => rfl
  have g0 : ((⟨#[114, 117, 108, 101]⟩ : ByteArray).toList == (⟨#[115, 101, 116]⟩ : ByteArray).toList) = false := by decide +kernel
  have g1 : ((⟨#[114, 117, 108, 101]⟩ : ByteArray).toList == (⟨#[99, 111, 117, 110, 116]⟩ : ByteArray).toList) = false := by decide +kernel
  have g2 : ((⟨#[114, 117, 108, 101]⟩ : ByteArray).toList == (⟨#[110, 111, 116, 101]⟩ : ByteArray).toList) = false := by decide +kernel
  have g3 : ((⟨#[114, 117, 108, 101]⟩ : ByteArray).toList == (⟨#[114, 117, 108, 101]⟩ : ByteArray).toList) = true := by decide +kernel
  have g4 : ((⟨#[98, 111, 116, 104]⟩ : ByteArray).toList == (⟨#[115, 116, 114, 105, 99, 116]⟩ : ByteArray).toList) = false := by decide +kernel
  have g5 : ((⟨#[98, 111, 116, 104]⟩ : ByteArray).toList == (⟨#[114, 101, 102]⟩ : ByteArray).toList) = false := by decide +kernel
  have g6 : ((⟨#[98, 111, 116, 104]⟩ : ByteArray).toList == (⟨#[98, 111, 116, 104]⟩ : ByteArray).toList) = true := by decide +kernel
  unfold pDecl0 pRule pRule1 tS bS pWordT
  simp only [w, List.tail_cons, g0, g1, g2, g3, g4, g5, g6, if_true, Bool.false_eq_true, if_false]
  rfl
theorem jn1 (a b : ByteArray) : ((((⟨#[114, 117, 108, 101, 32, 98, 111, 116, 104, 32]⟩ : ByteArray)) ++ a) ++ (⟨#[32]⟩ : ByteArray)) ++ b = jn [(⟨#[114, 117, 108, 101]⟩ : ByteArray), (⟨#[98, 111, 116, 104]⟩ : ByteArray), a, b] := by
  have e : (⟨#[114, 117, 108, 101, 32, 98, 111, 116, 104, 32]⟩ : ByteArray) = (⟨#[114, 117, 108, 101]⟩ : ByteArray) ++ (⟨#[32]⟩ : ByteArray) ++ (⟨#[98, 111, 116, 104]⟩ : ByteArray) ++ (⟨#[32]⟩ : ByteArray) := by decide +kernel
  rw [e]
  simp only [jn, ByteArray.append_assoc]
  rfl
theorem lexW1 (a b : ByteArray) : lexW [(⟨#[114, 117, 108, 101]⟩ : ByteArray), (⟨#[98, 111, 116, 104]⟩ : ByteArray), a, b] [] 1 = lexW [a, b] ([⟨1, (⟨#[114, 117, 108, 101]⟩ : ByteArray), 0, 1⟩, ⟨1, (⟨#[98, 111, 116, 104]⟩ : ByteArray), 0, 1⟩] : List Tk) 1 := by
  have w : ∀ (z : ByteArray) (us : List ByteArray) (xs : List Tk), wordB z = true → lexW (z :: us) xs 1 = lexW us (xs ++ [⟨1, z, 0, 1⟩]) 1 := fun z us xs h => by rw [lexW, if_pos h]
  rw [w _ _ _ (by decide +kernel), w _ _ _ (by decide +kernel)]
  rfl
theorem head2 (l : Int) (ts : List Tk) : pDecl0 (⟨1, (⟨#[114, 117, 108, 101]⟩ : ByteArray), 0, l⟩ :: ⟨1, (⟨#[115, 116, 114, 105, 99, 116]⟩ : ByteArray), 0, l⟩ :: ⟨1, (⟨#[110, 101, 101, 100, 115]⟩ : ByteArray), 0, l⟩ :: ts) = pR 9 true ts := by
  have w : ∀ (s z : ByteArray) (us : List Tk), pWordB s (⟨1, z, 0, l⟩ :: us) = (z.toList == s.toList) := fun _ _ _ => rfl
  have g0 : ((⟨#[114, 117, 108, 101]⟩ : ByteArray).toList == (⟨#[115, 101, 116]⟩ : ByteArray).toList) = false := by decide +kernel
  have g1 : ((⟨#[114, 117, 108, 101]⟩ : ByteArray).toList == (⟨#[99, 111, 117, 110, 116]⟩ : ByteArray).toList) = false := by decide +kernel
  have g2 : ((⟨#[114, 117, 108, 101]⟩ : ByteArray).toList == (⟨#[110, 111, 116, 101]⟩ : ByteArray).toList) = false := by decide +kernel
  have g3 : ((⟨#[114, 117, 108, 101]⟩ : ByteArray).toList == (⟨#[114, 117, 108, 101]⟩ : ByteArray).toList) = true := by decide +kernel
  have g4 : ((⟨#[115, 116, 114, 105, 99, 116]⟩ : ByteArray).toList == (⟨#[115, 116, 114, 105, 99, 116]⟩ : ByteArray).toList) = true := by decide +kernel
  have g5 : ((⟨#[110, 101, 101, 100, 115]⟩ : ByteArray).toList == (⟨#[114, 101, 102]⟩ : ByteArray).toList) = false := by decide +kernel
  have g6 : ((⟨#[110, 101, 101, 100, 115]⟩ : ByteArray).toList == (⟨#[98, 111, 116, 104]⟩ : ByteArray).toList) = false := by decide +kernel
  have g7 : ((⟨#[110, 101, 101, 100, 115]⟩ : ByteArray).toList == (⟨#[110, 101, 101, 100, 115]⟩ : ByteArray).toList) = true := by decide +kernel
  unfold pDecl0 pRule pRule1 tS bS pWordT
  simp only [w, List.tail_cons, g0, g1, g2, g3, g4, g5, g6, g7, if_true, Bool.false_eq_true, if_false]
  rfl
theorem jn2 (a b : ByteArray) : ((((⟨#[114, 117, 108, 101, 32, 115, 116, 114, 105, 99, 116, 32, 110, 101, 101, 100, 115, 32]⟩ : ByteArray)) ++ a) ++ (⟨#[32]⟩ : ByteArray)) ++ b = jn [(⟨#[114, 117, 108, 101]⟩ : ByteArray), (⟨#[115, 116, 114, 105, 99, 116]⟩ : ByteArray), (⟨#[110, 101, 101, 100, 115]⟩ : ByteArray), a, b] := by
  have e : (⟨#[114, 117, 108, 101, 32, 115, 116, 114, 105, 99, 116, 32, 110, 101, 101, 100, 115, 32]⟩ : ByteArray) = (⟨#[114, 117, 108, 101]⟩ : ByteArray) ++ (⟨#[32]⟩ : ByteArray) ++ (⟨#[115, 116, 114, 105, 99, 116]⟩ : ByteArray) ++ (⟨#[32]⟩ : ByteArray) ++ (⟨#[110, 101, 101, 100, 115]⟩ : ByteArray) ++ (⟨#[32]⟩ : ByteArray) := by decide +kernel
  rw [e]
  simp only [jn, ByteArray.append_assoc]
  rfl
theorem lexW2 (a b : ByteArray) : lexW [(⟨#[114, 117, 108, 101]⟩ : ByteArray), (⟨#[115, 116, 114, 105, 99, 116]⟩ : ByteArray), (⟨#[110, 101, 101, 100, 115]⟩ : ByteArray), a, b] [] 1 = lexW [a, b] ([⟨1, (⟨#[114, 117, 108, 101]⟩ : ByteArray), 0, 1⟩, ⟨1, (⟨#[115, 116, 114, 105, 99, 116]⟩ : ByteArray), 0, 1⟩, ⟨1, (⟨#[110, 101, 101, 100, 115]⟩ : ByteArray), 0, 1⟩] : List Tk) 1 := by
  have w : ∀ (z : ByteArray) (us : List ByteArray) (xs : List Tk), wordB z = true → lexW (z :: us) xs 1 = lexW us (xs ++ [⟨1, z, 0, 1⟩]) 1 := fun z us xs h => by rw [lexW, if_pos h]
  rw [w _ _ _ (by decide +kernel), w _ _ _ (by decide +kernel), w _ _ _ (by decide +kernel)]
  rfl
theorem head3 (l : Int) (ts : List Tk) : pDecl0 (⟨1, (⟨#[114, 117, 108, 101]⟩ : ByteArray), 0, l⟩ :: ⟨1, (⟨#[115, 116, 114, 105, 99, 116]⟩ : ByteArray), 0, l⟩ :: ⟨1, (⟨#[114, 101, 102]⟩ : ByteArray), 0, l⟩ :: ts) = pR 4 true ts := by
  have w : ∀ (s z : ByteArray) (us : List Tk), pWordB s (⟨1, z, 0, l⟩ :: us) = (z.toList == s.toList) := fun _ _ _ => rfl
  have g0 : ((⟨#[114, 117, 108, 101]⟩ : ByteArray).toList == (⟨#[115, 101, 116]⟩ : ByteArray).toList) = false := by decide +kernel
  have g1 : ((⟨#[114, 117, 108, 101]⟩ : ByteArray).toList == (⟨#[99, 111, 117, 110, 116]⟩ : ByteArray).toList) = false := by decide +kernel
  have g2 : ((⟨#[114, 117, 108, 101]⟩ : ByteArray).toList == (⟨#[110, 111, 116, 101]⟩ : ByteArray).toList) = false := by decide +kernel
  have g3 : ((⟨#[114, 117, 108, 101]⟩ : ByteArray).toList == (⟨#[114, 117, 108, 101]⟩ : ByteArray).toList) = true := by decide +kernel
  have g4 : ((⟨#[115, 116, 114, 105, 99, 116]⟩ : ByteArray).toList == (⟨#[115, 116, 114, 105, 99, 116]⟩ : ByteArray).toList) = true := by decide +kernel
  have g5 : ((⟨#[114, 101, 102]⟩ : ByteArray).toList == (⟨#[114, 101, 102]⟩ : ByteArray).toList) = true := by decide +kernel
  unfold pDecl0 pRule pRule1 tS bS pWordT
  simp only [w, List.tail_cons, g0, g1, g2, g3, g4, g5, if_true, Bool.false_eq_true, if_false]
  rfl
theorem jn3 (a b : ByteArray) : ((((⟨#[114, 117, 108, 101, 32, 115, 116, 114, 105, 99, 116, 32, 114, 101, 102, 32]⟩ : ByteArray)) ++ a) ++ (⟨#[32]⟩ : ByteArray)) ++ b = jn [(⟨#[114, 117, 108, 101]⟩ : ByteArray), (⟨#[115, 116, 114, 105, 99, 116]⟩ : ByteArray), (⟨#[114, 101, 102]⟩ : ByteArray), a, b] := by
  have e : (⟨#[114, 117, 108, 101, 32, 115, 116, 114, 105, 99, 116, 32, 114, 101, 102, 32]⟩ : ByteArray) = (⟨#[114, 117, 108, 101]⟩ : ByteArray) ++ (⟨#[32]⟩ : ByteArray) ++ (⟨#[115, 116, 114, 105, 99, 116]⟩ : ByteArray) ++ (⟨#[32]⟩ : ByteArray) ++ (⟨#[114, 101, 102]⟩ : ByteArray) ++ (⟨#[32]⟩ : ByteArray) := by decide +kernel
  rw [e]
  simp only [jn, ByteArray.append_assoc]
  rfl
theorem lexW3 (a b : ByteArray) : lexW [(⟨#[114, 117, 108, 101]⟩ : ByteArray), (⟨#[115, 116, 114, 105, 99, 116]⟩ : ByteArray), (⟨#[114, 101, 102]⟩ : ByteArray), a, b] [] 1 = lexW [a, b] ([⟨1, (⟨#[114, 117, 108, 101]⟩ : ByteArray), 0, 1⟩, ⟨1, (⟨#[115, 116, 114, 105, 99, 116]⟩ : ByteArray), 0, 1⟩, ⟨1, (⟨#[114, 101, 102]⟩ : ByteArray), 0, 1⟩] : List Tk) 1 := by
  have w : ∀ (z : ByteArray) (us : List ByteArray) (xs : List Tk), wordB z = true → lexW (z :: us) xs 1 = lexW us (xs ++ [⟨1, z, 0, 1⟩]) 1 := fun z us xs h => by rw [lexW, if_pos h]
  rw [w _ _ _ (by decide +kernel), w _ _ _ (by decide +kernel), w _ _ _ (by decide +kernel)]
  rfl

/-- The line of a head and two names, or of two tokens that are none. -/
theorem line_ok (H : List Tk) (k : Int) (bl : Bool) (a b : ByteArray) (ha : nmB a = true) (hb : nmB b = true) (hH : ∀ ts, pDecl0 (H ++ ts) = pR k bl ts) (h1 : (hdT (H ++ [⟨1, a, 0, 1⟩, ⟨1, b, 0, 1⟩, ⟨0, ⟨#[]⟩, 0, 1⟩])).f0 = 1) :
    ∃ d : Dl, linesT (H ++ [⟨1, a, 0, 1⟩, ⟨1, b, 0, 1⟩, ⟨0, ⟨#[]⟩, 0, 1⟩]) = .ok [d] ∧ d.f1 = bl ∧ d.f2 = a ∧ d.f3 = b := by
  unfold linesT
  obtain ⟨n, hn⟩ : ∃ n, (H ++ [(⟨1, a, 0, 1⟩ : Tk), ⟨1, b, 0, 1⟩, ⟨0, ⟨#[]⟩, 0, 1⟩]).length = n + 1 := ⟨H.length + 2, by simp⟩
  rw [hn, pLinesL, if_neg (by rw [h1]; decide), if_neg (by rw [h1]; decide), if_neg (by decide)]
  unfold pDecl
  rw [hH, pair_names k bl a b 1 _ ha hb]
  refine ⟨⟨k, bl, a, b, 0, [], (hdT (H ++ [⟨1, a, 0, 1⟩, ⟨1, b, 0, 1⟩, ⟨0, ⟨#[]⟩, 0, 1⟩])).f3⟩, ?_, rfl, rfl, rfl⟩
  show pLinesL n [_] [_] = _
  exact lines_end rfl
theorem line_bad (H : List Tk) (k : Int) (bl : Bool) (s t e : Tk) (h : (s.f0 = 1 → hasB kwords s.f1 = true) ∨ (t.f0 = 1 → hasB kwords t.f1 = true)) (hH : ∀ ts, pDecl0 (H ++ ts) = pR k bl ts) (h1 : (hdT (H ++ [s, t, e])).f0 = 1) : ∃ x, linesT (H ++ [s, t, e]) = .error x := by
  unfold linesT
  obtain ⟨n, hn⟩ : ∃ n, (H ++ [s, t, e]).length = n + 1 := ⟨H.length + 2, by simp⟩
  rw [hn, pLinesL, if_neg (by rw [h1]; decide), if_neg (by rw [h1]; decide), if_neg (by decide)]
  obtain ⟨x, hx⟩ := pair_bad k bl s t e h
  refine ⟨x, ?_⟩
  unfold pDecl
  rw [hH, hx]
  rfl
theorem lexW_names (H : List Tk) (hl : H.length ≤ 10) (a b : ByteArray) (ha : nmB a = true) (hb : nmB b = true) : lexW [a, b] H 1 = (H ++ [⟨1, a, 0, 1⟩, ⟨1, b, 0, 1⟩, ⟨0, ⟨#[]⟩, 0, 1⟩], 0, 0) := by
  unfold nmB at ha hb
  rw [Bool.and_eq_true] at ha hb
  rw [lexW, if_pos ha.1, lexW, if_pos hb.1, lexW, if_neg (by simp; omega)]
  simp
/-- A word's or a number's token. -/
def tkW (w : ByteArray) : Tk := if wordB w then ⟨1, w, 0, 1⟩ else ⟨2, ⟨#[]⟩, numV w, 1⟩
theorem lexW_any (H : List Tk) (hl : H.length ≤ 10) (a b : ByteArray) : lexW [a, b] H 1 = (H ++ [tkW a, tkW b, ⟨0, ⟨#[]⟩, 0, 1⟩], 0, 0) ∨ (lexW [a, b] H 1).2.2 = 2 := by
  have step : ∀ (w : ByteArray) (us : List ByteArray) (xs : List Tk), lexW (w :: us) xs 1 = lexW us (xs ++ [tkW w]) 1 ∨ lexW (w :: us) xs 1 = ([], 1, 2) := by
    intro w us xs
    unfold tkW
    rw [lexW]
    by_cases hw : wordB w = true
    · rw [if_pos hw, if_pos hw]; exact .inl rfl
    · rw [if_neg hw, if_neg hw]
      by_cases hn : (numO w).isSome = true
      · rw [if_pos hn]; exact .inl rfl
      · rw [if_neg hn]; exact .inr rfl
  rcases step a [b] H with h | h
  · rcases step b [] (H ++ [tkW a]) with h2 | h2
    · left
      rw [h, h2, lexW, if_neg (by simp; omega)]
      simp
    · right; rw [h, h2]
  · right; rw [h]
theorem tk_bad (w : ByteArray) (h : nmB w = false) : (tkW w).f0 = 1 → hasB kwords (tkW w).f1 = true := by
  unfold tkW
  by_cases hw : wordB w = true
  · rw [if_pos hw]
    intro _
    unfold nmB at h
    rw [hw, Bool.true_and] at h
    simpa using h
  · rw [if_neg hw]
    intro h2
    exact absurd h2 (show ¬ (2 : Int) = 1 by decide)
/-- What the law asks of a text. -/
def Asked (s a b : ByteArray) (bl : Bool) : Prop :=
  (nmB a = true → nmB b = true → (parseLines s).2.2 = 0 ∧ (parseLines s).2.1 = 0 ∧ ∃ d : Dl, (parseLines s).1 = [d] ∧ d.f1 = bl ∧ d.f2 = a ∧ d.f3 = b) ∧
  (nmB a = false ∨ nmB b = false → (0 < a.size ∧ ∀ i, i < a.size → partB (byt a i) = true) → (0 < b.size ∧ ∀ i, i < b.size → partB (byt b i) = true) → ¬ (parseLines s).2.2 = 0)
theorem asked (H : List Tk) (ws : List ByteArray) (k : Int) (bl : Bool) (a b s : ByteArray) (hl : H.length ≤ 10) (hw : ws.length ≤ 10) (hj : s = jn (ws ++ [a, b])) (hs : s.size ≤ 4096)
    (hall : ∀ w ∈ ws, 0 < w.size ∧ ∀ i, i < w.size → partB (byt w i) = true) (hx : lexW (ws ++ [a, b]) [] 1 = lexW [a, b] H 1) (hH : ∀ ts, pDecl0 (H ++ ts) = pR k bl ts) (h1 : ∀ ts, (hdT (H ++ ts)).f0 = 1) : Asked s a b bl := by
  have hlex : (0 < a.size ∧ ∀ i, i < a.size → partB (byt a i) = true) → (0 < b.size ∧ ∀ i, i < b.size → partB (byt b i) = true) → lexR s = lexW [a, b] H 1 := by
    intro pa pb
    rw [hj, lexR_words (ws ++ [a, b]) (by simp) (fun w hm => by
      rcases List.mem_append.1 hm with h | h
      · exact hall w h
      · simp only [List.mem_cons, List.not_mem_nil, or_false] at h
        rcases h with rfl | rfl
        · exact pa
        · exact pb) (by simp; omega) (by rw [← hj]; exact hs), hx]
  constructor
  · intro ha hb
    have pa := wordB_all a (by unfold nmB at ha; rw [Bool.and_eq_true] at ha; exact ha.1)
    have pb := wordB_all b (by unfold nmB at hb; rw [Bool.and_eq_true] at hb; exact hb.1)
    have h2 := hlex pa pb
    rw [lexW_names H hl a b ha hb] at h2
    obtain ⟨d, h3, h4, h5, h6⟩ := line_ok H k bl a b ha hb hH (h1 _)
    unfold parseLines
    rw [h2]
    simp only [if_true]
    rw [h3]
    exact ⟨rfl, rfl, d, rfl, h4, h5, h6⟩
  · intro hn pa pb
    have h2 := hlex pa pb
    unfold parseLines
    rw [h2]
    rcases lexW_any H hl a b with h | h
    · rw [h]
      simp only [if_true]
      have hbad : ((tkW a).f0 = 1 → hasB kwords (tkW a).f1 = true) ∨ ((tkW b).f0 = 1 → hasB kwords (tkW b).f1 = true) := by
        rcases hn with h | h
        · exact .inl (tk_bad a h)
        · exact .inr (tk_bad b h)
      obtain ⟨x, h3⟩ := line_bad H k bl (tkW a) (tkW b) ⟨0, ⟨#[]⟩, 0, 1⟩ hbad hH (h1 _)
      rw [h3]
      exact lines_err_nz h3
    · rw [if_neg (by rw [h]; decide)]
      rw [h]; decide
theorem asked0 (a b : ByteArray) (ha : a.size ≤ 60) (hb : b.size ≤ 60) : Asked (((((⟨#[114, 117, 108, 101, 32, 114, 101, 102, 32]⟩ : ByteArray)) ++ a) ++ (⟨#[32]⟩ : ByteArray)) ++ b) a b false := by
  refine asked [⟨1, (⟨#[114, 117, 108, 101]⟩ : ByteArray), 0, 1⟩, ⟨1, (⟨#[114, 101, 102]⟩ : ByteArray), 0, 1⟩] [(⟨#[114, 117, 108, 101]⟩ : ByteArray), (⟨#[114, 101, 102]⟩ : ByteArray)] 4 false a b _ (by decide) (by decide) (jn0 a b) ?_ ?_ (lexW0 a b) (fun ts => head0 1 ts) (fun _ => rfl)
  · rw [ByteArray.size_append, ByteArray.size_append, ByteArray.size_append, show ((⟨#[114, 117, 108, 101, 32, 114, 101, 102, 32]⟩ : ByteArray)).size = 9 from rfl, show (⟨#[32]⟩ : ByteArray).size = 1 from rfl]; omega
  · intro w hw
    simp only [List.mem_cons, List.not_mem_nil, or_false] at hw
    rcases hw with rfl | rfl <;> exact wordB_all _ (by decide +kernel)
theorem asked1 (a b : ByteArray) (ha : a.size ≤ 60) (hb : b.size ≤ 60) : Asked (((((⟨#[114, 117, 108, 101, 32, 98, 111, 116, 104, 32]⟩ : ByteArray)) ++ a) ++ (⟨#[32]⟩ : ByteArray)) ++ b) a b false := by
  refine asked [⟨1, (⟨#[114, 117, 108, 101]⟩ : ByteArray), 0, 1⟩, ⟨1, (⟨#[98, 111, 116, 104]⟩ : ByteArray), 0, 1⟩] [(⟨#[114, 117, 108, 101]⟩ : ByteArray), (⟨#[98, 111, 116, 104]⟩ : ByteArray)] 5 false a b _ (by decide) (by decide) (jn1 a b) ?_ ?_ (lexW1 a b) (fun ts => head1 1 ts) (fun _ => rfl)
  · rw [ByteArray.size_append, ByteArray.size_append, ByteArray.size_append, show ((⟨#[114, 117, 108, 101, 32, 98, 111, 116, 104, 32]⟩ : ByteArray)).size = 10 from rfl, show (⟨#[32]⟩ : ByteArray).size = 1 from rfl]; omega
  · intro w hw
    simp only [List.mem_cons, List.not_mem_nil, or_false] at hw
    rcases hw with rfl | rfl <;> exact wordB_all _ (by decide +kernel)
theorem asked2 (a b : ByteArray) (ha : a.size ≤ 60) (hb : b.size ≤ 60) : Asked (((((⟨#[114, 117, 108, 101, 32, 115, 116, 114, 105, 99, 116, 32, 110, 101, 101, 100, 115, 32]⟩ : ByteArray)) ++ a) ++ (⟨#[32]⟩ : ByteArray)) ++ b) a b true := by
  refine asked [⟨1, (⟨#[114, 117, 108, 101]⟩ : ByteArray), 0, 1⟩, ⟨1, (⟨#[115, 116, 114, 105, 99, 116]⟩ : ByteArray), 0, 1⟩, ⟨1, (⟨#[110, 101, 101, 100, 115]⟩ : ByteArray), 0, 1⟩] [(⟨#[114, 117, 108, 101]⟩ : ByteArray), (⟨#[115, 116, 114, 105, 99, 116]⟩ : ByteArray), (⟨#[110, 101, 101, 100, 115]⟩ : ByteArray)] 9 true a b _ (by decide) (by decide) (jn2 a b) ?_ ?_ (lexW2 a b) (fun ts => head2 1 ts) (fun _ => rfl)
  · rw [ByteArray.size_append, ByteArray.size_append, ByteArray.size_append, show ((⟨#[114, 117, 108, 101, 32, 115, 116, 114, 105, 99, 116, 32, 110, 101, 101, 100, 115, 32]⟩ : ByteArray)).size = 18 from rfl, show (⟨#[32]⟩ : ByteArray).size = 1 from rfl]; omega
  · intro w hw
    simp only [List.mem_cons, List.not_mem_nil, or_false] at hw
    rcases hw with rfl | rfl | rfl <;> exact wordB_all _ (by decide +kernel)
theorem asked3 (a b : ByteArray) (ha : a.size ≤ 60) (hb : b.size ≤ 60) : Asked (((((⟨#[114, 117, 108, 101, 32, 115, 116, 114, 105, 99, 116, 32, 114, 101, 102, 32]⟩ : ByteArray)) ++ a) ++ (⟨#[32]⟩ : ByteArray)) ++ b) a b true := by
  refine asked [⟨1, (⟨#[114, 117, 108, 101]⟩ : ByteArray), 0, 1⟩, ⟨1, (⟨#[115, 116, 114, 105, 99, 116]⟩ : ByteArray), 0, 1⟩, ⟨1, (⟨#[114, 101, 102]⟩ : ByteArray), 0, 1⟩] [(⟨#[114, 117, 108, 101]⟩ : ByteArray), (⟨#[115, 116, 114, 105, 99, 116]⟩ : ByteArray), (⟨#[114, 101, 102]⟩ : ByteArray)] 4 true a b _ (by decide) (by decide) (jn3 a b) ?_ ?_ (lexW3 a b) (fun ts => head3 1 ts) (fun _ => rfl)
  · rw [ByteArray.size_append, ByteArray.size_append, ByteArray.size_append, show ((⟨#[114, 117, 108, 101, 32, 115, 116, 114, 105, 99, 116, 32, 114, 101, 102, 32]⟩ : ByteArray)).size = 16 from rfl, show (⟨#[32]⟩ : ByteArray).size = 1 from rfl]; omega
  · intro w hw
    simp only [List.mem_cons, List.not_mem_nil, or_false] at hw
    rcases hw with rfl | rfl | rfl <;> exact wordB_all _ (by decide +kernel)

theorem one_yes (a b : ByteArray) (n : Int) : Ev (fun k => hucksterlaw15_ParseOne.j0 k a b n true) true := by
  refine Ev.succ ?_
  simp only [hucksterlaw15_ParseOne.j0]
  exact Ev.yes (by simp) fin15
theorem one_j1 (a b s : ByteArray) (n : Int) (bl : Bool) (ha : a.size ≤ 60) (hb : b.size ≤ 60) (hn : bl = decide (Int.tmod n 4 ≥ 2)) (h : Asked s a b bl) :
    Ev (fun k => hucksterlaw15_ParseOne.j1 k a b n (parseLines s).1 (parseLines s).2.1 (parseLines s).2.2 (!(nmB a && nmB b))) true := by
  refine Ev.succ ?_
  simp only [hucksterlaw15_ParseOne.j1]
  have pl : ∀ z : ByteArray, z.size ≤ 60 → Ev (fun k => hucksterlaw15_plain.f k z) (plainFrom z z.size 0) := fun z hz => plain_ref z (by omega) z.size 0 (by omega)
  by_cases hc : (nmB a && nmB b) = true
  · rw [hc]
    rw [Bool.and_eq_true] at hc
    obtain ⟨h1, h2, d, h3, h4, h5, h6⟩ := h.1 hc.1 hc.2
    refine Ev.no (by simp) (Ev.yes h1 (Ev.yes h2 ?_))
    rw [h3]
    have e : rd_T29 [d] 0 = d := rfl
    rw [e, h4, h5, h6]
    refine Ev.yes rfl (Ev.yes (by simp) (Ev.yes rfl (Ev.yes rfl (Ev.yes ?_ fin15))))
    rw [hn]; simp
  · have hc2 : (nmB a && nmB b) = false := by simpa using hc
    rw [hc2]
    have hn2 : nmB a = false ∨ nmB b = false := Bool.and_eq_false_iff.1 hc2
    refine Ev.yes rfl ?_
    by_cases h0 : (parseLines s).2.2 = 0
    · refine Ev.yes h0 ?_
      by_cases e1 : a.toList = []
      · exact Ev.yes e1 fin15
      refine Ev.no e1 ?_
      by_cases e2 : b.toList = []
      · exact Ev.yes e2 fin15
      refine Ev.no e2 ?_
      by_cases e3 : (a.size : Int) > 16
      · exact Ev.yes e3 fin15
      refine Ev.no e3 ?_
      by_cases e4 : (b.size : Int) > 16
      · exact Ev.yes e4 fin15
      refine Ev.no e4 (Ev.bind (pl a ha) ?_)
      by_cases p1 : plainFrom a a.size 0 = true
      · refine Ev.yes p1 (Ev.bind (pl b hb) ?_)
        by_cases p2 : plainFrom b b.size 0 = true
        · exfalso
          have ne : ∀ z : ByteArray, ¬ z.toList = [] → 0 < z.size := fun z hz => by
            rw [← toList_len z]
            exact List.length_pos_iff.2 hz
          exact h.2 hn2 ⟨ne a e1, fun i hi => plain_all a a.size 0 (by omega) p1 i (by omega) hi⟩ ⟨ne b e2, fun i hi => plain_all b b.size 0 (by omega) p2 i (by omega) hi⟩ h0
        · exact Ev.no p2 fin15
      · exact Ev.no p1 fin15
    · exact Ev.no h0 fin15
theorem ParseOne : hucksterlaw15_ParseOne.Pure := by
  intro a0 a1 a2 h0 h1 h2
  refine Ev.rounds ?_
  unfold hucksterlaw15_ParseOne.f
  by_cases h5 : (a0.size : Int) > 60
  · exact Ev.yes h5 (one_yes a0 a1 a2)
  refine Ev.no h5 ?_
  by_cases h6 : (a1.size : Int) > 60
  · rw [decide_eq_true h6]
    exact one_yes a0 a1 a2
  rw [decide_eq_false h6]
  have h7 : 0 ≤ a2 ∧ a2 ≤ 255 := by
    simp [Lit.wf, IntKind.min, IntKind.max, IntKind.wrap, IntKind.bits, IntKind.signed] at h2
    omega
  have ew : wrap64 a2 = a2 := by unfold wrap64; omega
  have e32 : (⟨#[32]⟩ : ByteArray).size = 1 := rfl
  refine Ev.succ ?_
  simp only [hucksterlaw15_ParseOne.j0, parse_Lines.f, ew]
  refine Ev.no (by simp) (Ev.bind1 rfl ?_)
  have hm : Int.tmod a2 4 = 0 ∨ Int.tmod a2 4 = 1 ∨ Int.tmod a2 4 = 2 ∨ Int.tmod a2 4 = 3 := by
    rw [Int.tmod_eq_emod_of_nonneg h7.1]; omega
  have go : ∀ (s : ByteArray) (bl : Bool), bl = decide (Int.tmod a2 4 ≥ 2) → Asked s a0 a1 bl → Ev (fun k => (hucksterref15_Name.f k a0).bind fun t176 => (if t176 = true then ((hucksterref15_Name.f k a1).bind fun t177 => (hucksterlaw15_ParseOne.j1 k a0 a1 a2 (parseLines s).1 (parseLines s).2.1 (parseLines s).2.2 (!t177))) else (hucksterlaw15_ParseOne.j1 k a0 a1 a2 (parseLines s).1 (parseLines s).2.1 (parseLines s).2.2 true))) true := by
    intro s bl hbl hask
    have hj := one_j1 a0 a1 s a2 bl (by omega) (by omega) hbl hask
    refine Ev.bind (name_ref a0 (by omega)) ?_
    by_cases hn : nmB a0 = true
    · rw [hn, Bool.true_and] at hj
      exact Ev.yes hn (Ev.bind (name_ref a1 (by omega)) hj)
    · have : nmB a0 = false := by simpa using hn
      rw [this, Bool.false_and] at hj
      exact Ev.no hn hj
  rcases hm with hm | hm | hm | hm
  · have er : rdOf ByteArray.empty [(⟨#[114, 117, 108, 101, 32, 114, 101, 102, 32]⟩ : ByteArray), (⟨#[114, 117, 108, 101, 32, 98, 111, 116, 104, 32]⟩ : ByteArray), (⟨#[114, 117, 108, 101, 32, 115, 116, 114, 105, 99, 116, 32, 110, 101, 101, 100, 115, 32]⟩ : ByteArray), (⟨#[114, 117, 108, 101, 32, 115, 116, 114, 105, 99, 116, 32, 114, 101, 102, 32]⟩ : ByteArray)] (0 : Int) = (⟨#[114, 117, 108, 101, 32, 114, 101, 102, 32]⟩ : ByteArray) := rfl
    have es : ((⟨#[114, 117, 108, 101, 32, 114, 101, 102, 32]⟩ : ByteArray)).size = 9 := rfl
    have hg := go _ false (by rw [hm]; rfl) (asked0 a0 a1 (by omega) (by omega))
    rw [hm] at *
    rw [er]
    refine Ev.yes (by decide) (Ev.yes (by decide) (Ev.yes (by omega) (Ev.yes (by rw [ByteArray.size_append]; omega) (Ev.yes (by rw [ByteArray.size_append, ByteArray.size_append]; omega) (Ev.bind1 rfl hg)))))
  · have er : rdOf ByteArray.empty [(⟨#[114, 117, 108, 101, 32, 114, 101, 102, 32]⟩ : ByteArray), (⟨#[114, 117, 108, 101, 32, 98, 111, 116, 104, 32]⟩ : ByteArray), (⟨#[114, 117, 108, 101, 32, 115, 116, 114, 105, 99, 116, 32, 110, 101, 101, 100, 115, 32]⟩ : ByteArray), (⟨#[114, 117, 108, 101, 32, 115, 116, 114, 105, 99, 116, 32, 114, 101, 102, 32]⟩ : ByteArray)] (1 : Int) = (⟨#[114, 117, 108, 101, 32, 98, 111, 116, 104, 32]⟩ : ByteArray) := rfl
    have es : ((⟨#[114, 117, 108, 101, 32, 98, 111, 116, 104, 32]⟩ : ByteArray)).size = 10 := rfl
    have hg := go _ false (by rw [hm]; rfl) (asked1 a0 a1 (by omega) (by omega))
    rw [hm] at *
    rw [er]
    refine Ev.yes (by decide) (Ev.yes (by decide) (Ev.yes (by omega) (Ev.yes (by rw [ByteArray.size_append]; omega) (Ev.yes (by rw [ByteArray.size_append, ByteArray.size_append]; omega) (Ev.bind1 rfl hg)))))
  · have er : rdOf ByteArray.empty [(⟨#[114, 117, 108, 101, 32, 114, 101, 102, 32]⟩ : ByteArray), (⟨#[114, 117, 108, 101, 32, 98, 111, 116, 104, 32]⟩ : ByteArray), (⟨#[114, 117, 108, 101, 32, 115, 116, 114, 105, 99, 116, 32, 110, 101, 101, 100, 115, 32]⟩ : ByteArray), (⟨#[114, 117, 108, 101, 32, 115, 116, 114, 105, 99, 116, 32, 114, 101, 102, 32]⟩ : ByteArray)] (2 : Int) = (⟨#[114, 117, 108, 101, 32, 115, 116, 114, 105, 99, 116, 32, 110, 101, 101, 100, 115, 32]⟩ : ByteArray) := rfl
    have es : ((⟨#[114, 117, 108, 101, 32, 115, 116, 114, 105, 99, 116, 32, 110, 101, 101, 100, 115, 32]⟩ : ByteArray)).size = 18 := rfl
    have hg := go _ true (by rw [hm]; rfl) (asked2 a0 a1 (by omega) (by omega))
    rw [hm] at *
    rw [er]
    refine Ev.yes (by decide) (Ev.yes (by decide) (Ev.yes (by omega) (Ev.yes (by rw [ByteArray.size_append]; omega) (Ev.yes (by rw [ByteArray.size_append, ByteArray.size_append]; omega) (Ev.bind1 rfl hg)))))
  · have er : rdOf ByteArray.empty [(⟨#[114, 117, 108, 101, 32, 114, 101, 102, 32]⟩ : ByteArray), (⟨#[114, 117, 108, 101, 32, 98, 111, 116, 104, 32]⟩ : ByteArray), (⟨#[114, 117, 108, 101, 32, 115, 116, 114, 105, 99, 116, 32, 110, 101, 101, 100, 115, 32]⟩ : ByteArray), (⟨#[114, 117, 108, 101, 32, 115, 116, 114, 105, 99, 116, 32, 114, 101, 102, 32]⟩ : ByteArray)] (3 : Int) = (⟨#[114, 117, 108, 101, 32, 115, 116, 114, 105, 99, 116, 32, 114, 101, 102, 32]⟩ : ByteArray) := rfl
    have es : ((⟨#[114, 117, 108, 101, 32, 115, 116, 114, 105, 99, 116, 32, 114, 101, 102, 32]⟩ : ByteArray)).size = 16 := rfl
    have hg := go _ true (by rw [hm]; rfl) (asked3 a0 a1 (by omega) (by omega))
    rw [hm] at *
    rw [er]
    refine Ev.yes (by decide) (Ev.yes (by decide) (Ev.yes (by omega) (Ev.yes (by rw [ByteArray.size_append]; omega) (Ev.yes (by rw [ByteArray.size_append, ByteArray.size_append]; omega) (Ev.bind1 rfl hg)))))
end Go.Proofs.Ytmhenlilcikgmaa.Pure

/- Functions of the seat as Lean functions, and that the calls come to them: written by this session's own program xprint.py over the kit's printer. -/
namespace Go.Proofs.Ytmhenlilcikgmaa.parseOne
open Go.ChangeShapes Go.WideShapes Go.ChangeAt Go.RowKit
open Go.ChangeMaps (open_string shut_string)
set_option linter.unusedVariables false
theorem own : ownKnob Try.prog.godebug = none := by kernel_rfl
set_option maxRecDepth 100000 in
theorem lifted (os : Os) (started : os.Started) (H : Type) (enc : TypeId × Value → H) :
    ReturnsInHanded {} Try.checked os 4 .any (Rows.parseOneSpec.pre6 enc Try.prog Try.f4 Rows.parseOneRow.domain false) (Rows.parseOneSpec.post enc Try.prog Try.f4 false true false false) := by
  refine returnsInHanded_of_change_sized (C := Try.checked) own started (by kernel_rfl) Try.func4
    (ChangeSpec.witness6 (enc := enc) (C := Try.checked) false ⟨#[], #[.string ByteArray.empty, .string ByteArray.empty, .int .u8 0], []⟩ 8 (by kernel_rfl) (by kernel_rfl) (by kernel_rfl) (by kernel_rfl)) ?_
  intro W base args ds gs before hval0 hW hcnd hsz0 _
  have hsz : (DataW.weightsEach Try.prog (Try.f4.params.toList ++ Rows.parseOneSpec.plain.varTypes Try.prog) (ds ++ gs)).all (· ≤ reachBytes) = true := hsz0
  have hval : ∀ (j : Nat) t v, Try.f4.params[j]? = some t → args[j]? = some v → Value.okWide Try.prog W .any base t v := hval0
  have hW' := hW
  obtain ⟨p, q, hA0, hV, rfl, hfz, hnd⟩ := hW
  have hA : DataW.TrodAll enc Try.prog W 0 (fun _ => true) true Try.f4.params.toList args.toList ds p := hA0
  rw [Try.params4] at hA hval hsz
  obtain ⟨v0, vs0, d0, ds0, p0, q0, hargs, rfl, rfl, h0, r0⟩ := trodAll_cons hA
  obtain ⟨v1, vs1, d1, ds1, p1, q1, rfl, rfl, rfl, h1, r1⟩ := trodAll_cons r0
  obtain ⟨v2, vs2, d2, ds2, p2, q2, rfl, rfl, rfl, h2, r2⟩ := trodAll_cons r1
  obtain ⟨rfl, rfl, rfl⟩ := trodAll_nil r2
  obtain rfl : args = #[v0, v1, v2] := by cases args; simp_all
  obtain ⟨rfl, rfl⟩ := trodVars_none hV
  obtain ⟨a0, rfl, rfl, rfl, y0⟩ := open_string Try.underlying9 (hval 0 9 v0 rfl rfl) h0
  have w0 : a0.size ≤ 140737488351232 := by
    have z := sized_string hsz (j := 0) (t := 9) rfl rfl
    rw [Array.length_toList] at z
    exact z
  obtain ⟨a1, rfl, rfl, rfl, y1⟩ := open_string Try.underlying9 (hval 1 9 v1 rfl rfl) h1
  have w1 : a1.size ≤ 140737488351232 := by
    have z := sized_string hsz (j := 1) (t := 9) rfl rfl
    rw [Array.length_toList] at z
    exact z
  obtain ⟨a2, rfl, rfl, rfl, w2⟩ := open_int Try.underlying5 (hval 2 5 v2 rfl rfl) h2
  clear hA0 hval0 hsz0 hsz
  refine (X.hucksterlaw15_ParseOne.walk Pure.ParseOne a0 a1 a2 W w0 w1 w2).mono fun e W' ⟨he, bel⟩ => ?_
  subst he
  exact ⟨_, rfl, _, _, _, [], _, [], hW', trodAll_mk1 (shut_bool Try.underlying4 _), (trodAll_cons_mk (shut_string Try.underlying9 y0) (trodAll_cons_mk (shut_string Try.underlying9 y1) (trodAll_cons_mk (shut_int Try.underlying5 w2) trodAll_mk0))), rfl, bel.frame _, fun h => by cases h⟩
theorem over : Rows.parseOneRow.holds Try.pinned (OpenSpec.ofChange Rows.parseOneSpec) :=
  OpenClaim.holds_of_wide 4 Try.f4 rfl rfl rfl rfl rfl rfl rfl ⟨rfl, rfl, rfl, rfl, rfl⟩ rfl rfl rfl rfl rfl (by kernel_rfl) Try.func4 (by kernel_rfl)
    (of_decide_eq_true (by kernel_rfl)) (by unfold Func.isWrapper; first | (rw [if_pos (by decide +kernel)]; kernel_rfl) | (rw [if_neg (by decide +kernel)]; exact ⟨rfl, rfl⟩))
    (fun os started H enc _ => lifted os started H enc)
theorem proved : Rows.ParseOneSaid := over
#print axioms proved
end Go.Proofs.Ytmhenlilcikgmaa.parseOne
namespace Go.Proofs.Ytmhenlilcikgmaa
/-- The row, under a short name, for the claim. -/
theorem parseOne_holds : Rows.ParseOneSaid := parseOne.proved
end Go.Proofs.Ytmhenlilcikgmaa

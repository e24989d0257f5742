/- Walks of lex.Word and its callees: every text is told to be a word or none. -/
import Derived.Test.YtpbbiedpbegamaaProg
import Derived.Below
import Derived.WalkKit
import Derived.KernelRfl
import Derived.BigQuiet
import Derived.BigCall
import Derived.Laws.RangeAny
import Derived.Lib.Hide
import Derived.Outline
namespace Go.Proofs.Ytpbbiedpbegamaa.X
open Go.RowKit

def letB (c : Int) : Bool := decide (97 ≤ c ∧ c ≤ 122)
def digB (c : Int) : Bool := decide (48 ≤ c ∧ c ≤ 57)
theorem letB_t {c : Int} (h1 : 97 ≤ c) (h2 : c ≤ 122) : letB c = true := by unfold letB; simp; omega
theorem letB_f {c : Int} (h : ¬ (97 ≤ c ∧ c ≤ 122)) : letB c = false := by unfold letB; simp at *; omega
theorem digB_t {c : Int} (h1 : 48 ≤ c) (h2 : c ≤ 57) : digB c = true := by unfold digB; simp; omega
theorem digB_f {c : Int} (h : ¬ (48 ≤ c ∧ c ≤ 57)) : digB c = false := by unfold digB; simp at *; omega

theorem ret_bool {a b : Bool} (h : a = b) : Ending.returned (.bool a) = .returned (.bool b) := by rw [h]

theorem letter_any (c : Int) (w : World) : Calls Try.prog 19 #[.int .i32 c] w fun e w' => e = .returned (.bool (letB c)) ∧ w = w' := by
  by_cases h1 : 97 ≤ c
  · by_cases h2 : c ≤ 122
    · have H := Lib.hid (letB_t h1 h2)
      go_enter Try.func19, Try.ntmps19
      go_wp2
      go_ret
      exact ⟨ret_bool H.out.symm, rfl⟩
    · have H := Lib.hid (letB_f (c := c) (by omega))
      go_enter Try.func19, Try.ntmps19
      go_wp2
      go_ret
      exact ⟨ret_bool H.out.symm, rfl⟩
  · have H := Lib.hid (letB_f (c := c) (by omega))
    go_enter Try.func19, Try.ntmps19
    go_wp2
    go_ret
    exact ⟨ret_bool H.out.symm, rfl⟩
theorem digit_any (c : Int) (w : World) : Calls Try.prog 20 #[.int .i32 c] w fun e w' => e = .returned (.bool (digB c)) ∧ w = w' := by
  by_cases h1 : 48 ≤ c
  · by_cases h2 : c ≤ 57
    · have H := Lib.hid (digB_t h1 h2)
      go_enter Try.func20, Try.ntmps20
      go_wp2
      go_ret
      exact ⟨ret_bool H.out.symm, rfl⟩
    · have H := Lib.hid (digB_f (c := c) (by omega))
      go_enter Try.func20, Try.ntmps20
      go_wp2
      go_ret
      exact ⟨ret_bool H.out.symm, rfl⟩
  · have H := Lib.hid (digB_f (c := c) (by omega))
    go_enter Try.func20, Try.ntmps20
    go_wp2
    go_ret
    exact ⟨ret_bool H.out.symm, rfl⟩
end Go.Proofs.Ytpbbiedpbegamaa.X

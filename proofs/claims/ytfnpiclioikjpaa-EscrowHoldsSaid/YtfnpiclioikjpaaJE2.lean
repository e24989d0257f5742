/- Joined texts of this session: Xhucksterref11Rights, Xhucksterref11Same, XapiAccount, XescrowSame, XescrowMay, EscUp, Xhucksterlaw11awake, Xhucksterlaw11Light, EscL, EscMove. -/
import Derived.Test.YtfnpiclioikjpaaJE1
/- Functions of the seat as Lean functions, and that the calls come to them: written by this session's own program xprint.py over the kit's printer. -/
namespace Go.Proofs.Ytfnpiclioikjpaa.X
open Go.RowKit Go.Proofs.YtfnpiclioikjpaaW.PrintWords Go.Proofs.YtfnpiclioikjpaaW.PrintLast Go.Proofs.YtfnpiclioikjpaaW.PrintMore
attribute [local go_sem] max2_int min2_int max_two min_two max_three min_three max_four min_four   -- for this text's walks alone
set_option linter.unusedVariables false
set_option linter.unusedSimpArgs false

/-! ### hucksterref11_Rights: function 53 -/
def hucksterref11_Rights.f (l0 : List (S94)) (a1 : ByteArray) (a2 : Int) (a3 : Int) : Option (Int) := if a2 = 1 then ((hucksterref11_Get.f l0 a1 a2).bind fun t160 => (some (wrap64 (t160 - a3)))) else ((hucksterref11_Get.f l0 a1 a2).bind fun t161 => (some t161))
set_option maxHeartbeats 8000000 in
set_option maxRecDepth 100000 in
theorem hucksterref11_Rights.calls (A0 : Option Addr) (c0 : Nat) (l0 : List (S94)) (a1 : ByteArray) (a2 : Int) (a3 : Int) (r : Int) (w : World) (hr0 : Kd.C k94 w A0 l0.length l0) (hc0 : l0.length ≤ c0) (h : hucksterref11_Rights.f l0 a1 a2 a3 = some r) :
    Calls Try.prog 53 #[.slice A0 l0.length c0, .string a1, .int .i64 a2, .int .i64 a3] w fun e w' => e = .returned (.int .i64 r) ∧ Drawn0 w w' := by
  have HR0 := Aside0.mk hr0
  have HC0 := Aside0.mk hc0
  clear hr0 hc0
  have H : (if a2 = 1 then ((hucksterref11_Get.f l0 a1 a2).bind fun t160 => (some (wrap64 (t160 - a3)))) else ((hucksterref11_Get.f l0 a1 a2).bind fun t161 => (some t161))) = some r := h
  clear h
  by_cases c5 : a2 = 1
  · rw [if_pos c5] at H
    have c5b0 : (a2 == 1) = true := beq_iff_eq.mpr c5
    have c5b1 : (a2 != 1) = false := bne_eq_false_iff_eq.mpr c5
    clear c5
    replace H := Option.bind_eq_some_iff.mp H
    obtain ⟨t160, A60, H⟩ := H
    replace H : (some (wrap64 (t160 - a3))) = some r := H
    have A6 := Aside0.mk A60
    clear A60
    obtain rfl := Option.some.inj H
    go_enter Try.func53, Try.ntmps53
    go_wp2_with (first | ((with_reducible refine gate_callee (f := 69) rfl ?_); refine goesL_ (some 14) rfl rfl Try.func69 (by kernel_rfl) rfl #[.slice A0 l0.length c0, .string a1, .int .i64 a2] rfl (by (try simp only [List.map_toArray, List.map_cons, List.map_nil]); first | done | rfl | (simp only [List.length_drop, List.length_take]; rfl)) ?_; (with_reducible refine (hucksterref11_Get.calls _ _ l0 a1 a2 t160 _ ?side1 ?side2 A6.out).mono ?_); (case side1 => repeat (first | exact HR0.out | (with_reducible refine Kd.C_alloc ?_ _) | (with_reducible refine Kd.C_drewN ?_ _) | (with_reducible refine Kd.C_drew ?_))); (case side2 => exact HC0.out); rintro e w' ⟨rfl, ⟨nd, rfl⟩⟩; refine ⟨_, rfl, ?_⟩))
    go_ret
    exact ⟨by first | rfl | (simp; done) | (simp [*]; done), by repeat (first | exact Drawn0.refl _ | apply Drawn0.step)⟩
  · rw [if_neg c5] at H
    have c5b0 : (a2 == 1) = false := beq_eq_false_iff_ne.mpr c5
    have c5b1 : (a2 != 1) = true := bne_iff_ne.mpr c5
    replace H := Option.bind_eq_some_iff.mp H
    obtain ⟨t161, A70, H⟩ := H
    replace H : (some t161) = some r := H
    have A7 := Aside0.mk A70
    clear A70
    obtain rfl := Option.some.inj H
    go_enter Try.func53, Try.ntmps53
    go_wp2_with (first | ((with_reducible refine gate_callee (f := 69) rfl ?_); refine goesL_ (some 20) rfl rfl Try.func69 (by kernel_rfl) rfl #[.slice A0 l0.length c0, .string a1, .int .i64 a2] rfl (by (try simp only [List.map_toArray, List.map_cons, List.map_nil]); first | done | rfl | (simp only [List.length_drop, List.length_take]; rfl)) ?_; (with_reducible refine (hucksterref11_Get.calls _ _ l0 a1 a2 t161 _ ?side1 ?side2 A7.out).mono ?_); (case side1 => repeat (first | exact HR0.out | (with_reducible refine Kd.C_alloc ?_ _) | (with_reducible refine Kd.C_drewN ?_ _) | (with_reducible refine Kd.C_drew ?_))); (case side2 => exact HC0.out); rintro e w' ⟨rfl, ⟨nd, rfl⟩⟩; refine ⟨_, rfl, ?_⟩))
    go_ret
    exact ⟨by first | rfl | (simp; done) | (simp [*]; done), by repeat (first | exact Drawn0.refl _ | apply Drawn0.step)⟩

end Go.Proofs.Ytfnpiclioikjpaa.X

/- Functions of the seat as Lean functions, and that the calls come to them: written by this session's own program xprint.py over the kit's printer. -/
namespace Go.Proofs.Ytfnpiclioikjpaa.X
open Go.RowKit Go.Proofs.YtfnpiclioikjpaaW.PrintWords Go.Proofs.YtfnpiclioikjpaaW.PrintLast Go.Proofs.YtfnpiclioikjpaaW.PrintMore
attribute [local go_sem] max2_int min2_int max_two min_two max_three min_three max_four min_four   -- for this text's walks alone
set_option linter.unusedVariables false
set_option linter.unusedSimpArgs false

attribute [local go_sem high] eqA94
/-! ### hucksterref11_Same: function 47 -/
def hucksterref11_Same.l0 : Nat → List (S94) → List (S94) → Int → Option (Bool)
  | 0, _, _, _ => none
  | k + 1, x0, x1, x5 => if x5 < (x0.length : Int) then (if 0 ≤ x5 then (if x5 < (x1.length : Int) then (if (!((((rd_T94 x0 x5).f0).toList) == (((rd_T94 x1 x5).f0).toList)) || ((!(((rd_T94 x0 x5).f1.f0) == ((rd_T94 x1 x5).f1.f0)) || (!(((rd_T94 x0 x5).f1.f1) == ((rd_T94 x1 x5).f1.f1)) || (!(((rd_T94 x0 x5).f1.f2) == ((rd_T94 x1 x5).f1.f2)) || (!(((rd_T94 x0 x5).f1.f3) == ((rd_T94 x1 x5).f1.f3)) || (!(((rd_T94 x0 x5).f1.f4) == ((rd_T94 x1 x5).f1.f4))))))))) = true then (some false) else (hucksterref11_Same.l0 k x0 x1 (wrap64 (x5 + 1)))) else (none)) else (none)) else (some true)
def hucksterref11_Same.f (k : Nat) (l0 : List (S94)) (l1 : List (S94)) : Option (Bool) := if (l0.length : Int) = (l1.length : Int) then (hucksterref11_Same.l0 k l0 l1 0) else (some false)
theorem hucksterref11_Same.mono_l : ∀ k, (∀ y0 y1 y2, LeO (hucksterref11_Same.l0 k y0 y1 y2) (hucksterref11_Same.l0 (k + 1) y0 y1 y2))
  | 0 => fun _ _ _ r h => by simp [hucksterref11_Same.l0] at h
  | k + 1 => by
    have ih0 := hucksterref11_Same.mono_l k
    · intro y0 y1 y2
      unfold hucksterref11_Same.l0
      repeat' first
      | (with_reducible exact ih0 _ _ _)
      | (with_reducible exact LeO.refl _)
      | (with_reducible exact LeO.none _)
      | (with_reducible refine LeO.ite ?_ ?_)
      | (with_reducible refine LeO.bind ?_ (fun _ => ?_))
      | exact ih0 _ _ _
      | exact LeO.none _
      | refine LeO.ite ?_ ?_
      | refine LeO.bind ?_ (fun _ => ?_)
theorem hucksterref11_Same.mono : ∀ a0 a1 k, LeO (hucksterref11_Same.f k a0 a1) (hucksterref11_Same.f (k + 1) a0 a1) := by
  intro a0 a1 k
  have ih0 := hucksterref11_Same.mono_l k
  unfold hucksterref11_Same.f
  repeat' first
      | (with_reducible exact ih0 _ _ _)
      | (with_reducible exact LeO.refl _)
      | (with_reducible exact LeO.none _)
      | (with_reducible refine LeO.ite ?_ ?_)
      | (with_reducible refine LeO.bind ?_ (fun _ => ?_))
      | exact ih0 _ _ _
      | exact LeO.none _
      | refine LeO.ite ?_ ?_
      | refine LeO.bind ?_ (fun _ => ?_)
set_option maxHeartbeats 8000000 in
set_option maxRecDepth 100000 in
theorem hucksterref11_Same.calls (k : Nat) (A0 : Option Addr) (c0 : Nat) (l0 : List (S94)) (A1 : Option Addr) (c1 : Nat) (l1 : List (S94)) (r : Bool) (w : World) (hr0 : Kd.C k94 w A0 l0.length l0) (hc0 : l0.length ≤ c0) (hr1 : Kd.C k94 w A1 l1.length l1) (hc1 : l1.length ≤ c1) (h : hucksterref11_Same.f k l0 l1 = some r) :
    Calls Try.prog 47 #[.slice A0 l0.length c0, .slice A1 l1.length c1] w fun e w' => e = .returned (.bool r) ∧ Drawn0 w w' := by
  have hu94 := Try.underlying94
  have HR0 := Aside0.mk hr0
  have HC0 := Aside0.mk hc0
  clear hr0 hc0
  have HR1 := Aside0.mk hr1
  have HC1 := Aside0.mk hc1
  clear hr1 hc1
  have H : (if (l0.length : Int) = (l1.length : Int) then (hucksterref11_Same.l0 k l0 l1 0) else (some false)) = some r := h
  clear h
  by_cases c3 : (l0.length : Int) = (l1.length : Int)
  · rw [if_pos c3] at H
    have c3b0 : ((l0.length : Int) == (l1.length : Int)) = true := beq_iff_eq.mpr c3
    have c3b1 : ((l0.length : Int) != (l1.length : Int)) = false := bne_eq_false_iff_eq.mpr c3
    have c3b2 : (l0.length == l1.length) = true := by first | simpa using c3 | (simp at c3 ⊢; omega)
    clear c3
    have H' := Aside0.mk H
    clear H
    go_enter Try.func47, Try.ntmps47
    go_wp2
    repeat (go_quiet (fail); try go_wp2)
    go_loopg [5] k (fun kq v5 w' => ∃ (x5_1 : Int), v5 = .int .i64 x5_1 ∧ Aside0 (hucksterref11_Same.l0 kq l0 l1 x5_1 = some r) ∧ Aside0 (kq ≤ k) ∧ Drawn0 w w')
    case atStart => exact ⟨(0), (by first | rfl | (simp; done) | (simp [*]; done)), H', ⟨Nat.le_refl _⟩, by repeat (first | exact Drawn0.refl _ | apply Drawn0.step)⟩
    case round =>
      clear H'
      try clear c1
      try clear p2
      try clear c3
      try clear c3b0
      try clear c3b1
      try clear c3b2
      obtain ⟨x5_1, rfl, HA, HK1, ⟨m1, rfl⟩⟩ := hrel
      cases gk with
      | zero => exact absurd HA.out (by simp [hucksterref11_Same.l0])
      | succ k1 =>
        have H := HA.out
        clear HA
        simp only [hucksterref11_Same.l0] at H
        by_cases c4 : x5_1 < (l0.length : Int)
        · rw [if_pos c4] at H
          have c4b0 : decide (x5_1 < (l0.length : Int)) = true := decide_eq_true c4
          clear c4
          by_cases c5 : 0 ≤ x5_1
          · rw [if_pos c5] at H
            have c5b0 : decide (0 ≤ x5_1) = true := decide_eq_true c5
            clear c5
            by_cases c6 : x5_1 < (l1.length : Int)
            · rw [if_pos c6] at H
              have c6b0 : decide (x5_1 < (l1.length : Int)) = true := decide_eq_true c6
              clear c6
              by_cases c7 : (!((((rd_T94 l0 x5_1).f0).toList) == (((rd_T94 l1 x5_1).f0).toList)) || ((!(((rd_T94 l0 x5_1).f1.f0) == ((rd_T94 l1 x5_1).f1.f0)) || (!(((rd_T94 l0 x5_1).f1.f1) == ((rd_T94 l1 x5_1).f1.f1)) || (!(((rd_T94 l0 x5_1).f1.f2) == ((rd_T94 l1 x5_1).f1.f2)) || (!(((rd_T94 l0 x5_1).f1.f3) == ((rd_T94 l1 x5_1).f1.f3)) || (!(((rd_T94 l0 x5_1).f1.f4) == ((rd_T94 l1 x5_1).f1.f4))))))))) = true
              · rw [if_pos c7] at H
                have c7b0 : (!((((rd_T94 l0 x5_1).f0).toList) == (((rd_T94 l1 x5_1).f0).toList)) || ((!(((rd_T94 l0 x5_1).f1.f0) == ((rd_T94 l1 x5_1).f1.f0)) || (!(((rd_T94 l0 x5_1).f1.f1) == ((rd_T94 l1 x5_1).f1.f1)) || (!(((rd_T94 l0 x5_1).f1.f2) == ((rd_T94 l1 x5_1).f1.f2)) || (!(((rd_T94 l0 x5_1).f1.f3) == ((rd_T94 l1 x5_1).f1.f3)) || (!(((rd_T94 l0 x5_1).f1.f4) == ((rd_T94 l1 x5_1).f1.f4))))))))) = true := c7
                clear c7
                obtain rfl := Option.some.inj H
                have p115 : 0 ≤ (x5_1 : Int) := of_decide_eq_true (by first | (with_reducible assumption) | assumption)
                have q115 : x5_1 < (l0.length : Int) := of_decide_eq_true (by first | (with_reducible assumption) | assumption)
                obtain ⟨ad115, e115, hx115_0, hx115_1, hx115_2, hx115_3, hx115_4, hx115_5⟩ := at_T94 HR0.out x5_1 p115 q115
                cases e115
                replace p115 := eq_true p115
                replace q115 := eq_true q115
                have p116 : 0 ≤ (x5_1 : Int) := of_decide_eq_true (by first | (with_reducible assumption) | assumption)
                have q116 : x5_1 < (l1.length : Int) := of_decide_eq_true (by first | (with_reducible assumption) | assumption)
                obtain ⟨ad116, e116, hx116_0, hx116_1, hx116_2, hx116_3, hx116_4, hx116_5⟩ := at_T94 HR1.out x5_1 p116 q116
                cases e116
                replace p116 := eq_true p116
                replace q116 := eq_true q116
                go_wp2
                repeat (go_quiet (fail); try go_wp2)
                go_ret
                exact ⟨by first | rfl | (simp; done) | (simp [*]; done), by repeat (first | exact Drawn0.refl _ | apply Drawn0.step)⟩
              · rw [if_neg c7] at H
                have c7b0 : (!((((rd_T94 l0 x5_1).f0).toList) == (((rd_T94 l1 x5_1).f0).toList)) || ((!(((rd_T94 l0 x5_1).f1.f0) == ((rd_T94 l1 x5_1).f1.f0)) || (!(((rd_T94 l0 x5_1).f1.f1) == ((rd_T94 l1 x5_1).f1.f1)) || (!(((rd_T94 l0 x5_1).f1.f2) == ((rd_T94 l1 x5_1).f1.f2)) || (!(((rd_T94 l0 x5_1).f1.f3) == ((rd_T94 l1 x5_1).f1.f3)) || (!(((rd_T94 l0 x5_1).f1.f4) == ((rd_T94 l1 x5_1).f1.f4))))))))) = false := by simpa using c7
                clear c7
                have H' := Aside0.mk H
                clear H
                have p115 : 0 ≤ (x5_1 : Int) := of_decide_eq_true (by first | (with_reducible assumption) | assumption)
                have q115 : x5_1 < (l0.length : Int) := of_decide_eq_true (by first | (with_reducible assumption) | assumption)
                obtain ⟨ad115, e115, hx115_0, hx115_1, hx115_2, hx115_3, hx115_4, hx115_5⟩ := at_T94 HR0.out x5_1 p115 q115
                cases e115
                replace p115 := eq_true p115
                replace q115 := eq_true q115
                have p116 : 0 ≤ (x5_1 : Int) := of_decide_eq_true (by first | (with_reducible assumption) | assumption)
                have q116 : x5_1 < (l1.length : Int) := of_decide_eq_true (by first | (with_reducible assumption) | assumption)
                obtain ⟨ad116, e116, hx116_0, hx116_1, hx116_2, hx116_3, hx116_4, hx116_5⟩ := at_T94 HR1.out x5_1 p116 q116
                cases e116
                replace p116 := eq_true p116
                replace q116 := eq_true q116
                go_wp2
                repeat (go_quiet (fail); try go_wp2)
                go_roundg k1
                case measure => have := HK1.out; omega
                case rel => exact ⟨(wrap64 (x5_1 + 1)), (by first | rfl | (simp; done) | (simp [*]; done)), H', ⟨by have := HK1.out; omega⟩, by repeat (first | exact Drawn0.refl _ | apply Drawn0.step)⟩
            · rw [if_neg c6] at H
              exact absurd H (by simp)
          · rw [if_neg c5] at H
            exact absurd H (by simp)
        · rw [if_neg c4] at H
          have c4b0 : decide (x5_1 < (l0.length : Int)) = false := decide_eq_false c4
          clear c4
          obtain rfl := Option.some.inj H
          go_wp2
          repeat (go_quiet (fail); try go_wp2)
          go_ret
          exact ⟨by first | rfl | (simp; done) | (simp [*]; done), by repeat (first | exact Drawn0.refl _ | apply Drawn0.step)⟩
  · rw [if_neg c3] at H
    have c3b0 : ((l0.length : Int) == (l1.length : Int)) = false := beq_eq_false_iff_ne.mpr c3
    have c3b1 : ((l0.length : Int) != (l1.length : Int)) = true := bne_iff_ne.mpr c3
    have c3b2 : (l0.length == l1.length) = false := by first | simpa using c3 | (simp at c3 ⊢; omega)
    obtain rfl := Option.some.inj H
    go_enter Try.func47, Try.ntmps47
    go_wp2
    repeat (go_quiet (fail); try go_wp2)
    go_ret
    exact ⟨by first | rfl | (simp; done) | (simp [*]; done), by repeat (first | exact Drawn0.refl _ | apply Drawn0.step)⟩

end Go.Proofs.Ytfnpiclioikjpaa.X

/- Functions of the seat as Lean functions, and that the calls come to them: written by this session's own program xprint.py over the kit's printer. -/
namespace Go.Proofs.Ytfnpiclioikjpaa.X
open Go.RowKit Go.Proofs.YtfnpiclioikjpaaW.PrintWords Go.Proofs.YtfnpiclioikjpaaW.PrintLast Go.Proofs.YtfnpiclioikjpaaW.PrintMore
attribute [local go_sem] max2_int min2_int max_two min_two max_three min_three max_four min_four   -- for this text's walks alone
set_option linter.unusedVariables false
set_option linter.unusedSimpArgs false

attribute [local go_sem high] eqA94
/-! ### api_Account: function 71 -/
def api_Account.l0 : Nat → List (S94) → List (S94) → Int → Int → Option (Bool)
  | 0, _, _, _, _ => none
  | k + 1, x0, x1, x12, x13 => if x13 < x12 then (if 0 ≤ x13 then (if x13 < (x0.length : Int) then (if x13 < (x1.length : Int) then (if (!((((rd_T94 x0 x13).f0).toList) == (((rd_T94 x1 x13).f0).toList)) || ((!(((rd_T94 x0 x13).f1.f0) == ((rd_T94 x1 x13).f1.f0)) || (!(((rd_T94 x0 x13).f1.f1) == ((rd_T94 x1 x13).f1.f1)) || (!(((rd_T94 x0 x13).f1.f2) == ((rd_T94 x1 x13).f1.f2)) || (!(((rd_T94 x0 x13).f1.f3) == ((rd_T94 x1 x13).f1.f3)) || (!(((rd_T94 x0 x13).f1.f4) == ((rd_T94 x1 x13).f1.f4))))))))) = true then (some false) else (api_Account.l0 k x0 x1 x12 (wrap64 (x13 + 1)))) else (none)) else (none)) else (none)) else (some true)
def api_Account.f (k : Nat) (l0 : List (S94)) (l1 : List (S94)) : Option (Bool) := if (l0.length : Int) = (l1.length : Int) then (api_Account.l0 k l0 l1 (l0.length : Int) 0) else (some false)
theorem api_Account.mono_l : ∀ k, (∀ y0 y1 y2 y3, LeO (api_Account.l0 k y0 y1 y2 y3) (api_Account.l0 (k + 1) y0 y1 y2 y3))
  | 0 => fun _ _ _ _ r h => by simp [api_Account.l0] at h
  | k + 1 => by
    have ih0 := api_Account.mono_l k
    · intro y0 y1 y2 y3
      unfold api_Account.l0
      repeat' first
      | (with_reducible exact ih0 _ _ _ _)
      | (with_reducible exact LeO.refl _)
      | (with_reducible exact LeO.none _)
      | (with_reducible refine LeO.ite ?_ ?_)
      | (with_reducible refine LeO.bind ?_ (fun _ => ?_))
      | exact ih0 _ _ _ _
      | exact LeO.none _
      | refine LeO.ite ?_ ?_
      | refine LeO.bind ?_ (fun _ => ?_)
theorem api_Account.mono : ∀ a0 a1 k, LeO (api_Account.f k a0 a1) (api_Account.f (k + 1) a0 a1) := by
  intro a0 a1 k
  have ih0 := api_Account.mono_l k
  unfold api_Account.f
  repeat' first
      | (with_reducible exact ih0 _ _ _ _)
      | (with_reducible exact LeO.refl _)
      | (with_reducible exact LeO.none _)
      | (with_reducible refine LeO.ite ?_ ?_)
      | (with_reducible refine LeO.bind ?_ (fun _ => ?_))
      | exact ih0 _ _ _ _
      | exact LeO.none _
      | refine LeO.ite ?_ ?_
      | refine LeO.bind ?_ (fun _ => ?_)
set_option maxHeartbeats 8000000 in
set_option maxRecDepth 100000 in
theorem api_Account.calls (k : Nat) (A0 : Option Addr) (c0 : Nat) (l0 : List (S94)) (A1 : Option Addr) (c1 : Nat) (l1 : List (S94)) (r : Bool) (w : World) (hr0 : Kd.C k94 w A0 l0.length l0) (hc0 : l0.length ≤ c0) (hr1 : Kd.C k94 w A1 l1.length l1) (hc1 : l1.length ≤ c1) (h : api_Account.f k l0 l1 = some r) :
    Calls Try.prog 71 #[.slice A0 l0.length c0, .slice A1 l1.length c1] w fun e w' => e = .returned (.bool r) ∧ Drawn0 w w' := by
  have hu94 := Try.underlying94
  have HR0 := Aside0.mk hr0
  have HC0 := Aside0.mk hc0
  clear hr0 hc0
  have HR1 := Aside0.mk hr1
  have HC1 := Aside0.mk hc1
  clear hr1 hc1
  have H : (if (l0.length : Int) = (l1.length : Int) then (api_Account.l0 k l0 l1 (l0.length : Int) 0) else (some false)) = some r := h
  clear h
  by_cases c3 : (l0.length : Int) = (l1.length : Int)
  · rw [if_pos c3] at H
    have c3b0 : ((l0.length : Int) == (l1.length : Int)) = true := beq_iff_eq.mpr c3
    have c3b1 : ((l0.length : Int) != (l1.length : Int)) = false := bne_eq_false_iff_eq.mpr c3
    have c3b2 : (l0.length == l1.length) = true := by first | simpa using c3 | (simp at c3 ⊢; omega)
    clear c3
    have H' := Aside0.mk H
    clear H
    go_enter Try.func71, Try.ntmps71
    go_wp2
    repeat (go_quiet (fail); try go_wp2)
    go_loopg [13] k (fun kq v13 w' => ∃ (x13_1 : Int), v13 = .int .i64 x13_1 ∧ Aside0 (api_Account.l0 kq l0 l1 (l0.length : Int) x13_1 = some r) ∧ Aside0 (kq ≤ k) ∧ Drawn0 w w')
    case atStart => exact ⟨(0), (by first | rfl | (simp; done) | (simp [*]; done)), H', ⟨Nat.le_refl _⟩, by repeat (first | exact Drawn0.refl _ | apply Drawn0.step)⟩
    case round =>
      clear H'
      try clear c1
      try clear p2
      try clear c3
      try clear c3b0
      try clear c3b1
      try clear c3b2
      obtain ⟨x13_1, rfl, HA, HK1, ⟨m1, rfl⟩⟩ := hrel
      cases gk with
      | zero => exact absurd HA.out (by simp [api_Account.l0])
      | succ k1 =>
        have H := HA.out
        clear HA
        simp only [api_Account.l0] at H
        by_cases c4 : x13_1 < (l0.length : Int)
        · rw [if_pos c4] at H
          have c4b0 : decide (x13_1 < (l0.length : Int)) = true := decide_eq_true c4
          clear c4
          by_cases c5 : 0 ≤ x13_1
          · rw [if_pos c5] at H
            have c5b0 : decide (0 ≤ x13_1) = true := decide_eq_true c5
            clear c5
            by_cases c6 : x13_1 < (l0.length : Int)
            · rw [if_pos c6] at H
              have c6b0 : decide (x13_1 < (l0.length : Int)) = true := decide_eq_true c6
              clear c6
              by_cases c7 : x13_1 < (l1.length : Int)
              · rw [if_pos c7] at H
                have c7b0 : decide (x13_1 < (l1.length : Int)) = true := decide_eq_true c7
                clear c7
                by_cases c8 : (!((((rd_T94 l0 x13_1).f0).toList) == (((rd_T94 l1 x13_1).f0).toList)) || ((!(((rd_T94 l0 x13_1).f1.f0) == ((rd_T94 l1 x13_1).f1.f0)) || (!(((rd_T94 l0 x13_1).f1.f1) == ((rd_T94 l1 x13_1).f1.f1)) || (!(((rd_T94 l0 x13_1).f1.f2) == ((rd_T94 l1 x13_1).f1.f2)) || (!(((rd_T94 l0 x13_1).f1.f3) == ((rd_T94 l1 x13_1).f1.f3)) || (!(((rd_T94 l0 x13_1).f1.f4) == ((rd_T94 l1 x13_1).f1.f4))))))))) = true
                · rw [if_pos c8] at H
                  have c8b0 : (!((((rd_T94 l0 x13_1).f0).toList) == (((rd_T94 l1 x13_1).f0).toList)) || ((!(((rd_T94 l0 x13_1).f1.f0) == ((rd_T94 l1 x13_1).f1.f0)) || (!(((rd_T94 l0 x13_1).f1.f1) == ((rd_T94 l1 x13_1).f1.f1)) || (!(((rd_T94 l0 x13_1).f1.f2) == ((rd_T94 l1 x13_1).f1.f2)) || (!(((rd_T94 l0 x13_1).f1.f3) == ((rd_T94 l1 x13_1).f1.f3)) || (!(((rd_T94 l0 x13_1).f1.f4) == ((rd_T94 l1 x13_1).f1.f4))))))))) = true := c8
                  clear c8
                  obtain rfl := Option.some.inj H
                  have p162 : 0 ≤ (x13_1 : Int) := of_decide_eq_true (by first | (with_reducible assumption) | assumption)
                  have q162 : x13_1 < (l0.length : Int) := of_decide_eq_true (by first | (with_reducible assumption) | assumption)
                  obtain ⟨ad162, e162, hx162_0, hx162_1, hx162_2, hx162_3, hx162_4, hx162_5⟩ := at_T94 HR0.out x13_1 p162 q162
                  cases e162
                  replace p162 := eq_true p162
                  replace q162 := eq_true q162
                  have p163 : 0 ≤ (x13_1 : Int) := of_decide_eq_true (by first | (with_reducible assumption) | assumption)
                  have q163 : x13_1 < (l1.length : Int) := of_decide_eq_true (by first | (with_reducible assumption) | assumption)
                  obtain ⟨ad163, e163, hx163_0, hx163_1, hx163_2, hx163_3, hx163_4, hx163_5⟩ := at_T94 HR1.out x13_1 p163 q163
                  cases e163
                  replace p163 := eq_true p163
                  replace q163 := eq_true q163
                  go_wp2
                  repeat (go_quiet (fail); try go_wp2)
                  go_ret
                  exact ⟨by first | rfl | (simp; done) | (simp [*]; done), by repeat (first | exact Drawn0.refl _ | apply Drawn0.step)⟩
                · rw [if_neg c8] at H
                  have c8b0 : (!((((rd_T94 l0 x13_1).f0).toList) == (((rd_T94 l1 x13_1).f0).toList)) || ((!(((rd_T94 l0 x13_1).f1.f0) == ((rd_T94 l1 x13_1).f1.f0)) || (!(((rd_T94 l0 x13_1).f1.f1) == ((rd_T94 l1 x13_1).f1.f1)) || (!(((rd_T94 l0 x13_1).f1.f2) == ((rd_T94 l1 x13_1).f1.f2)) || (!(((rd_T94 l0 x13_1).f1.f3) == ((rd_T94 l1 x13_1).f1.f3)) || (!(((rd_T94 l0 x13_1).f1.f4) == ((rd_T94 l1 x13_1).f1.f4))))))))) = false := by simpa using c8
                  clear c8
                  have H' := Aside0.mk H
                  clear H
                  have p162 : 0 ≤ (x13_1 : Int) := of_decide_eq_true (by first | (with_reducible assumption) | assumption)
                  have q162 : x13_1 < (l0.length : Int) := of_decide_eq_true (by first | (with_reducible assumption) | assumption)
                  obtain ⟨ad162, e162, hx162_0, hx162_1, hx162_2, hx162_3, hx162_4, hx162_5⟩ := at_T94 HR0.out x13_1 p162 q162
                  cases e162
                  replace p162 := eq_true p162
                  replace q162 := eq_true q162
                  have p163 : 0 ≤ (x13_1 : Int) := of_decide_eq_true (by first | (with_reducible assumption) | assumption)
                  have q163 : x13_1 < (l1.length : Int) := of_decide_eq_true (by first | (with_reducible assumption) | assumption)
                  obtain ⟨ad163, e163, hx163_0, hx163_1, hx163_2, hx163_3, hx163_4, hx163_5⟩ := at_T94 HR1.out x13_1 p163 q163
                  cases e163
                  replace p163 := eq_true p163
                  replace q163 := eq_true q163
                  go_wp2
                  repeat (go_quiet (fail); try go_wp2)
                  go_roundg k1
                  case measure => have := HK1.out; omega
                  case rel => exact ⟨(wrap64 (x13_1 + 1)), (by first | rfl | (simp; done) | (simp [*]; done)), H', ⟨by have := HK1.out; omega⟩, by repeat (first | exact Drawn0.refl _ | apply Drawn0.step)⟩
              · rw [if_neg c7] at H
                exact absurd H (by simp)
            · rw [if_neg c6] at H
              exact absurd H (by simp)
          · rw [if_neg c5] at H
            exact absurd H (by simp)
        · rw [if_neg c4] at H
          have c4b0 : decide (x13_1 < (l0.length : Int)) = false := decide_eq_false c4
          clear c4
          obtain rfl := Option.some.inj H
          go_wp2
          repeat (go_quiet (fail); try go_wp2)
          go_ret
          exact ⟨by first | rfl | (simp; done) | (simp [*]; done), by repeat (first | exact Drawn0.refl _ | apply Drawn0.step)⟩
  · rw [if_neg c3] at H
    have c3b0 : ((l0.length : Int) == (l1.length : Int)) = false := beq_eq_false_iff_ne.mpr c3
    have c3b1 : ((l0.length : Int) != (l1.length : Int)) = true := bne_iff_ne.mpr c3
    have c3b2 : (l0.length == l1.length) = false := by first | simpa using c3 | (simp at c3 ⊢; omega)
    obtain rfl := Option.some.inj H
    go_enter Try.func71, Try.ntmps71
    go_wp2
    repeat (go_quiet (fail); try go_wp2)
    go_ret
    exact ⟨by first | rfl | (simp; done) | (simp [*]; done), by repeat (first | exact Drawn0.refl _ | apply Drawn0.step)⟩

end Go.Proofs.Ytfnpiclioikjpaa.X

/- Functions of the seat as Lean functions, and that the calls come to them: written by this session's own program xprint.py over the kit's printer. -/
namespace Go.Proofs.Ytfnpiclioikjpaa.X
open Go.RowKit Go.Proofs.YtfnpiclioikjpaaW.PrintWords Go.Proofs.YtfnpiclioikjpaaW.PrintLast Go.Proofs.YtfnpiclioikjpaaW.PrintMore
attribute [local go_sem] max2_int min2_int max_two min_two max_three min_three max_four min_four   -- for this text's walks alone
set_option linter.unusedVariables false
set_option linter.unusedSimpArgs false

/-! ### escrow_Same: function 54 -/
def escrow_Same.f (k : Nat) (l0 : List (S94)) (l1 : List (S94)) : Option (Bool) := (api_Account.f k l0 l1).bind fun t164 => (some t164)
theorem escrow_Same.mono : ∀ a0 a1 k, LeO (escrow_Same.f k a0 a1) (escrow_Same.f (k + 1) a0 a1) := by
  intro a0 a1 k
  unfold escrow_Same.f
  repeat' first
      | (with_reducible exact api_Account.mono _ _ _)
      | (with_reducible exact LeO.refl _)
      | (with_reducible exact LeO.none _)
      | (with_reducible refine LeO.ite ?_ ?_)
      | (with_reducible refine LeO.bind ?_ (fun _ => ?_))
      | exact api_Account.mono _ _ _
      | exact LeO.none _
      | refine LeO.ite ?_ ?_
      | refine LeO.bind ?_ (fun _ => ?_)
set_option maxHeartbeats 8000000 in
set_option maxRecDepth 100000 in
theorem escrow_Same.calls (k : Nat) (A0 : Option Addr) (c0 : Nat) (l0 : List (S94)) (A1 : Option Addr) (c1 : Nat) (l1 : List (S94)) (r : Bool) (w : World) (hr0 : Kd.C k94 w A0 l0.length l0) (hc0 : l0.length ≤ c0) (hr1 : Kd.C k94 w A1 l1.length l1) (hc1 : l1.length ≤ c1) (h : escrow_Same.f k l0 l1 = some r) :
    Calls Try.prog 54 #[.slice A0 l0.length c0, .slice A1 l1.length c1] w fun e w' => e = .returned (.bool r) ∧ Drawn0 w w' := by
  have HR0 := Aside0.mk hr0
  have HC0 := Aside0.mk hc0
  clear hr0 hc0
  have HR1 := Aside0.mk hr1
  have HC1 := Aside0.mk hc1
  clear hr1 hc1
  have H : ((api_Account.f k l0 l1).bind fun t164 => (some t164)) = some r := h
  clear h
  replace H := Option.bind_eq_some_iff.mp H
  obtain ⟨t164, A30, H⟩ := H
  replace H : (some t164) = some r := H
  have A3 := Aside0.mk A30
  clear A30
  obtain rfl := Option.some.inj H
  go_enter Try.func54, Try.ntmps54
  go_wp2_with (first | ((with_reducible refine gate_callee (f := 71) rfl ?_); refine goesL_ (some 7) rfl rfl Try.func71 (by kernel_rfl) rfl #[.slice A0 l0.length c0, .slice A1 l1.length c1] rfl (by (try simp only [List.map_toArray, List.map_cons, List.map_nil]); first | done | rfl | (simp only [List.length_drop, List.length_take]; rfl)) ?_; (with_reducible refine (api_Account.calls k _ _ l0 _ _ l1 t164 _ ?side1 ?side2 ?side3 ?side4 A3.out).mono ?_); (case side1 => repeat (first | exact HR0.out | (with_reducible refine Kd.C_alloc ?_ _) | (with_reducible refine Kd.C_drewN ?_ _) | (with_reducible refine Kd.C_drew ?_))); (case side2 => exact HC0.out); (case side3 => repeat (first | exact HR1.out | (with_reducible refine Kd.C_alloc ?_ _) | (with_reducible refine Kd.C_drewN ?_ _) | (with_reducible refine Kd.C_drew ?_))); (case side4 => exact HC1.out); rintro e w' ⟨rfl, ⟨nd, rfl⟩⟩; refine ⟨_, rfl, ?_⟩))
  go_ret
  exact ⟨by first | rfl | (simp; done) | (simp [*]; done), by repeat (first | exact Drawn0.refl _ | apply Drawn0.step)⟩

end Go.Proofs.Ytfnpiclioikjpaa.X

/- Functions of the seat as Lean functions, and that the calls come to them: written by this session's own program xprint.py over the kit's printer. -/
namespace Go.Proofs.Ytfnpiclioikjpaa.X
open Go.RowKit Go.Proofs.YtfnpiclioikjpaaW.PrintWords Go.Proofs.YtfnpiclioikjpaaW.PrintLast Go.Proofs.YtfnpiclioikjpaaW.PrintMore
attribute [local go_sem] max2_int min2_int max_two min_two max_three min_three max_four min_four   -- for this text's walks alone
set_option linter.unusedVariables false
set_option linter.unusedSimpArgs false

/-! ### escrow_May: function 49 -/
def escrow_May.j0 : Nat → List (S94) → ByteArray → Int → Int → Int → Bool → Option (Int)
  | 0, _, _, _, _, _, _ => none
  | k + 1, x0, x1, x2, x3, x4, x11 => if x11 = true then (some 1) else ((escrow_Rights.f x0 x1 x2 x3).bind fun t106 => (if t106 < x4 then (some 5) else (some 0)))
def escrow_May.f (k : Nat) (l0 : List (S94)) (a1 : ByteArray) (a2 : Int) (a3 : Int) (a4 : Int) : Option (Int) := (escrow_Check.f l0).bind fun t102 => (if t102 = 0 then ((escrow_right.f a1).bind fun t103 => (if t103 = true then ((escrow_there.f a2).bind fun t104 => (if t104 = true then ((escrow_low.f a3).bind fun t105 => (if t105 = true then (if a4 < 1 then (escrow_May.j0 k l0 a1 a2 a3 a4 (decide (a4 < 1))) else (escrow_May.j0 k l0 a1 a2 a3 a4 (decide (a4 > 1000)))) else (escrow_May.j0 k l0 a1 a2 a3 a4 (!t105)))) else (escrow_May.j0 k l0 a1 a2 a3 a4 (!t104)))) else (escrow_May.j0 k l0 a1 a2 a3 a4 (!t103)))) else (escrow_May.j0 k l0 a1 a2 a3 a4 (t102 != 0)))
theorem escrow_May.mono_l : ∀ k, (∀ y0 y1 y2 y3 y4 y5, LeO (escrow_May.j0 k y0 y1 y2 y3 y4 y5) (escrow_May.j0 (k + 1) y0 y1 y2 y3 y4 y5))
  | 0 => fun _ _ _ _ _ _ r h => by simp [escrow_May.j0] at h
  | k + 1 => by
    have ih0 := escrow_May.mono_l k
    · intro y0 y1 y2 y3 y4 y5
      unfold escrow_May.j0
      repeat' first
      | (with_reducible exact ih0 _ _ _ _ _ _)
      | (with_reducible exact LeO.refl _)
      | (with_reducible exact LeO.none _)
      | (with_reducible refine LeO.ite ?_ ?_)
      | (with_reducible refine LeO.bind ?_ (fun _ => ?_))
      | exact ih0 _ _ _ _ _ _
      | exact LeO.none _
      | refine LeO.ite ?_ ?_
      | refine LeO.bind ?_ (fun _ => ?_)
theorem escrow_May.mono : ∀ a0 a1 a2 a3 a4 k, LeO (escrow_May.f k a0 a1 a2 a3 a4) (escrow_May.f (k + 1) a0 a1 a2 a3 a4) := by
  intro a0 a1 a2 a3 a4 k
  have ih0 := escrow_May.mono_l k
  unfold escrow_May.f
  repeat' first
      | (with_reducible exact ih0 _ _ _ _ _ _)
      | (with_reducible exact LeO.refl _)
      | (with_reducible exact LeO.none _)
      | (with_reducible refine LeO.ite ?_ ?_)
      | (with_reducible refine LeO.bind ?_ (fun _ => ?_))
      | exact ih0 _ _ _ _ _ _
      | exact LeO.none _
      | refine LeO.ite ?_ ?_
      | refine LeO.bind ?_ (fun _ => ?_)
set_option maxHeartbeats 8000000 in
set_option maxRecDepth 100000 in
theorem escrow_May.calls (k : Nat) (A0 : Option Addr) (c0 : Nat) (l0 : List (S94)) (a1 : ByteArray) (a2 : Int) (a3 : Int) (a4 : Int) (r : Int) (w : World) (hr0 : Kd.C k94 w A0 l0.length l0) (hc0 : l0.length ≤ c0) (h : escrow_May.f k l0 a1 a2 a3 a4 = some r) :
    Calls Try.prog 49 #[.slice A0 l0.length c0, .string a1, .int .i64 a2, .int .i64 a3, .int .i64 a4] w fun e w' => e = .returned (.int .i64 r) ∧ Below w.heap.size w w' := by
  have HR0 := Aside0.mk hr0
  have HC0 := Aside0.mk hc0
  clear hr0 hc0
  have HB := Aside0.mk (Below.refl w.heap.size w)
  have H : ((escrow_Check.f l0).bind fun t102 => (if t102 = 0 then ((escrow_right.f a1).bind fun t103 => (if t103 = true then ((escrow_there.f a2).bind fun t104 => (if t104 = true then ((escrow_low.f a3).bind fun t105 => (if t105 = true then (if a4 < 1 then (escrow_May.j0 k l0 a1 a2 a3 a4 (decide (a4 < 1))) else (escrow_May.j0 k l0 a1 a2 a3 a4 (decide (a4 > 1000)))) else (escrow_May.j0 k l0 a1 a2 a3 a4 (!t105)))) else (escrow_May.j0 k l0 a1 a2 a3 a4 (!t104)))) else (escrow_May.j0 k l0 a1 a2 a3 a4 (!t103)))) else (escrow_May.j0 k l0 a1 a2 a3 a4 (t102 != 0)))) = some r := h
  clear h
  replace H := Option.bind_eq_some_iff.mp H
  obtain ⟨t102, A60, H⟩ := H
  replace H : (if t102 = 0 then ((escrow_right.f a1).bind fun t103 => (if t103 = true then ((escrow_there.f a2).bind fun t104 => (if t104 = true then ((escrow_low.f a3).bind fun t105 => (if t105 = true then (if a4 < 1 then (escrow_May.j0 k l0 a1 a2 a3 a4 (decide (a4 < 1))) else (escrow_May.j0 k l0 a1 a2 a3 a4 (decide (a4 > 1000)))) else (escrow_May.j0 k l0 a1 a2 a3 a4 (!t105)))) else (escrow_May.j0 k l0 a1 a2 a3 a4 (!t104)))) else (escrow_May.j0 k l0 a1 a2 a3 a4 (!t103)))) else (escrow_May.j0 k l0 a1 a2 a3 a4 (t102 != 0))) = some r := H
  have A6 := Aside0.mk A60
  clear A60
  have HC7 := Aside0.mk H
  clear H
  go_enter Try.func49, Try.ntmps49
  go_upto_if 11 with (first | ((with_reducible refine gate_callee (f := 45) rfl ?_); refine goesL_ (some 13) rfl rfl Try.func45 (by kernel_rfl) rfl #[.slice A0 l0.length c0] rfl (by (try simp only [List.map_toArray, List.map_cons, List.map_nil]); first | done | rfl | (simp only [List.length_drop, List.length_take]; rfl)) ?_; (with_reducible refine (escrow_Check.calls _ _ l0 t102 _ ?side1 ?side2 A6.out).mono ?_); (case side1 => repeat (first | exact HR0.out | (with_reducible refine Kd.C_alloc ?_ _) | (with_reducible refine Kd.C_drewN ?_ _) | (with_reducible refine Kd.C_drew ?_))); (case side2 => exact HC0.out); rintro e w8 ⟨rfl, hb⟩; refine ⟨_, rfl, ?_⟩; have n0_ := Aside0.mk (below_step (by repeat (first | (with_reducible first | exact HB.out | apply below_alloc | apply pw_below_drewN | apply below_drew1) | exact HB.out)) hb); clear HB; have HB := n0_; clear n0_; (try clear hb); (try clear hb2); (try clear hk); (try clear hi)))
  (try simp only [Act.put, List.setIfInBounds_toArray, List.set_cons_zero, List.set_cons_succ])
  go_cut [11] (fun v11 wc => ∃ (kq : Nat) (x11_6 : Bool), v11 = .bool x11_6 ∧ Aside0 (escrow_May.j0 kq l0 a1 a2 a3 a4 x11_6 = some r) ∧ Aside0 (kq ≤ k) ∧ Aside0 (Below w.heap.size w wc))
  case first =>
    have H := HC7.out
    clear HC7
    by_cases c9 : t102 = 0
    · rw [if_pos c9] at H
      have c9b0 : (t102 == 0) = true := beq_iff_eq.mpr c9
      have c9b1 : (t102 != 0) = false := bne_eq_false_iff_eq.mpr c9
      clear c9
      (first | rw [c9b0] | (simp only [i64_w, i32_w]; rw [c9b0]) | skip)
      replace H := Option.bind_eq_some_iff.mp H
      obtain ⟨t103, A100, H⟩ := H
      replace H : (if t103 = true then ((escrow_there.f a2).bind fun t104 => (if t104 = true then ((escrow_low.f a3).bind fun t105 => (if t105 = true then (if a4 < 1 then (escrow_May.j0 k l0 a1 a2 a3 a4 (decide (a4 < 1))) else (escrow_May.j0 k l0 a1 a2 a3 a4 (decide (a4 > 1000)))) else (escrow_May.j0 k l0 a1 a2 a3 a4 (!t105)))) else (escrow_May.j0 k l0 a1 a2 a3 a4 (!t104)))) else (escrow_May.j0 k l0 a1 a2 a3 a4 (!t103))) = some r := H
      have A10 := Aside0.mk A100
      clear A100
      by_cases c11 : t103 = true
      · subst c11
        have H1 : ((escrow_there.f a2).bind fun t104 => (if t104 = true then ((escrow_low.f a3).bind fun t105 => (if t105 = true then (if a4 < 1 then (escrow_May.j0 k l0 a1 a2 a3 a4 (decide (a4 < 1))) else (escrow_May.j0 k l0 a1 a2 a3 a4 (decide (a4 > 1000)))) else (escrow_May.j0 k l0 a1 a2 a3 a4 (!t105)))) else (escrow_May.j0 k l0 a1 a2 a3 a4 (!t104)))) = some r := by rw [if_pos rfl] at H; exact H
        clear H
        have H := H1
        clear H1
        replace H := Option.bind_eq_some_iff.mp H
        obtain ⟨t104, A120, H⟩ := H
        replace H : (if t104 = true then ((escrow_low.f a3).bind fun t105 => (if t105 = true then (if a4 < 1 then (escrow_May.j0 k l0 a1 a2 a3 a4 (decide (a4 < 1))) else (escrow_May.j0 k l0 a1 a2 a3 a4 (decide (a4 > 1000)))) else (escrow_May.j0 k l0 a1 a2 a3 a4 (!t105)))) else (escrow_May.j0 k l0 a1 a2 a3 a4 (!t104))) = some r := H
        have A12 := Aside0.mk A120
        clear A120
        by_cases c13 : t104 = true
        · subst c13
          have H1 : ((escrow_low.f a3).bind fun t105 => (if t105 = true then (if a4 < 1 then (escrow_May.j0 k l0 a1 a2 a3 a4 (decide (a4 < 1))) else (escrow_May.j0 k l0 a1 a2 a3 a4 (decide (a4 > 1000)))) else (escrow_May.j0 k l0 a1 a2 a3 a4 (!t105)))) = some r := by rw [if_pos rfl] at H; exact H
          clear H
          have H := H1
          clear H1
          replace H := Option.bind_eq_some_iff.mp H
          obtain ⟨t105, A140, H⟩ := H
          replace H : (if t105 = true then (if a4 < 1 then (escrow_May.j0 k l0 a1 a2 a3 a4 (decide (a4 < 1))) else (escrow_May.j0 k l0 a1 a2 a3 a4 (decide (a4 > 1000)))) else (escrow_May.j0 k l0 a1 a2 a3 a4 (!t105))) = some r := H
          have A14 := Aside0.mk A140
          clear A140
          by_cases c15 : t105 = true
          · subst c15
            have H1 : (if a4 < 1 then (escrow_May.j0 k l0 a1 a2 a3 a4 (decide (a4 < 1))) else (escrow_May.j0 k l0 a1 a2 a3 a4 (decide (a4 > 1000)))) = some r := by rw [if_pos rfl] at H; exact H
            clear H
            have H := H1
            clear H1
            by_cases c16 : a4 < 1
            · rw [if_pos c16] at H
              have c16b0 : decide (a4 < 1) = true := decide_eq_true c16
              clear c16
              have H' := Aside0.mk H
              clear H
              go_wp2_with (first | ((with_reducible refine gate_callee (f := 65) rfl ?_); refine goesL_ (some 16) rfl rfl Try.func65 (by kernel_rfl) rfl #[.string a1] rfl (by (try simp only [List.map_toArray, List.map_cons, List.map_nil]); first | done | rfl | (simp only [List.length_drop, List.length_take]; rfl)) ?_; (with_reducible refine (escrow_right.calls a1 true _ A10.out).mono ?_); rintro e w' ⟨rfl, ⟨nd, rfl⟩⟩; refine ⟨_, rfl, ?_⟩) | ((with_reducible refine gate_callee (f := 66) rfl ?_); refine goesL_ (some 19) rfl rfl Try.func66 (by kernel_rfl) rfl #[.int .i64 a2] rfl (by (try simp only [List.map_toArray, List.map_cons, List.map_nil]); first | done | rfl | (simp only [List.length_drop, List.length_take]; rfl)) ?_; (with_reducible refine (escrow_there.calls a2 true _ A12.out).mono ?_); rintro e w' ⟨rfl, ⟨nd, rfl⟩⟩; refine ⟨_, rfl, ?_⟩) | ((with_reducible refine gate_callee (f := 70) rfl ?_); refine goesL_ (some 22) rfl rfl Try.func70 (by kernel_rfl) rfl #[.int .i64 a3] rfl (by (try simp only [List.map_toArray, List.map_cons, List.map_nil]); first | done | rfl | (simp only [List.length_drop, List.length_take]; rfl)) ?_; (with_reducible refine (escrow_low.calls a3 true _ A14.out).mono ?_); rintro e w' ⟨rfl, ⟨nd, rfl⟩⟩; refine ⟨_, rfl, ?_⟩))
              go_meet
              case rel => exact ⟨_, (decide (a4 < 1)), (by first | rfl | (simp; done) | (simp [*]; done)), H', ⟨by first | omega | exact Nat.le_refl _⟩, ⟨by repeat (first | (with_reducible first | exact HB.out | apply below_alloc | apply pw_below_drewN | apply below_drew1) | exact HB.out)⟩⟩
            · rw [if_neg c16] at H
              have c16b0 : decide (a4 < 1) = false := decide_eq_false c16
              clear c16
              have H' := Aside0.mk H
              clear H
              go_wp2_with (first | ((with_reducible refine gate_callee (f := 65) rfl ?_); refine goesL_ (some 16) rfl rfl Try.func65 (by kernel_rfl) rfl #[.string a1] rfl (by (try simp only [List.map_toArray, List.map_cons, List.map_nil]); first | done | rfl | (simp only [List.length_drop, List.length_take]; rfl)) ?_; (with_reducible refine (escrow_right.calls a1 true _ A10.out).mono ?_); rintro e w' ⟨rfl, ⟨nd, rfl⟩⟩; refine ⟨_, rfl, ?_⟩) | ((with_reducible refine gate_callee (f := 66) rfl ?_); refine goesL_ (some 19) rfl rfl Try.func66 (by kernel_rfl) rfl #[.int .i64 a2] rfl (by (try simp only [List.map_toArray, List.map_cons, List.map_nil]); first | done | rfl | (simp only [List.length_drop, List.length_take]; rfl)) ?_; (with_reducible refine (escrow_there.calls a2 true _ A12.out).mono ?_); rintro e w' ⟨rfl, ⟨nd, rfl⟩⟩; refine ⟨_, rfl, ?_⟩) | ((with_reducible refine gate_callee (f := 70) rfl ?_); refine goesL_ (some 22) rfl rfl Try.func70 (by kernel_rfl) rfl #[.int .i64 a3] rfl (by (try simp only [List.map_toArray, List.map_cons, List.map_nil]); first | done | rfl | (simp only [List.length_drop, List.length_take]; rfl)) ?_; (with_reducible refine (escrow_low.calls a3 true _ A14.out).mono ?_); rintro e w' ⟨rfl, ⟨nd, rfl⟩⟩; refine ⟨_, rfl, ?_⟩))
              go_meet
              case rel => exact ⟨_, (decide (a4 > 1000)), (by first | rfl | (simp; done) | (simp [*]; done)), H', ⟨by first | omega | exact Nat.le_refl _⟩, ⟨by repeat (first | (with_reducible first | exact HB.out | apply below_alloc | apply pw_below_drewN | apply below_drew1) | exact HB.out)⟩⟩
          · replace c15 := Bool.eq_false_iff.mpr c15
            subst c15
            have H1 : (escrow_May.j0 k l0 a1 a2 a3 a4 (!false)) = some r := by rw [if_neg (show ¬ (false = true) by decide)] at H; exact H
            clear H
            have H := H1
            clear H1
            have H' := Aside0.mk H
            clear H
            go_wp2_with (first | ((with_reducible refine gate_callee (f := 65) rfl ?_); refine goesL_ (some 16) rfl rfl Try.func65 (by kernel_rfl) rfl #[.string a1] rfl (by (try simp only [List.map_toArray, List.map_cons, List.map_nil]); first | done | rfl | (simp only [List.length_drop, List.length_take]; rfl)) ?_; (with_reducible refine (escrow_right.calls a1 true _ A10.out).mono ?_); rintro e w' ⟨rfl, ⟨nd, rfl⟩⟩; refine ⟨_, rfl, ?_⟩) | ((with_reducible refine gate_callee (f := 66) rfl ?_); refine goesL_ (some 19) rfl rfl Try.func66 (by kernel_rfl) rfl #[.int .i64 a2] rfl (by (try simp only [List.map_toArray, List.map_cons, List.map_nil]); first | done | rfl | (simp only [List.length_drop, List.length_take]; rfl)) ?_; (with_reducible refine (escrow_there.calls a2 true _ A12.out).mono ?_); rintro e w' ⟨rfl, ⟨nd, rfl⟩⟩; refine ⟨_, rfl, ?_⟩) | ((with_reducible refine gate_callee (f := 70) rfl ?_); refine goesL_ (some 22) rfl rfl Try.func70 (by kernel_rfl) rfl #[.int .i64 a3] rfl (by (try simp only [List.map_toArray, List.map_cons, List.map_nil]); first | done | rfl | (simp only [List.length_drop, List.length_take]; rfl)) ?_; (with_reducible refine (escrow_low.calls a3 false _ A14.out).mono ?_); rintro e w' ⟨rfl, ⟨nd, rfl⟩⟩; refine ⟨_, rfl, ?_⟩))
            go_meet
            case rel => exact ⟨_, (!false), (by first | rfl | (simp; done) | (simp [*]; done)), H', ⟨by first | omega | exact Nat.le_refl _⟩, ⟨by repeat (first | (with_reducible first | exact HB.out | apply below_alloc | apply pw_below_drewN | apply below_drew1) | exact HB.out)⟩⟩
        · replace c13 := Bool.eq_false_iff.mpr c13
          subst c13
          have H1 : (escrow_May.j0 k l0 a1 a2 a3 a4 (!false)) = some r := by rw [if_neg (show ¬ (false = true) by decide)] at H; exact H
          clear H
          have H := H1
          clear H1
          have H' := Aside0.mk H
          clear H
          go_wp2_with (first | ((with_reducible refine gate_callee (f := 65) rfl ?_); refine goesL_ (some 16) rfl rfl Try.func65 (by kernel_rfl) rfl #[.string a1] rfl (by (try simp only [List.map_toArray, List.map_cons, List.map_nil]); first | done | rfl | (simp only [List.length_drop, List.length_take]; rfl)) ?_; (with_reducible refine (escrow_right.calls a1 true _ A10.out).mono ?_); rintro e w' ⟨rfl, ⟨nd, rfl⟩⟩; refine ⟨_, rfl, ?_⟩) | ((with_reducible refine gate_callee (f := 66) rfl ?_); refine goesL_ (some 19) rfl rfl Try.func66 (by kernel_rfl) rfl #[.int .i64 a2] rfl (by (try simp only [List.map_toArray, List.map_cons, List.map_nil]); first | done | rfl | (simp only [List.length_drop, List.length_take]; rfl)) ?_; (with_reducible refine (escrow_there.calls a2 false _ A12.out).mono ?_); rintro e w' ⟨rfl, ⟨nd, rfl⟩⟩; refine ⟨_, rfl, ?_⟩))
          go_meet
          case rel => exact ⟨_, (!false), (by first | rfl | (simp; done) | (simp [*]; done)), H', ⟨by first | omega | exact Nat.le_refl _⟩, ⟨by repeat (first | (with_reducible first | exact HB.out | apply below_alloc | apply pw_below_drewN | apply below_drew1) | exact HB.out)⟩⟩
      · replace c11 := Bool.eq_false_iff.mpr c11
        subst c11
        have H1 : (escrow_May.j0 k l0 a1 a2 a3 a4 (!false)) = some r := by rw [if_neg (show ¬ (false = true) by decide)] at H; exact H
        clear H
        have H := H1
        clear H1
        have H' := Aside0.mk H
        clear H
        go_wp2_with (first | ((with_reducible refine gate_callee (f := 65) rfl ?_); refine goesL_ (some 16) rfl rfl Try.func65 (by kernel_rfl) rfl #[.string a1] rfl (by (try simp only [List.map_toArray, List.map_cons, List.map_nil]); first | done | rfl | (simp only [List.length_drop, List.length_take]; rfl)) ?_; (with_reducible refine (escrow_right.calls a1 false _ A10.out).mono ?_); rintro e w' ⟨rfl, ⟨nd, rfl⟩⟩; refine ⟨_, rfl, ?_⟩))
        go_meet
        case rel => exact ⟨_, (!false), (by first | rfl | (simp; done) | (simp [*]; done)), H', ⟨by first | omega | exact Nat.le_refl _⟩, ⟨by repeat (first | (with_reducible first | exact HB.out | apply below_alloc | apply pw_below_drewN | apply below_drew1) | exact HB.out)⟩⟩
    · rw [if_neg c9] at H
      have c9b0 : (t102 == 0) = false := beq_eq_false_iff_ne.mpr c9
      have c9b1 : (t102 != 0) = true := bne_iff_ne.mpr c9
      (first | rw [c9b0] | (simp only [i64_w, i32_w]; rw [c9b0]) | skip)
      have H' := Aside0.mk H
      clear H
      go_wp2
      go_meet
      case rel => exact ⟨_, ((t102 != 0)), (by first | rfl | (simp; done) | (simp [*]; done)), H', ⟨by first | omega | exact Nat.le_refl _⟩, ⟨by repeat (first | (with_reducible first | exact HB.out | apply below_alloc | apply pw_below_drewN | apply below_drew1) | exact HB.out)⟩⟩
  case rest =>
    clear HC7
    try clear c1
    try clear p2
    try clear c4
    try clear c6
    try clear c7
    try clear c9
    try clear c9b0
    try clear c9b1
    try clear c11
    try clear c13
    try clear c15
    try clear c16
    try clear c16b0
    obtain ⟨kq, x11_6, rfl, HA, HJ6, HB⟩ := hcut
    cases kq with
    | zero => exact absurd HA.out (by simp [escrow_May.j0])
    | succ kj6 =>
      have H := HA.out
      clear HA
      simp only [escrow_May.j0] at H
      by_cases c17 : x11_6 = true
      · subst c17
        have H1 : (some 1) = some r := by rw [if_pos rfl] at H; exact H
        clear H
        have H := H1
        clear H1
        obtain rfl := Option.some.inj H
        go_wp2
        go_ret
        exact ⟨by first | rfl | (simp [errW_none, errW_some] <;> rfl) | (simp [*, errW_none, errW_some] <;> rfl), by repeat (first | (with_reducible first | exact HB.out | apply below_alloc | apply pw_below_drewN | apply below_drew1) | exact HB.out)⟩
      · replace c17 := Bool.eq_false_iff.mpr c17
        subst c17
        have H1 : ((escrow_Rights.f l0 a1 a2 a3).bind fun t106 => (if t106 < a4 then (some 5) else (some 0))) = some r := by rw [if_neg (show ¬ (false = true) by decide)] at H; exact H
        clear H
        have H := H1
        clear H1
        replace H := Option.bind_eq_some_iff.mp H
        obtain ⟨t106, A180, H⟩ := H
        replace H : (if t106 < a4 then (some 5) else (some 0)) = some r := H
        have A18 := Aside0.mk A180
        clear A180
        by_cases c19 : t106 < a4
        · rw [if_pos c19] at H
          have c19b0 : decide (t106 < a4) = true := decide_eq_true c19
          clear c19
          obtain rfl := Option.some.inj H
          go_wp2_with (first | ((with_reducible refine gate_callee (f := 51) rfl ?_); refine goesL_ (some 33) rfl rfl Try.func51 (by kernel_rfl) rfl #[.slice A0 l0.length c0, .string a1, .int .i64 a2, .int .i64 a3] rfl (by (try simp only [List.map_toArray, List.map_cons, List.map_nil]); first | done | rfl | (simp only [List.length_drop, List.length_take]; rfl)) ?_; (with_reducible refine (escrow_Rights.calls _ _ l0 a1 a2 a3 t106 _ ?side1 ?side2 A18.out).mono ?_); (case side1 => repeat (first | exact (Kd.C_below HR0.out HB.out) | (with_reducible refine Kd.C_alloc ?_ _) | (with_reducible refine Kd.C_drewN ?_ _) | (with_reducible refine Kd.C_drew ?_))); (case side2 => exact HC0.out); rintro e w20 ⟨rfl, hb⟩; refine ⟨_, rfl, ?_⟩; have n0_ := Aside0.mk (below_step (by repeat (first | (with_reducible first | exact HB.out | apply below_alloc | apply pw_below_drewN | apply below_drew1) | exact HB.out)) hb); clear HB; have HB := n0_; clear n0_; (try clear hb); (try clear hb2); (try clear hk); (try clear hi)))
          go_ret
          exact ⟨by first | rfl | (simp [errW_none, errW_some] <;> rfl) | (simp [*, errW_none, errW_some] <;> rfl), by repeat (first | (with_reducible first | exact HB.out | apply below_alloc | apply pw_below_drewN | apply below_drew1) | exact HB.out)⟩
        · rw [if_neg c19] at H
          have c19b0 : decide (t106 < a4) = false := decide_eq_false c19
          clear c19
          obtain rfl := Option.some.inj H
          go_wp2_with (first | ((with_reducible refine gate_callee (f := 51) rfl ?_); refine goesL_ (some 33) rfl rfl Try.func51 (by kernel_rfl) rfl #[.slice A0 l0.length c0, .string a1, .int .i64 a2, .int .i64 a3] rfl (by (try simp only [List.map_toArray, List.map_cons, List.map_nil]); first | done | rfl | (simp only [List.length_drop, List.length_take]; rfl)) ?_; (with_reducible refine (escrow_Rights.calls _ _ l0 a1 a2 a3 t106 _ ?side1 ?side2 A18.out).mono ?_); (case side1 => repeat (first | exact (Kd.C_below HR0.out HB.out) | (with_reducible refine Kd.C_alloc ?_ _) | (with_reducible refine Kd.C_drewN ?_ _) | (with_reducible refine Kd.C_drew ?_))); (case side2 => exact HC0.out); rintro e w21 ⟨rfl, hb⟩; refine ⟨_, rfl, ?_⟩; have n0_ := Aside0.mk (below_step (by repeat (first | (with_reducible first | exact HB.out | apply below_alloc | apply pw_below_drewN | apply below_drew1) | exact HB.out)) hb); clear HB; have HB := n0_; clear n0_; (try clear hb); (try clear hb2); (try clear hk); (try clear hi)))
          go_ret
          exact ⟨by first | rfl | (simp [errW_none, errW_some] <;> rfl) | (simp [*, errW_none, errW_some] <;> rfl), by repeat (first | (with_reducible first | exact HB.out | apply below_alloc | apply pw_below_drewN | apply below_drew1) | exact HB.out)⟩

end Go.Proofs.Ytfnpiclioikjpaa.X

/- escrow.Up, walked. -/
set_option linter.unusedSimpArgs false
set_option linter.unusedVariables false
namespace Go.Proofs.Ytfnpiclioikjpaa.X
open Go.RowKit Go.Proofs.YtfnpiclioikjpaaW.PrintWords Go.Proofs.YtfnpiclioikjpaaW.PrintLast Go.Proofs.YtfnpiclioikjpaaW.PrintMore
def upB (l : List Ac) (key : ByteArray) (rep n : Int) : Bool := chkA l && (keyR key && (repOk rep && (decide (n ≤ 1000) && decide (-1000 ≤ n))))
def upR (h : Hv) (rep n : Int) : Hv := setH h (rep - 1).toNat (hv h (rep - 1).toNat + n)
set_option maxHeartbeats 8000000 in
set_option maxRecDepth 100000 in
theorem up_bad (A0 : Option Addr) (c0 : Nat) (l0 : List Ac) (key : ByteArray) (rep n : Int) (w : World) (hr0 : Kd.C k94 w A0 l0.length l0) (hc0 : l0.length ≤ c0) (h : upB l0 key rep n = false) :
    Calls Try.prog 41 #[.slice A0 l0.length c0, .string key, .int .i64 rep, .int .i64 n] w (EscPost w ([], 1)) := by
  have HR := Aside0.mk hr0
  clear hr0
  cases hc : chkA l0 with
  | false =>
    clear h
    go_enter Try.func41, Try.ntmps41
    go_wp2_with fail
    refine (chkA_call A0 c0 l0 _ HR.out hc0 1 (by rw [hc]; rfl)).mono ?_
    rintro e w1 ⟨rfl, hb1⟩
    have HB1 := Aside0.mk hb1
    clear hb1
    go_wp2_with fail
    go_ret2
    exact ⟨_, rfl, Kd.R_nil _ _ _ _ _, by repeat (first | exact HB1.out | apply pw_below_drewN)⟩
  | true =>
    unfold upB at h
    rw [hc, Bool.true_and] at h
    cases hg0 : keyR key with
    | false =>
      clear h
      go_enter Try.func41, Try.ntmps41
      go_wp2_with fail
      refine (chkA_call A0 c0 l0 _ HR.out hc0 0 (by rw [hc]; rfl)).mono ?_
      rintro e w1 ⟨rfl, hb1⟩
      have HB1 := Aside0.mk hb1
      clear hb1
      go_wp2_with fail
      refine (escrow_right.calls key false _ (right_is' hg0)).mono ?_
      rintro e w2 ⟨rfl, ⟨nd2, rfl⟩⟩
      go_wp2_with fail
      go_ret2
      exact ⟨_, rfl, Kd.R_nil _ _ _ _ _, by repeat (first | exact HB1.out | apply pw_below_drewN)⟩
    | true =>
      rw [hg0, Bool.true_and] at h
      cases hg1 : repOk rep with
      | false =>
        clear h
        go_enter Try.func41, Try.ntmps41
        go_wp2_with fail
        refine (chkA_call A0 c0 l0 _ HR.out hc0 0 (by rw [hc]; rfl)).mono ?_
        rintro e w1 ⟨rfl, hb1⟩
        have HB1 := Aside0.mk hb1
        clear hb1
        go_wp2_with fail
        refine (escrow_right.calls key true _ (right_is' hg0)).mono ?_
        rintro e w2 ⟨rfl, ⟨nd2, rfl⟩⟩
        go_wp2_with fail
        refine (escrow_there.calls rep false _ (there_is' hg1)).mono ?_
        rintro e w3 ⟨rfl, ⟨nd3, rfl⟩⟩
        go_wp2_with fail
        go_ret2
        exact ⟨_, rfl, Kd.R_nil _ _ _ _ _, by repeat (first | exact HB1.out | apply pw_below_drewN)⟩
      | true =>
        rw [hg1, Bool.true_and] at h
        by_cases ht0 : n ≤ 1000
        · rw [decide_eq_true ht0, Bool.true_and] at h
          have hw0 : decide ((1000 : Int) < n) = false := by simp; omega
          by_cases ht1 : -1000 ≤ n
          · exact absurd h (by simp [ht1])
          · have hw1 : decide (n < (-1000 : Int)) = true := by simp; omega
            clear h
            go_enter Try.func41, Try.ntmps41
            go_wp2_with fail
            refine (chkA_call A0 c0 l0 _ HR.out hc0 0 (by rw [hc]; rfl)).mono ?_
            rintro e w1 ⟨rfl, hb1⟩
            have HB1 := Aside0.mk hb1
            clear hb1
            go_wp2_with fail
            refine (escrow_right.calls key true _ (right_is' hg0)).mono ?_
            rintro e w2 ⟨rfl, ⟨nd2, rfl⟩⟩
            go_wp2_with fail
            refine (escrow_there.calls rep true _ (there_is' hg1)).mono ?_
            rintro e w3 ⟨rfl, ⟨nd3, rfl⟩⟩
            go_wp2_with fail
            go_ret2
            exact ⟨_, rfl, Kd.R_nil _ _ _ _ _, by repeat (first | exact HB1.out | apply pw_below_drewN)⟩
        · have hw0 : decide ((1000 : Int) < n) = true := by simp; omega
          clear h
          go_enter Try.func41, Try.ntmps41
          go_wp2_with fail
          refine (chkA_call A0 c0 l0 _ HR.out hc0 0 (by rw [hc]; rfl)).mono ?_
          rintro e w1 ⟨rfl, hb1⟩
          have HB1 := Aside0.mk hb1
          clear hb1
          go_wp2_with fail
          refine (escrow_right.calls key true _ (right_is' hg0)).mono ?_
          rintro e w2 ⟨rfl, ⟨nd2, rfl⟩⟩
          go_wp2_with fail
          refine (escrow_there.calls rep true _ (there_is' hg1)).mono ?_
          rintro e w3 ⟨rfl, ⟨nd3, rfl⟩⟩
          go_wp2_with fail
          go_ret2
          exact ⟨_, rfl, Kd.R_nil _ _ _ _ _, by repeat (first | exact HB1.out | apply pw_below_drewN)⟩
set_option maxHeartbeats 16000000 in
set_option maxRecDepth 100000 in
theorem up_go (A0 : Option Addr) (c0 : Nat) (l0 : List Ac) (key : ByteArray) (rep n : Int) (w : World) (hr0 : Kd.C k94 w A0 l0.length l0) (hc0 : l0.length ≤ c0) (h : upB l0 key rep n = true) :
    Calls Try.prog 41 #[.slice A0 l0.length c0, .string key, .int .i64 rep, .int .i64 n] w (EscPost w (if chkA (setA l0 key (upR (getA l0 key) rep n)) = true then (setA l0 key (upR (getA l0 key) rep n), 0) else ([], 6))) := by
  have HR := Aside0.mk hr0
  unfold upB at h
  simp only [Bool.and_eq_true, decide_eq_true_eq] at h
  obtain ⟨hc, hk, hr, hn1, hn2⟩ := h
  have hr' := hr
  unfold repOk at hr'
  simp only [Bool.and_eq_true, decide_eq_true_eq] at hr'
  obtain ⟨hl4, _, hord⟩ := (chkA_iff l0).1 hc
  have HO := Aside0.mk hord
  have HCC := Aside0.mk hc
  have hbd := getA_bd hc key
  generalize hga : getA l0 key = ga at *
  obtain ⟨g0, g1, g2, g3, g4⟩ := ga
  have b0 := hbd 0 (by omega)
  have b1 := hbd 1 (by omega)
  have b2 := hbd 2 (by omega)
  have b3 := hbd 3 (by omega)
  have b4 := hbd 4 (by omega)
  simp only [hv] at b0 b1 b2 b3 b4
  obtain ⟨b0, b0'⟩ := b0
  obtain ⟨b1, b1'⟩ := b1
  obtain ⟨b2, b2'⟩ := b2
  obtain ⟨b3, b3'⟩ := b3
  obtain ⟨b4, b4'⟩ := b4
  have HGA := Aside0.mk hga
  clear hbd hord hr0 hga
  have hn1' : decide ((1000 : Int) < n) = false := by simp; omega
  have hn2' : decide (n < (-1000 : Int)) = false := by simp; omega
  obtain rfl | rfl | rfl | rfl | rfl : rep = 1 ∨ rep = 2 ∨ rep = 3 ∨ rep = 4 ∨ rep = 5 := by omega
  · clear hr'
    rw [show upR ⟨g0, g1, g2, g3, g4⟩ 1 n = ⟨g0 + n, g1, g2, g3, g4⟩ from rfl]
    obtain ⟨rr, hrr⟩ : ∃ rr, rr = (if chkA (setA l0 key ⟨g0 + n, g1, g2, g3, g4⟩) = true then (setA l0 key ⟨g0 + n, g1, g2, g3, g4⟩, (0 : Int)) else ([], 6)) := ⟨_, rfl⟩
    rw [← hrr]
    have HQ := Aside0.mk hrr
    clear hrr
    go_enter Try.func41, Try.ntmps41
    go_wp2_with fail
    refine (chkA_call A0 c0 l0 _ HR.out hc0 0 (by rw [hc]; rfl)).mono ?_
    rintro e w1 ⟨rfl, hb1⟩
    have HB1 := Aside0.mk hb1
    clear hb1
    go_wp2_with fail
    refine (escrow_right.calls key true _ (right_is' hk)).mono ?_
    rintro e w2 ⟨rfl, ⟨nd2, rfl⟩⟩
    go_wp2_with fail
    refine (escrow_there.calls 1 true _ (there_is' hr)).mono ?_
    rintro e w3 ⟨rfl, ⟨nd3, rfl⟩⟩
    go_wp2_with fail
    refine (findA_call A0 c0 l0 key _ (by repeat (first | exact Kd.C_below HR.out HB1.out | (with_reducible refine Kd.C_drewN ?_ _))) hc0 (by omega) HO.out).mono ?_
    rintro e w5 hfp
    obtain ⟨rfl, hb5⟩ := hfp
    rw [HGA.out]
    have HB5 : Aside0 (Below w.heap.size w w5) := ⟨below_step (by repeat (first | exact HB1.out | apply pw_below_drewN)) hb5⟩
    clear hb5
    go_wp2_with fail
    refine (put_call A0 c0 l0 key (g0 + n) (g1) (g2) (g3) (g4) _ ?hC hc0 HCC.out).mono ?_
    case hC =>
      repeat (first | exact Kd.C_below HR.out HB5.out | (with_reducible refine Kd.C_alloc ?_ _) | exact Kd.C_below (Kd.C_below HR.out HB5.out) (cellBelow _ _ _ _))
    rintro e w6 hp6
    rw [← HQ.out] at hp6
    obtain ⟨v6, rfl, hR6, hb6⟩ := hp6
    go_wp2_with fail
    go_ret2
    exact esc_end (v6 := v6) HB5.out (by first | exact below_alloc (Below.refl _ _) _ | exact cellBelow _ _ _ _) hR6 hb6
  · clear hr'
    rw [show upR ⟨g0, g1, g2, g3, g4⟩ 2 n = ⟨g0, g1 + n, g2, g3, g4⟩ from rfl]
    obtain ⟨rr, hrr⟩ : ∃ rr, rr = (if chkA (setA l0 key ⟨g0, g1 + n, g2, g3, g4⟩) = true then (setA l0 key ⟨g0, g1 + n, g2, g3, g4⟩, (0 : Int)) else ([], 6)) := ⟨_, rfl⟩
    rw [← hrr]
    have HQ := Aside0.mk hrr
    clear hrr
    go_enter Try.func41, Try.ntmps41
    go_wp2_with fail
    refine (chkA_call A0 c0 l0 _ HR.out hc0 0 (by rw [hc]; rfl)).mono ?_
    rintro e w1 ⟨rfl, hb1⟩
    have HB1 := Aside0.mk hb1
    clear hb1
    go_wp2_with fail
    refine (escrow_right.calls key true _ (right_is' hk)).mono ?_
    rintro e w2 ⟨rfl, ⟨nd2, rfl⟩⟩
    go_wp2_with fail
    refine (escrow_there.calls 2 true _ (there_is' hr)).mono ?_
    rintro e w3 ⟨rfl, ⟨nd3, rfl⟩⟩
    go_wp2_with fail
    refine (findA_call A0 c0 l0 key _ (by repeat (first | exact Kd.C_below HR.out HB1.out | (with_reducible refine Kd.C_drewN ?_ _))) hc0 (by omega) HO.out).mono ?_
    rintro e w5 hfp
    obtain ⟨rfl, hb5⟩ := hfp
    rw [HGA.out]
    have HB5 : Aside0 (Below w.heap.size w w5) := ⟨below_step (by repeat (first | exact HB1.out | apply pw_below_drewN)) hb5⟩
    clear hb5
    go_wp2_with fail
    refine (put_call A0 c0 l0 key (g0) (g1 + n) (g2) (g3) (g4) _ ?hC hc0 HCC.out).mono ?_
    case hC =>
      repeat (first | exact Kd.C_below HR.out HB5.out | (with_reducible refine Kd.C_alloc ?_ _) | exact Kd.C_below (Kd.C_below HR.out HB5.out) (cellBelow _ _ _ _))
    rintro e w6 hp6
    rw [← HQ.out] at hp6
    obtain ⟨v6, rfl, hR6, hb6⟩ := hp6
    go_wp2_with fail
    go_ret2
    exact esc_end (v6 := v6) HB5.out (by first | exact below_alloc (Below.refl _ _) _ | exact cellBelow _ _ _ _) hR6 hb6
  · clear hr'
    rw [show upR ⟨g0, g1, g2, g3, g4⟩ 3 n = ⟨g0, g1, g2 + n, g3, g4⟩ from rfl]
    obtain ⟨rr, hrr⟩ : ∃ rr, rr = (if chkA (setA l0 key ⟨g0, g1, g2 + n, g3, g4⟩) = true then (setA l0 key ⟨g0, g1, g2 + n, g3, g4⟩, (0 : Int)) else ([], 6)) := ⟨_, rfl⟩
    rw [← hrr]
    have HQ := Aside0.mk hrr
    clear hrr
    go_enter Try.func41, Try.ntmps41
    go_wp2_with fail
    refine (chkA_call A0 c0 l0 _ HR.out hc0 0 (by rw [hc]; rfl)).mono ?_
    rintro e w1 ⟨rfl, hb1⟩
    have HB1 := Aside0.mk hb1
    clear hb1
    go_wp2_with fail
    refine (escrow_right.calls key true _ (right_is' hk)).mono ?_
    rintro e w2 ⟨rfl, ⟨nd2, rfl⟩⟩
    go_wp2_with fail
    refine (escrow_there.calls 3 true _ (there_is' hr)).mono ?_
    rintro e w3 ⟨rfl, ⟨nd3, rfl⟩⟩
    go_wp2_with fail
    refine (findA_call A0 c0 l0 key _ (by repeat (first | exact Kd.C_below HR.out HB1.out | (with_reducible refine Kd.C_drewN ?_ _))) hc0 (by omega) HO.out).mono ?_
    rintro e w5 hfp
    obtain ⟨rfl, hb5⟩ := hfp
    rw [HGA.out]
    have HB5 : Aside0 (Below w.heap.size w w5) := ⟨below_step (by repeat (first | exact HB1.out | apply pw_below_drewN)) hb5⟩
    clear hb5
    go_wp2_with fail
    refine (put_call A0 c0 l0 key (g0) (g1) (g2 + n) (g3) (g4) _ ?hC hc0 HCC.out).mono ?_
    case hC =>
      repeat (first | exact Kd.C_below HR.out HB5.out | (with_reducible refine Kd.C_alloc ?_ _) | exact Kd.C_below (Kd.C_below HR.out HB5.out) (cellBelow _ _ _ _))
    rintro e w6 hp6
    rw [← HQ.out] at hp6
    obtain ⟨v6, rfl, hR6, hb6⟩ := hp6
    go_wp2_with fail
    go_ret2
    exact esc_end (v6 := v6) HB5.out (by first | exact below_alloc (Below.refl _ _) _ | exact cellBelow _ _ _ _) hR6 hb6
  · clear hr'
    rw [show upR ⟨g0, g1, g2, g3, g4⟩ 4 n = ⟨g0, g1, g2, g3 + n, g4⟩ from rfl]
    obtain ⟨rr, hrr⟩ : ∃ rr, rr = (if chkA (setA l0 key ⟨g0, g1, g2, g3 + n, g4⟩) = true then (setA l0 key ⟨g0, g1, g2, g3 + n, g4⟩, (0 : Int)) else ([], 6)) := ⟨_, rfl⟩
    rw [← hrr]
    have HQ := Aside0.mk hrr
    clear hrr
    go_enter Try.func41, Try.ntmps41
    go_wp2_with fail
    refine (chkA_call A0 c0 l0 _ HR.out hc0 0 (by rw [hc]; rfl)).mono ?_
    rintro e w1 ⟨rfl, hb1⟩
    have HB1 := Aside0.mk hb1
    clear hb1
    go_wp2_with fail
    refine (escrow_right.calls key true _ (right_is' hk)).mono ?_
    rintro e w2 ⟨rfl, ⟨nd2, rfl⟩⟩
    go_wp2_with fail
    refine (escrow_there.calls 4 true _ (there_is' hr)).mono ?_
    rintro e w3 ⟨rfl, ⟨nd3, rfl⟩⟩
    go_wp2_with fail
    refine (findA_call A0 c0 l0 key _ (by repeat (first | exact Kd.C_below HR.out HB1.out | (with_reducible refine Kd.C_drewN ?_ _))) hc0 (by omega) HO.out).mono ?_
    rintro e w5 hfp
    obtain ⟨rfl, hb5⟩ := hfp
    rw [HGA.out]
    have HB5 : Aside0 (Below w.heap.size w w5) := ⟨below_step (by repeat (first | exact HB1.out | apply pw_below_drewN)) hb5⟩
    clear hb5
    go_wp2_with fail
    refine (put_call A0 c0 l0 key (g0) (g1) (g2) (g3 + n) (g4) _ ?hC hc0 HCC.out).mono ?_
    case hC =>
      repeat (first | exact Kd.C_below HR.out HB5.out | (with_reducible refine Kd.C_alloc ?_ _) | exact Kd.C_below (Kd.C_below HR.out HB5.out) (cellBelow _ _ _ _))
    rintro e w6 hp6
    rw [← HQ.out] at hp6
    obtain ⟨v6, rfl, hR6, hb6⟩ := hp6
    go_wp2_with fail
    go_ret2
    exact esc_end (v6 := v6) HB5.out (by first | exact below_alloc (Below.refl _ _) _ | exact cellBelow _ _ _ _) hR6 hb6
  · clear hr'
    rw [show upR ⟨g0, g1, g2, g3, g4⟩ 5 n = ⟨g0, g1, g2, g3, g4 + n⟩ from rfl]
    obtain ⟨rr, hrr⟩ : ∃ rr, rr = (if chkA (setA l0 key ⟨g0, g1, g2, g3, g4 + n⟩) = true then (setA l0 key ⟨g0, g1, g2, g3, g4 + n⟩, (0 : Int)) else ([], 6)) := ⟨_, rfl⟩
    rw [← hrr]
    have HQ := Aside0.mk hrr
    clear hrr
    go_enter Try.func41, Try.ntmps41
    go_wp2_with fail
    refine (chkA_call A0 c0 l0 _ HR.out hc0 0 (by rw [hc]; rfl)).mono ?_
    rintro e w1 ⟨rfl, hb1⟩
    have HB1 := Aside0.mk hb1
    clear hb1
    go_wp2_with fail
    refine (escrow_right.calls key true _ (right_is' hk)).mono ?_
    rintro e w2 ⟨rfl, ⟨nd2, rfl⟩⟩
    go_wp2_with fail
    refine (escrow_there.calls 5 true _ (there_is' hr)).mono ?_
    rintro e w3 ⟨rfl, ⟨nd3, rfl⟩⟩
    go_wp2_with fail
    refine (findA_call A0 c0 l0 key _ (by repeat (first | exact Kd.C_below HR.out HB1.out | (with_reducible refine Kd.C_drewN ?_ _))) hc0 (by omega) HO.out).mono ?_
    rintro e w5 hfp
    obtain ⟨rfl, hb5⟩ := hfp
    rw [HGA.out]
    have HB5 : Aside0 (Below w.heap.size w w5) := ⟨below_step (by repeat (first | exact HB1.out | apply pw_below_drewN)) hb5⟩
    clear hb5
    go_wp2_with fail
    refine (put_call A0 c0 l0 key (g0) (g1) (g2) (g3) (g4 + n) _ ?hC hc0 HCC.out).mono ?_
    case hC =>
      repeat (first | exact Kd.C_below HR.out HB5.out | (with_reducible refine Kd.C_alloc ?_ _) | exact Kd.C_below (Kd.C_below HR.out HB5.out) (cellBelow _ _ _ _))
    rintro e w6 hp6
    rw [← HQ.out] at hp6
    obtain ⟨v6, rfl, hR6, hb6⟩ := hp6
    go_wp2_with fail
    go_ret2
    exact esc_end (v6 := v6) HB5.out (by first | exact below_alloc (Below.refl _ _) _ | exact cellBelow _ _ _ _) hR6 hb6
def escrow_Up.f (l0 : List Ac) (a1 : ByteArray) (a2 : Int) (a3 : Int) : Option (List Ac × Int) :=
  if upB l0 a1 a2 a3 = true then (if chkA (setA l0 a1 (upR (getA l0 a1) a2 a3)) = true then some (setA l0 a1 (upR (getA l0 a1) a2 a3), 0) else some ([], 6)) else some ([], 1)
theorem escrow_Up.calls (A0 : Option Addr) (c0 : Nat) (l0 : List Ac) (a1 : ByteArray) (a2 : Int) (a3 : Int) (r1 : List Ac) (r2 : Int) (w : World) (hr0 : Kd.C k94 w A0 l0.length l0) (hc0 : l0.length ≤ c0) (h : escrow_Up.f l0 a1 a2 a3 = some (r1, r2)) :
    Calls Try.prog 41 #[.slice A0 l0.length c0, .string a1, .int .i64 a2, .int .i64 a3] w fun e w' => ∃ v0_ : Value, e = .returned (.tuple #[v0_, .int .i64 r2]) ∧ Kd.R k94 94 w' w.heap.size (fun _ => True) v0_ r1 ∧ Below w.heap.size w w' := by
  unfold escrow_Up.f at h
  cases hb : upB l0 a1 a2 a3 with
  | false =>
    rw [hb, if_neg (by decide)] at h
    simp only [Option.some.injEq, Prod.mk.injEq] at h
    obtain ⟨rfl, rfl⟩ := h
    exact up_bad A0 c0 l0 a1 a2 a3 w hr0 hc0 hb
  | true =>
    rw [hb, if_pos rfl] at h
    have hg := up_go A0 c0 l0 a1 a2 a3 w hr0 hc0 hb
    cases hq : chkA (setA l0 a1 (upR (getA l0 a1) a2 a3)) with
    | true =>
      rw [hq, if_pos rfl] at h hg
      simp only [Option.some.injEq] at h
      rw [h] at hg
      exact hg
    | false =>
      rw [hq, if_neg (by decide)] at h hg
      simp only [Option.some.injEq] at h
      rw [h] at hg
      exact hg
end Go.Proofs.Ytfnpiclioikjpaa.X

/- Functions of the seat as Lean functions, and that the calls come to them: written by this session's own program xprint.py over the kit's printer. -/
namespace Go.Proofs.Ytfnpiclioikjpaa.X
open Go.RowKit Go.Proofs.YtfnpiclioikjpaaW.PrintWords Go.Proofs.YtfnpiclioikjpaaW.PrintLast Go.Proofs.YtfnpiclioikjpaaW.PrintMore
attribute [local go_sem] max2_int min2_int max_two min_two max_three min_three max_four min_four   -- for this text's walks alone
set_option linter.unusedVariables false
set_option linter.unusedSimpArgs false

/-! ### hucksterlaw11_awake: function 40 -/
def hucksterlaw11_awake.f (k : Nat)  : Option (Bool) := (escrow_Up.f ([] : List (S94)) (⟨#[97]⟩ : ByteArray) 2 3).bind fun bt107 => (if bt107.2 = 0 then ((escrow_Number.f bt107.1 (⟨#[97]⟩ : ByteArray)).bind fun t111 => (if t111 = 3 then ((escrow_Rights.f bt107.1 (⟨#[97]⟩ : ByteArray) 1 (-5)).bind fun t112 => (if t112 = 5 then ((escrow_May.f k bt107.1 (⟨#[97]⟩ : ByteArray) 2 (-5) 4).bind fun t113 => (if t113 = 5 then ((escrow_May.f k bt107.1 (⟨#[97]⟩ : ByteArray) 2 (-5) 3).bind fun t114 => (some (t114 == 0))) else (some false))) else (some false))) else (some false))) else (some false))
theorem hucksterlaw11_awake.mono : ∀ k, LeO (hucksterlaw11_awake.f k ) (hucksterlaw11_awake.f (k + 1) ) := by
  intro  k
  unfold hucksterlaw11_awake.f
  repeat' first
      | (with_reducible exact escrow_May.mono _ _ _ _ _ _)
      | (with_reducible exact LeO.refl _)
      | (with_reducible exact LeO.none _)
      | (with_reducible refine LeO.ite ?_ ?_)
      | (with_reducible refine LeO.bind ?_ (fun _ => ?_))
      | exact escrow_May.mono _ _ _ _ _ _
      | exact LeO.none _
      | refine LeO.ite ?_ ?_
      | refine LeO.bind ?_ (fun _ => ?_)
set_option maxHeartbeats 8000000 in
set_option maxRecDepth 100000 in
theorem hucksterlaw11_awake.calls (k : Nat)  (r : Bool) (w : World) (h : hucksterlaw11_awake.f k  = some r) :
    Calls Try.prog 40 #[] w fun e w' => e = .returned (.bool r) ∧ Below w.heap.size w w' := by
  have HB := Aside0.mk (Below.refl w.heap.size w)
  have H : ((escrow_Up.f ([] : List (S94)) (⟨#[97]⟩ : ByteArray) 2 3).bind fun bt107 => (if bt107.2 = 0 then ((escrow_Number.f bt107.1 (⟨#[97]⟩ : ByteArray)).bind fun t111 => (if t111 = 3 then ((escrow_Rights.f bt107.1 (⟨#[97]⟩ : ByteArray) 1 (-5)).bind fun t112 => (if t112 = 5 then ((escrow_May.f k bt107.1 (⟨#[97]⟩ : ByteArray) 2 (-5) 4).bind fun t113 => (if t113 = 5 then ((escrow_May.f k bt107.1 (⟨#[97]⟩ : ByteArray) 2 (-5) 3).bind fun t114 => (some (t114 == 0))) else (some false))) else (some false))) else (some false))) else (some false))) = some r := h
  clear h
  replace H := Option.bind_eq_some_iff.mp H
  obtain ⟨⟨t107, t108⟩, A10, H⟩ := H
  replace H : (if t108 = 0 then ((escrow_Number.f t107 (⟨#[97]⟩ : ByteArray)).bind fun t111 => (if t111 = 3 then ((escrow_Rights.f t107 (⟨#[97]⟩ : ByteArray) 1 (-5)).bind fun t112 => (if t112 = 5 then ((escrow_May.f k t107 (⟨#[97]⟩ : ByteArray) 2 (-5) 4).bind fun t113 => (if t113 = 5 then ((escrow_May.f k t107 (⟨#[97]⟩ : ByteArray) 2 (-5) 3).bind fun t114 => (some (t114 == 0))) else (some false))) else (some false))) else (some false))) else (some false)) = some r := H
  have A1 := Aside0.mk A10
  clear A10
  by_cases c2 : t108 = 0
  · rw [if_pos c2] at H
    have c2b0 : (t108 == 0) = true := beq_iff_eq.mpr c2
    have c2b1 : (t108 != 0) = false := bne_eq_false_iff_eq.mpr c2
    clear c2
    replace H := Option.bind_eq_some_iff.mp H
    obtain ⟨t111, A30, H⟩ := H
    replace H : (if t111 = 3 then ((escrow_Rights.f t107 (⟨#[97]⟩ : ByteArray) 1 (-5)).bind fun t112 => (if t112 = 5 then ((escrow_May.f k t107 (⟨#[97]⟩ : ByteArray) 2 (-5) 4).bind fun t113 => (if t113 = 5 then ((escrow_May.f k t107 (⟨#[97]⟩ : ByteArray) 2 (-5) 3).bind fun t114 => (some (t114 == 0))) else (some false))) else (some false))) else (some false)) = some r := H
    have A3 := Aside0.mk A30
    clear A30
    by_cases c4 : t111 = 3
    · rw [if_pos c4] at H
      have c4b0 : (t111 == 3) = true := beq_iff_eq.mpr c4
      have c4b1 : (t111 != 3) = false := bne_eq_false_iff_eq.mpr c4
      clear c4
      replace H := Option.bind_eq_some_iff.mp H
      obtain ⟨t112, A50, H⟩ := H
      replace H : (if t112 = 5 then ((escrow_May.f k t107 (⟨#[97]⟩ : ByteArray) 2 (-5) 4).bind fun t113 => (if t113 = 5 then ((escrow_May.f k t107 (⟨#[97]⟩ : ByteArray) 2 (-5) 3).bind fun t114 => (some (t114 == 0))) else (some false))) else (some false)) = some r := H
      have A5 := Aside0.mk A50
      clear A50
      by_cases c6 : t112 = 5
      · rw [if_pos c6] at H
        have c6b0 : (t112 == 5) = true := beq_iff_eq.mpr c6
        have c6b1 : (t112 != 5) = false := bne_eq_false_iff_eq.mpr c6
        clear c6
        replace H := Option.bind_eq_some_iff.mp H
        obtain ⟨t113, A70, H⟩ := H
        replace H : (if t113 = 5 then ((escrow_May.f k t107 (⟨#[97]⟩ : ByteArray) 2 (-5) 3).bind fun t114 => (some (t114 == 0))) else (some false)) = some r := H
        have A7 := Aside0.mk A70
        clear A70
        by_cases c8 : t113 = 5
        · rw [if_pos c8] at H
          have c8b0 : (t113 == 5) = true := beq_iff_eq.mpr c8
          have c8b1 : (t113 != 5) = false := bne_eq_false_iff_eq.mpr c8
          clear c8
          replace H := Option.bind_eq_some_iff.mp H
          obtain ⟨t114, A90, H⟩ := H
          replace H : (some (t114 == 0)) = some r := H
          have A9 := Aside0.mk A90
          clear A90
          obtain rfl := Option.some.inj H
          go_enter Try.func40, Try.ntmps40
          go_wp2_with (first | ((with_reducible refine gate_callee (f := 41) rfl ?_); refine goesL_ (some 4) rfl rfl Try.func41 (by kernel_rfl) rfl #[.slice none 0 0, .string (⟨#[97]⟩ : ByteArray), .int .i64 2, .int .i64 3] rfl (by (try simp only [List.map_toArray, List.map_cons, List.map_nil]); first | done | rfl | (simp only [List.length_drop, List.length_take]; rfl)) ?_; (refine (escrow_Up.calls _ _ ([] : List (S94)) (⟨#[97]⟩ : ByteArray) 2 3 t107 t108 _ ?side1 ?side2 A1.out).mono ?_); (case side1 => exact Kd.C_nil _ _); (case side2 => exact Nat.le_refl _); rintro e w10 ⟨v109, rfl, ho0, hb⟩; refine ⟨_, rfl, ?_⟩; have n0_ := Aside0.mk (Kd.R_lower ho0 (below_size (by repeat (first | (with_reducible first | exact HB.out | apply below_alloc | apply pw_below_drewN | apply below_drew1) | exact HB.out)))); have n1_ := Aside0.mk (below_step (by repeat (first | (with_reducible first | exact HB.out | apply below_alloc | apply pw_below_drewN | apply below_drew1) | exact HB.out)) hb); clear HB; have HO110 := n0_; have HB := n1_; clear n0_ n1_; (try clear hb); (try clear hb2); (try clear hk); (try clear hi); (try clear ho0); obtain ⟨Ao11, co11, eo11⟩ := Kd.R_slice HO110.out; subst eo11) | (go_at_call 50; (with_reducible refine (escrow_Number.calls _ _ t107 (⟨#[97]⟩ : ByteArray) t111 _ ?side1 ?side2 A3.out).mono ?_); (case side1 => repeat (first | exact (Kd.R_reads' HO110.out).2.2 | (with_reducible refine Kd.C_alloc ?_ _) | (with_reducible refine Kd.C_drewN ?_ _) | (with_reducible refine Kd.C_drew ?_))); (case side2 => exact (Kd.R_reads' HO110.out).2.1); rintro e w12 ⟨rfl, hb⟩; have n0_ := Aside0.mk (Kd.R_below (by (with_reducible repeat (first | apply Kd.R_alloc | apply Kd.R_drewN | apply Kd.R_drew)); exact HO110.out) hb); have n1_ := Aside0.mk (below_step (by repeat (first | (with_reducible first | exact HB.out | apply below_alloc | apply pw_below_drewN | apply below_drew1) | exact HB.out)) hb); clear HO110; clear HB; have HO110 := n0_; have HB := n1_; clear n0_ n1_; (try clear hb); (try clear hb2); (try clear hk); (try clear hi)) | (go_at_call 51; (with_reducible refine (escrow_Rights.calls _ _ t107 (⟨#[97]⟩ : ByteArray) 1 (-5) t112 _ ?side1 ?side2 A5.out).mono ?_); (case side1 => repeat (first | exact (Kd.R_reads' HO110.out).2.2 | (with_reducible refine Kd.C_alloc ?_ _) | (with_reducible refine Kd.C_drewN ?_ _) | (with_reducible refine Kd.C_drew ?_))); (case side2 => exact (Kd.R_reads' HO110.out).2.1); rintro e w13 ⟨rfl, hb⟩; have n0_ := Aside0.mk (Kd.R_below (by (with_reducible repeat (first | apply Kd.R_alloc | apply Kd.R_drewN | apply Kd.R_drew)); exact HO110.out) hb); have n1_ := Aside0.mk (below_step (by repeat (first | (with_reducible first | exact HB.out | apply below_alloc | apply pw_below_drewN | apply below_drew1) | exact HB.out)) hb); clear HO110; clear HB; have HO110 := n0_; have HB := n1_; clear n0_ n1_; (try clear hb); (try clear hb2); (try clear hk); (try clear hi)) | (go_at_call 49; (with_reducible refine (escrow_May.calls k _ _ t107 (⟨#[97]⟩ : ByteArray) 2 (-5) 4 t113 _ ?side1 ?side2 A7.out).mono ?_); (case side1 => repeat (first | exact (Kd.R_reads' HO110.out).2.2 | (with_reducible refine Kd.C_alloc ?_ _) | (with_reducible refine Kd.C_drewN ?_ _) | (with_reducible refine Kd.C_drew ?_))); (case side2 => exact (Kd.R_reads' HO110.out).2.1); rintro e w14 ⟨rfl, hb⟩; have n0_ := Aside0.mk (Kd.R_below (by (with_reducible repeat (first | apply Kd.R_alloc | apply Kd.R_drewN | apply Kd.R_drew)); exact HO110.out) hb); have n1_ := Aside0.mk (below_step (by repeat (first | (with_reducible first | exact HB.out | apply below_alloc | apply pw_below_drewN | apply below_drew1) | exact HB.out)) hb); clear HO110; clear HB; have HO110 := n0_; have HB := n1_; clear n0_ n1_; (try clear hb); (try clear hb2); (try clear hk); (try clear hi)) | (go_at_call 49; (with_reducible refine (escrow_May.calls k _ _ t107 (⟨#[97]⟩ : ByteArray) 2 (-5) 3 t114 _ ?side1 ?side2 A9.out).mono ?_); (case side1 => repeat (first | exact (Kd.R_reads' HO110.out).2.2 | (with_reducible refine Kd.C_alloc ?_ _) | (with_reducible refine Kd.C_drewN ?_ _) | (with_reducible refine Kd.C_drew ?_))); (case side2 => exact (Kd.R_reads' HO110.out).2.1); rintro e w15 ⟨rfl, hb⟩; have n0_ := Aside0.mk (Kd.R_below (by (with_reducible repeat (first | apply Kd.R_alloc | apply Kd.R_drewN | apply Kd.R_drew)); exact HO110.out) hb); have n1_ := Aside0.mk (below_step (by repeat (first | (with_reducible first | exact HB.out | apply below_alloc | apply pw_below_drewN | apply below_drew1) | exact HB.out)) hb); clear HO110; clear HB; have HO110 := n0_; have HB := n1_; clear n0_ n1_; (try clear hb); (try clear hb2); (try clear hk); (try clear hi)))
          go_ret
          exact ⟨by first | rfl | (simp [errW_none, errW_some] <;> rfl) | (simp [*, errW_none, errW_some] <;> rfl), by repeat (first | (with_reducible first | exact HB.out | apply below_alloc | apply pw_below_drewN | apply below_drew1) | exact HB.out)⟩
        · rw [if_neg c8] at H
          have c8b0 : (t113 == 5) = false := beq_eq_false_iff_ne.mpr c8
          have c8b1 : (t113 != 5) = true := bne_iff_ne.mpr c8
          obtain rfl := Option.some.inj H
          go_enter Try.func40, Try.ntmps40
          go_wp2_with (first | ((with_reducible refine gate_callee (f := 41) rfl ?_); refine goesL_ (some 4) rfl rfl Try.func41 (by kernel_rfl) rfl #[.slice none 0 0, .string (⟨#[97]⟩ : ByteArray), .int .i64 2, .int .i64 3] rfl (by (try simp only [List.map_toArray, List.map_cons, List.map_nil]); first | done | rfl | (simp only [List.length_drop, List.length_take]; rfl)) ?_; (refine (escrow_Up.calls _ _ ([] : List (S94)) (⟨#[97]⟩ : ByteArray) 2 3 t107 t108 _ ?side1 ?side2 A1.out).mono ?_); (case side1 => exact Kd.C_nil _ _); (case side2 => exact Nat.le_refl _); rintro e w16 ⟨v109, rfl, ho0, hb⟩; refine ⟨_, rfl, ?_⟩; have n0_ := Aside0.mk (Kd.R_lower ho0 (below_size (by repeat (first | (with_reducible first | exact HB.out | apply below_alloc | apply pw_below_drewN | apply below_drew1) | exact HB.out)))); have n1_ := Aside0.mk (below_step (by repeat (first | (with_reducible first | exact HB.out | apply below_alloc | apply pw_below_drewN | apply below_drew1) | exact HB.out)) hb); clear HB; have HO110 := n0_; have HB := n1_; clear n0_ n1_; (try clear hb); (try clear hb2); (try clear hk); (try clear hi); (try clear ho0); obtain ⟨Ao17, co17, eo17⟩ := Kd.R_slice HO110.out; subst eo17) | (go_at_call 50; (with_reducible refine (escrow_Number.calls _ _ t107 (⟨#[97]⟩ : ByteArray) t111 _ ?side1 ?side2 A3.out).mono ?_); (case side1 => repeat (first | exact (Kd.R_reads' HO110.out).2.2 | (with_reducible refine Kd.C_alloc ?_ _) | (with_reducible refine Kd.C_drewN ?_ _) | (with_reducible refine Kd.C_drew ?_))); (case side2 => exact (Kd.R_reads' HO110.out).2.1); rintro e w18 ⟨rfl, hb⟩; have n0_ := Aside0.mk (Kd.R_below (by (with_reducible repeat (first | apply Kd.R_alloc | apply Kd.R_drewN | apply Kd.R_drew)); exact HO110.out) hb); have n1_ := Aside0.mk (below_step (by repeat (first | (with_reducible first | exact HB.out | apply below_alloc | apply pw_below_drewN | apply below_drew1) | exact HB.out)) hb); clear HO110; clear HB; have HO110 := n0_; have HB := n1_; clear n0_ n1_; (try clear hb); (try clear hb2); (try clear hk); (try clear hi)) | (go_at_call 51; (with_reducible refine (escrow_Rights.calls _ _ t107 (⟨#[97]⟩ : ByteArray) 1 (-5) t112 _ ?side1 ?side2 A5.out).mono ?_); (case side1 => repeat (first | exact (Kd.R_reads' HO110.out).2.2 | (with_reducible refine Kd.C_alloc ?_ _) | (with_reducible refine Kd.C_drewN ?_ _) | (with_reducible refine Kd.C_drew ?_))); (case side2 => exact (Kd.R_reads' HO110.out).2.1); rintro e w19 ⟨rfl, hb⟩; have n0_ := Aside0.mk (Kd.R_below (by (with_reducible repeat (first | apply Kd.R_alloc | apply Kd.R_drewN | apply Kd.R_drew)); exact HO110.out) hb); have n1_ := Aside0.mk (below_step (by repeat (first | (with_reducible first | exact HB.out | apply below_alloc | apply pw_below_drewN | apply below_drew1) | exact HB.out)) hb); clear HO110; clear HB; have HO110 := n0_; have HB := n1_; clear n0_ n1_; (try clear hb); (try clear hb2); (try clear hk); (try clear hi)) | (go_at_call 49; (with_reducible refine (escrow_May.calls k _ _ t107 (⟨#[97]⟩ : ByteArray) 2 (-5) 4 t113 _ ?side1 ?side2 A7.out).mono ?_); (case side1 => repeat (first | exact (Kd.R_reads' HO110.out).2.2 | (with_reducible refine Kd.C_alloc ?_ _) | (with_reducible refine Kd.C_drewN ?_ _) | (with_reducible refine Kd.C_drew ?_))); (case side2 => exact (Kd.R_reads' HO110.out).2.1); rintro e w20 ⟨rfl, hb⟩; have n0_ := Aside0.mk (Kd.R_below (by (with_reducible repeat (first | apply Kd.R_alloc | apply Kd.R_drewN | apply Kd.R_drew)); exact HO110.out) hb); have n1_ := Aside0.mk (below_step (by repeat (first | (with_reducible first | exact HB.out | apply below_alloc | apply pw_below_drewN | apply below_drew1) | exact HB.out)) hb); clear HO110; clear HB; have HO110 := n0_; have HB := n1_; clear n0_ n1_; (try clear hb); (try clear hb2); (try clear hk); (try clear hi)))
          go_ret
          exact ⟨by first | rfl | (simp [errW_none, errW_some] <;> rfl) | (simp [*, errW_none, errW_some] <;> rfl), by repeat (first | (with_reducible first | exact HB.out | apply below_alloc | apply pw_below_drewN | apply below_drew1) | exact HB.out)⟩
      · rw [if_neg c6] at H
        have c6b0 : (t112 == 5) = false := beq_eq_false_iff_ne.mpr c6
        have c6b1 : (t112 != 5) = true := bne_iff_ne.mpr c6
        obtain rfl := Option.some.inj H
        go_enter Try.func40, Try.ntmps40
        go_wp2_with (first | ((with_reducible refine gate_callee (f := 41) rfl ?_); refine goesL_ (some 4) rfl rfl Try.func41 (by kernel_rfl) rfl #[.slice none 0 0, .string (⟨#[97]⟩ : ByteArray), .int .i64 2, .int .i64 3] rfl (by (try simp only [List.map_toArray, List.map_cons, List.map_nil]); first | done | rfl | (simp only [List.length_drop, List.length_take]; rfl)) ?_; (refine (escrow_Up.calls _ _ ([] : List (S94)) (⟨#[97]⟩ : ByteArray) 2 3 t107 t108 _ ?side1 ?side2 A1.out).mono ?_); (case side1 => exact Kd.C_nil _ _); (case side2 => exact Nat.le_refl _); rintro e w21 ⟨v109, rfl, ho0, hb⟩; refine ⟨_, rfl, ?_⟩; have n0_ := Aside0.mk (Kd.R_lower ho0 (below_size (by repeat (first | (with_reducible first | exact HB.out | apply below_alloc | apply pw_below_drewN | apply below_drew1) | exact HB.out)))); have n1_ := Aside0.mk (below_step (by repeat (first | (with_reducible first | exact HB.out | apply below_alloc | apply pw_below_drewN | apply below_drew1) | exact HB.out)) hb); clear HB; have HO110 := n0_; have HB := n1_; clear n0_ n1_; (try clear hb); (try clear hb2); (try clear hk); (try clear hi); (try clear ho0); obtain ⟨Ao22, co22, eo22⟩ := Kd.R_slice HO110.out; subst eo22) | (go_at_call 50; (with_reducible refine (escrow_Number.calls _ _ t107 (⟨#[97]⟩ : ByteArray) t111 _ ?side1 ?side2 A3.out).mono ?_); (case side1 => repeat (first | exact (Kd.R_reads' HO110.out).2.2 | (with_reducible refine Kd.C_alloc ?_ _) | (with_reducible refine Kd.C_drewN ?_ _) | (with_reducible refine Kd.C_drew ?_))); (case side2 => exact (Kd.R_reads' HO110.out).2.1); rintro e w23 ⟨rfl, hb⟩; have n0_ := Aside0.mk (Kd.R_below (by (with_reducible repeat (first | apply Kd.R_alloc | apply Kd.R_drewN | apply Kd.R_drew)); exact HO110.out) hb); have n1_ := Aside0.mk (below_step (by repeat (first | (with_reducible first | exact HB.out | apply below_alloc | apply pw_below_drewN | apply below_drew1) | exact HB.out)) hb); clear HO110; clear HB; have HO110 := n0_; have HB := n1_; clear n0_ n1_; (try clear hb); (try clear hb2); (try clear hk); (try clear hi)) | (go_at_call 51; (with_reducible refine (escrow_Rights.calls _ _ t107 (⟨#[97]⟩ : ByteArray) 1 (-5) t112 _ ?side1 ?side2 A5.out).mono ?_); (case side1 => repeat (first | exact (Kd.R_reads' HO110.out).2.2 | (with_reducible refine Kd.C_alloc ?_ _) | (with_reducible refine Kd.C_drewN ?_ _) | (with_reducible refine Kd.C_drew ?_))); (case side2 => exact (Kd.R_reads' HO110.out).2.1); rintro e w24 ⟨rfl, hb⟩; have n0_ := Aside0.mk (Kd.R_below (by (with_reducible repeat (first | apply Kd.R_alloc | apply Kd.R_drewN | apply Kd.R_drew)); exact HO110.out) hb); have n1_ := Aside0.mk (below_step (by repeat (first | (with_reducible first | exact HB.out | apply below_alloc | apply pw_below_drewN | apply below_drew1) | exact HB.out)) hb); clear HO110; clear HB; have HO110 := n0_; have HB := n1_; clear n0_ n1_; (try clear hb); (try clear hb2); (try clear hk); (try clear hi)))
        go_ret
        exact ⟨by first | rfl | (simp [errW_none, errW_some] <;> rfl) | (simp [*, errW_none, errW_some] <;> rfl), by repeat (first | (with_reducible first | exact HB.out | apply below_alloc | apply pw_below_drewN | apply below_drew1) | exact HB.out)⟩
    · rw [if_neg c4] at H
      have c4b0 : (t111 == 3) = false := beq_eq_false_iff_ne.mpr c4
      have c4b1 : (t111 != 3) = true := bne_iff_ne.mpr c4
      obtain rfl := Option.some.inj H
      go_enter Try.func40, Try.ntmps40
      go_wp2_with (first | ((with_reducible refine gate_callee (f := 41) rfl ?_); refine goesL_ (some 4) rfl rfl Try.func41 (by kernel_rfl) rfl #[.slice none 0 0, .string (⟨#[97]⟩ : ByteArray), .int .i64 2, .int .i64 3] rfl (by (try simp only [List.map_toArray, List.map_cons, List.map_nil]); first | done | rfl | (simp only [List.length_drop, List.length_take]; rfl)) ?_; (refine (escrow_Up.calls _ _ ([] : List (S94)) (⟨#[97]⟩ : ByteArray) 2 3 t107 t108 _ ?side1 ?side2 A1.out).mono ?_); (case side1 => exact Kd.C_nil _ _); (case side2 => exact Nat.le_refl _); rintro e w25 ⟨v109, rfl, ho0, hb⟩; refine ⟨_, rfl, ?_⟩; have n0_ := Aside0.mk (Kd.R_lower ho0 (below_size (by repeat (first | (with_reducible first | exact HB.out | apply below_alloc | apply pw_below_drewN | apply below_drew1) | exact HB.out)))); have n1_ := Aside0.mk (below_step (by repeat (first | (with_reducible first | exact HB.out | apply below_alloc | apply pw_below_drewN | apply below_drew1) | exact HB.out)) hb); clear HB; have HO110 := n0_; have HB := n1_; clear n0_ n1_; (try clear hb); (try clear hb2); (try clear hk); (try clear hi); (try clear ho0); obtain ⟨Ao26, co26, eo26⟩ := Kd.R_slice HO110.out; subst eo26) | (go_at_call 50; (with_reducible refine (escrow_Number.calls _ _ t107 (⟨#[97]⟩ : ByteArray) t111 _ ?side1 ?side2 A3.out).mono ?_); (case side1 => repeat (first | exact (Kd.R_reads' HO110.out).2.2 | (with_reducible refine Kd.C_alloc ?_ _) | (with_reducible refine Kd.C_drewN ?_ _) | (with_reducible refine Kd.C_drew ?_))); (case side2 => exact (Kd.R_reads' HO110.out).2.1); rintro e w27 ⟨rfl, hb⟩; have n0_ := Aside0.mk (Kd.R_below (by (with_reducible repeat (first | apply Kd.R_alloc | apply Kd.R_drewN | apply Kd.R_drew)); exact HO110.out) hb); have n1_ := Aside0.mk (below_step (by repeat (first | (with_reducible first | exact HB.out | apply below_alloc | apply pw_below_drewN | apply below_drew1) | exact HB.out)) hb); clear HO110; clear HB; have HO110 := n0_; have HB := n1_; clear n0_ n1_; (try clear hb); (try clear hb2); (try clear hk); (try clear hi)))
      go_ret
      exact ⟨by first | rfl | (simp [errW_none, errW_some] <;> rfl) | (simp [*, errW_none, errW_some] <;> rfl), by repeat (first | (with_reducible first | exact HB.out | apply below_alloc | apply pw_below_drewN | apply below_drew1) | exact HB.out)⟩
  · rw [if_neg c2] at H
    have c2b0 : (t108 == 0) = false := beq_eq_false_iff_ne.mpr c2
    have c2b1 : (t108 != 0) = true := bne_iff_ne.mpr c2
    obtain rfl := Option.some.inj H
    go_enter Try.func40, Try.ntmps40
    go_wp2_with (first | ((with_reducible refine gate_callee (f := 41) rfl ?_); refine goesL_ (some 4) rfl rfl Try.func41 (by kernel_rfl) rfl #[.slice none 0 0, .string (⟨#[97]⟩ : ByteArray), .int .i64 2, .int .i64 3] rfl (by (try simp only [List.map_toArray, List.map_cons, List.map_nil]); first | done | rfl | (simp only [List.length_drop, List.length_take]; rfl)) ?_; (refine (escrow_Up.calls _ _ ([] : List (S94)) (⟨#[97]⟩ : ByteArray) 2 3 t107 t108 _ ?side1 ?side2 A1.out).mono ?_); (case side1 => exact Kd.C_nil _ _); (case side2 => exact Nat.le_refl _); rintro e w28 ⟨v109, rfl, ho0, hb⟩; refine ⟨_, rfl, ?_⟩; have n0_ := Aside0.mk (Kd.R_lower ho0 (below_size (by repeat (first | (with_reducible first | exact HB.out | apply below_alloc | apply pw_below_drewN | apply below_drew1) | exact HB.out)))); have n1_ := Aside0.mk (below_step (by repeat (first | (with_reducible first | exact HB.out | apply below_alloc | apply pw_below_drewN | apply below_drew1) | exact HB.out)) hb); clear HB; have HO110 := n0_; have HB := n1_; clear n0_ n1_; (try clear hb); (try clear hb2); (try clear hk); (try clear hi); (try clear ho0)))
    go_ret
    exact ⟨by first | rfl | (simp [errW_none, errW_some] <;> rfl) | (simp [*, errW_none, errW_some] <;> rfl), by repeat (first | (with_reducible first | exact HB.out | apply below_alloc | apply pw_below_drewN | apply below_drew1) | exact HB.out)⟩

end Go.Proofs.Ytfnpiclioikjpaa.X

/- Functions of the seat as Lean functions, and that the calls come to them: written by this session's own program xprint.py over the kit's printer. -/
namespace Go.Proofs.Ytfnpiclioikjpaa.X
open Go.RowKit Go.Proofs.YtfnpiclioikjpaaW.PrintWords Go.Proofs.YtfnpiclioikjpaaW.PrintLast Go.Proofs.YtfnpiclioikjpaaW.PrintMore
attribute [local go_sem] max2_int min2_int max_two min_two max_three min_three max_four min_four   -- for this text's walks alone
set_option linter.unusedVariables false
set_option linter.unusedSimpArgs false

/-! ### hucksterlaw11_Light: function 39 -/
mutual
def hucksterlaw11_Light.l0 : Nat → List (S94) → Int → Option (Bool)
  | 0, _, _ => none
  | k + 1, x0, x3 => if x3 < (x0.length : Int) then (hucksterlaw11_Light.j1 k x0 x3 (decide (x3 ≤ 60))) else (hucksterlaw11_Light.j1 k x0 x3 false)
def hucksterlaw11_Light.j1 : Nat → List (S94) → Int → Bool → Option (Bool)
  | 0, _, _, _ => none
  | k + 1, x0, x3, x11 => if x11 = true then (if 0 ≤ x3 then (if x3 < (x0.length : Int) then (if (((rd_T94 x0 x3).f0).size : Int) > 100 then (some false) else (hucksterlaw11_Light.l0 k x0 (wrap64 (x3 + 1)))) else (none)) else (none)) else (some (decide ((x0.length : Int) ≤ 60)))
end
def hucksterlaw11_Light.f (k : Nat) (l0 : List (S94)) : Option (Bool) := hucksterlaw11_Light.l0 k l0 0
theorem hucksterlaw11_Light.mono_l : ∀ k, (∀ y0 y1, LeO (hucksterlaw11_Light.l0 k y0 y1) (hucksterlaw11_Light.l0 (k + 1) y0 y1)) ∧ (∀ y0 y1 y2, LeO (hucksterlaw11_Light.j1 k y0 y1 y2) (hucksterlaw11_Light.j1 (k + 1) y0 y1 y2))
  | 0 => ⟨fun _ _ r h => by simp [hucksterlaw11_Light.l0] at h, fun _ _ _ r h => by simp [hucksterlaw11_Light.j1] at h⟩
  | k + 1 => by
    obtain ⟨ih0, ih1⟩ := hucksterlaw11_Light.mono_l k
    refine ⟨?_, ?_⟩
    · intro y0 y1
      unfold hucksterlaw11_Light.l0
      repeat' first
      | (with_reducible exact ih0 _ _)
      | (with_reducible exact ih1 _ _ _)
      | (with_reducible exact LeO.refl _)
      | (with_reducible exact LeO.none _)
      | (with_reducible refine LeO.ite ?_ ?_)
      | (with_reducible refine LeO.bind ?_ (fun _ => ?_))
      | exact ih0 _ _
      | exact ih1 _ _ _
      | exact LeO.none _
      | refine LeO.ite ?_ ?_
      | refine LeO.bind ?_ (fun _ => ?_)
    · intro y0 y1 y2
      unfold hucksterlaw11_Light.j1
      repeat' first
      | (with_reducible exact ih0 _ _)
      | (with_reducible exact ih1 _ _ _)
      | (with_reducible exact LeO.refl _)
      | (with_reducible exact LeO.none _)
      | (with_reducible refine LeO.ite ?_ ?_)
      | (with_reducible refine LeO.bind ?_ (fun _ => ?_))
      | exact ih0 _ _
      | exact ih1 _ _ _
      | exact LeO.none _
      | refine LeO.ite ?_ ?_
      | refine LeO.bind ?_ (fun _ => ?_)
theorem hucksterlaw11_Light.mono : ∀ a0 k, LeO (hucksterlaw11_Light.f k a0) (hucksterlaw11_Light.f (k + 1) a0) := by
  intro a0 k
  obtain ⟨ih0, ih1⟩ := hucksterlaw11_Light.mono_l k
  unfold hucksterlaw11_Light.f
  repeat' first
      | (with_reducible exact ih0 _ _)
      | (with_reducible exact ih1 _ _ _)
      | (with_reducible exact LeO.refl _)
      | (with_reducible exact LeO.none _)
      | (with_reducible refine LeO.ite ?_ ?_)
      | (with_reducible refine LeO.bind ?_ (fun _ => ?_))
      | exact ih0 _ _
      | exact ih1 _ _ _
      | exact LeO.none _
      | refine LeO.ite ?_ ?_
      | refine LeO.bind ?_ (fun _ => ?_)
set_option maxHeartbeats 8000000 in
set_option maxRecDepth 100000 in
theorem hucksterlaw11_Light.calls (k : Nat) (A0 : Option Addr) (c0 : Nat) (l0 : List (S94)) (r : Bool) (w : World) (hr0 : Kd.C k94 w A0 l0.length l0) (hc0 : l0.length ≤ c0) (h : hucksterlaw11_Light.f k l0 = some r) :
    Calls Try.prog 39 #[.slice A0 l0.length c0] w fun e w' => e = .returned (.bool r) ∧ Drawn0 w w' := by
  have HR0 := Aside0.mk hr0
  have HC0 := Aside0.mk hc0
  clear hr0 hc0
  have H : (hucksterlaw11_Light.l0 k l0 0) = some r := h
  clear h
  have H' := Aside0.mk H
  clear H
  go_enter Try.func39, Try.ntmps39
  go_wp2
  go_loopg [3] k (fun kq v3 w' => ∃ (x3_1 : Int), v3 = .int .i64 x3_1 ∧ Aside0 (hucksterlaw11_Light.l0 kq l0 x3_1 = some r) ∧ Aside0 (kq ≤ k) ∧ Drawn0 w w')
  case atStart => exact ⟨(0), (by first | rfl | (simp; done) | (simp [*]; done)), H', ⟨Nat.le_refl _⟩, by repeat (first | exact Drawn0.refl _ | apply Drawn0.step)⟩
  case round =>
    clear H'
    obtain ⟨x3_1, rfl, HA, HK1, ⟨m1, rfl⟩⟩ := hrel
    cases gk with
    | zero => exact absurd HA.out (by simp [hucksterlaw11_Light.l0])
    | succ k1 =>
      have H := HA.out
      clear HA
      simp only [hucksterlaw11_Light.l0] at H
      have HC2 := Aside0.mk H
      clear H
      go_upto_region 2 with (fail)
      go_cut [11] (fun v11 wc => ∃ (kq : Nat) (x11_1 : Bool), v11 = .bool x11_1 ∧ Aside0 (hucksterlaw11_Light.j1 kq l0 x3_1 x11_1 = some r) ∧ Aside0 (kq ≤ k1) ∧ Drawn0 w wc)
      case first =>
        have H := HC2.out
        clear HC2
        by_cases c3 : x3_1 < (l0.length : Int)
        · rw [if_pos c3] at H
          have c3b0 : decide (x3_1 < (l0.length : Int)) = true := decide_eq_true c3
          clear c3
          (first | rw [c3b0] | (simp only [i64_w, i32_w]; rw [c3b0]) | skip)
          have H' := Aside0.mk H
          clear H
          go_wp2
          go_meet
          case rel => exact ⟨_, (decide (x3_1 ≤ 60)), (by first | rfl | (simp; done) | (simp [*]; done)), H', ⟨by have := HK1.out; first | omega | exact Nat.le_refl _⟩, by repeat (first | exact Drawn0.refl _ | apply Drawn0.step)⟩
        · rw [if_neg c3] at H
          have c3b0 : decide (x3_1 < (l0.length : Int)) = false := decide_eq_false c3
          clear c3
          (first | rw [c3b0] | (simp only [i64_w, i32_w]; rw [c3b0]) | skip)
          have H' := Aside0.mk H
          clear H
          go_wp2
          go_meet
          case rel => exact ⟨_, (false), (by first | rfl | (simp; done) | (simp [*]; done)), H', ⟨by have := HK1.out; first | omega | exact Nat.le_refl _⟩, by repeat (first | exact Drawn0.refl _ | apply Drawn0.step)⟩
      case rest =>
        clear HC2
        try clear p2
        try clear c3
        try clear c3b0
        obtain ⟨kq, x11_1, rfl, HA, HJ1, ⟨mc1, rfl⟩⟩ := hcut
        cases kq with
        | zero => exact absurd HA.out (by simp [hucksterlaw11_Light.j1])
        | succ kj1 =>
          have H := HA.out
          clear HA
          simp only [hucksterlaw11_Light.j1] at H
          by_cases c4 : x11_1 = true
          · subst c4
            have H1 : (if 0 ≤ x3_1 then (if x3_1 < (l0.length : Int) then (if (((rd_T94 l0 x3_1).f0).size : Int) > 100 then (some false) else (hucksterlaw11_Light.l0 kj1 l0 (wrap64 (x3_1 + 1)))) else (none)) else (none)) = some r := by rw [if_pos rfl] at H; exact H
            clear H
            have H := H1
            clear H1
            by_cases c5 : 0 ≤ x3_1
            · rw [if_pos c5] at H
              have c5b0 : decide (0 ≤ x3_1) = true := decide_eq_true c5
              clear c5
              by_cases c6 : x3_1 < (l0.length : Int)
              · rw [if_pos c6] at H
                have c6b0 : decide (x3_1 < (l0.length : Int)) = true := decide_eq_true c6
                clear c6
                by_cases c7 : (((rd_T94 l0 x3_1).f0).size : Int) > 100
                · rw [if_pos c7] at H
                  have c7b0 : decide (100 < (((rd_T94 l0 x3_1).f0).size : Int)) = true := decide_eq_true c7
                  have c7b1 : decide (100 < ((rd_T94 l0 x3_1).f0).size) = true := decide_eq_true (by omega)
                  clear c7
                  obtain rfl := Option.some.inj H
                  have p101 : 0 ≤ (x3_1 : Int) := of_decide_eq_true (by first | (with_reducible assumption) | assumption)
                  have q101 : x3_1 < (l0.length : Int) := of_decide_eq_true (by first | (with_reducible assumption) | assumption)
                  obtain ⟨ad101, e101, hx101_0, hx101_1, hx101_2, hx101_3, hx101_4, hx101_5⟩ := at_T94 HR0.out x3_1 p101 q101
                  cases e101
                  replace p101 := eq_true p101
                  replace q101 := eq_true q101
                  go_wp2
                  go_ret
                  exact ⟨by first | rfl | (simp; done) | (simp [*]; done), by repeat (first | exact Drawn0.refl _ | apply Drawn0.step)⟩
                · rw [if_neg c7] at H
                  have c7b0 : decide (100 < (((rd_T94 l0 x3_1).f0).size : Int)) = false := decide_eq_false c7
                  have c7b1 : decide (100 < ((rd_T94 l0 x3_1).f0).size) = false := decide_eq_false (by omega)
                  clear c7
                  have H' := Aside0.mk H
                  clear H
                  have p101 : 0 ≤ (x3_1 : Int) := of_decide_eq_true (by first | (with_reducible assumption) | assumption)
                  have q101 : x3_1 < (l0.length : Int) := of_decide_eq_true (by first | (with_reducible assumption) | assumption)
                  obtain ⟨ad101, e101, hx101_0, hx101_1, hx101_2, hx101_3, hx101_4, hx101_5⟩ := at_T94 HR0.out x3_1 p101 q101
                  cases e101
                  replace p101 := eq_true p101
                  replace q101 := eq_true q101
                  go_wp2
                  go_roundg kj1
                  case measure => have := HK1.out; have := HJ1.out; omega
                  case rel => exact ⟨(wrap64 (x3_1 + 1)), (by first | rfl | (simp; done) | (simp [*]; done)), H', ⟨by have := HK1.out; have := HJ1.out; omega⟩, by repeat (first | exact Drawn0.refl _ | apply Drawn0.step)⟩
              · rw [if_neg c6] at H
                exact absurd H (by simp)
            · rw [if_neg c5] at H
              exact absurd H (by simp)
          · replace c4 := Bool.eq_false_iff.mpr c4
            subst c4
            have H1 : (some (decide ((l0.length : Int) ≤ 60))) = some r := by rw [if_neg (show ¬ (false = true) by decide)] at H; exact H
            clear H
            have H := H1
            clear H1
            obtain rfl := Option.some.inj H
            go_wp2
            go_ret
            exact ⟨by first | rfl | (simp; done) | (simp [*]; done), by repeat (first | exact Drawn0.refl _ | apply Drawn0.step)⟩

end Go.Proofs.Ytfnpiclioikjpaa.X

/- The laws' helpers on accounts. -/
set_option linter.unusedSimpArgs false
set_option linter.unusedVariables false
namespace Go.Proofs.Ytfnpiclioikjpaa.X
open Go.RowKit Go.Proofs.YtfnpiclioikjpaaW.PrintWords Go.Proofs.YtfnpiclioikjpaaW.PrintLast Go.Proofs.YtfnpiclioikjpaaW.PrintMore

theorem wrapIdA {n : Int} (h : -9223372036854775808 ≤ n) (k : n ≤ 9223372036854775807) : wrap64 n = n := by unfold wrap64; omega
theorem awake11 : Ev (fun k => hucksterlaw11_awake.f k) true := Ev.of hucksterlaw11_awake.mono (k := 40) (by decide +kernel)
theorem light11_from (l : List Ac) : ∀ (n pos : Nat), pos + n = 61 → ∃ b, Ev (fun k => hucksterlaw11_Light.l0 k l (pos : Int)) b ∧ (b = true → l.length ≤ 60) := by
  intro n
  induction n with
  | zero =>
    intro pos hp
    refine ⟨decide ((l.length : Int) ≤ 60), ?_, fun h => by simp at h; omega⟩
    refine Ev.succ ?_
    simp only [hucksterlaw11_Light.l0]
    by_cases h : (pos : Int) < (l.length : Int)
    · refine Ev.yes h (Ev.succ ?_)
      simp only [hucksterlaw11_Light.j1]
      exact Ev.no (by simp; omega) (Ev.now _)
    · refine Ev.no h (Ev.succ ?_)
      simp only [hucksterlaw11_Light.j1]
      exact Ev.no (by simp) (Ev.now _)
  | succ n ih =>
    intro pos hp
    by_cases h : (pos : Int) < (l.length : Int)
    · by_cases h1 : ((rd_T94 l (pos : Int)).f0.size : Int) > 100
      · refine ⟨false, ?_, fun h => by cases h⟩
        refine Ev.succ ?_
        simp only [hucksterlaw11_Light.l0]
        refine Ev.yes h (Ev.succ ?_)
        simp only [hucksterlaw11_Light.j1]
        exact Ev.yes (by simp; omega) (Ev.yes (by omega) (Ev.yes h (Ev.yes h1 (Ev.now _))))
      · obtain ⟨b, hb, hl⟩ := ih (pos + 1) (by omega)
        refine ⟨b, ?_, hl⟩
        refine Ev.succ ?_
        simp only [hucksterlaw11_Light.l0]
        refine Ev.yes h (Ev.succ ?_)
        simp only [hucksterlaw11_Light.j1]
        rw [wrap_up pos (by omega)]
        exact Ev.yes (by simp; omega) (Ev.yes (by omega) (Ev.yes h (Ev.no h1 hb)))
    · refine ⟨decide ((l.length : Int) ≤ 60), ?_, fun h => by simp at h; omega⟩
      refine Ev.succ ?_
      simp only [hucksterlaw11_Light.l0]
      refine Ev.no h (Ev.succ ?_)
      simp only [hucksterlaw11_Light.j1]
      exact Ev.no (by simp) (Ev.now _)
theorem light11 (l : List Ac) : ∃ b, Ev (fun k => hucksterlaw11_Light.f k l) b ∧ (b = true → l.length ≤ 60) := light11_from l 61 0 (by omega)

/-! #### May -/
def mayG (l : List Ac) (key : ByteArray) (rep floor n : Int) : Bool := chkA l && (keyR key && (repOk rep && (lowOk floor && (decide (1 ≤ n) && decide (n ≤ 1000)))))
def mayE (l : List Ac) (key : ByteArray) (rep floor n : Int) : Int := if mayG l key rep floor n = true then (if rgR (getA l key) rep floor < n then 5 else 0) else 1
theorem may_is (l : List Ac) (key : ByteArray) (rep floor n : Int) : Ev (fun k => escrow_May.f k l key rep floor n) (mayE l key rep floor n) := by
  have j0t : Ev (fun k => escrow_May.j0 k l key rep floor n true) 1 := by
    refine Ev.succ ?_
    simp only [escrow_May.j0]
    exact Ev.yes (by simp) (Ev.now _)
  unfold escrow_May.f mayE mayG
  cases hc : chkA l with
  | false =>
    refine Ev.bind1 (a := 1) (by unfold escrow_Check.f; rw [hc]; rfl) (Ev.no (by simp) ?_)
    exact j0t
  | true =>
    refine Ev.bind1 (a := 0) (by unfold escrow_Check.f; rw [hc]; rfl) (Ev.yes (by simp) ?_)
    cases hk : keyR key with
    | false =>
      refine Ev.bind1 (right_is' hk) (Ev.no (by simp) ?_)
      exact j0t
    | true =>
      refine Ev.bind1 (right_is' hk) (Ev.yes (by simp) ?_)
      cases hr : repOk rep with
      | false =>
        refine Ev.bind1 (there_is' hr) (Ev.no (by simp) ?_)
        exact j0t
      | true =>
        refine Ev.bind1 (there_is' hr) (Ev.yes (by simp) ?_)
        cases hf : lowOk floor with
        | false =>
          refine Ev.bind1 (low_is' hf) (Ev.no (by simp) ?_)
          exact j0t
        | true =>
          refine Ev.bind1 (low_is' hf) (Ev.yes (by simp) ?_)
          by_cases h1 : n < 1
          · rw [decide_eq_false (show ¬ 1 ≤ n by omega), decide_eq_true h1]
            exact Ev.yes h1 j0t
          · refine Ev.no h1 ?_
            rw [decide_eq_true (show 1 ≤ n by omega)]
            by_cases h2 : n > 1000
            · rw [decide_eq_true h2, decide_eq_false (show ¬ n ≤ 1000 by omega)]
              exact j0t
            · rw [decide_eq_false h2, decide_eq_true (show n ≤ 1000 by omega)]
              refine Ev.succ ?_
              simp only [escrow_May.j0]
              refine Ev.no (by decide) (Ev.bind1 (a := rgR (getA l key) rep floor) (by unfold escrow_Rights.f rgB; rw [hc, hr, hf]; rfl) ?_)
              by_cases h3 : rgR (getA l key) rep floor < n
              · exact Ev.yes h3 (Ev.is (by simp [h3]))
              · exact Ev.no h3 (Ev.is (by simp [h3]))

/-! #### the reference -/
theorem get11 {l : List Ac} (hl : l.length ≤ 4000000000) (key : ByteArray) (rep : Int) : hucksterref11_Get.f l key rep = some (getR l key rep) := by
  unfold hucksterref11_Get.f; rw [if_pos hl]
theorem getR_at {rep : Int} (hr : repOk rep = true) (l : List Ac) (key : ByteArray) : getR l key rep = hv (getA l key) (rep - 1).toNat := by
  unfold getR; rw [if_pos hr]
theorem repOk_iff (rep : Int) : repOk rep = true ↔ 1 ≤ rep ∧ rep ≤ 5 := by unfold repOk; rw [Bool.and_eq_true, decide_eq_true_eq, decide_eq_true_eq]
theorem lowOk_iff (f : Int) : lowOk f = true ↔ -1000 ≤ f ∧ f ≤ 0 := by unfold lowOk; rw [Bool.and_eq_true, decide_eq_true_eq, decide_eq_true_eq]; omega
theorem refNumber_is {l : List Ac} (hl : l.length ≤ 4000000000) (hc : chkA l = true) (key : ByteArray) : Ev (fun k => hucksterref11_Number.f k l key) (numH (getA l key)) := by
  have hb := getA_bd hc key
  have b0 := hb 0 (by omega); have b1 := hb 1 (by omega); have b2 := hb 2 (by omega); have b3 := hb 3 (by omega); have b4 := hb 4 (by omega)
  unfold hucksterref11_Number.f numH
  simp only [hv] at b0 b1 b2 b3 b4
  refine Ev.succ ?_
  simp only [hucksterref11_Number.l0]
  refine Ev.yes (by omega) (Ev.bind1 (get11 hl key 1) (Ev.succ ?_))
  rw [getR_at (by decide), show hv (getA l key) ((1 : Int) - 1).toNat = (getA l key).f0 from rfl, show wrap64 (1 + 1) = 2 by unfold wrap64; omega, wrapIdA (by omega) (by omega)]
  simp only [hucksterref11_Number.l0]
  refine Ev.yes (by omega) (Ev.bind1 (get11 hl key 2) (Ev.succ ?_))
  rw [getR_at (by decide), show hv (getA l key) ((2 : Int) - 1).toNat = (getA l key).f1 from rfl, show wrap64 (2 + 1) = 3 by unfold wrap64; omega, wrapIdA (by omega) (by omega)]
  simp only [hucksterref11_Number.l0]
  refine Ev.yes (by omega) (Ev.bind1 (get11 hl key 3) (Ev.succ ?_))
  rw [getR_at (by decide), show hv (getA l key) ((3 : Int) - 1).toNat = (getA l key).f2 from rfl, show wrap64 (3 + 1) = 4 by unfold wrap64; omega, wrapIdA (by omega) (by omega)]
  simp only [hucksterref11_Number.l0]
  refine Ev.yes (by omega) (Ev.bind1 (get11 hl key 4) (Ev.succ ?_))
  rw [getR_at (by decide), show hv (getA l key) ((4 : Int) - 1).toNat = (getA l key).f3 from rfl, show wrap64 (4 + 1) = 5 by unfold wrap64; omega, wrapIdA (by omega) (by omega)]
  simp only [hucksterref11_Number.l0]
  refine Ev.yes (by omega) (Ev.bind1 (get11 hl key 5) (Ev.succ ?_))
  rw [getR_at (by decide), show hv (getA l key) ((5 : Int) - 1).toNat = (getA l key).f4 from rfl, show wrap64 (5 + 1) = 6 by unfold wrap64; omega, wrapIdA (by omega) (by omega)]
  simp only [hucksterref11_Number.l0]
  exact Ev.no (by omega) (Ev.is (by omega))
theorem refRights_is {l : List Ac} (hl : l.length ≤ 4000000000) {rep floor : Int} (hb : rgB l rep floor = true) (key : ByteArray) : hucksterref11_Rights.f l key rep floor = some (rgR (getA l key) rep floor) := by
  unfold rgB at hb
  simp only [Bool.and_eq_true] at hb
  obtain ⟨hc, hr, hf⟩ := hb
  have hf' := (lowOk_iff floor).1 hf
  have hr' := (repOk_iff rep).1 hr
  have hbd := getA_bd hc key (rep - 1).toNat (by omega)
  unfold hucksterref11_Rights.f rgR
  rw [get11 hl, getR_at hr]
  by_cases h : rep = 1
  · rw [if_pos h, if_pos h, Option.bind_some, wrapIdA (by omega) (by omega)]
  · rw [if_neg h, if_neg h, Option.bind_some]
theorem sameS_from (l : List Ac) (hl : l.length ≤ 4000000000) : ∀ (n pos : Nat), pos + n = l.length → Ev (fun k => api_Account.l0 k l l (l.length : Int) (pos : Int)) true := by
  intro n
  induction n with
  | zero =>
    intro pos hp
    refine Ev.succ ?_
    simp only [api_Account.l0]
    exact Ev.no (by omega) (Ev.now _)
  | succ n ih =>
    intro pos hp
    refine Ev.succ ?_
    simp only [api_Account.l0]
    refine Ev.yes (by omega) (Ev.yes (by omega) (Ev.yes (by omega) (Ev.yes (by omega) (Ev.no (by simp) ?_))))
    rw [wrap_up pos (by omega)]
    exact ih (pos + 1) (by omega)
theorem sameS_is (l : List Ac) (hl : l.length ≤ 4000000000) : Ev (fun k => escrow_Same.f k l l) true := by
  unfold escrow_Same.f api_Account.f
  exact Ev.bind (Ev.yes rfl (sameS_from l hl l.length 0 (by omega))) (Ev.now _)
theorem sameR_from (l : List Ac) (hl : l.length ≤ 4000000000) : ∀ (n pos : Nat), pos + n = l.length → Ev (fun k => hucksterref11_Same.l0 k l l (pos : Int)) true := by
  intro n
  induction n with
  | zero =>
    intro pos hp
    refine Ev.succ ?_
    simp only [hucksterref11_Same.l0]
    exact Ev.no (by omega) (Ev.now _)
  | succ n ih =>
    intro pos hp
    refine Ev.succ ?_
    simp only [hucksterref11_Same.l0]
    refine Ev.yes (by omega) (Ev.yes (by omega) (Ev.yes (by omega) (Ev.no (by simp) ?_)))
    rw [wrap_up pos (by omega)]
    exact ih (pos + 1) (by omega)
theorem sameR_is (l : List Ac) (hl : l.length ≤ 4000000000) : Ev (fun k => hucksterref11_Same.f k l l) true := by
  unfold hucksterref11_Same.f
  exact Ev.yes rfl (sameR_from l hl l.length 0 (by omega))
end Go.Proofs.Ytfnpiclioikjpaa.X

/- escrow.Move, walked. -/
set_option linter.unusedSimpArgs false
set_option linter.unusedVariables false
namespace Go.Proofs.Ytfnpiclioikjpaa.X
open Go.RowKit Go.Proofs.YtfnpiclioikjpaaW.PrintWords Go.Proofs.YtfnpiclioikjpaaW.PrintLast Go.Proofs.YtfnpiclioikjpaaW.PrintMore
def mvB (l : List Ac) (key : ByteArray) (rep tp n : Int) : Bool := chkA l && (keyR key && (repOk rep && (repOk tp && (decide (1 ≤ n) && decide (n ≤ 1000)))))
def mvR (h : Hv) (rep tp n : Int) : Hv := setH (setH h (rep - 1).toNat (hv h (rep - 1).toNat - n)) (tp - 1).toNat (hv (setH h (rep - 1).toNat (hv h (rep - 1).toNat - n)) (tp - 1).toNat + n)
set_option maxHeartbeats 8000000 in
set_option maxRecDepth 100000 in
theorem mv_bad (A0 : Option Addr) (c0 : Nat) (l0 : List Ac) (key : ByteArray) (rep tp n : Int) (w : World) (hr0 : Kd.C k94 w A0 l0.length l0) (hc0 : l0.length ≤ c0) (h : mvB l0 key rep tp n = false) :
    Calls Try.prog 42 #[.slice A0 l0.length c0, .string key, .int .i64 rep, .int .i64 tp, .int .i64 n] w (EscPost w ([], 1)) := by
  have HR := Aside0.mk hr0
  clear hr0
  cases hc : chkA l0 with
  | false =>
    clear h
    go_enter Try.func42, Try.ntmps42
    go_wp2_with fail
    refine (chkA_call A0 c0 l0 _ HR.out hc0 1 (by rw [hc]; rfl)).mono ?_
    rintro e w1 ⟨rfl, hb1⟩
    have HB1 := Aside0.mk hb1
    clear hb1
    go_wp2_with fail
    go_ret2
    exact ⟨_, rfl, Kd.R_nil _ _ _ _ _, by repeat (first | exact HB1.out | apply pw_below_drewN)⟩
  | true =>
    unfold mvB at h
    rw [hc, Bool.true_and] at h
    cases hg0 : keyR key with
    | false =>
      clear h
      go_enter Try.func42, Try.ntmps42
      go_wp2_with fail
      refine (chkA_call A0 c0 l0 _ HR.out hc0 0 (by rw [hc]; rfl)).mono ?_
      rintro e w1 ⟨rfl, hb1⟩
      have HB1 := Aside0.mk hb1
      clear hb1
      go_wp2_with fail
      refine (escrow_right.calls key false _ (right_is' hg0)).mono ?_
      rintro e w2 ⟨rfl, ⟨nd2, rfl⟩⟩
      go_wp2_with fail
      go_ret2
      exact ⟨_, rfl, Kd.R_nil _ _ _ _ _, by repeat (first | exact HB1.out | apply pw_below_drewN)⟩
    | true =>
      rw [hg0, Bool.true_and] at h
      cases hg1 : repOk rep with
      | false =>
        clear h
        go_enter Try.func42, Try.ntmps42
        go_wp2_with fail
        refine (chkA_call A0 c0 l0 _ HR.out hc0 0 (by rw [hc]; rfl)).mono ?_
        rintro e w1 ⟨rfl, hb1⟩
        have HB1 := Aside0.mk hb1
        clear hb1
        go_wp2_with fail
        refine (escrow_right.calls key true _ (right_is' hg0)).mono ?_
        rintro e w2 ⟨rfl, ⟨nd2, rfl⟩⟩
        go_wp2_with fail
        refine (escrow_there.calls rep false _ (there_is' hg1)).mono ?_
        rintro e w3 ⟨rfl, ⟨nd3, rfl⟩⟩
        go_wp2_with fail
        go_ret2
        exact ⟨_, rfl, Kd.R_nil _ _ _ _ _, by repeat (first | exact HB1.out | apply pw_below_drewN)⟩
      | true =>
        rw [hg1, Bool.true_and] at h
        cases hg2 : repOk tp with
        | false =>
          clear h
          go_enter Try.func42, Try.ntmps42
          go_wp2_with fail
          refine (chkA_call A0 c0 l0 _ HR.out hc0 0 (by rw [hc]; rfl)).mono ?_
          rintro e w1 ⟨rfl, hb1⟩
          have HB1 := Aside0.mk hb1
          clear hb1
          go_wp2_with fail
          refine (escrow_right.calls key true _ (right_is' hg0)).mono ?_
          rintro e w2 ⟨rfl, ⟨nd2, rfl⟩⟩
          go_wp2_with fail
          refine (escrow_there.calls rep true _ (there_is' hg1)).mono ?_
          rintro e w3 ⟨rfl, ⟨nd3, rfl⟩⟩
          go_wp2_with fail
          refine (escrow_there.calls tp false _ (there_is' hg2)).mono ?_
          rintro e w4 ⟨rfl, ⟨nd4, rfl⟩⟩
          go_wp2_with fail
          go_ret2
          exact ⟨_, rfl, Kd.R_nil _ _ _ _ _, by repeat (first | exact HB1.out | apply pw_below_drewN)⟩
        | true =>
          rw [hg2, Bool.true_and] at h
          by_cases ht0 : 1 ≤ n
          · rw [decide_eq_true ht0, Bool.true_and] at h
            have hw0 : decide (n < (1 : Int)) = false := by simp; omega
            by_cases ht1 : n ≤ 1000
            · exact absurd h (by simp [ht1])
            · have hw1 : decide ((1000 : Int) < n) = true := by simp; omega
              clear h
              go_enter Try.func42, Try.ntmps42
              go_wp2_with fail
              refine (chkA_call A0 c0 l0 _ HR.out hc0 0 (by rw [hc]; rfl)).mono ?_
              rintro e w1 ⟨rfl, hb1⟩
              have HB1 := Aside0.mk hb1
              clear hb1
              go_wp2_with fail
              refine (escrow_right.calls key true _ (right_is' hg0)).mono ?_
              rintro e w2 ⟨rfl, ⟨nd2, rfl⟩⟩
              go_wp2_with fail
              refine (escrow_there.calls rep true _ (there_is' hg1)).mono ?_
              rintro e w3 ⟨rfl, ⟨nd3, rfl⟩⟩
              go_wp2_with fail
              refine (escrow_there.calls tp true _ (there_is' hg2)).mono ?_
              rintro e w4 ⟨rfl, ⟨nd4, rfl⟩⟩
              go_wp2_with fail
              go_ret2
              exact ⟨_, rfl, Kd.R_nil _ _ _ _ _, by repeat (first | exact HB1.out | apply pw_below_drewN)⟩
          · have hw0 : decide (n < (1 : Int)) = true := by simp; omega
            clear h
            go_enter Try.func42, Try.ntmps42
            go_wp2_with fail
            refine (chkA_call A0 c0 l0 _ HR.out hc0 0 (by rw [hc]; rfl)).mono ?_
            rintro e w1 ⟨rfl, hb1⟩
            have HB1 := Aside0.mk hb1
            clear hb1
            go_wp2_with fail
            refine (escrow_right.calls key true _ (right_is' hg0)).mono ?_
            rintro e w2 ⟨rfl, ⟨nd2, rfl⟩⟩
            go_wp2_with fail
            refine (escrow_there.calls rep true _ (there_is' hg1)).mono ?_
            rintro e w3 ⟨rfl, ⟨nd3, rfl⟩⟩
            go_wp2_with fail
            refine (escrow_there.calls tp true _ (there_is' hg2)).mono ?_
            rintro e w4 ⟨rfl, ⟨nd4, rfl⟩⟩
            go_wp2_with fail
            go_ret2
            exact ⟨_, rfl, Kd.R_nil _ _ _ _ _, by repeat (first | exact HB1.out | apply pw_below_drewN)⟩
set_option maxHeartbeats 16000000 in
set_option maxRecDepth 100000 in
theorem mv_go (A0 : Option Addr) (c0 : Nat) (l0 : List Ac) (key : ByteArray) (rep tp n : Int) (w : World) (hr0 : Kd.C k94 w A0 l0.length l0) (hc0 : l0.length ≤ c0) (h : mvB l0 key rep tp n = true) :
    Calls Try.prog 42 #[.slice A0 l0.length c0, .string key, .int .i64 rep, .int .i64 tp, .int .i64 n] w (EscPost w (if chkA (setA l0 key (mvR (getA l0 key) rep tp n)) = true then (setA l0 key (mvR (getA l0 key) rep tp n), 0) else ([], 6))) := by
  have HR := Aside0.mk hr0
  unfold mvB at h
  simp only [Bool.and_eq_true, decide_eq_true_eq] at h
  obtain ⟨hc, hk, hr, ht, hn1, hn2⟩ := h
  have hr' := hr
  have ht' := ht
  unfold repOk at hr' ht'
  simp only [Bool.and_eq_true, decide_eq_true_eq] at hr' ht'
  obtain ⟨hl4, _, hord⟩ := (chkA_iff l0).1 hc
  have HO := Aside0.mk hord
  have HCC := Aside0.mk hc
  have hbd := getA_bd hc key
  generalize hga : getA l0 key = ga at *
  obtain ⟨g0, g1, g2, g3, g4⟩ := ga
  have b0 := hbd 0 (by omega)
  have b1 := hbd 1 (by omega)
  have b2 := hbd 2 (by omega)
  have b3 := hbd 3 (by omega)
  have b4 := hbd 4 (by omega)
  simp only [hv] at b0 b1 b2 b3 b4
  obtain ⟨b0, b0'⟩ := b0
  obtain ⟨b1, b1'⟩ := b1
  obtain ⟨b2, b2'⟩ := b2
  obtain ⟨b3, b3'⟩ := b3
  obtain ⟨b4, b4'⟩ := b4
  have HGA := Aside0.mk hga
  clear hbd hord hr0 hga
  have hn1' : decide (n < (1 : Int)) = false := by simp; omega
  have hn2' : decide ((1000 : Int) < n) = false := by simp; omega
  rcases (by omega : rep = 1 ∨ rep = 2 ∨ rep = 3 ∨ rep = 4 ∨ rep = 5) with rfl | rfl | rfl | rfl | rfl <;> rcases (by omega : tp = 1 ∨ tp = 2 ∨ tp = 3 ∨ tp = 4 ∨ tp = 5) with rfl | rfl | rfl | rfl | rfl
  · clear hr' ht'
    rw [show mvR ⟨g0, g1, g2, g3, g4⟩ 1 1 n = ⟨g0, g1, g2, g3, g4⟩ from by simp [mvR, setH, hv]]
    obtain ⟨rr, hrr⟩ : ∃ rr, rr = (if chkA (setA l0 key ⟨g0, g1, g2, g3, g4⟩) = true then (setA l0 key ⟨g0, g1, g2, g3, g4⟩, (0 : Int)) else ([], 6)) := ⟨_, rfl⟩
    rw [← hrr]
    have HQ := Aside0.mk hrr
    clear hrr
    go_enter Try.func42, Try.ntmps42
    go_wp2_with fail
    refine (chkA_call A0 c0 l0 _ HR.out hc0 0 (by rw [hc]; rfl)).mono ?_
    rintro e w1 ⟨rfl, hb1⟩
    have HB1 := Aside0.mk hb1
    clear hb1
    go_wp2_with fail
    refine (escrow_right.calls key true _ (right_is' hk)).mono ?_
    rintro e w2 ⟨rfl, ⟨nd2, rfl⟩⟩
    go_wp2_with fail
    refine (escrow_there.calls 1 true _ (there_is' hr)).mono ?_
    rintro e w3 ⟨rfl, ⟨nd3, rfl⟩⟩
    go_wp2_with fail
    refine (escrow_there.calls 1 true _ (there_is' ht)).mono ?_
    rintro e w4 ⟨rfl, ⟨nd4, rfl⟩⟩
    go_wp2_with fail
    refine (findA_call A0 c0 l0 key _ (by repeat (first | exact Kd.C_below HR.out HB1.out | (with_reducible refine Kd.C_drewN ?_ _))) hc0 (by omega) HO.out).mono ?_
    rintro e w5 hfp
    obtain ⟨rfl, hb5⟩ := hfp
    rw [HGA.out]
    have HB5 : Aside0 (Below w.heap.size w w5) := ⟨below_step (by repeat (first | exact HB1.out | apply pw_below_drewN)) hb5⟩
    clear hb5
    go_wp2_with fail
    refine (put_call A0 c0 l0 key (g0) (g1) (g2) (g3) (g4) _ ?hC hc0 HCC.out).mono ?_
    case hC =>
      repeat (first | exact Kd.C_below HR.out HB5.out | (with_reducible refine Kd.C_alloc ?_ _) | exact Kd.C_below (Kd.C_below HR.out HB5.out) (cellBelow _ _ _ _))
    rintro e w6 hp6
    rw [← HQ.out] at hp6
    obtain ⟨v6, rfl, hR6, hb6⟩ := hp6
    go_wp2_with fail
    go_ret2
    exact esc_end (v6 := v6) HB5.out (by first | exact below_alloc (Below.refl _ _) _ | exact cellBelow _ _ _ _) hR6 hb6
  · clear hr' ht'
    rw [show mvR ⟨g0, g1, g2, g3, g4⟩ 1 2 n = ⟨g0 - n, g1 + n, g2, g3, g4⟩ from by simp [mvR, setH, hv]]
    obtain ⟨rr, hrr⟩ : ∃ rr, rr = (if chkA (setA l0 key ⟨g0 - n, g1 + n, g2, g3, g4⟩) = true then (setA l0 key ⟨g0 - n, g1 + n, g2, g3, g4⟩, (0 : Int)) else ([], 6)) := ⟨_, rfl⟩
    rw [← hrr]
    have HQ := Aside0.mk hrr
    clear hrr
    go_enter Try.func42, Try.ntmps42
    go_wp2_with fail
    refine (chkA_call A0 c0 l0 _ HR.out hc0 0 (by rw [hc]; rfl)).mono ?_
    rintro e w1 ⟨rfl, hb1⟩
    have HB1 := Aside0.mk hb1
    clear hb1
    go_wp2_with fail
    refine (escrow_right.calls key true _ (right_is' hk)).mono ?_
    rintro e w2 ⟨rfl, ⟨nd2, rfl⟩⟩
    go_wp2_with fail
    refine (escrow_there.calls 1 true _ (there_is' hr)).mono ?_
    rintro e w3 ⟨rfl, ⟨nd3, rfl⟩⟩
    go_wp2_with fail
    refine (escrow_there.calls 2 true _ (there_is' ht)).mono ?_
    rintro e w4 ⟨rfl, ⟨nd4, rfl⟩⟩
    go_wp2_with fail
    refine (findA_call A0 c0 l0 key _ (by repeat (first | exact Kd.C_below HR.out HB1.out | (with_reducible refine Kd.C_drewN ?_ _))) hc0 (by omega) HO.out).mono ?_
    rintro e w5 hfp
    obtain ⟨rfl, hb5⟩ := hfp
    rw [HGA.out]
    have HB5 : Aside0 (Below w.heap.size w w5) := ⟨below_step (by repeat (first | exact HB1.out | apply pw_below_drewN)) hb5⟩
    clear hb5
    go_wp2_with fail
    refine (put_call A0 c0 l0 key (g0 - n) (g1 + n) (g2) (g3) (g4) _ ?hC hc0 HCC.out).mono ?_
    case hC =>
      repeat (first | exact Kd.C_below HR.out HB5.out | (with_reducible refine Kd.C_alloc ?_ _) | exact Kd.C_below (Kd.C_below HR.out HB5.out) (cellBelow _ _ _ _))
    rintro e w6 hp6
    rw [← HQ.out] at hp6
    obtain ⟨v6, rfl, hR6, hb6⟩ := hp6
    go_wp2_with fail
    go_ret2
    exact esc_end (v6 := v6) HB5.out (by first | exact below_alloc (Below.refl _ _) _ | exact cellBelow _ _ _ _) hR6 hb6
  · clear hr' ht'
    rw [show mvR ⟨g0, g1, g2, g3, g4⟩ 1 3 n = ⟨g0 - n, g1, g2 + n, g3, g4⟩ from by simp [mvR, setH, hv]]
    obtain ⟨rr, hrr⟩ : ∃ rr, rr = (if chkA (setA l0 key ⟨g0 - n, g1, g2 + n, g3, g4⟩) = true then (setA l0 key ⟨g0 - n, g1, g2 + n, g3, g4⟩, (0 : Int)) else ([], 6)) := ⟨_, rfl⟩
    rw [← hrr]
    have HQ := Aside0.mk hrr
    clear hrr
    go_enter Try.func42, Try.ntmps42
    go_wp2_with fail
    refine (chkA_call A0 c0 l0 _ HR.out hc0 0 (by rw [hc]; rfl)).mono ?_
    rintro e w1 ⟨rfl, hb1⟩
    have HB1 := Aside0.mk hb1
    clear hb1
    go_wp2_with fail
    refine (escrow_right.calls key true _ (right_is' hk)).mono ?_
    rintro e w2 ⟨rfl, ⟨nd2, rfl⟩⟩
    go_wp2_with fail
    refine (escrow_there.calls 1 true _ (there_is' hr)).mono ?_
    rintro e w3 ⟨rfl, ⟨nd3, rfl⟩⟩
    go_wp2_with fail
    refine (escrow_there.calls 3 true _ (there_is' ht)).mono ?_
    rintro e w4 ⟨rfl, ⟨nd4, rfl⟩⟩
    go_wp2_with fail
    refine (findA_call A0 c0 l0 key _ (by repeat (first | exact Kd.C_below HR.out HB1.out | (with_reducible refine Kd.C_drewN ?_ _))) hc0 (by omega) HO.out).mono ?_
    rintro e w5 hfp
    obtain ⟨rfl, hb5⟩ := hfp
    rw [HGA.out]
    have HB5 : Aside0 (Below w.heap.size w w5) := ⟨below_step (by repeat (first | exact HB1.out | apply pw_below_drewN)) hb5⟩
    clear hb5
    go_wp2_with fail
    refine (put_call A0 c0 l0 key (g0 - n) (g1) (g2 + n) (g3) (g4) _ ?hC hc0 HCC.out).mono ?_
    case hC =>
      repeat (first | exact Kd.C_below HR.out HB5.out | (with_reducible refine Kd.C_alloc ?_ _) | exact Kd.C_below (Kd.C_below HR.out HB5.out) (cellBelow _ _ _ _))
    rintro e w6 hp6
    rw [← HQ.out] at hp6
    obtain ⟨v6, rfl, hR6, hb6⟩ := hp6
    go_wp2_with fail
    go_ret2
    exact esc_end (v6 := v6) HB5.out (by first | exact below_alloc (Below.refl _ _) _ | exact cellBelow _ _ _ _) hR6 hb6
  · clear hr' ht'
    rw [show mvR ⟨g0, g1, g2, g3, g4⟩ 1 4 n = ⟨g0 - n, g1, g2, g3 + n, g4⟩ from by simp [mvR, setH, hv]]
    obtain ⟨rr, hrr⟩ : ∃ rr, rr = (if chkA (setA l0 key ⟨g0 - n, g1, g2, g3 + n, g4⟩) = true then (setA l0 key ⟨g0 - n, g1, g2, g3 + n, g4⟩, (0 : Int)) else ([], 6)) := ⟨_, rfl⟩
    rw [← hrr]
    have HQ := Aside0.mk hrr
    clear hrr
    go_enter Try.func42, Try.ntmps42
    go_wp2_with fail
    refine (chkA_call A0 c0 l0 _ HR.out hc0 0 (by rw [hc]; rfl)).mono ?_
    rintro e w1 ⟨rfl, hb1⟩
    have HB1 := Aside0.mk hb1
    clear hb1
    go_wp2_with fail
    refine (escrow_right.calls key true _ (right_is' hk)).mono ?_
    rintro e w2 ⟨rfl, ⟨nd2, rfl⟩⟩
    go_wp2_with fail
    refine (escrow_there.calls 1 true _ (there_is' hr)).mono ?_
    rintro e w3 ⟨rfl, ⟨nd3, rfl⟩⟩
    go_wp2_with fail
    refine (escrow_there.calls 4 true _ (there_is' ht)).mono ?_
    rintro e w4 ⟨rfl, ⟨nd4, rfl⟩⟩
    go_wp2_with fail
    refine (findA_call A0 c0 l0 key _ (by repeat (first | exact Kd.C_below HR.out HB1.out | (with_reducible refine Kd.C_drewN ?_ _))) hc0 (by omega) HO.out).mono ?_
    rintro e w5 hfp
    obtain ⟨rfl, hb5⟩ := hfp
    rw [HGA.out]
    have HB5 : Aside0 (Below w.heap.size w w5) := ⟨below_step (by repeat (first | exact HB1.out | apply pw_below_drewN)) hb5⟩
    clear hb5
    go_wp2_with fail
    refine (put_call A0 c0 l0 key (g0 - n) (g1) (g2) (g3 + n) (g4) _ ?hC hc0 HCC.out).mono ?_
    case hC =>
      repeat (first | exact Kd.C_below HR.out HB5.out | (with_reducible refine Kd.C_alloc ?_ _) | exact Kd.C_below (Kd.C_below HR.out HB5.out) (cellBelow _ _ _ _))
    rintro e w6 hp6
    rw [← HQ.out] at hp6
    obtain ⟨v6, rfl, hR6, hb6⟩ := hp6
    go_wp2_with fail
    go_ret2
    exact esc_end (v6 := v6) HB5.out (by first | exact below_alloc (Below.refl _ _) _ | exact cellBelow _ _ _ _) hR6 hb6
  · clear hr' ht'
    rw [show mvR ⟨g0, g1, g2, g3, g4⟩ 1 5 n = ⟨g0 - n, g1, g2, g3, g4 + n⟩ from by simp [mvR, setH, hv]]
    obtain ⟨rr, hrr⟩ : ∃ rr, rr = (if chkA (setA l0 key ⟨g0 - n, g1, g2, g3, g4 + n⟩) = true then (setA l0 key ⟨g0 - n, g1, g2, g3, g4 + n⟩, (0 : Int)) else ([], 6)) := ⟨_, rfl⟩
    rw [← hrr]
    have HQ := Aside0.mk hrr
    clear hrr
    go_enter Try.func42, Try.ntmps42
    go_wp2_with fail
    refine (chkA_call A0 c0 l0 _ HR.out hc0 0 (by rw [hc]; rfl)).mono ?_
    rintro e w1 ⟨rfl, hb1⟩
    have HB1 := Aside0.mk hb1
    clear hb1
    go_wp2_with fail
    refine (escrow_right.calls key true _ (right_is' hk)).mono ?_
    rintro e w2 ⟨rfl, ⟨nd2, rfl⟩⟩
    go_wp2_with fail
    refine (escrow_there.calls 1 true _ (there_is' hr)).mono ?_
    rintro e w3 ⟨rfl, ⟨nd3, rfl⟩⟩
    go_wp2_with fail
    refine (escrow_there.calls 5 true _ (there_is' ht)).mono ?_
    rintro e w4 ⟨rfl, ⟨nd4, rfl⟩⟩
    go_wp2_with fail
    refine (findA_call A0 c0 l0 key _ (by repeat (first | exact Kd.C_below HR.out HB1.out | (with_reducible refine Kd.C_drewN ?_ _))) hc0 (by omega) HO.out).mono ?_
    rintro e w5 hfp
    obtain ⟨rfl, hb5⟩ := hfp
    rw [HGA.out]
    have HB5 : Aside0 (Below w.heap.size w w5) := ⟨below_step (by repeat (first | exact HB1.out | apply pw_below_drewN)) hb5⟩
    clear hb5
    go_wp2_with fail
    refine (put_call A0 c0 l0 key (g0 - n) (g1) (g2) (g3) (g4 + n) _ ?hC hc0 HCC.out).mono ?_
    case hC =>
      repeat (first | exact Kd.C_below HR.out HB5.out | (with_reducible refine Kd.C_alloc ?_ _) | exact Kd.C_below (Kd.C_below HR.out HB5.out) (cellBelow _ _ _ _))
    rintro e w6 hp6
    rw [← HQ.out] at hp6
    obtain ⟨v6, rfl, hR6, hb6⟩ := hp6
    go_wp2_with fail
    go_ret2
    exact esc_end (v6 := v6) HB5.out (by first | exact below_alloc (Below.refl _ _) _ | exact cellBelow _ _ _ _) hR6 hb6
  · clear hr' ht'
    rw [show mvR ⟨g0, g1, g2, g3, g4⟩ 2 1 n = ⟨g0 + n, g1 - n, g2, g3, g4⟩ from by simp [mvR, setH, hv]]
    obtain ⟨rr, hrr⟩ : ∃ rr, rr = (if chkA (setA l0 key ⟨g0 + n, g1 - n, g2, g3, g4⟩) = true then (setA l0 key ⟨g0 + n, g1 - n, g2, g3, g4⟩, (0 : Int)) else ([], 6)) := ⟨_, rfl⟩
    rw [← hrr]
    have HQ := Aside0.mk hrr
    clear hrr
    go_enter Try.func42, Try.ntmps42
    go_wp2_with fail
    refine (chkA_call A0 c0 l0 _ HR.out hc0 0 (by rw [hc]; rfl)).mono ?_
    rintro e w1 ⟨rfl, hb1⟩
    have HB1 := Aside0.mk hb1
    clear hb1
    go_wp2_with fail
    refine (escrow_right.calls key true _ (right_is' hk)).mono ?_
    rintro e w2 ⟨rfl, ⟨nd2, rfl⟩⟩
    go_wp2_with fail
    refine (escrow_there.calls 2 true _ (there_is' hr)).mono ?_
    rintro e w3 ⟨rfl, ⟨nd3, rfl⟩⟩
    go_wp2_with fail
    refine (escrow_there.calls 1 true _ (there_is' ht)).mono ?_
    rintro e w4 ⟨rfl, ⟨nd4, rfl⟩⟩
    go_wp2_with fail
    refine (findA_call A0 c0 l0 key _ (by repeat (first | exact Kd.C_below HR.out HB1.out | (with_reducible refine Kd.C_drewN ?_ _))) hc0 (by omega) HO.out).mono ?_
    rintro e w5 hfp
    obtain ⟨rfl, hb5⟩ := hfp
    rw [HGA.out]
    have HB5 : Aside0 (Below w.heap.size w w5) := ⟨below_step (by repeat (first | exact HB1.out | apply pw_below_drewN)) hb5⟩
    clear hb5
    go_wp2_with fail
    refine (put_call A0 c0 l0 key (g0 + n) (g1 - n) (g2) (g3) (g4) _ ?hC hc0 HCC.out).mono ?_
    case hC =>
      repeat (first | exact Kd.C_below HR.out HB5.out | (with_reducible refine Kd.C_alloc ?_ _) | exact Kd.C_below (Kd.C_below HR.out HB5.out) (cellBelow _ _ _ _))
    rintro e w6 hp6
    rw [← HQ.out] at hp6
    obtain ⟨v6, rfl, hR6, hb6⟩ := hp6
    go_wp2_with fail
    go_ret2
    exact esc_end (v6 := v6) HB5.out (by first | exact below_alloc (Below.refl _ _) _ | exact cellBelow _ _ _ _) hR6 hb6
  · clear hr' ht'
    rw [show mvR ⟨g0, g1, g2, g3, g4⟩ 2 2 n = ⟨g0, g1, g2, g3, g4⟩ from by simp [mvR, setH, hv]]
    obtain ⟨rr, hrr⟩ : ∃ rr, rr = (if chkA (setA l0 key ⟨g0, g1, g2, g3, g4⟩) = true then (setA l0 key ⟨g0, g1, g2, g3, g4⟩, (0 : Int)) else ([], 6)) := ⟨_, rfl⟩
    rw [← hrr]
    have HQ := Aside0.mk hrr
    clear hrr
    go_enter Try.func42, Try.ntmps42
    go_wp2_with fail
    refine (chkA_call A0 c0 l0 _ HR.out hc0 0 (by rw [hc]; rfl)).mono ?_
    rintro e w1 ⟨rfl, hb1⟩
    have HB1 := Aside0.mk hb1
    clear hb1
    go_wp2_with fail
    refine (escrow_right.calls key true _ (right_is' hk)).mono ?_
    rintro e w2 ⟨rfl, ⟨nd2, rfl⟩⟩
    go_wp2_with fail
    refine (escrow_there.calls 2 true _ (there_is' hr)).mono ?_
    rintro e w3 ⟨rfl, ⟨nd3, rfl⟩⟩
    go_wp2_with fail
    refine (escrow_there.calls 2 true _ (there_is' ht)).mono ?_
    rintro e w4 ⟨rfl, ⟨nd4, rfl⟩⟩
    go_wp2_with fail
    refine (findA_call A0 c0 l0 key _ (by repeat (first | exact Kd.C_below HR.out HB1.out | (with_reducible refine Kd.C_drewN ?_ _))) hc0 (by omega) HO.out).mono ?_
    rintro e w5 hfp
    obtain ⟨rfl, hb5⟩ := hfp
    rw [HGA.out]
    have HB5 : Aside0 (Below w.heap.size w w5) := ⟨below_step (by repeat (first | exact HB1.out | apply pw_below_drewN)) hb5⟩
    clear hb5
    go_wp2_with fail
    refine (put_call A0 c0 l0 key (g0) (g1) (g2) (g3) (g4) _ ?hC hc0 HCC.out).mono ?_
    case hC =>
      repeat (first | exact Kd.C_below HR.out HB5.out | (with_reducible refine Kd.C_alloc ?_ _) | exact Kd.C_below (Kd.C_below HR.out HB5.out) (cellBelow _ _ _ _))
    rintro e w6 hp6
    rw [← HQ.out] at hp6
    obtain ⟨v6, rfl, hR6, hb6⟩ := hp6
    go_wp2_with fail
    go_ret2
    exact esc_end (v6 := v6) HB5.out (by first | exact below_alloc (Below.refl _ _) _ | exact cellBelow _ _ _ _) hR6 hb6
  · clear hr' ht'
    rw [show mvR ⟨g0, g1, g2, g3, g4⟩ 2 3 n = ⟨g0, g1 - n, g2 + n, g3, g4⟩ from by simp [mvR, setH, hv]]
    obtain ⟨rr, hrr⟩ : ∃ rr, rr = (if chkA (setA l0 key ⟨g0, g1 - n, g2 + n, g3, g4⟩) = true then (setA l0 key ⟨g0, g1 - n, g2 + n, g3, g4⟩, (0 : Int)) else ([], 6)) := ⟨_, rfl⟩
    rw [← hrr]
    have HQ := Aside0.mk hrr
    clear hrr
    go_enter Try.func42, Try.ntmps42
    go_wp2_with fail
    refine (chkA_call A0 c0 l0 _ HR.out hc0 0 (by rw [hc]; rfl)).mono ?_
    rintro e w1 ⟨rfl, hb1⟩
    have HB1 := Aside0.mk hb1
    clear hb1
    go_wp2_with fail
    refine (escrow_right.calls key true _ (right_is' hk)).mono ?_
    rintro e w2 ⟨rfl, ⟨nd2, rfl⟩⟩
    go_wp2_with fail
    refine (escrow_there.calls 2 true _ (there_is' hr)).mono ?_
    rintro e w3 ⟨rfl, ⟨nd3, rfl⟩⟩
    go_wp2_with fail
    refine (escrow_there.calls 3 true _ (there_is' ht)).mono ?_
    rintro e w4 ⟨rfl, ⟨nd4, rfl⟩⟩
    go_wp2_with fail
    refine (findA_call A0 c0 l0 key _ (by repeat (first | exact Kd.C_below HR.out HB1.out | (with_reducible refine Kd.C_drewN ?_ _))) hc0 (by omega) HO.out).mono ?_
    rintro e w5 hfp
    obtain ⟨rfl, hb5⟩ := hfp
    rw [HGA.out]
    have HB5 : Aside0 (Below w.heap.size w w5) := ⟨below_step (by repeat (first | exact HB1.out | apply pw_below_drewN)) hb5⟩
    clear hb5
    go_wp2_with fail
    refine (put_call A0 c0 l0 key (g0) (g1 - n) (g2 + n) (g3) (g4) _ ?hC hc0 HCC.out).mono ?_
    case hC =>
      repeat (first | exact Kd.C_below HR.out HB5.out | (with_reducible refine Kd.C_alloc ?_ _) | exact Kd.C_below (Kd.C_below HR.out HB5.out) (cellBelow _ _ _ _))
    rintro e w6 hp6
    rw [← HQ.out] at hp6
    obtain ⟨v6, rfl, hR6, hb6⟩ := hp6
    go_wp2_with fail
    go_ret2
    exact esc_end (v6 := v6) HB5.out (by first | exact below_alloc (Below.refl _ _) _ | exact cellBelow _ _ _ _) hR6 hb6
  · clear hr' ht'
    rw [show mvR ⟨g0, g1, g2, g3, g4⟩ 2 4 n = ⟨g0, g1 - n, g2, g3 + n, g4⟩ from by simp [mvR, setH, hv]]
    obtain ⟨rr, hrr⟩ : ∃ rr, rr = (if chkA (setA l0 key ⟨g0, g1 - n, g2, g3 + n, g4⟩) = true then (setA l0 key ⟨g0, g1 - n, g2, g3 + n, g4⟩, (0 : Int)) else ([], 6)) := ⟨_, rfl⟩
    rw [← hrr]
    have HQ := Aside0.mk hrr
    clear hrr
    go_enter Try.func42, Try.ntmps42
    go_wp2_with fail
    refine (chkA_call A0 c0 l0 _ HR.out hc0 0 (by rw [hc]; rfl)).mono ?_
    rintro e w1 ⟨rfl, hb1⟩
    have HB1 := Aside0.mk hb1
    clear hb1
    go_wp2_with fail
    refine (escrow_right.calls key true _ (right_is' hk)).mono ?_
    rintro e w2 ⟨rfl, ⟨nd2, rfl⟩⟩
    go_wp2_with fail
    refine (escrow_there.calls 2 true _ (there_is' hr)).mono ?_
    rintro e w3 ⟨rfl, ⟨nd3, rfl⟩⟩
    go_wp2_with fail
    refine (escrow_there.calls 4 true _ (there_is' ht)).mono ?_
    rintro e w4 ⟨rfl, ⟨nd4, rfl⟩⟩
    go_wp2_with fail
    refine (findA_call A0 c0 l0 key _ (by repeat (first | exact Kd.C_below HR.out HB1.out | (with_reducible refine Kd.C_drewN ?_ _))) hc0 (by omega) HO.out).mono ?_
    rintro e w5 hfp
    obtain ⟨rfl, hb5⟩ := hfp
    rw [HGA.out]
    have HB5 : Aside0 (Below w.heap.size w w5) := ⟨below_step (by repeat (first | exact HB1.out | apply pw_below_drewN)) hb5⟩
    clear hb5
    go_wp2_with fail
    refine (put_call A0 c0 l0 key (g0) (g1 - n) (g2) (g3 + n) (g4) _ ?hC hc0 HCC.out).mono ?_
    case hC =>
      repeat (first | exact Kd.C_below HR.out HB5.out | (with_reducible refine Kd.C_alloc ?_ _) | exact Kd.C_below (Kd.C_below HR.out HB5.out) (cellBelow _ _ _ _))
    rintro e w6 hp6
    rw [← HQ.out] at hp6
    obtain ⟨v6, rfl, hR6, hb6⟩ := hp6
    go_wp2_with fail
    go_ret2
    exact esc_end (v6 := v6) HB5.out (by first | exact below_alloc (Below.refl _ _) _ | exact cellBelow _ _ _ _) hR6 hb6
  · clear hr' ht'
    rw [show mvR ⟨g0, g1, g2, g3, g4⟩ 2 5 n = ⟨g0, g1 - n, g2, g3, g4 + n⟩ from by simp [mvR, setH, hv]]
    obtain ⟨rr, hrr⟩ : ∃ rr, rr = (if chkA (setA l0 key ⟨g0, g1 - n, g2, g3, g4 + n⟩) = true then (setA l0 key ⟨g0, g1 - n, g2, g3, g4 + n⟩, (0 : Int)) else ([], 6)) := ⟨_, rfl⟩
    rw [← hrr]
    have HQ := Aside0.mk hrr
    clear hrr
    go_enter Try.func42, Try.ntmps42
    go_wp2_with fail
    refine (chkA_call A0 c0 l0 _ HR.out hc0 0 (by rw [hc]; rfl)).mono ?_
    rintro e w1 ⟨rfl, hb1⟩
    have HB1 := Aside0.mk hb1
    clear hb1
    go_wp2_with fail
    refine (escrow_right.calls key true _ (right_is' hk)).mono ?_
    rintro e w2 ⟨rfl, ⟨nd2, rfl⟩⟩
    go_wp2_with fail
    refine (escrow_there.calls 2 true _ (there_is' hr)).mono ?_
    rintro e w3 ⟨rfl, ⟨nd3, rfl⟩⟩
    go_wp2_with fail
    refine (escrow_there.calls 5 true _ (there_is' ht)).mono ?_
    rintro e w4 ⟨rfl, ⟨nd4, rfl⟩⟩
    go_wp2_with fail
    refine (findA_call A0 c0 l0 key _ (by repeat (first | exact Kd.C_below HR.out HB1.out | (with_reducible refine Kd.C_drewN ?_ _))) hc0 (by omega) HO.out).mono ?_
    rintro e w5 hfp
    obtain ⟨rfl, hb5⟩ := hfp
    rw [HGA.out]
    have HB5 : Aside0 (Below w.heap.size w w5) := ⟨below_step (by repeat (first | exact HB1.out | apply pw_below_drewN)) hb5⟩
    clear hb5
    go_wp2_with fail
    refine (put_call A0 c0 l0 key (g0) (g1 - n) (g2) (g3) (g4 + n) _ ?hC hc0 HCC.out).mono ?_
    case hC =>
      repeat (first | exact Kd.C_below HR.out HB5.out | (with_reducible refine Kd.C_alloc ?_ _) | exact Kd.C_below (Kd.C_below HR.out HB5.out) (cellBelow _ _ _ _))
    rintro e w6 hp6
    rw [← HQ.out] at hp6
    obtain ⟨v6, rfl, hR6, hb6⟩ := hp6
    go_wp2_with fail
    go_ret2
    exact esc_end (v6 := v6) HB5.out (by first | exact below_alloc (Below.refl _ _) _ | exact cellBelow _ _ _ _) hR6 hb6
  · clear hr' ht'
    rw [show mvR ⟨g0, g1, g2, g3, g4⟩ 3 1 n = ⟨g0 + n, g1, g2 - n, g3, g4⟩ from by simp [mvR, setH, hv]]
    obtain ⟨rr, hrr⟩ : ∃ rr, rr = (if chkA (setA l0 key ⟨g0 + n, g1, g2 - n, g3, g4⟩) = true then (setA l0 key ⟨g0 + n, g1, g2 - n, g3, g4⟩, (0 : Int)) else ([], 6)) := ⟨_, rfl⟩
    rw [← hrr]
    have HQ := Aside0.mk hrr
    clear hrr
    go_enter Try.func42, Try.ntmps42
    go_wp2_with fail
    refine (chkA_call A0 c0 l0 _ HR.out hc0 0 (by rw [hc]; rfl)).mono ?_
    rintro e w1 ⟨rfl, hb1⟩
    have HB1 := Aside0.mk hb1
    clear hb1
    go_wp2_with fail
    refine (escrow_right.calls key true _ (right_is' hk)).mono ?_
    rintro e w2 ⟨rfl, ⟨nd2, rfl⟩⟩
    go_wp2_with fail
    refine (escrow_there.calls 3 true _ (there_is' hr)).mono ?_
    rintro e w3 ⟨rfl, ⟨nd3, rfl⟩⟩
    go_wp2_with fail
    refine (escrow_there.calls 1 true _ (there_is' ht)).mono ?_
    rintro e w4 ⟨rfl, ⟨nd4, rfl⟩⟩
    go_wp2_with fail
    refine (findA_call A0 c0 l0 key _ (by repeat (first | exact Kd.C_below HR.out HB1.out | (with_reducible refine Kd.C_drewN ?_ _))) hc0 (by omega) HO.out).mono ?_
    rintro e w5 hfp
    obtain ⟨rfl, hb5⟩ := hfp
    rw [HGA.out]
    have HB5 : Aside0 (Below w.heap.size w w5) := ⟨below_step (by repeat (first | exact HB1.out | apply pw_below_drewN)) hb5⟩
    clear hb5
    go_wp2_with fail
    refine (put_call A0 c0 l0 key (g0 + n) (g1) (g2 - n) (g3) (g4) _ ?hC hc0 HCC.out).mono ?_
    case hC =>
      repeat (first | exact Kd.C_below HR.out HB5.out | (with_reducible refine Kd.C_alloc ?_ _) | exact Kd.C_below (Kd.C_below HR.out HB5.out) (cellBelow _ _ _ _))
    rintro e w6 hp6
    rw [← HQ.out] at hp6
    obtain ⟨v6, rfl, hR6, hb6⟩ := hp6
    go_wp2_with fail
    go_ret2
    exact esc_end (v6 := v6) HB5.out (by first | exact below_alloc (Below.refl _ _) _ | exact cellBelow _ _ _ _) hR6 hb6
  · clear hr' ht'
    rw [show mvR ⟨g0, g1, g2, g3, g4⟩ 3 2 n = ⟨g0, g1 + n, g2 - n, g3, g4⟩ from by simp [mvR, setH, hv]]
    obtain ⟨rr, hrr⟩ : ∃ rr, rr = (if chkA (setA l0 key ⟨g0, g1 + n, g2 - n, g3, g4⟩) = true then (setA l0 key ⟨g0, g1 + n, g2 - n, g3, g4⟩, (0 : Int)) else ([], 6)) := ⟨_, rfl⟩
    rw [← hrr]
    have HQ := Aside0.mk hrr
    clear hrr
    go_enter Try.func42, Try.ntmps42
    go_wp2_with fail
    refine (chkA_call A0 c0 l0 _ HR.out hc0 0 (by rw [hc]; rfl)).mono ?_
    rintro e w1 ⟨rfl, hb1⟩
    have HB1 := Aside0.mk hb1
    clear hb1
    go_wp2_with fail
    refine (escrow_right.calls key true _ (right_is' hk)).mono ?_
    rintro e w2 ⟨rfl, ⟨nd2, rfl⟩⟩
    go_wp2_with fail
    refine (escrow_there.calls 3 true _ (there_is' hr)).mono ?_
    rintro e w3 ⟨rfl, ⟨nd3, rfl⟩⟩
    go_wp2_with fail
    refine (escrow_there.calls 2 true _ (there_is' ht)).mono ?_
    rintro e w4 ⟨rfl, ⟨nd4, rfl⟩⟩
    go_wp2_with fail
    refine (findA_call A0 c0 l0 key _ (by repeat (first | exact Kd.C_below HR.out HB1.out | (with_reducible refine Kd.C_drewN ?_ _))) hc0 (by omega) HO.out).mono ?_
    rintro e w5 hfp
    obtain ⟨rfl, hb5⟩ := hfp
    rw [HGA.out]
    have HB5 : Aside0 (Below w.heap.size w w5) := ⟨below_step (by repeat (first | exact HB1.out | apply pw_below_drewN)) hb5⟩
    clear hb5
    go_wp2_with fail
    refine (put_call A0 c0 l0 key (g0) (g1 + n) (g2 - n) (g3) (g4) _ ?hC hc0 HCC.out).mono ?_
    case hC =>
      repeat (first | exact Kd.C_below HR.out HB5.out | (with_reducible refine Kd.C_alloc ?_ _) | exact Kd.C_below (Kd.C_below HR.out HB5.out) (cellBelow _ _ _ _))
    rintro e w6 hp6
    rw [← HQ.out] at hp6
    obtain ⟨v6, rfl, hR6, hb6⟩ := hp6
    go_wp2_with fail
    go_ret2
    exact esc_end (v6 := v6) HB5.out (by first | exact below_alloc (Below.refl _ _) _ | exact cellBelow _ _ _ _) hR6 hb6
  · clear hr' ht'
    rw [show mvR ⟨g0, g1, g2, g3, g4⟩ 3 3 n = ⟨g0, g1, g2, g3, g4⟩ from by simp [mvR, setH, hv]]
    obtain ⟨rr, hrr⟩ : ∃ rr, rr = (if chkA (setA l0 key ⟨g0, g1, g2, g3, g4⟩) = true then (setA l0 key ⟨g0, g1, g2, g3, g4⟩, (0 : Int)) else ([], 6)) := ⟨_, rfl⟩
    rw [← hrr]
    have HQ := Aside0.mk hrr
    clear hrr
    go_enter Try.func42, Try.ntmps42
    go_wp2_with fail
    refine (chkA_call A0 c0 l0 _ HR.out hc0 0 (by rw [hc]; rfl)).mono ?_
    rintro e w1 ⟨rfl, hb1⟩
    have HB1 := Aside0.mk hb1
    clear hb1
    go_wp2_with fail
    refine (escrow_right.calls key true _ (right_is' hk)).mono ?_
    rintro e w2 ⟨rfl, ⟨nd2, rfl⟩⟩
    go_wp2_with fail
    refine (escrow_there.calls 3 true _ (there_is' hr)).mono ?_
    rintro e w3 ⟨rfl, ⟨nd3, rfl⟩⟩
    go_wp2_with fail
    refine (escrow_there.calls 3 true _ (there_is' ht)).mono ?_
    rintro e w4 ⟨rfl, ⟨nd4, rfl⟩⟩
    go_wp2_with fail
    refine (findA_call A0 c0 l0 key _ (by repeat (first | exact Kd.C_below HR.out HB1.out | (with_reducible refine Kd.C_drewN ?_ _))) hc0 (by omega) HO.out).mono ?_
    rintro e w5 hfp
    obtain ⟨rfl, hb5⟩ := hfp
    rw [HGA.out]
    have HB5 : Aside0 (Below w.heap.size w w5) := ⟨below_step (by repeat (first | exact HB1.out | apply pw_below_drewN)) hb5⟩
    clear hb5
    go_wp2_with fail
    refine (put_call A0 c0 l0 key (g0) (g1) (g2) (g3) (g4) _ ?hC hc0 HCC.out).mono ?_
    case hC =>
      repeat (first | exact Kd.C_below HR.out HB5.out | (with_reducible refine Kd.C_alloc ?_ _) | exact Kd.C_below (Kd.C_below HR.out HB5.out) (cellBelow _ _ _ _))
    rintro e w6 hp6
    rw [← HQ.out] at hp6
    obtain ⟨v6, rfl, hR6, hb6⟩ := hp6
    go_wp2_with fail
    go_ret2
    exact esc_end (v6 := v6) HB5.out (by first | exact below_alloc (Below.refl _ _) _ | exact cellBelow _ _ _ _) hR6 hb6
  · clear hr' ht'
    rw [show mvR ⟨g0, g1, g2, g3, g4⟩ 3 4 n = ⟨g0, g1, g2 - n, g3 + n, g4⟩ from by simp [mvR, setH, hv]]
    obtain ⟨rr, hrr⟩ : ∃ rr, rr = (if chkA (setA l0 key ⟨g0, g1, g2 - n, g3 + n, g4⟩) = true then (setA l0 key ⟨g0, g1, g2 - n, g3 + n, g4⟩, (0 : Int)) else ([], 6)) := ⟨_, rfl⟩
    rw [← hrr]
    have HQ := Aside0.mk hrr
    clear hrr
    go_enter Try.func42, Try.ntmps42
    go_wp2_with fail
    refine (chkA_call A0 c0 l0 _ HR.out hc0 0 (by rw [hc]; rfl)).mono ?_
    rintro e w1 ⟨rfl, hb1⟩
    have HB1 := Aside0.mk hb1
    clear hb1
    go_wp2_with fail
    refine (escrow_right.calls key true _ (right_is' hk)).mono ?_
    rintro e w2 ⟨rfl, ⟨nd2, rfl⟩⟩
    go_wp2_with fail
    refine (escrow_there.calls 3 true _ (there_is' hr)).mono ?_
    rintro e w3 ⟨rfl, ⟨nd3, rfl⟩⟩
    go_wp2_with fail
    refine (escrow_there.calls 4 true _ (there_is' ht)).mono ?_
    rintro e w4 ⟨rfl, ⟨nd4, rfl⟩⟩
    go_wp2_with fail
    refine (findA_call A0 c0 l0 key _ (by repeat (first | exact Kd.C_below HR.out HB1.out | (with_reducible refine Kd.C_drewN ?_ _))) hc0 (by omega) HO.out).mono ?_
    rintro e w5 hfp
    obtain ⟨rfl, hb5⟩ := hfp
    rw [HGA.out]
    have HB5 : Aside0 (Below w.heap.size w w5) := ⟨below_step (by repeat (first | exact HB1.out | apply pw_below_drewN)) hb5⟩
    clear hb5
    go_wp2_with fail
    refine (put_call A0 c0 l0 key (g0) (g1) (g2 - n) (g3 + n) (g4) _ ?hC hc0 HCC.out).mono ?_
    case hC =>
      repeat (first | exact Kd.C_below HR.out HB5.out | (with_reducible refine Kd.C_alloc ?_ _) | exact Kd.C_below (Kd.C_below HR.out HB5.out) (cellBelow _ _ _ _))
    rintro e w6 hp6
    rw [← HQ.out] at hp6
    obtain ⟨v6, rfl, hR6, hb6⟩ := hp6
    go_wp2_with fail
    go_ret2
    exact esc_end (v6 := v6) HB5.out (by first | exact below_alloc (Below.refl _ _) _ | exact cellBelow _ _ _ _) hR6 hb6
  · clear hr' ht'
    rw [show mvR ⟨g0, g1, g2, g3, g4⟩ 3 5 n = ⟨g0, g1, g2 - n, g3, g4 + n⟩ from by simp [mvR, setH, hv]]
    obtain ⟨rr, hrr⟩ : ∃ rr, rr = (if chkA (setA l0 key ⟨g0, g1, g2 - n, g3, g4 + n⟩) = true then (setA l0 key ⟨g0, g1, g2 - n, g3, g4 + n⟩, (0 : Int)) else ([], 6)) := ⟨_, rfl⟩
    rw [← hrr]
    have HQ := Aside0.mk hrr
    clear hrr
    go_enter Try.func42, Try.ntmps42
    go_wp2_with fail
    refine (chkA_call A0 c0 l0 _ HR.out hc0 0 (by rw [hc]; rfl)).mono ?_
    rintro e w1 ⟨rfl, hb1⟩
    have HB1 := Aside0.mk hb1
    clear hb1
    go_wp2_with fail
    refine (escrow_right.calls key true _ (right_is' hk)).mono ?_
    rintro e w2 ⟨rfl, ⟨nd2, rfl⟩⟩
    go_wp2_with fail
    refine (escrow_there.calls 3 true _ (there_is' hr)).mono ?_
    rintro e w3 ⟨rfl, ⟨nd3, rfl⟩⟩
    go_wp2_with fail
    refine (escrow_there.calls 5 true _ (there_is' ht)).mono ?_
    rintro e w4 ⟨rfl, ⟨nd4, rfl⟩⟩
    go_wp2_with fail
    refine (findA_call A0 c0 l0 key _ (by repeat (first | exact Kd.C_below HR.out HB1.out | (with_reducible refine Kd.C_drewN ?_ _))) hc0 (by omega) HO.out).mono ?_
    rintro e w5 hfp
    obtain ⟨rfl, hb5⟩ := hfp
    rw [HGA.out]
    have HB5 : Aside0 (Below w.heap.size w w5) := ⟨below_step (by repeat (first | exact HB1.out | apply pw_below_drewN)) hb5⟩
    clear hb5
    go_wp2_with fail
    refine (put_call A0 c0 l0 key (g0) (g1) (g2 - n) (g3) (g4 + n) _ ?hC hc0 HCC.out).mono ?_
    case hC =>
      repeat (first | exact Kd.C_below HR.out HB5.out | (with_reducible refine Kd.C_alloc ?_ _) | exact Kd.C_below (Kd.C_below HR.out HB5.out) (cellBelow _ _ _ _))
    rintro e w6 hp6
    rw [← HQ.out] at hp6
    obtain ⟨v6, rfl, hR6, hb6⟩ := hp6
    go_wp2_with fail
    go_ret2
    exact esc_end (v6 := v6) HB5.out (by first | exact below_alloc (Below.refl _ _) _ | exact cellBelow _ _ _ _) hR6 hb6
  · clear hr' ht'
    rw [show mvR ⟨g0, g1, g2, g3, g4⟩ 4 1 n = ⟨g0 + n, g1, g2, g3 - n, g4⟩ from by simp [mvR, setH, hv]]
    obtain ⟨rr, hrr⟩ : ∃ rr, rr = (if chkA (setA l0 key ⟨g0 + n, g1, g2, g3 - n, g4⟩) = true then (setA l0 key ⟨g0 + n, g1, g2, g3 - n, g4⟩, (0 : Int)) else ([], 6)) := ⟨_, rfl⟩
    rw [← hrr]
    have HQ := Aside0.mk hrr
    clear hrr
    go_enter Try.func42, Try.ntmps42
    go_wp2_with fail
    refine (chkA_call A0 c0 l0 _ HR.out hc0 0 (by rw [hc]; rfl)).mono ?_
    rintro e w1 ⟨rfl, hb1⟩
    have HB1 := Aside0.mk hb1
    clear hb1
    go_wp2_with fail
    refine (escrow_right.calls key true _ (right_is' hk)).mono ?_
    rintro e w2 ⟨rfl, ⟨nd2, rfl⟩⟩
    go_wp2_with fail
    refine (escrow_there.calls 4 true _ (there_is' hr)).mono ?_
    rintro e w3 ⟨rfl, ⟨nd3, rfl⟩⟩
    go_wp2_with fail
    refine (escrow_there.calls 1 true _ (there_is' ht)).mono ?_
    rintro e w4 ⟨rfl, ⟨nd4, rfl⟩⟩
    go_wp2_with fail
    refine (findA_call A0 c0 l0 key _ (by repeat (first | exact Kd.C_below HR.out HB1.out | (with_reducible refine Kd.C_drewN ?_ _))) hc0 (by omega) HO.out).mono ?_
    rintro e w5 hfp
    obtain ⟨rfl, hb5⟩ := hfp
    rw [HGA.out]
    have HB5 : Aside0 (Below w.heap.size w w5) := ⟨below_step (by repeat (first | exact HB1.out | apply pw_below_drewN)) hb5⟩
    clear hb5
    go_wp2_with fail
    refine (put_call A0 c0 l0 key (g0 + n) (g1) (g2) (g3 - n) (g4) _ ?hC hc0 HCC.out).mono ?_
    case hC =>
      repeat (first | exact Kd.C_below HR.out HB5.out | (with_reducible refine Kd.C_alloc ?_ _) | exact Kd.C_below (Kd.C_below HR.out HB5.out) (cellBelow _ _ _ _))
    rintro e w6 hp6
    rw [← HQ.out] at hp6
    obtain ⟨v6, rfl, hR6, hb6⟩ := hp6
    go_wp2_with fail
    go_ret2
    exact esc_end (v6 := v6) HB5.out (by first | exact below_alloc (Below.refl _ _) _ | exact cellBelow _ _ _ _) hR6 hb6
  · clear hr' ht'
    rw [show mvR ⟨g0, g1, g2, g3, g4⟩ 4 2 n = ⟨g0, g1 + n, g2, g3 - n, g4⟩ from by simp [mvR, setH, hv]]
    obtain ⟨rr, hrr⟩ : ∃ rr, rr = (if chkA (setA l0 key ⟨g0, g1 + n, g2, g3 - n, g4⟩) = true then (setA l0 key ⟨g0, g1 + n, g2, g3 - n, g4⟩, (0 : Int)) else ([], 6)) := ⟨_, rfl⟩
    rw [← hrr]
    have HQ := Aside0.mk hrr
    clear hrr
    go_enter Try.func42, Try.ntmps42
    go_wp2_with fail
    refine (chkA_call A0 c0 l0 _ HR.out hc0 0 (by rw [hc]; rfl)).mono ?_
    rintro e w1 ⟨rfl, hb1⟩
    have HB1 := Aside0.mk hb1
    clear hb1
    go_wp2_with fail
    refine (escrow_right.calls key true _ (right_is' hk)).mono ?_
    rintro e w2 ⟨rfl, ⟨nd2, rfl⟩⟩
    go_wp2_with fail
    refine (escrow_there.calls 4 true _ (there_is' hr)).mono ?_
    rintro e w3 ⟨rfl, ⟨nd3, rfl⟩⟩
    go_wp2_with fail
    refine (escrow_there.calls 2 true _ (there_is' ht)).mono ?_
    rintro e w4 ⟨rfl, ⟨nd4, rfl⟩⟩
    go_wp2_with fail
    refine (findA_call A0 c0 l0 key _ (by repeat (first | exact Kd.C_below HR.out HB1.out | (with_reducible refine Kd.C_drewN ?_ _))) hc0 (by omega) HO.out).mono ?_
    rintro e w5 hfp
    obtain ⟨rfl, hb5⟩ := hfp
    rw [HGA.out]
    have HB5 : Aside0 (Below w.heap.size w w5) := ⟨below_step (by repeat (first | exact HB1.out | apply pw_below_drewN)) hb5⟩
    clear hb5
    go_wp2_with fail
    refine (put_call A0 c0 l0 key (g0) (g1 + n) (g2) (g3 - n) (g4) _ ?hC hc0 HCC.out).mono ?_
    case hC =>
      repeat (first | exact Kd.C_below HR.out HB5.out | (with_reducible refine Kd.C_alloc ?_ _) | exact Kd.C_below (Kd.C_below HR.out HB5.out) (cellBelow _ _ _ _))
    rintro e w6 hp6
    rw [← HQ.out] at hp6
    obtain ⟨v6, rfl, hR6, hb6⟩ := hp6
    go_wp2_with fail
    go_ret2
    exact esc_end (v6 := v6) HB5.out (by first | exact below_alloc (Below.refl _ _) _ | exact cellBelow _ _ _ _) hR6 hb6
  · clear hr' ht'
    rw [show mvR ⟨g0, g1, g2, g3, g4⟩ 4 3 n = ⟨g0, g1, g2 + n, g3 - n, g4⟩ from by simp [mvR, setH, hv]]
    obtain ⟨rr, hrr⟩ : ∃ rr, rr = (if chkA (setA l0 key ⟨g0, g1, g2 + n, g3 - n, g4⟩) = true then (setA l0 key ⟨g0, g1, g2 + n, g3 - n, g4⟩, (0 : Int)) else ([], 6)) := ⟨_, rfl⟩
    rw [← hrr]
    have HQ := Aside0.mk hrr
    clear hrr
    go_enter Try.func42, Try.ntmps42
    go_wp2_with fail
    refine (chkA_call A0 c0 l0 _ HR.out hc0 0 (by rw [hc]; rfl)).mono ?_
    rintro e w1 ⟨rfl, hb1⟩
    have HB1 := Aside0.mk hb1
    clear hb1
    go_wp2_with fail
    refine (escrow_right.calls key true _ (right_is' hk)).mono ?_
    rintro e w2 ⟨rfl, ⟨nd2, rfl⟩⟩
    go_wp2_with fail
    refine (escrow_there.calls 4 true _ (there_is' hr)).mono ?_
    rintro e w3 ⟨rfl, ⟨nd3, rfl⟩⟩
    go_wp2_with fail
    refine (escrow_there.calls 3 true _ (there_is' ht)).mono ?_
    rintro e w4 ⟨rfl, ⟨nd4, rfl⟩⟩
    go_wp2_with fail
    refine (findA_call A0 c0 l0 key _ (by repeat (first | exact Kd.C_below HR.out HB1.out | (with_reducible refine Kd.C_drewN ?_ _))) hc0 (by omega) HO.out).mono ?_
    rintro e w5 hfp
    obtain ⟨rfl, hb5⟩ := hfp
    rw [HGA.out]
    have HB5 : Aside0 (Below w.heap.size w w5) := ⟨below_step (by repeat (first | exact HB1.out | apply pw_below_drewN)) hb5⟩
    clear hb5
    go_wp2_with fail
    refine (put_call A0 c0 l0 key (g0) (g1) (g2 + n) (g3 - n) (g4) _ ?hC hc0 HCC.out).mono ?_
    case hC =>
      repeat (first | exact Kd.C_below HR.out HB5.out | (with_reducible refine Kd.C_alloc ?_ _) | exact Kd.C_below (Kd.C_below HR.out HB5.out) (cellBelow _ _ _ _))
    rintro e w6 hp6
    rw [← HQ.out] at hp6
    obtain ⟨v6, rfl, hR6, hb6⟩ := hp6
    go_wp2_with fail
    go_ret2
    exact esc_end (v6 := v6) HB5.out (by first | exact below_alloc (Below.refl _ _) _ | exact cellBelow _ _ _ _) hR6 hb6
  · clear hr' ht'
    rw [show mvR ⟨g0, g1, g2, g3, g4⟩ 4 4 n = ⟨g0, g1, g2, g3, g4⟩ from by simp [mvR, setH, hv]]
    obtain ⟨rr, hrr⟩ : ∃ rr, rr = (if chkA (setA l0 key ⟨g0, g1, g2, g3, g4⟩) = true then (setA l0 key ⟨g0, g1, g2, g3, g4⟩, (0 : Int)) else ([], 6)) := ⟨_, rfl⟩
    rw [← hrr]
    have HQ := Aside0.mk hrr
    clear hrr
    go_enter Try.func42, Try.ntmps42
    go_wp2_with fail
    refine (chkA_call A0 c0 l0 _ HR.out hc0 0 (by rw [hc]; rfl)).mono ?_
    rintro e w1 ⟨rfl, hb1⟩
    have HB1 := Aside0.mk hb1
    clear hb1
    go_wp2_with fail
    refine (escrow_right.calls key true _ (right_is' hk)).mono ?_
    rintro e w2 ⟨rfl, ⟨nd2, rfl⟩⟩
    go_wp2_with fail
    refine (escrow_there.calls 4 true _ (there_is' hr)).mono ?_
    rintro e w3 ⟨rfl, ⟨nd3, rfl⟩⟩
    go_wp2_with fail
    refine (escrow_there.calls 4 true _ (there_is' ht)).mono ?_
    rintro e w4 ⟨rfl, ⟨nd4, rfl⟩⟩
    go_wp2_with fail
    refine (findA_call A0 c0 l0 key _ (by repeat (first | exact Kd.C_below HR.out HB1.out | (with_reducible refine Kd.C_drewN ?_ _))) hc0 (by omega) HO.out).mono ?_
    rintro e w5 hfp
    obtain ⟨rfl, hb5⟩ := hfp
    rw [HGA.out]
    have HB5 : Aside0 (Below w.heap.size w w5) := ⟨below_step (by repeat (first | exact HB1.out | apply pw_below_drewN)) hb5⟩
    clear hb5
    go_wp2_with fail
    refine (put_call A0 c0 l0 key (g0) (g1) (g2) (g3) (g4) _ ?hC hc0 HCC.out).mono ?_
    case hC =>
      repeat (first | exact Kd.C_below HR.out HB5.out | (with_reducible refine Kd.C_alloc ?_ _) | exact Kd.C_below (Kd.C_below HR.out HB5.out) (cellBelow _ _ _ _))
    rintro e w6 hp6
    rw [← HQ.out] at hp6
    obtain ⟨v6, rfl, hR6, hb6⟩ := hp6
    go_wp2_with fail
    go_ret2
    exact esc_end (v6 := v6) HB5.out (by first | exact below_alloc (Below.refl _ _) _ | exact cellBelow _ _ _ _) hR6 hb6
  · clear hr' ht'
    rw [show mvR ⟨g0, g1, g2, g3, g4⟩ 4 5 n = ⟨g0, g1, g2, g3 - n, g4 + n⟩ from by simp [mvR, setH, hv]]
    obtain ⟨rr, hrr⟩ : ∃ rr, rr = (if chkA (setA l0 key ⟨g0, g1, g2, g3 - n, g4 + n⟩) = true then (setA l0 key ⟨g0, g1, g2, g3 - n, g4 + n⟩, (0 : Int)) else ([], 6)) := ⟨_, rfl⟩
    rw [← hrr]
    have HQ := Aside0.mk hrr
    clear hrr
    go_enter Try.func42, Try.ntmps42
    go_wp2_with fail
    refine (chkA_call A0 c0 l0 _ HR.out hc0 0 (by rw [hc]; rfl)).mono ?_
    rintro e w1 ⟨rfl, hb1⟩
    have HB1 := Aside0.mk hb1
    clear hb1
    go_wp2_with fail
    refine (escrow_right.calls key true _ (right_is' hk)).mono ?_
    rintro e w2 ⟨rfl, ⟨nd2, rfl⟩⟩
    go_wp2_with fail
    refine (escrow_there.calls 4 true _ (there_is' hr)).mono ?_
    rintro e w3 ⟨rfl, ⟨nd3, rfl⟩⟩
    go_wp2_with fail
    refine (escrow_there.calls 5 true _ (there_is' ht)).mono ?_
    rintro e w4 ⟨rfl, ⟨nd4, rfl⟩⟩
    go_wp2_with fail
    refine (findA_call A0 c0 l0 key _ (by repeat (first | exact Kd.C_below HR.out HB1.out | (with_reducible refine Kd.C_drewN ?_ _))) hc0 (by omega) HO.out).mono ?_
    rintro e w5 hfp
    obtain ⟨rfl, hb5⟩ := hfp
    rw [HGA.out]
    have HB5 : Aside0 (Below w.heap.size w w5) := ⟨below_step (by repeat (first | exact HB1.out | apply pw_below_drewN)) hb5⟩
    clear hb5
    go_wp2_with fail
    refine (put_call A0 c0 l0 key (g0) (g1) (g2) (g3 - n) (g4 + n) _ ?hC hc0 HCC.out).mono ?_
    case hC =>
      repeat (first | exact Kd.C_below HR.out HB5.out | (with_reducible refine Kd.C_alloc ?_ _) | exact Kd.C_below (Kd.C_below HR.out HB5.out) (cellBelow _ _ _ _))
    rintro e w6 hp6
    rw [← HQ.out] at hp6
    obtain ⟨v6, rfl, hR6, hb6⟩ := hp6
    go_wp2_with fail
    go_ret2
    exact esc_end (v6 := v6) HB5.out (by first | exact below_alloc (Below.refl _ _) _ | exact cellBelow _ _ _ _) hR6 hb6
  · clear hr' ht'
    rw [show mvR ⟨g0, g1, g2, g3, g4⟩ 5 1 n = ⟨g0 + n, g1, g2, g3, g4 - n⟩ from by simp [mvR, setH, hv]]
    obtain ⟨rr, hrr⟩ : ∃ rr, rr = (if chkA (setA l0 key ⟨g0 + n, g1, g2, g3, g4 - n⟩) = true then (setA l0 key ⟨g0 + n, g1, g2, g3, g4 - n⟩, (0 : Int)) else ([], 6)) := ⟨_, rfl⟩
    rw [← hrr]
    have HQ := Aside0.mk hrr
    clear hrr
    go_enter Try.func42, Try.ntmps42
    go_wp2_with fail
    refine (chkA_call A0 c0 l0 _ HR.out hc0 0 (by rw [hc]; rfl)).mono ?_
    rintro e w1 ⟨rfl, hb1⟩
    have HB1 := Aside0.mk hb1
    clear hb1
    go_wp2_with fail
    refine (escrow_right.calls key true _ (right_is' hk)).mono ?_
    rintro e w2 ⟨rfl, ⟨nd2, rfl⟩⟩
    go_wp2_with fail
    refine (escrow_there.calls 5 true _ (there_is' hr)).mono ?_
    rintro e w3 ⟨rfl, ⟨nd3, rfl⟩⟩
    go_wp2_with fail
    refine (escrow_there.calls 1 true _ (there_is' ht)).mono ?_
    rintro e w4 ⟨rfl, ⟨nd4, rfl⟩⟩
    go_wp2_with fail
    refine (findA_call A0 c0 l0 key _ (by repeat (first | exact Kd.C_below HR.out HB1.out | (with_reducible refine Kd.C_drewN ?_ _))) hc0 (by omega) HO.out).mono ?_
    rintro e w5 hfp
    obtain ⟨rfl, hb5⟩ := hfp
    rw [HGA.out]
    have HB5 : Aside0 (Below w.heap.size w w5) := ⟨below_step (by repeat (first | exact HB1.out | apply pw_below_drewN)) hb5⟩
    clear hb5
    go_wp2_with fail
    refine (put_call A0 c0 l0 key (g0 + n) (g1) (g2) (g3) (g4 - n) _ ?hC hc0 HCC.out).mono ?_
    case hC =>
      repeat (first | exact Kd.C_below HR.out HB5.out | (with_reducible refine Kd.C_alloc ?_ _) | exact Kd.C_below (Kd.C_below HR.out HB5.out) (cellBelow _ _ _ _))
    rintro e w6 hp6
    rw [← HQ.out] at hp6
    obtain ⟨v6, rfl, hR6, hb6⟩ := hp6
    go_wp2_with fail
    go_ret2
    exact esc_end (v6 := v6) HB5.out (by first | exact below_alloc (Below.refl _ _) _ | exact cellBelow _ _ _ _) hR6 hb6
  · clear hr' ht'
    rw [show mvR ⟨g0, g1, g2, g3, g4⟩ 5 2 n = ⟨g0, g1 + n, g2, g3, g4 - n⟩ from by simp [mvR, setH, hv]]
    obtain ⟨rr, hrr⟩ : ∃ rr, rr = (if chkA (setA l0 key ⟨g0, g1 + n, g2, g3, g4 - n⟩) = true then (setA l0 key ⟨g0, g1 + n, g2, g3, g4 - n⟩, (0 : Int)) else ([], 6)) := ⟨_, rfl⟩
    rw [← hrr]
    have HQ := Aside0.mk hrr
    clear hrr
    go_enter Try.func42, Try.ntmps42
    go_wp2_with fail
    refine (chkA_call A0 c0 l0 _ HR.out hc0 0 (by rw [hc]; rfl)).mono ?_
    rintro e w1 ⟨rfl, hb1⟩
    have HB1 := Aside0.mk hb1
    clear hb1
    go_wp2_with fail
    refine (escrow_right.calls key true _ (right_is' hk)).mono ?_
    rintro e w2 ⟨rfl, ⟨nd2, rfl⟩⟩
    go_wp2_with fail
    refine (escrow_there.calls 5 true _ (there_is' hr)).mono ?_
    rintro e w3 ⟨rfl, ⟨nd3, rfl⟩⟩
    go_wp2_with fail
    refine (escrow_there.calls 2 true _ (there_is' ht)).mono ?_
    rintro e w4 ⟨rfl, ⟨nd4, rfl⟩⟩
    go_wp2_with fail
    refine (findA_call A0 c0 l0 key _ (by repeat (first | exact Kd.C_below HR.out HB1.out | (with_reducible refine Kd.C_drewN ?_ _))) hc0 (by omega) HO.out).mono ?_
    rintro e w5 hfp
    obtain ⟨rfl, hb5⟩ := hfp
    rw [HGA.out]
    have HB5 : Aside0 (Below w.heap.size w w5) := ⟨below_step (by repeat (first | exact HB1.out | apply pw_below_drewN)) hb5⟩
    clear hb5
    go_wp2_with fail
    refine (put_call A0 c0 l0 key (g0) (g1 + n) (g2) (g3) (g4 - n) _ ?hC hc0 HCC.out).mono ?_
    case hC =>
      repeat (first | exact Kd.C_below HR.out HB5.out | (with_reducible refine Kd.C_alloc ?_ _) | exact Kd.C_below (Kd.C_below HR.out HB5.out) (cellBelow _ _ _ _))
    rintro e w6 hp6
    rw [← HQ.out] at hp6
    obtain ⟨v6, rfl, hR6, hb6⟩ := hp6
    go_wp2_with fail
    go_ret2
    exact esc_end (v6 := v6) HB5.out (by first | exact below_alloc (Below.refl _ _) _ | exact cellBelow _ _ _ _) hR6 hb6
  · clear hr' ht'
    rw [show mvR ⟨g0, g1, g2, g3, g4⟩ 5 3 n = ⟨g0, g1, g2 + n, g3, g4 - n⟩ from by simp [mvR, setH, hv]]
    obtain ⟨rr, hrr⟩ : ∃ rr, rr = (if chkA (setA l0 key ⟨g0, g1, g2 + n, g3, g4 - n⟩) = true then (setA l0 key ⟨g0, g1, g2 + n, g3, g4 - n⟩, (0 : Int)) else ([], 6)) := ⟨_, rfl⟩
    rw [← hrr]
    have HQ := Aside0.mk hrr
    clear hrr
    go_enter Try.func42, Try.ntmps42
    go_wp2_with fail
    refine (chkA_call A0 c0 l0 _ HR.out hc0 0 (by rw [hc]; rfl)).mono ?_
    rintro e w1 ⟨rfl, hb1⟩
    have HB1 := Aside0.mk hb1
    clear hb1
    go_wp2_with fail
    refine (escrow_right.calls key true _ (right_is' hk)).mono ?_
    rintro e w2 ⟨rfl, ⟨nd2, rfl⟩⟩
    go_wp2_with fail
    refine (escrow_there.calls 5 true _ (there_is' hr)).mono ?_
    rintro e w3 ⟨rfl, ⟨nd3, rfl⟩⟩
    go_wp2_with fail
    refine (escrow_there.calls 3 true _ (there_is' ht)).mono ?_
    rintro e w4 ⟨rfl, ⟨nd4, rfl⟩⟩
    go_wp2_with fail
    refine (findA_call A0 c0 l0 key _ (by repeat (first | exact Kd.C_below HR.out HB1.out | (with_reducible refine Kd.C_drewN ?_ _))) hc0 (by omega) HO.out).mono ?_
    rintro e w5 hfp
    obtain ⟨rfl, hb5⟩ := hfp
    rw [HGA.out]
    have HB5 : Aside0 (Below w.heap.size w w5) := ⟨below_step (by repeat (first | exact HB1.out | apply pw_below_drewN)) hb5⟩
    clear hb5
    go_wp2_with fail
    refine (put_call A0 c0 l0 key (g0) (g1) (g2 + n) (g3) (g4 - n) _ ?hC hc0 HCC.out).mono ?_
    case hC =>
      repeat (first | exact Kd.C_below HR.out HB5.out | (with_reducible refine Kd.C_alloc ?_ _) | exact Kd.C_below (Kd.C_below HR.out HB5.out) (cellBelow _ _ _ _))
    rintro e w6 hp6
    rw [← HQ.out] at hp6
    obtain ⟨v6, rfl, hR6, hb6⟩ := hp6
    go_wp2_with fail
    go_ret2
    exact esc_end (v6 := v6) HB5.out (by first | exact below_alloc (Below.refl _ _) _ | exact cellBelow _ _ _ _) hR6 hb6
  · clear hr' ht'
    rw [show mvR ⟨g0, g1, g2, g3, g4⟩ 5 4 n = ⟨g0, g1, g2, g3 + n, g4 - n⟩ from by simp [mvR, setH, hv]]
    obtain ⟨rr, hrr⟩ : ∃ rr, rr = (if chkA (setA l0 key ⟨g0, g1, g2, g3 + n, g4 - n⟩) = true then (setA l0 key ⟨g0, g1, g2, g3 + n, g4 - n⟩, (0 : Int)) else ([], 6)) := ⟨_, rfl⟩
    rw [← hrr]
    have HQ := Aside0.mk hrr
    clear hrr
    go_enter Try.func42, Try.ntmps42
    go_wp2_with fail
    refine (chkA_call A0 c0 l0 _ HR.out hc0 0 (by rw [hc]; rfl)).mono ?_
    rintro e w1 ⟨rfl, hb1⟩
    have HB1 := Aside0.mk hb1
    clear hb1
    go_wp2_with fail
    refine (escrow_right.calls key true _ (right_is' hk)).mono ?_
    rintro e w2 ⟨rfl, ⟨nd2, rfl⟩⟩
    go_wp2_with fail
    refine (escrow_there.calls 5 true _ (there_is' hr)).mono ?_
    rintro e w3 ⟨rfl, ⟨nd3, rfl⟩⟩
    go_wp2_with fail
    refine (escrow_there.calls 4 true _ (there_is' ht)).mono ?_
    rintro e w4 ⟨rfl, ⟨nd4, rfl⟩⟩
    go_wp2_with fail
    refine (findA_call A0 c0 l0 key _ (by repeat (first | exact Kd.C_below HR.out HB1.out | (with_reducible refine Kd.C_drewN ?_ _))) hc0 (by omega) HO.out).mono ?_
    rintro e w5 hfp
    obtain ⟨rfl, hb5⟩ := hfp
    rw [HGA.out]
    have HB5 : Aside0 (Below w.heap.size w w5) := ⟨below_step (by repeat (first | exact HB1.out | apply pw_below_drewN)) hb5⟩
    clear hb5
    go_wp2_with fail
    refine (put_call A0 c0 l0 key (g0) (g1) (g2) (g3 + n) (g4 - n) _ ?hC hc0 HCC.out).mono ?_
    case hC =>
      repeat (first | exact Kd.C_below HR.out HB5.out | (with_reducible refine Kd.C_alloc ?_ _) | exact Kd.C_below (Kd.C_below HR.out HB5.out) (cellBelow _ _ _ _))
    rintro e w6 hp6
    rw [← HQ.out] at hp6
    obtain ⟨v6, rfl, hR6, hb6⟩ := hp6
    go_wp2_with fail
    go_ret2
    exact esc_end (v6 := v6) HB5.out (by first | exact below_alloc (Below.refl _ _) _ | exact cellBelow _ _ _ _) hR6 hb6
  · clear hr' ht'
    rw [show mvR ⟨g0, g1, g2, g3, g4⟩ 5 5 n = ⟨g0, g1, g2, g3, g4⟩ from by simp [mvR, setH, hv]]
    obtain ⟨rr, hrr⟩ : ∃ rr, rr = (if chkA (setA l0 key ⟨g0, g1, g2, g3, g4⟩) = true then (setA l0 key ⟨g0, g1, g2, g3, g4⟩, (0 : Int)) else ([], 6)) := ⟨_, rfl⟩
    rw [← hrr]
    have HQ := Aside0.mk hrr
    clear hrr
    go_enter Try.func42, Try.ntmps42
    go_wp2_with fail
    refine (chkA_call A0 c0 l0 _ HR.out hc0 0 (by rw [hc]; rfl)).mono ?_
    rintro e w1 ⟨rfl, hb1⟩
    have HB1 := Aside0.mk hb1
    clear hb1
    go_wp2_with fail
    refine (escrow_right.calls key true _ (right_is' hk)).mono ?_
    rintro e w2 ⟨rfl, ⟨nd2, rfl⟩⟩
    go_wp2_with fail
    refine (escrow_there.calls 5 true _ (there_is' hr)).mono ?_
    rintro e w3 ⟨rfl, ⟨nd3, rfl⟩⟩
    go_wp2_with fail
    refine (escrow_there.calls 5 true _ (there_is' ht)).mono ?_
    rintro e w4 ⟨rfl, ⟨nd4, rfl⟩⟩
    go_wp2_with fail
    refine (findA_call A0 c0 l0 key _ (by repeat (first | exact Kd.C_below HR.out HB1.out | (with_reducible refine Kd.C_drewN ?_ _))) hc0 (by omega) HO.out).mono ?_
    rintro e w5 hfp
    obtain ⟨rfl, hb5⟩ := hfp
    rw [HGA.out]
    have HB5 : Aside0 (Below w.heap.size w w5) := ⟨below_step (by repeat (first | exact HB1.out | apply pw_below_drewN)) hb5⟩
    clear hb5
    go_wp2_with fail
    refine (put_call A0 c0 l0 key (g0) (g1) (g2) (g3) (g4) _ ?hC hc0 HCC.out).mono ?_
    case hC =>
      repeat (first | exact Kd.C_below HR.out HB5.out | (with_reducible refine Kd.C_alloc ?_ _) | exact Kd.C_below (Kd.C_below HR.out HB5.out) (cellBelow _ _ _ _))
    rintro e w6 hp6
    rw [← HQ.out] at hp6
    obtain ⟨v6, rfl, hR6, hb6⟩ := hp6
    go_wp2_with fail
    go_ret2
    exact esc_end (v6 := v6) HB5.out (by first | exact below_alloc (Below.refl _ _) _ | exact cellBelow _ _ _ _) hR6 hb6
def escrow_Move.f (l0 : List Ac) (a1 : ByteArray) (a2 : Int) (a3 : Int) (a4 : Int) : Option (List Ac × Int) :=
  if mvB l0 a1 a2 a3 a4 = true then (if chkA (setA l0 a1 (mvR (getA l0 a1) a2 a3 a4)) = true then some (setA l0 a1 (mvR (getA l0 a1) a2 a3 a4), 0) else some ([], 6)) else some ([], 1)
theorem escrow_Move.calls (A0 : Option Addr) (c0 : Nat) (l0 : List Ac) (a1 : ByteArray) (a2 : Int) (a3 : Int) (a4 : Int) (r1 : List Ac) (r2 : Int) (w : World) (hr0 : Kd.C k94 w A0 l0.length l0) (hc0 : l0.length ≤ c0) (h : escrow_Move.f l0 a1 a2 a3 a4 = some (r1, r2)) :
    Calls Try.prog 42 #[.slice A0 l0.length c0, .string a1, .int .i64 a2, .int .i64 a3, .int .i64 a4] w fun e w' => ∃ v0_ : Value, e = .returned (.tuple #[v0_, .int .i64 r2]) ∧ Kd.R k94 94 w' w.heap.size (fun _ => True) v0_ r1 ∧ Below w.heap.size w w' := by
  unfold escrow_Move.f at h
  cases hb : mvB l0 a1 a2 a3 a4 with
  | false =>
    rw [hb, if_neg (by decide)] at h
    simp only [Option.some.injEq, Prod.mk.injEq] at h
    obtain ⟨rfl, rfl⟩ := h
    exact mv_bad A0 c0 l0 a1 a2 a3 a4 w hr0 hc0 hb
  | true =>
    rw [hb, if_pos rfl] at h
    have hg := mv_go A0 c0 l0 a1 a2 a3 a4 w hr0 hc0 hb
    cases hq : chkA (setA l0 a1 (mvR (getA l0 a1) a2 a3 a4)) with
    | true =>
      rw [hq, if_pos rfl] at h hg
      simp only [Option.some.injEq] at h
      rw [h] at hg
      exact hg
    | false =>
      rw [hq, if_neg (by decide)] at h hg
      simp only [Option.some.injEq] at h
      rw [h] at hg
      exact hg
end Go.Proofs.Ytfnpiclioikjpaa.X

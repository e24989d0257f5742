/- The law LawParseJoins: its walk, its plain law, its row. -/
import Derived.Test.YtmhenlilcikgmaaRows
import Derived.WalkKit
import Derived.ProofKit
import Derived.OpenShut
import Derived.ShutString
import Derived.ChangeOld
import Derived.Below
import Derived.SizedLaws
import Derived.Test.YtmhenlilcikgmaaJE1
import Derived.Test.YtmhenlilcikgmaaJE2
import Derived.Test.YtmhenlilcikgmaaJE3
import Derived.Test.YtmhenlilcikgmaaJE4
/- Functions of the seat as Lean functions, and that the calls come to them: written by this session's own program xprint.py over the kit's printer. -/
namespace Go.Proofs.Ytmhenlilcikgmaa.X
open Go.RowKit Go.Proofs.YtmhenlilcikgmaaW.PrintWords Go.Proofs.YtmhenlilcikgmaaW.PrintLast Go.Proofs.YtmhenlilcikgmaaW.PrintMore
attribute [local go_sem] max2_int min2_int max_two min_two max_three min_three max_four min_four   -- for this text's walks alone
set_option linter.unusedVariables false
set_option linter.unusedSimpArgs false

/-! ### hucksterlaw15_ParseJoins: function 3 -/
mutual
def hucksterlaw15_ParseJoins.j0 : Nat → ByteArray → ByteArray → Bool → Option (Bool)
  | 0, _, _, _ => none
  | k + 1, x0, x1, x24 => if x24 = true then ((hucksterlaw15_awake.f).bind fun t108 => (some t108)) else ((parse_Lines.f x0).bind fun bt109 => ((parse_Lines.f x1).bind fun bt114 => (if x0.size + 1 ≤ 9223372036854775807 then (if (x0 ++ (⟨#[10]⟩ : ByteArray)).size + x1.size ≤ 9223372036854775807 then ((parse_Lines.f ((x0 ++ (⟨#[10]⟩ : ByteArray)) ++ x1)).bind fun bt119 => (if bt109.2.2 = 0 then (if bt114.2.2 = 0 then (hucksterlaw15_ParseJoins.j1 k x0 x1 bt109.1 bt114.1 bt119.1 bt119.2.2 (decide ((wrap64 ((bt109.1.length : Int) + (bt114.1.length : Int))) > 60))) else (hucksterlaw15_ParseJoins.j1 k x0 x1 bt109.1 bt114.1 bt119.1 bt119.2.2 true)) else (hucksterlaw15_ParseJoins.j1 k x0 x1 bt109.1 bt114.1 bt119.1 bt119.2.2 true))) else (none)) else (none))))
def hucksterlaw15_ParseJoins.j1 : Nat → ByteArray → ByteArray → List (S29) → List (S29) → List (S29) → Int → Bool → Option (Bool)
  | 0, _, _, _, _, _, _, _ => none
  | k + 1, x0, x1, x5, x8, x11, x13, x60 => if x60 = true then ((hucksterlaw15_awake.f).bind fun t124 => (some t124)) else (if x13 = 7 then (if (wrap64 ((x0.size : Int) + (x1.size : Int))) > 390 then ((hucksterlaw15_awake.f).bind fun t125 => (some t125)) else (some false)) else (if x13 = 0 then (hucksterlaw15_ParseJoins.j2 k x0 x5 x8 x11 ((x11.length : Int) != (wrap64 ((x5.length : Int) + (x8.length : Int))))) else (hucksterlaw15_ParseJoins.j2 k x0 x5 x8 x11 true)))
def hucksterlaw15_ParseJoins.j2 : Nat → ByteArray → List (S29) → List (S29) → List (S29) → Bool → Option (Bool)
  | 0, _, _, _, _, _ => none
  | k + 1, x0, x5, x8, x11, x84 => if x84 = true then (some false) else (hucksterlaw15_ParseJoins.l0 k x0 x5 x8 x11 1 0)
def hucksterlaw15_ParseJoins.l0 : Nat → ByteArray → List (S29) → List (S29) → List (S29) → Int → Int → Option (Bool)
  | 0, _, _, _, _, _, _ => none
  | k + 1, x0, x5, x8, x11, x14, x15 => if x15 < (x0.size : Int) then (if 0 ≤ x15 then (if (bt x0 x15) = 10 then (hucksterlaw15_ParseJoins.l0 k x0 x5 x8 x11 (wrap64 (x14 + 1)) (wrap64 (x15 + 1))) else (hucksterlaw15_ParseJoins.l0 k x0 x5 x8 x11 x14 (wrap64 (x15 + 1)))) else (none)) else (hucksterlaw15_ParseJoins.l1 k x5 x8 x11 x14 0)
def hucksterlaw15_ParseJoins.l1 : Nat → List (S29) → List (S29) → List (S29) → Int → Int → Option (Bool)
  | 0, _, _, _, _, _ => none
  | k + 1, x5, x8, x11, x14, x16 => if x16 < (x8.length : Int) then (if 0 ≤ x16 then (hucksterlaw15_ParseJoins.l1 k x5 (x8.set (x16 : Int).toNat (⟨(rd_T29 x8 x16).f0, (rd_T29 x8 x16).f1, (rd_T29 x8 x16).f2, (rd_T29 x8 x16).f3, (rd_T29 x8 x16).f4, (rd_T29 x8 x16).f5, wrap64 (((rd_T29 x8 x16).f6) + x14)⟩ : S29)) x11 x14 (wrap64 (x16 + 1))) else (none)) else ((some (([] : List (S29)) : List (S29))).bind fun y128 => (if y128.length + x5.length < 1599289640401 then ((some (y128 ++ x5 : List (S29))).bind fun y131 => (if y131.length + x8.length < 1599289640401 then ((hucksterref15_Same.f k x11 (y131 ++ x8)).bind fun t137 => (if t137 = true then ((hucksterlaw15_awake.f).bind fun t138 => (some t138)) else (some false))) else (none))) else (none)))
end
def hucksterlaw15_ParseJoins.f (k : Nat) (a0 : ByteArray) (a1 : ByteArray) : Option (Bool) := if (a0.size : Int) > 1000 then (hucksterlaw15_ParseJoins.j0 k a0 a1 true) else (hucksterlaw15_ParseJoins.j0 k a0 a1 (decide ((a1.size : Int) > 1000)))
theorem hucksterlaw15_ParseJoins.mono_l : ∀ k, (∀ y0 y1 y2, LeO (hucksterlaw15_ParseJoins.j0 k y0 y1 y2) (hucksterlaw15_ParseJoins.j0 (k + 1) y0 y1 y2)) ∧ (∀ y0 y1 y2 y3 y4 y5 y6, LeO (hucksterlaw15_ParseJoins.j1 k y0 y1 y2 y3 y4 y5 y6) (hucksterlaw15_ParseJoins.j1 (k + 1) y0 y1 y2 y3 y4 y5 y6)) ∧ (∀ y0 y1 y2 y3 y4, LeO (hucksterlaw15_ParseJoins.j2 k y0 y1 y2 y3 y4) (hucksterlaw15_ParseJoins.j2 (k + 1) y0 y1 y2 y3 y4)) ∧ (∀ y0 y1 y2 y3 y4 y5, LeO (hucksterlaw15_ParseJoins.l0 k y0 y1 y2 y3 y4 y5) (hucksterlaw15_ParseJoins.l0 (k + 1) y0 y1 y2 y3 y4 y5)) ∧ (∀ y0 y1 y2 y3 y4, LeO (hucksterlaw15_ParseJoins.l1 k y0 y1 y2 y3 y4) (hucksterlaw15_ParseJoins.l1 (k + 1) y0 y1 y2 y3 y4))
  | 0 => ⟨fun _ _ _ r h => by simp [hucksterlaw15_ParseJoins.j0] at h, fun _ _ _ _ _ _ _ r h => by simp [hucksterlaw15_ParseJoins.j1] at h, fun _ _ _ _ _ r h => by simp [hucksterlaw15_ParseJoins.j2] at h, fun _ _ _ _ _ _ r h => by simp [hucksterlaw15_ParseJoins.l0] at h, fun _ _ _ _ _ r h => by simp [hucksterlaw15_ParseJoins.l1] at h⟩
  | k + 1 => by
    obtain ⟨ih0, ih1, ih2, ih3, ih4⟩ := hucksterlaw15_ParseJoins.mono_l k
    refine ⟨?_, ?_, ?_, ?_, ?_⟩
    · intro y0 y1 y2
      unfold hucksterlaw15_ParseJoins.j0
      repeat' first
      | (with_reducible exact ih0 _ _ _)
      | (with_reducible exact ih1 _ _ _ _ _ _ _)
      | (with_reducible exact ih2 _ _ _ _ _)
      | (with_reducible exact ih3 _ _ _ _ _ _)
      | (with_reducible exact ih4 _ _ _ _ _)
      | (with_reducible exact hucksterref15_Same.mono _ _ _)
      | (with_reducible exact LeO.refl _)
      | (with_reducible exact LeO.none _)
      | (with_reducible refine LeO.ite ?_ ?_)
      | (with_reducible refine LeO.bind ?_ (fun _ => ?_))
      | exact ih0 _ _ _
      | exact ih1 _ _ _ _ _ _ _
      | exact ih2 _ _ _ _ _
      | exact ih3 _ _ _ _ _ _
      | exact ih4 _ _ _ _ _
      | exact hucksterref15_Same.mono _ _ _
      | exact LeO.none _
      | refine LeO.ite ?_ ?_
      | refine LeO.bind ?_ (fun _ => ?_)
    · intro y0 y1 y2 y3 y4 y5 y6
      unfold hucksterlaw15_ParseJoins.j1
      repeat' first
      | (with_reducible exact ih0 _ _ _)
      | (with_reducible exact ih1 _ _ _ _ _ _ _)
      | (with_reducible exact ih2 _ _ _ _ _)
      | (with_reducible exact ih3 _ _ _ _ _ _)
      | (with_reducible exact ih4 _ _ _ _ _)
      | (with_reducible exact hucksterref15_Same.mono _ _ _)
      | (with_reducible exact LeO.refl _)
      | (with_reducible exact LeO.none _)
      | (with_reducible refine LeO.ite ?_ ?_)
      | (with_reducible refine LeO.bind ?_ (fun _ => ?_))
      | exact ih0 _ _ _
      | exact ih1 _ _ _ _ _ _ _
      | exact ih2 _ _ _ _ _
      | exact ih3 _ _ _ _ _ _
      | exact ih4 _ _ _ _ _
      | exact hucksterref15_Same.mono _ _ _
      | exact LeO.none _
      | refine LeO.ite ?_ ?_
      | refine LeO.bind ?_ (fun _ => ?_)
    · intro y0 y1 y2 y3 y4
      unfold hucksterlaw15_ParseJoins.j2
      repeat' first
      | (with_reducible exact ih0 _ _ _)
      | (with_reducible exact ih1 _ _ _ _ _ _ _)
      | (with_reducible exact ih2 _ _ _ _ _)
      | (with_reducible exact ih3 _ _ _ _ _ _)
      | (with_reducible exact ih4 _ _ _ _ _)
      | (with_reducible exact hucksterref15_Same.mono _ _ _)
      | (with_reducible exact LeO.refl _)
      | (with_reducible exact LeO.none _)
      | (with_reducible refine LeO.ite ?_ ?_)
      | (with_reducible refine LeO.bind ?_ (fun _ => ?_))
      | exact ih0 _ _ _
      | exact ih1 _ _ _ _ _ _ _
      | exact ih2 _ _ _ _ _
      | exact ih3 _ _ _ _ _ _
      | exact ih4 _ _ _ _ _
      | exact hucksterref15_Same.mono _ _ _
      | exact LeO.none _
      | refine LeO.ite ?_ ?_
      | refine LeO.bind ?_ (fun _ => ?_)
    · intro y0 y1 y2 y3 y4 y5
      unfold hucksterlaw15_ParseJoins.l0
      repeat' first
      | (with_reducible exact ih0 _ _ _)
      | (with_reducible exact ih1 _ _ _ _ _ _ _)
      | (with_reducible exact ih2 _ _ _ _ _)
      | (with_reducible exact ih3 _ _ _ _ _ _)
      | (with_reducible exact ih4 _ _ _ _ _)
      | (with_reducible exact hucksterref15_Same.mono _ _ _)
      | (with_reducible exact LeO.refl _)
      | (with_reducible exact LeO.none _)
      | (with_reducible refine LeO.ite ?_ ?_)
      | (with_reducible refine LeO.bind ?_ (fun _ => ?_))
      | exact ih0 _ _ _
      | exact ih1 _ _ _ _ _ _ _
      | exact ih2 _ _ _ _ _
      | exact ih3 _ _ _ _ _ _
      | exact ih4 _ _ _ _ _
      | exact hucksterref15_Same.mono _ _ _
      | exact LeO.none _
      | refine LeO.ite ?_ ?_
      | refine LeO.bind ?_ (fun _ => ?_)
    · intro y0 y1 y2 y3 y4
      unfold hucksterlaw15_ParseJoins.l1
      repeat' first
      | (with_reducible exact ih0 _ _ _)
      | (with_reducible exact ih1 _ _ _ _ _ _ _)
      | (with_reducible exact ih2 _ _ _ _ _)
      | (with_reducible exact ih3 _ _ _ _ _ _)
      | (with_reducible exact ih4 _ _ _ _ _)
      | (with_reducible exact hucksterref15_Same.mono _ _ _)
      | (with_reducible exact LeO.refl _)
      | (with_reducible exact LeO.none _)
      | (with_reducible refine LeO.ite ?_ ?_)
      | (with_reducible refine LeO.bind ?_ (fun _ => ?_))
      | exact ih0 _ _ _
      | exact ih1 _ _ _ _ _ _ _
      | exact ih2 _ _ _ _ _
      | exact ih3 _ _ _ _ _ _
      | exact ih4 _ _ _ _ _
      | exact hucksterref15_Same.mono _ _ _
      | exact LeO.none _
      | refine LeO.ite ?_ ?_
      | refine LeO.bind ?_ (fun _ => ?_)
theorem hucksterlaw15_ParseJoins.mono : ∀ a0 a1 k, LeO (hucksterlaw15_ParseJoins.f k a0 a1) (hucksterlaw15_ParseJoins.f (k + 1) a0 a1) := by
  intro a0 a1 k
  obtain ⟨ih0, ih1, ih2, ih3, ih4⟩ := hucksterlaw15_ParseJoins.mono_l k
  unfold hucksterlaw15_ParseJoins.f
  repeat' first
      | (with_reducible exact ih0 _ _ _)
      | (with_reducible exact ih1 _ _ _ _ _ _ _)
      | (with_reducible exact ih2 _ _ _ _ _)
      | (with_reducible exact ih3 _ _ _ _ _ _)
      | (with_reducible exact ih4 _ _ _ _ _)
      | (with_reducible exact hucksterref15_Same.mono _ _ _)
      | (with_reducible exact LeO.refl _)
      | (with_reducible exact LeO.none _)
      | (with_reducible refine LeO.ite ?_ ?_)
      | (with_reducible refine LeO.bind ?_ (fun _ => ?_))
      | exact ih0 _ _ _
      | exact ih1 _ _ _ _ _ _ _
      | exact ih2 _ _ _ _ _
      | exact ih3 _ _ _ _ _ _
      | exact ih4 _ _ _ _ _
      | exact hucksterref15_Same.mono _ _ _
      | exact LeO.none _
      | refine LeO.ite ?_ ?_
      | refine LeO.bind ?_ (fun _ => ?_)
set_option maxHeartbeats 8000000 in
set_option maxRecDepth 100000 in
theorem hucksterlaw15_ParseJoins.calls (k : Nat) (a0 : ByteArray) (a1 : ByteArray) (r : Bool) (w : World) (h : hucksterlaw15_ParseJoins.f k a0 a1 = some r) :
    Calls Try.prog 3 #[.string a0, .string a1] w fun e w' => e = .returned (.bool r) ∧ Below w.heap.size w w' := by
  have HB := Aside0.mk (Below.refl w.heap.size w)
  have H : (if (a0.size : Int) > 1000 then (hucksterlaw15_ParseJoins.j0 k a0 a1 true) else (hucksterlaw15_ParseJoins.j0 k a0 a1 (decide ((a1.size : Int) > 1000)))) = some r := h
  clear h
  have HC3 := Aside0.mk H
  clear H
  go_enter Try.func3, Try.ntmps3
  go_upto_region 1 with (fail)
  go_cut [24] (fun v24 wc => ∃ (kq : Nat) (x24_2 : Bool), v24 = .bool x24_2 ∧ Aside0 (hucksterlaw15_ParseJoins.j0 kq a0 a1 x24_2 = some r) ∧ Aside0 (kq ≤ k) ∧ Aside0 (Below w.heap.size w wc))
  case first =>
    have H := HC3.out
    clear HC3
    by_cases c4 : (a0.size : Int) > 1000
    · rw [if_pos c4] at H
      have c4b0 : decide (1000 < (a0.size : Int)) = true := decide_eq_true c4
      have c4b1 : decide (1000 < a0.size) = true := decide_eq_true (by omega)
      clear c4
      (first | rw [c4b0] | (simp only [i64_w, i32_w]; rw [c4b0]) | skip)
      have H' := Aside0.mk H
      clear H
      go_wp2
      go_meet
      case rel => exact ⟨_, (true), (by first | rfl | (simp; done) | (simp [*]; done)), H', ⟨by first | omega | exact Nat.le_refl _⟩, ⟨by repeat (first | (with_reducible first | exact HB.out | apply below_alloc | apply pw_below_drewN | apply below_drew1) | exact HB.out)⟩⟩
    · rw [if_neg c4] at H
      have c4b0 : decide (1000 < (a0.size : Int)) = false := decide_eq_false c4
      have c4b1 : decide (1000 < a0.size) = false := decide_eq_false (by omega)
      clear c4
      (first | rw [c4b0] | (simp only [i64_w, i32_w]; rw [c4b0]) | skip)
      have H' := Aside0.mk H
      clear H
      go_wp2
      go_meet
      case rel => exact ⟨_, (decide ((a1.size : Int) > 1000)), (by first | rfl | (simp; done) | (simp [*]; done)), H', ⟨by first | omega | exact Nat.le_refl _⟩, ⟨by repeat (first | (with_reducible first | exact HB.out | apply below_alloc | apply pw_below_drewN | apply below_drew1) | exact HB.out)⟩⟩
  case rest =>
    clear HC3
    try clear p2
    try clear c3
    try clear c4
    try clear c4b0
    try clear c4b1
    obtain ⟨kq, x24_2, rfl, HA, HJ2, HB⟩ := hcut
    cases kq with
    | zero => exact absurd HA.out (by simp [hucksterlaw15_ParseJoins.j0])
    | succ kj2 =>
      have H := HA.out
      clear HA
      simp only [hucksterlaw15_ParseJoins.j0] at H
      by_cases c5 : x24_2 = true
      · subst c5
        have H1 : ((hucksterlaw15_awake.f).bind fun t108 => (some t108)) = some r := by rw [if_pos rfl] at H; exact H
        clear H
        have H := H1
        clear H1
        replace H := Option.bind_eq_some_iff.mp H
        obtain ⟨t108, A60, H⟩ := H
        replace H : (some t108) = some r := H
        have A6 := Aside0.mk A60
        clear A60
        obtain rfl := Option.some.inj H
        go_wp2_with (first | ((with_reducible refine gate_callee (f := 5) rfl ?_); refine goesL_ (some 25) rfl rfl Try.func5 (by kernel_rfl) rfl #[] rfl (by (try simp only [List.map_toArray, List.map_cons, List.map_nil]); first | done | rfl | (simp only [List.length_drop, List.length_take]; rfl)) ?_; (with_reducible refine (hucksterlaw15_awake.calls  t108 _ A6.out).mono ?_); rintro e w7 ⟨rfl, hb⟩; refine ⟨_, rfl, ?_⟩; have n0_ := Aside0.mk (below_step (by repeat (first | (with_reducible first | exact HB.out | apply below_alloc | apply pw_below_drewN | apply below_drew1) | exact HB.out)) hb); clear HB; have HB := n0_; clear n0_; (try clear hb); (try clear hb2); (try clear hk); (try clear hi)))
        go_ret
        exact ⟨by first | rfl | (simp [errW_none, errW_some] <;> rfl) | (simp [*, errW_none, errW_some] <;> rfl), by repeat (first | (with_reducible first | exact HB.out | apply below_alloc | apply pw_below_drewN | apply below_drew1) | exact HB.out)⟩
      · replace c5 := Bool.eq_false_iff.mpr c5
        subst c5
        have H1 : ((parse_Lines.f a0).bind fun bt109 => ((parse_Lines.f a1).bind fun bt114 => (if a0.size + 1 ≤ 9223372036854775807 then (if (a0 ++ (⟨#[10]⟩ : ByteArray)).size + a1.size ≤ 9223372036854775807 then ((parse_Lines.f ((a0 ++ (⟨#[10]⟩ : ByteArray)) ++ a1)).bind fun bt119 => (if bt109.2.2 = 0 then (if bt114.2.2 = 0 then (hucksterlaw15_ParseJoins.j1 kj2 a0 a1 bt109.1 bt114.1 bt119.1 bt119.2.2 (decide ((wrap64 ((bt109.1.length : Int) + (bt114.1.length : Int))) > 60))) else (hucksterlaw15_ParseJoins.j1 kj2 a0 a1 bt109.1 bt114.1 bt119.1 bt119.2.2 true)) else (hucksterlaw15_ParseJoins.j1 kj2 a0 a1 bt109.1 bt114.1 bt119.1 bt119.2.2 true))) else (none)) else (none)))) = some r := by rw [if_neg (show ¬ (false = true) by decide)] at H; exact H
        clear H
        have H := H1
        clear H1
        replace H := Option.bind_eq_some_iff.mp H
        obtain ⟨⟨t109, t110, t111⟩, A80, H⟩ := H
        replace H : ((parse_Lines.f a1).bind fun bt114 => (if a0.size + 1 ≤ 9223372036854775807 then (if (a0 ++ (⟨#[10]⟩ : ByteArray)).size + a1.size ≤ 9223372036854775807 then ((parse_Lines.f ((a0 ++ (⟨#[10]⟩ : ByteArray)) ++ a1)).bind fun bt119 => (if t111 = 0 then (if bt114.2.2 = 0 then (hucksterlaw15_ParseJoins.j1 kj2 a0 a1 t109 bt114.1 bt119.1 bt119.2.2 (decide ((wrap64 ((t109.length : Int) + (bt114.1.length : Int))) > 60))) else (hucksterlaw15_ParseJoins.j1 kj2 a0 a1 t109 bt114.1 bt119.1 bt119.2.2 true)) else (hucksterlaw15_ParseJoins.j1 kj2 a0 a1 t109 bt114.1 bt119.1 bt119.2.2 true))) else (none)) else (none))) = some r := H
        have A8 := Aside0.mk A80
        clear A80
        replace H := Option.bind_eq_some_iff.mp H
        obtain ⟨⟨t114, t115, t116⟩, A90, H⟩ := H
        replace H : (if a0.size + 1 ≤ 9223372036854775807 then (if (a0 ++ (⟨#[10]⟩ : ByteArray)).size + a1.size ≤ 9223372036854775807 then ((parse_Lines.f ((a0 ++ (⟨#[10]⟩ : ByteArray)) ++ a1)).bind fun bt119 => (if t111 = 0 then (if t116 = 0 then (hucksterlaw15_ParseJoins.j1 kj2 a0 a1 t109 t114 bt119.1 bt119.2.2 (decide ((wrap64 ((t109.length : Int) + (t114.length : Int))) > 60))) else (hucksterlaw15_ParseJoins.j1 kj2 a0 a1 t109 t114 bt119.1 bt119.2.2 true)) else (hucksterlaw15_ParseJoins.j1 kj2 a0 a1 t109 t114 bt119.1 bt119.2.2 true))) else (none)) else (none)) = some r := H
        have A9 := Aside0.mk A90
        clear A90
        by_cases c10 : a0.size + 1 ≤ 9223372036854775807
        · rw [if_pos c10] at H
          have c10b0 := eq_true c10
          have c10b1 : decide (a0.size + 1 ≤ 9223372036854775807) = true := decide_eq_true c10
          try have c10b2 : (9223372036854775807 < a0.size + 1) = False := eq_false (Nat.not_lt.2 c10)
          try (have c10b3 := c10b2; simp only [ByteArray.size_append, (rfl : (⟨#[32]⟩ : ByteArray).size = 1), (rfl : (⟨#[10]⟩ : ByteArray).size = 1)] at c10b3)
          by_cases c11 : (a0 ++ (⟨#[10]⟩ : ByteArray)).size + a1.size ≤ 9223372036854775807
          · rw [if_pos c11] at H
            have c11b0 := eq_true c11
            have c11b1 : decide ((a0 ++ (⟨#[10]⟩ : ByteArray)).size + a1.size ≤ 9223372036854775807) = true := decide_eq_true c11
            try have c11b2 : (9223372036854775807 < (a0 ++ (⟨#[10]⟩ : ByteArray)).size + a1.size) = False := eq_false (Nat.not_lt.2 c11)
            try (have c11b3 := c11b2; simp only [ByteArray.size_append, (rfl : (⟨#[32]⟩ : ByteArray).size = 1), (rfl : (⟨#[10]⟩ : ByteArray).size = 1)] at c11b3)
            replace H := Option.bind_eq_some_iff.mp H
            obtain ⟨⟨t119, t120, t121⟩, A120, H⟩ := H
            replace H : (if t111 = 0 then (if t116 = 0 then (hucksterlaw15_ParseJoins.j1 kj2 a0 a1 t109 t114 t119 t121 (decide ((wrap64 ((t109.length : Int) + (t114.length : Int))) > 60))) else (hucksterlaw15_ParseJoins.j1 kj2 a0 a1 t109 t114 t119 t121 true)) else (hucksterlaw15_ParseJoins.j1 kj2 a0 a1 t109 t114 t119 t121 true)) = some r := H
            have A12 := Aside0.mk A120
            clear A120
            have HC13 := Aside0.mk H
            clear H
            go_upto_region 6 with (first | ((with_reducible refine gate_callee (f := 6) rfl ?_); refine goesL_ (some 28) rfl rfl Try.func6 (by kernel_rfl) rfl #[.string a0] rfl (by (try simp only [List.map_toArray, List.map_cons, List.map_nil]); first | done | rfl | (simp only [List.length_drop, List.length_take]; rfl)) ?_; (with_reducible refine (parse_Lines.calls a0 t109 t110 t111 _ A8.out).mono ?_); rintro e w14 ⟨v112, rfl, ho0, hb⟩; refine ⟨_, rfl, ?_⟩; have n0_ := Aside0.mk (Kd.N_lower (Kd.N_mono (ok' := fun k_ => True) (Kd.R_N (Kd.R_bound ho0)) (fun k_ hk_ => trivial)) (below_size (by repeat (first | (with_reducible first | exact HB.out | apply below_alloc | apply pw_below_drewN | apply below_drew1) | exact HB.out)))); have n1_ := Aside0.mk (below_step (by repeat (first | (with_reducible first | exact HB.out | apply below_alloc | apply pw_below_drewN | apply below_drew1) | exact HB.out)) hb); clear HB; have HO113 := n0_; have HB := n1_; clear n0_ n1_; (try clear hb); (try clear hb2); (try clear hk); (try clear hi); (try clear ho0)) | ((with_reducible refine gate_callee (f := 6) rfl ?_); refine goesL_ (some 34) rfl rfl Try.func6 (by kernel_rfl) rfl #[.string a1] rfl (by (try simp only [List.map_toArray, List.map_cons, List.map_nil]); first | done | rfl | (simp only [List.length_drop, List.length_take]; rfl)) ?_; (with_reducible refine (parse_Lines.calls a1 t114 t115 t116 _ A9.out).mono ?_); rintro e w15 ⟨v117, rfl, ho0, hb⟩; refine ⟨_, rfl, ?_⟩; have n0_ := Aside0.mk (Kd.N_elder' (by (with_reducible repeat (first | apply Kd.N_alloc | apply Kd.N_drewN | apply Kd.N_drew)); exact HO113.out) (Kd.R_base ho0) hb); have n1_ := Aside0.mk (Kd.N_lower (Kd.N_mono (ok' := fun k_ => some k_ ≠ (v112 : Value).ownBlock) (Kd.R_N (Kd.R_bound ho0)) (fun k_ hk_ => (Kd.fresh' (Kd.N_lt (by (with_reducible repeat (first | apply Kd.N_alloc | apply Kd.N_drewN | apply Kd.N_drew)); exact HO113.out)) k_ hk_.2.1))) (below_size (by repeat (first | (with_reducible first | exact HB.out | apply below_alloc | apply pw_below_drewN | apply below_drew1) | exact HB.out)))); have n2_ := Aside0.mk (below_step (by repeat (first | (with_reducible first | exact HB.out | apply below_alloc | apply pw_below_drewN | apply below_drew1) | exact HB.out)) hb); clear HO113; clear HB; have HO113 := n0_; have HO118 := n1_; have HB := n2_; clear n0_ n1_ n2_; (try clear hb); (try clear hb2); (try clear hk); (try clear hi); (try clear ho0)) | ((with_reducible refine gate_callee (f := 6) rfl ?_); refine goesL_ (some 43) rfl rfl Try.func6 (by kernel_rfl) rfl #[.string ((a0 ++ (⟨#[10]⟩ : ByteArray)) ++ a1)] rfl (by (try simp only [List.map_toArray, List.map_cons, List.map_nil]); first | done | rfl | (simp only [List.length_drop, List.length_take]; rfl)) ?_; (with_reducible refine (parse_Lines.calls ((a0 ++ (⟨#[10]⟩ : ByteArray)) ++ a1) t119 t120 t121 _ A12.out).mono ?_); rintro e w16 ⟨v122, rfl, ho0, hb⟩; refine ⟨_, rfl, ?_⟩; have n0_ := Aside0.mk (Kd.N_elder' (by (with_reducible repeat (first | apply Kd.N_alloc | apply Kd.N_drewN | apply Kd.N_drew)); exact HO113.out) (Kd.R_base ho0) hb); have n1_ := Aside0.mk (Kd.N_elder' (by (with_reducible repeat (first | apply Kd.N_alloc | apply Kd.N_drewN | apply Kd.N_drew)); exact HO118.out) (Kd.R_base ho0) hb); have n2_ := Aside0.mk (Kd.N_lower (Kd.N_mono (ok' := fun k_ => some k_ ≠ (v112 : Value).ownBlock ∧ some k_ ≠ (v117 : Value).ownBlock) (Kd.R_N (Kd.R_bound ho0)) (fun k_ hk_ => ⟨(Kd.fresh' (Kd.N_lt (by (with_reducible repeat (first | apply Kd.N_alloc | apply Kd.N_drewN | apply Kd.N_drew)); exact HO113.out)) k_ hk_.2.1), (Kd.fresh' (Kd.N_lt (by (with_reducible repeat (first | apply Kd.N_alloc | apply Kd.N_drewN | apply Kd.N_drew)); exact HO118.out)) k_ hk_.2.1)⟩)) (below_size (by repeat (first | (with_reducible first | exact HB.out | apply below_alloc | apply pw_below_drewN | apply below_drew1) | exact HB.out)))); have n3_ := Aside0.mk (below_step (by repeat (first | (with_reducible first | exact HB.out | apply below_alloc | apply pw_below_drewN | apply below_drew1) | exact HB.out)) hb); clear HO113; clear HO118; clear HB; have HO113 := n0_; have HO118 := n1_; have HO123 := n2_; have HB := n3_; clear n0_ n1_ n2_ n3_; (try clear hb); (try clear hb2); (try clear hk); (try clear hi); (try clear ho0)))
            (try simp only [Act.put, List.setIfInBounds_toArray, List.set_cons_zero, List.set_cons_succ])
            go_cut [60] (fun v60 wc => ∃ (kq : Nat) (x60_12 : Bool), v60 = .bool x60_12 ∧ Aside0 (hucksterlaw15_ParseJoins.j1 kq a0 a1 t109 t114 t119 t121 x60_12 = some r) ∧ Aside0 (kq ≤ kj2) ∧ Aside0 (Kd.N k29 29 wc w.heap.size (fun k_ => some k_ ≠ (v117 : Value).ownBlock ∧ some k_ ≠ (v122 : Value).ownBlock) v112 t109) ∧ Aside0 (Kd.N k29 29 wc w.heap.size (fun k_ => some k_ ≠ (v112 : Value).ownBlock ∧ some k_ ≠ (v122 : Value).ownBlock) v117 t114) ∧ Aside0 (Kd.N k29 29 wc w.heap.size (fun k_ => some k_ ≠ (v112 : Value).ownBlock ∧ some k_ ≠ (v117 : Value).ownBlock) v122 t119) ∧ Aside0 (Below w.heap.size w wc))
            case first =>
              have H := HC13.out
              clear HC13
              by_cases c17 : t111 = 0
              · rw [if_pos c17] at H
                have c17b0 : (t111 == 0) = true := beq_iff_eq.mpr c17
                have c17b1 : (t111 != 0) = false := bne_eq_false_iff_eq.mpr c17
                clear c17
                (first | rw [c17b0] | (simp only [i64_w, i32_w]; rw [c17b0]) | skip)
                by_cases c18 : t116 = 0
                · rw [if_pos c18] at H
                  have c18b0 : (t116 == 0) = true := beq_iff_eq.mpr c18
                  have c18b1 : (t116 != 0) = false := bne_eq_false_iff_eq.mpr c18
                  clear c18
                  have H' := Aside0.mk H
                  clear H
                  obtain ⟨Ao19, co19, eo19⟩ := Kd.N_slice HO113.out
                  subst eo19
                  obtain ⟨Ao20, co20, eo20⟩ := Kd.N_slice HO118.out
                  subst eo20
                  go_wp2
                  go_meet
                  case rel => exact ⟨_, (decide ((wrap64 ((t109.length : Int) + (t114.length : Int))) > 60)), (by first | rfl | (simp; done) | (simp [*]; done)), H', ⟨by have := HJ2.out; first | omega | exact Nat.le_refl _⟩, ⟨by (with_reducible repeat (first | apply Kd.N_alloc | apply Kd.N_drewN | apply Kd.N_drew)); exact Kd.N_mono HO113.out (fun _ hk => ⟨hk.1.2, hk.2⟩)⟩, ⟨by (with_reducible repeat (first | apply Kd.N_alloc | apply Kd.N_drewN | apply Kd.N_drew)); exact HO118.out⟩, ⟨by (with_reducible repeat (first | apply Kd.N_alloc | apply Kd.N_drewN | apply Kd.N_drew)); exact HO123.out⟩, ⟨by repeat (first | (with_reducible first | exact HB.out | apply below_alloc | apply pw_below_drewN | apply below_drew1) | exact HB.out)⟩⟩
                · rw [if_neg c18] at H
                  have c18b0 : (t116 == 0) = false := beq_eq_false_iff_ne.mpr c18
                  have c18b1 : (t116 != 0) = true := bne_iff_ne.mpr c18
                  have H' := Aside0.mk H
                  clear H
                  go_wp2
                  go_meet
                  case rel => exact ⟨_, (true), (by first | rfl | (simp; done) | (simp [*]; done)), H', ⟨by have := HJ2.out; first | omega | exact Nat.le_refl _⟩, ⟨by (with_reducible repeat (first | apply Kd.N_alloc | apply Kd.N_drewN | apply Kd.N_drew)); exact Kd.N_mono HO113.out (fun _ hk => ⟨hk.1.2, hk.2⟩)⟩, ⟨by (with_reducible repeat (first | apply Kd.N_alloc | apply Kd.N_drewN | apply Kd.N_drew)); exact HO118.out⟩, ⟨by (with_reducible repeat (first | apply Kd.N_alloc | apply Kd.N_drewN | apply Kd.N_drew)); exact HO123.out⟩, ⟨by repeat (first | (with_reducible first | exact HB.out | apply below_alloc | apply pw_below_drewN | apply below_drew1) | exact HB.out)⟩⟩
              · rw [if_neg c17] at H
                have c17b0 : (t111 == 0) = false := beq_eq_false_iff_ne.mpr c17
                have c17b1 : (t111 != 0) = true := bne_iff_ne.mpr c17
                (first | rw [c17b0] | (simp only [i64_w, i32_w]; rw [c17b0]) | skip)
                have H' := Aside0.mk H
                clear H
                go_wp2
                go_meet
                case rel => exact ⟨_, (true), (by first | rfl | (simp; done) | (simp [*]; done)), H', ⟨by have := HJ2.out; first | omega | exact Nat.le_refl _⟩, ⟨by (with_reducible repeat (first | apply Kd.N_alloc | apply Kd.N_drewN | apply Kd.N_drew)); exact Kd.N_mono HO113.out (fun _ hk => ⟨hk.1.2, hk.2⟩)⟩, ⟨by (with_reducible repeat (first | apply Kd.N_alloc | apply Kd.N_drewN | apply Kd.N_drew)); exact HO118.out⟩, ⟨by (with_reducible repeat (first | apply Kd.N_alloc | apply Kd.N_drewN | apply Kd.N_drew)); exact HO123.out⟩, ⟨by repeat (first | (with_reducible first | exact HB.out | apply below_alloc | apply pw_below_drewN | apply below_drew1) | exact HB.out)⟩⟩
            case rest =>
              clear HC13
              try clear c1
              try clear p2
              try clear c3
              try clear c4
              try clear c4b0
              try clear c4b1
              try clear c5
              try clear c6
              try clear p6
              try clear c10
              try clear c10b0
              try clear c10b1
              try clear c10b2
              try clear c11
              try clear c11b0
              try clear c11b1
              try clear c11b2
              try clear c17
              try clear c17b0
              try clear c17b1
              try clear c18
              try clear c18b0
              try clear c18b1
              try clear p2
              obtain ⟨kq, x60_12, rfl, HA, HJ12, HO_5, HO_8, HO_11, HB⟩ := hcut
              cases kq with
              | zero => exact absurd HA.out (by simp [hucksterlaw15_ParseJoins.j1])
              | succ kj12 =>
                have H := HA.out
                clear HA
                simp only [hucksterlaw15_ParseJoins.j1] at H
                by_cases c21 : x60_12 = true
                · subst c21
                  have H1 : ((hucksterlaw15_awake.f).bind fun t124 => (some t124)) = some r := by rw [if_pos rfl] at H; exact H
                  clear H
                  have H := H1
                  clear H1
                  replace H := Option.bind_eq_some_iff.mp H
                  obtain ⟨t124, A220, H⟩ := H
                  replace H : (some t124) = some r := H
                  have A22 := Aside0.mk A220
                  clear A220
                  obtain rfl := Option.some.inj H
                  go_wp2_with (first | ((with_reducible refine gate_callee (f := 5) rfl ?_); refine goesL_ (some 61) rfl rfl Try.func5 (by kernel_rfl) rfl #[] rfl (by (try simp only [List.map_toArray, List.map_cons, List.map_nil]); first | done | rfl | (simp only [List.length_drop, List.length_take]; rfl)) ?_; (with_reducible refine (hucksterlaw15_awake.calls  t124 _ A22.out).mono ?_); rintro e w23 ⟨rfl, hb⟩; refine ⟨_, rfl, ?_⟩; have n0_ := Aside0.mk (Kd.N_below (by (with_reducible repeat (first | apply Kd.N_alloc | apply Kd.N_drewN | apply Kd.N_drew)); exact HO_5.out) hb); have n1_ := Aside0.mk (Kd.N_below (by (with_reducible repeat (first | apply Kd.N_alloc | apply Kd.N_drewN | apply Kd.N_drew)); exact HO_8.out) hb); have n2_ := Aside0.mk (Kd.N_below (by (with_reducible repeat (first | apply Kd.N_alloc | apply Kd.N_drewN | apply Kd.N_drew)); exact HO_11.out) hb); have n3_ := Aside0.mk (below_step (by repeat (first | (with_reducible first | exact HB.out | apply below_alloc | apply pw_below_drewN | apply below_drew1) | exact HB.out)) hb); clear HO_5; clear HO_8; clear HO_11; clear HB; have HO_5 := n0_; have HO_8 := n1_; have HO_11 := n2_; have HB := n3_; clear n0_ n1_ n2_ n3_; (try clear hb); (try clear hb2); (try clear hk); (try clear hi)))
                  go_ret
                  exact ⟨by first | rfl | (simp [errW_none, errW_some] <;> rfl) | (simp [*, errW_none, errW_some] <;> rfl), by repeat (first | (with_reducible first | exact HB.out | apply below_alloc | apply pw_below_drewN | apply below_drew1) | exact HB.out)⟩
                · replace c21 := Bool.eq_false_iff.mpr c21
                  subst c21
                  have H1 : (if t121 = 7 then (if (wrap64 ((a0.size : Int) + (a1.size : Int))) > 390 then ((hucksterlaw15_awake.f).bind fun t125 => (some t125)) else (some false)) else (if t121 = 0 then (hucksterlaw15_ParseJoins.j2 kj12 a0 t109 t114 t119 ((t119.length : Int) != (wrap64 ((t109.length : Int) + (t114.length : Int))))) else (hucksterlaw15_ParseJoins.j2 kj12 a0 t109 t114 t119 true))) = some r := by rw [if_neg (show ¬ (false = true) by decide)] at H; exact H
                  clear H
                  have H := H1
                  clear H1
                  by_cases c24 : t121 = 7
                  · rw [if_pos c24] at H
                    have c24b0 : (t121 == 7) = true := beq_iff_eq.mpr c24
                    have c24b1 : (t121 != 7) = false := bne_eq_false_iff_eq.mpr c24
                    clear c24
                    by_cases c25 : (wrap64 ((a0.size : Int) + (a1.size : Int))) > 390
                    · rw [if_pos c25] at H
                      have c25b0 : decide (390 < (wrap64 ((a0.size : Int) + (a1.size : Int)))) = true := decide_eq_true c25
                      clear c25
                      replace H := Option.bind_eq_some_iff.mp H
                      obtain ⟨t125, A260, H⟩ := H
                      replace H : (some t125) = some r := H
                      have A26 := Aside0.mk A260
                      clear A260
                      obtain rfl := Option.some.inj H
                      go_wp2_with (first | (go_at_call 5; (with_reducible refine (hucksterlaw15_awake.calls  t125 _ A26.out).mono ?_); rintro e w27 ⟨rfl, hb⟩; have n0_ := Aside0.mk (Kd.N_below (by (with_reducible repeat (first | apply Kd.N_alloc | apply Kd.N_drewN | apply Kd.N_drew)); exact HO_5.out) hb); have n1_ := Aside0.mk (Kd.N_below (by (with_reducible repeat (first | apply Kd.N_alloc | apply Kd.N_drewN | apply Kd.N_drew)); exact HO_8.out) hb); have n2_ := Aside0.mk (Kd.N_below (by (with_reducible repeat (first | apply Kd.N_alloc | apply Kd.N_drewN | apply Kd.N_drew)); exact HO_11.out) hb); have n3_ := Aside0.mk (below_step (by repeat (first | (with_reducible first | exact HB.out | apply below_alloc | apply pw_below_drewN | apply below_drew1) | exact HB.out)) hb); clear HO_5; clear HO_8; clear HO_11; clear HB; have HO_5 := n0_; have HO_8 := n1_; have HO_11 := n2_; have HB := n3_; clear n0_ n1_ n2_ n3_; (try clear hb); (try clear hb2); (try clear hk); (try clear hi)))
                      go_ret
                      exact ⟨by first | rfl | (simp [errW_none, errW_some] <;> rfl) | (simp [*, errW_none, errW_some] <;> rfl), by repeat (first | (with_reducible first | exact HB.out | apply below_alloc | apply pw_below_drewN | apply below_drew1) | exact HB.out)⟩
                    · rw [if_neg c25] at H
                      have c25b0 : decide (390 < (wrap64 ((a0.size : Int) + (a1.size : Int)))) = false := decide_eq_false c25
                      clear c25
                      obtain rfl := Option.some.inj H
                      go_wp2
                      go_ret
                      exact ⟨by first | rfl | (simp [errW_none, errW_some] <;> rfl) | (simp [*, errW_none, errW_some] <;> rfl), by repeat (first | (with_reducible first | exact HB.out | apply below_alloc | apply pw_below_drewN | apply below_drew1) | exact HB.out)⟩
                  · rw [if_neg c24] at H
                    have c24b0 : (t121 == 7) = false := beq_eq_false_iff_ne.mpr c24
                    have c24b1 : (t121 != 7) = true := bne_iff_ne.mpr c24
                    have HC28 := Aside0.mk H
                    clear H
                    go_upto_region 10 with (fail)
                    go_cut [84] (fun v84 wc => ∃ (kq : Nat) (x84_27 : Bool), v84 = .bool x84_27 ∧ Aside0 (hucksterlaw15_ParseJoins.j2 kq a0 t109 t114 t119 x84_27 = some r) ∧ Aside0 (kq ≤ kj12) ∧ Aside0 (Kd.N k29 29 wc w.heap.size (fun k_ => some k_ ≠ (v117 : Value).ownBlock ∧ some k_ ≠ (v122 : Value).ownBlock) v112 t109) ∧ Aside0 (Kd.N k29 29 wc w.heap.size (fun k_ => some k_ ≠ (v112 : Value).ownBlock ∧ some k_ ≠ (v122 : Value).ownBlock) v117 t114) ∧ Aside0 (Kd.N k29 29 wc w.heap.size (fun k_ => some k_ ≠ (v112 : Value).ownBlock ∧ some k_ ≠ (v117 : Value).ownBlock) v122 t119) ∧ Aside0 (Below w.heap.size w wc))
                    case first =>
                      have H := HC28.out
                      clear HC28
                      by_cases c29 : t121 = 0
                      · rw [if_pos c29] at H
                        have c29b0 : (t121 == 0) = true := beq_iff_eq.mpr c29
                        have c29b1 : (t121 != 0) = false := bne_eq_false_iff_eq.mpr c29
                        clear c29
                        (first | rw [c29b0] | (simp only [i64_w, i32_w]; rw [c29b0]) | skip)
                        have H' := Aside0.mk H
                        clear H
                        obtain ⟨Ao30, co30, eo30⟩ := Kd.N_slice HO_11.out
                        subst eo30
                        obtain ⟨Ao31, co31, eo31⟩ := Kd.N_slice HO_5.out
                        subst eo31
                        obtain ⟨Ao32, co32, eo32⟩ := Kd.N_slice HO_8.out
                        subst eo32
                        go_wp2
                        go_meet
                        case rel => exact ⟨_, (((t119.length : Int) != (wrap64 ((t109.length : Int) + (t114.length : Int))))), (by first | rfl | (simp; done) | (simp [*]; done)), H', ⟨by have := HJ2.out; have := HJ12.out; first | omega | exact Nat.le_refl _⟩, ⟨by (with_reducible repeat (first | apply Kd.N_alloc | apply Kd.N_drewN | apply Kd.N_drew)); exact HO_5.out⟩, ⟨by (with_reducible repeat (first | apply Kd.N_alloc | apply Kd.N_drewN | apply Kd.N_drew)); exact HO_8.out⟩, ⟨by (with_reducible repeat (first | apply Kd.N_alloc | apply Kd.N_drewN | apply Kd.N_drew)); exact HO_11.out⟩, ⟨by repeat (first | (with_reducible first | exact HB.out | apply below_alloc | apply pw_below_drewN | apply below_drew1) | exact HB.out)⟩⟩
                      · rw [if_neg c29] at H
                        have c29b0 : (t121 == 0) = false := beq_eq_false_iff_ne.mpr c29
                        have c29b1 : (t121 != 0) = true := bne_iff_ne.mpr c29
                        (first | rw [c29b0] | (simp only [i64_w, i32_w]; rw [c29b0]) | skip)
                        have H' := Aside0.mk H
                        clear H
                        go_wp2
                        go_meet
                        case rel => exact ⟨_, (true), (by first | rfl | (simp; done) | (simp [*]; done)), H', ⟨by have := HJ2.out; have := HJ12.out; first | omega | exact Nat.le_refl _⟩, ⟨by (with_reducible repeat (first | apply Kd.N_alloc | apply Kd.N_drewN | apply Kd.N_drew)); exact HO_5.out⟩, ⟨by (with_reducible repeat (first | apply Kd.N_alloc | apply Kd.N_drewN | apply Kd.N_drew)); exact HO_8.out⟩, ⟨by (with_reducible repeat (first | apply Kd.N_alloc | apply Kd.N_drewN | apply Kd.N_drew)); exact HO_11.out⟩, ⟨by repeat (first | (with_reducible first | exact HB.out | apply below_alloc | apply pw_below_drewN | apply below_drew1) | exact HB.out)⟩⟩
                    case rest =>
                      clear HC28
                      try clear c1
                      try clear c2
                      try clear p2
                      try clear c3
                      try clear c4
                      try clear c4b0
                      try clear c4b1
                      try clear c5
                      try clear c6
                      try clear p6
                      try clear c10
                      try clear c10b0
                      try clear c10b1
                      try clear c10b2
                      try clear c11
                      try clear c11b0
                      try clear c11b1
                      try clear c11b2
                      try clear c17
                      try clear c17b0
                      try clear c17b1
                      try clear c18
                      try clear c18b0
                      try clear c18b1
                      try clear c21
                      try clear c24
                      try clear c24b0
                      try clear c24b1
                      try clear c25
                      try clear c25b0
                      try clear c29
                      try clear c29b0
                      try clear c29b1
                      try clear p2
                      try clear p6
                      obtain ⟨kq, x84_27, rfl, HA, HJ27, HO_5, HO_8, HO_11, HB⟩ := hcut
                      cases kq with
                      | zero => exact absurd HA.out (by simp [hucksterlaw15_ParseJoins.j2])
                      | succ kj27 =>
                        have H := HA.out
                        clear HA
                        simp only [hucksterlaw15_ParseJoins.j2] at H
                        by_cases c33 : x84_27 = true
                        · subst c33
                          have H1 : (some false) = some r := by rw [if_pos rfl] at H; exact H
                          clear H
                          have H := H1
                          clear H1
                          obtain rfl := Option.some.inj H
                          go_wp2
                          go_ret
                          exact ⟨by first | rfl | (simp [errW_none, errW_some] <;> rfl) | (simp [*, errW_none, errW_some] <;> rfl), by repeat (first | (with_reducible first | exact HB.out | apply below_alloc | apply pw_below_drewN | apply below_drew1) | exact HB.out)⟩
                        · replace c33 := Bool.eq_false_iff.mpr c33
                          subst c33
                          have H1 : (hucksterlaw15_ParseJoins.l0 kj27 a0 t109 t114 t119 1 0) = some r := by rw [if_neg (show ¬ (false = true) by decide)] at H; exact H
                          clear H
                          have H := H1
                          clear H1
                          have H' := Aside0.mk H
                          clear H
                          go_wp2
                          go_loopg [14, 15] kj27 (fun kq v14 v15 w' => ∃ (x14_4 : Int) (x15_4 : Int), v14 = .int .i64 x14_4 ∧ v15 = .int .i64 x15_4 ∧ Aside0 (hucksterlaw15_ParseJoins.l0 kq a0 t109 t114 t119 x14_4 x15_4 = some r) ∧ Aside0 (kq ≤ kj27) ∧ Aside0 (Kd.N k29 29 w' w.heap.size (fun k_ => some k_ ≠ (v117 : Value).ownBlock ∧ some k_ ≠ (v122 : Value).ownBlock) v112 t109) ∧ Aside0 (Kd.N k29 29 w' w.heap.size (fun k_ => some k_ ≠ (v112 : Value).ownBlock ∧ some k_ ≠ (v122 : Value).ownBlock) v117 t114) ∧ Aside0 (Kd.N k29 29 w' w.heap.size (fun k_ => some k_ ≠ (v112 : Value).ownBlock ∧ some k_ ≠ (v117 : Value).ownBlock) v122 t119) ∧ Aside0 (Below w.heap.size w w'))
                          case atStart => exact ⟨(1), (0), (by first | rfl | (simp; done) | (simp [*]; done)), (by first | rfl | (simp; done) | (simp [*]; done)), H', ⟨Nat.le_refl _⟩, ⟨by (with_reducible repeat (first | apply Kd.N_alloc | apply Kd.N_drewN | apply Kd.N_drew)); exact HO_5.out⟩, ⟨by (with_reducible repeat (first | apply Kd.N_alloc | apply Kd.N_drewN | apply Kd.N_drew)); exact HO_8.out⟩, ⟨by (with_reducible repeat (first | apply Kd.N_alloc | apply Kd.N_drewN | apply Kd.N_drew)); exact HO_11.out⟩, ⟨by repeat (first | (with_reducible first | exact HB.out | apply below_alloc | apply pw_below_drewN | apply below_drew1) | exact HB.out)⟩⟩
                          case round =>
                            clear H'
                            try clear c1
                            try clear c2
                            try clear p2
                            try clear c3
                            try clear c4
                            try clear c4b0
                            try clear c4b1
                            try clear c5
                            try clear c6
                            try clear p6
                            try clear c10
                            try clear c10b0
                            try clear c10b1
                            try clear c10b2
                            try clear c11
                            try clear c11b0
                            try clear c11b1
                            try clear c11b2
                            try clear c17
                            try clear c17b0
                            try clear c17b1
                            try clear c18
                            try clear c18b0
                            try clear c18b1
                            try clear c21
                            try clear c24
                            try clear c24b0
                            try clear c24b1
                            try clear c25
                            try clear c25b0
                            try clear c29
                            try clear c29b0
                            try clear c29b1
                            try clear c33
                            try clear p2
                            try clear p6
                            obtain ⟨x14_4, x15_4, rfl, rfl, HA, HK4, HO_5, HO_8, HO_11, HB⟩ := hrel
                            cases gk with
                            | zero => exact absurd HA.out (by simp [hucksterlaw15_ParseJoins.l0])
                            | succ k4 =>
                              have H := HA.out
                              clear HA
                              simp only [hucksterlaw15_ParseJoins.l0] at H
                              by_cases c34 : x15_4 < (a0.size : Int)
                              · rw [if_pos c34] at H
                                have c34b0 : decide (x15_4 < (a0.size : Int)) = true := decide_eq_true c34
                                clear c34
                                by_cases c35 : 0 ≤ x15_4
                                · rw [if_pos c35] at H
                                  have c35b0 : decide (0 ≤ x15_4) = true := decide_eq_true c35
                                  clear c35
                                  by_cases c37 : (bt a0 x15_4) = 10
                                  · rw [if_pos c37] at H
                                    have c37b0 : ((bt a0 x15_4) == 10) = true := beq_iff_eq.mpr c37
                                    have c37b1 : ((bt a0 x15_4) != 10) = false := bne_eq_false_iff_eq.mpr c37
                                    clear c37
                                    have H' := Aside0.mk H
                                    clear H
                                    have p36 : 0 ≤ (x15_4 : Int) := of_decide_eq_true (by first | (with_reducible assumption) | assumption)
                                    have q36 : x15_4 < (a0.size : Int) := of_decide_eq_true (by first | (with_reducible assumption) | assumption)
                                    have hx36 := bt_at a0 x15_4
                                    replace p36 := eq_true p36
                                    replace q36 := eq_true q36
                                    go_wp2
                                    go_roundg k4
                                    case measure => have := HJ2.out; have := HJ12.out; have := HJ27.out; have := HK4.out; omega
                                    case rel => exact ⟨(wrap64 (x14_4 + 1)), (wrap64 (x15_4 + 1)), (by first | rfl | (simp; done) | (simp [*]; done)), (by first | rfl | (simp; done) | (simp [*]; done)), H', ⟨by have := HJ2.out; have := HJ12.out; have := HJ27.out; have := HK4.out; omega⟩, ⟨by (with_reducible repeat (first | apply Kd.N_alloc | apply Kd.N_drewN | apply Kd.N_drew)); exact HO_5.out⟩, ⟨by (with_reducible repeat (first | apply Kd.N_alloc | apply Kd.N_drewN | apply Kd.N_drew)); exact HO_8.out⟩, ⟨by (with_reducible repeat (first | apply Kd.N_alloc | apply Kd.N_drewN | apply Kd.N_drew)); exact HO_11.out⟩, ⟨by repeat (first | (with_reducible first | exact HB.out | apply below_alloc | apply pw_below_drewN | apply below_drew1) | exact HB.out)⟩⟩
                                  · rw [if_neg c37] at H
                                    have c37b0 : ((bt a0 x15_4) == 10) = false := beq_eq_false_iff_ne.mpr c37
                                    have c37b1 : ((bt a0 x15_4) != 10) = true := bne_iff_ne.mpr c37
                                    have H' := Aside0.mk H
                                    clear H
                                    have p36 : 0 ≤ (x15_4 : Int) := of_decide_eq_true (by first | (with_reducible assumption) | assumption)
                                    have q36 : x15_4 < (a0.size : Int) := of_decide_eq_true (by first | (with_reducible assumption) | assumption)
                                    have hx36 := bt_at a0 x15_4
                                    replace p36 := eq_true p36
                                    replace q36 := eq_true q36
                                    go_wp2
                                    go_roundg k4
                                    case measure => have := HJ2.out; have := HJ12.out; have := HJ27.out; have := HK4.out; omega
                                    case rel => exact ⟨(x14_4), (wrap64 (x15_4 + 1)), (by first | rfl | (simp; done) | (simp [*]; done)), (by first | rfl | (simp; done) | (simp [*]; done)), H', ⟨by have := HJ2.out; have := HJ12.out; have := HJ27.out; have := HK4.out; omega⟩, ⟨by (with_reducible repeat (first | apply Kd.N_alloc | apply Kd.N_drewN | apply Kd.N_drew)); exact HO_5.out⟩, ⟨by (with_reducible repeat (first | apply Kd.N_alloc | apply Kd.N_drewN | apply Kd.N_drew)); exact HO_8.out⟩, ⟨by (with_reducible repeat (first | apply Kd.N_alloc | apply Kd.N_drewN | apply Kd.N_drew)); exact HO_11.out⟩, ⟨by repeat (first | (with_reducible first | exact HB.out | apply below_alloc | apply pw_below_drewN | apply below_drew1) | exact HB.out)⟩⟩
                                · rw [if_neg c35] at H
                                  exact absurd H (by simp)
                              · rw [if_neg c34] at H
                                have c34b0 : decide (x15_4 < (a0.size : Int)) = false := decide_eq_false c34
                                clear c34
                                have H' := Aside0.mk H
                                clear H
                                go_wp2
                                go_loopg [16] k4 (fun kq v16 w' => ∃ (x8_5 : List (S29)) (x16_5 : Int), v16 = .int .i64 x16_5 ∧ Aside0 (hucksterlaw15_ParseJoins.l1 kq t109 x8_5 t119 x14_4 x16_5 = some r) ∧ Aside0 (kq ≤ k4) ∧ Aside0 (Kd.N k29 29 w' w.heap.size (fun k_ => some k_ ≠ (v117 : Value).ownBlock ∧ some k_ ≠ (v122 : Value).ownBlock) v112 t109) ∧ Aside0 (Kd.N k29 29 w' w.heap.size (fun k_ => some k_ ≠ (v112 : Value).ownBlock ∧ some k_ ≠ (v122 : Value).ownBlock) v117 x8_5) ∧ Aside0 (Kd.N k29 29 w' w.heap.size (fun k_ => some k_ ≠ (v112 : Value).ownBlock ∧ some k_ ≠ (v117 : Value).ownBlock) v122 t119) ∧ Aside0 (Below w.heap.size w w'))
                                case atStart => exact ⟨(t114), (0), (by first | rfl | (simp; done) | (simp [*]; done)), H', ⟨Nat.le_refl _⟩, ⟨by (with_reducible repeat (first | apply Kd.N_alloc | apply Kd.N_drewN | apply Kd.N_drew)); exact HO_5.out⟩, ⟨by (with_reducible repeat (first | apply Kd.N_alloc | apply Kd.N_drewN | apply Kd.N_drew)); exact HO_8.out⟩, ⟨by (with_reducible repeat (first | apply Kd.N_alloc | apply Kd.N_drewN | apply Kd.N_drew)); exact HO_11.out⟩, ⟨by repeat (first | (with_reducible first | exact HB.out | apply below_alloc | apply pw_below_drewN | apply below_drew1) | exact HB.out)⟩⟩
                                case round =>
                                  clear H'
                                  try clear c1
                                  try clear c2
                                  try clear p2
                                  try clear c3
                                  try clear p3
                                  try clear q3
                                  try clear hx3
                                  try clear c4
                                  try clear c4b0
                                  try clear c4b1
                                  try clear c5
                                  try clear c6
                                  try clear p6
                                  try clear c10
                                  try clear c10b0
                                  try clear c10b1
                                  try clear c10b2
                                  try clear c11
                                  try clear c11b0
                                  try clear c11b1
                                  try clear c11b2
                                  try clear c17
                                  try clear c17b0
                                  try clear c17b1
                                  try clear c18
                                  try clear c18b0
                                  try clear c18b1
                                  try clear c21
                                  try clear c24
                                  try clear c24b0
                                  try clear c24b1
                                  try clear c25
                                  try clear c25b0
                                  try clear c29
                                  try clear c29b0
                                  try clear c29b1
                                  try clear c33
                                  try clear c34
                                  try clear c34b0
                                  try clear c35
                                  try clear c35b0
                                  try clear p36
                                  try clear q36
                                  try clear hx36
                                  try clear c37
                                  try clear c37b0
                                  try clear c37b1
                                  try clear p2
                                  try clear p36
                                  try clear p6
                                  try clear q36
                                  obtain ⟨x8_5, x16_5, rfl, HA, HK5, HO_5, HO_8, HO_11, HB⟩ := hrel
                                  cases gk with
                                  | zero => exact absurd HA.out (by simp [hucksterlaw15_ParseJoins.l1])
                                  | succ k5 =>
                                    have H := HA.out
                                    clear HA
                                    simp only [hucksterlaw15_ParseJoins.l1] at H
                                    by_cases c38 : x16_5 < (x8_5.length : Int)
                                    · rw [if_pos c38] at H
                                      have c38b0 : decide (x16_5 < (x8_5.length : Int)) = true := decide_eq_true c38
                                      clear c38
                                      by_cases c39 : 0 ≤ x16_5
                                      · rw [if_pos c39] at H
                                        have c39b0 : decide (0 ≤ x16_5) = true := decide_eq_true c39
                                        clear c39
                                        obtain ⟨y127, hy127⟩ : ∃ y_ : List (S29), y_ = (x8_5.set (x16_5 : Int).toNat (⟨(rd_T29 x8_5 x16_5).f0, (rd_T29 x8_5 x16_5).f1, (rd_T29 x8_5 x16_5).f2, (rd_T29 x8_5 x16_5).f3, (rd_T29 x8_5 x16_5).f4, (rd_T29 x8_5 x16_5).f5, wrap64 (((rd_T29 x8_5 x16_5).f6) + x14_4)⟩ : S29)) := ⟨_, rfl⟩
                                        replace H : (hucksterlaw15_ParseJoins.l1 k5 t109 y127 t119 x14_4 (wrap64 (x16_5 + 1))) = some r := by first | (rw [hy127]; with_reducible exact H) | (have H2_ := (Option.bind_some _ _).symm.trans H; rw [hy127]; with_reducible exact H2_) | (have H2_ := (Option.bind_some _ _).symm.trans H; with_reducible exact H2_) | with_reducible exact H | (rw [hy127]; exact H) | exact H
                                        have Ny127 := Aside0.mk hy127
                                        clear hy127
                                        have H' := Aside0.mk H
                                        clear H
                                        obtain ⟨Ao41, co41, eo41⟩ := Kd.N_slice HO_8.out
                                        subst eo41
                                        have p126 : 0 ≤ (x16_5 : Int) := of_decide_eq_true (by first | (with_reducible assumption) | assumption)
                                        have q126 : x16_5 < (x8_5.length : Int) := of_decide_eq_true (by first | (with_reducible assumption) | assumption)
                                        obtain ⟨ad126, A126_5, c126_5, e126, hx126_0, hx126_1, hx126_2, hx126_3, hx126_4, hx126_5, hx126_6, hl126_5, hi126_5⟩ := at_T29 (Kd.N_reads' HO_8.out).2.2 x16_5 p126 q126
                                        cases e126
                                        obtain ⟨ce126, hce126, hMe126, hcc126⟩ := Kd.N_get HO_8.out z29 x16_5 p126 (by first | exact q126 | exact of_decide_eq_true (by first | (with_reducible assumption) | assumption) | (have e_ := (Kd.N_reads' HO_8.out).1; omega))
                                        obtain ⟨ua126_5, uc126_5, rfl, ul126_5, ge126_5⟩ := k29_openF hMe126
                                        have hv126_5 := hcc126 5 _ rfl
                                        rw [add_field _ _ 5 (by omega)] at hv126_5
                                        replace hv126_5 := Option.some.inj (hv126_5.symm.trans hx126_5)
                                        injection hv126_5 with hva_ hvn_ hvc_
                                        rw [hva_] at ge126_5
                                        rw [hvc_] at ul126_5
                                        have HL126_5 := Aside0.mk (show Kd.V k60 60 _ w.heap.size _ _ ((rd_T29 x8_5 x16_5).f5) from Kd.V_mk ul126_5 ge126_5)
                                        clear hva_ hvn_ hvc_ ge126_5 ul126_5
                                        clear hcc126 hce126
                                        have HR126_5 := Aside0.mk hi126_5
                                        have HC126_5 := Aside0.mk hl126_5
                                        clear hi126_5 hl126_5
                                        replace p126 := eq_true p126
                                        replace q126 := eq_true q126
                                        have p40 : 0 ≤ (x16_5 : Int) := of_decide_eq_true (by first | (with_reducible assumption) | assumption)
                                        have q40 : (x16_5 : Int) < ((x8_5.length : Int) : Int) := of_decide_eq_true (by first | (with_reducible assumption) | assumption)
                                        obtain ⟨go40, co40, eo40, gb40, gl40, cl40, HG40⟩ := Kd.N_form HO_8.out (by omega)
                                        (first | cases eo40 | (injection eo40 with ea_ en_ ec_; (first | subst ea_ | (injection ea_ with ea_; subst ea_)); subst ec_; clear en_))
                                        have GB40 := Aside0.mk gb40
                                        have GG40 := Aside0.mk HG40
                                        clear gb40 gl40 HG40
                                        (first | simp only [add_plain] at hx126_0 | skip)
                                        (first | simp only [add_plain] at hx126_1 | skip)
                                        (first | simp only [add_plain] at hx126_2 | skip)
                                        (first | simp only [add_plain] at hx126_3 | skip)
                                        (first | simp only [add_plain] at hx126_4 | skip)
                                        (first | simp only [add_plain] at hx126_5 | skip)
                                        (first | simp only [add_plain] at hx126_6 | skip)
                                        obtain ⟨ce40, hcl40, hM40, hcc40, hfr40⟩ := Kd.N_elem HO_8.out z29 (x16_5 : Int) p40 q40
                                        obtain ⟨ua40_5, uc40_5, rfl, ul40_5, ge40_5⟩ := k29_openF hM40
                                        have hx40_0 : wr.cell? ⟨go40, (x16_5 : Int).toNat * 7, none⟩ = some (.int .i64 ((rd_T29 x8_5 x16_5).f0)) := hcc40 0 _ rfl
                                        have hx40_1 : wr.cell? ⟨go40, (x16_5 : Int).toNat * 7 + 1, none⟩ = some (.bool ((rd_T29 x8_5 x16_5).f1)) := hcc40 1 _ rfl
                                        have hx40_2 : wr.cell? ⟨go40, (x16_5 : Int).toNat * 7 + 2, none⟩ = some (.string ((rd_T29 x8_5 x16_5).f2)) := hcc40 2 _ rfl
                                        have hx40_3 : wr.cell? ⟨go40, (x16_5 : Int).toNat * 7 + 3, none⟩ = some (.string ((rd_T29 x8_5 x16_5).f3)) := hcc40 3 _ rfl
                                        have hx40_4 : wr.cell? ⟨go40, (x16_5 : Int).toNat * 7 + 4, none⟩ = some (.int .i64 ((rd_T29 x8_5 x16_5).f4)) := hcc40 4 _ rfl
                                        have hx40_5 : wr.cell? ⟨go40, (x16_5 : Int).toNat * 7 + 5, none⟩ = some (.slice ua40_5 ((rd_T29 x8_5 x16_5).f5).length uc40_5) := hcc40 5 _ rfl
                                        have hx40_6 : wr.cell? ⟨go40, (x16_5 : Int).toNat * 7 + 6, none⟩ = some (.int .i64 ((rd_T29 x8_5 x16_5).f6)) := hcc40 6 _ rfl
                                        have hf40_0 : wr.frozen? ⟨go40, (x16_5 : Int).toNat * 7, none⟩ = false := hfr40 0
                                        have hf40_1 : wr.frozen? ⟨go40, (x16_5 : Int).toNat * 7 + 1, none⟩ = false := hfr40 1
                                        have hf40_2 : wr.frozen? ⟨go40, (x16_5 : Int).toNat * 7 + 2, none⟩ = false := hfr40 2
                                        have hf40_3 : wr.frozen? ⟨go40, (x16_5 : Int).toNat * 7 + 3, none⟩ = false := hfr40 3
                                        have hf40_4 : wr.frozen? ⟨go40, (x16_5 : Int).toNat * 7 + 4, none⟩ = false := hfr40 4
                                        have hf40_5 : wr.frozen? ⟨go40, (x16_5 : Int).toNat * 7 + 5, none⟩ = false := hfr40 5
                                        have hf40_6 : wr.frozen? ⟨go40, (x16_5 : Int).toNat * 7 + 6, none⟩ = false := hfr40 6
                                        clear hcl40 hcc40 hfr40 hM40
                                        replace p40 := eq_true p40
                                        replace q40 := eq_true q40
                                        have HX42 := Aside0.mk (show Kd.N k29 29 wr w.heap.size (fun k_ => some k_ ≠ (v112 : Value).ownBlock ∧ some k_ ≠ (v122 : Value).ownBlock) (.slice (some ⟨go40, 0, none⟩) x8_5.length co41) x8_5 from (by (with_reducible repeat (first | apply Kd.N_alloc | apply Kd.N_drewN | apply Kd.N_drew)); exact HO_8.out))
                                        obtain ⟨ce42, hcl42, hM42, hcc42, hfr42⟩ := Kd.N_elem HX42.out z29 (x16_5 : Int) (of_decide_eq_true (by first | (with_reducible assumption) | assumption)) (by have h_ : (x16_5 : Int) < ((x8_5.length : Int) : Int) := of_decide_eq_true (by first | (with_reducible assumption) | assumption); first | exact h_ | (have e_ := (Kd.N_reads' HO_8.out).1; omega) | simpa using h_)
                                        obtain ⟨ua42_5, uc42_5, rfl, ul42_5, ge42_5⟩ := k29_openF hM42
                                        have HP42 := Kd.N_seg HX42.out (x16_5 : Int) (of_decide_eq_true (by first | (with_reducible assumption) | assumption)) (by have h_ : (x16_5 : Int) < ((x8_5.length : Int) : Int) := of_decide_eq_true (by first | (with_reducible assumption) | assumption); first | exact h_ | (have e_ := (Kd.N_reads' HO_8.out).1; omega) | simpa using h_) (seg := [.int .i64 (wrap64 (((rd_T29 x8_5 x16_5).f6) + x14_4))]) (j := 6) hcl42 hcc42 (show 7 ≤ 7 from by decide) (x' := (⟨(rd_T29 x8_5 x16_5).f0, (rd_T29 x8_5 x16_5).f1, (rd_T29 x8_5 x16_5).f2, (rd_T29 x8_5 x16_5).f3, (rd_T29 x8_5 x16_5).f4, (rd_T29 x8_5 x16_5).f5, wrap64 (((rd_T29 x8_5 x16_5).f6) + x14_4)⟩ : S29)) (k29_mkF _ _ (⟨(rd_T29 x8_5 x16_5).f0, (rd_T29 x8_5 x16_5).f1, (rd_T29 x8_5 x16_5).f2, (rd_T29 x8_5 x16_5).f3, (rd_T29 x8_5 x16_5).f4, (rd_T29 x8_5 x16_5).f5, wrap64 (((rd_T29 x8_5 x16_5).f6) + x14_4)⟩ : S29) ul42_5 ge42_5) (fun _ hk => hk)
                                        have hx42_6 := hcc42 6 _ rfl
                                        (try simp only [show (k29).sz = 7 from rfl, Nat.mul_one, Nat.add_zero] at hx42_6)
                                        have hf42_6 := hfr42 6
                                        (try simp only [show (k29).sz = 7 from rfl, Nat.mul_one, Nat.add_zero] at hf42_6)
                                        clear hcl42 hcc42 hfr42 hM42
                                        go_wp2_with (first | ((with_reducible refine gate_store (t := 3) (p := 113) rfl ?_); refine store_event (t := 3) (p := 113) (v := ?vo_w43) (w1 := (wr.setCell ⟨go40, (x16_5 : Int).toNat * 7 + 6, none⟩ (.int .i64 (wrap64 (((rd_T29 x8_5 x16_5).f6) + x14_4))))) ?hg ?ho ?hn ?hr ?_; (case ho => rfl); (case hg => rfl); (case hn => rfl); (case hr => first | (go_simp; done) | (go_simp; rfl)); intro w43 hw; have hg : wr.grownBy w43 (some go40) := (by rw [hw]; exact HP42.2); have hp_ : Kd.N k29 29 w43 w.heap.size (fun k_ => some k_ ≠ (v112 : Value).ownBlock ∧ some k_ ≠ (v122 : Value).ownBlock) (.slice (some ⟨go40, 0, none⟩) x8_5.length co41) y127 := (by rw [hw, Ny127.out]; exact HP42.1); clear HP42; have n0_ := Aside0.mk (Kd.N_afterv (v := (.slice (some ⟨go40, 0, none⟩) x8_5.length co41)) (v1 := (.slice (some ⟨go40, 0, none⟩) x8_5.length co41)) (ok := (fun k_ => some k_ ≠ (v122 : Value).ownBlock)) (by (with_reducible repeat (first | apply Kd.N_alloc | apply Kd.N_drewN | apply Kd.N_drew)); exact Kd.N_mono HO_5.out (fun _ hk => ⟨hk.2, hk.1⟩)) hg (.inl rfl)); have n1_ := Aside0.mk (hp_); have n2_ := Aside0.mk (Kd.N_afterv (v := (.slice (some ⟨go40, 0, none⟩) x8_5.length co41)) (v1 := (.slice (some ⟨go40, 0, none⟩) x8_5.length co41)) (ok := (fun k_ => some k_ ≠ (v112 : Value).ownBlock)) (by (with_reducible repeat (first | apply Kd.N_alloc | apply Kd.N_drewN | apply Kd.N_drew)); exact HO_11.out) hg (.inl rfl)); have n3_ := Aside0.mk (Kd.V_afterv (v := (.slice (some ⟨go40, 0, none⟩) x8_5.length co41)) (v1 := (.slice (some ⟨go40, 0, none⟩) x8_5.length co41)) (ok := (fun k_ => some k_ ≠ (v112 : Value).ownBlock ∧ some k_ ≠ (v122 : Value).ownBlock)) (by (with_reducible repeat (first | apply Kd.V_alloc | apply Kd.V_drewN | apply Kd.V_drew)); exact HL126_5.out) hg (.inl rfl)); have n4_ := Aside0.mk ((by rw [hw]; exact below_set (HB.out) GB40.out : Below w.heap.size w w43)); clear HO_5; clear HO_8; clear HO_11; clear HL126_5; clear HB; have HO_5 := n0_; have HO_8 := n1_; have HO_11 := n2_; have HL126_5 := n3_; have HB := n4_; clear n0_ n1_ n2_ n3_ n4_; clear hg hw hp_))
                                        go_roundg k5
                                        case measure => have := HJ2.out; have := HJ12.out; have := HJ27.out; have := HK4.out; have := HK5.out; omega
                                        case rel => exact ⟨(y127), (wrap64 (x16_5 + 1)), (by first | rfl | (simp; done) | (simp [*]; done)), H', ⟨by have := HJ2.out; have := HJ12.out; have := HJ27.out; have := HK4.out; have := HK5.out; omega⟩, ⟨by (with_reducible repeat (first | apply Kd.N_alloc | apply Kd.N_drewN | apply Kd.N_drew)); exact Kd.N_mono HO_5.out (fun _ hk => ⟨hk.2, hk.1⟩)⟩, ⟨by (with_reducible repeat (first | apply Kd.N_alloc | apply Kd.N_drewN | apply Kd.N_drew)); exact HO_8.out⟩, ⟨by (with_reducible repeat (first | apply Kd.N_alloc | apply Kd.N_drewN | apply Kd.N_drew)); exact HO_11.out⟩, ⟨by repeat (first | (with_reducible first | exact HB.out | apply below_alloc | apply pw_below_drewN | apply below_drew1) | exact HB.out)⟩⟩
                                      · rw [if_neg c39] at H
                                        exact absurd H (by simp)
                                    · rw [if_neg c38] at H
                                      have c38b0 : decide (x16_5 < (x8_5.length : Int)) = false := decide_eq_false c38
                                      clear c38
                                      obtain ⟨y128, hy128⟩ : ∃ y_ : List (S29), y_ = (([] : List (S29))) := ⟨_, rfl⟩
                                      replace H : (if y128.length + t109.length < 1599289640401 then ((some (y128 ++ t109 : List (S29))).bind fun y131 => (if y131.length + x8_5.length < 1599289640401 then ((hucksterref15_Same.f k5 t119 (y131 ++ x8_5)).bind fun t137 => (if t137 = true then ((hucksterlaw15_awake.f).bind fun t138 => (some t138)) else (some false))) else (none))) else (none)) = some r := by first | (rw [hy128]; with_reducible exact H) | (have H2_ := (Option.bind_some _ _).symm.trans H; rw [hy128]; with_reducible exact H2_) | (have H2_ := (Option.bind_some _ _).symm.trans H; with_reducible exact H2_) | with_reducible exact H | (rw [hy128]; exact H) | exact H
                                      have Ny128 := Aside0.mk hy128
                                      clear hy128
                                      by_cases c44 : y128.length + t109.length < 1599289640401
                                      · rw [if_pos c44] at H
                                        have LMc44 := Aside0.mk c44
                                        clear c44
                                        obtain ⟨y131, hy131⟩ : ∃ y_ : List (S29), y_ = (y128 ++ t109) := ⟨_, rfl⟩
                                        replace H : (if y131.length + x8_5.length < 1599289640401 then ((hucksterref15_Same.f k5 t119 (y131 ++ x8_5)).bind fun t137 => (if t137 = true then ((hucksterlaw15_awake.f).bind fun t138 => (some t138)) else (some false))) else (none)) = some r := by first | (rw [hy131]; with_reducible exact H) | (have H2_ := (Option.bind_some _ _).symm.trans H; rw [hy131]; with_reducible exact H2_) | (have H2_ := (Option.bind_some _ _).symm.trans H; with_reducible exact H2_) | with_reducible exact H | (rw [hy131]; exact H) | exact H
                                        have Ny131 := Aside0.mk hy131
                                        clear hy131
                                        by_cases c45 : y131.length + x8_5.length < 1599289640401
                                        · rw [if_pos c45] at H
                                          have LMc45 := Aside0.mk c45
                                          clear c45
                                          obtain ⟨y134, hy134⟩ : ∃ y_ : List (S29), y_ = (y131 ++ x8_5) := ⟨_, rfl⟩
                                          replace H : ((hucksterref15_Same.f k5 t119 y134).bind fun t137 => (if t137 = true then ((hucksterlaw15_awake.f).bind fun t138 => (some t138)) else (some false))) = some r := by first | (rw [hy134]; with_reducible exact H) | (have H2_ := (Option.bind_some _ _).symm.trans H; rw [hy134]; with_reducible exact H2_) | (have H2_ := (Option.bind_some _ _).symm.trans H; with_reducible exact H2_) | with_reducible exact H | (rw [hy134]; exact H) | exact H
                                          have Ny134 := Aside0.mk hy134
                                          clear hy134
                                          replace H := Option.bind_eq_some_iff.mp H
                                          obtain ⟨t137, A460, H⟩ := H
                                          replace H : (if t137 = true then ((hucksterlaw15_awake.f).bind fun t138 => (some t138)) else (some false)) = some r := H
                                          have A46 := Aside0.mk A460
                                          clear A460
                                          by_cases c47 : t137 = true
                                          · subst c47
                                            have H1 : ((hucksterlaw15_awake.f).bind fun t138 => (some t138)) = some r := by rw [if_pos rfl] at H; exact H
                                            clear H
                                            have H := H1
                                            clear H1
                                            replace H := Option.bind_eq_some_iff.mp H
                                            obtain ⟨t138, A480, H⟩ := H
                                            replace H : (some t138) = some r := H
                                            have A48 := Aside0.mk A480
                                            clear A480
                                            obtain rfl := Option.some.inj H
                                            obtain ⟨Ao49, co49, eo49⟩ := Kd.N_slice HO_8.out
                                            subst eo49
                                            go_wp2_with (first | ((with_reducible refine gate_dst (N := 115) rfl ?_); (try (refine gate_guard (by rfl) ?_; dsimp only)); refine Kd.N_lit k29 _ 29 ?hg (N' := 115) ?hd (xs := ([] : List (S29))) (inner := []) (ok := (fun k_ => some k_ ≠ (v112 : Value).ownBlock ∧ some k_ ≠ (.slice Ao49 x8_5.length co49 : Value).ownBlock ∧ some k_ ≠ (v122 : Value).ownBlock)) (okp := (fun k_ => some k_ ≠ (v112 : Value).ownBlock ∧ some k_ ≠ (.slice Ao49 x8_5.length co49 : Value).ownBlock ∧ some k_ ≠ (v122 : Value).ownBlock)) ?hr ?hp (fun _ hk => hk) ((show ∀ k_, wr.heap.size ≤ k_ → (fun k_ => some k_ ≠ (v112 : Value).ownBlock ∧ some k_ ≠ (.slice Ao49 x8_5.length co49 : Value).ownBlock ∧ some k_ ≠ (v122 : Value).ownBlock) k_ from fun k_ hk => ⟨Kd.fresh' (Kd.N_lt (by (with_reducible repeat (first | apply Kd.N_alloc | apply Kd.N_drewN | apply Kd.N_drew)); exact HO_5.out)) k_ hk, Kd.fresh' (Kd.N_lt (by (with_reducible repeat (first | apply Kd.N_alloc | apply Kd.N_drewN | apply Kd.N_drew)); exact HO_8.out)) k_ hk, Kd.fresh' (Kd.N_lt (by (with_reducible repeat (first | apply Kd.N_alloc | apply Kd.N_drewN | apply Kd.N_drew)); exact HO_11.out)) k_ hk⟩) _ (Nat.le_refl _)) (Below.refl _ _) (Nat.le_refl _) (by simp) ?_; (case hd => rfl); (case hg => rfl); (case hr => first | (go_simp; done) | (go_simp; rfl)); (case hp => exact (Reps.none _ _)); intro v129 w50 ho51 hb hg_ hnew_; clear hg_ hnew_; (first | rw [← Ny128.out] at ho51 | (simp only [Int.reduceToNat] at ho51; rw [← Ny128.out] at ho51)); have n0_ := Aside0.mk (Kd.N_elder' (by (with_reducible repeat (first | apply Kd.N_alloc | apply Kd.N_drewN | apply Kd.N_drew)); exact HO_5.out) (Kd.N_base ho51) hb); have n1_ := Aside0.mk (Kd.N_elder' (by (with_reducible repeat (first | apply Kd.N_alloc | apply Kd.N_drewN | apply Kd.N_drew)); exact HO_8.out) (Kd.N_base ho51) hb); have n2_ := Aside0.mk (Kd.N_elder' (by (with_reducible repeat (first | apply Kd.N_alloc | apply Kd.N_drewN | apply Kd.N_drew)); exact HO_11.out) (Kd.N_base ho51) hb); have n3_ := Aside0.mk (Kd.N_lower ho51 (below_size (by repeat (first | (with_reducible first | exact HB.out | apply below_alloc | apply pw_below_drewN | apply below_drew1) | exact HB.out)))); have n4_ := Aside0.mk (below_step (by repeat (first | (with_reducible first | exact HB.out | apply below_alloc | apply pw_below_drewN | apply below_drew1) | exact HB.out)) hb); clear HO_5; clear HO_8; clear HO_11; clear HB; have HO_5 := n0_; have HO_8 := n1_; have HO_11 := n2_; have HO130 := n3_; have HB := n4_; clear n0_ n1_ n2_ n3_ n4_; clear hb ho51; obtain ⟨Ao53, co53, eo53⟩ := Kd.N_slice HO_5.out; subst eo53) | ((with_reducible refine gate_builtin (b := .append) (xs := #[.tmp 115, .tmp 116]) rfl ?_); (try (refine gate_guard (by rfl) ?_; dsimp only)); at_builtin; refine Kd.N_append_rows k29 (w0 := w) w.heap.size rfl (.tmp 115) (.tmp 116) 23 29 (.agg #[(.int .i64 0), (.bool false), (.string ⟨#[]⟩), (.string ⟨#[]⟩), (.int .i64 0), (.slice none 0 0), (.int .i64 0)]) 88 rfl Try.underlying23 info29 rfl (by decide) (by omega) v129 y128 t109 _ _ _ (fun k_ => some k_ ≠ (.slice Ao49 x8_5.length co49 : Value).ownBlock ∧ some k_ ≠ (v122 : Value).ownBlock) (fun k_ => ((fun k_ => some k_ ≠ (.slice Ao49 x8_5.length co49 : Value).ownBlock ∧ some k_ ≠ (v122 : Value).ownBlock)) k_ ∧ some k_ ≠ (v129 : Value).ownBlock) rfl rfl ?aO ?aR (fun _ hk => hk) ?aF ?aB ?aS ?aL ?_; (case aR => exact (by skip; exact Kd.N_F (Kd.N_mono (ok' := (fun k_ => ((fun k_ => some k_ ≠ (.slice Ao49 x8_5.length co49 : Value).ownBlock ∧ some k_ ≠ (v122 : Value).ownBlock)) k_ ∧ some k_ ≠ (v129 : Value).ownBlock)) (HO_5.out) (fun k_ hk => ⟨⟨hk.1.1, hk.1.2⟩, hk.2⟩)))); (case aB => exact (by repeat (first | (with_reducible first | exact HB.out | apply below_alloc | apply pw_below_drewN | apply below_drew1) | exact HB.out))); (case aF => exact (fun k_ hk => ⟨Kd.fresh' (Kd.N_lt (by (with_reducible repeat (first | apply Kd.N_alloc | apply Kd.N_drewN | apply Kd.N_drew)); exact HO_8.out)) k_ hk, Kd.fresh' (Kd.N_lt (by (with_reducible repeat (first | apply Kd.N_alloc | apply Kd.N_drewN | apply Kd.N_drew)); exact HO_11.out)) k_ hk⟩)); (case aO => exact (by (with_reducible repeat (first | apply Kd.N_alloc | apply Kd.N_drewN | apply Kd.N_drew)); exact Kd.N_mono HO130.out (fun _ hk => ⟨hk.2.1, hk.2.2⟩))); (case aS => exact (below_size (by repeat (first | (with_reducible first | exact HB.out | apply below_alloc | apply pw_below_drewN | apply below_drew1) | exact HB.out)))); (case aL => have := LMc44.out; omega); intro v132 w52 ho hb hg hat; rw [← Ny131.out] at ho; have n0_ := Aside0.mk (Kd.N_afterv (ok := (fun k_ => some k_ ≠ (.slice Ao49 x8_5.length co49 : Value).ownBlock ∧ some k_ ≠ (v122 : Value).ownBlock)) (by (with_reducible repeat (first | apply Kd.N_alloc | apply Kd.N_drewN | apply Kd.N_drew)); exact HO_5.out) hg hat); have n1_ := Aside0.mk (Kd.N_afterv (ok := (fun k_ => some k_ ≠ (.slice Ao53 t109.length co53 : Value).ownBlock ∧ some k_ ≠ (v122 : Value).ownBlock)) (by (with_reducible repeat (first | apply Kd.N_alloc | apply Kd.N_drewN | apply Kd.N_drew)); exact HO_8.out) hg hat); have n2_ := Aside0.mk (Kd.N_afterv (ok := (fun k_ => some k_ ≠ (.slice Ao53 t109.length co53 : Value).ownBlock ∧ some k_ ≠ (.slice Ao49 x8_5.length co49 : Value).ownBlock)) (by (with_reducible repeat (first | apply Kd.N_alloc | apply Kd.N_drewN | apply Kd.N_drew)); exact HO_11.out) hg hat); have n3_ := Aside0.mk (hb); have n4_ := Aside0.mk (ho); clear HO_5; clear HO_8; clear HO_11; clear HB; clear HO130; have HO_5 := n0_; have HO_8 := n1_; have HO_11 := n2_; have HB := n3_; have HO133 := n4_; clear n0_ n1_ n2_ n3_ n4_; clear ho hb hg hat) | ((with_reducible refine gate_builtin (b := .append) (xs := #[.tmp 117, .tmp 118]) rfl ?_); (try (refine gate_guard (by rfl) ?_; dsimp only)); at_builtin; refine Kd.N_append_rows k29 (w0 := w) w.heap.size rfl (.tmp 117) (.tmp 118) 23 29 (.agg #[(.int .i64 0), (.bool false), (.string ⟨#[]⟩), (.string ⟨#[]⟩), (.int .i64 0), (.slice none 0 0), (.int .i64 0)]) 88 rfl Try.underlying23 info29 rfl (by decide) (by omega) v132 y131 x8_5 _ _ _ (fun k_ => some k_ ≠ (v122 : Value).ownBlock) (fun k_ => ((fun k_ => some k_ ≠ (v122 : Value).ownBlock)) k_ ∧ some k_ ≠ (v132 : Value).ownBlock) rfl rfl ?aO ?aR (fun _ hk => hk) ?aF ?aB ?aS ?aL ?_; (case aR => exact (by skip; exact Kd.N_F (Kd.N_mono (ok' := (fun k_ => ((fun k_ => some k_ ≠ (v122 : Value).ownBlock)) k_ ∧ some k_ ≠ (v132 : Value).ownBlock)) (HO_8.out) (fun k_ hk => ⟨hk.1.2, hk.2⟩)))); (case aB => exact (by repeat (first | (with_reducible first | exact HB.out | apply below_alloc | apply pw_below_drewN | apply below_drew1) | exact HB.out))); (case aF => exact (fun k_ hk => Kd.fresh' (Kd.N_lt (by (with_reducible repeat (first | apply Kd.N_alloc | apply Kd.N_drewN | apply Kd.N_drew)); exact HO_11.out)) k_ hk)); (case aO => exact (by (with_reducible repeat (first | apply Kd.N_alloc | apply Kd.N_drewN | apply Kd.N_drew)); exact Kd.N_mono HO133.out (fun _ hk => hk.2))); (case aS => exact (below_size (by repeat (first | (with_reducible first | exact HB.out | apply below_alloc | apply pw_below_drewN | apply below_drew1) | exact HB.out)))); (case aL => have := LMc45.out; omega); intro v135 w54 ho hb hg hat; rw [← Ny134.out] at ho; have n0_ := Aside0.mk (Kd.N_afterv (ok := (fun k_ => some k_ ≠ (.slice Ao49 x8_5.length co49 : Value).ownBlock ∧ some k_ ≠ (v122 : Value).ownBlock)) (by (with_reducible repeat (first | apply Kd.N_alloc | apply Kd.N_drewN | apply Kd.N_drew)); exact HO_5.out) hg hat); have n1_ := Aside0.mk (Kd.N_afterv (ok := (fun k_ => some k_ ≠ (.slice Ao53 t109.length co53 : Value).ownBlock ∧ some k_ ≠ (v122 : Value).ownBlock)) (by (with_reducible repeat (first | apply Kd.N_alloc | apply Kd.N_drewN | apply Kd.N_drew)); exact HO_8.out) hg hat); have n2_ := Aside0.mk (Kd.N_afterv (ok := (fun k_ => some k_ ≠ (.slice Ao53 t109.length co53 : Value).ownBlock ∧ some k_ ≠ (.slice Ao49 x8_5.length co49 : Value).ownBlock)) (by (with_reducible repeat (first | apply Kd.N_alloc | apply Kd.N_drewN | apply Kd.N_drew)); exact HO_11.out) hg hat); have n3_ := Aside0.mk (hb); have n4_ := Aside0.mk (ho); clear HO_5; clear HO_8; clear HO_11; clear HB; clear HO133; have HO_5 := n0_; have HO_8 := n1_; have HO_11 := n2_; have HB := n3_; have HO136 := n4_; clear n0_ n1_ n2_ n3_ n4_; clear ho hb hg hat; obtain ⟨Ao55, co55, eo55⟩ := Kd.N_slice HO_11.out; subst eo55; obtain ⟨Ao56, co56, eo56⟩ := Kd.N_slice HO136.out; subst eo56) | ((with_reducible refine gate_callee (f := 7) rfl ?_); refine goesL_ (some 120) rfl rfl Try.func7 (by kernel_rfl) rfl #[.slice Ao55 t119.length co55, .slice Ao56 y134.length co56] rfl (by (try simp only [List.map_toArray, List.map_cons, List.map_nil]); first | done | rfl | (simp only [List.length_drop, List.length_take]; rfl)) ?_; (with_reducible refine (hucksterref15_Same.calls k5 _ _ t119 _ _ y134 true _ ?side1 ?side2 ?side3 ?side4 A46.out).mono ?_); (case side1 => repeat (first | exact (Kd.N_reads' HO_11.out).2.2 | (with_reducible refine Kd.C_alloc ?_ _) | (with_reducible refine Kd.C_drewN ?_ _) | (with_reducible refine Kd.C_drew ?_))); (case side2 => exact (Kd.N_reads' HO_11.out).2.1); (case side3 => repeat (first | exact (Kd.N_reads' HO136.out).2.2 | (with_reducible refine Kd.C_alloc ?_ _) | (with_reducible refine Kd.C_drewN ?_ _) | (with_reducible refine Kd.C_drew ?_))); (case side4 => exact (Kd.N_reads' HO136.out).2.1); rintro e w57 ⟨rfl, hb⟩; refine ⟨_, rfl, ?_⟩; have n0_ := Aside0.mk (Kd.N_below (by (with_reducible repeat (first | apply Kd.N_alloc | apply Kd.N_drewN | apply Kd.N_drew)); exact HO_5.out) hb); have n1_ := Aside0.mk (Kd.N_below (by (with_reducible repeat (first | apply Kd.N_alloc | apply Kd.N_drewN | apply Kd.N_drew)); exact HO_8.out) hb); have n2_ := Aside0.mk (Kd.N_below (by (with_reducible repeat (first | apply Kd.N_alloc | apply Kd.N_drewN | apply Kd.N_drew)); exact HO_11.out) hb); have n3_ := Aside0.mk (Kd.N_below (by (with_reducible repeat (first | apply Kd.N_alloc | apply Kd.N_drewN | apply Kd.N_drew)); exact HO136.out) hb); have n4_ := Aside0.mk (below_step (by repeat (first | (with_reducible first | exact HB.out | apply below_alloc | apply pw_below_drewN | apply below_drew1) | exact HB.out)) hb); clear HO_5; clear HO_8; clear HO_11; clear HO136; clear HB; have HO_5 := n0_; have HO_8 := n1_; have HO_11 := n2_; have HO136 := n3_; have HB := n4_; clear n0_ n1_ n2_ n3_ n4_; (try clear hb); (try clear hb2); (try clear hk); (try clear hi)) | (go_at_call 5; (with_reducible refine (hucksterlaw15_awake.calls  t138 _ A48.out).mono ?_); rintro e w58 ⟨rfl, hb⟩; have n0_ := Aside0.mk (Kd.N_below (by (with_reducible repeat (first | apply Kd.N_alloc | apply Kd.N_drewN | apply Kd.N_drew)); exact HO_5.out) hb); have n1_ := Aside0.mk (Kd.N_below (by (with_reducible repeat (first | apply Kd.N_alloc | apply Kd.N_drewN | apply Kd.N_drew)); exact HO_8.out) hb); have n2_ := Aside0.mk (Kd.N_below (by (with_reducible repeat (first | apply Kd.N_alloc | apply Kd.N_drewN | apply Kd.N_drew)); exact HO_11.out) hb); have n3_ := Aside0.mk (Kd.N_below (by (with_reducible repeat (first | apply Kd.N_alloc | apply Kd.N_drewN | apply Kd.N_drew)); exact HO136.out) hb); have n4_ := Aside0.mk (below_step (by repeat (first | (with_reducible first | exact HB.out | apply below_alloc | apply pw_below_drewN | apply below_drew1) | exact HB.out)) hb); clear HO_5; clear HO_8; clear HO_11; clear HO136; clear HB; have HO_5 := n0_; have HO_8 := n1_; have HO_11 := n2_; have HO136 := n3_; have HB := n4_; clear n0_ n1_ n2_ n3_ n4_; (try clear hb); (try clear hb2); (try clear hk); (try clear hi)))
                                            go_ret
                                            exact ⟨by first | rfl | (simp [errW_none, errW_some] <;> rfl) | (simp [*, errW_none, errW_some] <;> rfl), by repeat (first | (with_reducible first | exact HB.out | apply below_alloc | apply pw_below_drewN | apply below_drew1) | exact HB.out)⟩
                                          · replace c47 := Bool.eq_false_iff.mpr c47
                                            subst c47
                                            have H1 : (some false) = some r := by rw [if_neg (show ¬ (false = true) by decide)] at H; exact H
                                            clear H
                                            have H := H1
                                            clear H1
                                            obtain rfl := Option.some.inj H
                                            obtain ⟨Ao59, co59, eo59⟩ := Kd.N_slice HO_8.out
                                            subst eo59
                                            go_wp2_with (first | ((with_reducible refine gate_dst (N := 115) rfl ?_); (try (refine gate_guard (by rfl) ?_; dsimp only)); refine Kd.N_lit k29 _ 29 ?hg (N' := 115) ?hd (xs := ([] : List (S29))) (inner := []) (ok := (fun k_ => some k_ ≠ (v112 : Value).ownBlock ∧ some k_ ≠ (.slice Ao59 x8_5.length co59 : Value).ownBlock ∧ some k_ ≠ (v122 : Value).ownBlock)) (okp := (fun k_ => some k_ ≠ (v112 : Value).ownBlock ∧ some k_ ≠ (.slice Ao59 x8_5.length co59 : Value).ownBlock ∧ some k_ ≠ (v122 : Value).ownBlock)) ?hr ?hp (fun _ hk => hk) ((show ∀ k_, wr.heap.size ≤ k_ → (fun k_ => some k_ ≠ (v112 : Value).ownBlock ∧ some k_ ≠ (.slice Ao59 x8_5.length co59 : Value).ownBlock ∧ some k_ ≠ (v122 : Value).ownBlock) k_ from fun k_ hk => ⟨Kd.fresh' (Kd.N_lt (by (with_reducible repeat (first | apply Kd.N_alloc | apply Kd.N_drewN | apply Kd.N_drew)); exact HO_5.out)) k_ hk, Kd.fresh' (Kd.N_lt (by (with_reducible repeat (first | apply Kd.N_alloc | apply Kd.N_drewN | apply Kd.N_drew)); exact HO_8.out)) k_ hk, Kd.fresh' (Kd.N_lt (by (with_reducible repeat (first | apply Kd.N_alloc | apply Kd.N_drewN | apply Kd.N_drew)); exact HO_11.out)) k_ hk⟩) _ (Nat.le_refl _)) (Below.refl _ _) (Nat.le_refl _) (by simp) ?_; (case hd => rfl); (case hg => rfl); (case hr => first | (go_simp; done) | (go_simp; rfl)); (case hp => exact (Reps.none _ _)); intro v129 w60 ho61 hb hg_ hnew_; clear hg_ hnew_; (first | rw [← Ny128.out] at ho61 | (simp only [Int.reduceToNat] at ho61; rw [← Ny128.out] at ho61)); have n0_ := Aside0.mk (Kd.N_elder' (by (with_reducible repeat (first | apply Kd.N_alloc | apply Kd.N_drewN | apply Kd.N_drew)); exact HO_5.out) (Kd.N_base ho61) hb); have n1_ := Aside0.mk (Kd.N_elder' (by (with_reducible repeat (first | apply Kd.N_alloc | apply Kd.N_drewN | apply Kd.N_drew)); exact HO_8.out) (Kd.N_base ho61) hb); have n2_ := Aside0.mk (Kd.N_elder' (by (with_reducible repeat (first | apply Kd.N_alloc | apply Kd.N_drewN | apply Kd.N_drew)); exact HO_11.out) (Kd.N_base ho61) hb); have n3_ := Aside0.mk (Kd.N_lower ho61 (below_size (by repeat (first | (with_reducible first | exact HB.out | apply below_alloc | apply pw_below_drewN | apply below_drew1) | exact HB.out)))); have n4_ := Aside0.mk (below_step (by repeat (first | (with_reducible first | exact HB.out | apply below_alloc | apply pw_below_drewN | apply below_drew1) | exact HB.out)) hb); clear HO_5; clear HO_8; clear HO_11; clear HB; have HO_5 := n0_; have HO_8 := n1_; have HO_11 := n2_; have HO130 := n3_; have HB := n4_; clear n0_ n1_ n2_ n3_ n4_; clear hb ho61; obtain ⟨Ao63, co63, eo63⟩ := Kd.N_slice HO_5.out; subst eo63) | ((with_reducible refine gate_builtin (b := .append) (xs := #[.tmp 115, .tmp 116]) rfl ?_); (try (refine gate_guard (by rfl) ?_; dsimp only)); at_builtin; refine Kd.N_append_rows k29 (w0 := w) w.heap.size rfl (.tmp 115) (.tmp 116) 23 29 (.agg #[(.int .i64 0), (.bool false), (.string ⟨#[]⟩), (.string ⟨#[]⟩), (.int .i64 0), (.slice none 0 0), (.int .i64 0)]) 88 rfl Try.underlying23 info29 rfl (by decide) (by omega) v129 y128 t109 _ _ _ (fun k_ => some k_ ≠ (.slice Ao59 x8_5.length co59 : Value).ownBlock ∧ some k_ ≠ (v122 : Value).ownBlock) (fun k_ => ((fun k_ => some k_ ≠ (.slice Ao59 x8_5.length co59 : Value).ownBlock ∧ some k_ ≠ (v122 : Value).ownBlock)) k_ ∧ some k_ ≠ (v129 : Value).ownBlock) rfl rfl ?aO ?aR (fun _ hk => hk) ?aF ?aB ?aS ?aL ?_; (case aR => exact (by skip; exact Kd.N_F (Kd.N_mono (ok' := (fun k_ => ((fun k_ => some k_ ≠ (.slice Ao59 x8_5.length co59 : Value).ownBlock ∧ some k_ ≠ (v122 : Value).ownBlock)) k_ ∧ some k_ ≠ (v129 : Value).ownBlock)) (HO_5.out) (fun k_ hk => ⟨⟨hk.1.1, hk.1.2⟩, hk.2⟩)))); (case aB => exact (by repeat (first | (with_reducible first | exact HB.out | apply below_alloc | apply pw_below_drewN | apply below_drew1) | exact HB.out))); (case aF => exact (fun k_ hk => ⟨Kd.fresh' (Kd.N_lt (by (with_reducible repeat (first | apply Kd.N_alloc | apply Kd.N_drewN | apply Kd.N_drew)); exact HO_8.out)) k_ hk, Kd.fresh' (Kd.N_lt (by (with_reducible repeat (first | apply Kd.N_alloc | apply Kd.N_drewN | apply Kd.N_drew)); exact HO_11.out)) k_ hk⟩)); (case aO => exact (by (with_reducible repeat (first | apply Kd.N_alloc | apply Kd.N_drewN | apply Kd.N_drew)); exact Kd.N_mono HO130.out (fun _ hk => ⟨hk.2.1, hk.2.2⟩))); (case aS => exact (below_size (by repeat (first | (with_reducible first | exact HB.out | apply below_alloc | apply pw_below_drewN | apply below_drew1) | exact HB.out)))); (case aL => have := LMc44.out; omega); intro v132 w62 ho hb hg hat; rw [← Ny131.out] at ho; have n0_ := Aside0.mk (Kd.N_afterv (ok := (fun k_ => some k_ ≠ (.slice Ao59 x8_5.length co59 : Value).ownBlock ∧ some k_ ≠ (v122 : Value).ownBlock)) (by (with_reducible repeat (first | apply Kd.N_alloc | apply Kd.N_drewN | apply Kd.N_drew)); exact HO_5.out) hg hat); have n1_ := Aside0.mk (Kd.N_afterv (ok := (fun k_ => some k_ ≠ (.slice Ao63 t109.length co63 : Value).ownBlock ∧ some k_ ≠ (v122 : Value).ownBlock)) (by (with_reducible repeat (first | apply Kd.N_alloc | apply Kd.N_drewN | apply Kd.N_drew)); exact HO_8.out) hg hat); have n2_ := Aside0.mk (Kd.N_afterv (ok := (fun k_ => some k_ ≠ (.slice Ao63 t109.length co63 : Value).ownBlock ∧ some k_ ≠ (.slice Ao59 x8_5.length co59 : Value).ownBlock)) (by (with_reducible repeat (first | apply Kd.N_alloc | apply Kd.N_drewN | apply Kd.N_drew)); exact HO_11.out) hg hat); have n3_ := Aside0.mk (hb); have n4_ := Aside0.mk (ho); clear HO_5; clear HO_8; clear HO_11; clear HB; clear HO130; have HO_5 := n0_; have HO_8 := n1_; have HO_11 := n2_; have HB := n3_; have HO133 := n4_; clear n0_ n1_ n2_ n3_ n4_; clear ho hb hg hat) | ((with_reducible refine gate_builtin (b := .append) (xs := #[.tmp 117, .tmp 118]) rfl ?_); (try (refine gate_guard (by rfl) ?_; dsimp only)); at_builtin; refine Kd.N_append_rows k29 (w0 := w) w.heap.size rfl (.tmp 117) (.tmp 118) 23 29 (.agg #[(.int .i64 0), (.bool false), (.string ⟨#[]⟩), (.string ⟨#[]⟩), (.int .i64 0), (.slice none 0 0), (.int .i64 0)]) 88 rfl Try.underlying23 info29 rfl (by decide) (by omega) v132 y131 x8_5 _ _ _ (fun k_ => some k_ ≠ (v122 : Value).ownBlock) (fun k_ => ((fun k_ => some k_ ≠ (v122 : Value).ownBlock)) k_ ∧ some k_ ≠ (v132 : Value).ownBlock) rfl rfl ?aO ?aR (fun _ hk => hk) ?aF ?aB ?aS ?aL ?_; (case aR => exact (by skip; exact Kd.N_F (Kd.N_mono (ok' := (fun k_ => ((fun k_ => some k_ ≠ (v122 : Value).ownBlock)) k_ ∧ some k_ ≠ (v132 : Value).ownBlock)) (HO_8.out) (fun k_ hk => ⟨hk.1.2, hk.2⟩)))); (case aB => exact (by repeat (first | (with_reducible first | exact HB.out | apply below_alloc | apply pw_below_drewN | apply below_drew1) | exact HB.out))); (case aF => exact (fun k_ hk => Kd.fresh' (Kd.N_lt (by (with_reducible repeat (first | apply Kd.N_alloc | apply Kd.N_drewN | apply Kd.N_drew)); exact HO_11.out)) k_ hk)); (case aO => exact (by (with_reducible repeat (first | apply Kd.N_alloc | apply Kd.N_drewN | apply Kd.N_drew)); exact Kd.N_mono HO133.out (fun _ hk => hk.2))); (case aS => exact (below_size (by repeat (first | (with_reducible first | exact HB.out | apply below_alloc | apply pw_below_drewN | apply below_drew1) | exact HB.out)))); (case aL => have := LMc45.out; omega); intro v135 w64 ho hb hg hat; rw [← Ny134.out] at ho; have n0_ := Aside0.mk (Kd.N_afterv (ok := (fun k_ => some k_ ≠ (.slice Ao59 x8_5.length co59 : Value).ownBlock ∧ some k_ ≠ (v122 : Value).ownBlock)) (by (with_reducible repeat (first | apply Kd.N_alloc | apply Kd.N_drewN | apply Kd.N_drew)); exact HO_5.out) hg hat); have n1_ := Aside0.mk (Kd.N_afterv (ok := (fun k_ => some k_ ≠ (.slice Ao63 t109.length co63 : Value).ownBlock ∧ some k_ ≠ (v122 : Value).ownBlock)) (by (with_reducible repeat (first | apply Kd.N_alloc | apply Kd.N_drewN | apply Kd.N_drew)); exact HO_8.out) hg hat); have n2_ := Aside0.mk (Kd.N_afterv (ok := (fun k_ => some k_ ≠ (.slice Ao63 t109.length co63 : Value).ownBlock ∧ some k_ ≠ (.slice Ao59 x8_5.length co59 : Value).ownBlock)) (by (with_reducible repeat (first | apply Kd.N_alloc | apply Kd.N_drewN | apply Kd.N_drew)); exact HO_11.out) hg hat); have n3_ := Aside0.mk (hb); have n4_ := Aside0.mk (ho); clear HO_5; clear HO_8; clear HO_11; clear HB; clear HO133; have HO_5 := n0_; have HO_8 := n1_; have HO_11 := n2_; have HB := n3_; have HO136 := n4_; clear n0_ n1_ n2_ n3_ n4_; clear ho hb hg hat; obtain ⟨Ao65, co65, eo65⟩ := Kd.N_slice HO_11.out; subst eo65; obtain ⟨Ao66, co66, eo66⟩ := Kd.N_slice HO136.out; subst eo66) | ((with_reducible refine gate_callee (f := 7) rfl ?_); refine goesL_ (some 120) rfl rfl Try.func7 (by kernel_rfl) rfl #[.slice Ao65 t119.length co65, .slice Ao66 y134.length co66] rfl (by (try simp only [List.map_toArray, List.map_cons, List.map_nil]); first | done | rfl | (simp only [List.length_drop, List.length_take]; rfl)) ?_; (with_reducible refine (hucksterref15_Same.calls k5 _ _ t119 _ _ y134 false _ ?side1 ?side2 ?side3 ?side4 A46.out).mono ?_); (case side1 => repeat (first | exact (Kd.N_reads' HO_11.out).2.2 | (with_reducible refine Kd.C_alloc ?_ _) | (with_reducible refine Kd.C_drewN ?_ _) | (with_reducible refine Kd.C_drew ?_))); (case side2 => exact (Kd.N_reads' HO_11.out).2.1); (case side3 => repeat (first | exact (Kd.N_reads' HO136.out).2.2 | (with_reducible refine Kd.C_alloc ?_ _) | (with_reducible refine Kd.C_drewN ?_ _) | (with_reducible refine Kd.C_drew ?_))); (case side4 => exact (Kd.N_reads' HO136.out).2.1); rintro e w67 ⟨rfl, hb⟩; refine ⟨_, rfl, ?_⟩; have n0_ := Aside0.mk (Kd.N_below (by (with_reducible repeat (first | apply Kd.N_alloc | apply Kd.N_drewN | apply Kd.N_drew)); exact HO_5.out) hb); have n1_ := Aside0.mk (Kd.N_below (by (with_reducible repeat (first | apply Kd.N_alloc | apply Kd.N_drewN | apply Kd.N_drew)); exact HO_8.out) hb); have n2_ := Aside0.mk (Kd.N_below (by (with_reducible repeat (first | apply Kd.N_alloc | apply Kd.N_drewN | apply Kd.N_drew)); exact HO_11.out) hb); have n3_ := Aside0.mk (Kd.N_below (by (with_reducible repeat (first | apply Kd.N_alloc | apply Kd.N_drewN | apply Kd.N_drew)); exact HO136.out) hb); have n4_ := Aside0.mk (below_step (by repeat (first | (with_reducible first | exact HB.out | apply below_alloc | apply pw_below_drewN | apply below_drew1) | exact HB.out)) hb); clear HO_5; clear HO_8; clear HO_11; clear HO136; clear HB; have HO_5 := n0_; have HO_8 := n1_; have HO_11 := n2_; have HO136 := n3_; have HB := n4_; clear n0_ n1_ n2_ n3_ n4_; (try clear hb); (try clear hb2); (try clear hk); (try clear hi)))
                                            go_ret
                                            exact ⟨by first | rfl | (simp [errW_none, errW_some] <;> rfl) | (simp [*, errW_none, errW_some] <;> rfl), by repeat (first | (with_reducible first | exact HB.out | apply below_alloc | apply pw_below_drewN | apply below_drew1) | exact HB.out)⟩
                                        · rw [if_neg c45] at H
                                          exact absurd H (by simp)
                                      · rw [if_neg c44] at H
                                        exact absurd H (by simp)
          · rw [if_neg c11] at H
            exact absurd H (by simp)
        · rw [if_neg c10] at H
          exact absurd H (by simp)

/-- THE ONE PURE STATEMENT of hucksterlaw15_ParseJoins: yours. -/
def hucksterlaw15_ParseJoins.Pure : Prop := ∀ (a0 : ByteArray) (a1 : ByteArray), a0.size ≤ 140737488351232 → a1.size ≤ 140737488351232 → ∃ k, hucksterlaw15_ParseJoins.f k a0 a1 = some true
theorem hucksterlaw15_ParseJoins.walk (P : hucksterlaw15_ParseJoins.Pure) (a0 : ByteArray) (a1 : ByteArray) (w : World) (w0 : a0.size ≤ 140737488351232) (w1 : a1.size ≤ 140737488351232) :
    Calls Try.prog 3 #[.string a0, .string a1] w fun e w' => e = .returned (.bool true) ∧ Below w.heap.size w w' := by
  obtain ⟨k, h⟩ := P a0 a1 w0 w1
  refine (hucksterlaw15_ParseJoins.calls k a0 a1 true w h).mono ?_
  rintro e w' ⟨rfl, hd⟩
  exact ⟨rfl, hd⟩

end Go.Proofs.Ytmhenlilcikgmaa.X

/- The pure statement of the law. -/
set_option linter.unusedSimpArgs false
set_option linter.unusedVariables false
namespace Go.Proofs.Ytmhenlilcikgmaa.Pure
open Go.RowKit Go.Proofs.Ytmhenlilcikgmaa.X Go.Proofs.YtmhenlilcikgmaaW.PrintWords Go.Proofs.YtmhenlilcikgmaaW.PrintLast Go.Proofs.YtmhenlilcikgmaaW.PrintMore


theorem fin15 : Ev (fun k => (hucksterlaw15_awake.f).bind fun t => some t) true := Ev.bind1 rfl (Ev.now _)
theorem bt_byt (s : ByteArray) (i : Nat) : bt s (i : Int) = byt s i := by
  unfold bt byt
  simp
/-- A line is as it is. -/
theorem one_refl (x : Dl) (hx : Few16 x) : Ev (fun k => hucksterref15_One.f k x.f0 x.f1 x.f2 x.f3 x.f4 x.f5 x.f6 x.f0 x.f1 x.f2 x.f3 x.f4 x.f5 x.f6) true := by
  have hl : ∀ (m pos : Nat), pos + m = x.f5.length → Ev (fun k => hucksterref15_One.l0 k (pos : Int) x.f0 x.f1 x.f2 x.f3 x.f4 x.f5 x.f6 x.f0 x.f1 x.f2 x.f3 x.f4 x.f5 x.f6) true := by
    intro m
    induction m with
    | zero =>
      intro pos hp
      refine Ev.succ ?_
      simp only [hucksterref15_One.l0]
      exact Ev.no (by omega) (Ev.now _)
    | succ m ih =>
      intro pos hp
      unfold Few16 at hx
      refine Ev.succ ?_
      simp only [hucksterref15_One.l0]
      rw [wrap_up pos (by omega)]
      exact Ev.yes (by omega) (Ev.yes (by omega) (Ev.yes (by omega) (Ev.no (by simp) (ih (pos + 1) (by omega)))))
  unfold hucksterref15_One.f
  refine Ev.yes rfl (Ev.no (by simp) (Ev.yes rfl (Ev.yes rfl (Ev.yes rfl (Ev.yes rfl ?_)))))
  refine Ev.succ ?_
  simp only [hucksterref15_One.j0]
  exact Ev.no (by simp) (hl x.f5.length 0 (by omega))
theorem same_refl (l : List Dl) (hl : l.length ≤ 1000) (hx : ∀ x ∈ l, Few16 x) : Ev (fun k => hucksterref15_Same.f k l l) true := by
  have hs : ∀ (m pos : Nat), pos + m = l.length → Ev (fun k => hucksterref15_Same.l0 k l l (pos : Int)) true := by
    intro m
    induction m with
    | zero =>
      intro pos hp
      refine Ev.succ ?_
      simp only [hucksterref15_Same.l0]
      exact Ev.no (by omega) (Ev.now _)
    | succ m ih =>
      intro pos hp
      refine Ev.succ ?_
      simp only [hucksterref15_Same.l0]
      rw [wrap_up pos (by omega)]
      have hm : rd_T29 l (pos : Int) ∈ l := by
        have h1 : pos < l.length := by omega
        have : rd_T29 l (pos : Int) = l[pos] := by
          unfold rd_T29
          simp [h1]
        rw [this]
        exact List.getElem_mem h1
      exact Ev.yes (by omega) (Ev.yes (by omega) (Ev.yes (by omega) (Ev.bind (one_refl _ (hx _ hm)) (Ev.yes rfl (ih (pos + 1) (by omega))))))
  unfold hucksterref15_Same.f
  exact Ev.yes rfl (hs l.length 0 (by omega))
theorem rd_get (l : List Dl) (pos : Nat) (h : pos < l.length) : rd_T29 l (pos : Int) = l[pos] := by
  unfold rd_T29
  simp [h]
/-- The lines' numbers are small. -/
def LineOk (d : Int) (x : Dl) : Prop := wrap64 (x.f6 + d) = x.f6 + d
theorem tail1 (x y : List Dl) (d : Int) (hx : ∀ z ∈ x, Few16 z) (hy : ∀ z ∈ y, Few16 z ∧ LineOk d z) (hl : x.length + y.length ≤ 60) : ∀ (m pos : Nat), pos + m = y.length →
    Ev (fun k => hucksterlaw15_ParseJoins.l1 k x ((y.take pos).map (shD d) ++ y.drop pos) (x ++ y.map (shD d)) d (pos : Int)) true := by
  intro m
  induction m with
  | zero =>
    intro pos hp
    refine Ev.succ ?_
    simp only [hucksterlaw15_ParseJoins.l1]
    rw [List.take_of_length_le (by omega), List.drop_eq_nil_of_le (by omega), List.append_nil]
    refine Ev.no (by simp; omega) (Ev.bind1 rfl (Ev.yes (by simp; omega) (Ev.bind1 rfl (Ev.yes (by simp; omega) ?_))))
    rw [List.nil_append]
    refine Ev.bind (same_refl _ (by simp; omega) ?_) (Ev.yes rfl fin15)
    intro z hz
    rcases List.mem_append.1 hz with h | h
    · exact hx z h
    · obtain ⟨u, hu, rfl⟩ := List.mem_map.1 h
      exact (hy u hu).1
  | succ m ih =>
    intro pos hp
    refine Ev.succ ?_
    simp only [hucksterlaw15_ParseJoins.l1]
    have hlt : pos < y.length := by omega
    have hlen : ((y.take pos).map (shD d) ++ y.drop pos).length = y.length := by simp; omega
    have hz : rd_T29 ((y.take pos).map (shD d) ++ y.drop pos) (pos : Int) = y[pos] := by
      rw [rd_get _ _ (by omega), List.getElem_append_right (by simp; omega)]
      simp [List.getElem_drop]
      congr 1
      omega
    rw [wrap_up pos (by omega), hz, (hy y[pos] (List.getElem_mem hlt)).2]
    have hset : ((y.take pos).map (shD d) ++ y.drop pos).set ((pos : Int).toNat) (⟨y[pos].f0, y[pos].f1, y[pos].f2, y[pos].f3, y[pos].f4, y[pos].f5, y[pos].f6 + d⟩ : Dl) = (y.take (pos + 1)).map (shD d) ++ y.drop (pos + 1) := by
      rw [Int.toNat_natCast, List.set_append_right _ _ (by simp; omega)]
      have e1 : ((y.take pos).map (shD d)).length = pos := by simp; omega
      rw [e1, Nat.sub_self, ← List.getElem_cons_drop (h := hlt), List.set_cons_zero, List.take_succ_eq_append_getElem hlt]
      simp only [List.map_append, List.map_cons, List.map_nil, List.append_assoc, List.cons_append, List.nil_append]
      rfl
    rw [hset]
    exact Ev.yes (by omega) (Ev.yes (by omega) (ih (pos + 1) (by omega)))
theorem feeds_le (s : ByteArray) : ∀ n, feedsFrom s n ≤ n := by
  intro n
  induction n with
  | zero => exact Nat.le_refl _
  | succ n ih =>
    rw [feedsFrom]
    split <;> omega
theorem tail0 (a : ByteArray) (ha : a.size ≤ 1000) (x y z : List Dl) (r : Bool) (d : Int) (h : Ev (fun k => hucksterlaw15_ParseJoins.l1 k x y z d 0) r) : ∀ (n pos : Nat) (f : Int), pos + n = a.size → 1 ≤ f → f ≤ 1 + pos → f + (feedsFrom a n : Int) = d →
    Ev (fun k => hucksterlaw15_ParseJoins.l0 k a x y z f (pos : Int)) r := by
  intro n
  induction n with
  | zero =>
    intro pos f hp h0 h1 hf
    refine Ev.succ ?_
    simp only [hucksterlaw15_ParseJoins.l0]
    have : f = d := by simpa [feedsFrom] using hf
    subst this
    exact Ev.no (by omega) h
  | succ n ih =>
    intro pos f hp h0 h1 hf
    refine Ev.succ ?_
    simp only [hucksterlaw15_ParseJoins.l0]
    rw [feedsFrom, show a.size - (n + 1) = pos by omega] at hf
    rw [wrap_up pos (by omega), bt_byt]
    refine Ev.yes (by omega) (Ev.yes (by omega) ?_)
    by_cases h10 : byt a pos = 10
    · rw [if_pos h10] at hf
      have ew : wrap64 (f + 1) = f + 1 := by unfold wrap64; omega
      refine Ev.yes h10 ?_
      rw [ew]
      exact ih (pos + 1) (f + 1) (by omega) (by omega) (by omega) (by omega)
    · rw [if_neg h10] at hf
      exact Ev.no h10 (ih (pos + 1) f (by omega) h0 (by omega) (by omega))
theorem joins_yes (a b : ByteArray) : Ev (fun k => hucksterlaw15_ParseJoins.j0 k a b true) true := by
  refine Ev.succ ?_
  simp only [hucksterlaw15_ParseJoins.j0]
  exact Ev.yes (by simp) fin15
theorem joins_j1 (a b : ByteArray) (x y z : List Dl) (g : Int) : Ev (fun k => hucksterlaw15_ParseJoins.j1 k a b x y z g true) true := by
  refine Ev.succ ?_
  simp only [hucksterlaw15_ParseJoins.j1]
  exact Ev.yes (by simp) fin15
theorem ParseJoins : hucksterlaw15_ParseJoins.Pure := by
  intro a0 a1 h0 h1
  refine Ev.rounds ?_
  unfold hucksterlaw15_ParseJoins.f
  by_cases h5 : (a0.size : Int) > 1000
  · exact Ev.yes h5 (joins_yes a0 a1)
  refine Ev.no h5 ?_
  by_cases h6 : (a1.size : Int) > 1000
  · rw [decide_eq_true h6]
    exact joins_yes a0 a1
  rw [decide_eq_false h6]
  have e1 : (⟨#[10]⟩ : ByteArray).size = 1 := rfl
  have hj := join_lines a0 a1 (by omega) (by omega)
  have fx := parse_few a0
  have fy := parse_few a1
  have ly := parse_line a1
  refine Ev.succ ?_
  simp only [hucksterlaw15_ParseJoins.j0, parse_Lines.f]
  refine Ev.no (by simp) (Ev.bind1 rfl (Ev.bind1 rfl (Ev.yes (by omega) (Ev.yes (by rw [ByteArray.size_append, e1]; omega) (Ev.bind1 rfl ?_)))))
  generalize parseLines a0 = X at *
  generalize parseLines a1 = Y at *
  generalize parseLines ((a0 ++ (⟨#[10]⟩ : ByteArray)) ++ a1) = Z at *
  by_cases g1 : X.2.2 = 0
  · refine Ev.yes g1 ?_
    by_cases g2 : Y.2.2 = 0
    · refine Ev.yes g2 ?_
      have ew : wrap64 ((X.1.length : Int) + (Y.1.length : Int)) = (X.1.length : Int) + (Y.1.length : Int) := by unfold wrap64; omega
      rw [ew]
      by_cases g3 : (X.1.length : Int) + (Y.1.length : Int) > 60
      · rw [decide_eq_true g3]
        exact joins_j1 ..
      rw [decide_eq_false g3]
      refine Ev.succ ?_
      simp only [hucksterlaw15_ParseJoins.j1]
      refine Ev.no (by simp) ?_
      rcases hj g1 g2 (by omega) with ⟨k1, k2⟩ | ⟨k1, k2⟩
      · refine Ev.no (by omega) (Ev.yes k1 ?_)
        rw [k2]
        have e2 : (((X.1 ++ Y.1.map (shD (1 + (feedsFrom a0 a0.size : Int)))).length : Int) != (wrap64 ((X.1.length : Int) + (Y.1.length : Int)))) = false := by
          rw [ew]
          simp
        rw [e2]
        refine Ev.succ ?_
        simp only [hucksterlaw15_ParseJoins.j2]
        refine Ev.no (by simp) ?_
        have hfe := feeds_le a0 a0.size
        refine tail0 a0 (by omega) _ _ _ true (1 + (feedsFrom a0 a0.size : Int)) ?_ a0.size 0 1 (by omega) (by omega) (by omega) rfl
        have := tail1 X.1 Y.1 (1 + (feedsFrom a0 a0.size : Int)) fx.1 (fun z hz => ⟨fy.1 z hz, by
          have := ly z hz
          unfold LineOk wrap64
          omega⟩) (by omega) Y.1.length 0 (by omega)
        simpa using this
      · refine Ev.yes k1 (Ev.yes ?_ fin15)
        unfold wrap64; omega
    · exact Ev.no g2 (joins_j1 ..)
  · exact Ev.no g1 (joins_j1 ..)
end Go.Proofs.Ytmhenlilcikgmaa.Pure

/- Functions of the seat as Lean functions, and that the calls come to them: written by this session's own program xprint.py over the kit's printer. -/
namespace Go.Proofs.Ytmhenlilcikgmaa.parseJoins
open Go.ChangeShapes Go.WideShapes Go.ChangeAt Go.RowKit
open Go.ChangeMaps (open_string shut_string)
set_option linter.unusedVariables false
theorem own : ownKnob Try.prog.godebug = none := by kernel_rfl
set_option maxRecDepth 100000 in
theorem lifted (os : Os) (started : os.Started) (H : Type) (enc : TypeId × Value → H) :
    ReturnsInHanded {} Try.checked os 3 .any (Rows.parseJoinsSpec.pre6 enc Try.prog Try.f3 Rows.parseJoinsRow.domain false) (Rows.parseJoinsSpec.post enc Try.prog Try.f3 false true false false) := by
  refine returnsInHanded_of_change_sized (C := Try.checked) own started (by kernel_rfl) Try.func3
    (ChangeSpec.witness6 (enc := enc) (C := Try.checked) false ⟨#[], #[.string ByteArray.empty, .string ByteArray.empty], []⟩ 8 (by kernel_rfl) (by kernel_rfl) (by kernel_rfl) (by kernel_rfl)) ?_
  intro W base args ds gs before hval0 hW hcnd hsz0 _
  have hsz : (DataW.weightsEach Try.prog (Try.f3.params.toList ++ Rows.parseJoinsSpec.plain.varTypes Try.prog) (ds ++ gs)).all (· ≤ reachBytes) = true := hsz0
  have hval : ∀ (j : Nat) t v, Try.f3.params[j]? = some t → args[j]? = some v → Value.okWide Try.prog W .any base t v := hval0
  have hW' := hW
  obtain ⟨p, q, hA0, hV, rfl, hfz, hnd⟩ := hW
  have hA : DataW.TrodAll enc Try.prog W 0 (fun _ => true) true Try.f3.params.toList args.toList ds p := hA0
  rw [Try.params3] at hA hval hsz
  obtain ⟨v0, vs0, d0, ds0, p0, q0, hargs, rfl, rfl, h0, r0⟩ := trodAll_cons hA
  obtain ⟨v1, vs1, d1, ds1, p1, q1, rfl, rfl, rfl, h1, r1⟩ := trodAll_cons r0
  obtain ⟨rfl, rfl, rfl⟩ := trodAll_nil r1
  obtain rfl : args = #[v0, v1] := by cases args; simp_all
  obtain ⟨rfl, rfl⟩ := trodVars_none hV
  obtain ⟨a0, rfl, rfl, rfl, y0⟩ := open_string Try.underlying9 (hval 0 9 v0 rfl rfl) h0
  have w0 : a0.size ≤ 140737488351232 := by
    have z := sized_string hsz (j := 0) (t := 9) rfl rfl
    rw [Array.length_toList] at z
    exact z
  obtain ⟨a1, rfl, rfl, rfl, y1⟩ := open_string Try.underlying9 (hval 1 9 v1 rfl rfl) h1
  have w1 : a1.size ≤ 140737488351232 := by
    have z := sized_string hsz (j := 1) (t := 9) rfl rfl
    rw [Array.length_toList] at z
    exact z
  clear hA0 hval0 hsz0 hsz
  refine (X.hucksterlaw15_ParseJoins.walk Pure.ParseJoins a0 a1 W w0 w1).mono fun e W' ⟨he, bel⟩ => ?_
  subst he
  exact ⟨_, rfl, _, _, _, [], _, [], hW', trodAll_mk1 (shut_bool Try.underlying4 _), (trodAll_cons_mk (shut_string Try.underlying9 y0) (trodAll_cons_mk (shut_string Try.underlying9 y1) trodAll_mk0)), rfl, bel.frame _, fun h => by cases h⟩
theorem over : Rows.parseJoinsRow.holds Try.pinned (OpenSpec.ofChange Rows.parseJoinsSpec) :=
  OpenClaim.holds_of_wide 3 Try.f3 rfl rfl rfl rfl rfl rfl rfl ⟨rfl, rfl, rfl, rfl, rfl⟩ rfl rfl rfl rfl rfl (by kernel_rfl) Try.func3 (by kernel_rfl)
    (of_decide_eq_true (by kernel_rfl)) (by unfold Func.isWrapper; first | (rw [if_pos (by decide +kernel)]; kernel_rfl) | (rw [if_neg (by decide +kernel)]; exact ⟨rfl, rfl⟩))
    (fun os started H enc _ => lifted os started H enc)
theorem proved : Rows.ParseJoinsSaid := over
#print axioms proved
end Go.Proofs.Ytmhenlilcikgmaa.parseJoins
namespace Go.Proofs.Ytmhenlilcikgmaa
/-- The row, under a short name, for the claim. -/
theorem parseJoins_holds : Rows.ParseJoinsSaid := parseJoins.proved
end Go.Proofs.Ytmhenlilcikgmaa

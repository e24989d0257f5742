/- The law LawEscrowTells: its walk, its plain law, its row. -/
import Derived.Test.YtfnpiclioikjpaaRows
import Derived.Test.YtfnpiclioikjpaaWSized
import Derived.WalkKit
import Derived.ProofKit
import Derived.OpenShut
import Derived.ShutString
import Derived.ChangeOld
import Derived.Below
import Derived.SizedLaws
import Derived.Lib.SmallJoins
import Derived.Test.YtfnpiclioikjpaaJE1
import Derived.Test.YtfnpiclioikjpaaJE2
import Derived.Test.YtfnpiclioikjpaaJE3
/- Functions of the seat as Lean functions, and that the calls come to them: written by this session's own program xprint.py over the kit's printer. -/
namespace Go.Proofs.Ytfnpiclioikjpaa.X
open Go.RowKit Go.Proofs.YtfnpiclioikjpaaW.PrintWords Go.Proofs.YtfnpiclioikjpaaW.PrintLast Go.Proofs.YtfnpiclioikjpaaW.PrintMore
attribute [local go_sem] max2_int min2_int max_two min_two max_three min_three max_four min_four   -- for this text's walks alone
set_option linter.unusedVariables false
set_option linter.unusedSimpArgs false

/-! ### hucksterlaw11_there: function 44 -/
def hucksterlaw11_there.f (a0 : Int) : Option (Bool) := if a0 ≥ 1 then (some (decide (a0 ≤ 5))) else (some false)
set_option maxHeartbeats 8000000 in
set_option maxRecDepth 100000 in
theorem hucksterlaw11_there.calls (a0 : Int) (r : Bool) (w : World) (h : hucksterlaw11_there.f a0 = some r) :
    Calls Try.prog 44 #[.int .i64 a0] w fun e w' => e = .returned (.bool r) ∧ Drawn0 w w' := by
  have H : (if a0 ≥ 1 then (some (decide (a0 ≤ 5))) else (some false)) = some r := h
  clear h
  by_cases c2 : a0 ≥ 1
  · rw [if_pos c2] at H
    have c2b0 : decide (1 ≤ a0) = true := decide_eq_true c2
    clear c2
    obtain rfl := Option.some.inj H
    go_enter Try.func44, Try.ntmps44
    go_wp2
    go_ret
    exact ⟨by first | rfl | (simp; done) | (simp [*]; done), by repeat (first | exact Drawn0.refl _ | apply Drawn0.step)⟩
  · rw [if_neg c2] at H
    have c2b0 : decide (1 ≤ a0) = false := decide_eq_false c2
    clear c2
    obtain rfl := Option.some.inj H
    go_enter Try.func44, Try.ntmps44
    go_wp2
    go_ret
    exact ⟨by first | rfl | (simp; done) | (simp [*]; done), by repeat (first | exact Drawn0.refl _ | apply Drawn0.step)⟩

end Go.Proofs.Ytfnpiclioikjpaa.X

/- Functions of the seat as Lean functions, and that the calls come to them: written by this session's own program xprint.py over the kit's printer. -/
namespace Go.Proofs.Ytfnpiclioikjpaa.X
open Go.RowKit Go.Proofs.YtfnpiclioikjpaaW.PrintWords Go.Proofs.YtfnpiclioikjpaaW.PrintLast Go.Proofs.YtfnpiclioikjpaaW.PrintMore
attribute [local go_sem] max2_int min2_int max_two min_two max_three min_three max_four min_four   -- for this text's walks alone
set_option linter.unusedVariables false
set_option linter.unusedSimpArgs false

/-! ### hucksterlaw11_EscrowTells: function 13 -/
mutual
def hucksterlaw11_EscrowTells.j0 : Nat → List (S94) → Int → Bool → ByteArray → Int → Int → Int → Option (Bool)
  | 0, _, _, _, _, _, _, _ => none
  | k + 1, x0, x2, x19, x166000, x166001, x166002, x166003 => if x19 = true then ((hucksterlaw11_awake.f k).bind fun t167 => (some t167)) else ((hucksterref11_Right.f x0).bind fun t168 => ((escrow_Number.f x0 x166000).bind fun t169 => ((escrow_Rights.f x0 x166000 x166001 x2).bind fun t170 => ((escrow_May.f k x0 x166000 x166001 x2 x166003).bind fun t171 => (if t168 = true then ((hucksterref11_Number.f k x0 x166000).bind fun t172 => (hucksterlaw11_EscrowTells.j1 k x0 x2 t168 t170 t171 (t169 != t172) x166000 x166001 x166002 x166003)) else (if t169 = 0 then (hucksterlaw11_EscrowTells.j1 k x0 x2 t168 t170 t171 false x166000 x166001 x166002 x166003) else (hucksterlaw11_EscrowTells.j1 k x0 x2 t168 t170 t171 true x166000 x166001 x166002 x166003)))))))
def hucksterlaw11_EscrowTells.j1 : Nat → List (S94) → Int → Bool → Int → Int → Bool → ByteArray → Int → Int → Int → Option (Bool)
  | 0, _, _, _, _, _, _, _, _, _, _ => none
  | k + 1, x0, x2, x7, x9, x10, x59, x166000, x166001, x166002, x166003 => if x59 = true then (some false) else (if x7 = true then ((hucksterlaw11_there.f x166001).bind fun t173 => (if t173 = true then (if x2 > 0 then (hucksterlaw11_EscrowTells.j2 k x0 x2 x9 x10 true x166000 x166001 x166002 x166003) else (hucksterlaw11_EscrowTells.j2 k x0 x2 x9 x10 (decide (x2 < (-1000))) x166000 x166001 x166002 x166003)) else (hucksterlaw11_EscrowTells.j2 k x0 x2 x9 x10 true x166000 x166001 x166002 x166003))) else (hucksterlaw11_EscrowTells.j2 k x0 x2 x9 x10 true x166000 x166001 x166002 x166003))
def hucksterlaw11_EscrowTells.j2 : Nat → List (S94) → Int → Int → Int → Bool → ByteArray → Int → Int → Int → Option (Bool)
  | 0, _, _, _, _, _, _, _, _, _ => none
  | k + 1, x0, x2, x9, x10, x75, x166000, x166001, x166002, x166003 => if x75 = true then (if x9 = 0 then (if x10 = 1 then ((hucksterlaw11_awake.f k).bind fun t174 => (some t174)) else (some false)) else (some false)) else ((hucksterref11_Rights.f x0 x166000 x166001 x2).bind fun t175 => (if x9 = t175 then (if x166000.toList = ([] : List UInt8) then (hucksterlaw11_EscrowTells.j3 k x0 x9 x10 true x166000 x166001 x166002 x166003) else (if (x166000.size : Int) > 32 then (hucksterlaw11_EscrowTells.j3 k x0 x9 x10 true x166000 x166001 x166002 x166003) else (if x166003 < 1 then (hucksterlaw11_EscrowTells.j3 k x0 x9 x10 true x166000 x166001 x166002 x166003) else (hucksterlaw11_EscrowTells.j3 k x0 x9 x10 (decide (x166003 > 1000)) x166000 x166001 x166002 x166003)))) else (some false)))
def hucksterlaw11_EscrowTells.j3 : Nat → List (S94) → Int → Int → Bool → ByteArray → Int → Int → Int → Option (Bool)
  | 0, _, _, _, _, _, _, _, _ => none
  | k + 1, x0, x9, x10, x112, x166000, x166001, x166002, x166003 => if x112 = true then (if x10 = 1 then ((hucksterlaw11_awake.f k).bind fun t176 => (some t176)) else (some false)) else (if ((x10 == 5) == (decide (x9 < x166003))) = true then (if ((x10 == 0) == (decide (x9 ≥ x166003))) = true then ((escrow_Same.f k x0 x0).bind fun t177 => (if t177 = true then ((hucksterlaw11_awake.f k).bind fun t178 => (some t178)) else (some false))) else (some false)) else (some false))
end
def hucksterlaw11_EscrowTells.f (k : Nat) (l0 : List (S94)) (a1_0 : ByteArray) (a1_1 : Int) (a1_2 : Int) (a1_3 : Int) (a2 : Int) : Option (Bool) := (hucksterlaw11_Light.f k l0).bind fun t166 => (if t166 = true then (hucksterlaw11_EscrowTells.j0 k l0 a2 (decide ((a1_0.size : Int) > 100)) a1_0 a1_1 a1_2 a1_3) else (hucksterlaw11_EscrowTells.j0 k l0 a2 true a1_0 a1_1 a1_2 a1_3))
theorem hucksterlaw11_EscrowTells.mono_l : ∀ k, (∀ y0 y1 y2 y3 y4 y5 y6, LeO (hucksterlaw11_EscrowTells.j0 k y0 y1 y2 y3 y4 y5 y6) (hucksterlaw11_EscrowTells.j0 (k + 1) y0 y1 y2 y3 y4 y5 y6)) ∧ (∀ y0 y1 y2 y3 y4 y5 y6 y7 y8 y9, LeO (hucksterlaw11_EscrowTells.j1 k y0 y1 y2 y3 y4 y5 y6 y7 y8 y9) (hucksterlaw11_EscrowTells.j1 (k + 1) y0 y1 y2 y3 y4 y5 y6 y7 y8 y9)) ∧ (∀ y0 y1 y2 y3 y4 y5 y6 y7 y8, LeO (hucksterlaw11_EscrowTells.j2 k y0 y1 y2 y3 y4 y5 y6 y7 y8) (hucksterlaw11_EscrowTells.j2 (k + 1) y0 y1 y2 y3 y4 y5 y6 y7 y8)) ∧ (∀ y0 y1 y2 y3 y4 y5 y6 y7, LeO (hucksterlaw11_EscrowTells.j3 k y0 y1 y2 y3 y4 y5 y6 y7) (hucksterlaw11_EscrowTells.j3 (k + 1) y0 y1 y2 y3 y4 y5 y6 y7))
  | 0 => ⟨fun _ _ _ _ _ _ _ r h => by simp [hucksterlaw11_EscrowTells.j0] at h, fun _ _ _ _ _ _ _ _ _ _ r h => by simp [hucksterlaw11_EscrowTells.j1] at h, fun _ _ _ _ _ _ _ _ _ r h => by simp [hucksterlaw11_EscrowTells.j2] at h, fun _ _ _ _ _ _ _ _ r h => by simp [hucksterlaw11_EscrowTells.j3] at h⟩
  | k + 1 => by
    obtain ⟨ih0, ih1, ih2, ih3⟩ := hucksterlaw11_EscrowTells.mono_l k
    refine ⟨?_, ?_, ?_, ?_⟩
    · intro y0 y1 y2 y3 y4 y5 y6
      unfold hucksterlaw11_EscrowTells.j0
      repeat' first
      | (with_reducible exact ih0 _ _ _ _ _ _ _)
      | (with_reducible exact ih1 _ _ _ _ _ _ _ _ _ _)
      | (with_reducible exact ih2 _ _ _ _ _ _ _ _ _)
      | (with_reducible exact ih3 _ _ _ _ _ _ _ _)
      | (with_reducible exact escrow_May.mono _ _ _ _ _ _)
      | (with_reducible exact escrow_Same.mono _ _ _)
      | (with_reducible exact hucksterlaw11_Light.mono _ _)
      | (with_reducible exact hucksterlaw11_awake.mono _)
      | (with_reducible exact hucksterref11_Number.mono _ _ _)
      | (with_reducible exact LeO.refl _)
      | (with_reducible exact LeO.none _)
      | (with_reducible refine LeO.ite ?_ ?_)
      | (with_reducible refine LeO.bind ?_ (fun _ => ?_))
      | exact ih0 _ _ _ _ _ _ _
      | exact ih1 _ _ _ _ _ _ _ _ _ _
      | exact ih2 _ _ _ _ _ _ _ _ _
      | exact ih3 _ _ _ _ _ _ _ _
      | exact escrow_May.mono _ _ _ _ _ _
      | exact escrow_Same.mono _ _ _
      | exact hucksterlaw11_Light.mono _ _
      | exact hucksterlaw11_awake.mono _
      | exact hucksterref11_Number.mono _ _ _
      | exact LeO.none _
      | refine LeO.ite ?_ ?_
      | refine LeO.bind ?_ (fun _ => ?_)
    · intro y0 y1 y2 y3 y4 y5 y6 y7 y8 y9
      unfold hucksterlaw11_EscrowTells.j1
      repeat' first
      | (with_reducible exact ih0 _ _ _ _ _ _ _)
      | (with_reducible exact ih1 _ _ _ _ _ _ _ _ _ _)
      | (with_reducible exact ih2 _ _ _ _ _ _ _ _ _)
      | (with_reducible exact ih3 _ _ _ _ _ _ _ _)
      | (with_reducible exact escrow_May.mono _ _ _ _ _ _)
      | (with_reducible exact escrow_Same.mono _ _ _)
      | (with_reducible exact hucksterlaw11_Light.mono _ _)
      | (with_reducible exact hucksterlaw11_awake.mono _)
      | (with_reducible exact hucksterref11_Number.mono _ _ _)
      | (with_reducible exact LeO.refl _)
      | (with_reducible exact LeO.none _)
      | (with_reducible refine LeO.ite ?_ ?_)
      | (with_reducible refine LeO.bind ?_ (fun _ => ?_))
      | exact ih0 _ _ _ _ _ _ _
      | exact ih1 _ _ _ _ _ _ _ _ _ _
      | exact ih2 _ _ _ _ _ _ _ _ _
      | exact ih3 _ _ _ _ _ _ _ _
      | exact escrow_May.mono _ _ _ _ _ _
      | exact escrow_Same.mono _ _ _
      | exact hucksterlaw11_Light.mono _ _
      | exact hucksterlaw11_awake.mono _
      | exact hucksterref11_Number.mono _ _ _
      | exact LeO.none _
      | refine LeO.ite ?_ ?_
      | refine LeO.bind ?_ (fun _ => ?_)
    · intro y0 y1 y2 y3 y4 y5 y6 y7 y8
      unfold hucksterlaw11_EscrowTells.j2
      repeat' first
      | (with_reducible exact ih0 _ _ _ _ _ _ _)
      | (with_reducible exact ih1 _ _ _ _ _ _ _ _ _ _)
      | (with_reducible exact ih2 _ _ _ _ _ _ _ _ _)
      | (with_reducible exact ih3 _ _ _ _ _ _ _ _)
      | (with_reducible exact escrow_May.mono _ _ _ _ _ _)
      | (with_reducible exact escrow_Same.mono _ _ _)
      | (with_reducible exact hucksterlaw11_Light.mono _ _)
      | (with_reducible exact hucksterlaw11_awake.mono _)
      | (with_reducible exact hucksterref11_Number.mono _ _ _)
      | (with_reducible exact LeO.refl _)
      | (with_reducible exact LeO.none _)
      | (with_reducible refine LeO.ite ?_ ?_)
      | (with_reducible refine LeO.bind ?_ (fun _ => ?_))
      | exact ih0 _ _ _ _ _ _ _
      | exact ih1 _ _ _ _ _ _ _ _ _ _
      | exact ih2 _ _ _ _ _ _ _ _ _
      | exact ih3 _ _ _ _ _ _ _ _
      | exact escrow_May.mono _ _ _ _ _ _
      | exact escrow_Same.mono _ _ _
      | exact hucksterlaw11_Light.mono _ _
      | exact hucksterlaw11_awake.mono _
      | exact hucksterref11_Number.mono _ _ _
      | exact LeO.none _
      | refine LeO.ite ?_ ?_
      | refine LeO.bind ?_ (fun _ => ?_)
    · intro y0 y1 y2 y3 y4 y5 y6 y7
      unfold hucksterlaw11_EscrowTells.j3
      repeat' first
      | (with_reducible exact ih0 _ _ _ _ _ _ _)
      | (with_reducible exact ih1 _ _ _ _ _ _ _ _ _ _)
      | (with_reducible exact ih2 _ _ _ _ _ _ _ _ _)
      | (with_reducible exact ih3 _ _ _ _ _ _ _ _)
      | (with_reducible exact escrow_May.mono _ _ _ _ _ _)
      | (with_reducible exact escrow_Same.mono _ _ _)
      | (with_reducible exact hucksterlaw11_Light.mono _ _)
      | (with_reducible exact hucksterlaw11_awake.mono _)
      | (with_reducible exact hucksterref11_Number.mono _ _ _)
      | (with_reducible exact LeO.refl _)
      | (with_reducible exact LeO.none _)
      | (with_reducible refine LeO.ite ?_ ?_)
      | (with_reducible refine LeO.bind ?_ (fun _ => ?_))
      | exact ih0 _ _ _ _ _ _ _
      | exact ih1 _ _ _ _ _ _ _ _ _ _
      | exact ih2 _ _ _ _ _ _ _ _ _
      | exact ih3 _ _ _ _ _ _ _ _
      | exact escrow_May.mono _ _ _ _ _ _
      | exact escrow_Same.mono _ _ _
      | exact hucksterlaw11_Light.mono _ _
      | exact hucksterlaw11_awake.mono _
      | exact hucksterref11_Number.mono _ _ _
      | exact LeO.none _
      | refine LeO.ite ?_ ?_
      | refine LeO.bind ?_ (fun _ => ?_)
theorem hucksterlaw11_EscrowTells.mono : ∀ a0 a1 a2 a3 a4 a5 k, LeO (hucksterlaw11_EscrowTells.f k a0 a1 a2 a3 a4 a5) (hucksterlaw11_EscrowTells.f (k + 1) a0 a1 a2 a3 a4 a5) := by
  intro a0 a1 a2 a3 a4 a5 k
  obtain ⟨ih0, ih1, ih2, ih3⟩ := hucksterlaw11_EscrowTells.mono_l k
  unfold hucksterlaw11_EscrowTells.f
  repeat' first
      | (with_reducible exact ih0 _ _ _ _ _ _ _)
      | (with_reducible exact ih1 _ _ _ _ _ _ _ _ _ _)
      | (with_reducible exact ih2 _ _ _ _ _ _ _ _ _)
      | (with_reducible exact ih3 _ _ _ _ _ _ _ _)
      | (with_reducible exact escrow_May.mono _ _ _ _ _ _)
      | (with_reducible exact escrow_Same.mono _ _ _)
      | (with_reducible exact hucksterlaw11_Light.mono _ _)
      | (with_reducible exact hucksterlaw11_awake.mono _)
      | (with_reducible exact hucksterref11_Number.mono _ _ _)
      | (with_reducible exact LeO.refl _)
      | (with_reducible exact LeO.none _)
      | (with_reducible refine LeO.ite ?_ ?_)
      | (with_reducible refine LeO.bind ?_ (fun _ => ?_))
      | exact ih0 _ _ _ _ _ _ _
      | exact ih1 _ _ _ _ _ _ _ _ _ _
      | exact ih2 _ _ _ _ _ _ _ _ _
      | exact ih3 _ _ _ _ _ _ _ _
      | exact escrow_May.mono _ _ _ _ _ _
      | exact escrow_Same.mono _ _ _
      | exact hucksterlaw11_Light.mono _ _
      | exact hucksterlaw11_awake.mono _
      | exact hucksterref11_Number.mono _ _ _
      | exact LeO.none _
      | refine LeO.ite ?_ ?_
      | refine LeO.bind ?_ (fun _ => ?_)
def hucksterlaw11_EscrowTells.T4 : Bool × List (List Nat × List Nat) := (true, [([], []), ([], []), ([1], [1]), ([0, 2], [0, 2]), ([], []), ([], []), ([5], [5]), ([], []), ([7], [7]), ([], []), ([4, 6, 8, 9, 3], [4, 6, 8, 9]), ([], []), ([], []), ([12], [12]), ([], []), ([14], [14]), ([], []), ([], []), ([17], [17]), ([11, 13, 15, 16, 18, 10], [11, 13, 15, 16, 18]), ([3, 19, 0, 1, 2, 3], [3]), ([10, 20, 0, 1, 2, 3, 4, 5, 6, 7, 8, 9, 10, 20], [10]), ([19, 21, 0, 1, 2, 3, 4, 5, 6, 7, 8, 9, 10, 11, 12, 13, 14, 15, 16, 17, 18, 19, 20, 21], [19])])
def hucksterlaw11_EscrowTells.B4 : List Nat := [0, 0, 2, 7, 0, 0, 32, 0, 128, 0, 1023, 0, 0, 4096, 0, 16384, 0, 0, 131072, 524287, 1048575, 2097151, 4194303]
theorem hucksterlaw11_EscrowTells.tab4 : rtab .any (opsOf Try.f13 4) = hucksterlaw11_EscrowTells.T4 := by kernel_rfl
theorem hucksterlaw11_EscrowTells.bits4 : waitsOk hucksterlaw11_EscrowTells.T4.2 hucksterlaw11_EscrowTells.B4 = true := by kernel_rfl
set_option maxHeartbeats 8000000 in
set_option maxRecDepth 100000 in
theorem hucksterlaw11_EscrowTells.calls (k : Nat) (A0 : Option Addr) (c0 : Nat) (l0 : List (S94)) (a1_0 : ByteArray) (a1_1 : Int) (a1_2 : Int) (a1_3 : Int) (a2 : Int) (r : Bool) (w : World) (hr0 : Kd.C k94 w A0 l0.length l0) (hc0 : l0.length ≤ c0) (h : hucksterlaw11_EscrowTells.f k l0 a1_0 a1_1 a1_2 a1_3 a2 = some r) :
    Calls Try.prog 13 #[.slice A0 l0.length c0, .agg #[.string a1_0, .int .i64 a1_1, .int .i64 a1_2, .int .i64 a1_3], .int .i64 a2] w fun e w' => e = .returned (.bool r) ∧ Below w.heap.size w w' := by
  have hu61 := Try.underlying61
  have HR0 := Aside0.mk hr0
  have HC0 := Aside0.mk hc0
  clear hr0 hc0
  have HB := Aside0.mk (Below.refl w.heap.size w)
  have H : ((hucksterlaw11_Light.f k l0).bind fun t166 => (if t166 = true then (hucksterlaw11_EscrowTells.j0 k l0 a2 (decide ((a1_0.size : Int) > 100)) a1_0 a1_1 a1_2 a1_3) else (hucksterlaw11_EscrowTells.j0 k l0 a2 true a1_0 a1_1 a1_2 a1_3))) = some r := h
  clear h
  have HC4 := Aside0.mk H
  clear H
  go_enter Try.func13, Try.ntmps13
  go_upto_region 1 with (first | ((with_reducible refine gate_dst (N := 4) rfl ?_); (try (refine gate_guard (by rfl) ?_; dsimp only)); refine box_event ?hg (N := 4) ?hd (cs := #[.string a1_0, .int .i64 a1_1, .int .i64 a1_2, .int .i64 a1_3]) (t := 61) ?hr ?_; (case hd => rfl); (case hg => rfl); (case hr => first | (go_simp; done) | (go_simp; rfl)); intro gb165 hg w5 hbox hb; have n0_ := Aside0.mk (below_step (by repeat (first | (with_reducible first | exact HB.out | apply below_alloc | apply pw_below_drewN | apply below_drew1) | exact HB.out)) hb); have n1_ := Aside0.mk (hbox); have n2_ := Aside0.mk ((by rw [hg]; exact (below_size (by repeat (first | (with_reducible first | exact HB.out | apply below_alloc | apply pw_below_drewN | apply below_drew1) | exact HB.out))) : w.heap.size ≤ gb165)); have n3_ := Aside0.mk ((by rw [hg]; exact (below_size (by repeat (first | (with_reducible first | exact HB.out | apply below_alloc | apply pw_below_drewN | apply below_drew1) | exact HB.out))) : w.heap.size ≤ gb165)); clear HB; have HB := n0_; have BK165 := n1_; have GW165 := n2_; have GE165 := n3_; clear n0_ n1_ n2_ n3_; clear hb hbox hg))
  (try simp only [Act.put, List.setIfInBounds_toArray, List.set_cons_zero, List.set_cons_succ])
  go_cut [19] (fun v19 wc => ∃ (kq : Nat) (x19_3 : Bool), v19 = .bool x19_3 ∧ Aside0 (hucksterlaw11_EscrowTells.j0 kq l0 a2 x19_3 a1_0 a1_1 a1_2 a1_3 = some r) ∧ Aside0 (kq ≤ k) ∧ Aside0 (wc.heap[gb165]? = some (.cells #[.string a1_0, .int .i64 a1_1, .int .i64 a1_2, .int .i64 a1_3] 61 (0, 0))) ∧ Aside0 (Below w.heap.size w wc))
  case first =>
    have H := HC4.out
    clear HC4
    replace H := Option.bind_eq_some_iff.mp H
    obtain ⟨t166, A60, H⟩ := H
    replace H : (if t166 = true then (hucksterlaw11_EscrowTells.j0 k l0 a2 (decide ((a1_0.size : Int) > 100)) a1_0 a1_1 a1_2 a1_3) else (hucksterlaw11_EscrowTells.j0 k l0 a2 true a1_0 a1_1 a1_2 a1_3)) = some r := H
    have A6 := Aside0.mk A60
    clear A60
    by_cases c7 : t166 = true
    · subst c7
      have H1 : (hucksterlaw11_EscrowTells.j0 k l0 a2 (decide ((a1_0.size : Int) > 100)) a1_0 a1_1 a1_2 a1_3) = some r := by rw [if_pos rfl] at H; exact H
      clear H
      have H := H1
      clear H1
      have H' := Aside0.mk H
      clear H
      go_wp2_with (first | ((with_reducible refine gate_callee (f := 39) rfl ?_); refine goesL_ (some 12) rfl rfl Try.func39 (by kernel_rfl) rfl #[.slice A0 l0.length c0] rfl (by (try simp only [List.map_toArray, List.map_cons, List.map_nil]); first | done | rfl | (simp only [List.length_drop, List.length_take]; rfl)) ?_; (with_reducible refine (hucksterlaw11_Light.calls k _ _ l0 true _ ?side1 ?side2 A6.out).mono ?_); (case side1 => repeat (first | exact (Kd.C_below HR0.out HB.out) | (with_reducible refine Kd.C_alloc ?_ _) | (with_reducible refine Kd.C_drewN ?_ _) | (with_reducible refine Kd.C_drew ?_))); (case side2 => exact HC0.out); rintro e w' ⟨rfl, ⟨nd, rfl⟩⟩; refine ⟨_, rfl, ?_⟩; have hcz8_0 : w5.cell? ⟨gb165, 0, none⟩ = some (.string a1_0) := (blk_cell BK165.out 0).trans rfl; have hcz8_1 : w5.cell? ⟨gb165, 1, none⟩ = some (.int .i64 a1_1) := (blk_cell BK165.out 1).trans rfl; have hcz8_2 : w5.cell? ⟨gb165, 2, none⟩ = some (.int .i64 a1_2) := (blk_cell BK165.out 2).trans rfl; have hcz8_3 : w5.cell? ⟨gb165, 3, none⟩ = some (.int .i64 a1_3) := (blk_cell BK165.out 3).trans rfl; have hfz8_0 := blk_frozen BK165.out 0; have hfz8_1 := blk_frozen BK165.out 1; have hfz8_2 := blk_frozen BK165.out 2; have hfz8_3 := blk_frozen BK165.out 3))
      go_meet
      case rel => exact ⟨_, (decide ((a1_0.size : Int) > 100)), (by first | rfl | (simp; done) | (simp [*]; done)), H', ⟨by first | omega | exact Nat.le_refl _⟩, ⟨by (with_reducible repeat (first | refine blk_drewN ?_ _ | refine blk_drew ?_ | refine blk_alloc ?_ _)); exact BK165.out⟩, ⟨by repeat (first | (with_reducible first | exact HB.out | apply below_alloc | apply pw_below_drewN | apply below_drew1 | refine below_set ?_ GE165.out) | exact HB.out)⟩⟩
    · replace c7 := Bool.eq_false_iff.mpr c7
      subst c7
      have H1 : (hucksterlaw11_EscrowTells.j0 k l0 a2 true a1_0 a1_1 a1_2 a1_3) = some r := by rw [if_neg (show ¬ (false = true) by decide)] at H; exact H
      clear H
      have H := H1
      clear H1
      have H' := Aside0.mk H
      clear H
      go_wp2_with (first | ((with_reducible refine gate_callee (f := 39) rfl ?_); refine goesL_ (some 12) rfl rfl Try.func39 (by kernel_rfl) rfl #[.slice A0 l0.length c0] rfl (by (try simp only [List.map_toArray, List.map_cons, List.map_nil]); first | done | rfl | (simp only [List.length_drop, List.length_take]; rfl)) ?_; (with_reducible refine (hucksterlaw11_Light.calls k _ _ l0 false _ ?side1 ?side2 A6.out).mono ?_); (case side1 => repeat (first | exact (Kd.C_below HR0.out HB.out) | (with_reducible refine Kd.C_alloc ?_ _) | (with_reducible refine Kd.C_drewN ?_ _) | (with_reducible refine Kd.C_drew ?_))); (case side2 => exact HC0.out); rintro e w' ⟨rfl, ⟨nd, rfl⟩⟩; refine ⟨_, rfl, ?_⟩))
      go_meet
      case rel => exact ⟨_, (true), (by first | rfl | (simp; done) | (simp [*]; done)), H', ⟨by first | omega | exact Nat.le_refl _⟩, ⟨by (with_reducible repeat (first | refine blk_drewN ?_ _ | refine blk_drew ?_ | refine blk_alloc ?_ _)); exact BK165.out⟩, ⟨by repeat (first | (with_reducible first | exact HB.out | apply below_alloc | apply pw_below_drewN | apply below_drew1 | refine below_set ?_ GE165.out) | exact HB.out)⟩⟩
  case rest =>
    clear HC4
    try clear c1
    try clear p2
    try clear c3
    try clear c7
    try clear hcz8_0
    try clear hcz8_1
    try clear hcz8_2
    try clear hcz8_3
    try clear hfz8_0
    try clear hfz8_1
    try clear hfz8_2
    try clear hfz8_3
    obtain ⟨kq, x19_3, rfl, HA, HJ3, BK165, HB⟩ := hcut
    cases kq with
    | zero => exact absurd HA.out (by simp [hucksterlaw11_EscrowTells.j0])
    | succ kj3 =>
      have H := HA.out
      clear HA
      simp only [hucksterlaw11_EscrowTells.j0] at H
      by_cases c9 : x19_3 = true
      · subst c9
        have H1 : ((hucksterlaw11_awake.f kj3).bind fun t167 => (some t167)) = some r := by rw [if_pos rfl] at H; exact H
        clear H
        have H := H1
        clear H1
        replace H := Option.bind_eq_some_iff.mp H
        obtain ⟨t167, A100, H⟩ := H
        replace H : (some t167) = some r := H
        have A10 := Aside0.mk A100
        clear A100
        obtain rfl := Option.some.inj H
        go_wp2_with (first | ((with_reducible refine gate_callee (f := 40) rfl ?_); refine goesL_ (some 20) rfl rfl Try.func40 (by kernel_rfl) rfl #[] rfl (by (try simp only [List.map_toArray, List.map_cons, List.map_nil]); first | done | rfl | (simp only [List.length_drop, List.length_take]; rfl)) ?_; (with_reducible refine (hucksterlaw11_awake.calls kj3  t167 _ A10.out).mono ?_); rintro e w11 ⟨rfl, hb⟩; refine ⟨_, rfl, ?_⟩; have n0_ := Aside0.mk (blk_below (g := gb165) (o := .cells #[.string a1_0, .int .i64 a1_1, .int .i64 a1_2, .int .i64 a1_3] 61 (0, 0)) (by (with_reducible repeat (first | refine blk_drewN ?_ _ | refine blk_drew ?_ | refine blk_alloc ?_ _)); exact BK165.out) hb); have n1_ := Aside0.mk (below_step (by repeat (first | (with_reducible first | exact HB.out | apply below_alloc | apply pw_below_drewN | apply below_drew1 | refine below_set ?_ GE165.out) | exact HB.out)) hb); clear BK165; clear HB; have BK165 := n0_; have HB := n1_; clear n0_ n1_; (try clear hb); (try clear hb2); (try clear hk); (try clear hi)))
        go_ret
        exact ⟨by first | rfl | (simp [errW_none, errW_some] <;> rfl) | (simp [*, errW_none, errW_some] <;> rfl), by repeat (first | (with_reducible first | exact HB.out | apply below_alloc | apply pw_below_drewN | apply below_drew1 | refine below_set ?_ GE165.out) | exact HB.out)⟩
      · replace c9 := Bool.eq_false_iff.mpr c9
        subst c9
        have H1 : ((hucksterref11_Right.f l0).bind fun t168 => ((escrow_Number.f l0 a1_0).bind fun t169 => ((escrow_Rights.f l0 a1_0 a1_1 a2).bind fun t170 => ((escrow_May.f kj3 l0 a1_0 a1_1 a2 a1_3).bind fun t171 => (if t168 = true then ((hucksterref11_Number.f kj3 l0 a1_0).bind fun t172 => (hucksterlaw11_EscrowTells.j1 kj3 l0 a2 t168 t170 t171 (t169 != t172) a1_0 a1_1 a1_2 a1_3)) else (if t169 = 0 then (hucksterlaw11_EscrowTells.j1 kj3 l0 a2 t168 t170 t171 false a1_0 a1_1 a1_2 a1_3) else (hucksterlaw11_EscrowTells.j1 kj3 l0 a2 t168 t170 t171 true a1_0 a1_1 a1_2 a1_3))))))) = some r := by rw [if_neg (show ¬ (false = true) by decide)] at H; exact H
        clear H
        have H := H1
        clear H1
        replace H := Option.bind_eq_some_iff.mp H
        obtain ⟨t168, A120, H⟩ := H
        replace H : ((escrow_Number.f l0 a1_0).bind fun t169 => ((escrow_Rights.f l0 a1_0 a1_1 a2).bind fun t170 => ((escrow_May.f kj3 l0 a1_0 a1_1 a2 a1_3).bind fun t171 => (if t168 = true then ((hucksterref11_Number.f kj3 l0 a1_0).bind fun t172 => (hucksterlaw11_EscrowTells.j1 kj3 l0 a2 t168 t170 t171 (t169 != t172) a1_0 a1_1 a1_2 a1_3)) else (if t169 = 0 then (hucksterlaw11_EscrowTells.j1 kj3 l0 a2 t168 t170 t171 false a1_0 a1_1 a1_2 a1_3) else (hucksterlaw11_EscrowTells.j1 kj3 l0 a2 t168 t170 t171 true a1_0 a1_1 a1_2 a1_3)))))) = some r := H
        have A12 := Aside0.mk A120
        clear A120
        replace H := Option.bind_eq_some_iff.mp H
        obtain ⟨t169, A130, H⟩ := H
        replace H : ((escrow_Rights.f l0 a1_0 a1_1 a2).bind fun t170 => ((escrow_May.f kj3 l0 a1_0 a1_1 a2 a1_3).bind fun t171 => (if t168 = true then ((hucksterref11_Number.f kj3 l0 a1_0).bind fun t172 => (hucksterlaw11_EscrowTells.j1 kj3 l0 a2 t168 t170 t171 (t169 != t172) a1_0 a1_1 a1_2 a1_3)) else (if t169 = 0 then (hucksterlaw11_EscrowTells.j1 kj3 l0 a2 t168 t170 t171 false a1_0 a1_1 a1_2 a1_3) else (hucksterlaw11_EscrowTells.j1 kj3 l0 a2 t168 t170 t171 true a1_0 a1_1 a1_2 a1_3))))) = some r := H
        have A13 := Aside0.mk A130
        clear A130
        replace H := Option.bind_eq_some_iff.mp H
        obtain ⟨t170, A140, H⟩ := H
        replace H : ((escrow_May.f kj3 l0 a1_0 a1_1 a2 a1_3).bind fun t171 => (if t168 = true then ((hucksterref11_Number.f kj3 l0 a1_0).bind fun t172 => (hucksterlaw11_EscrowTells.j1 kj3 l0 a2 t168 t170 t171 (t169 != t172) a1_0 a1_1 a1_2 a1_3)) else (if t169 = 0 then (hucksterlaw11_EscrowTells.j1 kj3 l0 a2 t168 t170 t171 false a1_0 a1_1 a1_2 a1_3) else (hucksterlaw11_EscrowTells.j1 kj3 l0 a2 t168 t170 t171 true a1_0 a1_1 a1_2 a1_3)))) = some r := H
        have A14 := Aside0.mk A140
        clear A140
        replace H := Option.bind_eq_some_iff.mp H
        obtain ⟨t171, A150, H⟩ := H
        replace H : (if t168 = true then ((hucksterref11_Number.f kj3 l0 a1_0).bind fun t172 => (hucksterlaw11_EscrowTells.j1 kj3 l0 a2 t168 t170 t171 (t169 != t172) a1_0 a1_1 a1_2 a1_3)) else (if t169 = 0 then (hucksterlaw11_EscrowTells.j1 kj3 l0 a2 t168 t170 t171 false a1_0 a1_1 a1_2 a1_3) else (hucksterlaw11_EscrowTells.j1 kj3 l0 a2 t168 t170 t171 true a1_0 a1_1 a1_2 a1_3))) = some r := H
        have A15 := Aside0.mk A150
        clear A150
        have HC16 := Aside0.mk H
        clear H
        try go_wp2_with (first | ((with_reducible refine gate_callee (f := 43) rfl ?_); refine goesL_ (some 22) rfl rfl Try.func43 (by kernel_rfl) rfl #[.slice A0 l0.length c0] rfl (by (try simp only [List.map_toArray, List.map_cons, List.map_nil]); first | done | rfl | (simp only [List.length_drop, List.length_take]; rfl)) ?_; (with_reducible refine (hucksterref11_Right.calls _ _ l0 t168 _ ?side1 ?side2 A12.out).mono ?_); (case side1 => repeat (first | exact (Kd.C_below HR0.out HB.out) | (with_reducible refine Kd.C_alloc ?_ _) | (with_reducible refine Kd.C_drewN ?_ _) | (with_reducible refine Kd.C_drew ?_))); (case side2 => exact HC0.out); rintro e w17 ⟨rfl, hb⟩; refine ⟨_, rfl, ?_⟩; have n0_ := Aside0.mk (blk_below (g := gb165) (o := .cells #[.string a1_0, .int .i64 a1_1, .int .i64 a1_2, .int .i64 a1_3] 61 (0, 0)) (by (with_reducible repeat (first | refine blk_drewN ?_ _ | refine blk_drew ?_ | refine blk_alloc ?_ _)); exact BK165.out) hb); have n1_ := Aside0.mk (below_step (by repeat (first | (with_reducible first | exact HB.out | apply below_alloc | apply pw_below_drewN | apply below_drew1 | refine below_set ?_ GE165.out) | exact HB.out)) hb); clear BK165; clear HB; have BK165 := n0_; have HB := n1_; clear n0_ n1_; (try clear hb); (try clear hb2); (try clear hk); (try clear hi)))
        have n0_ := Aside0.mk (blk_drew BK165.out)
        have n1_ := Aside0.mk (below_drew1 HB.out)
        clear BK165
        clear HB
        have BK165 := n0_
        have HB := n1_
        clear n0_ n1_
        refine start_ (n := 23) (S := fun w' => w'.cell? ⟨gb165, 0, none⟩ = some (.string a1_0) ∧ w'.cell? ⟨gb165, 1, none⟩ = some (.int .i64 a1_1) ∧ w'.cell? ⟨gb165, 2, none⟩ = some (.int .i64 a1_2) ∧ w'.cell? ⟨gb165, 3, none⟩ = some (.int .i64 a1_3)) (ds := []) #[false, false, false, false, false, false, false, false, false, false, false, false, false, false, false, false, false, false, false, false, false, false, false] (by kernel_rfl) rfl rfl ⟨(blk_cell BK165.out 0).trans rfl, (blk_cell BK165.out 1).trans rfl, (blk_cell BK165.out 2).trans rfl, (blk_cell BK165.out 3).trans rfl⟩ (fun hHeld => ?_); refine with_tabW hucksterlaw11_EscrowTells.tab4 hucksterlaw11_EscrowTells.bits4 (fun HT_ HW_ => ?_)
        generalize w17.drew = w18 at BK165 HB hHeld ⊢
        refine pure_ (i := 0) (N := some 23) (v := ?_) (a' := ?_) #[true, false, false, false, false, false, false, false, false, false, false, false, false, false, false, false, false, false, false, false, false, false, false] rfl rfl (any_of HT_.out (by kernel_rfl)) (fun _ _ _ h => h) (Or.inl ⟨by rfl, ?_⟩) ?_ ?_
        rotate_left
        · intro w'
          go_simp
          with_reducible rfl
        rotate_left
        · simp only [Act.put, List.setIfInBounds_toArray, List.set_cons_zero, List.set_cons_succ, i64_w, i32_w]
          rfl
        refine pure_ (i := 1) (N := some 24) (v := ?_) (a' := ?_) #[true, true, false, false, false, false, false, false, false, false, false, false, false, false, false, false, false, false, false, false, false, false, false] rfl rfl (any_of HT_.out (by kernel_rfl)) (fun _ _ _ h => h) (Or.inl ⟨by rfl, ?_⟩) ?_ ?_
        rotate_left
        · intro w'
          go_simp
          with_reducible rfl
        rotate_left
        · simp only [Act.put, List.setIfInBounds_toArray, List.set_cons_zero, List.set_cons_succ, i64_w, i32_w]
          rfl
        refine pure_ (i := 4) (N := some 27) (v := ?_) (a' := ?_) #[true, true, false, false, true, false, false, false, false, false, false, false, false, false, false, false, false, false, false, false, false, false, false] rfl rfl (any_of HT_.out (by kernel_rfl)) (fun _ _ _ h => h) (Or.inl ⟨by rfl, ?_⟩) ?_ ?_
        rotate_left
        · intro w'
          go_simp
          with_reducible rfl
        rotate_left
        · simp only [Act.put, List.setIfInBounds_toArray, List.set_cons_zero, List.set_cons_succ, i64_w, i32_w]
          rfl
        refine pure_ (i := 5) (N := some 28) (v := ?_) (a' := ?_) #[true, true, false, false, true, true, false, false, false, false, false, false, false, false, false, false, false, false, false, false, false, false, false] rfl rfl (any_of HT_.out (by kernel_rfl)) (fun _ _ _ h => h) (Or.inl ⟨by rfl, ?_⟩) ?_ ?_
        rotate_left
        · intro w'
          go_simp
          with_reducible rfl
        rotate_left
        · simp only [Act.put, List.setIfInBounds_toArray, List.set_cons_zero, List.set_cons_succ, i64_w, i32_w]
          rfl
        refine pure_ (i := 7) (N := some 30) (v := ?_) (a' := ?_) #[true, true, false, false, true, true, false, true, false, false, false, false, false, false, false, false, false, false, false, false, false, false, false] rfl rfl (any_of HT_.out (by kernel_rfl)) (fun _ _ _ h => h) (Or.inl ⟨by rfl, ?_⟩) ?_ ?_
        rotate_left
        · intro w'
          go_simp
          with_reducible rfl
        rotate_left
        · simp only [Act.put, List.setIfInBounds_toArray, List.set_cons_zero, List.set_cons_succ, i64_w, i32_w]
          rfl
        refine pure_ (i := 9) (N := some 32) (v := ?_) (a' := ?_) #[true, true, false, false, true, true, false, true, false, true, false, false, false, false, false, false, false, false, false, false, false, false, false] rfl rfl (any_of HT_.out (by kernel_rfl)) (fun _ _ _ h => h) (Or.inl ⟨by rfl, ?_⟩) ?_ ?_
        rotate_left
        · intro w'
          go_simp
          with_reducible rfl
        rotate_left
        · simp only [Act.put, List.setIfInBounds_toArray, List.set_cons_zero, List.set_cons_succ, i64_w, i32_w]
          rfl
        refine pure_ (i := 11) (N := some 34) (v := ?_) (a' := ?_) #[true, true, false, false, true, true, false, true, false, true, false, true, false, false, false, false, false, false, false, false, false, false, false] rfl rfl (any_of HT_.out (by kernel_rfl)) (fun _ _ _ h => h) (Or.inl ⟨by rfl, ?_⟩) ?_ ?_
        rotate_left
        · intro w'
          go_simp
          with_reducible rfl
        rotate_left
        · simp only [Act.put, List.setIfInBounds_toArray, List.set_cons_zero, List.set_cons_succ, i64_w, i32_w]
          rfl
        refine pure_ (i := 12) (N := some 35) (v := ?_) (a' := ?_) #[true, true, false, false, true, true, false, true, false, true, false, true, true, false, false, false, false, false, false, false, false, false, false] rfl rfl (any_of HT_.out (by kernel_rfl)) (fun _ _ _ h => h) (Or.inl ⟨by rfl, ?_⟩) ?_ ?_
        rotate_left
        · intro w'
          go_simp
          with_reducible rfl
        rotate_left
        · simp only [Act.put, List.setIfInBounds_toArray, List.set_cons_zero, List.set_cons_succ, i64_w, i32_w]
          rfl
        refine pure_ (i := 14) (N := some 37) (v := ?_) (a' := ?_) #[true, true, false, false, true, true, false, true, false, true, false, true, true, false, true, false, false, false, false, false, false, false, false] rfl rfl (any_of HT_.out (by kernel_rfl)) (fun _ _ _ h => h) (Or.inl ⟨by rfl, ?_⟩) ?_ ?_
        rotate_left
        · intro w'
          go_simp
          with_reducible rfl
        rotate_left
        · simp only [Act.put, List.setIfInBounds_toArray, List.set_cons_zero, List.set_cons_succ, i64_w, i32_w]
          rfl
        refine pure_ (i := 16) (N := some 39) (v := ?_) (a' := ?_) #[true, true, false, false, true, true, false, true, false, true, false, true, true, false, true, false, true, false, false, false, false, false, false] rfl rfl (any_of HT_.out (by kernel_rfl)) (fun _ _ _ h => h) (Or.inl ⟨by rfl, ?_⟩) ?_ ?_
        rotate_left
        · intro w'
          go_simp
          with_reducible rfl
        rotate_left
        · simp only [Act.put, List.setIfInBounds_toArray, List.set_cons_zero, List.set_cons_succ, i64_w, i32_w]
          rfl
        refine pure_ (i := 17) (N := some 40) (v := ?_) (a' := ?_) #[true, true, false, false, true, true, false, true, false, true, false, true, true, false, true, false, true, true, false, false, false, false, false] rfl rfl (any_of HT_.out (by kernel_rfl)) (fun _ _ _ h => h) (Or.inl ⟨by rfl, ?_⟩) ?_ ?_
        rotate_left
        · intro w'
          go_simp
          with_reducible rfl
        rotate_left
        · simp only [Act.put, List.setIfInBounds_toArray, List.set_cons_zero, List.set_cons_succ, i64_w, i32_w]
          rfl
        refine take_ (i := 2) (N := some 25) (v := ?_) (a' := ?_) #[true, true, true, false, true, true, false, true, false, true, false, true, true, false, true, false, true, true, false, false, false, false, false] rfl rfl (take_ofW HT_.out HW_.out (by kernel_rfl)) (fun _ _ _ h => h) (Or.inl ⟨by rfl, ?_⟩) hHeld ?_ ?_
        rotate_left
        · rintro w' ⟨s0, s1, s2, s3⟩
          go_simp
          with_reducible rfl
        rotate_left
        · simp only [Act.put, List.setIfInBounds_toArray, List.set_cons_zero, List.set_cons_succ, i64_w, i32_w]
          rfl
        refine take_ (i := 6) (N := some 29) (v := ?_) (a' := ?_) #[true, true, true, false, true, true, true, true, false, true, false, true, true, false, true, false, true, true, false, false, false, false, false] rfl rfl (take_ofW HT_.out HW_.out (by kernel_rfl)) (fun _ _ _ h => h) (Or.inl ⟨by rfl, ?_⟩) hHeld ?_ ?_
        rotate_left
        · rintro w' ⟨s0, s1, s2, s3⟩
          go_simp
          with_reducible rfl
        rotate_left
        · simp only [Act.put, List.setIfInBounds_toArray, List.set_cons_zero, List.set_cons_succ, i64_w, i32_w]
          rfl
        refine take_ (i := 8) (N := some 31) (v := ?_) (a' := ?_) #[true, true, true, false, true, true, true, true, true, true, false, true, true, false, true, false, true, true, false, false, false, false, false] rfl rfl (take_ofW HT_.out HW_.out (by kernel_rfl)) (fun _ _ _ h => h) (Or.inl ⟨by rfl, ?_⟩) hHeld ?_ ?_
        rotate_left
        · rintro w' ⟨s0, s1, s2, s3⟩
          go_simp
          with_reducible rfl
        rotate_left
        · simp only [Act.put, List.setIfInBounds_toArray, List.set_cons_zero, List.set_cons_succ, i64_w, i32_w]
          rfl
        refine take_ (i := 13) (N := some 36) (v := ?_) (a' := ?_) #[true, true, true, false, true, true, true, true, true, true, false, true, true, true, true, false, true, true, false, false, false, false, false] rfl rfl (take_ofW HT_.out HW_.out (by kernel_rfl)) (fun _ _ _ h => h) (Or.inl ⟨by rfl, ?_⟩) hHeld ?_ ?_
        rotate_left
        · rintro w' ⟨s0, s1, s2, s3⟩
          go_simp
          with_reducible rfl
        rotate_left
        · simp only [Act.put, List.setIfInBounds_toArray, List.set_cons_zero, List.set_cons_succ, i64_w, i32_w]
          rfl
        refine take_ (i := 15) (N := some 38) (v := ?_) (a' := ?_) #[true, true, true, false, true, true, true, true, true, true, false, true, true, true, true, true, true, true, false, false, false, false, false] rfl rfl (take_ofW HT_.out HW_.out (by kernel_rfl)) (fun _ _ _ h => h) (Or.inl ⟨by rfl, ?_⟩) hHeld ?_ ?_
        rotate_left
        · rintro w' ⟨s0, s1, s2, s3⟩
          go_simp
          with_reducible rfl
        rotate_left
        · simp only [Act.put, List.setIfInBounds_toArray, List.set_cons_zero, List.set_cons_succ, i64_w, i32_w]
          rfl
        refine take_ (i := 18) (N := some 41) (v := ?_) (a' := ?_) #[true, true, true, false, true, true, true, true, true, true, false, true, true, true, true, true, true, true, true, false, false, false, false] rfl rfl (take_ofW HT_.out HW_.out (by kernel_rfl)) (fun _ _ _ h => h) (Or.inl ⟨by rfl, ?_⟩) hHeld ?_ ?_
        rotate_left
        · rintro w' ⟨s0, s1, s2, s3⟩
          go_simp
          with_reducible rfl
        rotate_left
        · simp only [Act.put, List.setIfInBounds_toArray, List.set_cons_zero, List.set_cons_succ, i64_w, i32_w]
          rfl
        refine one_ (i := 3) (N := some 26) #[true, true, true, true, true, true, true, true, true, true, false, true, true, true, true, true, true, true, true, false, false, false, false] rfl rfl (one_of HT_.out (by kernel_rfl)) (by decide) (fun K hK => ?_)
        refine goes_ Try.func50 (by kernel_rfl) rfl #[.slice A0 l0.length c0, .string a1_0] (by rfl) rfl rfl (by (try simp only [List.map_toArray, List.map_cons, List.map_nil]); first | done | rfl | (simp only [List.length_drop, List.length_take]; rfl)) ?_
        with_reducible refine (escrow_Number.calls _ _ l0 a1_0 t169 _ ?side1 ?side2 A13.out).mono ?_
        (case side1 => repeat (first | exact (Kd.C_below HR0.out HB.out) | (with_reducible refine Kd.C_alloc ?_ _) | (with_reducible refine Kd.C_drewN ?_ _) | (with_reducible refine Kd.C_drew ?_)))
        (case side2 => exact HC0.out)
        rintro e w19 ⟨rfl, hb⟩
        refine ⟨_, rfl, ?_⟩
        have n0_ := Aside0.mk (blk_below (g := gb165) (o := .cells #[.string a1_0, .int .i64 a1_1, .int .i64 a1_2, .int .i64 a1_3] 61 (0, 0)) (by (with_reducible repeat (first | refine blk_drewN ?_ _ | refine blk_drew ?_ | refine blk_alloc ?_ _)); exact BK165.out) hb)
        have n1_ := Aside0.mk (below_step (by repeat (first | (with_reducible first | exact HB.out | apply below_alloc | apply pw_below_drewN | apply below_drew1 | refine below_set ?_ GE165.out) | exact HB.out)) hb)
        clear BK165
        clear HB
        have BK165 := n0_
        have HB := n1_
        clear n0_ n1_
        (try clear hb)
        (try clear hb2)
        (try clear hk)
        (try clear hi)
        refine hK.out _ _ ⟨(blk_cell BK165.out 0).trans rfl, (blk_cell BK165.out 1).trans rfl, (blk_cell BK165.out 2).trans rfl, (blk_cell BK165.out 3).trans rfl⟩ (fun hHeld => ?_)
        clear hK K
        refine norm_ (a' := ?_) ?_ ?_
        rotate_left
        · show Act.put _ (some 26) _ = _
          simp only [Act.put, List.setIfInBounds_toArray, List.set_cons_zero, List.set_cons_succ, i64_w, i32_w]
          rfl
        refine one_ (i := 10) (N := some 33) #[true, true, true, true, true, true, true, true, true, true, true, true, true, true, true, true, true, true, true, false, false, false, false] rfl rfl (one_of HT_.out (by kernel_rfl)) (by decide) (fun K hK => ?_)
        refine goes_ Try.func51 (by kernel_rfl) rfl #[.slice A0 l0.length c0, .string a1_0, .int .i64 a1_1, .int .i64 a2] (by rfl) rfl rfl (by (try simp only [List.map_toArray, List.map_cons, List.map_nil]); first | done | rfl | (simp only [List.length_drop, List.length_take]; rfl)) ?_
        with_reducible refine (escrow_Rights.calls _ _ l0 a1_0 a1_1 a2 t170 _ ?side1 ?side2 A14.out).mono ?_
        (case side1 => repeat (first | exact (Kd.C_below HR0.out HB.out) | (with_reducible refine Kd.C_alloc ?_ _) | (with_reducible refine Kd.C_drewN ?_ _) | (with_reducible refine Kd.C_drew ?_)))
        (case side2 => exact HC0.out)
        rintro e w20 ⟨rfl, hb⟩
        refine ⟨_, rfl, ?_⟩
        have n0_ := Aside0.mk (blk_below (g := gb165) (o := .cells #[.string a1_0, .int .i64 a1_1, .int .i64 a1_2, .int .i64 a1_3] 61 (0, 0)) (by (with_reducible repeat (first | refine blk_drewN ?_ _ | refine blk_drew ?_ | refine blk_alloc ?_ _)); exact BK165.out) hb)
        have n1_ := Aside0.mk (below_step (by repeat (first | (with_reducible first | exact HB.out | apply below_alloc | apply pw_below_drewN | apply below_drew1 | refine below_set ?_ GE165.out) | exact HB.out)) hb)
        clear BK165
        clear HB
        have BK165 := n0_
        have HB := n1_
        clear n0_ n1_
        (try clear hb)
        (try clear hb2)
        (try clear hk)
        (try clear hi)
        refine hK.out _ _ ⟨(blk_cell BK165.out 0).trans rfl, (blk_cell BK165.out 1).trans rfl, (blk_cell BK165.out 2).trans rfl, (blk_cell BK165.out 3).trans rfl⟩ (fun hHeld => ?_)
        clear hK K
        refine norm_ (a' := ?_) ?_ ?_
        rotate_left
        · show Act.put _ (some 33) _ = _
          simp only [Act.put, List.setIfInBounds_toArray, List.set_cons_zero, List.set_cons_succ, i64_w, i32_w]
          rfl
        refine one_ (i := 19) (N := some 42) #[true, true, true, true, true, true, true, true, true, true, true, true, true, true, true, true, true, true, true, true, false, false, false] rfl rfl (one_of HT_.out (by kernel_rfl)) (by decide) (fun K hK => ?_)
        refine goes_ Try.func49 (by kernel_rfl) rfl #[.slice A0 l0.length c0, .string a1_0, .int .i64 a1_1, .int .i64 a2, .int .i64 a1_3] (by rfl) rfl rfl (by (try simp only [List.map_toArray, List.map_cons, List.map_nil]); first | done | rfl | (simp only [List.length_drop, List.length_take]; rfl)) ?_
        with_reducible refine (escrow_May.calls kj3 _ _ l0 a1_0 a1_1 a2 a1_3 t171 _ ?side1 ?side2 A15.out).mono ?_
        (case side1 => repeat (first | exact (Kd.C_below HR0.out HB.out) | (with_reducible refine Kd.C_alloc ?_ _) | (with_reducible refine Kd.C_drewN ?_ _) | (with_reducible refine Kd.C_drew ?_)))
        (case side2 => exact HC0.out)
        rintro e w21 ⟨rfl, hb⟩
        refine ⟨_, rfl, ?_⟩
        have n0_ := Aside0.mk (blk_below (g := gb165) (o := .cells #[.string a1_0, .int .i64 a1_1, .int .i64 a1_2, .int .i64 a1_3] 61 (0, 0)) (by (with_reducible repeat (first | refine blk_drewN ?_ _ | refine blk_drew ?_ | refine blk_alloc ?_ _)); exact BK165.out) hb)
        have n1_ := Aside0.mk (below_step (by repeat (first | (with_reducible first | exact HB.out | apply below_alloc | apply pw_below_drewN | apply below_drew1 | refine below_set ?_ GE165.out) | exact HB.out)) hb)
        clear BK165
        clear HB
        have BK165 := n0_
        have HB := n1_
        clear n0_ n1_
        (try clear hb)
        (try clear hb2)
        (try clear hk)
        (try clear hi)
        refine hK.out _ _ ⟨(blk_cell BK165.out 0).trans rfl, (blk_cell BK165.out 1).trans rfl, (blk_cell BK165.out 2).trans rfl, (blk_cell BK165.out 3).trans rfl⟩ (fun hHeld => ?_)
        clear hK K
        refine norm_ (a' := ?_) ?_ ?_
        rotate_left
        · show Act.put _ (some 42) _ = _
          simp only [Act.put, List.setIfInBounds_toArray, List.set_cons_zero, List.set_cons_succ, i64_w, i32_w]
          rfl
        refine pure_ (i := 20) (N := some 8) (v := ?_) (a' := ?_) #[true, true, true, true, true, true, true, true, true, true, true, true, true, true, true, true, true, true, true, true, true, false, false] rfl rfl (any_of HT_.out (by kernel_rfl)) (fun _ _ _ h => h) (Or.inl ⟨by rfl, ?_⟩) ?_ ?_
        rotate_left
        · intro w'
          go_simp
          with_reducible rfl
        rotate_left
        · simp only [Act.put, List.setIfInBounds_toArray, List.set_cons_zero, List.set_cons_succ, i64_w, i32_w]
          rfl
        refine pure_ (i := 21) (N := some 9) (v := ?_) (a' := ?_) #[true, true, true, true, true, true, true, true, true, true, true, true, true, true, true, true, true, true, true, true, true, true, false] rfl rfl (any_of HT_.out (by kernel_rfl)) (fun _ _ _ h => h) (Or.inl ⟨by rfl, ?_⟩) ?_ ?_
        rotate_left
        · intro w'
          go_simp
          with_reducible rfl
        rotate_left
        · simp only [Act.put, List.setIfInBounds_toArray, List.set_cons_zero, List.set_cons_succ, i64_w, i32_w]
          rfl
        refine pure_ (i := 22) (N := some 10) (v := ?_) (a' := ?_) #[true, true, true, true, true, true, true, true, true, true, true, true, true, true, true, true, true, true, true, true, true, true, true] rfl rfl (any_of HT_.out (by kernel_rfl)) (fun _ _ _ h => h) (Or.inl ⟨by rfl, ?_⟩) ?_ ?_
        rotate_left
        · intro w'
          go_simp
          with_reducible rfl
        rotate_left
        · simp only [Act.put, List.setIfInBounds_toArray, List.set_cons_zero, List.set_cons_succ, i64_w, i32_w]
          rfl
        refine done_ (done_of HT_.out (by kernel_rfl)) ?_
        go_upto_region 5 with (fail)
        go_cut [59] (fun v59 wc => ∃ (kq : Nat) (x59_15 : Bool), v59 = .bool x59_15 ∧ Aside0 (hucksterlaw11_EscrowTells.j1 kq l0 a2 t168 t170 t171 x59_15 a1_0 a1_1 a1_2 a1_3 = some r) ∧ Aside0 (kq ≤ kj3) ∧ Aside0 (wc.heap[gb165]? = some (.cells #[.string a1_0, .int .i64 a1_1, .int .i64 a1_2, .int .i64 a1_3] 61 (0, 0))) ∧ Aside0 (Below w.heap.size w wc))
        case first =>
          have H := HC16.out
          clear HC16
          by_cases c22 : t168 = true
          · subst c22
            have H1 : ((hucksterref11_Number.f kj3 l0 a1_0).bind fun t172 => (hucksterlaw11_EscrowTells.j1 kj3 l0 a2 true t170 t171 (t169 != t172) a1_0 a1_1 a1_2 a1_3)) = some r := by rw [if_pos rfl] at H; exact H
            clear H
            have H := H1
            clear H1
            replace H := Option.bind_eq_some_iff.mp H
            obtain ⟨t172, A230, H⟩ := H
            replace H : (hucksterlaw11_EscrowTells.j1 kj3 l0 a2 true t170 t171 (t169 != t172) a1_0 a1_1 a1_2 a1_3) = some r := H
            have A23 := Aside0.mk A230
            clear A230
            have H' := Aside0.mk H
            clear H
            have hcz24_0 : w21.cell? ⟨gb165, 0, none⟩ = some (.string a1_0) := (blk_cell BK165.out 0).trans rfl
            have hcz24_1 : w21.cell? ⟨gb165, 1, none⟩ = some (.int .i64 a1_1) := (blk_cell BK165.out 1).trans rfl
            have hcz24_2 : w21.cell? ⟨gb165, 2, none⟩ = some (.int .i64 a1_2) := (blk_cell BK165.out 2).trans rfl
            have hcz24_3 : w21.cell? ⟨gb165, 3, none⟩ = some (.int .i64 a1_3) := (blk_cell BK165.out 3).trans rfl
            have hfz24_0 := blk_frozen BK165.out 0
            have hfz24_1 := blk_frozen BK165.out 1
            have hfz24_2 := blk_frozen BK165.out 2
            have hfz24_3 := blk_frozen BK165.out 3
            go_wp2_with (first | (go_at_call 52; (with_reducible refine (hucksterref11_Number.calls kj3 _ _ l0 a1_0 t172 _ ?side1 ?side2 A23.out).mono ?_); (case side1 => repeat (first | exact (Kd.C_below HR0.out HB.out) | (with_reducible refine Kd.C_alloc ?_ _) | (with_reducible refine Kd.C_drewN ?_ _) | (with_reducible refine Kd.C_drew ?_))); (case side2 => exact HC0.out); rintro e w' ⟨rfl, ⟨nd, rfl⟩⟩))
            go_meet
            case rel => exact ⟨_, ((t169 != t172)), (by first | rfl | (simp; done) | (simp [*]; done)), H', ⟨by have := HJ3.out; first | omega | exact Nat.le_refl _⟩, ⟨by (with_reducible repeat (first | refine blk_drewN ?_ _ | refine blk_drew ?_ | refine blk_alloc ?_ _)); exact BK165.out⟩, ⟨by repeat (first | (with_reducible first | exact HB.out | apply below_alloc | apply pw_below_drewN | apply below_drew1 | refine below_set ?_ GE165.out) | exact HB.out)⟩⟩
          · replace c22 := Bool.eq_false_iff.mpr c22
            subst c22
            have H1 : (if t169 = 0 then (hucksterlaw11_EscrowTells.j1 kj3 l0 a2 false t170 t171 false a1_0 a1_1 a1_2 a1_3) else (hucksterlaw11_EscrowTells.j1 kj3 l0 a2 false t170 t171 true a1_0 a1_1 a1_2 a1_3)) = some r := by rw [if_neg (show ¬ (false = true) by decide)] at H; exact H
            clear H
            have H := H1
            clear H1
            by_cases c25 : t169 = 0
            · rw [if_pos c25] at H
              have c25b0 : (t169 == 0) = true := beq_iff_eq.mpr c25
              have c25b1 : (t169 != 0) = false := bne_eq_false_iff_eq.mpr c25
              clear c25
              (first | rw [c25b0] | (simp only [i64_w, i32_w]; rw [c25b0]) | skip)
              have H' := Aside0.mk H
              clear H
              go_wp2
              go_meet
              case rel => exact ⟨_, (false), (by first | rfl | (simp; done) | (simp [*]; done)), H', ⟨by have := HJ3.out; first | omega | exact Nat.le_refl _⟩, ⟨by (with_reducible repeat (first | refine blk_drewN ?_ _ | refine blk_drew ?_ | refine blk_alloc ?_ _)); exact BK165.out⟩, ⟨by repeat (first | (with_reducible first | exact HB.out | apply below_alloc | apply pw_below_drewN | apply below_drew1 | refine below_set ?_ GE165.out) | exact HB.out)⟩⟩
            · rw [if_neg c25] at H
              have c25b0 : (t169 == 0) = false := beq_eq_false_iff_ne.mpr c25
              have c25b1 : (t169 != 0) = true := bne_iff_ne.mpr c25
              (first | rw [c25b0] | (simp only [i64_w, i32_w]; rw [c25b0]) | skip)
              have H' := Aside0.mk H
              clear H
              go_wp2
              go_meet
              case rel => exact ⟨_, (true), (by first | rfl | (simp; done) | (simp [*]; done)), H', ⟨by have := HJ3.out; first | omega | exact Nat.le_refl _⟩, ⟨by (with_reducible repeat (first | refine blk_drewN ?_ _ | refine blk_drew ?_ | refine blk_alloc ?_ _)); exact BK165.out⟩, ⟨by repeat (first | (with_reducible first | exact HB.out | apply below_alloc | apply pw_below_drewN | apply below_drew1 | refine below_set ?_ GE165.out) | exact HB.out)⟩⟩
        case rest =>
          clear HC16
          try clear c1
          try clear c2
          try clear p2
          try clear c3
          try clear c4
          try clear c5
          try clear c7
          try clear c9
          try clear c13
          try clear c22
          try clear c25
          try clear c25b0
          try clear c25b1
          try clear hcz24_0
          try clear hcz24_1
          try clear hcz24_2
          try clear hcz24_3
          try clear hcz8_0
          try clear hcz8_1
          try clear hcz8_2
          try clear hcz8_3
          try clear hfz24_0
          try clear hfz24_1
          try clear hfz24_2
          try clear hfz24_3
          try clear hfz8_0
          try clear hfz8_1
          try clear hfz8_2
          try clear hfz8_3
          try clear p2
          obtain ⟨kq, x59_15, rfl, HA, HJ15, BK165, HB⟩ := hcut
          cases kq with
          | zero => exact absurd HA.out (by simp [hucksterlaw11_EscrowTells.j1])
          | succ kj15 =>
            have H := HA.out
            clear HA
            simp only [hucksterlaw11_EscrowTells.j1] at H
            by_cases c26 : x59_15 = true
            · subst c26
              have H1 : (some false) = some r := by rw [if_pos rfl] at H; exact H
              clear H
              have H := H1
              clear H1
              obtain rfl := Option.some.inj H
              go_wp2
              go_ret
              exact ⟨by first | rfl | (simp [errW_none, errW_some] <;> rfl) | (simp [*, errW_none, errW_some] <;> rfl), by repeat (first | (with_reducible first | exact HB.out | apply below_alloc | apply pw_below_drewN | apply below_drew1 | refine below_set ?_ GE165.out) | exact HB.out)⟩
            · replace c26 := Bool.eq_false_iff.mpr c26
              subst c26
              have H1 : (if t168 = true then ((hucksterlaw11_there.f a1_1).bind fun t173 => (if t173 = true then (if a2 > 0 then (hucksterlaw11_EscrowTells.j2 kj15 l0 a2 t170 t171 true a1_0 a1_1 a1_2 a1_3) else (hucksterlaw11_EscrowTells.j2 kj15 l0 a2 t170 t171 (decide (a2 < (-1000))) a1_0 a1_1 a1_2 a1_3)) else (hucksterlaw11_EscrowTells.j2 kj15 l0 a2 t170 t171 true a1_0 a1_1 a1_2 a1_3))) else (hucksterlaw11_EscrowTells.j2 kj15 l0 a2 t170 t171 true a1_0 a1_1 a1_2 a1_3)) = some r := by rw [if_neg (show ¬ (false = true) by decide)] at H; exact H
              clear H
              have H := H1
              clear H1
              have HC27 := Aside0.mk H
              clear H
              go_upto_region 7 with (fail)
              go_cut [75] (fun v75 wc => ∃ (kq : Nat) (x75_26 : Bool), v75 = .bool x75_26 ∧ Aside0 (hucksterlaw11_EscrowTells.j2 kq l0 a2 t170 t171 x75_26 a1_0 a1_1 a1_2 a1_3 = some r) ∧ Aside0 (kq ≤ kj15) ∧ Aside0 (wc.heap[gb165]? = some (.cells #[.string a1_0, .int .i64 a1_1, .int .i64 a1_2, .int .i64 a1_3] 61 (0, 0))) ∧ Aside0 (Below w.heap.size w wc))
              case first =>
                have H := HC27.out
                clear HC27
                by_cases c28 : t168 = true
                · subst c28
                  have H1 : ((hucksterlaw11_there.f a1_1).bind fun t173 => (if t173 = true then (if a2 > 0 then (hucksterlaw11_EscrowTells.j2 kj15 l0 a2 t170 t171 true a1_0 a1_1 a1_2 a1_3) else (hucksterlaw11_EscrowTells.j2 kj15 l0 a2 t170 t171 (decide (a2 < (-1000))) a1_0 a1_1 a1_2 a1_3)) else (hucksterlaw11_EscrowTells.j2 kj15 l0 a2 t170 t171 true a1_0 a1_1 a1_2 a1_3))) = some r := by rw [if_pos rfl] at H; exact H
                  clear H
                  have H := H1
                  clear H1
                  replace H := Option.bind_eq_some_iff.mp H
                  obtain ⟨t173, A290, H⟩ := H
                  replace H : (if t173 = true then (if a2 > 0 then (hucksterlaw11_EscrowTells.j2 kj15 l0 a2 t170 t171 true a1_0 a1_1 a1_2 a1_3) else (hucksterlaw11_EscrowTells.j2 kj15 l0 a2 t170 t171 (decide (a2 < (-1000))) a1_0 a1_1 a1_2 a1_3)) else (hucksterlaw11_EscrowTells.j2 kj15 l0 a2 t170 t171 true a1_0 a1_1 a1_2 a1_3)) = some r := H
                  have A29 := Aside0.mk A290
                  clear A290
                  by_cases c30 : t173 = true
                  · subst c30
                    have H1 : (if a2 > 0 then (hucksterlaw11_EscrowTells.j2 kj15 l0 a2 t170 t171 true a1_0 a1_1 a1_2 a1_3) else (hucksterlaw11_EscrowTells.j2 kj15 l0 a2 t170 t171 (decide (a2 < (-1000))) a1_0 a1_1 a1_2 a1_3)) = some r := by rw [if_pos rfl] at H; exact H
                    clear H
                    have H := H1
                    clear H1
                    by_cases c31 : a2 > 0
                    · rw [if_pos c31] at H
                      have c31b0 : decide (0 < a2) = true := decide_eq_true c31
                      clear c31
                      (first | rw [c31b0] | (simp only [i64_w, i32_w]; rw [c31b0]) | skip)
                      have H' := Aside0.mk H
                      clear H
                      have hcz32_0 : wc.cell? ⟨gb165, 0, none⟩ = some (.string a1_0) := (blk_cell BK165.out 0).trans rfl
                      have hcz32_1 : wc.cell? ⟨gb165, 1, none⟩ = some (.int .i64 a1_1) := (blk_cell BK165.out 1).trans rfl
                      have hcz32_2 : wc.cell? ⟨gb165, 2, none⟩ = some (.int .i64 a1_2) := (blk_cell BK165.out 2).trans rfl
                      have hcz32_3 : wc.cell? ⟨gb165, 3, none⟩ = some (.int .i64 a1_3) := (blk_cell BK165.out 3).trans rfl
                      have hfz32_0 := blk_frozen BK165.out 0
                      have hfz32_1 := blk_frozen BK165.out 1
                      have hfz32_2 := blk_frozen BK165.out 2
                      have hfz32_3 := blk_frozen BK165.out 3
                      go_wp2_with (first | (go_at_call 44; (with_reducible refine (hucksterlaw11_there.calls a1_1 true _ A29.out).mono ?_); rintro e w' ⟨rfl, ⟨nd, rfl⟩⟩))
                      go_meet
                      case rel => exact ⟨_, (true), (by first | rfl | (simp; done) | (simp [*]; done)), H', ⟨by have := HJ3.out; have := HJ15.out; first | omega | exact Nat.le_refl _⟩, ⟨by (with_reducible repeat (first | refine blk_drewN ?_ _ | refine blk_drew ?_ | refine blk_alloc ?_ _)); exact BK165.out⟩, ⟨by repeat (first | (with_reducible first | exact HB.out | apply below_alloc | apply pw_below_drewN | apply below_drew1 | refine below_set ?_ GE165.out) | exact HB.out)⟩⟩
                    · rw [if_neg c31] at H
                      have c31b0 : decide (0 < a2) = false := decide_eq_false c31
                      clear c31
                      (first | rw [c31b0] | (simp only [i64_w, i32_w]; rw [c31b0]) | skip)
                      have H' := Aside0.mk H
                      clear H
                      have hcz33_0 : wc.cell? ⟨gb165, 0, none⟩ = some (.string a1_0) := (blk_cell BK165.out 0).trans rfl
                      have hcz33_1 : wc.cell? ⟨gb165, 1, none⟩ = some (.int .i64 a1_1) := (blk_cell BK165.out 1).trans rfl
                      have hcz33_2 : wc.cell? ⟨gb165, 2, none⟩ = some (.int .i64 a1_2) := (blk_cell BK165.out 2).trans rfl
                      have hcz33_3 : wc.cell? ⟨gb165, 3, none⟩ = some (.int .i64 a1_3) := (blk_cell BK165.out 3).trans rfl
                      have hfz33_0 := blk_frozen BK165.out 0
                      have hfz33_1 := blk_frozen BK165.out 1
                      have hfz33_2 := blk_frozen BK165.out 2
                      have hfz33_3 := blk_frozen BK165.out 3
                      go_wp2_with (first | (go_at_call 44; (with_reducible refine (hucksterlaw11_there.calls a1_1 true _ A29.out).mono ?_); rintro e w' ⟨rfl, ⟨nd, rfl⟩⟩))
                      go_meet
                      case rel => exact ⟨_, (decide (a2 < (-1000))), (by first | rfl | (simp; done) | (simp [*]; done)), H', ⟨by have := HJ3.out; have := HJ15.out; first | omega | exact Nat.le_refl _⟩, ⟨by (with_reducible repeat (first | refine blk_drewN ?_ _ | refine blk_drew ?_ | refine blk_alloc ?_ _)); exact BK165.out⟩, ⟨by repeat (first | (with_reducible first | exact HB.out | apply below_alloc | apply pw_below_drewN | apply below_drew1 | refine below_set ?_ GE165.out) | exact HB.out)⟩⟩
                  · replace c30 := Bool.eq_false_iff.mpr c30
                    subst c30
                    have H1 : (hucksterlaw11_EscrowTells.j2 kj15 l0 a2 t170 t171 true a1_0 a1_1 a1_2 a1_3) = some r := by rw [if_neg (show ¬ (false = true) by decide)] at H; exact H
                    clear H
                    have H := H1
                    clear H1
                    have H' := Aside0.mk H
                    clear H
                    have hcz34_0 : wc.cell? ⟨gb165, 0, none⟩ = some (.string a1_0) := (blk_cell BK165.out 0).trans rfl
                    have hcz34_1 : wc.cell? ⟨gb165, 1, none⟩ = some (.int .i64 a1_1) := (blk_cell BK165.out 1).trans rfl
                    have hcz34_2 : wc.cell? ⟨gb165, 2, none⟩ = some (.int .i64 a1_2) := (blk_cell BK165.out 2).trans rfl
                    have hcz34_3 : wc.cell? ⟨gb165, 3, none⟩ = some (.int .i64 a1_3) := (blk_cell BK165.out 3).trans rfl
                    have hfz34_0 := blk_frozen BK165.out 0
                    have hfz34_1 := blk_frozen BK165.out 1
                    have hfz34_2 := blk_frozen BK165.out 2
                    have hfz34_3 := blk_frozen BK165.out 3
                    go_wp2_with (first | (go_at_call 44; (with_reducible refine (hucksterlaw11_there.calls a1_1 false _ A29.out).mono ?_); rintro e w' ⟨rfl, ⟨nd, rfl⟩⟩))
                    go_meet
                    case rel => exact ⟨_, (true), (by first | rfl | (simp; done) | (simp [*]; done)), H', ⟨by have := HJ3.out; have := HJ15.out; first | omega | exact Nat.le_refl _⟩, ⟨by (with_reducible repeat (first | refine blk_drewN ?_ _ | refine blk_drew ?_ | refine blk_alloc ?_ _)); exact BK165.out⟩, ⟨by repeat (first | (with_reducible first | exact HB.out | apply below_alloc | apply pw_below_drewN | apply below_drew1 | refine below_set ?_ GE165.out) | exact HB.out)⟩⟩
                · replace c28 := Bool.eq_false_iff.mpr c28
                  subst c28
                  have H1 : (hucksterlaw11_EscrowTells.j2 kj15 l0 a2 t170 t171 true a1_0 a1_1 a1_2 a1_3) = some r := by rw [if_neg (show ¬ (false = true) by decide)] at H; exact H
                  clear H
                  have H := H1
                  clear H1
                  have H' := Aside0.mk H
                  clear H
                  go_wp2
                  go_meet
                  case rel => exact ⟨_, (true), (by first | rfl | (simp; done) | (simp [*]; done)), H', ⟨by have := HJ3.out; have := HJ15.out; first | omega | exact Nat.le_refl _⟩, ⟨by (with_reducible repeat (first | refine blk_drewN ?_ _ | refine blk_drew ?_ | refine blk_alloc ?_ _)); exact BK165.out⟩, ⟨by repeat (first | (with_reducible first | exact HB.out | apply below_alloc | apply pw_below_drewN | apply below_drew1 | refine below_set ?_ GE165.out) | exact HB.out)⟩⟩
              case rest =>
                clear HC27
                try clear c1
                try clear c2
                try clear p2
                try clear c3
                try clear c4
                try clear c5
                try clear c7
                try clear c9
                try clear c13
                try clear c22
                try clear c25
                try clear c25b0
                try clear c25b1
                try clear c26
                try clear c28
                try clear c30
                try clear c31
                try clear c31b0
                try clear hcz24_0
                try clear hcz24_1
                try clear hcz24_2
                try clear hcz24_3
                try clear hcz32_0
                try clear hcz32_1
                try clear hcz32_2
                try clear hcz32_3
                try clear hcz33_0
                try clear hcz33_1
                try clear hcz33_2
                try clear hcz33_3
                try clear hcz34_0
                try clear hcz34_1
                try clear hcz34_2
                try clear hcz34_3
                try clear hcz8_0
                try clear hcz8_1
                try clear hcz8_2
                try clear hcz8_3
                try clear hfz24_0
                try clear hfz24_1
                try clear hfz24_2
                try clear hfz24_3
                try clear hfz32_0
                try clear hfz32_1
                try clear hfz32_2
                try clear hfz32_3
                try clear hfz33_0
                try clear hfz33_1
                try clear hfz33_2
                try clear hfz33_3
                try clear hfz34_0
                try clear hfz34_1
                try clear hfz34_2
                try clear hfz34_3
                try clear hfz8_0
                try clear hfz8_1
                try clear hfz8_2
                try clear hfz8_3
                try clear p2
                obtain ⟨kq, x75_26, rfl, HA, HJ26, BK165, HB⟩ := hcut
                cases kq with
                | zero => exact absurd HA.out (by simp [hucksterlaw11_EscrowTells.j2])
                | succ kj26 =>
                  have H := HA.out
                  clear HA
                  simp only [hucksterlaw11_EscrowTells.j2] at H
                  by_cases c35 : x75_26 = true
                  · subst c35
                    have H1 : (if t170 = 0 then (if t171 = 1 then ((hucksterlaw11_awake.f kj26).bind fun t174 => (some t174)) else (some false)) else (some false)) = some r := by rw [if_pos rfl] at H; exact H
                    clear H
                    have H := H1
                    clear H1
                    by_cases c36 : t170 = 0
                    · rw [if_pos c36] at H
                      have c36b0 : (t170 == 0) = true := beq_iff_eq.mpr c36
                      have c36b1 : (t170 != 0) = false := bne_eq_false_iff_eq.mpr c36
                      clear c36
                      by_cases c37 : t171 = 1
                      · rw [if_pos c37] at H
                        have c37b0 : (t171 == 1) = true := beq_iff_eq.mpr c37
                        have c37b1 : (t171 != 1) = false := bne_eq_false_iff_eq.mpr c37
                        clear c37
                        replace H := Option.bind_eq_some_iff.mp H
                        obtain ⟨t174, A380, H⟩ := H
                        replace H : (some t174) = some r := H
                        have A38 := Aside0.mk A380
                        clear A380
                        obtain rfl := Option.some.inj H
                        go_wp2_with (first | (go_at_call 40; (with_reducible refine (hucksterlaw11_awake.calls kj26  t174 _ A38.out).mono ?_); rintro e w39 ⟨rfl, hb⟩; have n0_ := Aside0.mk (blk_below (g := gb165) (o := .cells #[.string a1_0, .int .i64 a1_1, .int .i64 a1_2, .int .i64 a1_3] 61 (0, 0)) (by (with_reducible repeat (first | refine blk_drewN ?_ _ | refine blk_drew ?_ | refine blk_alloc ?_ _)); exact BK165.out) hb); have n1_ := Aside0.mk (below_step (by repeat (first | (with_reducible first | exact HB.out | apply below_alloc | apply pw_below_drewN | apply below_drew1 | refine below_set ?_ GE165.out) | exact HB.out)) hb); clear BK165; clear HB; have BK165 := n0_; have HB := n1_; clear n0_ n1_; (try clear hb); (try clear hb2); (try clear hk); (try clear hi)))
                        go_ret
                        exact ⟨by first | rfl | (simp [errW_none, errW_some] <;> rfl) | (simp [*, errW_none, errW_some] <;> rfl), by repeat (first | (with_reducible first | exact HB.out | apply below_alloc | apply pw_below_drewN | apply below_drew1 | refine below_set ?_ GE165.out) | exact HB.out)⟩
                      · rw [if_neg c37] at H
                        have c37b0 : (t171 == 1) = false := beq_eq_false_iff_ne.mpr c37
                        have c37b1 : (t171 != 1) = true := bne_iff_ne.mpr c37
                        obtain rfl := Option.some.inj H
                        go_wp2
                        go_ret
                        exact ⟨by first | rfl | (simp [errW_none, errW_some] <;> rfl) | (simp [*, errW_none, errW_some] <;> rfl), by repeat (first | (with_reducible first | exact HB.out | apply below_alloc | apply pw_below_drewN | apply below_drew1 | refine below_set ?_ GE165.out) | exact HB.out)⟩
                    · rw [if_neg c36] at H
                      have c36b0 : (t170 == 0) = false := beq_eq_false_iff_ne.mpr c36
                      have c36b1 : (t170 != 0) = true := bne_iff_ne.mpr c36
                      obtain rfl := Option.some.inj H
                      go_wp2
                      go_ret
                      exact ⟨by first | rfl | (simp [errW_none, errW_some] <;> rfl) | (simp [*, errW_none, errW_some] <;> rfl), by repeat (first | (with_reducible first | exact HB.out | apply below_alloc | apply pw_below_drewN | apply below_drew1 | refine below_set ?_ GE165.out) | exact HB.out)⟩
                  · replace c35 := Bool.eq_false_iff.mpr c35
                    subst c35
                    have H1 : ((hucksterref11_Rights.f l0 a1_0 a1_1 a2).bind fun t175 => (if t170 = t175 then (if a1_0.toList = ([] : List UInt8) then (hucksterlaw11_EscrowTells.j3 kj26 l0 t170 t171 true a1_0 a1_1 a1_2 a1_3) else (if (a1_0.size : Int) > 32 then (hucksterlaw11_EscrowTells.j3 kj26 l0 t170 t171 true a1_0 a1_1 a1_2 a1_3) else (if a1_3 < 1 then (hucksterlaw11_EscrowTells.j3 kj26 l0 t170 t171 true a1_0 a1_1 a1_2 a1_3) else (hucksterlaw11_EscrowTells.j3 kj26 l0 t170 t171 (decide (a1_3 > 1000)) a1_0 a1_1 a1_2 a1_3)))) else (some false))) = some r := by rw [if_neg (show ¬ (false = true) by decide)] at H; exact H
                    clear H
                    have H := H1
                    clear H1
                    replace H := Option.bind_eq_some_iff.mp H
                    obtain ⟨t175, A400, H⟩ := H
                    replace H : (if t170 = t175 then (if a1_0.toList = ([] : List UInt8) then (hucksterlaw11_EscrowTells.j3 kj26 l0 t170 t171 true a1_0 a1_1 a1_2 a1_3) else (if (a1_0.size : Int) > 32 then (hucksterlaw11_EscrowTells.j3 kj26 l0 t170 t171 true a1_0 a1_1 a1_2 a1_3) else (if a1_3 < 1 then (hucksterlaw11_EscrowTells.j3 kj26 l0 t170 t171 true a1_0 a1_1 a1_2 a1_3) else (hucksterlaw11_EscrowTells.j3 kj26 l0 t170 t171 (decide (a1_3 > 1000)) a1_0 a1_1 a1_2 a1_3)))) else (some false)) = some r := H
                    have A40 := Aside0.mk A400
                    clear A400
                    by_cases c41 : t170 = t175
                    · rw [if_pos c41] at H
                      have c41b0 : (t170 == t175) = true := beq_iff_eq.mpr c41
                      have c41b1 : (t170 != t175) = false := bne_eq_false_iff_eq.mpr c41
                      clear c41
                      have HC42 := Aside0.mk H
                      clear H
                      have hcz43_0 : wc.cell? ⟨gb165, 0, none⟩ = some (.string a1_0) := (blk_cell BK165.out 0).trans rfl
                      have hcz43_1 : wc.cell? ⟨gb165, 1, none⟩ = some (.int .i64 a1_1) := (blk_cell BK165.out 1).trans rfl
                      have hcz43_2 : wc.cell? ⟨gb165, 2, none⟩ = some (.int .i64 a1_2) := (blk_cell BK165.out 2).trans rfl
                      have hcz43_3 : wc.cell? ⟨gb165, 3, none⟩ = some (.int .i64 a1_3) := (blk_cell BK165.out 3).trans rfl
                      have hfz43_0 := blk_frozen BK165.out 0
                      have hfz43_1 := blk_frozen BK165.out 1
                      have hfz43_2 := blk_frozen BK165.out 2
                      have hfz43_3 := blk_frozen BK165.out 3
                      go_upto_region 11 with (first | ((with_reducible refine gate_callee (f := 53) rfl ?_); refine goesL_ (some 92) rfl rfl Try.func53 (by kernel_rfl) rfl #[.slice A0 l0.length c0, .string a1_0, .int .i64 a1_1, .int .i64 a2] rfl (by (try simp only [List.map_toArray, List.map_cons, List.map_nil]); first | done | rfl | (simp only [List.length_drop, List.length_take]; rfl)) ?_; (with_reducible refine (hucksterref11_Rights.calls _ _ l0 a1_0 a1_1 a2 t175 _ ?side1 ?side2 A40.out).mono ?_); (case side1 => repeat (first | exact (Kd.C_below HR0.out HB.out) | (with_reducible refine Kd.C_alloc ?_ _) | (with_reducible refine Kd.C_drewN ?_ _) | (with_reducible refine Kd.C_drew ?_))); (case side2 => exact HC0.out); rintro e w' ⟨rfl, ⟨nd, rfl⟩⟩; refine ⟨_, rfl, ?_⟩))
                      (try simp only [Act.put, List.setIfInBounds_toArray, List.set_cons_zero, List.set_cons_succ])
                      go_cut [112] (fun v112 wc => ∃ (kq : Nat) (x112_41 : Bool), v112 = .bool x112_41 ∧ Aside0 (hucksterlaw11_EscrowTells.j3 kq l0 t170 t171 x112_41 a1_0 a1_1 a1_2 a1_3 = some r) ∧ Aside0 (kq ≤ kj26) ∧ Aside0 (wc.heap[gb165]? = some (.cells #[.string a1_0, .int .i64 a1_1, .int .i64 a1_2, .int .i64 a1_3] 61 (0, 0))) ∧ Aside0 (Below w.heap.size w wc))
                      case first =>
                        have H := HC42.out
                        clear HC42
                        by_cases c44 : a1_0.toList = ([] : List UInt8)
                        · rw [if_pos c44] at H
                          have c44b0 : (a1_0.toList == ([] : List UInt8)) = true := beq_iff_eq.mpr c44
                          have c44b1 : (a1_0.toList != ([] : List UInt8)) = false := bne_eq_false_iff_eq.mpr c44
                          clear c44
                          (first | rw [c44b0] | (simp only [i64_w, i32_w]; rw [c44b0]) | skip)
                          have H' := Aside0.mk H
                          clear H
                          have hcz45_0 : wc.cell? ⟨gb165, 0, none⟩ = some (.string a1_0) := (blk_cell BK165.out 0).trans rfl
                          have hcz45_1 : wc.cell? ⟨gb165, 1, none⟩ = some (.int .i64 a1_1) := (blk_cell BK165.out 1).trans rfl
                          have hcz45_2 : wc.cell? ⟨gb165, 2, none⟩ = some (.int .i64 a1_2) := (blk_cell BK165.out 2).trans rfl
                          have hcz45_3 : wc.cell? ⟨gb165, 3, none⟩ = some (.int .i64 a1_3) := (blk_cell BK165.out 3).trans rfl
                          have hfz45_0 := blk_frozen BK165.out 0
                          have hfz45_1 := blk_frozen BK165.out 1
                          have hfz45_2 := blk_frozen BK165.out 2
                          have hfz45_3 := blk_frozen BK165.out 3
                          go_wp2
                          go_meet
                          case rel => exact ⟨_, (true), (by first | rfl | (simp; done) | (simp [*]; done)), H', ⟨by have := HJ3.out; have := HJ15.out; have := HJ26.out; first | omega | exact Nat.le_refl _⟩, ⟨by (with_reducible repeat (first | refine blk_drewN ?_ _ | refine blk_drew ?_ | refine blk_alloc ?_ _)); exact BK165.out⟩, ⟨by repeat (first | (with_reducible first | exact HB.out | apply below_alloc | apply pw_below_drewN | apply below_drew1 | refine below_set ?_ GE165.out) | exact HB.out)⟩⟩
                        · rw [if_neg c44] at H
                          have c44b0 : (a1_0.toList == ([] : List UInt8)) = false := beq_eq_false_iff_ne.mpr c44
                          have c44b1 : (a1_0.toList != ([] : List UInt8)) = true := bne_iff_ne.mpr c44
                          (first | rw [c44b0] | (simp only [i64_w, i32_w]; rw [c44b0]) | skip)
                          by_cases c46 : (a1_0.size : Int) > 32
                          · rw [if_pos c46] at H
                            have c46b0 : decide (32 < (a1_0.size : Int)) = true := decide_eq_true c46
                            have c46b1 : decide (32 < a1_0.size) = true := decide_eq_true (by omega)
                            clear c46
                            have H' := Aside0.mk H
                            clear H
                            have hcz47_0 : wc.cell? ⟨gb165, 0, none⟩ = some (.string a1_0) := (blk_cell BK165.out 0).trans rfl
                            have hcz47_1 : wc.cell? ⟨gb165, 1, none⟩ = some (.int .i64 a1_1) := (blk_cell BK165.out 1).trans rfl
                            have hcz47_2 : wc.cell? ⟨gb165, 2, none⟩ = some (.int .i64 a1_2) := (blk_cell BK165.out 2).trans rfl
                            have hcz47_3 : wc.cell? ⟨gb165, 3, none⟩ = some (.int .i64 a1_3) := (blk_cell BK165.out 3).trans rfl
                            have hfz47_0 := blk_frozen BK165.out 0
                            have hfz47_1 := blk_frozen BK165.out 1
                            have hfz47_2 := blk_frozen BK165.out 2
                            have hfz47_3 := blk_frozen BK165.out 3
                            go_wp2
                            go_meet
                            case rel => exact ⟨_, (true), (by first | rfl | (simp; done) | (simp [*]; done)), H', ⟨by have := HJ3.out; have := HJ15.out; have := HJ26.out; first | omega | exact Nat.le_refl _⟩, ⟨by (with_reducible repeat (first | refine blk_drewN ?_ _ | refine blk_drew ?_ | refine blk_alloc ?_ _)); exact BK165.out⟩, ⟨by repeat (first | (with_reducible first | exact HB.out | apply below_alloc | apply pw_below_drewN | apply below_drew1 | refine below_set ?_ GE165.out) | exact HB.out)⟩⟩
                          · rw [if_neg c46] at H
                            have c46b0 : decide (32 < (a1_0.size : Int)) = false := decide_eq_false c46
                            have c46b1 : decide (32 < a1_0.size) = false := decide_eq_false (by omega)
                            clear c46
                            by_cases c48 : a1_3 < 1
                            · rw [if_pos c48] at H
                              have c48b0 : decide (a1_3 < 1) = true := decide_eq_true c48
                              clear c48
                              have H' := Aside0.mk H
                              clear H
                              have hcz49_0 : wc.cell? ⟨gb165, 0, none⟩ = some (.string a1_0) := (blk_cell BK165.out 0).trans rfl
                              have hcz49_1 : wc.cell? ⟨gb165, 1, none⟩ = some (.int .i64 a1_1) := (blk_cell BK165.out 1).trans rfl
                              have hcz49_2 : wc.cell? ⟨gb165, 2, none⟩ = some (.int .i64 a1_2) := (blk_cell BK165.out 2).trans rfl
                              have hcz49_3 : wc.cell? ⟨gb165, 3, none⟩ = some (.int .i64 a1_3) := (blk_cell BK165.out 3).trans rfl
                              have hfz49_0 := blk_frozen BK165.out 0
                              have hfz49_1 := blk_frozen BK165.out 1
                              have hfz49_2 := blk_frozen BK165.out 2
                              have hfz49_3 := blk_frozen BK165.out 3
                              go_wp2
                              go_meet
                              case rel => exact ⟨_, (true), (by first | rfl | (simp; done) | (simp [*]; done)), H', ⟨by have := HJ3.out; have := HJ15.out; have := HJ26.out; first | omega | exact Nat.le_refl _⟩, ⟨by (with_reducible repeat (first | refine blk_drewN ?_ _ | refine blk_drew ?_ | refine blk_alloc ?_ _)); exact BK165.out⟩, ⟨by repeat (first | (with_reducible first | exact HB.out | apply below_alloc | apply pw_below_drewN | apply below_drew1 | refine below_set ?_ GE165.out) | exact HB.out)⟩⟩
                            · rw [if_neg c48] at H
                              have c48b0 : decide (a1_3 < 1) = false := decide_eq_false c48
                              clear c48
                              have H' := Aside0.mk H
                              clear H
                              have hcz50_0 : wc.cell? ⟨gb165, 0, none⟩ = some (.string a1_0) := (blk_cell BK165.out 0).trans rfl
                              have hcz50_1 : wc.cell? ⟨gb165, 1, none⟩ = some (.int .i64 a1_1) := (blk_cell BK165.out 1).trans rfl
                              have hcz50_2 : wc.cell? ⟨gb165, 2, none⟩ = some (.int .i64 a1_2) := (blk_cell BK165.out 2).trans rfl
                              have hcz50_3 : wc.cell? ⟨gb165, 3, none⟩ = some (.int .i64 a1_3) := (blk_cell BK165.out 3).trans rfl
                              have hfz50_0 := blk_frozen BK165.out 0
                              have hfz50_1 := blk_frozen BK165.out 1
                              have hfz50_2 := blk_frozen BK165.out 2
                              have hfz50_3 := blk_frozen BK165.out 3
                              go_wp2
                              go_meet
                              case rel => exact ⟨_, (decide (a1_3 > 1000)), (by first | rfl | (simp; done) | (simp [*]; done)), H', ⟨by have := HJ3.out; have := HJ15.out; have := HJ26.out; first | omega | exact Nat.le_refl _⟩, ⟨by (with_reducible repeat (first | refine blk_drewN ?_ _ | refine blk_drew ?_ | refine blk_alloc ?_ _)); exact BK165.out⟩, ⟨by repeat (first | (with_reducible first | exact HB.out | apply below_alloc | apply pw_below_drewN | apply below_drew1 | refine below_set ?_ GE165.out) | exact HB.out)⟩⟩
                      case rest =>
                        clear HC42
                        try clear c1
                        try clear c2
                        try clear p2
                        try clear c3
                        try clear c4
                        try clear c5
                        try clear c7
                        try clear c9
                        try clear c13
                        try clear c22
                        try clear c25
                        try clear c25b0
                        try clear c25b1
                        try clear c26
                        try clear c28
                        try clear c30
                        try clear c31
                        try clear c31b0
                        try clear c35
                        try clear c36
                        try clear c36b0
                        try clear c36b1
                        try clear c37
                        try clear c37b0
                        try clear c37b1
                        try clear c41
                        try clear c41b0
                        try clear c41b1
                        try clear c44
                        try clear c44b0
                        try clear c44b1
                        try clear c46
                        try clear c46b0
                        try clear c46b1
                        try clear c48
                        try clear c48b0
                        try clear c49
                        try clear c50
                        try clear hcz24_0
                        try clear hcz24_1
                        try clear hcz24_2
                        try clear hcz24_3
                        try clear hcz32_0
                        try clear hcz32_1
                        try clear hcz32_2
                        try clear hcz32_3
                        try clear hcz33_0
                        try clear hcz33_1
                        try clear hcz33_2
                        try clear hcz33_3
                        try clear hcz34_0
                        try clear hcz34_1
                        try clear hcz34_2
                        try clear hcz34_3
                        try clear hcz43_0
                        try clear hcz43_1
                        try clear hcz43_2
                        try clear hcz43_3
                        try clear hcz45_0
                        try clear hcz45_1
                        try clear hcz45_2
                        try clear hcz45_3
                        try clear hcz47_0
                        try clear hcz47_1
                        try clear hcz47_2
                        try clear hcz47_3
                        try clear hcz49_0
                        try clear hcz49_1
                        try clear hcz49_2
                        try clear hcz49_3
                        try clear hcz50_0
                        try clear hcz50_1
                        try clear hcz50_2
                        try clear hcz50_3
                        try clear hcz8_0
                        try clear hcz8_1
                        try clear hcz8_2
                        try clear hcz8_3
                        try clear hfz24_0
                        try clear hfz24_1
                        try clear hfz24_2
                        try clear hfz24_3
                        try clear hfz32_0
                        try clear hfz32_1
                        try clear hfz32_2
                        try clear hfz32_3
                        try clear hfz33_0
                        try clear hfz33_1
                        try clear hfz33_2
                        try clear hfz33_3
                        try clear hfz34_0
                        try clear hfz34_1
                        try clear hfz34_2
                        try clear hfz34_3
                        try clear hfz43_0
                        try clear hfz43_1
                        try clear hfz43_2
                        try clear hfz43_3
                        try clear hfz45_0
                        try clear hfz45_1
                        try clear hfz45_2
                        try clear hfz45_3
                        try clear hfz47_0
                        try clear hfz47_1
                        try clear hfz47_2
                        try clear hfz47_3
                        try clear hfz49_0
                        try clear hfz49_1
                        try clear hfz49_2
                        try clear hfz49_3
                        try clear hfz50_0
                        try clear hfz50_1
                        try clear hfz50_2
                        try clear hfz50_3
                        try clear hfz8_0
                        try clear hfz8_1
                        try clear hfz8_2
                        try clear hfz8_3
                        try clear p2
                        obtain ⟨kq, x112_41, rfl, HA, HJ41, BK165, HB⟩ := hcut
                        cases kq with
                        | zero => exact absurd HA.out (by simp [hucksterlaw11_EscrowTells.j3])
                        | succ kj41 =>
                          have H := HA.out
                          clear HA
                          simp only [hucksterlaw11_EscrowTells.j3] at H
                          by_cases c51 : x112_41 = true
                          · subst c51
                            have H1 : (if t171 = 1 then ((hucksterlaw11_awake.f kj41).bind fun t176 => (some t176)) else (some false)) = some r := by rw [if_pos rfl] at H; exact H
                            clear H
                            have H := H1
                            clear H1
                            by_cases c52 : t171 = 1
                            · rw [if_pos c52] at H
                              have c52b0 : (t171 == 1) = true := beq_iff_eq.mpr c52
                              have c52b1 : (t171 != 1) = false := bne_eq_false_iff_eq.mpr c52
                              clear c52
                              replace H := Option.bind_eq_some_iff.mp H
                              obtain ⟨t176, A530, H⟩ := H
                              replace H : (some t176) = some r := H
                              have A53 := Aside0.mk A530
                              clear A530
                              obtain rfl := Option.some.inj H
                              go_wp2_with (first | (go_at_call 40; (with_reducible refine (hucksterlaw11_awake.calls kj41  t176 _ A53.out).mono ?_); rintro e w54 ⟨rfl, hb⟩; have n0_ := Aside0.mk (blk_below (g := gb165) (o := .cells #[.string a1_0, .int .i64 a1_1, .int .i64 a1_2, .int .i64 a1_3] 61 (0, 0)) (by (with_reducible repeat (first | refine blk_drewN ?_ _ | refine blk_drew ?_ | refine blk_alloc ?_ _)); exact BK165.out) hb); have n1_ := Aside0.mk (below_step (by repeat (first | (with_reducible first | exact HB.out | apply below_alloc | apply pw_below_drewN | apply below_drew1 | refine below_set ?_ GE165.out) | exact HB.out)) hb); clear BK165; clear HB; have BK165 := n0_; have HB := n1_; clear n0_ n1_; (try clear hb); (try clear hb2); (try clear hk); (try clear hi)))
                              go_ret
                              exact ⟨by first | rfl | (simp [errW_none, errW_some] <;> rfl) | (simp [*, errW_none, errW_some] <;> rfl), by repeat (first | (with_reducible first | exact HB.out | apply below_alloc | apply pw_below_drewN | apply below_drew1 | refine below_set ?_ GE165.out) | exact HB.out)⟩
                            · rw [if_neg c52] at H
                              have c52b0 : (t171 == 1) = false := beq_eq_false_iff_ne.mpr c52
                              have c52b1 : (t171 != 1) = true := bne_iff_ne.mpr c52
                              obtain rfl := Option.some.inj H
                              go_wp2
                              go_ret
                              exact ⟨by first | rfl | (simp [errW_none, errW_some] <;> rfl) | (simp [*, errW_none, errW_some] <;> rfl), by repeat (first | (with_reducible first | exact HB.out | apply below_alloc | apply pw_below_drewN | apply below_drew1 | refine below_set ?_ GE165.out) | exact HB.out)⟩
                          · replace c51 := Bool.eq_false_iff.mpr c51
                            subst c51
                            have H1 : (if ((t171 == 5) == (decide (t170 < a1_3))) = true then (if ((t171 == 0) == (decide (t170 ≥ a1_3))) = true then ((escrow_Same.f kj41 l0 l0).bind fun t177 => (if t177 = true then ((hucksterlaw11_awake.f kj41).bind fun t178 => (some t178)) else (some false))) else (some false)) else (some false)) = some r := by rw [if_neg (show ¬ (false = true) by decide)] at H; exact H
                            clear H
                            have H := H1
                            clear H1
                            by_cases c55 : ((t171 == 5) == (decide (t170 < a1_3))) = true
                            · rw [if_pos c55] at H
                              have c55b0 : ((t171 == 5) == (decide (t170 < a1_3))) = true := c55
                              (try (have c55b1 : decide ((t171 == 5) = (decide (t170 < a1_3))) = true := by simpa using c55))
                              (try (have c55b2 : ((t171 == 5) == (decide (t170 < a1_3))) = true := by simpa using c55))
                              clear c55
                              by_cases c56 : ((t171 == 0) == (decide (t170 ≥ a1_3))) = true
                              · rw [if_pos c56] at H
                                have c56b0 : ((t171 == 0) == (decide (t170 ≥ a1_3))) = true := c56
                                (try (have c56b1 : decide ((t171 == 0) = (decide (t170 ≥ a1_3))) = true := by simpa using c56))
                                (try (have c56b2 : ((t171 == 0) == (decide (t170 ≥ a1_3))) = true := by simpa using c56))
                                clear c56
                                replace H := Option.bind_eq_some_iff.mp H
                                obtain ⟨t177, A570, H⟩ := H
                                replace H : (if t177 = true then ((hucksterlaw11_awake.f kj41).bind fun t178 => (some t178)) else (some false)) = some r := H
                                have A57 := Aside0.mk A570
                                clear A570
                                by_cases c58 : t177 = true
                                · subst c58
                                  have H1 : ((hucksterlaw11_awake.f kj41).bind fun t178 => (some t178)) = some r := by rw [if_pos rfl] at H; exact H
                                  clear H
                                  have H := H1
                                  clear H1
                                  replace H := Option.bind_eq_some_iff.mp H
                                  obtain ⟨t178, A590, H⟩ := H
                                  replace H : (some t178) = some r := H
                                  have A59 := Aside0.mk A590
                                  clear A590
                                  obtain rfl := Option.some.inj H
                                  have hcz60_0 : wc.cell? ⟨gb165, 0, none⟩ = some (.string a1_0) := (blk_cell BK165.out 0).trans rfl
                                  have hcz60_1 : wc.cell? ⟨gb165, 1, none⟩ = some (.int .i64 a1_1) := (blk_cell BK165.out 1).trans rfl
                                  have hcz60_2 : wc.cell? ⟨gb165, 2, none⟩ = some (.int .i64 a1_2) := (blk_cell BK165.out 2).trans rfl
                                  have hcz60_3 : wc.cell? ⟨gb165, 3, none⟩ = some (.int .i64 a1_3) := (blk_cell BK165.out 3).trans rfl
                                  have hfz60_0 := blk_frozen BK165.out 0
                                  have hfz60_1 := blk_frozen BK165.out 1
                                  have hfz60_2 := blk_frozen BK165.out 2
                                  have hfz60_3 := blk_frozen BK165.out 3
                                  go_wp2_with (first | (go_at_call 54; (with_reducible refine (escrow_Same.calls kj41 _ _ l0 _ _ l0 true _ ?side1 ?side2 ?side3 ?side4 A57.out).mono ?_); (case side1 => repeat (first | exact (Kd.C_below HR0.out HB.out) | (with_reducible refine Kd.C_alloc ?_ _) | (with_reducible refine Kd.C_drewN ?_ _) | (with_reducible refine Kd.C_drew ?_))); (case side2 => exact HC0.out); (case side3 => repeat (first | exact (Kd.C_below HR0.out HB.out) | (with_reducible refine Kd.C_alloc ?_ _) | (with_reducible refine Kd.C_drewN ?_ _) | (with_reducible refine Kd.C_drew ?_))); (case side4 => exact HC0.out); rintro e w' ⟨rfl, ⟨nd, rfl⟩⟩) | (go_at_call 40; (with_reducible refine (hucksterlaw11_awake.calls kj41  t178 _ A59.out).mono ?_); rintro e w61 ⟨rfl, hb⟩; have n0_ := Aside0.mk (blk_below (g := gb165) (o := .cells #[.string a1_0, .int .i64 a1_1, .int .i64 a1_2, .int .i64 a1_3] 61 (0, 0)) (by (with_reducible repeat (first | refine blk_drewN ?_ _ | refine blk_drew ?_ | refine blk_alloc ?_ _)); exact BK165.out) hb); have n1_ := Aside0.mk (below_step (by repeat (first | (with_reducible first | exact HB.out | apply below_alloc | apply pw_below_drewN | apply below_drew1 | refine below_set ?_ GE165.out) | exact HB.out)) hb); clear BK165; clear HB; have BK165 := n0_; have HB := n1_; clear n0_ n1_; (try clear hb); (try clear hb2); (try clear hk); (try clear hi)))
                                  go_ret
                                  exact ⟨by first | rfl | (simp [errW_none, errW_some] <;> rfl) | (simp [*, errW_none, errW_some] <;> rfl), by repeat (first | (with_reducible first | exact HB.out | apply below_alloc | apply pw_below_drewN | apply below_drew1 | refine below_set ?_ GE165.out) | exact HB.out)⟩
                                · replace c58 := Bool.eq_false_iff.mpr c58
                                  subst c58
                                  have H1 : (some false) = some r := by rw [if_neg (show ¬ (false = true) by decide)] at H; exact H
                                  clear H
                                  have H := H1
                                  clear H1
                                  obtain rfl := Option.some.inj H
                                  have hcz62_0 : wc.cell? ⟨gb165, 0, none⟩ = some (.string a1_0) := (blk_cell BK165.out 0).trans rfl
                                  have hcz62_1 : wc.cell? ⟨gb165, 1, none⟩ = some (.int .i64 a1_1) := (blk_cell BK165.out 1).trans rfl
                                  have hcz62_2 : wc.cell? ⟨gb165, 2, none⟩ = some (.int .i64 a1_2) := (blk_cell BK165.out 2).trans rfl
                                  have hcz62_3 : wc.cell? ⟨gb165, 3, none⟩ = some (.int .i64 a1_3) := (blk_cell BK165.out 3).trans rfl
                                  have hfz62_0 := blk_frozen BK165.out 0
                                  have hfz62_1 := blk_frozen BK165.out 1
                                  have hfz62_2 := blk_frozen BK165.out 2
                                  have hfz62_3 := blk_frozen BK165.out 3
                                  go_wp2_with (first | (go_at_call 54; (with_reducible refine (escrow_Same.calls kj41 _ _ l0 _ _ l0 false _ ?side1 ?side2 ?side3 ?side4 A57.out).mono ?_); (case side1 => repeat (first | exact (Kd.C_below HR0.out HB.out) | (with_reducible refine Kd.C_alloc ?_ _) | (with_reducible refine Kd.C_drewN ?_ _) | (with_reducible refine Kd.C_drew ?_))); (case side2 => exact HC0.out); (case side3 => repeat (first | exact (Kd.C_below HR0.out HB.out) | (with_reducible refine Kd.C_alloc ?_ _) | (with_reducible refine Kd.C_drewN ?_ _) | (with_reducible refine Kd.C_drew ?_))); (case side4 => exact HC0.out); rintro e w' ⟨rfl, ⟨nd, rfl⟩⟩))
                                  go_ret
                                  exact ⟨by first | rfl | (simp [errW_none, errW_some] <;> rfl) | (simp [*, errW_none, errW_some] <;> rfl), by repeat (first | (with_reducible first | exact HB.out | apply below_alloc | apply pw_below_drewN | apply below_drew1 | refine below_set ?_ GE165.out) | exact HB.out)⟩
                              · rw [if_neg c56] at H
                                have c56b0 : ((t171 == 0) == (decide (t170 ≥ a1_3))) = false := by simpa using c56
                                (try (have c56b1 : decide ((t171 == 0) = (decide (t170 ≥ a1_3))) = false := by simpa using c56))
                                (try (have c56b2 : ((t171 == 0) == (decide (t170 ≥ a1_3))) = false := by simpa using c56))
                                (try (have c56b3 : ¬ ((t171 == 0) = (decide (t170 ≥ a1_3))) := by simpa using c56))
                                clear c56
                                obtain rfl := Option.some.inj H
                                have hcz63_0 : wc.cell? ⟨gb165, 0, none⟩ = some (.string a1_0) := (blk_cell BK165.out 0).trans rfl
                                have hcz63_1 : wc.cell? ⟨gb165, 1, none⟩ = some (.int .i64 a1_1) := (blk_cell BK165.out 1).trans rfl
                                have hcz63_2 : wc.cell? ⟨gb165, 2, none⟩ = some (.int .i64 a1_2) := (blk_cell BK165.out 2).trans rfl
                                have hcz63_3 : wc.cell? ⟨gb165, 3, none⟩ = some (.int .i64 a1_3) := (blk_cell BK165.out 3).trans rfl
                                have hfz63_0 := blk_frozen BK165.out 0
                                have hfz63_1 := blk_frozen BK165.out 1
                                have hfz63_2 := blk_frozen BK165.out 2
                                have hfz63_3 := blk_frozen BK165.out 3
                                go_wp2
                                go_ret
                                exact ⟨by first | rfl | (simp [errW_none, errW_some] <;> rfl) | (simp [*, errW_none, errW_some] <;> rfl), by repeat (first | (with_reducible first | exact HB.out | apply below_alloc | apply pw_below_drewN | apply below_drew1 | refine below_set ?_ GE165.out) | exact HB.out)⟩
                            · rw [if_neg c55] at H
                              have c55b0 : ((t171 == 5) == (decide (t170 < a1_3))) = false := by simpa using c55
                              (try (have c55b1 : decide ((t171 == 5) = (decide (t170 < a1_3))) = false := by simpa using c55))
                              (try (have c55b2 : ((t171 == 5) == (decide (t170 < a1_3))) = false := by simpa using c55))
                              (try (have c55b3 : ¬ ((t171 == 5) = (decide (t170 < a1_3))) := by simpa using c55))
                              clear c55
                              obtain rfl := Option.some.inj H
                              have hcz64_0 : wc.cell? ⟨gb165, 0, none⟩ = some (.string a1_0) := (blk_cell BK165.out 0).trans rfl
                              have hcz64_1 : wc.cell? ⟨gb165, 1, none⟩ = some (.int .i64 a1_1) := (blk_cell BK165.out 1).trans rfl
                              have hcz64_2 : wc.cell? ⟨gb165, 2, none⟩ = some (.int .i64 a1_2) := (blk_cell BK165.out 2).trans rfl
                              have hcz64_3 : wc.cell? ⟨gb165, 3, none⟩ = some (.int .i64 a1_3) := (blk_cell BK165.out 3).trans rfl
                              have hfz64_0 := blk_frozen BK165.out 0
                              have hfz64_1 := blk_frozen BK165.out 1
                              have hfz64_2 := blk_frozen BK165.out 2
                              have hfz64_3 := blk_frozen BK165.out 3
                              go_wp2
                              go_ret
                              exact ⟨by first | rfl | (simp [errW_none, errW_some] <;> rfl) | (simp [*, errW_none, errW_some] <;> rfl), by repeat (first | (with_reducible first | exact HB.out | apply below_alloc | apply pw_below_drewN | apply below_drew1 | refine below_set ?_ GE165.out) | exact HB.out)⟩
                    · rw [if_neg c41] at H
                      have c41b0 : (t170 == t175) = false := beq_eq_false_iff_ne.mpr c41
                      have c41b1 : (t170 != t175) = true := bne_iff_ne.mpr c41
                      obtain rfl := Option.some.inj H
                      have hcz65_0 : wc.cell? ⟨gb165, 0, none⟩ = some (.string a1_0) := (blk_cell BK165.out 0).trans rfl
                      have hcz65_1 : wc.cell? ⟨gb165, 1, none⟩ = some (.int .i64 a1_1) := (blk_cell BK165.out 1).trans rfl
                      have hcz65_2 : wc.cell? ⟨gb165, 2, none⟩ = some (.int .i64 a1_2) := (blk_cell BK165.out 2).trans rfl
                      have hcz65_3 : wc.cell? ⟨gb165, 3, none⟩ = some (.int .i64 a1_3) := (blk_cell BK165.out 3).trans rfl
                      have hfz65_0 := blk_frozen BK165.out 0
                      have hfz65_1 := blk_frozen BK165.out 1
                      have hfz65_2 := blk_frozen BK165.out 2
                      have hfz65_3 := blk_frozen BK165.out 3
                      go_wp2_with (first | ((with_reducible refine gate_callee (f := 53) rfl ?_); refine goesL_ (some 92) rfl rfl Try.func53 (by kernel_rfl) rfl #[.slice A0 l0.length c0, .string a1_0, .int .i64 a1_1, .int .i64 a2] rfl (by (try simp only [List.map_toArray, List.map_cons, List.map_nil]); first | done | rfl | (simp only [List.length_drop, List.length_take]; rfl)) ?_; (with_reducible refine (hucksterref11_Rights.calls _ _ l0 a1_0 a1_1 a2 t175 _ ?side1 ?side2 A40.out).mono ?_); (case side1 => repeat (first | exact (Kd.C_below HR0.out HB.out) | (with_reducible refine Kd.C_alloc ?_ _) | (with_reducible refine Kd.C_drewN ?_ _) | (with_reducible refine Kd.C_drew ?_))); (case side2 => exact HC0.out); rintro e w' ⟨rfl, ⟨nd, rfl⟩⟩; refine ⟨_, rfl, ?_⟩))
                      go_ret
                      exact ⟨by first | rfl | (simp [errW_none, errW_some] <;> rfl) | (simp [*, errW_none, errW_some] <;> rfl), by repeat (first | (with_reducible first | exact HB.out | apply below_alloc | apply pw_below_drewN | apply below_drew1 | refine below_set ?_ GE165.out) | exact HB.out)⟩

end Go.Proofs.Ytfnpiclioikjpaa.X

/- The pure statement of the law. -/
set_option linter.unusedSimpArgs false
set_option linter.unusedVariables false
namespace Go.Proofs.Ytfnpiclioikjpaa.Pure
open Go.RowKit Go.Proofs.Ytfnpiclioikjpaa.X Go.Proofs.YtfnpiclioikjpaaW.PrintWords Go.Proofs.YtfnpiclioikjpaaW.PrintLast Go.Proofs.YtfnpiclioikjpaaW.PrintMore

theorem law_there (rep : Int) : hucksterlaw11_there.f rep = some (repOk rep) := by
  unfold hucksterlaw11_there.f repOk
  by_cases h : rep ≥ 1
  · rw [if_pos h, decide_eq_true h]; rfl
  · rw [if_neg h, decide_eq_false h]; rfl
theorem tells3 (l : List Ac) (hl : l.length ≤ 60) (key : ByteArray) (rep tp n floor : Int) (hb : rgB l rep floor = true) (bad : Bool) (hbad : bad = !(keyR key && (decide (1 ≤ n) && decide (n ≤ 1000)))) :
    Ev (fun k => hucksterlaw11_EscrowTells.j3 k l (rgR (getA l key) rep floor) (mayE l key rep floor n) bad key rep tp n) true := by
  unfold rgB at hb
  simp only [Bool.and_eq_true] at hb
  obtain ⟨hc, hr, hf⟩ := hb
  refine Ev.succ ?_
  simp only [hucksterlaw11_EscrowTells.j3]
  cases hg : (keyR key && (decide (1 ≤ n) && decide (n ≤ 1000))) with
  | false =>
    rw [hg] at hbad
    subst hbad
    have he : mayE l key rep floor n = 1 := by
      unfold mayE mayG
      rw [hc, hr, hf, Bool.true_and, Bool.true_and, Bool.true_and, hg]; rfl
    rw [he]
    exact Ev.yes (by simp) (Ev.yes (by simp) (Ev.bind awake11 (Ev.now _)))
  | true =>
    rw [hg] at hbad
    subst hbad
    have he : mayE l key rep floor n = if rgR (getA l key) rep floor < n then 5 else 0 := by
      unfold mayE mayG
      rw [hc, hr, hf, Bool.true_and, Bool.true_and, Bool.true_and, hg]; rfl
    rw [he]
    refine Ev.no (by simp) (Ev.yes ?_ (Ev.yes ?_ (Ev.bind (sameS_is l (by omega)) (Ev.yes (by simp) (Ev.bind awake11 (Ev.now _))))))
    · by_cases h : rgR (getA l key) rep floor < n <;> simp [h]
    · by_cases h : rgR (getA l key) rep floor < n
      · simp [h]
      · simp [h]; omega
theorem tells2 (l : List Ac) (hl : l.length ≤ 60) (key : ByteArray) (rep tp n floor : Int) (bad : Bool) (hbad : bad = !rgB l rep floor) :
    Ev (fun k => hucksterlaw11_EscrowTells.j2 k l floor (if rgB l rep floor = true then rgR (getA l key) rep floor else 0) (mayE l key rep floor n) bad key rep tp n) true := by
  refine Ev.succ ?_
  simp only [hucksterlaw11_EscrowTells.j2]
  cases hb : rgB l rep floor with
  | false =>
    rw [hb] at hbad
    subst hbad
    have he : mayE l key rep floor n = 1 := by
      unfold mayE
      rw [if_neg]
      unfold mayG
      unfold rgB at hb
      intro h
      simp only [Bool.and_eq_true] at h
      rw [h.1, h.2.2.1, h.2.2.2.1] at hb
      cases hb
    rw [he]
    exact Ev.yes (by simp) (Ev.yes (by simp) (Ev.yes (by simp) (Ev.bind awake11 (Ev.now _))))
  | true =>
    rw [hb] at hbad
    subst hbad
    rw [if_pos rfl]
    refine Ev.no (by simp) (Ev.bind1 (refRights_is (by omega) hb key) (Ev.yes (by simp) ?_))
    have go := tells3 l hl key rep tp n floor hb
    unfold keyR at go
    by_cases h0 : key.toList = ([] : List UInt8)
    · exact Ev.yes h0 (go true (by rw [h0]; rfl))
    · refine Ev.no h0 ?_
      rw [beq_eq_false_iff_ne.2 h0] at go
      by_cases h1 : (key.size : Int) > 32
      · exact Ev.yes h1 (go true (by rw [decide_eq_false (show ¬ (key.size : Int) ≤ 32 by omega)]; rfl))
      · refine Ev.no h1 ?_
        rw [decide_eq_true (show (key.size : Int) ≤ 32 by omega)] at go
        by_cases h2 : n < 1
        · exact Ev.yes h2 (go true (by rw [decide_eq_false (show ¬ 1 ≤ n by omega)]; rfl))
        · refine Ev.no h2 (go _ ?_)
          rw [decide_eq_true (show 1 ≤ n by omega)]
          by_cases h3 : n > 1000
          · rw [decide_eq_true h3, decide_eq_false (show ¬ n ≤ 1000 by omega)]; rfl
          · rw [decide_eq_false h3, decide_eq_true (show n ≤ 1000 by omega)]; rfl
theorem EscrowTells (l0 : List Ac) (h0 : l0.length ≤ 9223372036854775807) (a1_0 : ByteArray) (a1_1 a1_2 a1_3 a2 : Int) (w2 : (Lit.int .i64 a2).wf = true) : ∃ k, hucksterlaw11_EscrowTells.f k l0 a1_0 a1_1 a1_2 a1_3 a2 = some true := by
  have h : Ev (fun k => hucksterlaw11_EscrowTells.f k l0 a1_0 a1_1 a1_2 a1_3 a2) true := by
    unfold hucksterlaw11_EscrowTells.f
    obtain ⟨b, hb, hl⟩ := light11 l0
    refine Ev.bind hb ?_
    have aw : Ev (fun k => hucksterlaw11_EscrowTells.j0 k l0 a2 true a1_0 a1_1 a1_2 a1_3) true := by
      refine Ev.succ ?_
      simp only [hucksterlaw11_EscrowTells.j0]
      exact Ev.yes (by simp) (Ev.bind awake11 (Ev.now _))
    cases b with
    | false => exact Ev.no (by simp) aw
    | true =>
      have hl := hl rfl
      refine Ev.yes (by simp) ?_
      by_cases h1 : (a1_0.size : Int) > 100
      · rw [decide_eq_true h1]; exact aw
      · rw [decide_eq_false h1]
        refine Ev.succ ?_
        simp only [hucksterlaw11_EscrowTells.j0]
        refine Ev.no (by simp) (Ev.bind1 (a := chkA l0) (by unfold hucksterref11_Right.f; rw [if_pos (by omega)]) (Ev.bind1 (a := if chkA l0 = true then numH (getA l0 a1_0) else 0) rfl (Ev.bind1 (a := if rgB l0 a1_1 a2 = true then rgR (getA l0 a1_0) a1_1 a2 else 0) rfl (Ev.bind (may_is l0 a1_0 a1_1 a2 a1_3) ?_))))
        have go := tells2 l0 hl a1_0 a1_1 a1_2 a1_3 a2
        have j1 : Ev (fun k => hucksterlaw11_EscrowTells.j1 k l0 a2 (chkA l0) (if rgB l0 a1_1 a2 = true then rgR (getA l0 a1_0) a1_1 a2 else 0) (mayE l0 a1_0 a1_1 a2 a1_3) false a1_0 a1_1 a1_2 a1_3) true := by
          refine Ev.succ ?_
          simp only [hucksterlaw11_EscrowTells.j1]
          refine Ev.no (by simp) ?_
          cases hc : chkA l0 with
          | false => exact Ev.no (by simp) (go true (by unfold rgB; rw [hc]; rfl))
          | true =>
            refine Ev.yes (by simp) (Ev.bind1 (law_there a1_1) ?_)
            cases hr : repOk a1_1 with
            | false => exact Ev.no (by simp) (go true (by unfold rgB; rw [hc, hr]; rfl))
            | true =>
              refine Ev.yes (by simp) ?_
              by_cases h2 : a2 > 0
              · exact Ev.yes h2 (go true (by unfold rgB lowOk; rw [hc, hr, decide_eq_false (show ¬ a2 ≤ 0 by omega)]; rfl))
              · refine Ev.no h2 (go _ ?_)
                unfold rgB lowOk
                rw [hc, hr, decide_eq_true (show a2 ≤ 0 by omega)]
                by_cases h3 : a2 < -1000
                · rw [decide_eq_true h3, decide_eq_false (show ¬ -1000 ≤ a2 by omega)]; rfl
                · rw [decide_eq_false h3, decide_eq_true (show -1000 ≤ a2 by omega)]; rfl
        cases hc : chkA l0 with
        | true =>
          rw [hc] at j1
          refine Ev.yes (by simp) (Ev.bind (refNumber_is (by omega) hc a1_0) ?_)
          rw [if_pos rfl, show (numH (getA l0 a1_0) != numH (getA l0 a1_0)) = false by simp]
          exact j1
        | false =>
          rw [hc] at j1
          refine Ev.no (by simp) (Ev.yes (by simp) ?_)
          exact j1
  exact h.rounds
end Go.Proofs.Ytfnpiclioikjpaa.Pure

/- The row of the law EscrowTells, out of its Pure and the walk. -/
namespace Go.Proofs.Ytfnpiclioikjpaa.escrowTells
open Go.ChangeShapes Go.WideShapes Go.ChangeAt Go.RowKit Go.Proofs.YtfnpiclioikjpaaW.PrintWords
open Go.ChangeMaps (open_string shut_string)
set_option linter.unusedVariables false
theorem own : ownKnob Try.prog.godebug = none := by kernel_rfl
theorem laidOut : laidOutB Try.prog = true := by kernel_rfl
set_option maxRecDepth 100000 in
theorem lifted (os : Os) (started : os.Started) (H : Type) (enc : TypeId × Value → H) :
    ReturnsInHanded {} Try.checked os 13 .any (Rows.escrowTellsSpec.pre6 enc Try.prog Try.f13 Rows.escrowTellsRow.domain false) (Rows.escrowTellsSpec.post enc Try.prog Try.f13 false true false false) := by
  refine returnsInHanded_of_change_sized (C := Try.checked) own started (by kernel_rfl) Try.func13
    (ChangeSpec.witness6 (enc := enc) (C := Try.checked) false ⟨#[], #[.slice none 0 0, .agg #[.string ByteArray.empty, .int .i64 0, .int .i64 0, .int .i64 0], .int .i64 0], []⟩ 8 (by kernel_rfl) (by kernel_rfl) (by kernel_rfl) (by kernel_rfl)) ?_
  intro W base args ds gs before hval0 hW hcnd hsz0 _
  have hsz : (DataW.weightsEach Try.prog (Try.f13.params.toList ++ Rows.escrowTellsSpec.plain.varTypes Try.prog) (ds ++ gs)).all (· ≤ reachBytes) = true := hsz0
  have hval : ∀ (j : Nat) t v, Try.f13.params[j]? = some t → args[j]? = some v → Value.okWide Try.prog W .any base t v := hval0
  have hW' := hW
  obtain ⟨p, q, hA0, hV, rfl, hfz, hnd⟩ := hW
  have hA : DataW.TrodAll enc Try.prog W 0 (fun _ => true) true Try.f13.params.toList args.toList ds p := hA0
  rw [Try.params13] at hA hval hsz
  obtain ⟨v0, vs0, d0, ds0, p0, q0, hargs, rfl, rfl, h0, r0⟩ := trodAll_cons hA
  obtain ⟨v1, vs1, d1, ds1, p1, q1, rfl, rfl, rfl, h1, r1⟩ := trodAll_cons r0
  obtain ⟨v2, vs2, d2, ds2, p2, q2, rfl, rfl, rfl, h2, r2⟩ := trodAll_cons r1
  obtain ⟨rfl, rfl, rfl⟩ := trodAll_nil r2
  obtain rfl : args = #[v0, v1, v2] := by cases args; simp_all
  obtain ⟨rfl, rfl⟩ := trodVars_none hV
  obtain ⟨a0, len0, cap0, rfl⟩ := okWide_slice Try.underlying59 (hval 0 59 v0 rfl rfl)
  have k0 := h0
  have lt0 : ∀ x ∈ p0, x.block < W.heap.size := by obtain ⟨m, hm⟩ := k0; exact DataW.trod_lt m _ _ _ hm
  obtain ⟨z0, w0⟩ := X.open_rowOf X.cellAcc (fun _ => True) 6 (by kernel_rfl) Try.underlying59 X.openAcc a0 len0 cap0 rfl h0
  obtain rfl : z0.length = len0 := w0.2.2.1
  have C0 : Kd.C X.k94 W a0 z0.length z0 := X.CAcc w0
  have k1 := h1
  have lt1 : ∀ x ∈ p1, x.block < W.heap.size := by obtain ⟨m, hm⟩ := k1; exact DataW.trod_lt m _ _ _ hm
  obtain ⟨cs1, rfl, _⟩ := okWide_struct Try.underlying61 (hval 1 61 v1 rfl rfl)
  obtain ⟨a1_0, a1_1, a1_2, a1_3, g1⟩ : ∃ a1_0 a1_1 a1_2 a1_3, cs1.toList = X.cellDeed a1_0 a1_1 a1_2 a1_3 := by
    obtain ⟨fuel, hf⟩ := h1
    obtain ⟨q0, q1, q2, q3, hz⟩ := X.openDeed fuel _ _ hf
    exact ⟨q0, q1, q2, q3, by simpa [Value.cells] using hz⟩
  obtain rfl : cs1 = (X.cellDeed a1_0 a1_1 a1_2 a1_3).toArray := by rw [← g1, Array.toArray_toList]
  obtain ⟨a2, rfl, rfl, rfl, w2⟩ := open_int Try.underlying3 (hval 2 3 v2 rfl rfl) h2
  clear hA0 hval0 hsz0 hsz
  obtain ⟨kk, hk⟩ := Pure.EscrowTells z0 w0.2.1 a1_0 a1_1 a1_2 a1_3 a2 w2
  refine (X.hucksterlaw11_EscrowTells.calls kk a0 cap0 z0 a1_0 a1_1 a1_2 a1_3 a2 true W C0 w0.1 hk).mono fun e W' ⟨he, bel⟩ => ?_
  subst he
  exact ⟨_, rfl, _, _, _, [], _, [], hW', trodAll_mk1 (shut_bool Try.underlying4 _), (trodAll_cons_mk (Below.trod laidOut (by kernel_rfl) (of_decide_eq_true (by kernel_rfl)) k0 bel lt0) (trodAll_cons_mk (Below.trod laidOut (by kernel_rfl) (of_decide_eq_true (by kernel_rfl)) k1 bel lt1) (trodAll_cons_mk (shut_int Try.underlying3 w2) trodAll_mk0))), rfl, bel.frame _, fun h => by cases h⟩
theorem over : Rows.escrowTellsRow.holds Try.pinned (OpenSpec.ofChange Rows.escrowTellsSpec) :=
  OpenClaim.holds_of_wide 13 Try.f13 rfl rfl rfl rfl rfl rfl rfl ⟨rfl, rfl, rfl, rfl, rfl⟩ rfl rfl rfl rfl rfl (by kernel_rfl) Try.func13 (by kernel_rfl)
    (of_decide_eq_true (by kernel_rfl)) (by unfold Func.isWrapper; first | (rw [if_pos (by decide +kernel)]; kernel_rfl) | (rw [if_neg (by decide +kernel)]; exact ⟨rfl, rfl⟩))
    (fun os started H enc _ => lifted os started H enc)
theorem proved : Rows.EscrowTellsSaid := over
#print axioms proved
end Go.Proofs.Ytfnpiclioikjpaa.escrowTells
namespace Go.Proofs.Ytfnpiclioikjpaa
/-- The row, under a short name, for the claim. -/
theorem escrowTells_holds : Rows.EscrowTellsSaid := escrowTells.proved
end Go.Proofs.Ytfnpiclioikjpaa

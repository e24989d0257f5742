/- Joined texts of this session: EscRefRight, EscRefAdd, Open0, OpenAcc, OpenDeed. -/
import Derived.Deep.CutBlock
import Derived.LoopTactic
import Derived.Great.BuildSlice
import Derived.Deep.Slices
import Derived.Deep.Fields
import Derived.ChangeArms
import Derived.DataReads
import Derived.OpenShut
import Derived.Test.YtfnpiclioikjpaaJE1
import Derived.Test.YtfnpiclioikjpaaJE2
/- hucksterref11.Right, walked. -/
set_option linter.unusedSimpArgs false
set_option linter.unusedVariables false
namespace Go.Proofs.Ytfnpiclioikjpaa.X
open Go.RowKit Go.Proofs.YtfnpiclioikjpaaW.PrintWords Go.Proofs.YtfnpiclioikjpaaW.PrintLast Go.Proofs.YtfnpiclioikjpaaW.PrintMore

def someN (h : Hv) : Nat → Bool
  | 0 => false
  | k + 1 => someN h k || !(hv h k == 0)
theorem someN_5 (h : Hv) : someN h 5 = !isZ h := by
  simp only [someN, hv, isZ, Bool.false_or, Bool.not_and]
  simp only [Bool.or_assoc]
def prevK (l : List Ac) (pos : Nat) : ByteArray := if pos = 0 then ⟨#[]⟩ else (rd_T94 l ((pos : Int) - 1)).f0
def hucksterref11_Right.f (l0 : List Ac) : Option Bool := if l0.length ≤ 4000000000 then some (chkA l0) else none
set_option maxHeartbeats 16000000 in
set_option maxRecDepth 100000 in
theorem right_call (A0 : Option Addr) (c0 : Nat) (l0 : List Ac) (w : World) (hr0 : Kd.C k94 w A0 l0.length l0) (hc0 : l0.length ≤ c0) (hl : l0.length ≤ 4000000000) (r : Bool) (hr : r = chkA l0) :
    Calls Try.prog 43 #[.slice A0 l0.length c0] w fun e w' => e = .returned (.bool r) ∧ Below w.heap.size w w' := by
  have hdr : ∀ (pos : Nat) (hp : pos < l0.length) (last : ByteArray), chkU last (l0.drop pos) = (blt last (rd_T94 l0 (pos : Int)).f0 && (okA (rd_T94 l0 (pos : Int)) && chkU (rd_T94 l0 (pos : Int)).f0 (l0.drop (pos + 1)))) := by
    intro pos hp last
    rw [← List.getElem_cons_drop (h := hp), rd_getAcc l0 pos hp]
    rfl
  have hend : ∀ (last : ByteArray), chkU last (l0.drop l0.length) = true := by intro last; rw [List.drop_length]; rfl
  have hr' : r = (decide (l0.length ≤ 4000) && chkU ⟨#[]⟩ l0) := hr
  generalize hnl : l0.length = n at *
  have HR := Aside0.mk hr0
  have HX := Aside0.mk hr'
  have HD := Aside0.mk hdr
  have HE := Aside0.mk hend
  clear hr0 hr hr' hdr hend hnl
  go_enter Try.func43, Try.ntmps43
  go_wp2
  go_loopw [3] (fun v3 w' => ∃ (pos : Nat), v3 = .int .i64 (pos : Int) ∧ pos ≤ n ∧ Aside0 (chkU (prevK l0 pos) (l0.drop pos) = chkU ⟨#[]⟩ l0) ∧ Aside0 (Below w.heap.size w w')) (fun v3 _ => (n - (intV v3)).toNat)
  case atStart => exact ⟨0, rfl, by omega, ⟨by rw [List.drop_zero]; rfl⟩, ⟨Below.refl _ _⟩⟩
  case round =>
    obtain ⟨pos, rfl, hpos, HC, HB⟩ := hrel
    by_cases hlt : pos < n
    · have hlt' : decide ((pos : Int) < (n : Int)) = true := by simp; omega
      have hcase := HD.out pos hlt (prevK l0 pos)
      rw [HC.out] at hcase
      have p : 0 ≤ (pos : Int) := by omega
      have q : (pos : Int) < (n : Int) := by omega
      obtain ⟨ad, e0, hx0, hx1, hx2, hx3, hx4, hx5⟩ := at_T94 HR.out (pos : Int) p q
      cases e0
      simp only [Int.toNat_natCast] at hx0 hx1 hx2 hx3 hx4 hx5
      have hB := HB.out
      replace hx0 := (hB.cell (World.block_lt_of_cell? w _ hx0)).trans hx0
      replace hx1 := (hB.cell (World.block_lt_of_cell? w _ hx1)).trans hx1
      replace hx2 := (hB.cell (World.block_lt_of_cell? w _ hx2)).trans hx2
      replace hx3 := (hB.cell (World.block_lt_of_cell? w _ hx3)).trans hx3
      replace hx4 := (hB.cell (World.block_lt_of_cell? w _ hx4)).trans hx4
      replace hx5 := (hB.cell (World.block_lt_of_cell? w _ hx5)).trans hx5
      clear hB
      replace p := eq_true p
      replace q := eq_true q
      have hw5 : IntKind.i64.wrap ((pos : Int) + 1) = (pos : Int) + 1 := by rw [IntKind.wrap_i64]; omega
      have hnext : prevK l0 (pos + 1) = (rd_T94 l0 (pos : Int)).f0 := by
        unfold prevK
        rw [if_neg (by omega), show ((pos + 1 : Nat) : Int) - 1 = (pos : Int) by omega]
      have HS := Aside0.mk hcase
      have HNX := Aside0.mk hnext
      clear hcase hnext
      generalize hx : rd_T94 l0 (pos : Int) = x at *
      obtain ⟨xk, xh0, xh1, xh2, xh3, xh4⟩ := x
      simp only at hx0 hx1 hx2 hx3 hx4 hx5 HS HNX
      have HXX := Aside0.mk hx
      clear hx
      have bad : (blt (prevK l0 pos) xk && (okA ⟨xk, ⟨xh0, xh1, xh2, xh3, xh4⟩⟩ && chkU xk (l0.drop (pos + 1)))) = false → r = false := by
        intro hh; rw [HX.out, HS.out, hh, Bool.and_false]
      have BAD0 := Aside0.mk bad
      clear bad
      cases he : xk.toList.isEmpty with
      | true =>
        have he' : (xk.toList == ([] : List UInt8)) = true := by simpa using he
        have he'' : xk.toList = [] := by simpa using he
        have hr1 : r = false := BAD0.out (by
          have : blt (prevK l0 pos) xk = false := by unfold blt; rw [he'']; exact less_nil _
          rw [this]; rfl)
        subst hr1
        clear he''
        go_wp2
        go_quiet (fail)
        go_wp2
        go_ret
        exact ⟨rfl, (by repeat (first | exact HB.out | apply pw_below_drewN | apply below_drew1 | apply below_alloc))⟩
      | false =>
        have he' : (xk.toList == ([] : List UInt8)) = false := by simpa using he
        by_cases h32 : (xk.size : Int) ≤ 32
        · have h32' : decide ((32 : Int) < (xk.size : Int)) = false := by simp; omega
          have bad2 : okH ⟨xh0, xh1, xh2, xh3, xh4⟩ = false → r = false := fun hh => BAD0.out (by unfold okA; rw [hh]; simp)
          have bad3 : isZ ⟨xh0, xh1, xh2, xh3, xh4⟩ = true → r = false := fun hh => BAD0.out (by unfold okA; rw [hh]; simp)
          have BAD := Aside0.mk bad2
          have BADZ := Aside0.mk bad3
          clear bad2 bad3
          have good : blt (prevK l0 pos) xk = true → isZ ⟨xh0, xh1, xh2, xh3, xh4⟩ = false → okH ⟨xh0, xh1, xh2, xh3, xh4⟩ = true → chkU (prevK l0 (pos + 1)) (l0.drop (pos + 1)) = chkU ⟨#[]⟩ l0 := by
            intro hb hz hh
            have := HS.out
            rw [hb, Bool.true_and] at this
            rw [this, HNX.out]
            unfold okA
            rw [hz, hh, decide_eq_true h32]
            rfl
          have GOOD0 := Aside0.mk good
          clear good
          by_cases hp0 : pos = 0
          · have hp1 : decide ((0 : Nat) < pos) = false := by simp; omega
            have hb : blt (prevK l0 pos) xk = true := by
              unfold prevK
              rw [if_pos hp0, blt_emptyA, he']; rfl
            clear hp0
            have GOOD := Aside0.mk (GOOD0.out hb)
            clear hb GOOD0
            go_wp2
            go_quiet (fail)
            go_wp2
            go_loop [5, 6] (fun v5 v6 => ∃ (k : Int) (s : Bool), 0 ≤ k ∧ k ≤ 5 ∧ v5 = .bool s ∧ v6 = .int .i64 k ∧ Aside0 (s = someN ⟨xh0, xh1, xh2, xh3, xh4⟩ k.toNat) ∧ Aside0 (∀ j : Nat, (j : Int) < k → inB (hv ⟨xh0, xh1, xh2, xh3, xh4⟩ j) = true)) (fun _ v6 => (5 - intV v6).toNat)
            case atStart => exact ⟨0, false, by omega, by omega, rfl, rfl, ⟨rfl⟩, ⟨fun j hj => absurd hj (by omega)⟩⟩
            case round =>
              obtain ⟨k, s, hk0, hk5, rfl, rfl, HSM, HI⟩ := hrel
              obtain rfl | rfl | rfl | rfl | rfl | rfl : k = 0 ∨ k = 1 ∨ k = 2 ∨ k = 3 ∨ k = 4 ∨ k = 5 := by omega
              · by_cases g1 : (1099511627776 : Int) < xh0
                · have g1' : decide ((1099511627776 : Int) < xh0) = true := decide_eq_true g1
                  have hr1 : r = false := BAD.out (by
                    cases ho : okH ⟨xh0, xh1, xh2, xh3, xh4⟩ with
                    | false => rfl
                    | true => have := (inB_iff _).1 ((okH_iff _).1 ho 0 (by omega)); simp only [hv] at this; omega)
                  subst hr1
                  go_wp2
                  go_ret
                  exact ⟨rfl, (by repeat (first | exact HB.out | apply pw_below_drewN | apply below_drew1 | apply below_alloc))⟩
                · have g1' : decide ((1099511627776 : Int) < xh0) = false := decide_eq_false g1
                  by_cases g2 : xh0 < (-1099511627776 : Int)
                  · have g2' : decide (xh0 < (-1099511627776 : Int)) = true := decide_eq_true g2
                    have hr1 : r = false := BAD.out (by
                      cases ho : okH ⟨xh0, xh1, xh2, xh3, xh4⟩ with
                      | false => rfl
                      | true => have := (inB_iff _).1 ((okH_iff _).1 ho 0 (by omega)); simp only [hv] at this; omega)
                    subst hr1
                    go_wp2
                    go_ret
                    exact ⟨rfl, (by repeat (first | exact HB.out | apply pw_below_drewN | apply below_drew1 | apply below_alloc))⟩
                  · have g2' : decide (xh0 < (-1099511627776 : Int)) = false := decide_eq_false g2
                    have HI' : Aside0 (∀ j : Nat, (j : Int) < 1 → inB (hv ⟨xh0, xh1, xh2, xh3, xh4⟩ j) = true) := ⟨fun j hj => by
                      by_cases hjk : (j : Int) < 0
                      · exact HI.out j hjk
                      · obtain rfl : j = 0 := by omega
                        exact (inB_iff _).2 (by simp only [hv]; omega)⟩
                    have HN : Aside0 (someN ⟨xh0, xh1, xh2, xh3, xh4⟩ (1 : Int).toNat = (s || !(xh0 == 0))) := ⟨by rw [HSM.out]; rfl⟩
                    clear g1 g2
                    cases s with
                    | true =>
                      go_wp2
                      go_round
                      case rel => exact ⟨1, true, by omega, by omega, rfl, rfl, ⟨by rw [HN.out]; rfl⟩, HI'⟩
                      case measure => simp only [intV]; omega
                    | false =>
                      go_wp2
                      go_round
                      case rel => exact ⟨1, _, by omega, by omega, rfl, rfl, ⟨by rw [HN.out]; rfl⟩, HI'⟩
                      case measure => simp only [intV]; omega
              · by_cases g1 : (1099511627776 : Int) < xh1
                · have g1' : decide ((1099511627776 : Int) < xh1) = true := decide_eq_true g1
                  have hr1 : r = false := BAD.out (by
                    cases ho : okH ⟨xh0, xh1, xh2, xh3, xh4⟩ with
                    | false => rfl
                    | true => have := (inB_iff _).1 ((okH_iff _).1 ho 1 (by omega)); simp only [hv] at this; omega)
                  subst hr1
                  go_wp2
                  go_ret
                  exact ⟨rfl, (by repeat (first | exact HB.out | apply pw_below_drewN | apply below_drew1 | apply below_alloc))⟩
                · have g1' : decide ((1099511627776 : Int) < xh1) = false := decide_eq_false g1
                  by_cases g2 : xh1 < (-1099511627776 : Int)
                  · have g2' : decide (xh1 < (-1099511627776 : Int)) = true := decide_eq_true g2
                    have hr1 : r = false := BAD.out (by
                      cases ho : okH ⟨xh0, xh1, xh2, xh3, xh4⟩ with
                      | false => rfl
                      | true => have := (inB_iff _).1 ((okH_iff _).1 ho 1 (by omega)); simp only [hv] at this; omega)
                    subst hr1
                    go_wp2
                    go_ret
                    exact ⟨rfl, (by repeat (first | exact HB.out | apply pw_below_drewN | apply below_drew1 | apply below_alloc))⟩
                  · have g2' : decide (xh1 < (-1099511627776 : Int)) = false := decide_eq_false g2
                    have HI' : Aside0 (∀ j : Nat, (j : Int) < 2 → inB (hv ⟨xh0, xh1, xh2, xh3, xh4⟩ j) = true) := ⟨fun j hj => by
                      by_cases hjk : (j : Int) < 1
                      · exact HI.out j hjk
                      · obtain rfl : j = 1 := by omega
                        exact (inB_iff _).2 (by simp only [hv]; omega)⟩
                    have HN : Aside0 (someN ⟨xh0, xh1, xh2, xh3, xh4⟩ (2 : Int).toNat = (s || !(xh1 == 0))) := ⟨by rw [HSM.out]; rfl⟩
                    clear g1 g2
                    cases s with
                    | true =>
                      go_wp2
                      go_round
                      case rel => exact ⟨2, true, by omega, by omega, rfl, rfl, ⟨by rw [HN.out]; rfl⟩, HI'⟩
                      case measure => simp only [intV]; omega
                    | false =>
                      go_wp2
                      go_round
                      case rel => exact ⟨2, _, by omega, by omega, rfl, rfl, ⟨by rw [HN.out]; rfl⟩, HI'⟩
                      case measure => simp only [intV]; omega
              · by_cases g1 : (1099511627776 : Int) < xh2
                · have g1' : decide ((1099511627776 : Int) < xh2) = true := decide_eq_true g1
                  have hr1 : r = false := BAD.out (by
                    cases ho : okH ⟨xh0, xh1, xh2, xh3, xh4⟩ with
                    | false => rfl
                    | true => have := (inB_iff _).1 ((okH_iff _).1 ho 2 (by omega)); simp only [hv] at this; omega)
                  subst hr1
                  go_wp2
                  go_ret
                  exact ⟨rfl, (by repeat (first | exact HB.out | apply pw_below_drewN | apply below_drew1 | apply below_alloc))⟩
                · have g1' : decide ((1099511627776 : Int) < xh2) = false := decide_eq_false g1
                  by_cases g2 : xh2 < (-1099511627776 : Int)
                  · have g2' : decide (xh2 < (-1099511627776 : Int)) = true := decide_eq_true g2
                    have hr1 : r = false := BAD.out (by
                      cases ho : okH ⟨xh0, xh1, xh2, xh3, xh4⟩ with
                      | false => rfl
                      | true => have := (inB_iff _).1 ((okH_iff _).1 ho 2 (by omega)); simp only [hv] at this; omega)
                    subst hr1
                    go_wp2
                    go_ret
                    exact ⟨rfl, (by repeat (first | exact HB.out | apply pw_below_drewN | apply below_drew1 | apply below_alloc))⟩
                  · have g2' : decide (xh2 < (-1099511627776 : Int)) = false := decide_eq_false g2
                    have HI' : Aside0 (∀ j : Nat, (j : Int) < 3 → inB (hv ⟨xh0, xh1, xh2, xh3, xh4⟩ j) = true) := ⟨fun j hj => by
                      by_cases hjk : (j : Int) < 2
                      · exact HI.out j hjk
                      · obtain rfl : j = 2 := by omega
                        exact (inB_iff _).2 (by simp only [hv]; omega)⟩
                    have HN : Aside0 (someN ⟨xh0, xh1, xh2, xh3, xh4⟩ (3 : Int).toNat = (s || !(xh2 == 0))) := ⟨by rw [HSM.out]; rfl⟩
                    clear g1 g2
                    cases s with
                    | true =>
                      go_wp2
                      go_round
                      case rel => exact ⟨3, true, by omega, by omega, rfl, rfl, ⟨by rw [HN.out]; rfl⟩, HI'⟩
                      case measure => simp only [intV]; omega
                    | false =>
                      go_wp2
                      go_round
                      case rel => exact ⟨3, _, by omega, by omega, rfl, rfl, ⟨by rw [HN.out]; rfl⟩, HI'⟩
                      case measure => simp only [intV]; omega
              · by_cases g1 : (1099511627776 : Int) < xh3
                · have g1' : decide ((1099511627776 : Int) < xh3) = true := decide_eq_true g1
                  have hr1 : r = false := BAD.out (by
                    cases ho : okH ⟨xh0, xh1, xh2, xh3, xh4⟩ with
                    | false => rfl
                    | true => have := (inB_iff _).1 ((okH_iff _).1 ho 3 (by omega)); simp only [hv] at this; omega)
                  subst hr1
                  go_wp2
                  go_ret
                  exact ⟨rfl, (by repeat (first | exact HB.out | apply pw_below_drewN | apply below_drew1 | apply below_alloc))⟩
                · have g1' : decide ((1099511627776 : Int) < xh3) = false := decide_eq_false g1
                  by_cases g2 : xh3 < (-1099511627776 : Int)
                  · have g2' : decide (xh3 < (-1099511627776 : Int)) = true := decide_eq_true g2
                    have hr1 : r = false := BAD.out (by
                      cases ho : okH ⟨xh0, xh1, xh2, xh3, xh4⟩ with
                      | false => rfl
                      | true => have := (inB_iff _).1 ((okH_iff _).1 ho 3 (by omega)); simp only [hv] at this; omega)
                    subst hr1
                    go_wp2
                    go_ret
                    exact ⟨rfl, (by repeat (first | exact HB.out | apply pw_below_drewN | apply below_drew1 | apply below_alloc))⟩
                  · have g2' : decide (xh3 < (-1099511627776 : Int)) = false := decide_eq_false g2
                    have HI' : Aside0 (∀ j : Nat, (j : Int) < 4 → inB (hv ⟨xh0, xh1, xh2, xh3, xh4⟩ j) = true) := ⟨fun j hj => by
                      by_cases hjk : (j : Int) < 3
                      · exact HI.out j hjk
                      · obtain rfl : j = 3 := by omega
                        exact (inB_iff _).2 (by simp only [hv]; omega)⟩
                    have HN : Aside0 (someN ⟨xh0, xh1, xh2, xh3, xh4⟩ (4 : Int).toNat = (s || !(xh3 == 0))) := ⟨by rw [HSM.out]; rfl⟩
                    clear g1 g2
                    cases s with
                    | true =>
                      go_wp2
                      go_round
                      case rel => exact ⟨4, true, by omega, by omega, rfl, rfl, ⟨by rw [HN.out]; rfl⟩, HI'⟩
                      case measure => simp only [intV]; omega
                    | false =>
                      go_wp2
                      go_round
                      case rel => exact ⟨4, _, by omega, by omega, rfl, rfl, ⟨by rw [HN.out]; rfl⟩, HI'⟩
                      case measure => simp only [intV]; omega
              · by_cases g1 : (1099511627776 : Int) < xh4
                · have g1' : decide ((1099511627776 : Int) < xh4) = true := decide_eq_true g1
                  have hr1 : r = false := BAD.out (by
                    cases ho : okH ⟨xh0, xh1, xh2, xh3, xh4⟩ with
                    | false => rfl
                    | true => have := (inB_iff _).1 ((okH_iff _).1 ho 4 (by omega)); simp only [hv] at this; omega)
                  subst hr1
                  go_wp2
                  go_ret
                  exact ⟨rfl, (by repeat (first | exact HB.out | apply pw_below_drewN | apply below_drew1 | apply below_alloc))⟩
                · have g1' : decide ((1099511627776 : Int) < xh4) = false := decide_eq_false g1
                  by_cases g2 : xh4 < (-1099511627776 : Int)
                  · have g2' : decide (xh4 < (-1099511627776 : Int)) = true := decide_eq_true g2
                    have hr1 : r = false := BAD.out (by
                      cases ho : okH ⟨xh0, xh1, xh2, xh3, xh4⟩ with
                      | false => rfl
                      | true => have := (inB_iff _).1 ((okH_iff _).1 ho 4 (by omega)); simp only [hv] at this; omega)
                    subst hr1
                    go_wp2
                    go_ret
                    exact ⟨rfl, (by repeat (first | exact HB.out | apply pw_below_drewN | apply below_drew1 | apply below_alloc))⟩
                  · have g2' : decide (xh4 < (-1099511627776 : Int)) = false := decide_eq_false g2
                    have HI' : Aside0 (∀ j : Nat, (j : Int) < 5 → inB (hv ⟨xh0, xh1, xh2, xh3, xh4⟩ j) = true) := ⟨fun j hj => by
                      by_cases hjk : (j : Int) < 4
                      · exact HI.out j hjk
                      · obtain rfl : j = 4 := by omega
                        exact (inB_iff _).2 (by simp only [hv]; omega)⟩
                    have HN : Aside0 (someN ⟨xh0, xh1, xh2, xh3, xh4⟩ (5 : Int).toNat = (s || !(xh4 == 0))) := ⟨by rw [HSM.out]; rfl⟩
                    clear g1 g2
                    cases s with
                    | true =>
                      go_wp2
                      go_round
                      case rel => exact ⟨5, true, by omega, by omega, rfl, rfl, ⟨by rw [HN.out]; rfl⟩, HI'⟩
                      case measure => simp only [intV]; omega
                    | false =>
                      go_wp2
                      go_round
                      case rel => exact ⟨5, _, by omega, by omega, rfl, rfl, ⟨by rw [HN.out]; rfl⟩, HI'⟩
                      case measure => simp only [intV]; omega
              · have hok : okH ⟨xh0, xh1, xh2, xh3, xh4⟩ = true := (okH_iff _).2 (fun j hj => HI.out j (by omega))
                have hsm : s = !isZ ⟨xh0, xh1, xh2, xh3, xh4⟩ := by rw [HSM.out]; exact someN_5 _
                cases s with
                | false =>
                  have hr1 : r = false := BADZ.out (by simpa using hsm.symm)
                  subst hr1
                  clear hok hsm
                  go_wp2
                  go_ret
                  exact ⟨rfl, (by repeat (first | exact HB.out | apply pw_below_drewN | apply below_drew1 | apply below_alloc))⟩
                | true =>
                  have HG := Aside0.mk (GOOD.out (by simpa using hsm.symm) hok)
                  clear hok hsm
                  go_wp2
                  go_roundw
                  case rel => exact ⟨pos + 1, rfl, by omega, HG, ⟨(by repeat (first | exact HB.out | apply pw_below_drewN | apply below_drew1 | apply below_alloc))⟩⟩
                  case measure => simp only [intV]; omega
          · have hp1 : decide ((0 : Nat) < pos) = true := by simp; omega
            have hw6 : IntKind.i64.wrap ((pos : Int) - 1) = (pos : Int) - 1 := by rw [IntKind.wrap_i64]; omega
            have hw7 : (0 : Int) ≤ (pos : Int) - 1 := by omega
            have hw7' : (1 : Int) ≤ (pos : Int) := by omega
            have hw8 : ((pos : Int) - 1).toNat = pos - 1 := by omega
            have hw9 : (pos : Int) - 1 < (n : Int) := by omega
            have hpk : prevK l0 pos = (rd_T94 l0 ((pos : Int) - 1)).f0 := by unfold prevK; rw [if_neg hp0]
            obtain ⟨ad2, e2, hy0, _⟩ := at_T94 HR.out ((pos : Int) - 1) hw7 hw9
            obtain rfl : ad = ad2 := (by injection e2)
            rw [hw8, ← hpk] at hy0
            have hB := HB.out
            replace hy0 := (hB.cell (World.block_lt_of_cell? w _ hy0)).trans hy0
            replace hy0 : (wr.alloc (.cells #[.string xk, .int .i64 xh0, .int .i64 xh1, .int .i64 xh2, .int .i64 xh3, .int .i64 xh4] 94)).cell? (ad.add ((pos - 1) * 6)) = some (.string (prevK l0 pos)) := ((below_alloc (Below.refl wr.heap.size wr) _).cell (World.block_lt_of_cell? wr _ hy0)).trans hy0
            clear hB hpk e2
            have GOOD1 := Aside0.mk GOOD0.out
            have BB := Aside0.mk BAD0.out
            clear GOOD0 BAD0
            generalize prevK l0 pos = pk at *
            cases hb : blt pk xk with
            | false =>
              have hr1 : r = false := BB.out (by rw [hb]; rfl)
              have hb' : Op.bytesLess pk.toList xk.toList = false := hb
              subst hr1
              clear hb
              go_wp2
              go_quiet (fail)
              go_wp2
              go_ret
              exact ⟨rfl, (by repeat (first | exact HB.out | apply pw_below_drewN | apply below_drew1 | apply below_alloc))⟩
            | true =>
              have hb' : Op.bytesLess pk.toList xk.toList = true := hb
              have GOOD := Aside0.mk (GOOD1.out hb)
              clear GOOD1 hb
              go_wp2
              go_quiet (fail)
              go_wp2
              go_loop [5, 6] (fun v5 v6 => ∃ (k : Int) (s : Bool), 0 ≤ k ∧ k ≤ 5 ∧ v5 = .bool s ∧ v6 = .int .i64 k ∧ Aside0 (s = someN ⟨xh0, xh1, xh2, xh3, xh4⟩ k.toNat) ∧ Aside0 (∀ j : Nat, (j : Int) < k → inB (hv ⟨xh0, xh1, xh2, xh3, xh4⟩ j) = true)) (fun _ v6 => (5 - intV v6).toNat)
              case atStart => exact ⟨0, false, by omega, by omega, rfl, rfl, ⟨rfl⟩, ⟨fun j hj => absurd hj (by omega)⟩⟩
              case round =>
                obtain ⟨k, s, hk0, hk5, rfl, rfl, HSM, HI⟩ := hrel
                obtain rfl | rfl | rfl | rfl | rfl | rfl : k = 0 ∨ k = 1 ∨ k = 2 ∨ k = 3 ∨ k = 4 ∨ k = 5 := by omega
                · by_cases g1 : (1099511627776 : Int) < xh0
                  · have g1' : decide ((1099511627776 : Int) < xh0) = true := decide_eq_true g1
                    have hr1 : r = false := BAD.out (by
                      cases ho : okH ⟨xh0, xh1, xh2, xh3, xh4⟩ with
                      | false => rfl
                      | true => have := (inB_iff _).1 ((okH_iff _).1 ho 0 (by omega)); simp only [hv] at this; omega)
                    subst hr1
                    go_wp2
                    go_ret
                    exact ⟨rfl, (by repeat (first | exact HB.out | apply pw_below_drewN | apply below_drew1 | apply below_alloc))⟩
                  · have g1' : decide ((1099511627776 : Int) < xh0) = false := decide_eq_false g1
                    by_cases g2 : xh0 < (-1099511627776 : Int)
                    · have g2' : decide (xh0 < (-1099511627776 : Int)) = true := decide_eq_true g2
                      have hr1 : r = false := BAD.out (by
                        cases ho : okH ⟨xh0, xh1, xh2, xh3, xh4⟩ with
                        | false => rfl
                        | true => have := (inB_iff _).1 ((okH_iff _).1 ho 0 (by omega)); simp only [hv] at this; omega)
                      subst hr1
                      go_wp2
                      go_ret
                      exact ⟨rfl, (by repeat (first | exact HB.out | apply pw_below_drewN | apply below_drew1 | apply below_alloc))⟩
                    · have g2' : decide (xh0 < (-1099511627776 : Int)) = false := decide_eq_false g2
                      have HI' : Aside0 (∀ j : Nat, (j : Int) < 1 → inB (hv ⟨xh0, xh1, xh2, xh3, xh4⟩ j) = true) := ⟨fun j hj => by
                        by_cases hjk : (j : Int) < 0
                        · exact HI.out j hjk
                        · obtain rfl : j = 0 := by omega
                          exact (inB_iff _).2 (by simp only [hv]; omega)⟩
                      have HN : Aside0 (someN ⟨xh0, xh1, xh2, xh3, xh4⟩ (1 : Int).toNat = (s || !(xh0 == 0))) := ⟨by rw [HSM.out]; rfl⟩
                      clear g1 g2
                      cases s with
                      | true =>
                        go_wp2
                        go_round
                        case rel => exact ⟨1, true, by omega, by omega, rfl, rfl, ⟨by rw [HN.out]; rfl⟩, HI'⟩
                        case measure => simp only [intV]; omega
                      | false =>
                        go_wp2
                        go_round
                        case rel => exact ⟨1, _, by omega, by omega, rfl, rfl, ⟨by rw [HN.out]; rfl⟩, HI'⟩
                        case measure => simp only [intV]; omega
                · by_cases g1 : (1099511627776 : Int) < xh1
                  · have g1' : decide ((1099511627776 : Int) < xh1) = true := decide_eq_true g1
                    have hr1 : r = false := BAD.out (by
                      cases ho : okH ⟨xh0, xh1, xh2, xh3, xh4⟩ with
                      | false => rfl
                      | true => have := (inB_iff _).1 ((okH_iff _).1 ho 1 (by omega)); simp only [hv] at this; omega)
                    subst hr1
                    go_wp2
                    go_ret
                    exact ⟨rfl, (by repeat (first | exact HB.out | apply pw_below_drewN | apply below_drew1 | apply below_alloc))⟩
                  · have g1' : decide ((1099511627776 : Int) < xh1) = false := decide_eq_false g1
                    by_cases g2 : xh1 < (-1099511627776 : Int)
                    · have g2' : decide (xh1 < (-1099511627776 : Int)) = true := decide_eq_true g2
                      have hr1 : r = false := BAD.out (by
                        cases ho : okH ⟨xh0, xh1, xh2, xh3, xh4⟩ with
                        | false => rfl
                        | true => have := (inB_iff _).1 ((okH_iff _).1 ho 1 (by omega)); simp only [hv] at this; omega)
                      subst hr1
                      go_wp2
                      go_ret
                      exact ⟨rfl, (by repeat (first | exact HB.out | apply pw_below_drewN | apply below_drew1 | apply below_alloc))⟩
                    · have g2' : decide (xh1 < (-1099511627776 : Int)) = false := decide_eq_false g2
                      have HI' : Aside0 (∀ j : Nat, (j : Int) < 2 → inB (hv ⟨xh0, xh1, xh2, xh3, xh4⟩ j) = true) := ⟨fun j hj => by
                        by_cases hjk : (j : Int) < 1
                        · exact HI.out j hjk
                        · obtain rfl : j = 1 := by omega
                          exact (inB_iff _).2 (by simp only [hv]; omega)⟩
                      have HN : Aside0 (someN ⟨xh0, xh1, xh2, xh3, xh4⟩ (2 : Int).toNat = (s || !(xh1 == 0))) := ⟨by rw [HSM.out]; rfl⟩
                      clear g1 g2
                      cases s with
                      | true =>
                        go_wp2
                        go_round
                        case rel => exact ⟨2, true, by omega, by omega, rfl, rfl, ⟨by rw [HN.out]; rfl⟩, HI'⟩
                        case measure => simp only [intV]; omega
                      | false =>
                        go_wp2
                        go_round
                        case rel => exact ⟨2, _, by omega, by omega, rfl, rfl, ⟨by rw [HN.out]; rfl⟩, HI'⟩
                        case measure => simp only [intV]; omega
                · by_cases g1 : (1099511627776 : Int) < xh2
                  · have g1' : decide ((1099511627776 : Int) < xh2) = true := decide_eq_true g1
                    have hr1 : r = false := BAD.out (by
                      cases ho : okH ⟨xh0, xh1, xh2, xh3, xh4⟩ with
                      | false => rfl
                      | true => have := (inB_iff _).1 ((okH_iff _).1 ho 2 (by omega)); simp only [hv] at this; omega)
                    subst hr1
                    go_wp2
                    go_ret
                    exact ⟨rfl, (by repeat (first | exact HB.out | apply pw_below_drewN | apply below_drew1 | apply below_alloc))⟩
                  · have g1' : decide ((1099511627776 : Int) < xh2) = false := decide_eq_false g1
                    by_cases g2 : xh2 < (-1099511627776 : Int)
                    · have g2' : decide (xh2 < (-1099511627776 : Int)) = true := decide_eq_true g2
                      have hr1 : r = false := BAD.out (by
                        cases ho : okH ⟨xh0, xh1, xh2, xh3, xh4⟩ with
                        | false => rfl
                        | true => have := (inB_iff _).1 ((okH_iff _).1 ho 2 (by omega)); simp only [hv] at this; omega)
                      subst hr1
                      go_wp2
                      go_ret
                      exact ⟨rfl, (by repeat (first | exact HB.out | apply pw_below_drewN | apply below_drew1 | apply below_alloc))⟩
                    · have g2' : decide (xh2 < (-1099511627776 : Int)) = false := decide_eq_false g2
                      have HI' : Aside0 (∀ j : Nat, (j : Int) < 3 → inB (hv ⟨xh0, xh1, xh2, xh3, xh4⟩ j) = true) := ⟨fun j hj => by
                        by_cases hjk : (j : Int) < 2
                        · exact HI.out j hjk
                        · obtain rfl : j = 2 := by omega
                          exact (inB_iff _).2 (by simp only [hv]; omega)⟩
                      have HN : Aside0 (someN ⟨xh0, xh1, xh2, xh3, xh4⟩ (3 : Int).toNat = (s || !(xh2 == 0))) := ⟨by rw [HSM.out]; rfl⟩
                      clear g1 g2
                      cases s with
                      | true =>
                        go_wp2
                        go_round
                        case rel => exact ⟨3, true, by omega, by omega, rfl, rfl, ⟨by rw [HN.out]; rfl⟩, HI'⟩
                        case measure => simp only [intV]; omega
                      | false =>
                        go_wp2
                        go_round
                        case rel => exact ⟨3, _, by omega, by omega, rfl, rfl, ⟨by rw [HN.out]; rfl⟩, HI'⟩
                        case measure => simp only [intV]; omega
                · by_cases g1 : (1099511627776 : Int) < xh3
                  · have g1' : decide ((1099511627776 : Int) < xh3) = true := decide_eq_true g1
                    have hr1 : r = false := BAD.out (by
                      cases ho : okH ⟨xh0, xh1, xh2, xh3, xh4⟩ with
                      | false => rfl
                      | true => have := (inB_iff _).1 ((okH_iff _).1 ho 3 (by omega)); simp only [hv] at this; omega)
                    subst hr1
                    go_wp2
                    go_ret
                    exact ⟨rfl, (by repeat (first | exact HB.out | apply pw_below_drewN | apply below_drew1 | apply below_alloc))⟩
                  · have g1' : decide ((1099511627776 : Int) < xh3) = false := decide_eq_false g1
                    by_cases g2 : xh3 < (-1099511627776 : Int)
                    · have g2' : decide (xh3 < (-1099511627776 : Int)) = true := decide_eq_true g2
                      have hr1 : r = false := BAD.out (by
                        cases ho : okH ⟨xh0, xh1, xh2, xh3, xh4⟩ with
                        | false => rfl
                        | true => have := (inB_iff _).1 ((okH_iff _).1 ho 3 (by omega)); simp only [hv] at this; omega)
                      subst hr1
                      go_wp2
                      go_ret
                      exact ⟨rfl, (by repeat (first | exact HB.out | apply pw_below_drewN | apply below_drew1 | apply below_alloc))⟩
                    · have g2' : decide (xh3 < (-1099511627776 : Int)) = false := decide_eq_false g2
                      have HI' : Aside0 (∀ j : Nat, (j : Int) < 4 → inB (hv ⟨xh0, xh1, xh2, xh3, xh4⟩ j) = true) := ⟨fun j hj => by
                        by_cases hjk : (j : Int) < 3
                        · exact HI.out j hjk
                        · obtain rfl : j = 3 := by omega
                          exact (inB_iff _).2 (by simp only [hv]; omega)⟩
                      have HN : Aside0 (someN ⟨xh0, xh1, xh2, xh3, xh4⟩ (4 : Int).toNat = (s || !(xh3 == 0))) := ⟨by rw [HSM.out]; rfl⟩
                      clear g1 g2
                      cases s with
                      | true =>
                        go_wp2
                        go_round
                        case rel => exact ⟨4, true, by omega, by omega, rfl, rfl, ⟨by rw [HN.out]; rfl⟩, HI'⟩
                        case measure => simp only [intV]; omega
                      | false =>
                        go_wp2
                        go_round
                        case rel => exact ⟨4, _, by omega, by omega, rfl, rfl, ⟨by rw [HN.out]; rfl⟩, HI'⟩
                        case measure => simp only [intV]; omega
                · by_cases g1 : (1099511627776 : Int) < xh4
                  · have g1' : decide ((1099511627776 : Int) < xh4) = true := decide_eq_true g1
                    have hr1 : r = false := BAD.out (by
                      cases ho : okH ⟨xh0, xh1, xh2, xh3, xh4⟩ with
                      | false => rfl
                      | true => have := (inB_iff _).1 ((okH_iff _).1 ho 4 (by omega)); simp only [hv] at this; omega)
                    subst hr1
                    go_wp2
                    go_ret
                    exact ⟨rfl, (by repeat (first | exact HB.out | apply pw_below_drewN | apply below_drew1 | apply below_alloc))⟩
                  · have g1' : decide ((1099511627776 : Int) < xh4) = false := decide_eq_false g1
                    by_cases g2 : xh4 < (-1099511627776 : Int)
                    · have g2' : decide (xh4 < (-1099511627776 : Int)) = true := decide_eq_true g2
                      have hr1 : r = false := BAD.out (by
                        cases ho : okH ⟨xh0, xh1, xh2, xh3, xh4⟩ with
                        | false => rfl
                        | true => have := (inB_iff _).1 ((okH_iff _).1 ho 4 (by omega)); simp only [hv] at this; omega)
                      subst hr1
                      go_wp2
                      go_ret
                      exact ⟨rfl, (by repeat (first | exact HB.out | apply pw_below_drewN | apply below_drew1 | apply below_alloc))⟩
                    · have g2' : decide (xh4 < (-1099511627776 : Int)) = false := decide_eq_false g2
                      have HI' : Aside0 (∀ j : Nat, (j : Int) < 5 → inB (hv ⟨xh0, xh1, xh2, xh3, xh4⟩ j) = true) := ⟨fun j hj => by
                        by_cases hjk : (j : Int) < 4
                        · exact HI.out j hjk
                        · obtain rfl : j = 4 := by omega
                          exact (inB_iff _).2 (by simp only [hv]; omega)⟩
                      have HN : Aside0 (someN ⟨xh0, xh1, xh2, xh3, xh4⟩ (5 : Int).toNat = (s || !(xh4 == 0))) := ⟨by rw [HSM.out]; rfl⟩
                      clear g1 g2
                      cases s with
                      | true =>
                        go_wp2
                        go_round
                        case rel => exact ⟨5, true, by omega, by omega, rfl, rfl, ⟨by rw [HN.out]; rfl⟩, HI'⟩
                        case measure => simp only [intV]; omega
                      | false =>
                        go_wp2
                        go_round
                        case rel => exact ⟨5, _, by omega, by omega, rfl, rfl, ⟨by rw [HN.out]; rfl⟩, HI'⟩
                        case measure => simp only [intV]; omega
                · have hok : okH ⟨xh0, xh1, xh2, xh3, xh4⟩ = true := (okH_iff _).2 (fun j hj => HI.out j (by omega))
                  have hsm : s = !isZ ⟨xh0, xh1, xh2, xh3, xh4⟩ := by rw [HSM.out]; exact someN_5 _
                  cases s with
                  | false =>
                    have hr1 : r = false := BADZ.out (by simpa using hsm.symm)
                    subst hr1
                    clear hok hsm
                    go_wp2
                    go_ret
                    exact ⟨rfl, (by repeat (first | exact HB.out | apply pw_below_drewN | apply below_drew1 | apply below_alloc))⟩
                  | true =>
                    have HG := Aside0.mk (GOOD.out (by simpa using hsm.symm) hok)
                    clear hok hsm
                    go_wp2
                    go_roundw
                    case rel => exact ⟨pos + 1, rfl, by omega, HG, ⟨(by repeat (first | exact HB.out | apply pw_below_drewN | apply below_drew1 | apply below_alloc))⟩⟩
                    case measure => simp only [intV]; omega
        · have h32' : decide ((32 : Int) < (xk.size : Int)) = true := by simp; omega
          have hr1 : r = false := BAD0.out (by unfold okA; rw [decide_eq_false h32]; simp)
          subst hr1
          go_wp2
          go_quiet (fail)
          go_wp2
          go_ret
          exact ⟨rfl, (by repeat (first | exact HB.out | apply pw_below_drewN | apply below_drew1 | apply below_alloc))⟩
    · have hlt' : decide ((pos : Int) < (n : Int)) = false := by simp; omega
      obtain rfl : pos = n := by omega
      have hc : chkU ⟨#[]⟩ l0 = true := by rw [← HC.out, HE.out]
      have hr1 : r = decide ((pos : Int) ≤ 4000) := by
        rw [HX.out, hc, Bool.and_true]
        rw [decide_eq_decide]
        omega
      subst hr1
      clear hc
      go_wp2
      go_ret
      exact ⟨by congr 2, HB.out⟩
theorem hucksterref11_Right.calls (A0 : Option Addr) (c0 : Nat) (l0 : List Ac) (r1 : Bool) (w : World) (hr0 : Kd.C k94 w A0 l0.length l0) (hc0 : l0.length ≤ c0) (h : hucksterref11_Right.f l0 = some r1) :
    Calls Try.prog 43 #[.slice A0 l0.length c0] w fun e w' => e = .returned (.bool r1) ∧ Below w.heap.size w w' := by
  unfold hucksterref11_Right.f at h
  split at h
  · rename_i hl
    injection h with h
    exact right_call A0 c0 l0 w hr0 hc0 hl r1 h.symm
  · cases h
end Go.Proofs.Ytfnpiclioikjpaa.X

/- hucksterref11.Add, walked. -/
set_option linter.unusedSimpArgs false
set_option linter.unusedVariables false
namespace Go.Proofs.Ytfnpiclioikjpaa.X
open Go.RowKit Go.Proofs.YtfnpiclioikjpaaW.PrintWords Go.Proofs.YtfnpiclioikjpaaW.PrintLast Go.Proofs.YtfnpiclioikjpaaW.PrintMore

def mixH (e : Hv) : Nat → Hv
  | 0 => z5
  | 1 => ⟨e.f0, 0, 0, 0, 0⟩
  | 2 => ⟨e.f0, e.f1, 0, 0, 0⟩
  | 3 => ⟨e.f0, e.f1, e.f2, 0, 0⟩
  | 4 => ⟨e.f0, e.f1, e.f2, e.f3, 0⟩
  | _ => e
def boxA (key : ByteArray) (h : Hv) : Array Value := #[.string key, .int .i64 h.f0, .int .i64 h.f1, .int .i64 h.f2, .int .i64 h.f3, .int .i64 h.f4]
def in41 (n : Int) : Bool := decide (-2199023255552 ≤ n) && decide (n ≤ 2199023255552)
def bd41 (h : Hv) : Bool := in41 h.f0 && (in41 h.f1 && (in41 h.f2 && (in41 h.f3 && in41 h.f4)))
theorem in41_iff (n : Int) : in41 n = true ↔ -2199023255552 ≤ n ∧ n ≤ 2199023255552 := by
  unfold in41; rw [Bool.and_eq_true, decide_eq_true_eq, decide_eq_true_eq]
def hucksterref11_Add.f (l0 : List Ac) (a1 : ByteArray) (a2 : Int) (a3 : Int) : Option (List Ac) :=
  if l0.length ≤ 100000000 ∧ repOk a2 = true ∧ -1000 ≤ a3 ∧ a3 ≤ 1000 ∧ bd41 (getA l0 a1) = true then some (setA l0 a1 (upR (getA l0 a1) a2 a3)) else none
theorem upR_at (h : Hv) (rep n : Int) (k : Nat) (hk : k < 5) (h1 : 1 ≤ rep) (h5 : rep ≤ 5) : hv (upR h rep n) k = if rep = (k : Int) + 1 then hv h k + n else hv h k := by
  unfold upR
  rw [setH_get _ _ _ (by omega) hk]
  by_cases h : rep = (k : Int) + 1
  · rw [if_pos h, if_pos (by omega), show (rep - 1).toNat = k by omega]
  · rw [if_neg h, if_neg (by omega)]
set_option maxHeartbeats 16000000 in
set_option maxRecDepth 100000 in
theorem refAdd_call (A0 : Option Addr) (c0 : Nat) (l0 : List Ac) (key : ByteArray) (rep n : Int) (w : World) (hr0 : Kd.C k94 w A0 l0.length l0) (hc0 : l0.length ≤ c0) (hl : l0.length ≤ 100000000) (hrp : repOk rep = true) (hn1 : -1000 ≤ n) (hn2 : n ≤ 1000) (hbd : bd41 (getA l0 key) = true) :
    Calls Try.prog 46 #[.slice A0 l0.length c0, .string key, .int .i64 rep, .int .i64 n] w fun e w' => ∃ v0_ : Value, e = .returned v0_ ∧ Kd.R k94 94 w' w.heap.size (fun _ => True) v0_ (setA l0 key (upR (getA l0 key) rep n)) ∧ Below w.heap.size w w' := by
  have HR := Aside0.mk hr0
  unfold repOk at hrp
  simp only [Bool.and_eq_true, decide_eq_true_eq] at hrp
  obtain ⟨hr1, hr5⟩ := hrp
  have hup := fun k hk => upR_at (getA l0 key) rep n k hk hr1 hr5
  obtain ⟨R, hRR⟩ : ∃ R, R = setA l0 key (upR (getA l0 key) rep n) := ⟨_, rfl⟩
  rw [← hRR]
  unfold setA at hRR
  have hG : ∀ k : Int, getR l0 key k = if repOk k = true then hv (getA l0 key) (k - 1).toNat else 0 := fun k => rfl
  generalize getA l0 key = ga at *
  generalize upR ga rep n = e at *
  obtain ⟨g0, g1, g2, g3, g4⟩ := ga
  obtain ⟨e0, e1, e2, e3, e4⟩ := e
  simp only [bd41, Bool.and_eq_true, in41_iff] at hbd
  obtain ⟨⟨b0, b0'⟩, ⟨b1, b1'⟩, ⟨b2, b2'⟩, ⟨b3, b3'⟩, ⟨b4, b4'⟩⟩ := hbd
  have HE0 : Aside0 (e0 = if rep = 1 then g0 + n else g0) := ⟨hup 0 (by omega)⟩
  have HE1 : Aside0 (e1 = if rep = 2 then g1 + n else g1) := ⟨hup 1 (by omega)⟩
  have HE2 : Aside0 (e2 = if rep = 3 then g2 + n else g2) := ⟨hup 2 (by omega)⟩
  have HE3 : Aside0 (e3 = if rep = 4 then g3 + n else g3) := ⟨hup 3 (by omega)⟩
  have HE4 : Aside0 (e4 = if rep = 5 then g4 + n else g4) := ⟨hup 4 (by omega)⟩
  have HG0 : Aside0 (getR l0 key 1 = g0) := ⟨hG 1⟩
  have HG1 : Aside0 (getR l0 key 2 = g1) := ⟨hG 2⟩
  have HG2 : Aside0 (getR l0 key 3 = g2) := ⟨hG 3⟩
  have HG3 : Aside0 (getR l0 key 4 = g3) := ⟨hG 4⟩
  have HG4 : Aside0 (getR l0 key 5 = g4) := ⟨hG 5⟩
  have HRR := Aside0.mk hRR
  have hl' : l0.length ≤ 4000000000 := by omega
  clear hr0 hup hG hRR
  go_enter Try.func46, Try.ntmps46
  go_wp2
  go_loopw [10, 11] (fun v10 v11 w' => ∃ (k : Int) (s : Bool), 1 ≤ k ∧ k ≤ 6 ∧ v11 = .int .i64 k ∧ v10 = .bool s ∧ Aside0 (s = someN ⟨e0, e1, e2, e3, e4⟩ (k - 1).toNat) ∧ Aside0 (w'.heap[w.heap.size]? = some (.cells (boxA key (mixH ⟨e0, e1, e2, e3, e4⟩ (k - 1).toNat)) 94 (0, 0))) ∧ Aside0 (Below w.heap.size w w')) (fun _ v11 _ => (6 - intV v11).toNat)
  case atStart => exact ⟨1, false, by omega, by omega, rfl, rfl, ⟨rfl⟩, ⟨blk_new w _⟩, ⟨below_alloc (Below.refl _ _) _⟩⟩
  case round =>
    obtain ⟨k, s, hk1, hk6, rfl, rfl, HSM, BK, HB⟩ := hrel
    obtain rfl | rfl | rfl | rfl | rfl | rfl : k = 1 ∨ k = 2 ∨ k = 3 ∨ k = 4 ∨ k = 5 ∨ k = 6 := by omega
    · have hca : wr.cell? ⟨w.heap.size, 1, none⟩ = some (.int .i64 0) := (blk_cell BK.out 1).trans rfl
      have hfz := blk_frozen BK.out 1
      have HN : Aside0 (someN ⟨e0, e1, e2, e3, e4⟩ (2 - 1 : Int).toNat = (s || !(e0 == 0))) := ⟨by rw [HSM.out]; rfl⟩
      go_wp2_with fail
      refine (getR_call A0 c0 l0 key 1 _ (Kd.C_below HR.out HB.out) hc0 hl').mono ?_
      rintro e wg ⟨rfl, hwg⟩
      subst hwg
      rw [HG0.out]
      by_cases hrep : rep = 1
      · have he := HE0.out
        rw [if_pos hrep] at he
        have ht : ((1 : Int) == rep) = true := by rw [hrep]; rfl
        have ht2 : (rep == (1 : Int)) = true := by rw [hrep]; rfl
        have HEE := Aside0.mk he
        clear hrep he
        cases s with
        | true =>
          go_wp2_with fail
          go_roundw
          case rel => exact ⟨2, true, by omega, by omega, rfl, rfl, ⟨by rw [HN.out]; rfl⟩, ⟨by rw [HEE.out] at *; first | exact blk_put (cs := #[.string key, .int .i64 g0, .int .i64 0, .int .i64 0, .int .i64 0, .int .i64 0]) (blk_put (cs := #[.string key, .int .i64 0, .int .i64 0, .int .i64 0, .int .i64 0, .int .i64 0]) BK.out 1 _ rfl) 1 _ rfl | exact blk_put (cs := #[.string key, .int .i64 0, .int .i64 0, .int .i64 0, .int .i64 0, .int .i64 0]) BK.out 1 _ rfl⟩, ⟨by repeat (first | (with_reducible exact HB.out) | refine below_set ?_ (Nat.le_refl _))⟩⟩
          case measure => simp only [intV]; omega
        | false =>
          go_wp2_with fail
          go_roundw
          case rel => exact ⟨2, _, by omega, by omega, rfl, rfl, ⟨by rw [HN.out, HEE.out]; rfl⟩, ⟨by rw [HEE.out] at *; first | exact blk_put (cs := #[.string key, .int .i64 g0, .int .i64 0, .int .i64 0, .int .i64 0, .int .i64 0]) (blk_put (cs := #[.string key, .int .i64 0, .int .i64 0, .int .i64 0, .int .i64 0, .int .i64 0]) BK.out 1 _ rfl) 1 _ rfl | exact blk_put (cs := #[.string key, .int .i64 0, .int .i64 0, .int .i64 0, .int .i64 0, .int .i64 0]) BK.out 1 _ rfl⟩, ⟨by repeat (first | (with_reducible exact HB.out) | refine below_set ?_ (Nat.le_refl _))⟩⟩
          case measure => simp only [intV]; omega
      · have he := HE0.out
        rw [if_neg hrep] at he
        have ht : ((1 : Int) == rep) = false := beq_eq_false_iff_ne.2 (fun h => hrep h.symm)
        have ht2 : (rep == (1 : Int)) = false := beq_eq_false_iff_ne.2 hrep
        have HEE := Aside0.mk he
        clear hrep he
        cases s with
        | true =>
          go_wp2_with fail
          go_roundw
          case rel => exact ⟨2, true, by omega, by omega, rfl, rfl, ⟨by rw [HN.out]; rfl⟩, ⟨by rw [HEE.out] at *; exact blk_put (cs := #[.string key, .int .i64 0, .int .i64 0, .int .i64 0, .int .i64 0, .int .i64 0]) BK.out 1 _ rfl⟩, ⟨by repeat (first | (with_reducible exact HB.out) | refine below_set ?_ (Nat.le_refl _))⟩⟩
          case measure => simp only [intV]; omega
        | false =>
          go_wp2_with fail
          go_roundw
          case rel => exact ⟨2, _, by omega, by omega, rfl, rfl, ⟨by rw [HN.out, HEE.out]; rfl⟩, ⟨by rw [HEE.out] at *; exact blk_put (cs := #[.string key, .int .i64 0, .int .i64 0, .int .i64 0, .int .i64 0, .int .i64 0]) BK.out 1 _ rfl⟩, ⟨by repeat (first | (with_reducible exact HB.out) | refine below_set ?_ (Nat.le_refl _))⟩⟩
          case measure => simp only [intV]; omega
    · have hca : wr.cell? ⟨w.heap.size, 2, none⟩ = some (.int .i64 0) := (blk_cell BK.out 2).trans rfl
      have hfz := blk_frozen BK.out 2
      have HN : Aside0 (someN ⟨e0, e1, e2, e3, e4⟩ (3 - 1 : Int).toNat = (s || !(e1 == 0))) := ⟨by rw [HSM.out]; rfl⟩
      go_wp2_with fail
      refine (getR_call A0 c0 l0 key 2 _ (Kd.C_below HR.out HB.out) hc0 hl').mono ?_
      rintro e wg ⟨rfl, hwg⟩
      subst hwg
      rw [HG1.out]
      by_cases hrep : rep = 2
      · have he := HE1.out
        rw [if_pos hrep] at he
        have ht : ((2 : Int) == rep) = true := by rw [hrep]; rfl
        have ht2 : (rep == (2 : Int)) = true := by rw [hrep]; rfl
        have HEE := Aside0.mk he
        clear hrep he
        cases s with
        | true =>
          go_wp2_with fail
          go_roundw
          case rel => exact ⟨3, true, by omega, by omega, rfl, rfl, ⟨by rw [HN.out]; rfl⟩, ⟨by rw [HEE.out] at *; first | exact blk_put (cs := #[.string key, .int .i64 e0, .int .i64 g1, .int .i64 0, .int .i64 0, .int .i64 0]) (blk_put (cs := #[.string key, .int .i64 e0, .int .i64 0, .int .i64 0, .int .i64 0, .int .i64 0]) BK.out 2 _ rfl) 2 _ rfl | exact blk_put (cs := #[.string key, .int .i64 e0, .int .i64 0, .int .i64 0, .int .i64 0, .int .i64 0]) BK.out 2 _ rfl⟩, ⟨by repeat (first | (with_reducible exact HB.out) | refine below_set ?_ (Nat.le_refl _))⟩⟩
          case measure => simp only [intV]; omega
        | false =>
          go_wp2_with fail
          go_roundw
          case rel => exact ⟨3, _, by omega, by omega, rfl, rfl, ⟨by rw [HN.out, HEE.out]; rfl⟩, ⟨by rw [HEE.out] at *; first | exact blk_put (cs := #[.string key, .int .i64 e0, .int .i64 g1, .int .i64 0, .int .i64 0, .int .i64 0]) (blk_put (cs := #[.string key, .int .i64 e0, .int .i64 0, .int .i64 0, .int .i64 0, .int .i64 0]) BK.out 2 _ rfl) 2 _ rfl | exact blk_put (cs := #[.string key, .int .i64 e0, .int .i64 0, .int .i64 0, .int .i64 0, .int .i64 0]) BK.out 2 _ rfl⟩, ⟨by repeat (first | (with_reducible exact HB.out) | refine below_set ?_ (Nat.le_refl _))⟩⟩
          case measure => simp only [intV]; omega
      · have he := HE1.out
        rw [if_neg hrep] at he
        have ht : ((2 : Int) == rep) = false := beq_eq_false_iff_ne.2 (fun h => hrep h.symm)
        have ht2 : (rep == (2 : Int)) = false := beq_eq_false_iff_ne.2 hrep
        have HEE := Aside0.mk he
        clear hrep he
        cases s with
        | true =>
          go_wp2_with fail
          go_roundw
          case rel => exact ⟨3, true, by omega, by omega, rfl, rfl, ⟨by rw [HN.out]; rfl⟩, ⟨by rw [HEE.out] at *; exact blk_put (cs := #[.string key, .int .i64 e0, .int .i64 0, .int .i64 0, .int .i64 0, .int .i64 0]) BK.out 2 _ rfl⟩, ⟨by repeat (first | (with_reducible exact HB.out) | refine below_set ?_ (Nat.le_refl _))⟩⟩
          case measure => simp only [intV]; omega
        | false =>
          go_wp2_with fail
          go_roundw
          case rel => exact ⟨3, _, by omega, by omega, rfl, rfl, ⟨by rw [HN.out, HEE.out]; rfl⟩, ⟨by rw [HEE.out] at *; exact blk_put (cs := #[.string key, .int .i64 e0, .int .i64 0, .int .i64 0, .int .i64 0, .int .i64 0]) BK.out 2 _ rfl⟩, ⟨by repeat (first | (with_reducible exact HB.out) | refine below_set ?_ (Nat.le_refl _))⟩⟩
          case measure => simp only [intV]; omega
    · have hca : wr.cell? ⟨w.heap.size, 3, none⟩ = some (.int .i64 0) := (blk_cell BK.out 3).trans rfl
      have hfz := blk_frozen BK.out 3
      have HN : Aside0 (someN ⟨e0, e1, e2, e3, e4⟩ (4 - 1 : Int).toNat = (s || !(e2 == 0))) := ⟨by rw [HSM.out]; rfl⟩
      go_wp2_with fail
      refine (getR_call A0 c0 l0 key 3 _ (Kd.C_below HR.out HB.out) hc0 hl').mono ?_
      rintro e wg ⟨rfl, hwg⟩
      subst hwg
      rw [HG2.out]
      by_cases hrep : rep = 3
      · have he := HE2.out
        rw [if_pos hrep] at he
        have ht : ((3 : Int) == rep) = true := by rw [hrep]; rfl
        have ht2 : (rep == (3 : Int)) = true := by rw [hrep]; rfl
        have HEE := Aside0.mk he
        clear hrep he
        cases s with
        | true =>
          go_wp2_with fail
          go_roundw
          case rel => exact ⟨4, true, by omega, by omega, rfl, rfl, ⟨by rw [HN.out]; rfl⟩, ⟨by rw [HEE.out] at *; first | exact blk_put (cs := #[.string key, .int .i64 e0, .int .i64 e1, .int .i64 g2, .int .i64 0, .int .i64 0]) (blk_put (cs := #[.string key, .int .i64 e0, .int .i64 e1, .int .i64 0, .int .i64 0, .int .i64 0]) BK.out 3 _ rfl) 3 _ rfl | exact blk_put (cs := #[.string key, .int .i64 e0, .int .i64 e1, .int .i64 0, .int .i64 0, .int .i64 0]) BK.out 3 _ rfl⟩, ⟨by repeat (first | (with_reducible exact HB.out) | refine below_set ?_ (Nat.le_refl _))⟩⟩
          case measure => simp only [intV]; omega
        | false =>
          go_wp2_with fail
          go_roundw
          case rel => exact ⟨4, _, by omega, by omega, rfl, rfl, ⟨by rw [HN.out, HEE.out]; rfl⟩, ⟨by rw [HEE.out] at *; first | exact blk_put (cs := #[.string key, .int .i64 e0, .int .i64 e1, .int .i64 g2, .int .i64 0, .int .i64 0]) (blk_put (cs := #[.string key, .int .i64 e0, .int .i64 e1, .int .i64 0, .int .i64 0, .int .i64 0]) BK.out 3 _ rfl) 3 _ rfl | exact blk_put (cs := #[.string key, .int .i64 e0, .int .i64 e1, .int .i64 0, .int .i64 0, .int .i64 0]) BK.out 3 _ rfl⟩, ⟨by repeat (first | (with_reducible exact HB.out) | refine below_set ?_ (Nat.le_refl _))⟩⟩
          case measure => simp only [intV]; omega
      · have he := HE2.out
        rw [if_neg hrep] at he
        have ht : ((3 : Int) == rep) = false := beq_eq_false_iff_ne.2 (fun h => hrep h.symm)
        have ht2 : (rep == (3 : Int)) = false := beq_eq_false_iff_ne.2 hrep
        have HEE := Aside0.mk he
        clear hrep he
        cases s with
        | true =>
          go_wp2_with fail
          go_roundw
          case rel => exact ⟨4, true, by omega, by omega, rfl, rfl, ⟨by rw [HN.out]; rfl⟩, ⟨by rw [HEE.out] at *; exact blk_put (cs := #[.string key, .int .i64 e0, .int .i64 e1, .int .i64 0, .int .i64 0, .int .i64 0]) BK.out 3 _ rfl⟩, ⟨by repeat (first | (with_reducible exact HB.out) | refine below_set ?_ (Nat.le_refl _))⟩⟩
          case measure => simp only [intV]; omega
        | false =>
          go_wp2_with fail
          go_roundw
          case rel => exact ⟨4, _, by omega, by omega, rfl, rfl, ⟨by rw [HN.out, HEE.out]; rfl⟩, ⟨by rw [HEE.out] at *; exact blk_put (cs := #[.string key, .int .i64 e0, .int .i64 e1, .int .i64 0, .int .i64 0, .int .i64 0]) BK.out 3 _ rfl⟩, ⟨by repeat (first | (with_reducible exact HB.out) | refine below_set ?_ (Nat.le_refl _))⟩⟩
          case measure => simp only [intV]; omega
    · have hca : wr.cell? ⟨w.heap.size, 4, none⟩ = some (.int .i64 0) := (blk_cell BK.out 4).trans rfl
      have hfz := blk_frozen BK.out 4
      have HN : Aside0 (someN ⟨e0, e1, e2, e3, e4⟩ (5 - 1 : Int).toNat = (s || !(e3 == 0))) := ⟨by rw [HSM.out]; rfl⟩
      go_wp2_with fail
      refine (getR_call A0 c0 l0 key 4 _ (Kd.C_below HR.out HB.out) hc0 hl').mono ?_
      rintro e wg ⟨rfl, hwg⟩
      subst hwg
      rw [HG3.out]
      by_cases hrep : rep = 4
      · have he := HE3.out
        rw [if_pos hrep] at he
        have ht : ((4 : Int) == rep) = true := by rw [hrep]; rfl
        have ht2 : (rep == (4 : Int)) = true := by rw [hrep]; rfl
        have HEE := Aside0.mk he
        clear hrep he
        cases s with
        | true =>
          go_wp2_with fail
          go_roundw
          case rel => exact ⟨5, true, by omega, by omega, rfl, rfl, ⟨by rw [HN.out]; rfl⟩, ⟨by rw [HEE.out] at *; first | exact blk_put (cs := #[.string key, .int .i64 e0, .int .i64 e1, .int .i64 e2, .int .i64 g3, .int .i64 0]) (blk_put (cs := #[.string key, .int .i64 e0, .int .i64 e1, .int .i64 e2, .int .i64 0, .int .i64 0]) BK.out 4 _ rfl) 4 _ rfl | exact blk_put (cs := #[.string key, .int .i64 e0, .int .i64 e1, .int .i64 e2, .int .i64 0, .int .i64 0]) BK.out 4 _ rfl⟩, ⟨by repeat (first | (with_reducible exact HB.out) | refine below_set ?_ (Nat.le_refl _))⟩⟩
          case measure => simp only [intV]; omega
        | false =>
          go_wp2_with fail
          go_roundw
          case rel => exact ⟨5, _, by omega, by omega, rfl, rfl, ⟨by rw [HN.out, HEE.out]; rfl⟩, ⟨by rw [HEE.out] at *; first | exact blk_put (cs := #[.string key, .int .i64 e0, .int .i64 e1, .int .i64 e2, .int .i64 g3, .int .i64 0]) (blk_put (cs := #[.string key, .int .i64 e0, .int .i64 e1, .int .i64 e2, .int .i64 0, .int .i64 0]) BK.out 4 _ rfl) 4 _ rfl | exact blk_put (cs := #[.string key, .int .i64 e0, .int .i64 e1, .int .i64 e2, .int .i64 0, .int .i64 0]) BK.out 4 _ rfl⟩, ⟨by repeat (first | (with_reducible exact HB.out) | refine below_set ?_ (Nat.le_refl _))⟩⟩
          case measure => simp only [intV]; omega
      · have he := HE3.out
        rw [if_neg hrep] at he
        have ht : ((4 : Int) == rep) = false := beq_eq_false_iff_ne.2 (fun h => hrep h.symm)
        have ht2 : (rep == (4 : Int)) = false := beq_eq_false_iff_ne.2 hrep
        have HEE := Aside0.mk he
        clear hrep he
        cases s with
        | true =>
          go_wp2_with fail
          go_roundw
          case rel => exact ⟨5, true, by omega, by omega, rfl, rfl, ⟨by rw [HN.out]; rfl⟩, ⟨by rw [HEE.out] at *; exact blk_put (cs := #[.string key, .int .i64 e0, .int .i64 e1, .int .i64 e2, .int .i64 0, .int .i64 0]) BK.out 4 _ rfl⟩, ⟨by repeat (first | (with_reducible exact HB.out) | refine below_set ?_ (Nat.le_refl _))⟩⟩
          case measure => simp only [intV]; omega
        | false =>
          go_wp2_with fail
          go_roundw
          case rel => exact ⟨5, _, by omega, by omega, rfl, rfl, ⟨by rw [HN.out, HEE.out]; rfl⟩, ⟨by rw [HEE.out] at *; exact blk_put (cs := #[.string key, .int .i64 e0, .int .i64 e1, .int .i64 e2, .int .i64 0, .int .i64 0]) BK.out 4 _ rfl⟩, ⟨by repeat (first | (with_reducible exact HB.out) | refine below_set ?_ (Nat.le_refl _))⟩⟩
          case measure => simp only [intV]; omega
    · have hca : wr.cell? ⟨w.heap.size, 5, none⟩ = some (.int .i64 0) := (blk_cell BK.out 5).trans rfl
      have hfz := blk_frozen BK.out 5
      have HN : Aside0 (someN ⟨e0, e1, e2, e3, e4⟩ (6 - 1 : Int).toNat = (s || !(e4 == 0))) := ⟨by rw [HSM.out]; rfl⟩
      go_wp2_with fail
      refine (getR_call A0 c0 l0 key 5 _ (Kd.C_below HR.out HB.out) hc0 hl').mono ?_
      rintro e wg ⟨rfl, hwg⟩
      subst hwg
      rw [HG4.out]
      by_cases hrep : rep = 5
      · have he := HE4.out
        rw [if_pos hrep] at he
        have ht : ((5 : Int) == rep) = true := by rw [hrep]; rfl
        have ht2 : (rep == (5 : Int)) = true := by rw [hrep]; rfl
        have HEE := Aside0.mk he
        clear hrep he
        cases s with
        | true =>
          go_wp2_with fail
          go_roundw
          case rel => exact ⟨6, true, by omega, by omega, rfl, rfl, ⟨by rw [HN.out]; rfl⟩, ⟨by rw [HEE.out] at *; first | exact blk_put (cs := #[.string key, .int .i64 e0, .int .i64 e1, .int .i64 e2, .int .i64 e3, .int .i64 g4]) (blk_put (cs := #[.string key, .int .i64 e0, .int .i64 e1, .int .i64 e2, .int .i64 e3, .int .i64 0]) BK.out 5 _ rfl) 5 _ rfl | exact blk_put (cs := #[.string key, .int .i64 e0, .int .i64 e1, .int .i64 e2, .int .i64 e3, .int .i64 0]) BK.out 5 _ rfl⟩, ⟨by repeat (first | (with_reducible exact HB.out) | refine below_set ?_ (Nat.le_refl _))⟩⟩
          case measure => simp only [intV]; omega
        | false =>
          go_wp2_with fail
          go_roundw
          case rel => exact ⟨6, _, by omega, by omega, rfl, rfl, ⟨by rw [HN.out, HEE.out]; rfl⟩, ⟨by rw [HEE.out] at *; first | exact blk_put (cs := #[.string key, .int .i64 e0, .int .i64 e1, .int .i64 e2, .int .i64 e3, .int .i64 g4]) (blk_put (cs := #[.string key, .int .i64 e0, .int .i64 e1, .int .i64 e2, .int .i64 e3, .int .i64 0]) BK.out 5 _ rfl) 5 _ rfl | exact blk_put (cs := #[.string key, .int .i64 e0, .int .i64 e1, .int .i64 e2, .int .i64 e3, .int .i64 0]) BK.out 5 _ rfl⟩, ⟨by repeat (first | (with_reducible exact HB.out) | refine below_set ?_ (Nat.le_refl _))⟩⟩
          case measure => simp only [intV]; omega
      · have he := HE4.out
        rw [if_neg hrep] at he
        have ht : ((5 : Int) == rep) = false := beq_eq_false_iff_ne.2 (fun h => hrep h.symm)
        have ht2 : (rep == (5 : Int)) = false := beq_eq_false_iff_ne.2 hrep
        have HEE := Aside0.mk he
        clear hrep he
        cases s with
        | true =>
          go_wp2_with fail
          go_roundw
          case rel => exact ⟨6, true, by omega, by omega, rfl, rfl, ⟨by rw [HN.out]; rfl⟩, ⟨by rw [HEE.out] at *; exact blk_put (cs := #[.string key, .int .i64 e0, .int .i64 e1, .int .i64 e2, .int .i64 e3, .int .i64 0]) BK.out 5 _ rfl⟩, ⟨by repeat (first | (with_reducible exact HB.out) | refine below_set ?_ (Nat.le_refl _))⟩⟩
          case measure => simp only [intV]; omega
        | false =>
          go_wp2_with fail
          go_roundw
          case rel => exact ⟨6, _, by omega, by omega, rfl, rfl, ⟨by rw [HN.out, HEE.out]; rfl⟩, ⟨by rw [HEE.out] at *; exact blk_put (cs := #[.string key, .int .i64 e0, .int .i64 e1, .int .i64 e2, .int .i64 e3, .int .i64 0]) BK.out 5 _ rfl⟩, ⟨by repeat (first | (with_reducible exact HB.out) | refine below_set ?_ (Nat.le_refl _))⟩⟩
          case measure => simp only [intV]; omega
    · have hsm : s = !isZ ⟨e0, e1, e2, e3, e4⟩ := by rw [HSM.out]; exact someN_5 _
      have hRe : R = layA ⟨key, ⟨e0, e1, e2, e3, e4⟩⟩ s l0 := by rw [HRR.out, hsm]
      have HRE := Aside0.mk hRe
      clear hsm hRe HSM HRR
      obtain ⟨wl, hwl⟩ : ∃ wl, wl = wr := ⟨_, rfl⟩
      have HBL : Aside0 (Below w.heap.size w wl) := ⟨by rw [hwl]; exact HB.out⟩
      have BKL : Aside0 (wl.heap[w.heap.size]? = some (.cells #[.string key, .int .i64 e0, .int .i64 e1, .int .i64 e2, .int .i64 e3, .int .i64 e4] 94 (0, 0))) := ⟨by rw [hwl]; exact BK.out⟩
      subst hwl
      have hbox : ∀ W : World, Below wl.heap.size wl W → W.cell? ⟨w.heap.size, 0, none⟩ = some (.string key) ∧ W.cell? ⟨w.heap.size, 1, none⟩ = some (.int .i64 e0) ∧ W.cell? ⟨w.heap.size, 2, none⟩ = some (.int .i64 e1) ∧ W.cell? ⟨w.heap.size, 3, none⟩ = some (.int .i64 e2) ∧ W.cell? ⟨w.heap.size, 4, none⟩ = some (.int .i64 e3) ∧ W.cell? ⟨w.heap.size, 5, none⟩ = some (.int .i64 e4) := fun W hW => by
        have h := blk_below BKL.out hW
        exact ⟨(blk_cell h 0).trans rfl, (blk_cell h 1).trans rfl, (blk_cell h 2).trans rfl, (blk_cell h 3).trans rfl, (blk_cell h 4).trans rfl, (blk_cell h 5).trans rfl⟩
      have HBOX := Aside0.mk hbox
      clear hbox BK HB
      go_wp2_with (((with_reducible refine gate_dst (N := 51) rfl ?_); (try (refine gate_guard (by rfl) ?_; dsimp only)); refine Kd.R_lit k94 _ 94 ?hg (N := 51) ?hd (xs := ([] : List Ac)) (inner := []) (ok := fun _ => True) (okp := fun _ => True) ?hr ?hp (fun _ hk => hk) trivial (Below.refl _ _) (Nat.le_refl _) (by simp) ?_; (case hd => rfl); (case hg => rfl); (case hr => first | (go_simp; done) | (go_simp; rfl)); (case hp => exact (Reps.none _ _)); intro v12 w3 ho3 hb3 hg_ hnew_; clear hg_ hnew_))
      have HV3 := Aside0.mk ho3
      have HB3 := Aside0.mk hb3
      clear ho3 hb3
      generalize hnl : l0.length = n at *
      have HNL := Aside0.mk hnl
      clear hnl
      go_loopw [10, 12, 13] (fun v10 v12 v13 w' => ∃ (xs : List Ac) (sm : Bool) (pos : Nat), v10 = .bool sm ∧ v13 = .int .i64 (pos : Int) ∧ pos ≤ n ∧ xs.length ≤ 2 * pos ∧ Aside0 (xs ++ layA ⟨key, ⟨e0, e1, e2, e3, e4⟩⟩ sm (l0.drop pos) = R) ∧ Aside0 (Kd.R k94 94 w' wl.heap.size (fun _ => True) v12 xs) ∧ Aside0 (Below wl.heap.size wl w')) (fun _ _ v13 _ => ((n : Int) - intV v13).toNat)
      case atStart => exact ⟨[], s, 0, rfl, rfl, Nat.zero_le _, Nat.le_refl _, ⟨by rw [HRE.out]; rfl⟩, HV3, HB3⟩
      case round =>
        obtain ⟨xs, sm, pos, rfl, rfl, hpl, hxl, HE, HV, HB⟩ := hrel
        by_cases hp : pos < n
        · have hp' : decide ((pos : Int) < (n : Int)) = true := by simp; omega
          have hdr : l0.drop pos = rd_T94 l0 (pos : Int) :: l0.drop (pos + 1) := by
            have hp2 : pos < l0.length := by rw [HNL.out]; exact hp
            rw [← List.getElem_cons_drop (h := hp2), rd_getAcc l0 pos hp2]
          have HDR := Aside0.mk hdr
          clear hdr
          have p1 : 0 ≤ (pos : Int) := by omega
          have p2 : (pos : Int) < (n : Int) := by omega
          obtain ⟨ad, e0_, hy0, hy1, hy2, hy3, hy4, hy5⟩ := at_T94 HR.out (pos : Int) p1 p2
          cases e0_
          simp only [Int.toNat_natCast] at hy0 hy1 hy2 hy3 hy4 hy5
          have hw1 : IntKind.i64.wrap ((pos : Int) + 1) = (pos : Int) + 1 := by rw [IntKind.wrap_i64]; omega
          replace p1 := eq_true p1
          replace p2 := eq_true p2
          generalize rd_T94 l0 (pos : Int) = x at *
          obtain ⟨xk, x0, x1, x2, x3, x4⟩ := x
          simp only at hy0 hy1 hy2 hy3 hy4 hy5
          have hcell : ∀ W : World, Below wl.heap.size wl W → W.cell? (ad.add (pos * 6)) = some (.string xk) ∧ W.cell? ⟨(ad.add (pos * 6)).block, (ad.add (pos * 6)).off + 1, none⟩ = some (.int .i64 x0) ∧ W.cell? ⟨(ad.add (pos * 6)).block, (ad.add (pos * 6)).off + 2, none⟩ = some (.int .i64 x1) ∧ W.cell? ⟨(ad.add (pos * 6)).block, (ad.add (pos * 6)).off + 3, none⟩ = some (.int .i64 x2) ∧ W.cell? ⟨(ad.add (pos * 6)).block, (ad.add (pos * 6)).off + 4, none⟩ = some (.int .i64 x3) ∧ W.cell? ⟨(ad.add (pos * 6)).block, (ad.add (pos * 6)).off + 5, none⟩ = some (.int .i64 x4) := fun W hW0 => by
            have hW := below_step HBL.out hW0
            exact ⟨(hW.cell (World.block_lt_of_cell? w _ hy0)).trans hy0, (hW.cell (World.block_lt_of_cell? w _ hy1)).trans hy1, (hW.cell (World.block_lt_of_cell? w _ hy2)).trans hy2, (hW.cell (World.block_lt_of_cell? w _ hy3)).trans hy3, (hW.cell (World.block_lt_of_cell? w _ hy4)).trans hy4, (hW.cell (World.block_lt_of_cell? w _ hy5)).trans hy5⟩
          have HCELL := Aside0.mk hcell
          clear hcell hy0 hy1 hy2 hy3 hy4 hy5
          obtain ⟨hy0, hy1, hy2, hy3, hy4, hy5⟩ := HCELL.out _ HB.out
          obtain ⟨hq0, hq1, hq2, hq3, hq4, hq5⟩ := HBOX.out _ HB.out
          cases sm with
          | false =>
            by_cases hk : xk = key
            · have heq : (xk.toList == key.toList) = true := by rw [hk]; simp
              have heq2 : (xk.toList != key.toList) = false := by rw [bne, heq]; rfl
              have HK := Aside0.mk hk
              clear hk
              go_wp2_with fail
              go_roundw
              case rel =>
                refine ⟨xs, false, pos + 1, rfl, rfl, by omega, by (try simp only [List.length_append, List.length_cons, List.length_nil]); omega, ⟨?_⟩, HV, HB⟩
                rw [← HE.out, HDR.out]
                simp only [layA, Bool.false_and, HK.out, if_true, if_false, List.nil_append] <;> rfl
              case measure => simp only [intV]; omega
            · have heq : (xk.toList == key.toList) = false := beq_eq_false_iff_ne.2 (fun e => hk (bytes_eq e))
              have heq2 : (xk.toList != key.toList) = true := by rw [bne, heq]; rfl
              have HK := Aside0.mk hk
              clear hk
              go_wp2_with ((with_reducible refine gate_builtin (b := .append) (xs := #[.tmp 79, .tmp 84]) rfl ?_); at_builtin; refine Kd.R_append k94 (w0 := wl) wl.heap.size rfl (.tmp 79) (.tmp 84) 59 94 (.agg #[(.string ⟨#[]⟩), (.int .i64 0), (.int .i64 0), (.int .i64 0), (.int .i64 0), (.int .i64 0)]) 56 rfl Try.underlying59 info94 rfl (by decide) (by omega) u12 (xs) ⟨xk, ⟨x0, x1, x2, x3, x4⟩⟩ [.string xk, .int .i64 x0, .int .i64 x1, .int .i64 x2, .int .i64 x3, .int .i64 x4] (fun _ => True) (fun _ => False) rfl rfl ?aP (fun _ hk => hk.elim) ?aF ?aO ?aB ?aS ?aL ?_; (case aP => exact k94_mkM _ _ _ ⟨xk, ⟨x0, x1, x2, x3, x4⟩⟩); (case aF => exact fun _ _ => trivial); (case aO => exact HV.out); (case aB => exact HB.out); (case aS => exact below_size HB.out); (case aL => (try simp only [List.length_append, List.length_cons, List.length_nil]); omega); intro v8 w8 ho8 hb8 hg8 hat8; have HV8 := Aside0.mk ho8; have HB8 := Aside0.mk hb8; clear ho8 hb8 hg8 hat8)
              go_roundw
              case rel =>
                refine ⟨_, false, pos + 1, rfl, rfl, by omega, by (try simp only [List.length_append, List.length_cons, List.length_nil]); omega, ⟨?_⟩, HV8, HB8⟩
                rw [← HE.out, HDR.out]
                simp only [layA, Bool.false_and, if_neg HK.out, if_false, List.nil_append, List.append_assoc] <;> rfl
              case measure => simp only [intV]; omega
          | true =>
            cases hb : blt xk key with
            | true =>
              have hb' : Op.bytesLess xk.toList key.toList = true := hb
              have hk : xk ≠ key := fun e => by rw [e, blt_irrefl] at hb; cases hb
              have heq : (xk.toList == key.toList) = false := beq_eq_false_iff_ne.2 (fun e => hk (bytes_eq e))
              have heq2 : (xk.toList != key.toList) = true := by rw [bne, heq]; rfl
              have HK := Aside0.mk hk
              have HBB := Aside0.mk hb
              clear hk hb
              go_wp2_with ((with_reducible refine gate_builtin (b := .append) (xs := #[.tmp 79, .tmp 84]) rfl ?_); at_builtin; refine Kd.R_append k94 (w0 := wl) wl.heap.size rfl (.tmp 79) (.tmp 84) 59 94 (.agg #[(.string ⟨#[]⟩), (.int .i64 0), (.int .i64 0), (.int .i64 0), (.int .i64 0), (.int .i64 0)]) 56 rfl Try.underlying59 info94 rfl (by decide) (by omega) u12 (xs) ⟨xk, ⟨x0, x1, x2, x3, x4⟩⟩ [.string xk, .int .i64 x0, .int .i64 x1, .int .i64 x2, .int .i64 x3, .int .i64 x4] (fun _ => True) (fun _ => False) rfl rfl ?aP (fun _ hk => hk.elim) ?aF ?aO ?aB ?aS ?aL ?_; (case aP => exact k94_mkM _ _ _ ⟨xk, ⟨x0, x1, x2, x3, x4⟩⟩); (case aF => exact fun _ _ => trivial); (case aO => exact HV.out); (case aB => exact HB.out); (case aS => exact below_size HB.out); (case aL => (try simp only [List.length_append, List.length_cons, List.length_nil]); omega); intro v8 w8 ho8 hb8 hg8 hat8; have HV8 := Aside0.mk ho8; have HB8 := Aside0.mk hb8; clear ho8 hb8 hg8 hat8)
              go_roundw
              case rel =>
                refine ⟨_, true, pos + 1, rfl, rfl, by omega, by (try simp only [List.length_append, List.length_cons, List.length_nil]); omega, ⟨?_⟩, HV8, HB8⟩
                rw [← HE.out, HDR.out]
                simp only [layA, Bool.true_and, HBB.out, Bool.not_true, if_neg HK.out, if_false, List.nil_append, List.append_assoc] <;> rfl
              case measure => simp only [intV]; omega
            | false =>
              have hb' : Op.bytesLess xk.toList key.toList = false := hb
              by_cases hk : xk = key
              · have heq : (xk.toList == key.toList) = true := by rw [hk]; simp
                have heq2 : (xk.toList != key.toList) = false := by rw [bne, heq]; rfl
                have HK := Aside0.mk hk
                have HBB := Aside0.mk hb
                clear hk hb
                go_wp2_with ((with_reducible refine gate_builtin (b := .append) (xs := #[.tmp 68, .tmp 70]) rfl ?_); at_builtin; refine Kd.R_append k94 (w0 := wl) wl.heap.size rfl (.tmp 68) (.tmp 70) 59 94 (.agg #[(.string ⟨#[]⟩), (.int .i64 0), (.int .i64 0), (.int .i64 0), (.int .i64 0), (.int .i64 0)]) 56 rfl Try.underlying59 info94 rfl (by decide) (by omega) u12 (xs) ⟨key, ⟨e0, e1, e2, e3, e4⟩⟩ [.string key, .int .i64 e0, .int .i64 e1, .int .i64 e2, .int .i64 e3, .int .i64 e4] (fun _ => True) (fun _ => False) rfl rfl ?aP (fun _ hk => hk.elim) ?aF ?aO ?aB ?aS ?aL ?_; (case aP => exact k94_mkM _ _ _ ⟨key, ⟨e0, e1, e2, e3, e4⟩⟩); (case aF => exact fun _ _ => trivial); (case aO => exact HV.out); (case aB => exact HB.out); (case aS => exact below_size HB.out); (case aL => (try simp only [List.length_append, List.length_cons, List.length_nil]); omega); intro v9 w9 ho9 hb9 hg9 hat9; have HV9 := Aside0.mk ho9; have HB9 := Aside0.mk hb9; clear ho9 hb9 hg9 hat9; obtain ⟨hz0, hz1, hz2, hz3, hz4, hz5⟩ := HCELL.out _ HB9.out)
                go_roundw
                case rel =>
                  refine ⟨_, false, pos + 1, rfl, rfl, by omega, by (try simp only [List.length_append, List.length_cons, List.length_nil]); omega, ⟨?_⟩, HV9, HB9⟩
                  rw [← HE.out, HDR.out]
                  simp only [layA, Bool.true_and, HK.out, blt_irrefl, Bool.not_false, if_true, List.nil_append, List.append_assoc] <;> rfl
                case measure => simp only [intV]; omega
              · have heq : (xk.toList == key.toList) = false := beq_eq_false_iff_ne.2 (fun e => hk (bytes_eq e))
                have heq2 : (xk.toList != key.toList) = true := by rw [bne, heq]; rfl
                have HK := Aside0.mk hk
                have HBB := Aside0.mk hb
                clear hk hb
                go_wp2_with (first | ((with_reducible refine gate_builtin (b := .append) (xs := #[.tmp 68, .tmp 70]) rfl ?_); at_builtin; refine Kd.R_append k94 (w0 := wl) wl.heap.size rfl (.tmp 68) (.tmp 70) 59 94 (.agg #[(.string ⟨#[]⟩), (.int .i64 0), (.int .i64 0), (.int .i64 0), (.int .i64 0), (.int .i64 0)]) 56 rfl Try.underlying59 info94 rfl (by decide) (by omega) u12 (xs) ⟨key, ⟨e0, e1, e2, e3, e4⟩⟩ [.string key, .int .i64 e0, .int .i64 e1, .int .i64 e2, .int .i64 e3, .int .i64 e4] (fun _ => True) (fun _ => False) rfl rfl ?aP (fun _ hk => hk.elim) ?aF ?aO ?aB ?aS ?aL ?_; (case aP => exact k94_mkM _ _ _ ⟨key, ⟨e0, e1, e2, e3, e4⟩⟩); (case aF => exact fun _ _ => trivial); (case aO => exact HV.out); (case aB => exact HB.out); (case aS => exact below_size HB.out); (case aL => (try simp only [List.length_append, List.length_cons, List.length_nil]); omega); intro v9 w9 ho9 hb9 hg9 hat9; have HV9 := Aside0.mk ho9; have HB9 := Aside0.mk hb9; clear ho9 hb9 hg9 hat9; obtain ⟨hz0, hz1, hz2, hz3, hz4, hz5⟩ := HCELL.out _ HB9.out) | ((with_reducible refine gate_builtin (b := .append) (xs := #[.tmp 79, .tmp 84]) rfl ?_); at_builtin; refine Kd.R_append k94 (w0 := wl) wl.heap.size rfl (.tmp 79) (.tmp 84) 59 94 (.agg #[(.string ⟨#[]⟩), (.int .i64 0), (.int .i64 0), (.int .i64 0), (.int .i64 0), (.int .i64 0)]) 56 rfl Try.underlying59 info94 rfl (by decide) (by omega) v9 (xs ++ [⟨key, ⟨e0, e1, e2, e3, e4⟩⟩]) ⟨xk, ⟨x0, x1, x2, x3, x4⟩⟩ [.string xk, .int .i64 x0, .int .i64 x1, .int .i64 x2, .int .i64 x3, .int .i64 x4] (fun _ => True) (fun _ => False) rfl rfl ?aP (fun _ hk => hk.elim) ?aF ?aO ?aB ?aS ?aL ?_; (case aP => exact k94_mkM _ _ _ ⟨xk, ⟨x0, x1, x2, x3, x4⟩⟩); (case aF => exact fun _ _ => trivial); (case aO => exact HV9.out); (case aB => exact HB9.out); (case aS => exact below_size HB9.out); (case aL => (try simp only [List.length_append, List.length_cons, List.length_nil]); omega); intro v8 w8 ho8 hb8 hg8 hat8; have HV8 := Aside0.mk ho8; have HB8 := Aside0.mk hb8; clear ho8 hb8 hg8 hat8))
                go_roundw
                case rel =>
                  refine ⟨_, false, pos + 1, rfl, rfl, by omega, by (try simp only [List.length_append, List.length_cons, List.length_nil]); omega, ⟨?_⟩, HV8, HB8⟩
                  rw [← HE.out, HDR.out]
                  simp only [layA, Bool.true_and, HBB.out, Bool.not_false, if_neg HK.out, if_true, List.append_assoc] <;> rfl
                case measure => simp only [intV]; omega
        · have hp' : decide ((pos : Int) < (n : Int)) = false := by simp; omega
          have hE := HE.out
          rw [List.drop_eq_nil_of_le (by rw [HNL.out]; omega)] at hE
          obtain ⟨hq0, hq1, hq2, hq3, hq4, hq5⟩ := HBOX.out _ HB.out
          cases sm with
          | false =>
            have hR : R = xs := by rw [← hE]; simp [layA]
            have HR2 := Aside0.mk hR
            clear hE hR
            go_wp2_with fail
            go_ret
            exact ⟨_, rfl, HR2.out ▸ Kd.R_lower HV.out (below_size HBL.out), below_step HBL.out HB.out⟩
          | true =>
            have hR : R = xs ++ [⟨key, ⟨e0, e1, e2, e3, e4⟩⟩] := by rw [← hE]; simp [layA]
            have HR2 := Aside0.mk hR
            clear hE hR
            go_wp2_with ((with_reducible refine gate_builtin (b := .append) (xs := #[.tmp 87, .tmp 89]) rfl ?_); at_builtin; refine Kd.R_append k94 (w0 := wl) wl.heap.size rfl (.tmp 87) (.tmp 89) 59 94 (.agg #[(.string ⟨#[]⟩), (.int .i64 0), (.int .i64 0), (.int .i64 0), (.int .i64 0), (.int .i64 0)]) 56 rfl Try.underlying59 info94 rfl (by decide) (by omega) u12 (xs) ⟨key, ⟨e0, e1, e2, e3, e4⟩⟩ [.string key, .int .i64 e0, .int .i64 e1, .int .i64 e2, .int .i64 e3, .int .i64 e4] (fun _ => True) (fun _ => False) rfl rfl ?aP (fun _ hk => hk.elim) ?aF ?aO ?aB ?aS ?aL ?_; (case aP => exact k94_mkM _ _ _ ⟨key, ⟨e0, e1, e2, e3, e4⟩⟩); (case aF => exact fun _ _ => trivial); (case aO => exact HV.out); (case aB => exact HB.out); (case aS => exact below_size HB.out); (case aL => (try simp only [List.length_append, List.length_cons, List.length_nil]); omega); intro v9 w9 ho9 hb9 hg9 hat9; have HV9 := Aside0.mk ho9; have HB9 := Aside0.mk hb9; clear ho9 hb9 hg9 hat9)
            go_ret
            exact ⟨_, rfl, HR2.out ▸ Kd.R_lower HV9.out (below_size HBL.out), below_step HBL.out HB9.out⟩
theorem hucksterref11_Add.calls (A0 : Option Addr) (c0 : Nat) (l0 : List Ac) (a1 : ByteArray) (a2 : Int) (a3 : Int) (r1 : List Ac) (w : World) (hr0 : Kd.C k94 w A0 l0.length l0) (hc0 : l0.length ≤ c0) (h : hucksterref11_Add.f l0 a1 a2 a3 = some r1) :
    Calls Try.prog 46 #[.slice A0 l0.length c0, .string a1, .int .i64 a2, .int .i64 a3] w fun e w' => ∃ v0_ : Value, e = .returned v0_ ∧ Kd.R k94 94 w' w.heap.size (fun _ => True) v0_ r1 ∧ Below w.heap.size w w' := by
  unfold hucksterref11_Add.f at h
  split at h
  · rename_i hh
    obtain ⟨h1, h2, h3, h4, h5⟩ := hh
    injection h with h
    subst h
    exact refAdd_call A0 c0 l0 a1 a2 a3 w hr0 hc0 h1 h2 h3 h4 h5
  · cases h
end Go.Proofs.Ytfnpiclioikjpaa.X

/- Slices that come in, opened element by element. -/
set_option linter.unusedSimpArgs false
set_option linter.unusedVariables false
namespace Go.Proofs.Ytfnpiclioikjpaa.X
open Go.RowKit Go.Proofs.YtfnpiclioikjpaaW.PrintWords Go.ChangeShapes Go.WideShapes Go.Deep
theorem list_of {α : Type} {R : Nat → α → Prop} : ∀ n : Nat, (∀ i, i < n → ∃ z, R i z) → ∃ zs : List α, zs.length = n ∧ ∀ j p, zs[j]? = some p → R j p := by
  intro n
  induction n with
  | zero => intro _; exact ⟨[], rfl, fun j p h => by simp at h⟩
  | succ n ih =>
    intro h
    obtain ⟨zs, hl, hz⟩ := ih (fun i hi => h i (by omega))
    obtain ⟨z, hr⟩ := h n (by omega)
    refine ⟨zs ++ [z], by simp [hl], fun j p hj => ?_⟩
    rcases Nat.lt_trichotomy j n with h1 | h1 | h1
    · rw [List.getElem?_append_left (by omega)] at hj
      exact hz j p hj
    · subst h1
      rw [List.getElem?_append_right (by omega), hl, Nat.sub_self] at hj
      injection hj with hj
      subst hj
      exact hr
    · rw [List.getElem?_eq_none (by simp [hl]; omega)] at hj
      cases hj
/-- The cells of a row, as the printer's facts have them; good: what is known of each element. -/
def RowIs {α : Type} (K : α → List Value) (good : α → Prop) (sz : Nat) (w : World) (A : Option Addr) (len cap : Nat) (zs : List α) : Prop :=
  len ≤ cap ∧ len ≤ 9223372036854775807 ∧ zs.length = len ∧ (∀ z ∈ zs, good z) ∧ (0 < len → ∃ ad, A = some ad ∧ ∀ j p, zs[j]? = some p → (K p).length = sz ∧ ∀ i u, (K p)[i]? = some u → w.cell? (ad.add (j * sz + i)) = some u)
theorem open_rowOf {H : Type} {enc : TypeId × Value → H} {P : Program} {w : World} {spare : Nat → Bool} {held : Bool} {t e : TypeId} {v : Value} {d : DataW H} {p : List MemPlace} {α : Type} (K : α → List Value) (good : α → Prop) (sz : Nat) (hsz : P.cellsOf e = sz)
    (ht : P.underlying t = some (.slice e)) (hel : ∀ (n : Nat) (cs : List Value) (x : DataW H × List MemPlace), DataW.trod enc P w 0 spare held n e cs = some x → ∃ z : α, cs = K z ∧ good z) (a : Option Addr) (l c : Nat) (hv : v = .slice a l c)
    (h : DataW.Trod enc P w 0 spare held t v d p) : ∃ zs, RowIs K good sz w a l c zs := by
  subst hv
  obtain ⟨fuel, hf⟩ := h
  rcases open_slice ht hf with ⟨hcs, _⟩ | ⟨x, l', c', m, n, D, Pl, hcs, _, hl, hm, hmm, _, hi⟩
  · simp [Value.cells] at hcs
    obtain ⟨rfl, rfl, rfl⟩ := hcs
    exact ⟨[], ⟨Nat.le_refl 0, Nat.zero_le _, rfl, (fun z hz => by simp at hz), (fun h => absurd h (by omega))⟩⟩
  · simp [Value.cells] at hcs
    obtain ⟨rfl, rfl, rfl⟩ := hcs
    have hlm : l ≤ m := by rw [hmm]; split <;> omega
    obtain ⟨zs, hzl, hz⟩ := list_of (R := fun i z => good z ∧ (K z).length = sz ∧ ∀ j u, (K z)[j]? = some u → w.cell? (x.add (i * sz + j)) = some u) l (fun i hil => by
      obtain ⟨cs', hc, hd⟩ := hi i (by omega)
      obtain ⟨z, rfl, hg⟩ := hel n cs' _ hd
      rw [hsz] at hc
      obtain ⟨_, hlen, hat⟩ := World.cells?_some hc
      refine ⟨z, hg, hlen, fun j u hj => ?_⟩
      have hjl : j < sz := by rw [← hlen]; exact (List.getElem?_eq_some_iff.1 hj).1
      have := hat j hjl
      rw [Go.Deep.add_add] at this
      rw [this, hj])
    refine ⟨zs, hl, ?_, hzl, fun z hz' => ?_, fun _ => ⟨x, rfl, fun j p hj => (hz j p hj).2⟩⟩
    · simp only [maxLen] at hm; omega
    · obtain ⟨j, hj, rfl⟩ := List.mem_iff_getElem.1 hz'
      exact (hz j _ (List.getElem?_eq_getElem hj)).1
theorem struct_fields {H : Type} {enc : TypeId × Value → H} {P : Program} {w : World} {base : Nat} {spare : Nat → Bool} {held : Bool} {m : Nat} {fs : Array Field} {cs : List Value} {xs : List (DataW H × List MemPlace)} (hone : oneCellFields P fs = true)
    (hf : ∀ (i : Nat) (f : Field), fs[i]? = some f → DataW.trod enc P w base spare held m f.type ((cs.drop f.offset).take (P.cellsOf f.type)) = xs[i]?) :
    ∀ (i : Nat) (f : Field), fs[i]? = some f → DataW.trod enc P w base spare held m f.type ((cs.drop i).take 1) = xs[i]? := by
  intro i f hi
  have h1 := hf i f hi
  obtain ⟨ho, hk⟩ := hone_of hone i f hi
  rw [ho, hk] at h1
  exact h1
theorem take1 {cs : List Value} {i : Nat} {v : Value} (h : (cs.drop i).take 1 = [v]) : cs[i]? = some v := by
  have := congrArg (fun l => l[0]?) h
  simpa using this
theorem open_u8 {H : Type} {enc : TypeId × Value → H} {P : Program} {w : World} {spare : Nat → Bool} {held : Bool} {e : TypeId} (he : P.underlying e = some (.int .u8)) :
    ∀ (n : Nat) (cs : List Value) (x : DataW H × List MemPlace), DataW.trod enc P w 0 spare held n e cs = some x → ∃ z : Int, cs = [.int .u8 z] ∧ (0 ≤ z ∧ z ≤ 255) := by
  intro n cs x h
  obtain ⟨z, rfl, _, hw⟩ := DataW.trod_int he h
  refine ⟨z, rfl, ?_⟩
  simp [Lit.wf, IntKind.min, IntKind.max, IntKind.wrap, IntKind.bits, IntKind.signed] at hw
  omega
theorem row_C {α : Type} {d : Kd α} {K : α → List Value} {good : α → Prop} {sz : Nat} (hs : d.sz = sz) {w : World} (hK : ∀ z, d.K w z (K z)) {A : Option Addr} {len cap : Nat} {zs : List α} (h : RowIs K good sz w A len cap zs) : Kd.C d w A len zs := by
  subst hs
  refine ⟨h.2.2.1, h.2.1, fun h0 => ?_⟩
  obtain ⟨ad, e, hc⟩ := h.2.2.2.2 h0
  exact ⟨ad, e, fun j p hj => ⟨K p, (hc j p hj).1, hK p, (hc j p hj).2⟩⟩
end Go.Proofs.Ytfnpiclioikjpaa.X

/- Accounts that come in. -/
set_option linter.unusedSimpArgs false
set_option linter.unusedVariables false
namespace Go.Proofs.Ytfnpiclioikjpaa.X
open Go.RowKit Go.Proofs.YtfnpiclioikjpaaW.PrintWords Go.ChangeShapes Go.WideShapes Go.Deep

theorem open5 {H : Type} {enc : TypeId × Value → H} {w : World} {spare : Nat → Bool} {held : Bool} (n : Nat) (cs : List Value) (x : DataW H × List MemPlace) (h : DataW.trod enc Try.prog w 0 spare held n 92 cs = some x) :
    ∃ z : S92, cs = [.int .i64 z.f0, .int .i64 z.f1, .int .i64 z.f2, .int .i64 z.f3, .int .i64 z.f4] := by
  obtain ⟨xs, m, rfl, _, hl, hxl, hf⟩ := DataW.trod_array Try.underlying92 h
  have hl' : cs.length = 5 := hl.trans (by kernel_rfl)
  have hc : Try.prog.cellsOf 3 = 1 := by kernel_rfl
  have hg : ∀ i (hi : i < 5), ∃ s, cs[i]? = some (.int .i64 s) := by
    intro i hi
    have h1 := hf i hi
    rw [hc, Nat.mul_one] at h1
    rw [List.getElem?_eq_getElem (by omega)] at h1
    obtain ⟨s, g, _, _⟩ := DataW.trod_int Try.underlying3 h1
    exact ⟨s, take1 g⟩
  obtain ⟨s0, c0⟩ := hg 0 (by omega)
  obtain ⟨s1, c1⟩ := hg 1 (by omega)
  obtain ⟨s2, c2⟩ := hg 2 (by omega)
  obtain ⟨s3, c3⟩ := hg 3 (by omega)
  obtain ⟨s4, c4⟩ := hg 4 (by omega)
  refine ⟨⟨s0, s1, s2, s3, s4⟩, ?_⟩
  apply List.ext_getElem?
  intro j
  rcases j with _ | _ | _ | _ | _ | j
  · exact c0
  · exact c1
  · exact c2
  · exact c3
  · exact c4
  · rw [List.getElem?_eq_none (by omega)]; rfl
theorem openAcc {H : Type} {enc : TypeId × Value → H} {w : World} {spare : Nat → Bool} {held : Bool} :
    ∀ (n : Nat) (cs : List Value) (x : DataW H × List MemPlace), DataW.trod enc Try.prog w 0 spare held n 94 cs = some x → ∃ z : S94, cs = cellAcc z ∧ True := by
  intro n cs x h
  obtain ⟨xs, m, rfl, rfl, hl, hxl, hf⟩ := DataW.trod_struct Try.underlying94 h
  have hl' : cs.length = 6 := hl.trans (by kernel_rfl)
  have hxl' : xs.length = 2 := hxl
  have c9 : Try.prog.cellsOf 9 = 1 := by kernel_rfl
  have c5 : Try.prog.cellsOf 92 = 5 := by kernel_rfl
  have e0 : DataW.trod enc Try.prog w 0 spare held m 9 (List.take (Try.prog.cellsOf 9) (List.drop 0 cs)) = xs[0]? := hf 0 _ rfl
  rw [c9, List.drop_zero] at e0
  rw [List.getElem?_eq_getElem (by omega)] at e0
  obtain ⟨s0, g0, _, _⟩ := DataW.trod_string Try.underlying9 e0
  have e1 : DataW.trod enc Try.prog w 0 spare held m 92 (List.take (Try.prog.cellsOf 92) (List.drop 1 cs)) = xs[1]? := hf 1 _ rfl
  rw [c5] at e1
  rw [List.getElem?_eq_getElem (by omega)] at e1
  obtain ⟨z, hz⟩ := open5 _ _ _ e1
  have h5 : cs.drop 1 = [.int .i64 z.f0, .int .i64 z.f1, .int .i64 z.f2, .int .i64 z.f3, .int .i64 z.f4] := by
    rw [← hz]
    exact (List.take_of_length_le (by rw [List.length_drop]; omega)).symm
  refine ⟨⟨s0, z⟩, ?_, trivial⟩
  cases cs with
  | nil => simp at hl'
  | cons c cs =>
    simp only [List.drop_succ_cons, List.drop_zero] at h5
    simp only [List.take_succ_cons, List.take_zero, List.cons.injEq] at g0
    rw [g0.1, h5]
    rfl
theorem CAcc {w : World} {A : Option Addr} {len cap : Nat} {zs : List S94} (h : RowIs cellAcc (fun _ => True) 6 w A len cap zs) : Kd.C k94 w A len zs := row_C rfl (fun z => k94_mk w z) h
end Go.Proofs.Ytfnpiclioikjpaa.X

/- A deed that comes in. -/
set_option linter.unusedSimpArgs false
set_option linter.unusedVariables false
namespace Go.Proofs.Ytfnpiclioikjpaa.X
open Go.RowKit Go.Proofs.YtfnpiclioikjpaaW.PrintWords Go.ChangeShapes Go.WideShapes Go.Deep

def cellDeed (k : ByteArray) (a b c : Int) : List Value := [.string k, .int .i64 a, .int .i64 b, .int .i64 c]
theorem openDeed {H : Type} {enc : TypeId × Value → H} {w : World} {spare : Nat → Bool} {held : Bool} :
    ∀ (n : Nat) (cs : List Value) (x : DataW H × List MemPlace), DataW.trod enc Try.prog w 0 spare held n 61 cs = some x → ∃ k a b c, cs = cellDeed k a b c := by
  intro n cs x h
  obtain ⟨xs, m, rfl, rfl, hl, hxl, hf⟩ := DataW.trod_struct Try.underlying61 h
  have hl' : cs.length = 4 := hl.trans (by kernel_rfl)
  have hxl' : xs.length = 4 := hxl
  have hf' := struct_fields (by kernel_rfl) hf
  have e0 := hf' 0 _ rfl
  rw [List.getElem?_eq_getElem (by omega)] at e0
  obtain ⟨s0, g0, _, _⟩ := DataW.trod_string Try.underlying9 e0
  have c0 : cs[0]? = some (.string s0) := take1 g0
  have e1 := hf' 1 _ rfl
  rw [List.getElem?_eq_getElem (by omega)] at e1
  obtain ⟨s1, g1, _, _⟩ := DataW.trod_int Try.underlying3 e1
  have c1 : cs[1]? = some (.int .i64 s1) := take1 g1
  have e2 := hf' 2 _ rfl
  rw [List.getElem?_eq_getElem (by omega)] at e2
  obtain ⟨s2, g2, _, _⟩ := DataW.trod_int Try.underlying3 e2
  have c2 : cs[2]? = some (.int .i64 s2) := take1 g2
  have e3 := hf' 3 _ rfl
  rw [List.getElem?_eq_getElem (by omega)] at e3
  obtain ⟨s3, g3, _, _⟩ := DataW.trod_int Try.underlying3 e3
  have c3 : cs[3]? = some (.int .i64 s3) := take1 g3
  refine ⟨s0, s1, s2, s3, ?_⟩
  apply List.ext_getElem?
  intro j
  rcases j with _ | _ | _ | _ | j
  · exact c0
  · exact c1
  · exact c2
  · exact c3
  · rw [List.getElem?_eq_none (by omega)]; rfl
end Go.Proofs.Ytfnpiclioikjpaa.X

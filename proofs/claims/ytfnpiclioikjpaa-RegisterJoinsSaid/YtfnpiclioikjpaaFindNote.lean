/- find among Notes: by halves. -/
import Derived.Test.YtfnpiclioikjpaaCmp
set_option linter.unusedSimpArgs false
set_option linter.unusedVariables false
namespace Go.Proofs.Ytfnpiclioikjpaa.X
open Go.RowKit Go.Proofs.YtfnpiclioikjpaaW.PrintWords

set_option maxHeartbeats 1000000 in
set_option maxRecDepth 100000 in
theorem find1Note (x : S24) (key : ByteArray) (w : World) :
    Calls Try.prog 73 #[.agg #[.string x.f0, .int .i64 x.f1, .int .i64 x.f2, .string x.f3], .string key] w fun e w' => e = .returned (.int .i64 (bcmp x.f0 key)) ∧ Below w.heap.size w w' := by
  go_enter Try.func73, Try.ntmps73
  go_wp2_with fail
  refine (stringsCompare _ _ _).mono ?_
  rintro e w' ⟨rfl, rfl⟩
  go_wp2_with fail
  go_ret
  exact ⟨rfl, below_alloc (Below.refl _ _) _⟩

def ksNote (l : List S24) : List ByteArray := l.map (·.f0)
theorem ksNote_get (l : List S24) (i : Nat) (h : i < l.length) : (ksNote l)[i]'(by simpa [ksNote] using h) = (rd_T24 l (i : Int)).f0 := by
  unfold ksNote rd_T24
  simp [List.getD, h]
/-- Is the key at its place? -/
def hasNote (l : List S24) (key : ByteArray) : Bool := decide (posK (ksNote l) key < l.length) && ((rd_T24 l (posK (ksNote l) key : Int)).f0.toList == key.toList)

def intV : Value → Int
  | .int _ a => a
  | _ => 0
set_option maxHeartbeats 4000000 in
set_option maxRecDepth 100000 in
theorem bsfNote (A : Option Addr) (c : Nat) (l : List S24) (key : ByteArray) (w : World) (hr : Kd.C k24 w A l.length l) (hc : l.length ≤ c) (hn : l.length ≤ 4000000000) (ho : OrdK (ksNote l)) :
    Calls Try.prog 72 #[.slice A l.length c, .string key, .func (.func 73) #[] #[]] w fun e w' => e = .returned (.tuple #[.int .i64 (posK (ksNote l) key : Nat), .bool (hasNote l key)]) ∧ Below w.heap.size w w' := by
  have hkl : (ksNote l).length = l.length := by simp [ksNote]
  have hhas : hasNote l key = (decide (posK (ksNote l) key < l.length) && ((rd_T24 l (posK (ksNote l) key : Int)).f0.toList == key.toList)) := rfl
  have hget : ∀ k (h : k < (ksNote l).length), (ksNote l)[k] = (rd_T24 l (k : Int)).f0 := fun k h => ksNote_get l k (by simpa [ksNote] using h)
  generalize hnl : l.length = n at *
  have HNL := Aside0.mk hkl
  have HR := Aside0.mk hr
  have HO := Aside0.mk ho
  have HH := Aside0.mk hhas
  have HG := Aside0.mk hget
  clear hr ho hnl hkl hhas hget
  go_enter Try.func72, Try.ntmps72
  go_wp2
  go_loopw [9, 10] (fun v9 v10 w' => ∃ (i j : Nat), v9 = .int .i64 (i : Int) ∧ v10 = .int .i64 (j : Int) ∧ i ≤ j ∧ j ≤ n ∧ Aside0 (∀ k (hk : k < (ksNote l).length), k < i → blt (ksNote l)[k] key = true) ∧ Aside0 (∀ k (hk : k < (ksNote l).length), j ≤ k → blt (ksNote l)[k] key = false) ∧ Aside0 (Below w.heap.size w w')) (fun v9 v10 _ => (intV v10 - intV v9).toNat)
  case atStart => exact ⟨0, n, rfl, rfl, by omega, by omega, ⟨fun k hk h => absurd h (by omega)⟩, ⟨fun k hk h => absurd h (by have := HNL.out; omega)⟩, ⟨Below.refl _ _⟩⟩
  case round =>
    obtain ⟨i, j, rfl, rfl, hij, hj, HA, HZ, HB⟩ := hrel
    by_cases hlt : i < j
    · have hlt' : decide ((i : Int) < (j : Int)) = true := by simp; omega
      obtain ⟨m, hm⟩ : ∃ m, m = (i + j) / 2 := ⟨_, rfl⟩
      have hw1 : IntKind.i64.wrap ((i : Int) + (j : Int)) = (i : Int) + (j : Int) := by rw [IntKind.wrap_i64]; omega
      have hw2 : IntKind.u64.wrap ((i : Int) + (j : Int)) = (i : Int) + (j : Int) := by simp [IntKind.wrap, IntKind.bits, IntKind.signed]; omega
      have hw3 : ((i : Int) + (j : Int)) / 2 = (m : Int) := by omega
      have hw4 : wrap64 (m : Int) = (m : Int) := by unfold wrap64; omega
      have hw5 : IntKind.i64.wrap ((m : Int) + 1) = (m : Int) + 1 := by rw [IntKind.wrap_i64]; omega
      have p : 0 ≤ (m : Int) := by omega
      have q : (m : Int) < (n : Int) := by omega
      obtain ⟨ad, e0, hx0, hx1, hx2, hx3⟩ := at_T24 HR.out (m : Int) p q
      cases e0
      simp only [Int.toNat_natCast] at hx0 hx1 hx2 hx3
      have hB := HB.out
      replace hx0 := (hB.cell (World.block_lt_of_cell? w _ hx0)).trans hx0; replace hx1 := (hB.cell (World.block_lt_of_cell? w _ hx1)).trans hx1; replace hx2 := (hB.cell (World.block_lt_of_cell? w _ hx2)).trans hx2; replace hx3 := (hB.cell (World.block_lt_of_cell? w _ hx3)).trans hx3
      clear hB
      replace p := eq_true p
      replace q := eq_true q
      have him : i ≤ m := by omega
      have hmj : m < j := by omega
      clear hm
      cases hcmp : blt (rd_T24 l (m : Int)).f0 key with
      | true =>
        have hd : decide (bcmp (rd_T24 l (m : Int)).f0 key < 0) = true := decide_eq_true ((bcmp_lt _ _).2 hcmp)
        go_wp2_with fail
        refine (find1Note (rd_T24 l (m : Int)) key _).mono ?_
        rintro e w' ⟨rfl, hb⟩
        go_wp2_with fail
        go_roundw
        case rel =>
          refine ⟨m + 1, j, rfl, rfl, by omega, hj, ⟨fun k hk h => ?_⟩, HZ, ⟨below_step HB.out hb⟩⟩
          have hml : m < (ksNote l).length := by have := HNL.out; omega
          have hmk : blt (ksNote l)[m] key = true := by rw [HG.out m hml]; exact hcmp
          rcases Nat.lt_or_ge k m with h1 | h1
          · exact blt_trans (ordK_get HO.out k m h1 hml) hmk
          · obtain rfl : k = m := by omega
            exact hmk
        case measure => simp only [intV]; omega
      | false =>
        have hd : decide (bcmp (rd_T24 l (m : Int)).f0 key < 0) = false := decide_eq_false (fun h => by rw [(bcmp_lt _ _).1 h] at hcmp; cases hcmp)
        go_wp2_with fail
        refine (find1Note (rd_T24 l (m : Int)) key _).mono ?_
        rintro e w' ⟨rfl, hb⟩
        go_wp2_with fail
        go_roundw
        case rel =>
          refine ⟨i, m, rfl, rfl, by omega, by omega, HA, ⟨fun k hk h => ?_⟩, ⟨below_step HB.out hb⟩⟩
          have hml : m < (ksNote l).length := by have := HNL.out; omega
          have hmk : blt (ksNote l)[m] key = false := by rw [HG.out m hml]; exact hcmp
          rcases Nat.lt_or_ge m k with h1 | h1
          · cases hc2 : blt (ksNote l)[k] key with
            | false => rfl
            | true => rw [blt_trans (ordK_get HO.out m k h1 hk) hc2] at hmk; cases hmk
          · obtain rfl : k = m := by omega
            exact hmk
        case measure => simp only [intV]; omega
    · have hlt' : decide ((i : Int) < (j : Int)) = false := by simp; omega
      obtain rfl : i = j := by omega
      have hpos : posK (ksNote l) key = i := posK_of _ _ _ (by have := HNL.out; omega) HA.out (fun hk => HZ.out i hk (by omega))
      have hh := HH.out
      rw [hpos] at hh
      have HP := Aside0.mk hpos
      have HH2 := Aside0.mk hh
      clear hh hpos HH
      by_cases hin : i < n
      · have p : 0 ≤ (i : Int) := by omega
        have q : (i : Int) < (n : Int) := by omega
        obtain ⟨ad, e0, hx0, hx1, hx2, hx3⟩ := at_T24 HR.out (i : Int) p q
        cases e0
        simp only [Int.toNat_natCast] at hx0 hx1 hx2 hx3
        have hB := HB.out
        replace hx0 := (hB.cell (World.block_lt_of_cell? w _ hx0)).trans hx0; replace hx1 := (hB.cell (World.block_lt_of_cell? w _ hx1)).trans hx1; replace hx2 := (hB.cell (World.block_lt_of_cell? w _ hx2)).trans hx2; replace hx3 := (hB.cell (World.block_lt_of_cell? w _ hx3)).trans hx3
        clear hB
        have hq : decide ((i : Int) < (n : Int)) = true := by simp; omega
        have hqn : decide (i < n) = true := decide_eq_true hin
        replace p := eq_true p
        replace q := eq_true q
        have hfin : (bcmp (rd_T24 l (i : Int)).f0 key == 0) = ((rd_T24 l (i : Int)).f0.toList == key.toList) := by
          rw [Bool.eq_iff_iff, beq_iff_eq, beq_iff_eq, bcmp_eq]
          exact ⟨fun h => by rw [h], bytes_eq⟩
        obtain ⟨bq, hbq⟩ : ∃ bq, bq = (bcmp (rd_T24 l (i : Int)).f0 key == 0) := ⟨_, rfl⟩
        have HBQ := Aside0.mk hbq
        have HFI := Aside0.mk hfin
        clear hfin hbq
        go_wp2_with fail
        refine (find1Note (rd_T24 l (i : Int)) key _).mono ?_
        rintro e w' ⟨rfl, hb⟩
        go_wp2_with fail
        go_ret2
        refine ⟨?_, below_step HB.out hb⟩
        rw [HP.out, HH2.out, hqn, Bool.true_and, ← HFI.out]
        rfl
      · obtain rfl : i = n := by omega
        have hq : decide ((i : Int) < (i : Int)) = false := by simp
        have hqn : decide (i < i) = false := by simp
        go_wp2_with fail
        go_ret2
        refine ⟨?_, HB.out⟩
        rw [HP.out, HH2.out, hqn, Bool.false_and]
        rfl

def register_find.f (l0 : List S24) (a1 : ByteArray) : Option (Int × Bool) :=
  if OrdK (ksNote l0) ∧ l0.length ≤ 4000000000 then some ((posK (ksNote l0) a1 : Nat), hasNote l0 a1) else none

set_option maxHeartbeats 4000000 in
set_option maxRecDepth 100000 in
theorem register_find.calls (A0 : Option Addr) (c0 : Nat) (l0 : List (S24)) (a1 : ByteArray) (r1 : Int) (r2 : Bool) (w : World) (hr0 : Kd.C k24 w A0 l0.length l0) (hc0 : l0.length ≤ c0) (h : register_find.f l0 a1 = some (r1, r2)) :
    Calls Try.prog 57 #[.slice A0 l0.length c0, .string a1] w fun e w' => e = .returned (.tuple #[.int .i64 r1, .bool r2]) ∧ Below w.heap.size w w' := by
  unfold register_find.f at h
  split at h
  · rename_i ho
    simp only [Option.some.injEq, Prod.mk.injEq] at h
    obtain ⟨rfl, rfl⟩ := h
    obtain ⟨ho, hn⟩ := ho
    have HR := Aside0.mk hr0
    have HO := Aside0.mk ho
    clear hr0 ho
    go_enter Try.func57, Try.ntmps57
    go_wp2_with fail
    refine (bsfNote A0 c0 l0 a1 _ HR.out hc0 hn HO.out).mono ?_
    rintro e w' ⟨rfl, hb⟩
    go_wp2_with fail
    go_ret2
    exact ⟨rfl, hb⟩
  · cases h
end Go.Proofs.Ytfnpiclioikjpaa.X

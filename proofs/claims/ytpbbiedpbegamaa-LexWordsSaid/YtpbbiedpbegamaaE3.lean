/- Walks of lex.number: every text is told to be a number or none. -/
import Derived.Test.YtpbbiedpbegamaaE2
import Derived.Deep.DeepCutAuto
import Derived.Deep.CutBlock
import Derived.Deep.QuietTactic
import Derived.Laws.Strings
import Derived.Laws.Strings3
namespace Go.Proofs.Ytpbbiedpbegamaa.X
open Go.RowKit

def lowB (s : ByteArray) : Bool := decide (0 < s.size) && decide (byt s 0 = 45)
def numD (s : ByteArray) : ByteArray := if lowB s then s.extract 1 s.size else s
/-- The number whose digits stand from a place on, behind one that was read. -/
def digsFrom (d : ByteArray) : Nat → Nat → Int → Option Int
  | 0, _, acc => some acc
  | b + 1, pos, acc => if pos < d.size then (if digB (byt d pos) then digsFrom d b (pos + 1) (10 * acc + (byt d pos - 48)) else none) else some acc
def numBad (s : ByteArray) : Bool := decide ((numD s).size = 0 ∨ 4 < (numD s).size) || (decide (byt (numD s) 0 = 48) && (decide (1 < (numD s).size) || lowB s))
def numO (s : ByteArray) : Option Int := if numBad s then none else (digsFrom (numD s) (numD s).size 0 0).map fun n => if lowB s then -n else n
def numV (s : ByteArray) : Int := (numO s).getD 0

theorem isEmpty_of (s : ByteArray) : s.toList.isEmpty = decide (s.size = 0) := by
  have h2 := toList_len s
  by_cases h : s.size = 0
  · rw [h] at h2
    rw [List.eq_nil_of_length_eq_zero h2]; simp [h]
  · have h3 : s.toList ≠ [] := by
      intro h3
      rw [h3] at h2
      simp at h2
      omega
    have h4 : s.toList.isEmpty = false := by simpa using h3
    rw [h4]
    simp [h]
theorem byt_get (s : ByteArray) (i : Nat) (h : i < s.size) : byt s i = ((s[i]'h).toNat : Int) := by unfold byt; rw [dif_pos h]
theorem low_empty (s : ByteArray) (h : s.size = 0) : lowB s = false := by unfold lowB; simp [h]
theorem low_yes (s : ByteArray) (h : 0 < s.size) (h45 : (s[0]'h).toNat = 45) : lowB s = true := by unfold lowB; rw [byt_get s 0 h, h45]; simp [h]
theorem low_no (s : ByteArray) (h : 0 < s.size) (h45 : ¬ (s[0]'h).toNat = 45) : lowB s = false := by unfold lowB; rw [byt_get s 0 h]; simp; omega
theorem isEmpty_t (s : ByteArray) (h : s.size = 0) : s.toList.isEmpty = true := by rw [isEmpty_of]; simp [h]
theorem isEmpty_f (s : ByteArray) (h : 0 < s.size) : s.toList.isEmpty = false := by rw [isEmpty_of]; exact decide_eq_false (by omega)

theorem numD_t (s : ByteArray) (h : lowB s = true) : numD s = s.extract 1 s.size := by unfold numD; rw [if_pos h]
theorem numD_f (s : ByteArray) (h : lowB s = false) : numD s = s := by unfold numD; rw [h]; rfl
theorem low_size (s : ByteArray) (h : lowB s = true) : 1 ≤ s.size := by unfold lowB at h; simp at h; omega
theorem numD_size (s : ByteArray) : (numD s).size ≤ s.size := by
  unfold numD
  split
  · rw [ByteArray.size_extract]; omega
  · exact Nat.le_refl _

theorem bad_none (s : ByteArray) (h : numBad s = true) : numV s = 0 ∧ (numO s).isSome = false := by
  unfold numV numO; rw [h]; exact ⟨rfl, rfl⟩
theorem bad_empty (s d : ByteArray) (hd : numD s = d) (h : d.size = 0 ∨ 4 < d.size) : numBad s = true := by
  unfold numBad; rw [hd, decide_eq_true h]; rfl
theorem bad_zero (s d : ByteArray) (b : Bool) (hd : numD s = d) (hb : lowB s = b) (h : byt d 0 = 48) (h2 : 1 < d.size ∨ b = true) : numBad s = true := by
  unfold numBad; rw [hd, hb]; simp [h, h2]
theorem bad_not (s d : ByteArray) (b : Bool) (hd : numD s = d) (hb : lowB s = b) (h0 : 1 ≤ d.size) (h4 : d.size ≤ 4) (h : ¬ (byt d 0 = 48 ∧ (1 < d.size ∨ b = true))) : numBad s = false := by
  unfold numBad; rw [hd, hb, decide_eq_false (show ¬ (d.size = 0 ∨ 4 < d.size) by omega), Bool.false_or]
  by_cases h1 : byt d 0 = 48
  · have h3 : ¬ (1 < d.size ∨ b = true) := fun h3 => h ⟨h1, h3⟩
    rw [decide_eq_true h1, Bool.true_and, decide_eq_false (fun h4 => h3 (.inl h4)), Bool.false_or]
    cases b with
    | true => exact absurd (.inr rfl) h3
    | false => rfl
  · rw [decide_eq_false h1, Bool.false_and]
theorem numO_fail (s d : ByteArray) (hd : numD s = d) (hb : numBad s = false) (h : digsFrom d d.size 0 0 = none) : numV s = 0 ∧ (numO s).isSome = false := by
  unfold numV numO; rw [hb, hd, h]; exact ⟨rfl, rfl⟩
theorem numO_good (s d : ByteArray) (b : Bool) (n : Int) (hd : numD s = d) (hl : lowB s = b) (hb : numBad s = false) (h : digsFrom d d.size 0 0 = some n) : numV s = (if b then -n else n) ∧ (numO s).isSome = true := by
  unfold numV numO; rw [hb, hd, h, hl]; exact ⟨rfl, rfl⟩
theorem digs_end (d : ByteArray) (b pos : Nat) (acc : Int) (h : ¬ pos < d.size) : digsFrom d b pos acc = some acc := by
  cases b with
  | zero => rfl
  | succ b => simp [digsFrom, h]
theorem pow_step (pos : Nat) (acc x : Int) (h0 : 0 ≤ acc) (h : acc < 10 ^ pos) (hx : 0 ≤ x ∧ x ≤ 9) : 0 ≤ 10 * acc + x ∧ 10 * acc + x < 10 ^ (pos + 1) := by
  rw [Int.pow_succ]; omega
theorem pow_small (pos : Nat) (acc : Int) (h : acc < 10 ^ pos) (hp : pos ≤ 4) : acc < 10000 := by
  have : (10 : Int) ^ pos ≤ 10 ^ 4 := by
    rcases pos with _ | _ | _ | _ | _ | p <;> first | decide | omega
  omega
theorem ret_num {a b : Int} {c d : Bool} (h : a = b) (h' : c = d) : Ending.returned (.tuple #[.int .i64 a, .bool c]) = .returned (.tuple #[.int .i64 b, .bool d]) := by rw [h, h']

theorem digB_inv {c : Int} (h : digB c = true) : 48 ≤ c ∧ c ≤ 57 := by unfold digB at h; simpa using h
theorem rune_digit {d : ByteArray} {pos : Nat} (hr : (byt d pos < 128 ∧ ((Utf8.decode d pos).1 : Int) = byt d pos ∧ (Utf8.decode d pos).2 = 1) ∨ (128 ≤ byt d pos ∧ 128 ≤ ((Utf8.decode d pos).1 : Int) ∧ 1 ≤ (Utf8.decode d pos).2)) (h1 : 48 ≤ ((Utf8.decode d pos).1 : Int)) (h2 : ((Utf8.decode d pos).1 : Int) ≤ 57) : ((Utf8.decode d pos).1 : Int) = byt d pos ∧ (Utf8.decode d pos).2 = 1 := by
  rcases hr with ⟨_, h, h'⟩ | ⟨_, h, _⟩
  · exact ⟨h, h'⟩
  · omega
theorem rune_dig {d : ByteArray} {pos : Nat} (hr : (byt d pos < 128 ∧ ((Utf8.decode d pos).1 : Int) = byt d pos ∧ (Utf8.decode d pos).2 = 1) ∨ (128 ≤ byt d pos ∧ 128 ≤ ((Utf8.decode d pos).1 : Int) ∧ 1 ≤ (Utf8.decode d pos).2)) : digB ((Utf8.decode d pos).1 : Int) = digB (byt d pos) := by
  rcases hr with ⟨_, h, _⟩ | ⟨h, h', _⟩
  · rw [h]
  · rw [digB_f (by omega), digB_f (by omega)]

set_option maxRecDepth 1000000 in
set_option maxHeartbeats 4000000 in
theorem number_any (s : ByteArray) (w : World) (hs : s.size ≤ 9223372036854775807) :
    Calls Try.prog 22 #[.string s] w fun e w' => e = .returned (.tuple #[.int .i64 (numV s), .bool (numO s).isSome]) ∧ Below w.heap.size w w' := by
  go_enter Try.func22, Try.ntmps22
  go_upto_region 1 with fail
  go_cut [4] (fun v4 wx => ∃ b : Bool, v4 = .bool b ∧ Hid (lowB s = b) ∧ w = wx)
  case first =>
    by_cases h0 : 0 < s.size
    · have h0' := isEmpty_f s h0
      by_cases h45 : (s[0]'h0).toNat = 45
      · have HL := Lib.hid (low_yes s h0 h45)
        have h45' : ((((s[0]'h0).toNat : Int)) == 45) = true := by rw [h45]; rfl
        clear h45
        go_wp2_with fail
        go_meet
        exact ⟨true, rfl, HL, rfl⟩
      · have HL := Lib.hid (low_no s h0 h45)
        have h45' : ((((s[0]'h0).toNat : Int)) == 45) = false := by simp; omega
        clear h45
        go_wp2_with fail
        go_meet
        exact ⟨false, rfl, HL, rfl⟩
    · have h0' := isEmpty_t s (by omega)
      have HL := Lib.hid (low_empty s (by omega))
      clear h0
      go_wp2_with fail
      go_meet
      exact ⟨false, rfl, HL, rfl⟩
  case rest =>
    obtain ⟨b, rfl, HL, rfl⟩ := hcut
    go_upto_if 17 with fail
    go_cut [5] (fun v5 wx => ∃ d : ByteArray, v5 = .string d ∧ Hid (numD s = d) ∧ w = wx)
    case first =>
      cases b with
      | true =>
        have h0 := low_size s HL.out
        go_wp2_with fail
        go_meet
        exact ⟨_, rfl, Lib.hid (numD_t s HL.out), rfl⟩
      | false =>
        go_wp2_with fail
        go_meet
        exact ⟨_, rfl, Lib.hid (numD_f s HL.out), rfl⟩
    case rest =>
      obtain ⟨d, rfl, HD, rfl⟩ := hcut
      have hd : d.size ≤ 9223372036854775807 := by have := numD_size s; rw [HD.out] at this; omega
      go_upto_region 5 with fail
      go_cut [39] (fun v wx => ∃ z : Bool, v = .bool z ∧ Hid (numBad s = z) ∧ w = wx)
      case first =>
        by_cases hd0 : d.size = 0
        · have h0' := isEmpty_t d hd0
          have HB := Lib.hid (bad_empty s d HD.out (.inl hd0))
          clear hd0
          go_wp2_with fail
          go_meet
          exact ⟨_, rfl, HB, rfl⟩
        have hp : 0 < d.size := by omega
        have h0' := isEmpty_f d hp
        by_cases hd4 : 4 < d.size
        · have HB := Lib.hid (bad_empty s d HD.out (.inr hd4))
          have hd4' : decide (4 < (d.size : Int)) = true := by simp; omega
          clear hd0
          go_wp2_with fail
          go_meet
          exact ⟨_, rfl, HB, rfl⟩
        have hd4' : decide (4 < (d.size : Int)) = false := by simp; omega
        have hb0 := byt_get d 0 hp
        by_cases hz : byt d 0 = 48 ∧ (1 < d.size ∨ b = true)
        · have HB := Lib.hid (bad_zero s d b HD.out HL.out hz.1 hz.2)
          have hz1 : (((d[0]'hp).toNat : Int) == 48) = true := by rw [← hb0, hz.1]; rfl
          have hz2 := hz.2
          clear hz hb0 hd0
          by_cases h1 : 1 < d.size
          · have h1' : decide (1 < (d.size : Int)) = true := by simp; omega
            clear hz2
            go_wp2_with fail
            go_meet
            exact ⟨_, rfl, HB, rfl⟩
          · have h1' : decide (1 < (d.size : Int)) = false := by simp; omega
            obtain rfl : b = true := hz2.resolve_left h1
            clear hz2
            go_wp2_with fail
            go_meet
            exact ⟨_, rfl, HB, rfl⟩
        · have HB := Lib.hid (bad_not s d b HD.out HL.out (by omega) (by omega) hz)
          by_cases h48 : byt d 0 = 48
          · have hz1 : (((d[0]'hp).toNat : Int) == 48) = true := by rw [← hb0, h48]; rfl
            have h3 : ¬ (1 < d.size ∨ b = true) := fun h3 => hz ⟨h48, h3⟩
            have h1' : decide (1 < (d.size : Int)) = false := by simp; omega
            obtain rfl : b = false := by
              cases b with
              | true => exact absurd (.inr rfl) h3
              | false => rfl
            clear hz hb0 hd0 h3 h48
            go_wp2_with fail
            go_meet
            exact ⟨_, rfl, HB, rfl⟩
          · have hz1 : (((d[0]'hp).toNat : Int) == 48) = false := by rw [← hb0]; simpa using h48
            clear hz hb0 hd0 h48
            go_wp2_with fail
            go_meet
            exact ⟨_, rfl, HB, rfl⟩
      case rest =>
        obtain ⟨z, rfl, HZ, rfl⟩ := hcut
        cases z with
        | true =>
          have HB := Lib.hid (bad_none s HZ.out)
          go_wp2
          go_ret2
          exact ⟨ret_num HB.out.1.symm HB.out.2.symm, Below.refl _ _⟩
        | false =>
          have hd4 : d.size ≤ 4 := by
            have := HZ.out
            unfold numBad at this
            rw [HD.out] at this
            simp at this
            omega
          go_wp2_with fail
          go_loopw [6] (fun v w' => ∃ (pos f : Nat) (acc : Int), w' = w.iter d pos ∧ v = .int .i64 acc ∧ Hid (digsFrom d f pos acc = digsFrom d d.size 0 0) ∧ d.size ≤ pos + f ∧ pos ≤ 4 ∧ 0 ≤ acc ∧ Hid (acc < 10 ^ pos)) (fun _ w' => d.size - w'.iterPos w.heap.size)
          case atStart => exact ⟨0, d.size, 0, rfl, rfl, Lib.hid rfl, by omega, by omega, by omega, Lib.hid (by decide)⟩
          case round =>
            obtain ⟨pos, f, acc, rfl, rfl, HC, hf, hp4, ha, HA⟩ := hrel
            by_cases hp : pos < d.size
            · have hnx : ∀ ty, (Instr.next (.pointer (some ⟨w.heap.size, 0, none⟩)) true ty).run Try.prog (w.iter d pos) = _ := fun ty => run_next_any w d pos ty hp
              have HR := Lib.hid (rune_byte d pos hp)
              have hacc := pow_small pos acc HA.out hp4
              by_cases hg : digB ((Utf8.decode d pos).1 : Int) = true
              · have hdig := digB_inv hg
                have HB := Lib.hid (rune_digit HR.out hdig.1 hdig.2)
                obtain ⟨h48, h57⟩ := hdig
                go_wp2_with (go_at_call 20; refine (digit_any _ _).mono ?_; rintro e w' ⟨rfl, rfl⟩)
                obtain ⟨hb1, hb2⟩ := HB.out
                go_roundw
                case rel =>
                  cases f with
                  | zero => omega
                  | succ f =>
                    have hst := pow_step pos acc (byt d pos - 48) ha HA.out (by omega)
                    refine ⟨pos + (Utf8.decode d pos).2, f, 10 * acc + (byt d pos - 48), rfl, ?_, ?_, by omega, by omega, hst.1, ?_⟩
                    · rw [← hb1]
                    · rw [← HC.out, hb2]
                      refine Lib.hid ?_
                      rw [digsFrom, if_pos hp, ← hb1, if_pos hg]
                    · rw [hb2]; exact Lib.hid hst.2
                case measure =>
                  simp
                  omega
              · have hg' : digB ((Utf8.decode d pos).1 : Int) = false := by simpa using hg
                clear hg
                have HF : Hid (digsFrom d d.size 0 0 = none) := by
                  rw [← HC.out]
                  cases f with
                  | zero => omega
                  | succ f => exact Lib.hid (by rw [digsFrom, if_pos hp, ← rune_dig HR.out, hg']; rfl)
                have HB := Lib.hid (numO_fail s d HD.out HZ.out HF.out)
                go_wp2_with (go_at_call 20; refine (digit_any _ _).mono ?_; rintro e w' ⟨rfl, rfl⟩)
                go_ret2
                exact ⟨ret_num HB.out.1.symm HB.out.2.symm, (Below.refl _ _).alloc (Nat.le_refl _) _⟩
            · have hnx : ∀ ty, (Instr.next (.pointer (some ⟨w.heap.size, 0, none⟩)) true ty).run Try.prog (w.iter d pos) = _ := fun ty => run_next_end w d pos ty hp
              have HB := Lib.hid (numO_good s d b acc HD.out HL.out HZ.out (by rw [← HC.out, digs_end d f pos acc hp]))
              have hacc := pow_small pos acc HA.out hp4
              cases b with
              | true =>
                go_wp2
                go_ret2
                exact ⟨ret_num HB.out.1.symm HB.out.2.symm, (Below.refl _ _).alloc (Nat.le_refl _) _⟩
              | false =>
                go_wp2
                go_ret2
                exact ⟨ret_num HB.out.1.symm HB.out.2.symm, (Below.refl _ _).alloc (Nat.le_refl _) _⟩
end Go.Proofs.Ytpbbiedpbegamaa.X

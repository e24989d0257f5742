/- Walks of lex.Word and its callees: every text is told to be a word or none. -/
import Derived.Test.YtpbbiedpbegamaaE1
import Derived.LoopTactic
namespace Go.Proofs.Ytpbbiedpbegamaa.X
open Go.RowKit

/-- The byte at a place, as a number. -/
def byt (s : ByteArray) (i : Nat) : Int := if h : i < s.size then ((s[i]'h).toNat : Int) else 0
def wchar (s : ByteArray) (i : Nat) : Bool := letB (byt s i) || (decide (0 < i) && digB (byt s i))
/-- Are all bytes from a place on such as a word has them? -/
def wordFrom (s : ByteArray) : Nat → Nat → Bool
  | 0, _ => true
  | b + 1, pos => if pos < s.size then wchar s pos && wordFrom s b (pos + 1) else true
def wordB (s : ByteArray) : Bool := decide (1 ≤ s.size ∧ s.size ≤ 16) && wordFrom s s.size 0

theorem wordFrom_end (s : ByteArray) (b pos : Nat) (h : ¬ pos < s.size) : wordFrom s b pos = true := by
  cases b with
  | zero => rfl
  | succ b => simp [wordFrom, h]

theorem rune_byte (s : ByteArray) (pos : Nat) (h : pos < s.size) : (byt s pos < 128 ∧ ((Utf8.decode s pos).1 : Int) = byt s pos ∧ (Utf8.decode s pos).2 = 1) ∨ (128 ≤ byt s pos ∧ 128 ≤ ((Utf8.decode s pos).1 : Int) ∧ 1 ≤ (Utf8.decode s pos).2) := by
  unfold byt
  rw [dif_pos h]
  by_cases ha : (s[pos]'h).toNat < 128
  · rw [decode_ascii s pos h ha]
    exact .inl ⟨by omega, rfl, rfl⟩
  · have := decode_high s pos h (by omega)
    exact .inr ⟨by omega, by omega, this.2⟩


theorem toList_len (s : ByteArray) : s.toList.length = s.size := by
  rw [ByteArray.toList_eq]; rfl
set_option maxRecDepth 1000000 in
set_option maxHeartbeats 4000000 in
theorem word_any (s : ByteArray) (w : World) :
    Calls Try.prog 10 #[.string s] w fun e w' => e = .returned (.bool (wordB s)) ∧ Below w.heap.size w w' := by
  by_cases h0 : s.toList.isEmpty = true
  · have hb : wordB s = false := by
      have : s.toList = [] := by simpa using h0
      have h2 := toList_len s
      rw [this] at h2
      unfold wordB
      have h3 : ¬ (1 ≤ s.size ∧ s.size ≤ 16) := by simp at h2; omega
      simp [h3]
    have H := Lib.hid hb
    go_enter Try.func10, Try.ntmps10
    go_wp2
    go_ret
    exact ⟨ret_bool H.out.symm, Below.refl _ _⟩
  have h0' : s.toList.isEmpty = false := by simpa using h0
  have h2 : 1 ≤ s.size := by
    have h2 := toList_len s
    rcases Nat.eq_zero_or_pos s.size with h | h
    · rw [h] at h2
      have : s.toList = [] := List.eq_nil_of_length_eq_zero h2
      rw [this] at h0
      exact absurd rfl h0
    · exact h
  clear h0
  by_cases h1 : s.size ≤ 16
  · have h1' : decide (16 < (s.size : Int)) = false := by simp; omega
    go_enter Try.func10, Try.ntmps10
    go_wp2
    go_loopw [] (fun w' => ∃ (pos b : Nat), w' = w.iter s pos ∧ wordFrom s b pos = wordFrom s s.size 0 ∧ s.size ≤ pos + b) (fun w' => s.size - w'.iterPos w.heap.size)
    case atStart => exact ⟨0, s.size, rfl, rfl, by omega⟩
    case round =>
      obtain ⟨pos, b, rfl, hc, hb⟩ := hrel
      have HC := Lib.hid hc
      clear hc
      by_cases hp : pos < s.size
      · have hnx : ∀ ty, (Instr.next (.pointer (some ⟨w.heap.size, 0, none⟩)) true ty).run Try.prog (w.iter s pos) = _ := fun ty => run_next_any w s pos ty hp
        have hr := rune_byte s pos hp
        have hround : ∀ (K : Prop), letB ((Utf8.decode s pos).1 : Int) = letB (byt s pos) → digB ((Utf8.decode s pos).1 : Int) = digB (byt s pos) → K → K := fun _ _ _ h => h
        have hlb : letB ((Utf8.decode s pos).1 : Int) = letB (byt s pos) := by
          rcases hr with ⟨_, h, _⟩ | ⟨h, h', _⟩
          · rw [h]
          · rw [letB_f (by omega), letB_f (by omega)]
        have hdb : digB ((Utf8.decode s pos).1 : Int) = digB (byt s pos) := by
          rcases hr with ⟨_, h, _⟩ | ⟨h, h', _⟩
          · rw [h]
          · rw [digB_f (by omega), digB_f (by omega)]
        have hwd : wchar s pos = true → (Utf8.decode s pos).2 = 1 := by
          intro hw
          rcases hr with ⟨_, _, h⟩ | ⟨h, _, _⟩
          · exact h
          · unfold wchar at hw
            rw [letB_f (by omega), digB_f (by omega)] at hw
            simp at hw
        have HW := Lib.hid hwd
        clear hwd hr hround
        by_cases hl : letB ((Utf8.decode s pos).1 : Int) = true
        · have HL := Lib.hid hlb
          have HD := Lib.hid hdb
          clear hlb hdb
          go_wp2_with (go_at_call 19; refine (letter_any _ _).mono ?_; rintro e w' ⟨rfl, rfl⟩)
          have hwc : wchar s pos = true := by unfold wchar; rw [← HL.out, hl]; rfl
          have hwd := HW.out hwc
          go_roundw
          case rel =>
            cases b with
            | zero => omega
            | succ b =>
              refine ⟨pos + (Utf8.decode s pos).2, b, rfl, ?_, by omega⟩
              rw [← HC.out]
              simp [wordFrom, hp, hwc, hwd]
          case measure =>
            simp
            omega
        · have hl' : letB ((Utf8.decode s pos).1 : Int) = false := by simpa using hl
          clear hl
          have HL := Lib.hid hlb
          have HD := Lib.hid hdb
          clear hlb hdb
          have hno : wchar s pos = false → wordB s = false := by
            intro hw
            unfold wordB
            rw [← HC.out]
            cases b with
            | zero => omega
            | succ b => simp [wordFrom, hp, hw]
          have HN := Lib.hid hno
          clear hno
          by_cases hz : pos = 0
          · have HZ := Lib.hid hz
            have hz1 : ((pos : Int) == 0) = true := beq_iff_eq.2 (by omega)
            clear hz
            go_wp2_with (go_at_call 19; refine (letter_any _ _).mono ?_; rintro e w' ⟨rfl, rfl⟩)
            go_ret
            have hwc : wchar s pos = false := by unfold wchar; rw [← HL.out, hl', HZ.out]; rfl
            exact ⟨ret_bool (HN.out hwc).symm, (Below.refl _ _).alloc (Nat.le_refl _) _⟩
          · have hz1 : ((pos : Int) == 0) = false := beq_eq_false_iff_ne.2 (by omega)
            by_cases hd : digB ((Utf8.decode s pos).1 : Int) = true
            · go_wp2_with (first | (go_at_call 19; refine (letter_any _ _).mono ?_; rintro e w' ⟨rfl, rfl⟩) | (go_at_call 20; refine (digit_any _ _).mono ?_; rintro e w' ⟨rfl, rfl⟩))
              have hwc : wchar s pos = true := by unfold wchar; rw [← HD.out, hd]; simp; omega
              have hwd := HW.out hwc
              go_roundw
              case rel =>
                cases b with
                | zero => omega
                | succ b =>
                  refine ⟨pos + (Utf8.decode s pos).2, b, rfl, ?_, by omega⟩
                  rw [← HC.out]
                  simp [wordFrom, hp, hwc, hwd]
              case measure =>
                simp
                omega
            · have hd' : digB ((Utf8.decode s pos).1 : Int) = false := by simpa using hd
              clear hd
              go_wp2_with (first | (go_at_call 19; refine (letter_any _ _).mono ?_; rintro e w' ⟨rfl, rfl⟩) | (go_at_call 20; refine (digit_any _ _).mono ?_; rintro e w' ⟨rfl, rfl⟩))
              go_ret
              have hwc : wchar s pos = false := by unfold wchar; rw [← HL.out, ← HD.out, hl', hd']; simp
              exact ⟨ret_bool (HN.out hwc).symm, (Below.refl _ _).alloc (Nat.le_refl _) _⟩
      · have hnx : ∀ ty, (Instr.next (.pointer (some ⟨w.heap.size, 0, none⟩)) true ty).run Try.prog (w.iter s pos) = _ := fun ty => run_next_end w s pos ty hp
        have hfin : wordB s = true := by
          unfold wordB
          rw [← HC.out, wordFrom_end s b pos hp]
          simp; omega
        have HF := Lib.hid hfin
        clear hfin
        go_wp2
        go_ret
        exact ⟨ret_bool HF.out.symm, (Below.refl _ _).alloc (Nat.le_refl _) _⟩
  · have h1' : decide (16 < (s.size : Int)) = true := by simp; omega
    have hb : wordB s = false := by
      unfold wordB
      have h3 : ¬ (1 ≤ s.size ∧ s.size ≤ 16) := by omega
      simp [h3]
    have H := Lib.hid hb
    go_enter Try.func10, Try.ntmps10
    go_wp2
    go_ret
    exact ⟨ret_bool H.out.symm, Below.refl _ _⟩
end Go.Proofs.Ytpbbiedpbegamaa.X

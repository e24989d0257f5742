/- The reference's Read tells what lex.Read tells. -/
import Derived.Test.YtpbbiedpbegamaaP4
import Derived.Test.YtpbbiedpbegamaaE8
set_option linter.unusedSimpArgs false
set_option linter.unusedVariables false
set_option linter.unusedSectionVars false
namespace Go.Proofs.Ytpbbiedpbegamaa.X
open Go.RowKit Go.Proofs.YtpbbiedpbegamaaW.PrintWords Go.Proofs.YtpbbiedpbegamaaW.PrintLast Go.Proofs.YtpbbiedpbegamaaW.PrintMore

/-- A reader at which no word goes on. -/
def RS.at_ (xs : List S33) (line : Int) : RS := ⟨xs, line, -1, false, 0⟩
theorem close_at (xs : List S33) (line : Int) (nt : Bool) (s : ByteArray) (p : Nat) : (⟨xs, line, -1, nt, 0⟩ : RS).close s p = ⟨xs, line, -1, nt, 0⟩ := by
  unfold RS.close
  rw [if_pos (by simp)]
theorem step_at (xs : List S33) (line : Int) (nt : Bool) (s : ByteArray) (p : Nat) (c : Int) : (⟨xs, line, -1, nt, 0⟩ : RS).step s p c = (RS.at_ xs line).one c := by
  unfold RS.step
  rw [show ({ (⟨xs, line, -1, nt, 0⟩ : RS) with nt := false } : RS) = ⟨xs, line, -1, false, 0⟩ from rfl, close_at, if_pos rfl]
  rfl
theorem fin_at (xs : List S33) (line : Int) (nt : Bool) (s : ByteArray) : (⟨xs, line, -1, nt, 0⟩ : RS).fin s = if 800 ≤ xs.length then ([], line, 7) else (xs ++ [⟨0, ⟨#[]⟩, 0, line⟩], 0, 0) := by
  unfold RS.fin RS.last
  rw [close_at, if_pos rfl]
  unfold RS.put errOver
  by_cases h : 800 ≤ xs.length
  · simp [h]
  · simp [h]
theorem word_close (xs : List S33) (line : Int) (p : Nat) (s : ByteArray) (q : Nat) : (⟨xs, line, (p : Int), false, 0⟩ : RS).close s q =
    if wordB (s.extract p q) then ⟨xs ++ [⟨1, s.extract p q, 0, line⟩], line, -1, false, errOver xs.length 0⟩
    else if (numO (s.extract p q)).isSome then ⟨xs ++ [⟨2, ⟨#[]⟩, numV (s.extract p q), line⟩], line, -1, false, errOver xs.length 0⟩ else ⟨xs, line, -1, false, 2⟩ := by
  unfold RS.close
  rw [if_neg (by simp), Int.toNat_natCast]
  rfl
/-- Where a word ends, it is closed; then all goes on as if none had been. -/
theorem word_ends (s : ByteArray) (xs : List S33) (line : Int) (p n q : Nat) (hq : q + n = s.size) (hb : q < s.size → partB (byt s q) = false) :
    rf s n ⟨xs, line, (p : Int), false, 0⟩ = if ((⟨xs, line, (p : Int), false, 0⟩ : RS).close s q).er = 0 then rf s n (RS.at_ ((⟨xs, line, (p : Int), false, 0⟩ : RS).close s q).xs line) else ([], line, ((⟨xs, line, (p : Int), false, 0⟩ : RS).close s q).er) := by
  have hC : ∀ C : RS, (⟨xs, line, (p : Int), false, 0⟩ : RS).close s q = C → C.er = 0 → C = RS.at_ C.xs line := by
    intro C hC he
    rw [word_close] at hC
    split at hC
    · subst hC; simp only at he; simp [RS.at_, he]
    split at hC
    · subst hC; simp only at he; simp [RS.at_, he]
    · subst hC; simp at he
  obtain ⟨C, h1⟩ : ∃ C, (⟨xs, line, (p : Int), false, 0⟩ : RS).close s q = C := ⟨_, rfl⟩
  have hln : C.line = line := by rw [← h1]; exact close_line s q
  rw [h1]
  rcases n with _ | n
  · have hqs : q = s.size := by omega
    subst hqs
    by_cases he : C.er = 0
    · rw [if_pos he]
      show RS.fin _ s = RS.fin _ s
      rw [show RS.at_ C.xs line = ⟨C.xs, line, -1, false, 0⟩ from rfl]
      unfold RS.fin RS.last
      rw [h1, close_at, if_pos he, hC C h1 he]
      rfl
    · rw [if_neg he]
      show RS.fin _ s = _
      unfold RS.fin RS.last
      rw [h1, if_neg he, if_neg he, hln]
  · have hqs : q < s.size := by omega
    have hpt := hb hqs
    rw [rf_step hq hqs (by simp) hpt]
    have hst : (⟨xs, line, (p : Int), false, 0⟩ : RS).step s q (byt s q) = if C.er = 0 then C.one (byt s q) else C := by
      unfold RS.step
      rw [show ({ (⟨xs, line, (p : Int), false, 0⟩ : RS) with nt := false } : RS) = ⟨xs, line, (p : Int), false, 0⟩ from rfl, h1]
    rw [hst]
    by_cases he : C.er = 0
    · rw [if_pos he, if_pos he]
      have := rf_step (r := RS.at_ C.xs line) hq hqs (by simp [RS.at_]) hpt
      rw [this, show RS.at_ C.xs line = ⟨C.xs, line, -1, false, 0⟩ from rfl, step_at, ← hC C h1 he]
    · rw [if_neg he, if_neg he, if_neg he]

section
variable {s : ByteArray} (hs : s.size ≤ 4096)
include hs
/-- What is asked of the ways that follow. -/
def Goes (s : ByteArray) (n : Nat) : Prop := ∀ (xs : List S33) (line : Int), xs.length ≤ 800 → 0 ≤ line → line ≤ 10000 - n → Ev (fun k => hucksterref14_Read.l0 k s xs line ((s.size - n : Nat) : Int)) (rf s n (RS.at_ xs line))

theorem put_ref {n : Nat} (hn : n ≤ s.size) (ih : Goes s n) (xs : List S33) (line l2 : Int) (hx : xs.length ≤ 800) (h0 : 0 ≤ l2) (h1 : l2 ≤ 10000 - n) (t : S33) :
    Ev (fun k => if xs.length < 3518437208883 then ((some (xs ++ [t] : List S33)).bind fun y => (if (y.length : Int) > 800 then (some (([] : List S33), line, 7)) else (hucksterref14_Read.l0 k s y l2 ((s.size - n : Nat) : Int)))) else none)
      (if errOver xs.length 0 = 0 then rf s n (RS.at_ (xs ++ [t]) l2) else ([], line, errOver xs.length 0)) := by
  refine Ev.yes (by omega) ?_
  simp only [Option.bind_some]
  by_cases h : 800 ≤ xs.length
  · refine Ev.yes (by simp; omega) (Ev.is ?_)
    rw [errOver_t h rfl, if_neg (by decide)]
  · refine Ev.no (by simp; omega) ?_
    rw [errOver_f (fun h' => h h'.1), if_pos rfl]
    exact ih _ _ (by simp; omega) h0 h1

theorem j5_ref {n q p : Nat} (hq : q + n = s.size) (hpq : p < q) (ih : Goes s n) (xs : List S33) (line : Int) (hx : xs.length ≤ 800) (h0 : 0 ≤ line) (h1 : line ≤ 10000 - n) :
    Ev (fun k => hucksterref14_Read.j5 k s xs line (q : Int) (p : Int) 0 (⟨#[]⟩ : ByteArray) 0 line)
      (if ((⟨xs, line, (p : Int), false, 0⟩ : RS).close s q).er = 0 then rf s n (RS.at_ ((⟨xs, line, (p : Int), false, 0⟩ : RS).close s q).xs line) else ([], line, ((⟨xs, line, (p : Int), false, 0⟩ : RS).close s q).er)) := by
  have hqn : q = s.size - n := by omega
  refine Ev.succ ?_
  simp only [hucksterref14_Read.j5]
  refine Ev.yes (by omega) (Ev.yes (by omega) (Ev.yes (by omega) ?_))
  rw [Int.toNat_natCast, Int.toNat_natCast]
  have hts : (s.extract p q).size ≤ 140737488355328 := by rw [ByteArray.size_extract]; omega
  rw [word_close]
  refine Ev.bind (number_ref _ hts) (Ev.bind (word_ref _ hts) ?_)
  by_cases hw : wordB (s.extract p q) = true
  · refine Ev.yes hw ?_
    rw [if_pos hw]
    have := put_ref hs (by omega) ih xs line line hx h0 h1 ⟨1, s.extract p q, 0, line⟩
    rw [← hqn] at this
    dsimp only
    exact this
  · refine Ev.no hw ?_
    rw [if_neg hw]
    by_cases hn : (numO (s.extract p q)).isSome = true
    · refine Ev.yes hn ?_
      rw [if_pos hn, refVal_numV _ hn]
      have := put_ref hs (by omega) ih xs line line hx h0 h1 ⟨2, ⟨#[]⟩, numV (s.extract p q), line⟩
      rw [← hqn] at this
      dsimp only
      exact this
    · refine Ev.no hn (Ev.is ?_)
      rw [if_neg hn, if_neg (by simp)]

theorem l2_ref {p N : Nat} (hN : p + N < s.size) (ih : ∀ n, n ≤ N → Goes s n) (xs : List S33) (line : Int) (hx : xs.length ≤ 800) (h0 : 0 ≤ line) (h1 : line ≤ 10000 - N) : ∀ (n q : Nat), n ≤ N → q + n = s.size → p < q →
    Ev (fun k => hucksterref14_Read.l2 k s xs line (q : Int) (p : Int) 0 (⟨#[]⟩ : ByteArray) 0 line) (rf s n ⟨xs, line, (p : Int), false, 0⟩) := by
  intro n
  induction n with
  | zero =>
    intro q hn hq hpq
    rw [word_ends s xs line p 0 q hq (fun h => by omega)]
    refine Ev.succ ?_
    simp only [hucksterref14_Read.l2]
    refine Ev.no (by omega) ?_
    exact j5_ref hs hq hpq (ih 0 hn) xs line hx h0 (by omega)
  | succ n ihn =>
    intro q hn hq hpq
    refine Ev.succ ?_
    simp only [hucksterref14_Read.l2]
    refine Ev.yes (by omega) (Ev.yes (by omega) ?_)
    rw [bt_byt, wrap_succ q s.size (by omega) (by omega)]
    refine Ev.bind1 (letter_ref _) ?_
    by_cases hp : partB (byt s q) = true
    · have hr : rf s (n + 1) ⟨xs, line, (p : Int), false, 0⟩ = rf s n ⟨xs, line, (p : Int), false, 0⟩ := by
        rw [rf_part hq (by omega) (by simp) hp]
        exact congrArg (rf s n) (by unfold RS.from_; rw [if_neg (by simp)])
      rw [hr]
      have hgo := ihn (q + 1) (by omega) (by omega) (by omega)
      by_cases hl : letB (byt s q) = true
      · exact Ev.yes hl hgo
      refine Ev.no hl (Ev.bind1 (digit_ref _) ?_)
      by_cases hd : digB (byt s q) = true
      · exact Ev.yes hd hgo
      refine Ev.no hd (Ev.yes ?_ hgo)
      unfold partB at hp
      simpa [hl, hd] using hp
    · have hp' : partB (byt s q) = false := by simpa using hp
      rw [word_ends s xs line p (n + 1) q hq (fun _ => hp')]
      have hnl : ¬ letB (byt s q) = true := fun h => hp (by unfold partB; rw [h]; rfl)
      have hnd : ¬ digB (byt s q) = true := fun h => hp (by unfold partB; rw [h]; simp)
      have hnm : ¬ byt s q = 45 := fun h => hp (by unfold partB; simp [h])
      refine Ev.no hnl (Ev.bind1 (digit_ref _) (Ev.no hnd (Ev.no hnm ?_)))
      exact j5_ref hs hq hpq (ih (n + 1) hn) xs line hx h0 (by omega)

theorem note_same (xs : List S33) (line : Int) (n q : Nat) (hq : q + n = s.size) (h : q < s.size → byt s q = 10) : rf s n ⟨xs, line, -1, true, 0⟩ = rf s n (RS.at_ xs line) := by
  rcases n with _ | n
  · show RS.fin _ s = RS.fin _ s
    rw [show RS.at_ xs line = ⟨xs, line, -1, false, 0⟩ from rfl, fin_at, fin_at]
  · have h10 := h (by omega)
    have hp : partB (byt s q) = false := by rw [h10]; rfl
    rw [rf_step hq (by omega) (by simp [h10]) hp, rf_step (r := RS.at_ xs line) hq (by omega) (by simp [RS.at_]) hp, step_at, show RS.at_ xs line = ⟨xs, line, -1, false, 0⟩ from rfl, step_at]
    rfl
theorem l1_ref {N : Nat} (ih : ∀ n, n ≤ N → Goes s n) (xs : List S33) (line : Int) (hx : xs.length ≤ 800) (h0 : 0 ≤ line) (h1 : line ≤ 10000 - N) : ∀ (n q : Nat), n ≤ N → q + n = s.size →
    Ev (fun k => hucksterref14_Read.l1 k s xs line (q : Int)) (rf s n ⟨xs, line, -1, true, 0⟩) := by
  intro n
  induction n with
  | zero =>
    intro q hn hq
    rw [note_same hs xs line 0 q hq (fun h => by omega)]
    refine Ev.succ ?_
    simp only [hucksterref14_Read.l1]
    refine Ev.no (by omega) ?_
    have := ih 0 hn xs line hx h0 (by omega)
    rwa [show s.size - 0 = q by omega] at this
  | succ n ihn =>
    intro q hn hq
    refine Ev.succ ?_
    simp only [hucksterref14_Read.l1]
    refine Ev.yes (by omega) (Ev.yes (by omega) ?_)
    rw [bt_byt, wrap_succ q s.size (by omega) (by omega)]
    by_cases h10 : byt s q = 10
    · rw [note_same hs xs line (n + 1) q hq (fun _ => h10)]
      refine Ev.yes h10 ?_
      have := ih (n + 1) hn xs line hx h0 (by omega)
      rwa [show s.size - (n + 1) = q by omega] at this
    · refine Ev.no h10 ?_
      have hr : rf s (n + 1) ⟨xs, line, -1, true, 0⟩ = rf s n ⟨xs, line, -1, true, 0⟩ := by
        rw [rf, if_pos ⟨rfl, by rw [show s.size - (n + 1) = q by omega]; exact h10⟩]
      rw [hr]
      exact ihn (q + 1) (by omega) (by omega)

theorem goes (n : Nat) : n ≤ s.size → Goes s n := by
  induction n using Nat.strongRecOn with
  | _ n ih =>
  intro hn xs line hx h0 h1
  rcases n with _ | n
  · refine Ev.succ ?_
    simp only [hucksterref14_Read.l0]
    refine Ev.no (by omega) (Ev.yes (by omega) ?_)
    simp only [Option.bind_some]
    rw [show rf s 0 (RS.at_ xs line) = RS.fin ⟨xs, line, -1, false, 0⟩ s from rfl, fin_at]
    by_cases h : 800 ≤ xs.length
    · refine Ev.yes (by simp; omega) (Ev.is ?_)
      rw [if_pos h]
    · refine Ev.no (by simp; omega) (Ev.is ?_)
      rw [if_neg h]
  · obtain ⟨q, hq⟩ : ∃ q, q = s.size - (n + 1) := ⟨_, rfl⟩
    have hqn : q + (n + 1) = s.size := by omega
    have hqs : q < s.size := by omega
    have hih : ∀ m, m ≤ n → Goes s m := fun m hm => ih m (by omega) (by omega)
    have hn1 : ((s.size - n : Nat) : Int) = ((q + 1 : Nat) : Int) := by omega
    rw [← hq]
    -- the byte at hand
    have hj1 : ∀ b31 : Bool, (b31 = true ↔ (byt s q = 32 ∨ byt s q = 9)) → Ev (fun k => hucksterref14_Read.j1 k s xs line ((q + 1 : Nat) : Int) (byt s q) (q : Int) b31 0 (⟨#[]⟩ : ByteArray) 0 line) (rf s (n + 1) (RS.at_ xs line)) := by
      intro b31 hb31
      refine Ev.succ ?_
      simp only [hucksterref14_Read.j1]
      have hstep : partB (byt s q) = false → rf s (n + 1) (RS.at_ xs line) = if ((RS.at_ xs line).one (byt s q)).er = 0 then rf s n ((RS.at_ xs line).one (byt s q)) else ([], line, ((RS.at_ xs line).one (byt s q)).er) := by
        intro hp
        rw [rf_step (r := RS.at_ xs line) hqn hqs (by simp [RS.at_]) hp, show RS.at_ xs line = ⟨xs, line, -1, false, 0⟩ from rfl, step_at]
        rfl
      have hgo : Ev (fun k => hucksterref14_Read.l0 k s xs line ((q + 1 : Nat) : Int)) (rf s n (RS.at_ xs line)) := by
        have := hih n (Nat.le_refl _) xs line hx h0 (by omega)
        rwa [show s.size - n = q + 1 by omega] at this
      by_cases h32 : byt s q = 32 ∨ byt s q = 9
      · refine Ev.yes (hb31.2 h32) ?_
        rw [hstep (by rcases h32 with h | h <;> rw [h] <;> rfl)]
        have : (RS.at_ xs line).one (byt s q) = RS.at_ xs line := by unfold RS.one; rw [if_pos h32]
        rw [this, if_pos (show (RS.at_ xs line).er = 0 from rfl)]
        exact hgo
      refine Ev.no (fun h => h32 (hb31.1 h)) ?_
      by_cases h35 : byt s q = 35
      · refine Ev.yes h35 ?_
        rw [hstep (by rw [h35]; rfl)]
        have : (RS.at_ xs line).one (byt s q) = ⟨xs, line, -1, true, 0⟩ := by
          unfold RS.one
          rw [if_neg h32, if_neg (by omega), if_neg (by omega), if_neg (by omega), if_pos h35]
          rfl
        rw [this, if_pos rfl]
        exact l1_ref hs hih xs line hx h0 (by omega) n (q + 1) (Nat.le_refl _) (by omega)
      refine Ev.no h35 ?_
      by_cases h58 : byt s q = 58
      · refine Ev.yes h58 ?_
        rw [hstep (by rw [h58]; rfl)]
        have : (RS.at_ xs line).one (byt s q) = (RS.at_ xs line).put 3 ⟨#[]⟩ 0 := by unfold RS.one; rw [if_neg h32, if_pos h58]
        rw [this]
        have hp := put_ref hs (show n ≤ s.size by omega) (hih n (Nat.le_refl _)) xs line line hx h0 (by omega) ⟨3, ⟨#[]⟩, 0, line⟩
        rw [hn1] at hp
        refine cast ?_ hp
        congr 1
        unfold RS.put RS.at_
        simp only
        split
        · rename_i h; rw [h]
        · rfl
      refine Ev.no h58 ?_
      by_cases h44 : byt s q = 44
      · refine Ev.yes h44 ?_
        rw [hstep (by rw [h44]; rfl)]
        have : (RS.at_ xs line).one (byt s q) = (RS.at_ xs line).put 4 ⟨#[]⟩ 0 := by unfold RS.one; rw [if_neg h32, if_neg h58, if_pos h44]
        rw [this]
        have hp := put_ref hs (show n ≤ s.size by omega) (hih n (Nat.le_refl _)) xs line line hx h0 (by omega) ⟨4, ⟨#[]⟩, 0, line⟩
        rw [hn1] at hp
        refine cast ?_ hp
        congr 1
        unfold RS.put RS.at_
        simp only
        split
        · rename_i h; rw [h]
        · rfl
      refine Ev.no h44 ?_
      by_cases h10 : byt s q = 10
      · refine Ev.yes h10 ?_
        rw [hstep (by rw [h10]; rfl)]
        have : (RS.at_ xs line).one (byt s q) = { (RS.at_ xs line).put 5 ⟨#[]⟩ 0 with line := line + 1 } := by
          unfold RS.one
          rw [if_neg h32, if_neg h58, if_neg h44, if_pos h10]
          rfl
        rw [this, show wrap64 (line + 1) = line + 1 by unfold wrap64; omega]
        have hp := put_ref hs (show n ≤ s.size by omega) (hih n (Nat.le_refl _)) xs line (line + 1) hx (by omega) (by omega) ⟨5, ⟨#[]⟩, 0, line⟩
        rw [hn1] at hp
        refine cast ?_ hp
        congr 1
        unfold RS.put RS.at_
        simp only
        split
        · rename_i h; rw [h]
        · rfl
      refine Ev.no h10 (Ev.bind1 (letter_ref _) ?_)
      have hpart : partB (byt s q) = true → Ev (fun k => hucksterref14_Read.j3 k s xs line ((q + 1 : Nat) : Int) (q : Int) true 0 (⟨#[]⟩ : ByteArray) 0 line) (rf s (n + 1) (RS.at_ xs line)) := by
        intro hp
        refine Ev.succ ?_
        simp only [hucksterref14_Read.j3]
        refine Ev.yes (by simp) ?_
        rw [rf_part hqn hqs (by simp [RS.at_]) hp]
        have : (RS.at_ xs line).from_ q = ⟨xs, line, (q : Int), false, 0⟩ := by
          unfold RS.from_ RS.at_
          rw [if_pos (by simp)]
        rw [this, Nat.add_sub_cancel]
        exact l2_ref hs (p := q) (N := n) (by omega) hih xs line hx h0 (by omega) n (q + 1) (Nat.le_refl _) (by omega) (by omega)
      by_cases hl : letB (byt s q) = true
      · exact Ev.yes hl (hpart (by unfold partB; rw [hl]; rfl))
      refine Ev.no hl (Ev.bind1 (digit_ref _) ?_)
      by_cases hd : digB (byt s q) = true
      · exact Ev.yes hd (hpart (by unfold partB; rw [hd]; simp))
      refine Ev.no hd ?_
      by_cases h45 : byt s q = 45
      · rw [show ((byt s q) == 45) = true by rw [h45]; rfl]
        exact hpart (by unfold partB; simp [h45])
      · rw [show ((byt s q) == 45) = false by simpa using h45]
        have hp : partB (byt s q) = false := by unfold partB; simp [hl, hd, h45]
        refine Ev.succ ?_
        simp only [hucksterref14_Read.j3]
        refine Ev.no (by simp) (Ev.is ?_)
        rw [hstep hp]
        have : (RS.at_ xs line).one (byt s q) = { RS.at_ xs line with er := 2 } := by
          unfold RS.one
          rw [if_neg h32, if_neg h58, if_neg h44, if_neg h10, if_neg h35]
        rw [this, if_neg (by simp)]
    refine Ev.succ ?_
    simp only [hucksterref14_Read.l0]
    refine Ev.yes (by omega) (Ev.yes (by omega) ?_)
    rw [bt_byt, wrap_succ q s.size hqs (by omega)]
    by_cases h32 : byt s q = 32
    · exact Ev.yes h32 (hj1 true (by simp [h32]))
    · exact Ev.no h32 (hj1 _ (by simp [h32]))
end
theorem read_ref (s : ByteArray) : Ev (fun k => hucksterref14_Read.f k s) (lexR s) := by
  unfold hucksterref14_Read.f lexR
  by_cases h : 4096 < s.size
  · rw [if_pos h]
    exact Ev.yes (by omega) (Ev.now _)
  · rw [if_neg h]
    refine Ev.no (by omega) ?_
    have := goes (by omega) s.size (Nat.le_refl _) [] 1 (by simp) (by omega) (by omega)
    rw [Nat.sub_self] at this
    exact this
end Go.Proofs.Ytpbbiedpbegamaa.X

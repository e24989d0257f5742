/- Walks of lex.reader's methods: a rune is read, a word or a number closed; the reader as a plain record. -/
import Derived.Test.YtpbbiedpbegamaaE4
set_option linter.unusedSimpArgs false
set_option linter.unusedVariables false
namespace Go.Proofs.Ytpbbiedpbegamaa.X
open Go.RowKit Go.Proofs.YtpbbiedpbegamaaW.PrintWords Go.Proofs.YtpbbiedpbegamaaW.PrintLast Go.Proofs.YtpbbiedpbegamaaW.PrintMore

/-- A reader as a plain record: its tokens, line, where a word began, whether a note goes on, its error. -/
structure RS where
  xs : List S33
  line : Int
  fr : Int
  nt : Bool
  er : Int
def RS.put (r : RS) (k : Int) (t : ByteArray) (n : Int) : RS := ⟨r.xs ++ [⟨k, t, n, r.line⟩], r.line, r.fr, r.nt, errOver r.xs.length r.er⟩
def RS.one (r : RS) (c : Int) : RS :=
  if c = 32 ∨ c = 9 then r else if c = 58 then r.put 3 ⟨#[]⟩ 0 else if c = 44 then r.put 4 ⟨#[]⟩ 0
  else if c = 10 then { r.put 5 ⟨#[]⟩ 0 with line := r.line + 1 } else if c = 35 then { r with nt := true } else { r with er := 2 }
def RS.close (r : RS) (s : ByteArray) (at_ : Nat) : RS :=
  if r.fr < 0 then r
  else if wordB (s.extract r.fr.toNat at_) then ({ r with fr := -1 } : RS).put 1 (s.extract r.fr.toNat at_) 0
  else if (numO (s.extract r.fr.toNat at_)).isSome then ({ r with fr := -1 } : RS).put 2 ⟨#[]⟩ (numV (s.extract r.fr.toNat at_))
  else { r with fr := -1, er := 2 }

/-- Iterators over strings stand as they stood. -/
def ItKept (w w' : World) : Prop := ∀ (i : Nat) (s : ByteArray) (p : Nat), w.heap[i]? = some (Obj.stringIter s p) → w'.heap[i]? = some (Obj.stringIter s p)
theorem ItKept.refl (w : World) : ItKept w w := fun _ _ _ h => h
theorem ItKept.trans {a b c : World} (h : ItKept a b) (k : ItKept b c) : ItKept a c := fun i s p hi => k i s p (h i s p hi)
theorem ItKept.below {w w' : World} (h : Below w.heap.size w w') : ItKept w w' := fun i s p hi => (h.block i (blk_lt hi)).trans hi
theorem ItKept.set {w : World} {g : Nat} {cs : Array Value} {t : TypeId} (h : w.heap[g]? = some (.cells cs t (0, 0))) (j : Nat) (v : Value) : ItKept w (w.setCell ⟨g, j, none⟩ v) := by
  intro i s p hi
  have hne : i ≠ g := by
    rintro rfl
    rw [h] at hi
    cases hi
  exact (Below.heap_setCell w ⟨g, j, none⟩ v i hne).trans hi
theorem ItKept.keep {w w' : World} {g : Nat} {cs : Array Value} {t : TypeId} {row : Option Nat} (hk : KeepBut w w' g row) (h : w.heap[g]? = some (.cells cs t (0, 0))) (hr : ∀ k, row = some k → ∃ cs' t', w.heap[k]? = some (.cells cs' t' (0, 0))) : ItKept w w' := by
  intro i s p hi
  have hne : i ≠ g := by
    rintro rfl
    rw [h] at hi
    cases hi
  refine (hk.2 i (blk_lt hi) hne ?_).trans hi
  intro e
  obtain ⟨cs', t', h'⟩ := hr i e.symm
  rw [h'] at hi
  cases hi

/-- The reader r lies in block g; base on is the call's own; iterators of wi stand. -/
def RP (w0 wi : World) (base g : Nat) (s : ByteArray) (w : World) (r : RS) : Prop :=
  ∃ lv, w.heap[g]? = some (rdr s lv r.line r.fr r.nt r.er) ∧ k33.R 33 w base (fun _ => True) lv r.xs ∧ Below base w0 w ∧ ItKept wi w

theorem RP.set {w0 wi : World} {base g : Nat} {s : ByteArray} {w : World} {r : RS} (h : RP w0 wi base g s w r) (hbg : base ≤ g) {r' : RS} (j : Nat) (v : Value) (hx : r'.xs = r.xs)
    (hj : ∀ lv, (#[Value.string s, lv, .int .i64 r.line, .int .i64 r.fr, .bool r.nt, .int .i64 r.er] : Array Value).setIfInBounds j v = #[Value.string s, lv, .int .i64 r'.line, .int .i64 r'.fr, .bool r'.nt, .int .i64 r'.er]) :
    RP w0 wi base g s (w.setCell ⟨g, j, none⟩ v) r' := by
  obtain ⟨lv, h1, h2, h3, h4⟩ := h
  refine ⟨lv, ?_, ?_, h3.setCell hbg _, h4.trans (ItKept.set h1 j v)⟩
  · have := blk_set h1 j v
    rw [hj lv] at this
    exact this
  · rw [hx]
    exact Kd.R_set h2 h1 (by decide) j v

theorem put_rs (w0 wi : World) (base g : Nat) (s : ByteArray) (w : World) (r : RS) (k : Int) (t : ByteArray) (n ln0 : Int) (h : RP w0 wi base g s w r) (hbg : base ≤ g) (hl : r.xs.length ≤ 100000) :
    Calls Try.prog 16 #[.pointer (some ⟨g, 0, none⟩), .agg #[.int .i64 k, .string t, .int .i64 n, .int .i64 ln0]] w fun e w' => e = .returned (.tuple #[]) ∧ RP w0 wi base g s w' (r.put k t n) := by
  obtain ⟨lv, h1, h2, h3, h4⟩ := h
  refine (put_any g s lv r.line r.fr r.nt r.er r.xs k t n ln0 w0 w base h1 h2 h3 hbg hl).mono ?_
  rintro e w' ⟨rfl, lv', g1, g2, g3, g4⟩
  refine ⟨rfl, lv', g1, g2, g3, h4.trans (ItKept.keep g4 h1 fun k hk => ?_)⟩
  obtain ⟨inner, ho⟩ := Kd.R_own h2
  obtain ⟨cs, hc⟩ := own_typed ho k hk
  exact ⟨cs, _, hc⟩

set_option maxRecDepth 1000000 in
set_option maxHeartbeats 4000000 in
theorem one_rs (w0 wi : World) (base g : Nat) (s : ByteArray) (w : World) (r : RS) (c : Int) (h : RP w0 wi base g s w r) (hbg : base ≤ g) (hl : r.xs.length ≤ 100000) (hline : 0 ≤ r.line ∧ r.line ≤ 100000) :
    Calls Try.prog 15 #[.pointer (some ⟨g, 0, none⟩), .int .i32 c] w fun e w' => e = .returned (.tuple #[]) ∧ RP w0 wi base g s w' (r.one c) := by
  have H := Lib.hid h
  obtain ⟨lv, hR, _, _, _⟩ := h
  by_cases h32 : c = 32 ∨ c = 9
  · have HE := Lib.hid (show r.one c = r by unfold RS.one; rw [if_pos h32])
    by_cases h1 : c = 32
    · have e1 : (c == 32) = true := by rw [h1]; rfl
      clear h1 h32
      go_enter Try.func15, Try.ntmps15
      go_wp2
      go_end0
      exact ⟨rfl, by rw [HE.out]; exact H.out⟩
    · have e1 : (c == 32) = false := by simpa using h1
      have e2 : (c == 9) = true := by rw [h32.resolve_left h1]; rfl
      clear h1 h32
      go_enter Try.func15, Try.ntmps15
      go_wp2
      go_end0
      exact ⟨rfl, by rw [HE.out]; exact H.out⟩
  have e1 : (c == 32) = false := by simp only [beq_eq_false_iff_ne]; exact fun h => h32 (.inl h)
  have e2 : (c == 9) = false := by simp only [beq_eq_false_iff_ne]; exact fun h => h32 (.inr h)
  by_cases h58 : c = 58
  · have HE := Lib.hid (show r.one c = r.put 3 ⟨#[]⟩ 0 by unfold RS.one; rw [if_neg h32, if_pos h58])
    have e3 : (c == 58) = true := by rw [h58]; rfl
    clear h58 h32
    go_enter Try.func15, Try.ntmps15
    go_wp2_with fail
    refine (put_rs w0 wi base g s w r 3 ⟨#[]⟩ 0 0 H.out hbg hl).mono ?_
    rintro e w1 ⟨rfl, hP⟩
    go_wp2
    go_end0
    exact ⟨rfl, by rw [HE.out]; exact hP⟩
  have e3 : (c == 58) = false := by simpa using h58
  by_cases h44 : c = 44
  · have HE := Lib.hid (show r.one c = r.put 4 ⟨#[]⟩ 0 by unfold RS.one; rw [if_neg h32, if_neg h58, if_pos h44])
    have e4 : (c == 44) = true := by rw [h44]; rfl
    clear h44 h58 h32
    go_enter Try.func15, Try.ntmps15
    go_wp2_with fail
    refine (put_rs w0 wi base g s w r 4 ⟨#[]⟩ 0 0 H.out hbg hl).mono ?_
    rintro e w1 ⟨rfl, hP⟩
    go_wp2
    go_end0
    exact ⟨rfl, by rw [HE.out]; exact hP⟩
  have e4 : (c == 44) = false := by simpa using h44
  by_cases h10 : c = 10
  · have HE := Lib.hid (show r.one c = { r.put 5 ⟨#[]⟩ 0 with line := r.line + 1 } by unfold RS.one; rw [if_neg h32, if_neg h58, if_neg h44, if_pos h10])
    have e5 : (c == 10) = true := by rw [h10]; rfl
    clear h10 h44 h58 h32 hR
    go_enter Try.func15, Try.ntmps15
    go_wp2_with fail
    refine (put_rs w0 wi base g s w r 5 ⟨#[]⟩ 0 0 H.out hbg hl).mono ?_
    rintro e w1 ⟨rfl, hP⟩
    have HP := Lib.hid hP
    obtain ⟨lv1, hR1, _, _, _⟩ := hP
    have d2 : w1.cell? ⟨g, 2, none⟩ = some (.int .i64 r.line) := blk_cell hR1 2
    have z2 := blk_frozen hR1 2
    clear hR1
    go_wp2
    go_end0
    refine ⟨rfl, ?_⟩
    rw [HE.out]
    exact HP.out.set hbg 2 _ rfl (fun _ => rfl)
  have e5 : (c == 10) = false := by simpa using h10
  by_cases h35 : c = 35
  · have HE := Lib.hid (show r.one c = { r with nt := true } by unfold RS.one; rw [if_neg h32, if_neg h58, if_neg h44, if_neg h10, if_pos h35])
    have e6 : (c == 35) = true := by rw [h35]; rfl
    have d4 := blk_cell hR 4
    have z4 := blk_frozen hR 4
    clear h35 h10 h44 h58 h32 hR
    go_enter Try.func15, Try.ntmps15
    go_wp2
    go_end0
    refine ⟨rfl, ?_⟩
    rw [HE.out]
    exact H.out.set hbg 4 _ rfl (fun _ => rfl)
  · have HE := Lib.hid (show r.one c = { r with er := 2 } by unfold RS.one; rw [if_neg h32, if_neg h58, if_neg h44, if_neg h10, if_neg h35])
    have e6 : (c == 35) = false := by simpa using h35
    have d5 := blk_cell hR 5
    have z5 := blk_frozen hR 5
    clear h35 h10 h44 h58 h32 hR
    go_enter Try.func15, Try.ntmps15
    go_wp2
    go_end0
    refine ⟨rfl, ?_⟩
    rw [HE.out]
    exact H.out.set hbg 5 _ rfl (fun _ => rfl)
end Go.Proofs.Ytpbbiedpbegamaa.X

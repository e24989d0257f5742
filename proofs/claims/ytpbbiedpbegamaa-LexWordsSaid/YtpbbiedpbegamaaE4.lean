/- Walks of lex.reader's methods: a token is put. -/
import Derived.Test.YtpbbiedpbegamaaX0
import Derived.Test.YtpbbiedpbegamaaE3
set_option linter.unusedSimpArgs false
set_option linter.unusedVariables false
namespace Go.Proofs.Ytpbbiedpbegamaa.X
open Go.RowKit Go.Proofs.YtpbbiedpbegamaaW.PrintWords Go.Proofs.YtpbbiedpbegamaaW.PrintLast Go.Proofs.YtpbbiedpbegamaaW.PrintMore

/-- What a reader's block holds. -/
def rdr (s : ByteArray) (lv : Value) (line fr : Int) (nt : Bool) (er : Int) : Obj := .cells #[.string s, lv, .int .i64 line, .int .i64 fr, .bool nt, .int .i64 er] 36 (0, 0)

/-- The error behind one token more, n tokens being there. -/
def errOver (n : Nat) (er : Int) : Int := if 800 ≤ n ∧ er = 0 then 7 else er
theorem errOver_t {n : Nat} {er : Int} (h : 800 ≤ n) (he : er = 0) : errOver n er = 7 := if_pos ⟨h, he⟩
theorem errOver_f {n : Nat} {er : Int} (h : ¬ (800 ≤ n ∧ er = 0)) : errOver n er = er := if_neg h

theorem R_ne_rdr {g : Nat} {s : ByteArray} {lv : Value} {line fr : Int} {nt : Bool} {er : Int} {xs : List S33} {w : World} {base : Nat}
    (hR : w.heap[g]? = some (rdr s lv line fr nt er)) (hO : k33.R 33 w base (fun _ => True) lv xs) : some g ≠ lv.ownBlock := Kd.R_ne hO hR (by decide)

theorem put_facts {g : Nat} {s : ByteArray} {lv : Value} {line fr : Int} {nt : Bool} {er : Int} {xs : List S33} {w w1 : World} {base : Nat} {v1 : Value} {x : S33} {o1 : Obj}
    (hR : w.heap[g]? = some (rdr s lv line fr nt er)) (hO : k33.R 33 w base (fun _ => True) lv xs) (hl : xs.length ≤ 100000)
    (hG : ((w.alloc o1).drew).grownBy w1 lv.ownBlock) (hO1 : k33.R 33 w1 base (fun _ => True) v1 (xs ++ [x])) :
    ∃ A1 c1, v1 = .slice A1 (xs.length + 1) c1 ∧ w1.heap[g]? = some (rdr s lv line fr nt er) := by
  obtain ⟨A, c, h1, _, _⟩ := Kd.R_reads hO1
  refine ⟨A, c, by rw [h1]; simp, ?_⟩
  have hne := R_ne_rdr hR hO
  have h2 : ((w.alloc o1).drew).heap[g]? = some (rdr s lv line fr nt er) := ((below_drew (below_alloc (Below.refl _ _) o1)).block g (blk_lt hR)).trans hR
  exact blk_grown h2 hG hne
/-- What the store of the longer row leaves. -/
theorem put_done {g : Nat} {s : ByteArray} {lv : Value} {line fr : Int} {nt : Bool} {er : Int} {xs : List S33} {w w0 w1 : World} {base : Nat} {v1 : Value} {x : S33} {o1 : Obj}
    (hR : w.heap[g]? = some (rdr s lv line fr nt er)) (hO : k33.R 33 w base (fun _ => True) lv xs) (hbg : base ≤ g)
    (hG : ((w.alloc o1).drew).grownBy w1 lv.ownBlock) (hO1 : k33.R 33 w1 base (fun _ => True) v1 (xs ++ [x])) (hB1 : Below base w0 w1) (hR1 : w1.heap[g]? = some (rdr s lv line fr nt er)) :
    (w1.setCell ⟨g, 1, none⟩ v1).heap[g]? = some (rdr s v1 line fr nt er) ∧ k33.R 33 (w1.setCell ⟨g, 1, none⟩ v1) base (fun _ => True) v1 (xs ++ [x]) ∧ Below base w0 (w1.setCell ⟨g, 1, none⟩ v1) ∧ KeepBut w (w1.setCell ⟨g, 1, none⟩ v1) g lv.ownBlock := by
  refine ⟨?_, Kd.R_set hO1 hR1 (by decide) 1 v1, hB1.setCell hbg _, ?_⟩
  · have h := blk_set hR1 1 v1
    exact h
  · refine KeepBut.set_ ?_ 1 v1
    exact KeepBut.trans (KeepBut.of_below (below_drew (below_alloc (Below.refl _ _) o1)) g lv.ownBlock) (KeepBut.of_grown hG g) (.inl rfl)
theorem put_over {g : Nat} {s : ByteArray} {lv : Value} {line fr : Int} {nt : Bool} {er e2 : Int} {xs : List S33} {w0 w W : World} {base : Nat} {row : Option Nat}
    (h : W.heap[g]? = some (rdr s lv line fr nt er) ∧ k33.R 33 W base (fun _ => True) lv xs ∧ Below base w0 W ∧ KeepBut w W g row) (hbg : base ≤ g) :
    (W.setCell ⟨g, 5, none⟩ (.int .i64 e2)).heap[g]? = some (rdr s lv line fr nt e2) ∧ k33.R 33 (W.setCell ⟨g, 5, none⟩ (.int .i64 e2)) base (fun _ => True) lv xs ∧ Below base w0 (W.setCell ⟨g, 5, none⟩ (.int .i64 e2)) ∧ KeepBut w (W.setCell ⟨g, 5, none⟩ (.int .i64 e2)) g row := by
  obtain ⟨h1, h2, h3, h4⟩ := h
  exact ⟨blk_set h1 5 _, Kd.R_set h2 h1 (by decide) 5 _, h3.setCell hbg _, KeepBut.set_ h4 5 _⟩

set_option maxRecDepth 1000000 in
set_option maxHeartbeats 4000000 in
theorem put_any (g : Nat) (s : ByteArray) (lv : Value) (line fr : Int) (nt : Bool) (er : Int) (xs : List S33) (k : Int) (t : ByteArray) (n ln0 : Int) (w0 w : World) (base : Nat)
    (hR : w.heap[g]? = some (rdr s lv line fr nt er)) (hO : k33.R 33 w base (fun _ => True) lv xs) (hB : Below base w0 w) (hbg : base ≤ g) (hl : xs.length ≤ 100000) :
    Calls Try.prog 16 #[.pointer (some ⟨g, 0, none⟩), .agg #[.int .i64 k, .string t, .int .i64 n, .int .i64 ln0]] w fun e w' => e = .returned (.tuple #[]) ∧
      ∃ lv', w'.heap[g]? = some (rdr s lv' line fr nt (errOver xs.length er)) ∧ k33.R 33 w' base (fun _ => True) lv' (xs ++ [⟨k, t, n, line⟩]) ∧ Below base w0 w' ∧ KeepBut w w' g lv.ownBlock := by
  have hg : g < w.heap.size := blk_lt hR
  have c2 := blk_cell hR 2
  have hu33 := Try.underlying33
  have hu36 := Try.underlying36
  have hu23 := Try.underlying23
  have HO := Lib.hid hO
  have HB := Lib.hid hB
  clear hB
  go_enter Try.func16, Try.ntmps16
  go_wp2_with fail
  have d1 : ((w.alloc (.cells #[.int .i64 k, .string t, .int .i64 n, .int .i64 line] 33)).drew).cell? ⟨g, 1, none⟩ = some lv := pw_cell_below (below_drew (below_alloc (Below.refl _ _) _)) (blk_cell hR 1)
  have hnew := heap_alloc_new w (.cells #[.int .i64 k, .string t, .int .i64 n, .int .i64 line] 33)
  have b0 : ((w.alloc (.cells #[.int .i64 k, .string t, .int .i64 n, .int .i64 line] 33)).drew).cell? ⟨w.heap.size, 0, none⟩ = some (.int .i64 k) := blk_cell hnew 0
  have b1 : ((w.alloc (.cells #[.int .i64 k, .string t, .int .i64 n, .int .i64 line] 33)).drew).cell? ⟨w.heap.size, 1, none⟩ = some (.string t) := blk_cell hnew 1
  have b2 : ((w.alloc (.cells #[.int .i64 k, .string t, .int .i64 n, .int .i64 line] 33)).drew).cell? ⟨w.heap.size, 2, none⟩ = some (.int .i64 n) := blk_cell hnew 2
  have b3 : ((w.alloc (.cells #[.int .i64 k, .string t, .int .i64 n, .int .i64 line] 33)).drew).cell? ⟨w.heap.size, 3, none⟩ = some (.int .i64 line) := blk_cell hnew 3
  have hsz : base ≤ w.heap.size := by omega
  have HO1 : Hid (k33.R 33 ((w.alloc (.cells #[.int .i64 k, .string t, .int .i64 n, .int .i64 line] 33)).drew) base (fun _ => True) lv xs) := Lib.hid (Kd.R_below HO.out (below_drew (below_alloc (Below.refl _ _) _)))
  have HB1 : Hid (Below base w0 ((w.alloc (.cells #[.int .i64 k, .string t, .int .i64 n, .int .i64 line] 33)).drew)) := Lib.hid (below_drew (HB.out.alloc hsz _))
  clear hnew c2
  refine start_ (n := 11) (S := fun w' => w'.cell? ⟨g, 1, none⟩ = some lv ∧ w'.cell? ⟨w.heap.size, 0, none⟩ = some (.int .i64 k) ∧ w'.cell? ⟨w.heap.size, 1, none⟩ = some (.string t) ∧ w'.cell? ⟨w.heap.size, 2, none⟩ = some (.int .i64 n) ∧ w'.cell? ⟨w.heap.size, 3, none⟩ = some (.int .i64 line)) (ds := [7, 10]) #[false, false, false, false, false, false, false, false, false, false, false] (by kernel_rfl) rfl rfl ⟨d1, b0, b1, b2, b3⟩ (fun hHeld => ?_)
  refine pure_ (i := 0) (N := some 9) (v := ?_) (a' := ?_) #[true, false, false, false, false, false, false, false, false, false, false] rfl rfl (by kernel_rfl) (fun _ _ _ h => h) (Or.inl ⟨by rfl, ?_⟩) ?_ ?_
  rotate_left
  · intro w'
    go_simp
    with_reducible rfl
  rotate_left
  · simp only [Act.put, List.setIfInBounds_toArray, List.set_cons_zero, List.set_cons_succ, i64_w, i32_w]
    rfl
  refine pure_ (i := 1) (N := some 10) (v := ?_) (a' := ?_) #[true, true, false, false, false, false, false, false, false, false, false] rfl rfl (by kernel_rfl) (fun _ _ _ h => h) (Or.inl ⟨by rfl, ?_⟩) ?_ ?_
  rotate_left
  · intro w'
    go_simp
    with_reducible rfl
  rotate_left
  · simp only [Act.put, List.setIfInBounds_toArray, List.set_cons_zero, List.set_cons_succ, i64_w, i32_w]
    rfl
  refine pure_ (i := 2) (N := some 11) (v := ?_) (a' := ?_) #[true, true, true, false, false, false, false, false, false, false, false] rfl rfl (by kernel_rfl) (fun _ _ _ h => h) (Or.inl ⟨by rfl, ?_⟩) ?_ ?_
  rotate_left
  · intro w'
    go_simp
    with_reducible rfl
  rotate_left
  · simp only [Act.put, List.setIfInBounds_toArray, List.set_cons_zero, List.set_cons_succ, i64_w, i32_w]
    rfl
  refine pure_ (i := 3) (N := some 12) (v := ?_) (a' := ?_) #[true, true, true, true, false, false, false, false, false, false, false] rfl rfl (by kernel_rfl) (fun _ _ _ h => h) (Or.inl ⟨by rfl, ?_⟩) ?_ ?_
  rotate_left
  · intro w'
    go_simp
    with_reducible rfl
  rotate_left
  · simp only [Act.put, List.setIfInBounds_toArray, List.set_cons_zero, List.set_cons_succ, i64_w, i32_w]
    rfl
  refine take_ (i := 4) (N := some 13) (v := ?_) (a' := ?_) #[true, true, true, true, true, false, false, false, false, false, false] rfl rfl (by kernel_rfl) (fun _ _ _ h => h) (Or.inl ⟨by rfl, ?_⟩) hHeld ?_ ?_
  rotate_left
  · rintro w' ⟨s0, s1, s2, s3, s4⟩
    go_simp
    with_reducible rfl
  rotate_left
  · simp only [Act.put, List.setIfInBounds_toArray, List.set_cons_zero, List.set_cons_succ, i64_w, i32_w]
    rfl
  refine take_ (i := 5) (N := some 14) (v := ?_) (a' := ?_) #[true, true, true, true, true, true, false, false, false, false, false] rfl rfl (by kernel_rfl) (fun _ _ _ h => h) (Or.inl ⟨by rfl, ?_⟩) hHeld ?_ ?_
  rotate_left
  · rintro w' ⟨s0, s1, s2, s3, s4⟩
    go_simp
    with_reducible rfl
  rotate_left
  · simp only [Act.put, List.setIfInBounds_toArray, List.set_cons_zero, List.set_cons_succ, i64_w, i32_w]
    rfl
  refine one_ (i := 6) (N := some 15) #[true, true, true, true, true, true, true, false, false, false, false] rfl rfl (by kernel_rfl) (by decide) (fun K hK => ?_)
  refine value_ (w1 := ?_) (v := ?_) (by rfl) rfl ?_ ?_
  rotate_left 2
  · go_simp
    constructor
    · rfl
    · rfl
  refine hK.out _ _ ⟨(pw_cell_below (below_alloc (Below.refl _ _) _) d1), (pw_cell_below (below_alloc (Below.refl _ _) _) b0), (pw_cell_below (below_alloc (Below.refl _ _) _) b1), (pw_cell_below (below_alloc (Below.refl _ _) _) b2), (pw_cell_below (below_alloc (Below.refl _ _) _) b3)⟩ (fun hHeld => ?_)
  clear hK K
  refine norm_ (a' := ?_) ?_ ?_
  rotate_left
  · show Act.put _ (some 15) _ = _
    simp only [Act.put, List.setIfInBounds_toArray, List.set_cons_zero, List.set_cons_succ, i64_w, i32_w]
    rfl
  refine last_ (i := 7) (N := some 16) #[true, true, true, true, true, true, true, true, false, false, false] rfl rfl (by kernel_rfl) (by decide) (fun K hK => ?_)
  refine Kd.R_append_step k33 (w0 := w0) base (by rfl) (.tmp 13) (.tmp 15) 23 33 (.agg #[.int .i64 0, .string ⟨#[]⟩, .int .i64 0, .int .i64 0]) 40 rfl hu23 info33 rfl (by decide) (by decide) lv xs ⟨k, t, n, line⟩ [.int .i64 k, .string t, .int .i64 n, .int .i64 line] (fun _ => True) (fun _ => False) rfl (by simp [Act.eval]) (k33_mkM _ _ _ ⟨k, t, n, line⟩) (fun _ h => h.elim) (fun _ _ => trivial) HO1.out HB1.out (by simp; omega) (by omega) ?_
  intro v1 w1 hO1 hB1 hG1 hA1
  refine hK.out _ _ ?_
  clear hK K
  refine norm_ (a' := ?_) ?_ ?_
  rotate_left
  · show Act.put _ (some 16) _ = _
    simp only [Act.put, List.setIfInBounds_toArray, List.set_cons_zero, List.set_cons_succ, i64_w, i32_w]
    rfl
  refine pure_ (i := 8) (N := some 17) (v := ?_) (a' := ?_) #[true, true, true, true, true, true, true, true, true, false, false] rfl rfl (by kernel_rfl) (fun _ _ _ h => h) (Or.inl ⟨by rfl, ?_⟩) ?_ ?_
  rotate_left
  · intro w'
    go_simp
    with_reducible rfl
  rotate_left
  · simp only [Act.put, List.setIfInBounds_toArray, List.set_cons_zero, List.set_cons_succ, i64_w, i32_w]
    rfl
  refine pure_ (i := 9) (N := some 18) (v := ?_) (a' := ?_) #[true, true, true, true, true, true, true, true, true, true, false] rfl rfl (by kernel_rfl) (fun _ _ _ h => h) (Or.inl ⟨by rfl, ?_⟩) ?_ ?_
  rotate_left
  · intro w'
    go_simp
    with_reducible rfl
  rotate_left
  · simp only [Act.put, List.setIfInBounds_toArray, List.set_cons_zero, List.set_cons_succ, i64_w, i32_w]
    rfl
  refine last_ (i := 10) (N := none) #[true, true, true, true, true, true, true, true, true, true, true] rfl rfl (by kernel_rfl) (by decide) (fun K hK => ?_)
  have HS := Lib.hid (put_facts hR hO hl hG1 hO1)
  obtain ⟨A1, p1, rfl, hR1⟩ := HS.out
  have f1 := blk_frozen hR1 1
  have e1 := blk_cell hR1 1
  refine skip_ (w1 := ?_) (by rfl) rfl ?_ ?_
  rotate_left
  · go_simp
    rfl
  refine hK.out _ _ ?_
  clear hK K
  refine done_ (by kernel_rfl) ?_

  have HP := Lib.hid (put_done hR HO.out hbg hG1 hO1 hB1 hR1)
  have g1 := blk_cell HP.out.1 1
  have g5 := blk_cell HP.out.1 5
  have z5 := blk_frozen HP.out.1 5
  clear hG1 hO1 hB1 hA1 HS HO HB HO1 HB1 hO hR e1 f1 hR1 d1 b0 b1 b2 b3
  by_cases h8 : 800 ≤ xs.length
  · have h8' : decide (800 < ((xs.length + 1 : Nat) : Int)) = true := by simp; omega
    by_cases he : er = 0
    · have he' : (er == 0) = true := by rw [he]; rfl
      have HE := Lib.hid he
      clear he
      go_wp2
      go_end0
      exact ⟨rfl, _, by rw [errOver_t h8 HE.out]; exact put_over HP.out hbg⟩
    · have he' : (er == 0) = false := by simpa using he
      have HE := Lib.hid he
      clear he
      go_wp2
      go_end0
      exact ⟨rfl, _, by rw [errOver_f (fun h => HE.out h.2)]; exact HP.out⟩
  · have h8' : decide (800 < ((xs.length + 1 : Nat) : Int)) = false := by simp; omega
    go_wp2
    go_end0
    exact ⟨rfl, _, by rw [errOver_f (fun h => h8 h.1)]; exact HP.out⟩
end Go.Proofs.Ytpbbiedpbegamaa.X


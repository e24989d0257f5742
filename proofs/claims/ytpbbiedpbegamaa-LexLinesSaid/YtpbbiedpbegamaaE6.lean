/- Walk of lex.reader.close: a word or a number that began is a token. -/
import Derived.Test.YtpbbiedpbegamaaE5
set_option linter.unusedSimpArgs false
set_option linter.unusedVariables false
namespace Go.Proofs.Ytpbbiedpbegamaa.X
open Go.RowKit Go.Proofs.YtpbbiedpbegamaaW.PrintWords Go.Proofs.YtpbbiedpbegamaaW.PrintLast Go.Proofs.YtpbbiedpbegamaaW.PrintMore

theorem RP.below {w0 wi : World} {base g : Nat} {s : ByteArray} {w w' : World} {r : RS} (h : RP w0 wi base g s w r) (hbg : base ≤ g) (hb : Below w.heap.size w w') : RP w0 wi base g s w' r := by
  obtain ⟨lv, h1, h2, h3, h4⟩ := h
  have hs : base ≤ w.heap.size := by have := blk_lt h1; omega
  exact ⟨lv, (hb.block g (blk_lt h1)).trans h1, Kd.R_below h2 hb, below_then h3 hs hb, h4.trans (ItKept.below hb)⟩

set_option maxRecDepth 1000000 in
set_option maxHeartbeats 4000000 in
theorem close_rs (w0 wi : World) (base g : Nat) (s : ByteArray) (w : World) (r : RS) (at_ : Nat) (h : RP w0 wi base g s w r) (hbg : base ≤ g) (hl : r.xs.length ≤ 100000) (hfr : r.fr ≤ at_) (hat : at_ ≤ s.size) (hs : s.size ≤ 100000) :
    Calls Try.prog 14 #[.pointer (some ⟨g, 0, none⟩), .int .i64 (at_ : Int)] w fun e w' => e = .returned (.tuple #[]) ∧ RP w0 wi base g s w' (r.close s at_) := by
  have H := Lib.hid h
  obtain ⟨lv, hR, _, _, _⟩ := h
  have d3 := blk_cell hR 3
  have z3 := blk_frozen hR 3
  have d0 := blk_cell hR 0
  by_cases hf : r.fr < 0
  · have HE := Lib.hid (show r.close s at_ = r by unfold RS.close; rw [if_pos hf])
    have e1 : decide (r.fr < 0) = true := decide_eq_true hf
    go_enter Try.func14, Try.ntmps14
    go_wp2
    refine bodyPost_ret (results_none rfl _ _ _) rfl ?_
    exact ⟨rfl, by rw [HE.out]; exact H.out⟩
  have e1 : decide (r.fr < 0) = false := decide_eq_false hf
  have h0 : 0 ≤ r.fr := by omega
  have hb1 : r.fr ≤ (at_ : Int) := hfr
  have hb2 : (at_ : Int) ≤ (s.size : Int) := by omega
  clear hR
  go_enter Try.func14, Try.ntmps14
  go_wp2
  go_quiet (fail)
  go_wp2_with fail
  have HP0 : Hid (RP w0 wi base g s ((w.drewN nq).setCell ⟨g, 3, none⟩ (.int .i64 (-1))) { r with fr := -1 }) :=
    Lib.hid ((H.out.below hbg (w' := w.drewN nq) (pw_below_drewN (Below.refl _ _) nq)).set hbg 3 _ rfl (fun _ => rfl))
  clear d3 d0 z3 H
  generalize hW : (w.drewN nq).setCell ⟨g, 3, none⟩ (.int .i64 (-1)) = W at *
  have HC : Hid (r.close s at_ = if wordB (s.extract r.fr.toNat at_) then ({ r with fr := -1 } : RS).put 1 (s.extract r.fr.toNat at_) 0
      else if (numO (s.extract r.fr.toNat at_)).isSome then ({ r with fr := -1 } : RS).put 2 ⟨#[]⟩ (numV (s.extract r.fr.toNat at_))
      else { r with fr := -1, er := 2 }) := Lib.hid (by unfold RS.close; rw [if_neg (by omega)])
  have hts : (s.extract r.fr.toNat at_).size ≤ 9223372036854775807 := by rw [ByteArray.size_extract]; omega
  generalize ht : s.extract r.fr.toNat at_ = t at *
  clear ht hW
  obtain ⟨b, Hb⟩ : ∃ b, Hid (wordB t = b) := ⟨_, Lib.hid rfl⟩
  refine (word_any t W).mono ?_
  rintro e w1 ⟨rfl, hb3⟩
  rw [Hb.out]
  have HP1 : Hid (RP w0 wi base g s w1 { r with fr := -1 }) := Lib.hid (HP0.out.below hbg hb3)
  clear hb3 HP0
  cases b with
  | true =>
    go_wp2_with fail
    refine (put_rs w0 wi base g s w1 { r with fr := -1 } 1 t 0 0 HP1.out hbg hl).mono ?_
    rintro e w2 ⟨rfl, hP⟩
    go_wp2
    refine bodyPost_ret (results_none rfl _ _ _) rfl ?_
    refine ⟨rfl, ?_⟩
    rw [HC.out, Hb.out]
    exact hP
  | false =>
    go_wp2_with fail
    refine (number_any t w1 hts).mono ?_
    rintro e w2 ⟨rfl, hb4⟩
    obtain ⟨b2, Hb2⟩ : ∃ b, Hid ((numO t).isSome = b) := ⟨_, Lib.hid rfl⟩
    rw [Hb2.out]
    obtain ⟨nv, Hn⟩ : ∃ n, Hid (numV t = n) := ⟨_, Lib.hid rfl⟩
    rw [Hn.out]
    have HP2 : Hid (RP w0 wi base g s w2 { r with fr := -1 }) := Lib.hid (HP1.out.below hbg hb4)
    clear hb4 HP1
    cases b2 with
    | true =>
      go_wp2_with fail
      refine (put_rs w0 wi base g s w2 { r with fr := -1 } 2 ⟨#[]⟩ nv 0 HP2.out hbg hl).mono ?_
      rintro e w3 ⟨rfl, hP⟩
      go_wp2
      go_end0
      refine ⟨rfl, ?_⟩
      rw [HC.out, Hb.out, Hb2.out, Hn.out]
      exact hP
    | false =>
      obtain ⟨lv2, hR2, _, _, _⟩ := HP2.out
      have d5 := blk_cell hR2 5
      have z5 := blk_frozen hR2 5
      clear hR2
      go_wp2
      refine bodyPost_ret (results_none rfl _ _ _) rfl ?_
      refine ⟨rfl, ?_⟩
      rw [HC.out, Hb.out, Hb2.out]
      exact HP2.out.set hbg 5 _ rfl (fun _ => rfl)
end Go.Proofs.Ytpbbiedpbegamaa.X

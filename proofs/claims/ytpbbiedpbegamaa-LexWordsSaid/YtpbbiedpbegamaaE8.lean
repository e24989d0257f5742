/- Walk of lex.Read: a text's tokens, or where it has none. -/
import Derived.Test.YtpbbiedpbegamaaE7
import Derived.Lib.OthersKept
set_option linter.unusedSimpArgs false
set_option linter.unusedVariables false
namespace Go.Proofs.Ytpbbiedpbegamaa.X
open Go.RowKit Go.Proofs.YtpbbiedpbegamaaW.PrintWords Go.Proofs.YtpbbiedpbegamaaW.PrintLast Go.Proofs.YtpbbiedpbegamaaW.PrintMore

theorem part_any (c : Int) (w : World) : Calls Try.prog 13 #[.int .i32 c] w fun e w' => e = .returned (.bool (partB c)) ∧ w = w' := by
  obtain ⟨a, ha⟩ : ∃ a, Hid (letB c = a) := ⟨_, Lib.hid rfl⟩
  obtain ⟨b, hb⟩ : ∃ a, Hid (digB c = a) := ⟨_, Lib.hid rfl⟩
  have hp : Hid (partB c = (a || b || decide (c = 45))) := Lib.hid (by unfold partB; rw [ha.out, hb.out])
  cases a with
  | true =>
    go_enter Try.func13, Try.ntmps13
    go_wp2_with (first | (go_at_call 19; refine (letter_any _ _).mono ?_; rintro e w' ⟨rfl, rfl⟩; rw [ha.out]) | (go_at_call 20; refine (digit_any _ _).mono ?_; rintro e w' ⟨rfl, rfl⟩; rw [hb.out]))
    go_ret
    exact ⟨by rw [hp.out]; rfl, rfl⟩
  | false =>
    cases b with
    | true =>
      go_enter Try.func13, Try.ntmps13
      go_wp2_with (first | (go_at_call 19; refine (letter_any _ _).mono ?_; rintro e w' ⟨rfl, rfl⟩; rw [ha.out]) | (go_at_call 20; refine (digit_any _ _).mono ?_; rintro e w' ⟨rfl, rfl⟩; rw [hb.out]))
      go_ret
      exact ⟨by rw [hp.out]; rfl, rfl⟩
    | false =>
      go_enter Try.func13, Try.ntmps13
      go_wp2_with (first | (go_at_call 19; refine (letter_any _ _).mono ?_; rintro e w' ⟨rfl, rfl⟩; rw [ha.out]) | (go_at_call 20; refine (digit_any _ _).mono ?_; rintro e w' ⟨rfl, rfl⟩; rw [hb.out]))
      go_ret
      exact ⟨ret_bool (by rw [hp.out]; rfl), rfl⟩

theorem RP.restart {w0 wi : World} {base g : Nat} {s : ByteArray} {w : World} {r : RS} (h : RP w0 wi base g s w r) : RP w0 w base g s w r := by
  obtain ⟨lv, h1, h2, h3, _⟩ := h
  exact ⟨lv, h1, h2, h3, ItKept.refl _⟩
theorem RP.iterAt {w0 wi : World} {base g k : Nat} {s t : ByteArray} {w : World} {r : RS} {pos : Nat} (h : RP w0 wi base g s w r) (hk : w.heap[k]? = some (.stringIter t pos)) (hb : base ≤ k) (pos' : Nat) : RP w0 (w.iterAt k t pos') base g s (w.iterAt k t pos') r := by
  obtain ⟨lv, h1, h2, h3, _⟩ := h
  have hg : g ≠ k := by
    rintro rfl
    rw [h1] at hk
    cases hk
  refine ⟨lv, (Lib.iterAt_other w k g t pos' hg).trans h1, ?_, Lib.below_iterAt h3 hb t pos', ItKept.refl _⟩
  refine Kd.R_mono (Kd.R_move (Kd.R_bound h2) (fun i hi => ?_)) (fun _ _ => trivial)
  obtain ⟨_, _, _, q, _, cells, hc⟩ := hi
  refine Lib.iterAt_other w k i t pos' ?_
  rintro rfl
  rw [hc] at hk
  cases hk
theorem RP.facts {w0 wi : World} {base g : Nat} {s : ByteArray} {w : World} {r : RS} (h : RP w0 wi base g s w r) :
    w.cell? ⟨g, 2, none⟩ = some (.int .i64 r.line) ∧ w.cell? ⟨g, 3, none⟩ = some (.int .i64 r.fr) ∧ w.cell? ⟨g, 4, none⟩ = some (.bool r.nt) ∧ w.cell? ⟨g, 5, none⟩ = some (.int .i64 r.er) ∧ (∀ j, w.frozen? ⟨g, j, none⟩ = false) := by
  obtain ⟨lv, h1, _, _, _⟩ := h
  exact ⟨blk_cell h1 2, blk_cell h1 3, blk_cell h1 4, blk_cell h1 5, fun j => blk_frozen h1 j⟩

theorem rune_part {d : ByteArray} {pos : Nat} (hr : (byt d pos < 128 ∧ ((Utf8.decode d pos).1 : Int) = byt d pos ∧ (Utf8.decode d pos).2 = 1) ∨ (128 ≤ byt d pos ∧ 128 ≤ ((Utf8.decode d pos).1 : Int) ∧ 1 ≤ (Utf8.decode d pos).2)) : partB ((Utf8.decode d pos).1 : Int) = partB (byt d pos) := by
  rcases hr with ⟨_, h, _⟩ | ⟨h, h', _⟩
  · rw [h]
  · unfold partB
    rw [digB_f (by omega), digB_f (by omega), letB_f (by omega), letB_f (by omega), decide_eq_false (by omega), decide_eq_false (by omega)]
theorem part_ascii {c : Int} (h : partB c = true) : c < 128 := by
  unfold partB letB digB at h
  simp at h
  omega
theorem one_rune {d : ByteArray} {pos : Nat} (r : RS) (hr : (byt d pos < 128 ∧ ((Utf8.decode d pos).1 : Int) = byt d pos ∧ (Utf8.decode d pos).2 = 1) ∨ (128 ≤ byt d pos ∧ 128 ≤ ((Utf8.decode d pos).1 : Int) ∧ 1 ≤ (Utf8.decode d pos).2)) :
    r.one ((Utf8.decode d pos).1 : Int) = r.one (byt d pos) ∧ ((r.one (byt d pos)).er = 0 → (Utf8.decode d pos).2 = 1) := by
  rcases hr with ⟨_, h, h2⟩ | ⟨h, h', _⟩
  · rw [h]; exact ⟨rfl, fun _ => h2⟩
  · have e1 : ∀ c : Int, 128 ≤ c → r.one c = { r with er := 2 } := by
      intro c hc
      unfold RS.one
      rw [if_neg (by omega), if_neg (by omega), if_neg (by omega), if_neg (by omega), if_neg (by omega)]
    rw [e1 _ h', e1 _ h]
    exact ⟨rfl, fun h => by simp at h⟩
theorem iter_at (s : ByteArray) (n wd : Nat) (hn : n ≤ s.size) (hw : s.size - n + wd ≤ s.size) : s.size - n + wd = s.size - (n - wd) := by omega

theorem iterPos_of {w : World} {k : Nat} {s : ByteArray} {p : Nat} (h : w.heap[k]? = some (.stringIter s p)) : w.iterPos k = p := by simp [World.iterPos, h]

theorem rf_part {s : ByteArray} {n pos : Nat} {r : RS} (hn : pos + n = s.size) (hp : pos < s.size) (hA : ¬ (r.nt = true ∧ ¬ byt s pos = 10)) (hP : partB (byt s pos) = true) : rf s n r = rf s (n - 1) (r.from_ pos) := by
  obtain ⟨m, rfl⟩ : ∃ m, n = m + 1 := ⟨n - 1, by omega⟩
  have hpos : s.size - (m + 1) = pos := by omega
  rw [rf, hpos, if_neg hA, if_pos hP, Nat.add_sub_cancel]
theorem rf_step {s : ByteArray} {n pos : Nat} {r : RS} (hn : pos + n = s.size) (hp : pos < s.size) (hA : ¬ (r.nt = true ∧ ¬ byt s pos = 10)) (hP : partB (byt s pos) = false) :
    rf s n r = if (r.step s pos (byt s pos)).er = 0 then rf s (n - 1) (r.step s pos (byt s pos)) else ([], r.line, (r.step s pos (byt s pos)).er) := by
  obtain ⟨m, rfl⟩ : ∃ m, n = m + 1 := ⟨n - 1, by omega⟩
  have hpos : s.size - (m + 1) = pos := by omega
  rw [rf, hpos, if_neg hA, if_neg (by rw [hP]; decide), Nat.add_sub_cancel]

/-- What Read hands back. -/
def ReadPost (w : World) (x : List S33 × Int × Int) (e : Ending) (w' : World) : Prop :=
  ∃ v0_ : Value, e = .returned (.tuple #[v0_, .int .i64 x.2.1, .int .i64 x.2.2]) ∧ Kd.R k33 33 w' w.heap.size (fun _ => True) v0_ x.1 ∧ Below w.heap.size w w'

set_option maxRecDepth 1000000 in
set_option maxHeartbeats 4000000 in
theorem read_any (s : ByteArray) (w : World) : Calls Try.prog 7 #[.string s] w (ReadPost w (lexR s)) := by
  by_cases hs : 4096 < s.size
  · have HE := Lib.hid (show lexR s = ([], 0, 7) by unfold lexR; rw [if_pos hs])
    have e1 : decide (4096 < (s.size : Int)) = true := decide_eq_true (by omega)
    go_enter Try.func7, Try.ntmps7
    go_wp2
    go_ret3
    rw [HE.out]
    exact ⟨_, rfl, Kd.R_nil _ _ _ _ _, Below.refl _ _⟩
  have HE := Lib.hid (show lexR s = rf s s.size ⟨[], 1, -1, false, 0⟩ by unfold lexR; rw [if_neg hs])
  have e1 : decide (4096 < (s.size : Int)) = false := decide_eq_false (by omega)
  go_enter Try.func7, Try.ntmps7
  go_wp2_with fail
  have hw0 : ((w.alloc (rdr s (.slice none 0 0) 1 (-1) false 0)).iter s 0).heap[w.heap.size]? = some (rdr s (.slice none 0 0) 1 (-1) false 0) :=
    ((below_alloc (Below.refl _ (w.alloc (rdr s (.slice none 0 0) 1 (-1) false 0))) _).block w.heap.size (by simp)).trans (heap_alloc_new w _)
  have HW0 : Hid (RP w ((w.alloc (rdr s (.slice none 0 0) 1 (-1) false 0)).iter s 0) w.heap.size w.heap.size s ((w.alloc (rdr s (.slice none 0 0) 1 (-1) false 0)).iter s 0) ⟨[], 1, -1, false, 0⟩) :=
    Lib.hid ⟨_, hw0, Kd.R_nil _ _ _ _ _, below_alloc (below_alloc (Below.refl _ _) _) _, ItKept.refl _⟩
  have HI0 : Hid (((w.alloc (rdr s (.slice none 0 0) 1 (-1) false 0)).iter s 0).heap[w.heap.size + 1]? = some (.stringIter s 0)) := by
    have := World.iter_heap (w.alloc (rdr s (.slice none 0 0) 1 (-1) false 0)) s 0
    exact Lib.hid (by simpa using this)
  clear hw0
  go_loopw [] (fun wr => ∃ (n : Nat) (r : RS), n ≤ s.size ∧ Hid (wr.heap[w.heap.size + 1]? = some (.stringIter s (s.size - n))) ∧ Hid (RP w wr w.heap.size w.heap.size s wr r) ∧ Hid (RI r (s.size - n)) ∧ Hid (rf s n r = lexR s)) (fun wr => s.size - wr.iterPos (w.heap.size + 1))
  case atStart =>
    exact ⟨s.size, _, Nat.le_refl _, by rw [Nat.sub_self]; exact HI0, HW0, Lib.hid (RI.start _), Lib.hid HE.out.symm⟩
  case round =>
    clear HI0 HW0
    obtain ⟨n, r, hn, HIT, HP, HI, HR⟩ := hrel
    obtain ⟨pos, hpos⟩ : ∃ pos, pos = s.size - n := ⟨_, rfl⟩
    rw [← hpos] at HIT HI
    have HPOS := Lib.hid hpos
    have hnp : pos + n = s.size := by omega
    clear hpos
    have HIP : Hid (wr.iterPos (w.heap.size + 1) = pos) := Lib.hid (iterPos_of HIT.out)
    by_cases hp : pos < s.size
    · have HS := Lib.hid (decode_span s pos hp)
      have hd1 := HS.out.1
      have hd2 := HS.out.2.1
      have HB := Lib.hid (rune_byte s pos hp)
      have hnx : ∀ ty, (Instr.next (.pointer (some ⟨w.heap.size + 1, 0, none⟩)) true ty).run Try.prog wr = _ := fun ty => Lib.run_next_any_at wr (w.heap.size + 1) s pos ty HIT.out hp
      have HP1 := Lib.hid (HP.out.iterAt HIT.out (by omega) (pos + (Utf8.decode s pos).2))
      have HIT1 := Lib.hid (Lib.iterAt_heap wr (w.heap.size + 1) s pos (pos + (Utf8.decode s pos).2) HIT.out)
      obtain ⟨d2, d3, d4, d5, dz⟩ := HP1.out.facts
      by_cases hA : r.nt = true ∧ ¬ byt s pos = 10
      · have hc10 : (((Utf8.decode s pos).1 : Int) != 10) = true := by
          rw [bne_iff_ne]
          rcases HB.out with ⟨_, h, _⟩ | ⟨h, h', _⟩
          · rw [h]; exact hA.2
          · omega
        rw [hA.1] at d4
        have HA := Lib.hid hA
        clear hA
        go_wp2_with fail
        go_roundw
        case rel =>
          refine ⟨n - (Utf8.decode s pos).2, r, by omega, ?_, HP1, ?_, ?_⟩
          · rw [show s.size - (n - (Utf8.decode s pos).2) = pos + (Utf8.decode s pos).2 by omega]; exact HIT1
          · rw [show s.size - (n - (Utf8.decode s pos).2) = pos + (Utf8.decode s pos).2 by omega]; exact Lib.hid (HI.out.later (by omega))
          · rw [← HR.out]
            refine Lib.hid (rf_skip s r HA.out.1 (Utf8.decode s pos).2 n (by omega) hn (fun j hj => ?_)).symm
            rw [← HPOS.out]
            rcases j with _ | j
            · exact HA.out.2
            · have := HS.out.2.2 (j + 1) (by omega) hj
              omega
        case measure =>
          rw [HIP.out, iterPos_of HIT1.out]
          omega
      · by_cases hnt : r.nt = true
        · have h10 : byt s pos = 10 := Decidable.byContradiction fun h => hA ⟨hnt, h⟩
          have hc10 : (((Utf8.decode s pos).1 : Int) != 10) = false := by
            rw [bne_eq_false_iff_eq]
            rcases HB.out with ⟨_, h, _⟩ | ⟨h, h', _⟩
            · rw [h]; exact h10
            · omega
          have HPB : Hid (partB (byt s pos) = false) := Lib.hid (by rw [h10]; rfl)
          rw [hnt] at d4
          have HA := Lib.hid hA
          clear hA hnt h10
          have HPT := Lib.hid (rf_step hnp hp HA.out HPB.out)
          have hpr : partB ((Utf8.decode s pos).1 : Int) = false := by rw [rune_part HB.out]; exact HPB.out
          have HP2 := Lib.hid (HP1.out.set (Nat.le_refl _) (r' := { r with nt := false }) 4 (.bool false) rfl (fun _ => rfl))
          have hw2 := dz 4
          go_wp2_with (go_at_call 13; refine (part_any _ _).mono ?_; rintro e w' ⟨rfl, rfl⟩; rw [hpr])
          generalize hW2 : (wr.iterAt (w.heap.size + 1) s (pos + (Utf8.decode s pos).2)).setCell ⟨w.heap.size, 4, none⟩ (.bool false) = W2 at *
          have HIT2 : Hid (W2.heap[w.heap.size + 1]? = some (.stringIter s (pos + (Utf8.decode s pos).2))) := by
            obtain ⟨lv, h1, _⟩ := HP1.out
            rw [← hW2]
            exact Lib.hid (ItKept.set h1 4 _ _ _ _ HIT1.out)
          clear hW2 hw2 d2 d3 d4 d5 dz
          have hlen := HI.out.len
          refine (close_rs w W2 w.heap.size w.heap.size s W2 { r with nt := false } pos HP2.out.restart (Nat.le_refl _) (by simp only; omega) HI.out.fr (by omega) (by omega)).mono ?_
          rintro e w1 ⟨rfl, hP3⟩
          obtain ⟨r1, Hr1⟩ : ∃ r1, Hid (({ r with nt := false } : RS).close s pos = r1) := ⟨_, Lib.hid rfl⟩
          have hl1 : r1.xs.length ≤ 801 := by rw [← Hr1.out]; exact step_len HI.out
          have hln1 : r1.line = r.line := by rw [← Hr1.out]; exact close_line s pos
          rw [Hr1.out] at hP3
          have HP3 := Lib.hid hP3
          have HIT3 : Hid (w1.heap[w.heap.size + 1]? = some (.stringIter s (pos + (Utf8.decode s pos).2))) := by
            obtain ⟨_, _, _, _, h⟩ := hP3
            exact Lib.hid (h _ _ _ HIT2.out)
          clear hP3 HIT2 HP2
          have hline := HI.out.line
          have HLN := Lib.hid hln1
          have hlr : 0 ≤ r1.line ∧ r1.line ≤ 100000 := by rw [hln1]; omega
          clear hln1 hline
          obtain ⟨d2, d3, d4, d5, dz⟩ := HP3.out.facts
          by_cases he1 : r1.er = 0
          · have he1' : (r1.er == 0) = true := by rw [he1]; rfl
            have HE1 := Lib.hid he1
            clear he1
            go_wp2_with fail
            clear d2 d3 d4 d5 dz
            refine (one_rs w w1 w.heap.size w.heap.size s w1 r1 _ HP3.out.restart (Nat.le_refl _) (by omega) hlr).mono ?_
            rintro e w2 ⟨rfl, hP4⟩
            rw [(one_rune r1 HB.out).1] at hP4
            obtain ⟨r2, Hr2⟩ : ∃ r2, Hid (r1.one (byt s pos) = r2) := ⟨_, Lib.hid rfl⟩
            rw [Hr2.out] at hP4
            have HST : Hid (r.step s pos (byt s pos) = r2) := Lib.hid (by unfold RS.step; rw [Hr1.out, if_pos HE1.out]; exact Hr2.out)
            have HP4 := Lib.hid hP4
            have HIT4 : Hid (w2.heap[w.heap.size + 1]? = some (.stringIter s (pos + (Utf8.decode s pos).2))) := by
              obtain ⟨_, _, _, _, h⟩ := hP4
              exact Lib.hid (h _ _ _ HIT3.out)
            clear hP4 HIT3 HP3
            obtain ⟨d2, d3, d4, d5, dz⟩ := HP4.out.facts
            by_cases he2 : r2.er = 0
            · have he2' : (r2.er != 0) = false := by rw [he2]; rfl
              have HW1 : Hid ((Utf8.decode s pos).2 = 1) := Lib.hid ((one_rune r1 HB.out).2 (by rw [Hr2.out]; exact he2))
              have HE2 := Lib.hid he2
              clear he2
              go_wp2_with fail
              go_roundw
              case rel =>
                refine ⟨n - 1, r2, by omega, ?_, Lib.hid HP4.out.restart, ?_, ?_⟩
                · rw [show s.size - (n - 1) = pos + (Utf8.decode s pos).2 by rw [HW1.out]; omega]; exact HIT4
                · rw [show s.size - (n - 1) = pos + 1 by omega]
                  refine Lib.hid ?_
                  rw [← HST.out]
                  exact HI.out.step (by rw [HST.out]; exact HE2.out)
                · rw [← HR.out, HPT.out, HST.out, if_pos HE2.out]; exact Lib.hid rfl
              case measure =>
                rw [HIP.out, iterPos_of HIT4.out, HW1.out]
                omega
            · have he2' : (r2.er != 0) = true := by rw [bne_iff_ne]; exact he2
              have HE2 := Lib.hid he2
              clear he2
              have HB4 : Hid (Below w.heap.size w w2) := by
                obtain ⟨_, _, _, h, _⟩ := HP4.out
                exact Lib.hid h
              go_wp2
              go_quiet (fail)
              go_wp2
              go_ret3
              rw [← HR.out, HPT.out, HST.out, if_neg HE2.out]
              exact ⟨_, rfl, Kd.R_nil _ _ _ _ _, pw_below_drewN HB4.out _⟩
          · have he1' : (r1.er == 0) = false := by simpa using he1
            have he1n : (r1.er != 0) = true := by rw [bne_iff_ne]; exact he1
            have HST : Hid (r.step s pos (byt s pos) = r1) := Lib.hid (by unfold RS.step; rw [Hr1.out, if_neg he1])
            have HE1 := Lib.hid he1
            clear he1
            have HB3 : Hid (Below w.heap.size w w1) := by
              obtain ⟨_, _, _, h, _⟩ := HP3.out
              exact Lib.hid h
            go_wp2
            go_quiet (fail)
            go_wp2
            go_ret3
            rw [← HR.out, HPT.out, HST.out, if_neg HE1.out]
            exact ⟨_, rfl, Kd.R_nil _ _ _ _ _, pw_below_drewN HB3.out _⟩
        · have hnf : r.nt = false := by simpa using hnt
          rw [hnf] at d4
          have HA := Lib.hid hA
          clear hA hnt hnf
          by_cases hpb : partB (byt s pos) = true
          · have HPT := Lib.hid (rf_part hnp hp HA.out hpb)
            have hpr : partB ((Utf8.decode s pos).1 : Int) = true := by rw [rune_part HB.out]; exact hpb
            have HW1 : Hid ((Utf8.decode s pos).2 = 1) := by
              have := part_ascii hpb
              rcases HB.out with ⟨_, _, h⟩ | ⟨h, _, _⟩
              · exact Lib.hid h
              · omega
            have HI2 := Lib.hid ((HI.out.from_).later (Nat.le_succ pos))
            by_cases hf : r.fr < 0
            · have hf' : decide (r.fr < 0) = true := decide_eq_true hf
              have HFR : Hid (r.from_ pos = { r with fr := pos }) := Lib.hid (by unfold RS.from_; rw [if_pos hf])
              have HP2 := Lib.hid (HP1.out.set (Nat.le_refl _) (r' := { r with fr := pos }) 3 (.int .i64 (pos : Int)) rfl (fun _ => rfl))
              have HIT2 : Hid (((wr.iterAt (w.heap.size + 1) s (pos + (Utf8.decode s pos).2)).setCell ⟨w.heap.size, 3, none⟩ (.int .i64 (pos : Int))).heap[w.heap.size + 1]? = some (.stringIter s (pos + (Utf8.decode s pos).2))) := by
                obtain ⟨lv, h1, _⟩ := HP1.out
                exact Lib.hid (ItKept.set h1 3 _ _ _ _ HIT1.out)
              clear hf hpb
              go_wp2_with (go_at_call 13; refine (part_any _ _).mono ?_; rintro e w' ⟨rfl, rfl⟩; rw [hpr])
              go_roundw
              case rel =>
                refine ⟨n - 1, _, by omega, ?_, Lib.hid HP2.out.restart, ?_, ?_⟩
                · rw [show s.size - (n - 1) = pos + (Utf8.decode s pos).2 by rw [HW1.out]; omega]; exact HIT2
                · rw [show s.size - (n - 1) = pos + 1 by omega, ← HFR.out]; exact HI2
                · rw [← HR.out, HPT.out, HFR.out]; exact Lib.hid rfl
              case measure =>
                rw [HIP.out, iterPos_of HIT2.out, HW1.out]
                omega
            · have hf' : decide (r.fr < 0) = false := decide_eq_false hf
              have HFR : Hid (r.from_ pos = r) := Lib.hid (by unfold RS.from_; rw [if_neg hf])
              clear hf hpb
              go_wp2_with (go_at_call 13; refine (part_any _ _).mono ?_; rintro e w' ⟨rfl, rfl⟩; rw [hpr])
              go_roundw
              case rel =>
                refine ⟨n - 1, r, by omega, ?_, HP1, ?_, ?_⟩
                · rw [show s.size - (n - 1) = pos + (Utf8.decode s pos).2 by rw [HW1.out]; omega]; exact HIT1
                · rw [show s.size - (n - 1) = pos + 1 by omega, ← HFR.out]; exact HI2
                · rw [← HR.out, HPT.out, HFR.out]; exact Lib.hid rfl
              case measure =>
                rw [HIP.out, iterPos_of HIT1.out, HW1.out]
                omega
          · have HPB : Hid (partB (byt s pos) = false) := Lib.hid (by simpa using hpb)
            clear hpb
            have HPT := Lib.hid (rf_step hnp hp HA.out HPB.out)
            have hpr : partB ((Utf8.decode s pos).1 : Int) = false := by rw [rune_part HB.out]; exact HPB.out
            have HP2 := Lib.hid (HP1.out.set (Nat.le_refl _) (r' := { r with nt := false }) 4 (.bool false) rfl (fun _ => rfl))
            have hw2 := dz 4
            go_wp2_with (go_at_call 13; refine (part_any _ _).mono ?_; rintro e w' ⟨rfl, rfl⟩; rw [hpr])
            generalize hW2 : (wr.iterAt (w.heap.size + 1) s (pos + (Utf8.decode s pos).2)).setCell ⟨w.heap.size, 4, none⟩ (.bool false) = W2 at *
            have HIT2 : Hid (W2.heap[w.heap.size + 1]? = some (.stringIter s (pos + (Utf8.decode s pos).2))) := by
              obtain ⟨lv, h1, _⟩ := HP1.out
              rw [← hW2]
              exact Lib.hid (ItKept.set h1 4 _ _ _ _ HIT1.out)
            clear hW2 hw2 d2 d3 d4 d5 dz
            have hlen := HI.out.len
            refine (close_rs w W2 w.heap.size w.heap.size s W2 { r with nt := false } pos HP2.out.restart (Nat.le_refl _) (by simp only; omega) HI.out.fr (by omega) (by omega)).mono ?_
            rintro e w1 ⟨rfl, hP3⟩
            obtain ⟨r1, Hr1⟩ : ∃ r1, Hid (({ r with nt := false } : RS).close s pos = r1) := ⟨_, Lib.hid rfl⟩
            have hl1 : r1.xs.length ≤ 801 := by rw [← Hr1.out]; exact step_len HI.out
            have hln1 : r1.line = r.line := by rw [← Hr1.out]; exact close_line s pos
            rw [Hr1.out] at hP3
            have HP3 := Lib.hid hP3
            have HIT3 : Hid (w1.heap[w.heap.size + 1]? = some (.stringIter s (pos + (Utf8.decode s pos).2))) := by
              obtain ⟨_, _, _, _, h⟩ := hP3
              exact Lib.hid (h _ _ _ HIT2.out)
            clear hP3 HIT2 HP2
            have hline := HI.out.line
            have HLN := Lib.hid hln1
            have hlr : 0 ≤ r1.line ∧ r1.line ≤ 100000 := by rw [hln1]; omega
            clear hln1 hline
            obtain ⟨d2, d3, d4, d5, dz⟩ := HP3.out.facts
            by_cases he1 : r1.er = 0
            · have he1' : (r1.er == 0) = true := by rw [he1]; rfl
              have HE1 := Lib.hid he1
              clear he1
              go_wp2_with fail
              clear d2 d3 d4 d5 dz
              refine (one_rs w w1 w.heap.size w.heap.size s w1 r1 _ HP3.out.restart (Nat.le_refl _) (by omega) hlr).mono ?_
              rintro e w2 ⟨rfl, hP4⟩
              rw [(one_rune r1 HB.out).1] at hP4
              obtain ⟨r2, Hr2⟩ : ∃ r2, Hid (r1.one (byt s pos) = r2) := ⟨_, Lib.hid rfl⟩
              rw [Hr2.out] at hP4
              have HST : Hid (r.step s pos (byt s pos) = r2) := Lib.hid (by unfold RS.step; rw [Hr1.out, if_pos HE1.out]; exact Hr2.out)
              have HP4 := Lib.hid hP4
              have HIT4 : Hid (w2.heap[w.heap.size + 1]? = some (.stringIter s (pos + (Utf8.decode s pos).2))) := by
                obtain ⟨_, _, _, _, h⟩ := hP4
                exact Lib.hid (h _ _ _ HIT3.out)
              clear hP4 HIT3 HP3
              obtain ⟨d2, d3, d4, d5, dz⟩ := HP4.out.facts
              by_cases he2 : r2.er = 0
              · have he2' : (r2.er != 0) = false := by rw [he2]; rfl
                have HW1 : Hid ((Utf8.decode s pos).2 = 1) := Lib.hid ((one_rune r1 HB.out).2 (by rw [Hr2.out]; exact he2))
                have HE2 := Lib.hid he2
                clear he2
                go_wp2_with fail
                go_roundw
                case rel =>
                  refine ⟨n - 1, r2, by omega, ?_, Lib.hid HP4.out.restart, ?_, ?_⟩
                  · rw [show s.size - (n - 1) = pos + (Utf8.decode s pos).2 by rw [HW1.out]; omega]; exact HIT4
                  · rw [show s.size - (n - 1) = pos + 1 by omega]
                    refine Lib.hid ?_
                    rw [← HST.out]
                    exact HI.out.step (by rw [HST.out]; exact HE2.out)
                  · rw [← HR.out, HPT.out, HST.out, if_pos HE2.out]; exact Lib.hid rfl
                case measure =>
                  rw [HIP.out, iterPos_of HIT4.out, HW1.out]
                  omega
              · have he2' : (r2.er != 0) = true := by rw [bne_iff_ne]; exact he2
                have HE2 := Lib.hid he2
                clear he2
                have HB4 : Hid (Below w.heap.size w w2) := by
                  obtain ⟨_, _, _, h, _⟩ := HP4.out
                  exact Lib.hid h
                go_wp2
                go_quiet (fail)
                go_wp2
                go_ret3
                rw [← HR.out, HPT.out, HST.out, if_neg HE2.out]
                exact ⟨_, rfl, Kd.R_nil _ _ _ _ _, pw_below_drewN HB4.out _⟩
            · have he1' : (r1.er == 0) = false := by simpa using he1
              have he1n : (r1.er != 0) = true := by rw [bne_iff_ne]; exact he1
              have HST : Hid (r.step s pos (byt s pos) = r1) := Lib.hid (by unfold RS.step; rw [Hr1.out, if_neg he1])
              have HE1 := Lib.hid he1
              clear he1
              have HB3 : Hid (Below w.heap.size w w1) := by
                obtain ⟨_, _, _, h, _⟩ := HP3.out
                exact Lib.hid h
              go_wp2
              go_quiet (fail)
              go_wp2
              go_ret3
              rw [← HR.out, HPT.out, HST.out, if_neg HE1.out]
              exact ⟨_, rfl, Kd.R_nil _ _ _ _ _, pw_below_drewN HB3.out _⟩
    · obtain rfl : n = 0 := by omega
      have hnx : ∀ ty, (Instr.next (.pointer (some ⟨w.heap.size + 1, 0, none⟩)) true ty).run Try.prog wr = _ := fun ty => Lib.run_next_end_at wr (w.heap.size + 1) s pos ty HIT.out hp
      have hlen := HI.out.len
      have hfr := HI.out.fr
      go_wp2_with fail
      refine (close_rs w wr w.heap.size w.heap.size s wr r s.size HP.out.restart (Nat.le_refl _) (by omega) (by omega) (Nat.le_refl _) (by omega)).mono ?_
      rintro e w1 ⟨rfl, hP1⟩
      obtain ⟨r1, Hr1⟩ : ∃ r1, Hid (r.close s s.size = r1) := ⟨_, Lib.hid rfl⟩
      have hl1 : r1.xs.length ≤ 801 := by rw [← Hr1.out]; have := close_len (r := r) s s.size; omega
      rw [Hr1.out] at hP1
      have HP1 := Lib.hid hP1
      clear hP1
      obtain ⟨d2, d3, d4, d5, dz⟩ := HP1.out.facts
      have HF : Hid (lexR s = r.fin s) := Lib.hid (by rw [← HR.out]; rfl)
      by_cases he1 : r1.er = 0
      · have he1' : (r1.er == 0) = true := by rw [he1]; rfl
        have HLA : Hid (r.last s = r1.put 0 ⟨#[]⟩ 0) := Lib.hid (by unfold RS.last; rw [Hr1.out, if_pos he1])
        clear he1
        go_wp2_with fail
        clear d2 d3 d4 d5 dz
        refine (put_rs w w1 w.heap.size w.heap.size s w1 r1 0 ⟨#[]⟩ 0 0 HP1.out.restart (Nat.le_refl _) (by omega)).mono ?_
        rintro e w2 ⟨rfl, hP2⟩
        obtain ⟨r2, Hr2⟩ : ∃ r2, Hid (r1.put 0 ⟨#[]⟩ 0 = r2) := ⟨_, Lib.hid rfl⟩
        rw [Hr2.out] at hP2
        have HP2 := Lib.hid hP2
        clear hP2
        obtain ⟨lv, k1, k2, k3, k4⟩ := HP2.out
        have d1 := blk_cell k1 1
        have K1 := Lib.hid k1
        have K2 := Lib.hid k2
        have K3 := Lib.hid k3
        clear k1 k2 k3 k4
        obtain ⟨d2, d3, d4, d5, dz⟩ := HP2.out.facts
        by_cases he2 : r2.er = 0
        · have he2' : (r2.er != 0) = false := by rw [he2]; rfl
          have HX : Hid (lexR s = (r2.xs, 0, 0)) := Lib.hid (by rw [HF.out]; unfold RS.fin; rw [HLA.out, Hr2.out, if_pos he2])
          clear he2
          go_wp2
          go_ret3
          rw [HX.out]
          exact ⟨_, rfl, K2.out, K3.out⟩
        · have he2' : (r2.er != 0) = true := by rw [bne_iff_ne]; exact he2
          have HX : Hid (lexR s = ([], r2.line, r2.er)) := Lib.hid (by rw [HF.out]; unfold RS.fin; rw [HLA.out, Hr2.out, if_neg he2])
          clear he2
          go_wp2
          go_quiet (fail)
          go_wp2
          go_ret3
          rw [HX.out]
          exact ⟨_, rfl, Kd.R_nil _ _ _ _ _, pw_below_drewN K3.out _⟩
      · have he1' : (r1.er == 0) = false := by simpa using he1
        have he1n : (r1.er != 0) = true := by rw [bne_iff_ne]; exact he1
        have HLA : Hid (r.last s = r1) := Lib.hid (by unfold RS.last; rw [Hr1.out, if_neg he1])
        have HX : Hid (lexR s = ([], r1.line, r1.er)) := Lib.hid (by rw [HF.out]; unfold RS.fin; rw [HLA.out, if_neg he1])
        clear he1
        have HB3 : Hid (Below w.heap.size w w1) := by
          obtain ⟨_, _, _, h, _⟩ := HP1.out
          exact Lib.hid h
        go_wp2
        go_quiet (fail)
        go_wp2
        go_ret3
        rw [HX.out]
        exact ⟨_, rfl, Kd.R_nil _ _ _ _ _, pw_below_drewN HB3.out _⟩
end Go.Proofs.Ytpbbiedpbegamaa.X

/- Functions of the seat as Lean functions, and that the calls come to them: written by this session's own program xprint.py over the kit's printer. -/
import Derived.Test.YtfnpiclioikjpaaX0
import Derived.Test.YtfnpiclioikjpaaXTO
import Derived.Test.YtfnpiclioikjpaaEAdd
import Derived.Test.YtfnpiclioikjpaaXhucksterlaw10Light
import Derived.Test.YtfnpiclioikjpaaXhucksterlaw10awake
import Derived.Test.YtfnpiclioikjpaaXhucksterref10Same
import Derived.Test.YtfnpiclioikjpaaXtallySame
namespace Go.Proofs.Ytfnpiclioikjpaa.X
open Go.RowKit Go.Proofs.YtfnpiclioikjpaaW.PrintWords Go.Proofs.YtfnpiclioikjpaaW.PrintLast Go.Proofs.YtfnpiclioikjpaaW.PrintMore
attribute [local go_sem] max2_int min2_int max_two min_two max_three min_three max_four min_four   -- for this text's walks alone
set_option linter.unusedVariables false
set_option linter.unusedSimpArgs false

set_option maxHeartbeats 8000000 in
set_option maxRecDepth 100000 in
theorem TO.calls (k : Nat) (A0 : Option Addr) (c0 : Nat) (l0 : List (S47)) (A1 : Option Addr) (c1 : Nat) (l1 : List Int) (r : Bool) (w : World) (hr0 : Kd.C k47 w A0 l0.length l0) (hc0 : l0.length ≤ c0) (hr1 : Kd.C (Kd.int .u8) w A1 l1.length l1) (hc1 : l1.length ≤ c1) (h : TO.f k l0 l1 = some r) :
    Calls Try.prog 8 #[.slice A0 l0.length c0, .slice A1 l1.length c1] w fun e w' => e = .returned (.bool r) ∧ Below w.heap.size w w' := by
  have HR0 := a0m hr0
  have HC0 := a0m hc0
  clear hr0 hc0
  have HR1 := a0m hr1
  have HC1 := a0m hc1
  clear hr1 hc1
  have HB := a0m (Below.refl w.heap.size w)
  have H : ((hucksterlaw10_Light.f k l0).bind fun t358 => (if t358 = true then (TO.j0 k l0 l1 (decide ((l1.length : Int) > 100))) else (TO.j0 k l0 l1 true))) = some r := h
  clear h
  have HC3 := a0m H
  clear H
  go_enter Try.func8, Try.ntmps8
  go_upto_region 1 with (fail)
  go_cut [21] (fun v21 wc => ∃ (kq : Nat) (x21_2 : Bool), v21 = .bool x21_2 ∧ Aside0 (TO.j0 kq l0 l1 x21_2 = some r) ∧ Aside0 (kq ≤ k) ∧ Aside0 (Below w.heap.size w wc))
  case first =>
    have H := HC3.out
    clear HC3
    replace H := Option.bind_eq_some_iff.mp H
    obtain ⟨t358, A40, H⟩ := H
    replace H : (if t358 = true then (TO.j0 k l0 l1 (decide ((l1.length : Int) > 100))) else (TO.j0 k l0 l1 true)) = some r := H
    have A4 := a0m A40
    clear A40
    by_cases c5 : t358 = true
    · subst c5
      have H1 : (TO.j0 k l0 l1 (decide ((l1.length : Int) > 100))) = some r := by rw [if_pos rfl] at H; exact H
      clear H
      have H := H1
      clear H1
      have H' := a0m H
      clear H
      go_wp2_with (first | ((with_reducible refine gate_callee (f := 25) rfl ?_); refine goesL_ (some 15) rfl rfl Try.func25 (by kernel_rfl) rfl #[.slice A0 l0.length c0] rfl (by (try simp only [List.map_toArray, List.map_cons, List.map_nil]); first | done | rfl | (simp only [List.length_drop, List.length_take]; rfl)) ?_; (with_reducible refine (hucksterlaw10_Light.calls k _ _ l0 true _ ?side1 ?side2 A4.out).mono ?_); (case side1 => repeat (first | exact (Kd.C_below HR0.out HB.out) | (with_reducible refine Kd.C_alloc ?_ _) | (with_reducible refine Kd.C_drewN ?_ _) | (with_reducible refine Kd.C_drew ?_))); (case side2 => exact HC0.out); rintro e w' ⟨rfl, ⟨nd, rfl⟩⟩; refine ⟨_, rfl, ?_⟩))
      go_meet
      case rel => exact ⟨_, (decide ((l1.length : Int) > 100)), (by first | rfl | (simp; done) | (simp [*]; done)), H', ⟨by first | omega | exact Nat.le_refl _⟩, ⟨by repeat (first | (with_reducible first | exact HB.out | apply below_alloc | apply pw_below_drewN | apply below_drew1) | exact HB.out)⟩⟩
    · replace c5 := Bool.eq_false_iff.mpr c5
      subst c5
      have H1 : (TO.j0 k l0 l1 true) = some r := by rw [if_neg (show ¬ (false = true) by decide)] at H; exact H
      clear H
      have H := H1
      clear H1
      have H' := a0m H
      clear H
      go_wp2_with (first | ((with_reducible refine gate_callee (f := 25) rfl ?_); refine goesL_ (some 15) rfl rfl Try.func25 (by kernel_rfl) rfl #[.slice A0 l0.length c0] rfl (by (try simp only [List.map_toArray, List.map_cons, List.map_nil]); first | done | rfl | (simp only [List.length_drop, List.length_take]; rfl)) ?_; (with_reducible refine (hucksterlaw10_Light.calls k _ _ l0 false _ ?side1 ?side2 A4.out).mono ?_); (case side1 => repeat (first | exact (Kd.C_below HR0.out HB.out) | (with_reducible refine Kd.C_alloc ?_ _) | (with_reducible refine Kd.C_drewN ?_ _) | (with_reducible refine Kd.C_drew ?_))); (case side2 => exact HC0.out); rintro e w' ⟨rfl, ⟨nd, rfl⟩⟩; refine ⟨_, rfl, ?_⟩))
      go_meet
      case rel => exact ⟨_, (true), (by first | rfl | (simp; done) | (simp [*]; done)), H', ⟨by first | omega | exact Nat.le_refl _⟩, ⟨by repeat (first | (with_reducible first | exact HB.out | apply below_alloc | apply pw_below_drewN | apply below_drew1) | exact HB.out)⟩⟩
  case rest =>
    clear HC3
    try clear c1
    try clear c2
    try clear p2
    try clear c5
    obtain ⟨kq, x21_2, rfl, HA, HJ2, HB⟩ := hcut
    cases kq with
    | zero => exact absurd HA.out (by simp [TO.j0])
    | succ kj2 =>
      have H := HA.out
      clear HA
      simp only [TO.j0] at H
      by_cases c6 : x21_2 = true
      · subst c6
        have H1 : ((hucksterlaw10_awake.f kj2).bind fun t359 => (some t359)) = some r := by rw [if_pos rfl] at H; exact H
        clear H
        have H := H1
        clear H1
        replace H := Option.bind_eq_some_iff.mp H
        obtain ⟨t359, A70, H⟩ := H
        replace H : (some t359) = some r := H
        have A7 := a0m A70
        clear A70
        obtain rfl := Option.some.inj H
        go_wp2_with (first | ((with_reducible refine gate_callee (f := 26) rfl ?_); refine goesL_ (some 22) rfl rfl Try.func26 (by kernel_rfl) rfl #[] rfl (by (try simp only [List.map_toArray, List.map_cons, List.map_nil]); first | done | rfl | (simp only [List.length_drop, List.length_take]; rfl)) ?_; (with_reducible refine (hucksterlaw10_awake.calls kj2  t359 _ A7.out).mono ?_); rintro e w8 ⟨rfl, hb⟩; refine ⟨_, rfl, ?_⟩; have n0_ := a0m (below_step (by repeat (first | (with_reducible first | exact HB.out | apply below_alloc | apply pw_below_drewN | apply below_drew1) | exact HB.out)) hb); clear HB; have HB := n0_; clear n0_; (try clear hb); (try clear hb2); (try clear hk); (try clear hi)))
        go_ret
        exact ⟨by first | rfl | (simp [errW_none, errW_some] <;> rfl) | (simp [*, errW_none, errW_some] <;> rfl), by repeat (first | (with_reducible first | exact HB.out | apply below_alloc | apply pw_below_drewN | apply below_drew1) | exact HB.out)⟩
      · replace c6 := Bool.eq_false_iff.mpr c6
        subst c6
        have H1 : ((some (([] : List (S47)) : List (S47))).bind fun y366 => (if y366.length + l0.length < 5864062014805 then (TO.l0 kj2 l0 l1 (([] : List (S47))) (([] : List (S47))) (y366 ++ l0) 0) else (none))) = some r := by rw [if_neg (show ¬ (false = true) by decide)] at H; exact H
        clear H
        have H := H1
        clear H1
        obtain ⟨y360, hy360⟩ : ∃ y_ : List (S47), y_ = (([] : List (S47))) := ⟨_, rfl⟩
        replace H : ((some (([] : List (S47)) : List (S47))).bind fun y366 => (if y366.length + l0.length < 5864062014805 then (TO.l0 kj2 l0 l1 y360 (([] : List (S47))) (y366 ++ l0) 0) else (none))) = some r := by first | (rw [hy360]; with_reducible exact H) | (have H2_ := (Option.bind_some _ _).symm.trans H; rw [hy360]; with_reducible exact H2_) | (have H2_ := (Option.bind_some _ _).symm.trans H; with_reducible exact H2_) | with_reducible exact H | (rw [hy360]; exact H) | exact H
        have Ny360 := a0m hy360
        clear hy360
        obtain ⟨y363, hy363⟩ : ∃ y_ : List (S47), y_ = (([] : List (S47))) := ⟨_, rfl⟩
        replace H : ((some (([] : List (S47)) : List (S47))).bind fun y366 => (if y366.length + l0.length < 5864062014805 then (TO.l0 kj2 l0 l1 y360 y363 (y366 ++ l0) 0) else (none))) = some r := by first | (rw [hy363]; with_reducible exact H) | (have H2_ := (Option.bind_some _ _).symm.trans H; rw [hy363]; with_reducible exact H2_) | (have H2_ := (Option.bind_some _ _).symm.trans H; with_reducible exact H2_) | with_reducible exact H | (rw [hy363]; exact H) | exact H
        have Ny363 := a0m hy363
        clear hy363
        obtain ⟨y366, hy366⟩ : ∃ y_ : List (S47), y_ = (([] : List (S47))) := ⟨_, rfl⟩
        replace H : (if y366.length + l0.length < 5864062014805 then (TO.l0 kj2 l0 l1 y360 y363 (y366 ++ l0) 0) else (none)) = some r := by first | (rw [hy366]; with_reducible exact H) | (have H2_ := (Option.bind_some _ _).symm.trans H; rw [hy366]; with_reducible exact H2_) | (have H2_ := (Option.bind_some _ _).symm.trans H; with_reducible exact H2_) | with_reducible exact H | (rw [hy366]; exact H) | exact H
        have Ny366 := a0m hy366
        clear hy366
        by_cases c9 : y366.length + l0.length < 5864062014805
        · rw [if_pos c9] at H
          have LMc9 := a0m c9
          clear c9
          obtain ⟨y369, hy369⟩ : ∃ y_ : List (S47), y_ = (y366 ++ l0) := ⟨_, rfl⟩
          replace H : (TO.l0 kj2 l0 l1 y360 y363 y369 0) = some r := by first | (rw [hy369]; with_reducible exact H) | (have H2_ := (Option.bind_some _ _).symm.trans H; rw [hy369]; with_reducible exact H2_) | (have H2_ := (Option.bind_some _ _).symm.trans H; with_reducible exact H2_) | with_reducible exact H | (rw [hy369]; exact H) | exact H
          have Ny369 := a0m hy369
          clear hy369
          have H' := a0m H
          clear H
          go_wp2_with (first | ((with_reducible refine gate_dst (N := 23) rfl ?_); (try (refine gate_guard (by rfl) ?_; dsimp only)); refine Kd.R_lit k47 _ 47 ?hg (N := 23) ?hd (xs := ([] : List (S47))) (inner := []) (ok := fun _ => True) (okp := fun _ => True) ?hr ?hp (fun _ hk => hk) trivial (Below.refl _ _) (Nat.le_refl _) (by simp) ?_; (case hd => rfl); (case hg => rfl); (case hr => first | (go_simp; done) | (go_simp; rfl)); (case hp => exact (Reps.none _ _)); intro v361 w10 ho11 hb hg_ hnew_; clear hg_ hnew_; (first | rw [← Ny360.out] at ho11 | (simp only [Int.reduceToNat] at ho11; rw [← Ny360.out] at ho11)); have n0_ := a0m (Kd.R_lower ho11 (below_size (by repeat (first | (with_reducible first | exact HB.out | apply below_alloc | apply pw_below_drewN | apply below_drew1) | exact HB.out)))); have n1_ := a0m (below_step (by repeat (first | (with_reducible first | exact HB.out | apply below_alloc | apply pw_below_drewN | apply below_drew1) | exact HB.out)) hb); clear HB; have HO362 := n0_; have HB := n1_; clear n0_ n1_; clear hb ho11) | ((with_reducible refine gate_dst (N := 24) rfl ?_); (try (refine gate_guard (by rfl) ?_; dsimp only)); refine Kd.R_lit k47 _ 47 ?hg (N := 24) ?hd (xs := ([] : List (S47))) (inner := []) (ok := fun _ => True) (okp := fun _ => True) ?hr ?hp (fun _ hk => hk) trivial (Below.refl _ _) (Nat.le_refl _) (by simp) ?_; (case hd => rfl); (case hg => rfl); (case hr => first | (go_simp; done) | (go_simp; rfl)); (case hp => exact (Reps.none _ _)); intro v364 w12 ho13 hb hg_ hnew_; clear hg_ hnew_; (first | rw [← Ny363.out] at ho13 | (simp only [Int.reduceToNat] at ho13; rw [← Ny363.out] at ho13)); have n0_ := a0m (Kd.R_elder' (by (with_reducible repeat (first | apply R_alloc | apply R_drewN | apply Kd.R_drew)); exact HO362.out) (Kd.R_base ho13) hb); have n1_ := a0m (Kd.R_lower (Kd.R_new' ho13 (Kd.R_lt (by (with_reducible repeat (first | apply R_alloc | apply R_drewN | apply Kd.R_drew)); exact HO362.out))) (below_size (by repeat (first | (with_reducible first | exact HB.out | apply below_alloc | apply pw_below_drewN | apply below_drew1) | exact HB.out)))); have n2_ := a0m (below_step (by repeat (first | (with_reducible first | exact HB.out | apply below_alloc | apply pw_below_drewN | apply below_drew1) | exact HB.out)) hb); clear HO362; clear HB; have HO362 := n0_; have HO365 := n1_; have HB := n2_; clear n0_ n1_ n2_; clear hb ho13) | ((with_reducible refine gate_dst (N := 25) rfl ?_); (try (refine gate_guard (by rfl) ?_; dsimp only)); refine Kd.R_lit k47 _ 47 ?hg (N := 25) ?hd (xs := ([] : List (S47))) (inner := []) (ok := fun _ => True) (okp := fun _ => True) ?hr ?hp (fun _ hk => hk) trivial (Below.refl _ _) (Nat.le_refl _) (by simp) ?_; (case hd => rfl); (case hg => rfl); (case hr => first | (go_simp; done) | (go_simp; rfl)); (case hp => exact (Reps.none _ _)); intro v367 w14 ho15 hb hg_ hnew_; clear hg_ hnew_; (first | rw [← Ny366.out] at ho15 | (simp only [Int.reduceToNat] at ho15; rw [← Ny366.out] at ho15)); have n0_ := a0m (Kd.R_elder' (by (with_reducible repeat (first | apply R_alloc | apply R_drewN | apply Kd.R_drew)); exact HO362.out) (Kd.R_base ho15) hb); have n1_ := a0m (Kd.R_elder' (by (with_reducible repeat (first | apply R_alloc | apply R_drewN | apply Kd.R_drew)); exact HO365.out) (Kd.R_base ho15) hb); have n2_ := a0m (Kd.R_lower (Kd.R_new' (Kd.R_new' ho15 (Kd.R_lt (by (with_reducible repeat (first | apply R_alloc | apply R_drewN | apply Kd.R_drew)); exact HO362.out))) (Kd.R_lt (by (with_reducible repeat (first | apply R_alloc | apply R_drewN | apply Kd.R_drew)); exact HO365.out))) (below_size (by repeat (first | (with_reducible first | exact HB.out | apply below_alloc | apply pw_below_drewN | apply below_drew1) | exact HB.out)))); have n3_ := a0m (below_step (by repeat (first | (with_reducible first | exact HB.out | apply below_alloc | apply pw_below_drewN | apply below_drew1) | exact HB.out)) hb); clear HO362; clear HO365; clear HB; have HO362 := n0_; have HO365 := n1_; have HO368 := n2_; have HB := n3_; clear n0_ n1_ n2_ n3_; clear hb ho15) | ((with_reducible refine gate_builtin (b := .append) (xs := #[.tmp 25, .tmp 26]) rfl ?_); (try (refine gate_guard (by rfl) ?_; dsimp only)); at_builtin; refine Kd.R_append_rows k47 (w0 := w) w.heap.size rfl (.tmp 25) (.tmp 26) 42 47 (.agg #[(.string ⟨#[]⟩), (.int .i64 0)]) 24 rfl Try.underlying42 info47 rfl (by decide) (by omega) v367 y366 l0 _ _ _ (fun k_ => some k_ ≠ (v361 : Value).ownBlock ∧ some k_ ≠ (v364 : Value).ownBlock) (fun _ => False) rfl rfl ?aO ?aR (fun _ _ h => h) (fun _ h => h.elim) ?aF ?aB ?aS ?aL ?_; (case aR => repeat (first | exact (Kd.C_below HR0.out HB.out) | (with_reducible refine Kd.C_alloc ?_ _) | (with_reducible refine Kd.C_drewN ?_ _) | (with_reducible refine Kd.C_drew ?_))); (case aB => exact (by repeat (first | (with_reducible first | exact HB.out | apply below_alloc | apply pw_below_drewN | apply below_drew1) | exact HB.out))); (case aF => exact (fun k_ hk => ⟨Kd.fresh' (Kd.R_lt (by (with_reducible repeat (first | apply R_alloc | apply R_drewN | apply Kd.R_drew)); exact HO362.out)) k_ hk, Kd.fresh' (Kd.R_lt (by (with_reducible repeat (first | apply R_alloc | apply R_drewN | apply Kd.R_drew)); exact HO365.out)) k_ hk⟩)); (case aO => exact (by (with_reducible repeat (first | apply R_alloc | apply R_drewN | apply Kd.R_drew)); exact Kd.R_mono HO368.out (fun _ hk => ⟨hk.1.2, hk.2⟩))); (case aS => exact (below_size (by repeat (first | (with_reducible first | exact HB.out | apply below_alloc | apply pw_below_drewN | apply below_drew1) | exact HB.out)))); (case aL => have := LMc9.out; omega); intro v370 w16 ho hb hg hat; rw [← Ny369.out] at ho; have n0_ := a0m (Kd.R_after (ok := (fun k_ => some k_ ≠ (v364 : Value).ownBlock)) (by (with_reducible repeat (first | apply R_alloc | apply R_drewN | apply Kd.R_drew)); exact Kd.R_mono HO362.out (fun _ hk => ⟨hk.1.2, hk.2⟩)) hg hat); have n1_ := a0m (Kd.R_after (ok := (fun k_ => some k_ ≠ (v361 : Value).ownBlock)) (by (with_reducible repeat (first | apply R_alloc | apply R_drewN | apply Kd.R_drew)); exact Kd.R_mono HO365.out (fun _ hk => ⟨hk.1.2, hk.2⟩)) hg hat); have n2_ := a0m (hb); have n3_ := a0m (ho); clear HO362; clear HO365; clear HB; clear HO368; have HO362 := n0_; have HO365 := n1_; have HB := n2_; have HO371 := n3_; clear n0_ n1_ n2_ n3_; clear ho hb hg hat))
          go_loopg [5, 6, 7, 8] kj2 (fun kq v5 v6 v7 v8 w' => ∃ (x5_2 : List (S47)) (x6_2 : List (S47)) (x7_2 : List (S47)) (x8_2 : Int), v8 = .int .i64 x8_2 ∧ Aside0 (TO.l0 kq l0 l1 x5_2 x6_2 x7_2 x8_2 = some r) ∧ Aside0 (kq ≤ kj2) ∧ Aside0 (Kd.R k47 47 w' w.heap.size (fun k_ => some k_ ≠ (v6 : Value).ownBlock ∧ some k_ ≠ (v7 : Value).ownBlock) v5 x5_2) ∧ Aside0 (Kd.R k47 47 w' w.heap.size (fun k_ => some k_ ≠ (v5 : Value).ownBlock ∧ some k_ ≠ (v7 : Value).ownBlock) v6 x6_2) ∧ Aside0 (Kd.R k47 47 w' w.heap.size (fun k_ => some k_ ≠ (v5 : Value).ownBlock ∧ some k_ ≠ (v6 : Value).ownBlock) v7 x7_2) ∧ Aside0 (Below w.heap.size w w'))
          case atStart => exact ⟨(y360), (y363), (y369), (0), (by first | rfl | (simp; done) | (simp [*]; done)), H', ⟨Nat.le_refl _⟩, ⟨by (with_reducible repeat (first | apply R_alloc | apply R_drewN | apply Kd.R_drew)); exact HO362.out⟩, ⟨by (with_reducible repeat (first | apply R_alloc | apply R_drewN | apply Kd.R_drew)); exact HO365.out⟩, ⟨by (with_reducible repeat (first | apply R_alloc | apply R_drewN | apply Kd.R_drew)); exact HO371.out⟩, ⟨by repeat (first | (with_reducible first | exact HB.out | apply below_alloc | apply pw_below_drewN | apply below_drew1) | exact HB.out)⟩⟩
          case round =>
            clear H'
            try clear c1
            try clear c2
            try clear p2
            try clear c5
            try clear c6
            try clear c8
            try clear c9
            try clear p2
            obtain ⟨x5_2, x6_2, x7_2, x8_2, rfl, HA, HK2, HO_5, HO_6, HO_7, HB⟩ := hrel
            cases gk with
            | zero => exact absurd HA.out (by simp [TO.l0])
            | succ k2 =>
              have H := HA.out
              clear HA
              simp only [TO.l0] at H
              by_cases c17 : x8_2 < (l0.length : Int)
              · rw [if_pos c17] at H
                have c17b0 : decide (x8_2 < (l0.length : Int)) = true := decide_eq_true c17
                clear c17
                by_cases c18 : 0 ≤ x8_2
                · rw [if_pos c18] at H
                  have c18b0 : decide (0 ≤ x8_2) = true := decide_eq_true c18
                  clear c18
                  replace H := Option.bind_eq_some_iff.mp H
                  obtain ⟨⟨t377, t378⟩, A190, H⟩ := H
                  replace H : (if t378 = 0 then (TO.j2 k2 l0 l1 t377 x6_2 x7_2 x8_2) else (TO.j2 k2 l0 l1 x5_2 x6_2 x7_2 x8_2)) = some r := H
                  have A19 := a0m A190
                  clear A190
                  have HC20 := a0m H
                  clear H
                  try go_wp2
                  have n0_ := a0m (Kd.R_drew HO_5.out)
                  have n1_ := a0m (Kd.R_drew HO_6.out)
                  have n2_ := a0m (Kd.R_drew HO_7.out)
                  have n3_ := a0m (below_drew1 HB.out)
                  clear HO_5
                  clear HO_6
                  clear HO_7
                  clear HB
                  have HO_5 := n0_
                  have HO_6 := n1_
                  have HO_7 := n2_
                  have HB := n3_
                  clear n0_ n1_ n2_ n3_
                  have p375 : 0 ≤ (x8_2 : Int) := of_decide_eq_true (by first | (with_reducible assumption) | assumption)
                  have q375 : x8_2 < (l0.length : Int) := of_decide_eq_true (by first | (with_reducible assumption) | assumption)
                  obtain ⟨ad375, e375, hx375_0, hx375_1⟩ := at_T47 HR0.out x8_2 p375 q375
                  have hw375_1 := hx375_1
                  have hw375_0 := hx375_0
                  cases e375
                  replace hx375_0 := (HB.out.cell (World.block_lt_of_cell? w _ hx375_0)).trans hx375_0
                  replace hx375_1 := (HB.out.cell (World.block_lt_of_cell? w _ hx375_1)).trans hx375_1
                  replace p375 := eq_true p375
                  replace q375 := eq_true q375
                  have p376 : 0 ≤ (x8_2 : Int) := of_decide_eq_true (by first | (with_reducible assumption) | assumption)
                  have q376 : x8_2 < (l0.length : Int) := of_decide_eq_true (by first | (with_reducible assumption) | assumption)
                  obtain ⟨ad376, e376, hx376_0, hx376_1⟩ := at_T47 HR0.out x8_2 p376 q376
                  have hw376_1 := hx376_1
                  have hw376_0 := hx376_0
                  obtain rfl : ad375 = ad376 := (by injection e376)
                  replace hx376_0 := (HB.out.cell (World.block_lt_of_cell? w _ hx376_0)).trans hx376_0
                  replace hx376_1 := (HB.out.cell (World.block_lt_of_cell? w _ hx376_1)).trans hx376_1
                  replace p376 := eq_true p376
                  replace q376 := eq_true q376
                  obtain ⟨Ao22, co22, eo22⟩ := Kd.R_slice HO_5.out
                  (first | subst eo22 | (injection eo22 with f1_ f2_ f3_; have f4_ := f1_.symm; have f5_ := f3_.symm; clear f1_ f2_ f3_; subst f4_; subst f5_))
                  refine start_ (n := 17) (S := fun w' => w'.cell? (ad375.add ((x8_2).toNat * 2)) = some (.string ((rd_T47 l0 x8_2).f0)) ∧ w'.cell? ⟨(ad375.add ((x8_2).toNat * 2)).block, (ad375.add ((x8_2).toNat * 2)).off + 1, none⟩ = some (.int .i64 ((rd_T47 l0 x8_2).f1)) ∧ w'.cell? (ad375.add ((x8_2).toNat * 2)) = some (.string ((rd_T47 l0 x8_2).f0)) ∧ w'.cell? ⟨(ad375.add ((x8_2).toNat * 2)).block, (ad375.add ((x8_2).toNat * 2)).off + 1, none⟩ = some (.int .i64 ((rd_T47 l0 x8_2).f1))) (ds := []) #[false, false, false, false, false, false, false, false, false, false, false, false, false, false, false, false, false] (by kernel_rfl) rfl rfl ⟨((HB.out.cell (World.block_lt_of_cell? w _ hw375_0)).trans hw375_0), ((HB.out.cell (World.block_lt_of_cell? w _ hw375_1)).trans hw375_1), ((HB.out.cell (World.block_lt_of_cell? w _ hw376_0)).trans hw376_0), ((HB.out.cell (World.block_lt_of_cell? w _ hw376_1)).trans hw376_1)⟩ (fun hHeld => ?_); refine with_tabW TO.tab8 TO.bits8 (fun HT_ HW_ => ?_)
                  generalize wr.drew = w21 at HO_5 HO_6 HO_7 HB hx375_0 hx375_1 hx376_0 hx376_1 hHeld ⊢
                  refine pure_ (i := 0) (N := some 35) (v := ?_) (a' := ?_) #[true, false, false, false, false, false, false, false, false, false, false, false, false, false, false, false, false] rfl rfl (any_of HT_.out (by kernel_rfl)) (fun _ _ _ h => h) (Or.inl ⟨by rfl, ?_⟩) ?_ ?_
                  rotate_left
                  · intro w'
                    go_simp
                    with_reducible rfl
                  rotate_left
                  · simp only [Act.put, List.setIfInBounds_toArray, List.set_cons_zero, List.set_cons_succ, i64_w, i32_w]
                    rfl
                  refine pure_ (i := 1) (N := some 36) (v := ?_) (a' := ?_) #[true, true, false, false, false, false, false, false, false, false, false, false, false, false, false, false, false] rfl rfl (any_of HT_.out (by kernel_rfl)) (fun _ _ _ h => h) (Or.inl ⟨by rfl, ?_⟩) ?_ ?_
                  rotate_left
                  · intro w'
                    go_simp
                    with_reducible rfl
                  rotate_left
                  · simp only [Act.put, List.setIfInBounds_toArray, List.set_cons_zero, List.set_cons_succ, i64_w, i32_w]
                    rfl
                  refine pure_ (i := 2) (N := some 37) (v := ?_) (a' := ?_) #[true, true, true, false, false, false, false, false, false, false, false, false, false, false, false, false, false] rfl rfl (any_of HT_.out (by kernel_rfl)) (fun _ _ _ h => h) (Or.inl ⟨by rfl, ?_⟩) ?_ ?_
                  rotate_left
                  · intro w'
                    go_simp
                    with_reducible rfl
                  rotate_left
                  · simp only [Act.put, List.setIfInBounds_toArray, List.set_cons_zero, List.set_cons_succ, i64_w, i32_w]
                    rfl
                  refine pure_ (i := 3) (N := some 38) (v := ?_) (a' := ?_) #[true, true, true, true, false, false, false, false, false, false, false, false, false, false, false, false, false] rfl rfl (any_of HT_.out (by kernel_rfl)) (fun _ _ _ h => h) (Or.inl ⟨by rfl, ?_⟩) ?_ ?_
                  rotate_left
                  · intro w'
                    go_simp
                    with_reducible rfl
                  rotate_left
                  · simp only [Act.put, List.setIfInBounds_toArray, List.set_cons_zero, List.set_cons_succ, i64_w, i32_w]
                    rfl
                  refine pure_ (i := 4) (N := some 39) (v := ?_) (a' := ?_) #[true, true, true, true, true, false, false, false, false, false, false, false, false, false, false, false, false] rfl rfl (any_of HT_.out (by kernel_rfl)) (fun _ _ _ h => h) (Or.inl ⟨by rfl, ?_⟩) ?_ ?_
                  rotate_left
                  · intro w'
                    go_simp
                    with_reducible rfl
                  rotate_left
                  · simp only [Act.put, List.setIfInBounds_toArray, List.set_cons_zero, List.set_cons_succ, i64_w, i32_w]
                    rfl
                  refine pure_ (i := 6) (N := some 41) (v := ?_) (a' := ?_) #[true, true, true, true, true, false, true, false, false, false, false, false, false, false, false, false, false] rfl rfl (any_of HT_.out (by kernel_rfl)) (fun _ _ _ h => h) (Or.inl ⟨by rfl, ?_⟩) ?_ ?_
                  rotate_left
                  · intro w'
                    go_simp
                    with_reducible rfl
                  rotate_left
                  · simp only [Act.put, List.setIfInBounds_toArray, List.set_cons_zero, List.set_cons_succ, i64_w, i32_w]
                    rfl
                  refine pure_ (i := 7) (N := some 42) (v := ?_) (a' := ?_) #[true, true, true, true, true, false, true, true, false, false, false, false, false, false, false, false, false] rfl rfl (any_of HT_.out (by kernel_rfl)) (fun _ _ _ h => h) (Or.inl ⟨by rfl, ?_⟩) ?_ ?_
                  rotate_left
                  · intro w'
                    go_simp
                    with_reducible rfl
                  rotate_left
                  · simp only [Act.put, List.setIfInBounds_toArray, List.set_cons_zero, List.set_cons_succ, i64_w, i32_w]
                    rfl
                  refine pure_ (i := 8) (N := some 43) (v := ?_) (a' := ?_) #[true, true, true, true, true, false, true, true, true, false, false, false, false, false, false, false, false] rfl rfl (any_of HT_.out (by kernel_rfl)) (fun _ _ _ h => h) (Or.inl ⟨by rfl, ?_⟩) ?_ ?_
                  rotate_left
                  · intro w'
                    go_simp
                    with_reducible rfl
                  rotate_left
                  · simp only [Act.put, List.setIfInBounds_toArray, List.set_cons_zero, List.set_cons_succ, i64_w, i32_w]
                    rfl
                  refine pure_ (i := 9) (N := some 44) (v := ?_) (a' := ?_) #[true, true, true, true, true, false, true, true, true, true, false, false, false, false, false, false, false] rfl rfl (any_of HT_.out (by kernel_rfl)) (fun _ _ _ h => h) (Or.inl ⟨by rfl, ?_⟩) ?_ ?_
                  rotate_left
                  · intro w'
                    go_simp
                    with_reducible rfl
                  rotate_left
                  · simp only [Act.put, List.setIfInBounds_toArray, List.set_cons_zero, List.set_cons_succ, i64_w, i32_w]
                    rfl
                  refine take_ (i := 5) (N := some 40) (v := ?_) (a' := ?_) #[true, true, true, true, true, true, true, true, true, true, false, false, false, false, false, false, false] rfl rfl (take_ofW HT_.out HW_.out (by kernel_rfl)) (fun _ _ _ h => h) (Or.inl ⟨by rfl, ?_⟩) hHeld ?_ ?_
                  rotate_left
                  · rintro w' ⟨s0, s1, s2, s3⟩
                    go_simp
                    with_reducible rfl
                  rotate_left
                  · simp only [Act.put, List.setIfInBounds_toArray, List.set_cons_zero, List.set_cons_succ, i64_w, i32_w]
                    rfl
                  refine take_ (i := 10) (N := some 45) (v := ?_) (a' := ?_) #[true, true, true, true, true, true, true, true, true, true, true, false, false, false, false, false, false] rfl rfl (take_ofW HT_.out HW_.out (by kernel_rfl)) (fun _ _ _ h => h) (Or.inl ⟨by rfl, ?_⟩) hHeld ?_ ?_
                  rotate_left
                  · rintro w' ⟨s0, s1, s2, s3⟩
                    go_simp
                    with_reducible rfl
                  rotate_left
                  · simp only [Act.put, List.setIfInBounds_toArray, List.set_cons_zero, List.set_cons_succ, i64_w, i32_w]
                    rfl
                  refine one_ (i := 11) (N := some 46) #[true, true, true, true, true, true, true, true, true, true, true, true, false, false, false, false, false] rfl rfl (one_of HT_.out (by kernel_rfl)) (by decide) (fun K hK => ?_)
                  refine goes_ Try.func27 (by kernel_rfl) rfl #[.slice Ao22 x5_2.length co22, .string ((rd_T47 l0 x8_2).f0), .int .i64 ((rd_T47 l0 x8_2).f1)] (by rfl) rfl rfl (by (try simp only [List.map_toArray, List.map_cons, List.map_nil]); first | done | rfl | (simp only [List.length_drop, List.length_take]; rfl)) ?_
                  with_reducible refine (tally_Add.calls _ _ x5_2 ((rd_T47 l0 x8_2).f0) ((rd_T47 l0 x8_2).f1) t377 t378 _ ?side1 ?side2 A19.out).mono ?_
                  (case side1 => repeat (first | exact (Kd.R_reads' HO_5.out).2.2 | (with_reducible refine Kd.C_alloc ?_ _) | (with_reducible refine Kd.C_drewN ?_ _) | (with_reducible refine Kd.C_drew ?_)))
                  (case side2 => exact (Kd.R_reads' HO_5.out).2.1)
                  rintro e w23 ⟨v379, rfl, ho0, hb⟩
                  refine ⟨_, rfl, ?_⟩
                  have n0_ := a0m (Kd.R_elder' (by (with_reducible repeat (first | apply R_alloc | apply R_drewN | apply Kd.R_drew)); exact HO_5.out) (Kd.R_base ho0) hb)
                  have n1_ := a0m (Kd.R_elder' (by (with_reducible repeat (first | apply R_alloc | apply R_drewN | apply Kd.R_drew)); exact HO_6.out) (Kd.R_base ho0) hb)
                  have n2_ := a0m (Kd.R_elder' (by (with_reducible repeat (first | apply R_alloc | apply R_drewN | apply Kd.R_drew)); exact HO_7.out) (Kd.R_base ho0) hb)
                  have n3_ := a0m (Kd.R_lower (Kd.R_new' (Kd.R_new' (Kd.R_new' ho0 (Kd.R_lt (by (with_reducible repeat (first | apply R_alloc | apply R_drewN | apply Kd.R_drew)); exact HO_5.out))) (Kd.R_lt (by (with_reducible repeat (first | apply R_alloc | apply R_drewN | apply Kd.R_drew)); exact HO_6.out))) (Kd.R_lt (by (with_reducible repeat (first | apply R_alloc | apply R_drewN | apply Kd.R_drew)); exact HO_7.out))) (below_size (by repeat (first | (with_reducible first | exact HB.out | apply below_alloc | apply pw_below_drewN | apply below_drew1) | exact HB.out))))
                  have n4_ := a0m (below_step (by repeat (first | (with_reducible first | exact HB.out | apply below_alloc | apply pw_below_drewN | apply below_drew1) | exact HB.out)) hb)
                  clear HO_5
                  clear HO_6
                  clear HO_7
                  clear HB
                  have HO_5 := n0_
                  have HO_6 := n1_
                  have HO_7 := n2_
                  have HO380 := n3_
                  have HB := n4_
                  clear n0_ n1_ n2_ n3_ n4_
                  (try clear hb)
                  (try clear hb2)
                  (try clear hk)
                  (try clear hi)
                  (try clear ho0)
                  refine hK.out _ _ ⟨((HB.out.cell (World.block_lt_of_cell? w _ hw375_0)).trans hw375_0), ((HB.out.cell (World.block_lt_of_cell? w _ hw375_1)).trans hw375_1), ((HB.out.cell (World.block_lt_of_cell? w _ hw376_0)).trans hw376_0), ((HB.out.cell (World.block_lt_of_cell? w _ hw376_1)).trans hw376_1)⟩ (fun hHeld => ?_)
                  clear hK K
                  refine norm_ (a' := ?_) ?_ ?_
                  rotate_left
                  · show Act.put _ (some 46) _ = _
                    simp only [Act.put, List.setIfInBounds_toArray, List.set_cons_zero, List.set_cons_succ, i64_w, i32_w]
                    rfl
                  refine pure_ (i := 12) (N := some 34) (v := ?_) (a' := ?_) #[true, true, true, true, true, true, true, true, true, true, true, true, true, false, false, false, false] rfl rfl (any_of HT_.out (by kernel_rfl)) (fun _ _ _ h => h) (Or.inl ⟨by rfl, ?_⟩) ?_ ?_
                  rotate_left
                  · intro w'
                    go_simp
                    with_reducible rfl
                  rotate_left
                  · simp only [Act.put, List.setIfInBounds_toArray, List.set_cons_zero, List.set_cons_succ, i64_w, i32_w]
                    rfl
                  refine pure_ (i := 13) (N := some 47) (v := ?_) (a' := ?_) #[true, true, true, true, true, true, true, true, true, true, true, true, true, true, false, false, false] rfl rfl (any_of HT_.out (by kernel_rfl)) (fun _ _ _ h => h) (Or.inl ⟨by rfl, ?_⟩) ?_ ?_
                  rotate_left
                  · intro w'
                    go_simp
                    with_reducible rfl
                  rotate_left
                  · simp only [Act.put, List.setIfInBounds_toArray, List.set_cons_zero, List.set_cons_succ, i64_w, i32_w]
                    rfl
                  refine pure_ (i := 14) (N := some 48) (v := ?_) (a' := ?_) #[true, true, true, true, true, true, true, true, true, true, true, true, true, true, true, false, false] rfl rfl (any_of HT_.out (by kernel_rfl)) (fun _ _ _ h => h) (Or.inl ⟨by rfl, ?_⟩) ?_ ?_
                  rotate_left
                  · intro w'
                    go_simp
                    with_reducible rfl
                  rotate_left
                  · simp only [Act.put, List.setIfInBounds_toArray, List.set_cons_zero, List.set_cons_succ, i64_w, i32_w]
                    rfl
                  refine pure_ (i := 15) (N := some 9) (v := ?_) (a' := ?_) #[true, true, true, true, true, true, true, true, true, true, true, true, true, true, true, true, false] rfl rfl (any_of HT_.out (by kernel_rfl)) (fun _ _ _ h => h) (Or.inl ⟨by rfl, ?_⟩) ?_ ?_
                  rotate_left
                  · intro w'
                    go_simp
                    with_reducible rfl
                  rotate_left
                  · simp only [Act.put, List.setIfInBounds_toArray, List.set_cons_zero, List.set_cons_succ, i64_w, i32_w]
                    rfl
                  refine pure_ (i := 16) (N := some 10) (v := ?_) (a' := ?_) #[true, true, true, true, true, true, true, true, true, true, true, true, true, true, true, true, true] rfl rfl (any_of HT_.out (by kernel_rfl)) (fun _ _ _ h => h) (Or.inl ⟨by rfl, ?_⟩) ?_ ?_
                  rotate_left
                  · intro w'
                    go_simp
                    with_reducible rfl
                  rotate_left
                  · simp only [Act.put, List.setIfInBounds_toArray, List.set_cons_zero, List.set_cons_succ, i64_w, i32_w]
                    rfl
                  refine done_ (done_of HT_.out (by kernel_rfl)) ?_
                  go_upto_if 50 with (fail)
                  go_cut [5] (fun v5 wc => ∃ (kq : Nat) (x5_19 : List (S47)), Aside0 (TO.j2 kq l0 l1 x5_19 x6_2 x7_2 x8_2 = some r) ∧ Aside0 (kq ≤ k2) ∧ Aside0 (Kd.R k47 47 wc w.heap.size (fun k_ => some k_ ≠ (u6 : Value).ownBlock ∧ some k_ ≠ (u7 : Value).ownBlock) v5 x5_19) ∧ Aside0 (Kd.R k47 47 wc w.heap.size (fun k_ => some k_ ≠ (v5 : Value).ownBlock ∧ some k_ ≠ (u7 : Value).ownBlock) u6 x6_2) ∧ Aside0 (Kd.R k47 47 wc w.heap.size (fun k_ => some k_ ≠ (v5 : Value).ownBlock ∧ some k_ ≠ (u6 : Value).ownBlock) u7 x7_2) ∧ Aside0 (Below w.heap.size w wc))
                  case first =>
                    have H := HC20.out
                    clear HC20
                    by_cases c24 : t378 = 0
                    · rw [if_pos c24] at H
                      have c24b0 : (t378 == 0) = true := beq_iff_eq.mpr c24
                      have c24b1 : (t378 != 0) = false := bne_eq_false_iff_eq.mpr c24
                      clear c24
                      (first | rw [c24b0] | (simp only [i64_w, i32_w]; rw [c24b0]) | skip)
                      have H' := a0m H
                      clear H
                      go_wp2
                      go_meet
                      case rel => exact ⟨_, (t377), H', ⟨by have := HJ2.out; have := HK2.out; first | omega | exact Nat.le_refl _⟩, ⟨by (with_reducible repeat (first | apply R_alloc | apply R_drewN | apply Kd.R_drew)); exact Kd.R_mono HO380.out (fun _ hk => ⟨hk.1.2, hk.2⟩)⟩, ⟨by (with_reducible repeat (first | apply R_alloc | apply R_drewN | apply Kd.R_drew)); exact Kd.R_mono HO_6.out (fun _ hk => ⟨hk.2, hk.1.2⟩)⟩, ⟨by (with_reducible repeat (first | apply R_alloc | apply R_drewN | apply Kd.R_drew)); exact Kd.R_mono HO_7.out (fun _ hk => ⟨hk.2, hk.1.2⟩)⟩, ⟨by repeat (first | (with_reducible first | exact HB.out | apply below_alloc | apply pw_below_drewN | apply below_drew1) | exact HB.out)⟩⟩
                    · rw [if_neg c24] at H
                      have c24b0 : (t378 == 0) = false := beq_eq_false_iff_ne.mpr c24
                      have c24b1 : (t378 != 0) = true := bne_iff_ne.mpr c24
                      (first | rw [c24b0] | (simp only [i64_w, i32_w]; rw [c24b0]) | skip)
                      have H' := a0m H
                      clear H
                      go_wp2
                      go_meet
                      case rel => exact ⟨_, (x5_2), H', ⟨by have := HJ2.out; have := HK2.out; first | omega | exact Nat.le_refl _⟩, ⟨by (with_reducible repeat (first | apply R_alloc | apply R_drewN | apply Kd.R_drew)); exact Kd.R_mono HO_5.out (fun _ hk => ⟨hk.1.1, hk.1.2⟩)⟩, ⟨by (with_reducible repeat (first | apply R_alloc | apply R_drewN | apply Kd.R_drew)); exact Kd.R_mono HO_6.out (fun _ hk => ⟨hk.1.1, hk.1.2⟩)⟩, ⟨by (with_reducible repeat (first | apply R_alloc | apply R_drewN | apply Kd.R_drew)); exact Kd.R_mono HO_7.out (fun _ hk => ⟨hk.1.1, hk.1.2⟩)⟩, ⟨by repeat (first | (with_reducible first | exact HB.out | apply below_alloc | apply pw_below_drewN | apply below_drew1) | exact HB.out)⟩⟩
                  case rest =>
                    clear HC20
                    try clear c1
                    try clear c2
                    try clear p2
                    try clear p3
                    try clear q3
                    try clear hx3
                    try clear c5
                    try clear c6
                    try clear c8
                    try clear c9
                    try clear c17
                    try clear c17b0
                    try clear c18
                    try clear c18b0
                    try clear c24
                    try clear c24b0
                    try clear c24b1
                    try clear hx375_0
                    try clear hx375_1
                    try clear hx376_0
                    try clear hx376_1
                    try clear p2
                    try clear p375
                    try clear p376
                    try clear q375
                    try clear q376
                    obtain ⟨kq, x5_19, HA, HJ19, HO_5, HO_6, HO_7, HB⟩ := hcut
                    cases kq with
                    | zero => exact absurd HA.out (by simp [TO.j2])
                    | succ kj19 =>
                      have H := HA.out
                      clear HA
                      simp only [TO.j2] at H
                      by_cases c25 : x8_2 < (l1.length : Int)
                      · rw [if_pos c25] at H
                        have c25b0 : decide (x8_2 < (l1.length : Int)) = true := decide_eq_true c25
                        clear c25
                        by_cases c26 : 0 ≤ x8_2
                        · rw [if_pos c26] at H
                          have c26b0 : decide (0 ≤ x8_2) = true := decide_eq_true c26
                          clear c26
                          by_cases c27 : (x7_2.length : Int) = 0
                          · rw [if_pos c27] at H
                            exact absurd H (by simp)
                          · rw [if_neg c27] at H
                            have c27b0 : ((x7_2.length : Int) == 0) = false := beq_eq_false_iff_ne.mpr c27
                            have c27b1 : ((x7_2.length : Int) != 0) = true := bne_iff_ne.mpr c27
                            have c27b2 : ¬ (x7_2 = []) := fun h_ => c27 (by rw [h_]; rfl)
                            obtain ⟨ji28, hji28⟩ : ∃ j_ : Int, (Int.tmod (wrap64 (rd l1 x8_2)) (x7_2.length : Int)) = j_ := ⟨_, rfl⟩
                            replace H : (if 0 ≤ (ji28) then (if (ji28) < (x7_2.length : Int) then ((tally_Add.f x6_2 ((rd_T47 x7_2 (ji28)).f0) ((rd_T47 x7_2 (ji28)).f1)).bind fun bt384 => (if bt384.2 = 0 then ((some (([] : List (S47)) : List (S47))).bind fun y388 => (if (ji28) ≤ (x7_2.length : Int) then ((some (x7_2.take ((ji28) : Int).toNat : List (S47))).bind fun y391 => (if y388.length + y391.length < 5864062014805 then ((some (y388 ++ y391 : List (S47))).bind fun y395 => (if 0 ≤ (wrap64 ((ji28) + 1)) then (if (wrap64 ((ji28) + 1)) ≤ (x7_2.length : Int) then ((some (x7_2.drop ((wrap64 ((ji28) + 1)) : Int).toNat : List (S47))).bind fun y398 => (if y395.length + y398.length < 5864062014805 then (TO.l0 kj19 l0 l1 x5_19 bt384.1 (y395 ++ y398) (wrap64 (x8_2 + 1))) else (none))) else (none)) else (none))) else (none))) else (none))) else ((some (([] : List (S47)) : List (S47))).bind fun y405 => (if (ji28) ≤ (x7_2.length : Int) then ((some (x7_2.take ((ji28) : Int).toNat : List (S47))).bind fun y408 => (if y405.length + y408.length < 5864062014805 then ((some (y405 ++ y408 : List (S47))).bind fun y412 => (if 0 ≤ (wrap64 ((ji28) + 1)) then (if (wrap64 ((ji28) + 1)) ≤ (x7_2.length : Int) then ((some (x7_2.drop ((wrap64 ((ji28) + 1)) : Int).toNat : List (S47))).bind fun y415 => (if y412.length + y415.length < 5864062014805 then (TO.l0 kj19 l0 l1 x5_19 x6_2 (y412 ++ y415) (wrap64 (x8_2 + 1))) else (none))) else (none)) else (none))) else (none))) else (none))))) else (none)) else (none)) = some r := by first | (rw [hji28] at H; exact H) | (simp only [hji28] at H ⊢; exact H)
                            by_cases c29 : 0 ≤ (ji28)
                            · rw [if_pos c29] at H
                              have c29b0 : decide (0 ≤ (ji28)) = true := decide_eq_true c29
                              clear c29
                              by_cases c30 : (ji28) < (x7_2.length : Int)
                              · rw [if_pos c30] at H
                                have c30b0 : decide ((ji28) < (x7_2.length : Int)) = true := decide_eq_true c30
                                clear c30
                                replace H := Option.bind_eq_some_iff.mp H
                                obtain ⟨⟨t384, t385⟩, A310, H⟩ := H
                                replace H : (if t385 = 0 then ((some (([] : List (S47)) : List (S47))).bind fun y388 => (if (ji28) ≤ (x7_2.length : Int) then ((some (x7_2.take ((ji28) : Int).toNat : List (S47))).bind fun y391 => (if y388.length + y391.length < 5864062014805 then ((some (y388 ++ y391 : List (S47))).bind fun y395 => (if 0 ≤ (wrap64 ((ji28) + 1)) then (if (wrap64 ((ji28) + 1)) ≤ (x7_2.length : Int) then ((some (x7_2.drop ((wrap64 ((ji28) + 1)) : Int).toNat : List (S47))).bind fun y398 => (if y395.length + y398.length < 5864062014805 then (TO.l0 kj19 l0 l1 x5_19 t384 (y395 ++ y398) (wrap64 (x8_2 + 1))) else (none))) else (none)) else (none))) else (none))) else (none))) else ((some (([] : List (S47)) : List (S47))).bind fun y405 => (if (ji28) ≤ (x7_2.length : Int) then ((some (x7_2.take ((ji28) : Int).toNat : List (S47))).bind fun y408 => (if y405.length + y408.length < 5864062014805 then ((some (y405 ++ y408 : List (S47))).bind fun y412 => (if 0 ≤ (wrap64 ((ji28) + 1)) then (if (wrap64 ((ji28) + 1)) ≤ (x7_2.length : Int) then ((some (x7_2.drop ((wrap64 ((ji28) + 1)) : Int).toNat : List (S47))).bind fun y415 => (if y412.length + y415.length < 5864062014805 then (TO.l0 kj19 l0 l1 x5_19 x6_2 (y412 ++ y415) (wrap64 (x8_2 + 1))) else (none))) else (none)) else (none))) else (none))) else (none)))) = some r := H
                                have A31 := a0m A310
                                clear A310
                                by_cases c32 : t385 = 0
                                · rw [if_pos c32] at H
                                  have c32b0 : (t385 == 0) = true := beq_iff_eq.mpr c32
                                  have c32b1 : (t385 != 0) = false := bne_eq_false_iff_eq.mpr c32
                                  clear c32
                                  obtain ⟨y388, hy388⟩ : ∃ y_ : List (S47), y_ = (([] : List (S47))) := ⟨_, rfl⟩
                                  replace H : (if (ji28) ≤ (x7_2.length : Int) then ((some (x7_2.take ((ji28) : Int).toNat : List (S47))).bind fun y391 => (if y388.length + y391.length < 5864062014805 then ((some (y388 ++ y391 : List (S47))).bind fun y395 => (if 0 ≤ (wrap64 ((ji28) + 1)) then (if (wrap64 ((ji28) + 1)) ≤ (x7_2.length : Int) then ((some (x7_2.drop ((wrap64 ((ji28) + 1)) : Int).toNat : List (S47))).bind fun y398 => (if y395.length + y398.length < 5864062014805 then (TO.l0 kj19 l0 l1 x5_19 t384 (y395 ++ y398) (wrap64 (x8_2 + 1))) else (none))) else (none)) else (none))) else (none))) else (none)) = some r := by first | (rw [hy388]; with_reducible exact H) | (have H2_ := (Option.bind_some _ _).symm.trans H; rw [hy388]; with_reducible exact H2_) | (have H2_ := (Option.bind_some _ _).symm.trans H; with_reducible exact H2_) | with_reducible exact H | (rw [hy388]; exact H) | exact H
                                  have Ny388 := a0m hy388
                                  clear hy388
                                  have c33b0 := eq_true (of_decide_eq_true (by first | (with_reducible assumption) | assumption) : 0 ≤ (ji28))
                                  by_cases c34 : (ji28) ≤ (x7_2.length : Int)
                                  · rw [if_pos c34] at H
                                    have c34b0 := eq_true c34
                                    have c34b1 : decide ((ji28) ≤ (x7_2.length : Int)) = true := decide_eq_true c34
                                    clear c34
                                    obtain ⟨y391, hy391⟩ : ∃ y_ : List (S47), y_ = (x7_2.take ((ji28) : Int).toNat) := ⟨_, rfl⟩
                                    replace H : (if y388.length + y391.length < 5864062014805 then ((some (y388 ++ y391 : List (S47))).bind fun y395 => (if 0 ≤ (wrap64 ((ji28) + 1)) then (if (wrap64 ((ji28) + 1)) ≤ (x7_2.length : Int) then ((some (x7_2.drop ((wrap64 ((ji28) + 1)) : Int).toNat : List (S47))).bind fun y398 => (if y395.length + y398.length < 5864062014805 then (TO.l0 kj19 l0 l1 x5_19 t384 (y395 ++ y398) (wrap64 (x8_2 + 1))) else (none))) else (none)) else (none))) else (none)) = some r := by first | (rw [hy391]; with_reducible exact H) | (have H2_ := (Option.bind_some _ _).symm.trans H; rw [hy391]; with_reducible exact H2_) | (have H2_ := (Option.bind_some _ _).symm.trans H; with_reducible exact H2_) | with_reducible exact H | (rw [hy391]; exact H) | exact H
                                    have Ny391 := a0m hy391
                                    clear hy391
                                    by_cases c35 : y388.length + y391.length < 5864062014805
                                    · rw [if_pos c35] at H
                                      have LMc35 := a0m c35
                                      clear c35
                                      obtain ⟨y395, hy395⟩ : ∃ y_ : List (S47), y_ = (y388 ++ y391) := ⟨_, rfl⟩
                                      replace H : (if 0 ≤ (wrap64 ((ji28) + 1)) then (if (wrap64 ((ji28) + 1)) ≤ (x7_2.length : Int) then ((some (x7_2.drop ((wrap64 ((ji28) + 1)) : Int).toNat : List (S47))).bind fun y398 => (if y395.length + y398.length < 5864062014805 then (TO.l0 kj19 l0 l1 x5_19 t384 (y395 ++ y398) (wrap64 (x8_2 + 1))) else (none))) else (none)) else (none)) = some r := by first | (rw [hy395]; with_reducible exact H) | (have H2_ := (Option.bind_some _ _).symm.trans H; rw [hy395]; with_reducible exact H2_) | (have H2_ := (Option.bind_some _ _).symm.trans H; with_reducible exact H2_) | with_reducible exact H | (rw [hy395]; exact H) | exact H
                                      have Ny395 := a0m hy395
                                      clear hy395
                                      obtain ⟨ji36, hji36⟩ : ∃ j_ : Int, (wrap64 ((ji28) + 1)) = j_ := ⟨_, rfl⟩
                                      replace H : (if 0 ≤ (ji36) then (if (ji36) ≤ (x7_2.length : Int) then ((some (x7_2.drop ((ji36) : Int).toNat : List (S47))).bind fun y398 => (if y395.length + y398.length < 5864062014805 then (TO.l0 kj19 l0 l1 x5_19 t384 (y395 ++ y398) (wrap64 (x8_2 + 1))) else (none))) else (none)) else (none)) = some r := by first | (rw [hji36] at H; exact H) | (simp only [hji36] at H ⊢; exact H)
                                      (try rw [hji36] at A31)
                                      have hji36w : (IntKind.i64.wrap ((ji28) + 1)) = ji36 := (i64_w _).trans hji36
                                      by_cases c37 : 0 ≤ (ji36)
                                      · rw [if_pos c37] at H
                                        have c37b0 := eq_true c37
                                        have c37b1 : decide (0 ≤ (ji36)) = true := decide_eq_true c37
                                        clear c37
                                        by_cases c38 : (ji36) ≤ (x7_2.length : Int)
                                        · rw [if_pos c38] at H
                                          have c38b0 := eq_true c38
                                          have c38b1 : decide ((ji36) ≤ (x7_2.length : Int)) = true := decide_eq_true c38
                                          clear c38
                                          obtain ⟨y398, hy398⟩ : ∃ y_ : List (S47), y_ = (x7_2.drop ((ji36) : Int).toNat) := ⟨_, rfl⟩
                                          replace H : (if y395.length + y398.length < 5864062014805 then (TO.l0 kj19 l0 l1 x5_19 t384 (y395 ++ y398) (wrap64 (x8_2 + 1))) else (none)) = some r := by first | (rw [hy398]; with_reducible exact H) | (have H2_ := (Option.bind_some _ _).symm.trans H; rw [hy398]; with_reducible exact H2_) | (have H2_ := (Option.bind_some _ _).symm.trans H; with_reducible exact H2_) | with_reducible exact H | (rw [hy398]; exact H) | exact H
                                          have Ny398 := a0m hy398
                                          clear hy398
                                          by_cases c39 : y395.length + y398.length < 5864062014805
                                          · rw [if_pos c39] at H
                                            have LMc39 := a0m c39
                                            clear c39
                                            obtain ⟨y402, hy402⟩ : ∃ y_ : List (S47), y_ = (y395 ++ y398) := ⟨_, rfl⟩
                                            replace H : (TO.l0 kj19 l0 l1 x5_19 t384 y402 (wrap64 (x8_2 + 1))) = some r := by first | (rw [hy402]; with_reducible exact H) | (have H2_ := (Option.bind_some _ _).symm.trans H; rw [hy402]; with_reducible exact H2_) | (have H2_ := (Option.bind_some _ _).symm.trans H; with_reducible exact H2_) | with_reducible exact H | (rw [hy402]; exact H) | exact H
                                            have Ny402 := a0m hy402
                                            clear hy402
                                            have H' := a0m H
                                            clear H
                                            have p381 : 0 ≤ (x8_2 : Int) := of_decide_eq_true (by first | (with_reducible assumption) | assumption)
                                            have q381 : x8_2 < (l1.length : Int) := of_decide_eq_true (by first | (with_reducible assumption) | assumption)
                                            obtain ⟨ad381, e381, hx381_0⟩ := Kd.at_int HR1.out x8_2 p381 q381
                                            cases e381
                                            replace hx381_0 := (HB.out.cell (World.block_lt_of_cell? w _ hx381_0)).trans hx381_0
                                            replace p381 := eq_true p381
                                            replace q381 := eq_true q381
                                            obtain ⟨Ao40, co40, eo40⟩ := Kd.R_slice HO_7.out
                                            subst eo40
                                            try go_wp2
                                            have n0_ := a0m (Kd.R_drew HO_5.out)
                                            have n1_ := a0m (Kd.R_drew HO_6.out)
                                            have n2_ := a0m (Kd.R_drew HO_7.out)
                                            have n3_ := a0m (below_drew1 HB.out)
                                            clear HO_5
                                            clear HO_6
                                            clear HO_7
                                            clear HB
                                            have HO_5 := n0_
                                            have HO_6 := n1_
                                            have HO_7 := n2_
                                            have HB := n3_
                                            clear n0_ n1_ n2_ n3_
                                            have p382 : 0 ≤ ((ji28) : Int) := of_decide_eq_true (by first | (with_reducible assumption) | assumption)
                                            have q382 : (ji28) < (x7_2.length : Int) := of_decide_eq_true (by first | (with_reducible assumption) | assumption)
                                            obtain ⟨ad382, e382, hx382_0, hx382_1⟩ := at_T47 (Kd.R_reads' HO_7.out).2.2 (ji28) p382 q382
                                            cases e382
                                            replace p382 := eq_true p382
                                            replace q382 := eq_true q382
                                            have p383 : 0 ≤ ((ji28) : Int) := of_decide_eq_true (by first | (with_reducible assumption) | assumption)
                                            have q383 : (ji28) < (x7_2.length : Int) := of_decide_eq_true (by first | (with_reducible assumption) | assumption)
                                            obtain ⟨ad383, e383, hx383_0, hx383_1⟩ := at_T47 (Kd.R_reads' HO_7.out).2.2 (ji28) p383 q383
                                            obtain rfl : ad382 = ad383 := (by injection e383)
                                            replace p383 := eq_true p383
                                            replace q383 := eq_true q383
                                            obtain ⟨Ao42, co42, eo42⟩ := Kd.R_slice HO_6.out
                                            (first | subst eo42 | (injection eo42 with f1_ f2_ f3_; have f4_ := f1_.symm; have f5_ := f3_.symm; clear f1_ f2_ f3_; subst f4_; subst f5_))
                                            refine start_ (n := 17) (S := fun w' => w'.cell? (ad382.add (((ji28)).toNat * 2)) = some (.string ((rd_T47 x7_2 (ji28)).f0)) ∧ w'.cell? ⟨(ad382.add (((ji28)).toNat * 2)).block, (ad382.add (((ji28)).toNat * 2)).off + 1, none⟩ = some (.int .i64 ((rd_T47 x7_2 (ji28)).f1)) ∧ w'.cell? (ad382.add (((ji28)).toNat * 2)) = some (.string ((rd_T47 x7_2 (ji28)).f0)) ∧ w'.cell? ⟨(ad382.add (((ji28)).toNat * 2)).block, (ad382.add (((ji28)).toNat * 2)).off + 1, none⟩ = some (.int .i64 ((rd_T47 x7_2 (ji28)).f1))) (ds := []) #[false, false, false, false, false, false, false, false, false, false, false, false, false, false, false, false, false] (by kernel_rfl) rfl rfl ⟨hx382_0, hx382_1, hx383_0, hx383_1⟩ (fun hHeld => ?_); refine with_tabW TO.tab14 TO.bits14 (fun HT_ HW_ => ?_)
                                            generalize wc.drew = w41 at HO_5 HO_6 HO_7 HB hx382_0 hx382_1 hx383_0 hx383_1 hHeld ⊢
                                            refine pure_ (i := 0) (N := some 65) (v := ?_) (a' := ?_) #[true, false, false, false, false, false, false, false, false, false, false, false, false, false, false, false, false] rfl rfl (any_of HT_.out (by kernel_rfl)) (fun _ _ _ h => h) (Or.inl ⟨by rfl, ?_⟩) ?_ ?_
                                            rotate_left
                                            · intro w'
                                              go_simp
                                              with_reducible rfl
                                            rotate_left
                                            · simp only [Act.put, List.setIfInBounds_toArray, List.set_cons_zero, List.set_cons_succ, i64_w, i32_w]
                                              rfl
                                            refine pure_ (i := 1) (N := some 66) (v := ?_) (a' := ?_) #[true, true, false, false, false, false, false, false, false, false, false, false, false, false, false, false, false] rfl rfl (any_of HT_.out (by kernel_rfl)) (fun _ _ _ h => h) (Or.inl ⟨by rfl, ?_⟩) ?_ ?_
                                            rotate_left
                                            · intro w'
                                              go_simp
                                              with_reducible rfl
                                            rotate_left
                                            · simp only [Act.put, List.setIfInBounds_toArray, List.set_cons_zero, List.set_cons_succ, i64_w, i32_w]
                                              rfl
                                            refine pure_ (i := 2) (N := some 67) (v := ?_) (a' := ?_) #[true, true, true, false, false, false, false, false, false, false, false, false, false, false, false, false, false] rfl rfl (any_of HT_.out (by kernel_rfl)) (fun _ _ _ h => h) (Or.inl ⟨by rfl, ?_⟩) ?_ ?_
                                            rotate_left
                                            · intro w'
                                              go_simp
                                              with_reducible rfl
                                            rotate_left
                                            · simp only [Act.put, List.setIfInBounds_toArray, List.set_cons_zero, List.set_cons_succ, i64_w, i32_w]
                                              rfl
                                            refine pure_ (i := 3) (N := some 68) (v := ?_) (a' := ?_) #[true, true, true, true, false, false, false, false, false, false, false, false, false, false, false, false, false] rfl rfl (any_of HT_.out (by kernel_rfl)) (fun _ _ _ h => h) (Or.inl ⟨by rfl, ?_⟩) ?_ ?_
                                            rotate_left
                                            · intro w'
                                              go_simp
                                              with_reducible rfl
                                            rotate_left
                                            · simp only [Act.put, List.setIfInBounds_toArray, List.set_cons_zero, List.set_cons_succ, i64_w, i32_w]
                                              rfl
                                            refine pure_ (i := 4) (N := some 69) (v := ?_) (a' := ?_) #[true, true, true, true, true, false, false, false, false, false, false, false, false, false, false, false, false] rfl rfl (any_of HT_.out (by kernel_rfl)) (fun _ _ _ h => h) (Or.inl ⟨by rfl, ?_⟩) ?_ ?_
                                            rotate_left
                                            · intro w'
                                              go_simp
                                              with_reducible rfl
                                            rotate_left
                                            · simp only [Act.put, List.setIfInBounds_toArray, List.set_cons_zero, List.set_cons_succ, i64_w, i32_w]
                                              rfl
                                            refine pure_ (i := 6) (N := some 71) (v := ?_) (a' := ?_) #[true, true, true, true, true, false, true, false, false, false, false, false, false, false, false, false, false] rfl rfl (any_of HT_.out (by kernel_rfl)) (fun _ _ _ h => h) (Or.inl ⟨by rfl, ?_⟩) ?_ ?_
                                            rotate_left
                                            · intro w'
                                              go_simp
                                              with_reducible rfl
                                            rotate_left
                                            · simp only [Act.put, List.setIfInBounds_toArray, List.set_cons_zero, List.set_cons_succ, i64_w, i32_w]
                                              rfl
                                            refine pure_ (i := 7) (N := some 72) (v := ?_) (a' := ?_) #[true, true, true, true, true, false, true, true, false, false, false, false, false, false, false, false, false] rfl rfl (any_of HT_.out (by kernel_rfl)) (fun _ _ _ h => h) (Or.inl ⟨by rfl, ?_⟩) ?_ ?_
                                            rotate_left
                                            · intro w'
                                              go_simp
                                              with_reducible rfl
                                            rotate_left
                                            · simp only [Act.put, List.setIfInBounds_toArray, List.set_cons_zero, List.set_cons_succ, i64_w, i32_w]
                                              rfl
                                            refine pure_ (i := 8) (N := some 73) (v := ?_) (a' := ?_) #[true, true, true, true, true, false, true, true, true, false, false, false, false, false, false, false, false] rfl rfl (any_of HT_.out (by kernel_rfl)) (fun _ _ _ h => h) (Or.inl ⟨by rfl, ?_⟩) ?_ ?_
                                            rotate_left
                                            · intro w'
                                              go_simp
                                              with_reducible rfl
                                            rotate_left
                                            · simp only [Act.put, List.setIfInBounds_toArray, List.set_cons_zero, List.set_cons_succ, i64_w, i32_w]
                                              rfl
                                            refine pure_ (i := 9) (N := some 74) (v := ?_) (a' := ?_) #[true, true, true, true, true, false, true, true, true, true, false, false, false, false, false, false, false] rfl rfl (any_of HT_.out (by kernel_rfl)) (fun _ _ _ h => h) (Or.inl ⟨by rfl, ?_⟩) ?_ ?_
                                            rotate_left
                                            · intro w'
                                              go_simp
                                              with_reducible rfl
                                            rotate_left
                                            · simp only [Act.put, List.setIfInBounds_toArray, List.set_cons_zero, List.set_cons_succ, i64_w, i32_w]
                                              rfl
                                            refine take_ (i := 5) (N := some 70) (v := ?_) (a' := ?_) #[true, true, true, true, true, true, true, true, true, true, false, false, false, false, false, false, false] rfl rfl (take_ofW HT_.out HW_.out (by kernel_rfl)) (fun _ _ _ h => h) (Or.inl ⟨by rfl, ?_⟩) hHeld ?_ ?_
                                            rotate_left
                                            · rintro w' ⟨s0, s1, s2, s3⟩
                                              go_simp
                                              with_reducible rfl
                                            rotate_left
                                            · simp only [Act.put, List.setIfInBounds_toArray, List.set_cons_zero, List.set_cons_succ, i64_w, i32_w]
                                              rfl
                                            refine take_ (i := 10) (N := some 75) (v := ?_) (a' := ?_) #[true, true, true, true, true, true, true, true, true, true, true, false, false, false, false, false, false] rfl rfl (take_ofW HT_.out HW_.out (by kernel_rfl)) (fun _ _ _ h => h) (Or.inl ⟨by rfl, ?_⟩) hHeld ?_ ?_
                                            rotate_left
                                            · rintro w' ⟨s0, s1, s2, s3⟩
                                              go_simp
                                              with_reducible rfl
                                            rotate_left
                                            · simp only [Act.put, List.setIfInBounds_toArray, List.set_cons_zero, List.set_cons_succ, i64_w, i32_w]
                                              rfl
                                            refine one_ (i := 11) (N := some 76) #[true, true, true, true, true, true, true, true, true, true, true, true, false, false, false, false, false] rfl rfl (one_of HT_.out (by kernel_rfl)) (by decide) (fun K hK => ?_)
                                            refine goes_ Try.func27 (by kernel_rfl) rfl #[.slice Ao42 x6_2.length co42, .string ((rd_T47 x7_2 (ji28)).f0), .int .i64 ((rd_T47 x7_2 (ji28)).f1)] (by rfl) rfl rfl (by (try simp only [List.map_toArray, List.map_cons, List.map_nil]); first | done | (simp only [hji28]; rfl) | rfl | (simp only [List.length_drop, List.length_take]; rfl)) ?_
                                            with_reducible refine (tally_Add.calls _ _ x6_2 ((rd_T47 x7_2 (ji28)).f0) ((rd_T47 x7_2 (ji28)).f1) t384 t385 _ ?side1 ?side2 A31.out).mono ?_
                                            (case side1 => repeat (first | exact (Kd.R_reads' HO_6.out).2.2 | (with_reducible refine Kd.C_alloc ?_ _) | (with_reducible refine Kd.C_drewN ?_ _) | (with_reducible refine Kd.C_drew ?_)))
                                            (case side2 => exact (Kd.R_reads' HO_6.out).2.1)
                                            rintro e w43 ⟨v386, rfl, ho0, hb⟩
                                            have HS0_ := (hb.cell (World.block_lt_of_cell? _ _ (hHeld.1))).trans (hHeld.1)
                                            have HS1_ := (hb.cell (World.block_lt_of_cell? _ _ (hHeld.2.1))).trans (hHeld.2.1)
                                            have HS2_ := (hb.cell (World.block_lt_of_cell? _ _ (hHeld.2.2.1))).trans (hHeld.2.2.1)
                                            have HS3_ := (hb.cell (World.block_lt_of_cell? _ _ (hHeld.2.2.2))).trans (hHeld.2.2.2)
                                            refine ⟨_, rfl, ?_⟩
                                            have n0_ := a0m (Kd.R_elder' (by (with_reducible repeat (first | apply R_alloc | apply R_drewN | apply Kd.R_drew)); exact HO_5.out) (Kd.R_base ho0) hb)
                                            have n1_ := a0m (Kd.R_elder' (by (with_reducible repeat (first | apply R_alloc | apply R_drewN | apply Kd.R_drew)); exact HO_6.out) (Kd.R_base ho0) hb)
                                            have n2_ := a0m (Kd.R_elder' (by (with_reducible repeat (first | apply R_alloc | apply R_drewN | apply Kd.R_drew)); exact HO_7.out) (Kd.R_base ho0) hb)
                                            have n3_ := a0m (Kd.R_lower (Kd.R_new' (Kd.R_new' (Kd.R_new' ho0 (Kd.R_lt (by (with_reducible repeat (first | apply R_alloc | apply R_drewN | apply Kd.R_drew)); exact HO_5.out))) (Kd.R_lt (by (with_reducible repeat (first | apply R_alloc | apply R_drewN | apply Kd.R_drew)); exact HO_6.out))) (Kd.R_lt (by (with_reducible repeat (first | apply R_alloc | apply R_drewN | apply Kd.R_drew)); exact HO_7.out))) (below_size (by repeat (first | (with_reducible first | exact HB.out | apply below_alloc | apply pw_below_drewN | apply below_drew1) | exact HB.out))))
                                            have n4_ := a0m (below_step (by repeat (first | (with_reducible first | exact HB.out | apply below_alloc | apply pw_below_drewN | apply below_drew1) | exact HB.out)) hb)
                                            clear HO_5
                                            clear HO_6
                                            clear HO_7
                                            clear HB
                                            have HO_5 := n0_
                                            have HO_6 := n1_
                                            have HO_7 := n2_
                                            have HO387 := n3_
                                            have HB := n4_
                                            clear n0_ n1_ n2_ n3_ n4_
                                            (try clear hb)
                                            (try clear hb2)
                                            (try clear hk)
                                            (try clear hi)
                                            (try clear ho0)
                                            refine hK.out _ _ ⟨HS0_, HS1_, HS2_, HS3_⟩ (fun hHeld => ?_)
                                            clear hK K
                                            refine norm_ (a' := ?_) ?_ ?_
                                            rotate_left
                                            · show Act.put _ (some 76) _ = _
                                              simp only [Act.put, List.setIfInBounds_toArray, List.set_cons_zero, List.set_cons_succ, i64_w, i32_w]
                                              rfl
                                            refine pure_ (i := 12) (N := some 64) (v := ?_) (a' := ?_) #[true, true, true, true, true, true, true, true, true, true, true, true, true, false, false, false, false] rfl rfl (any_of HT_.out (by kernel_rfl)) (fun _ _ _ h => h) (Or.inl ⟨by rfl, ?_⟩) ?_ ?_
                                            rotate_left
                                            · intro w'
                                              go_simp
                                              with_reducible rfl
                                            rotate_left
                                            · simp only [Act.put, List.setIfInBounds_toArray, List.set_cons_zero, List.set_cons_succ, i64_w, i32_w]
                                              rfl
                                            refine pure_ (i := 13) (N := some 77) (v := ?_) (a' := ?_) #[true, true, true, true, true, true, true, true, true, true, true, true, true, true, false, false, false] rfl rfl (any_of HT_.out (by kernel_rfl)) (fun _ _ _ h => h) (Or.inl ⟨by rfl, ?_⟩) ?_ ?_
                                            rotate_left
                                            · intro w'
                                              go_simp
                                              with_reducible rfl
                                            rotate_left
                                            · simp only [Act.put, List.setIfInBounds_toArray, List.set_cons_zero, List.set_cons_succ, i64_w, i32_w]
                                              rfl
                                            refine pure_ (i := 14) (N := some 78) (v := ?_) (a' := ?_) #[true, true, true, true, true, true, true, true, true, true, true, true, true, true, true, false, false] rfl rfl (any_of HT_.out (by kernel_rfl)) (fun _ _ _ h => h) (Or.inl ⟨by rfl, ?_⟩) ?_ ?_
                                            rotate_left
                                            · intro w'
                                              go_simp
                                              with_reducible rfl
                                            rotate_left
                                            · simp only [Act.put, List.setIfInBounds_toArray, List.set_cons_zero, List.set_cons_succ, i64_w, i32_w]
                                              rfl
                                            refine pure_ (i := 15) (N := some 12) (v := ?_) (a' := ?_) #[true, true, true, true, true, true, true, true, true, true, true, true, true, true, true, true, false] rfl rfl (any_of HT_.out (by kernel_rfl)) (fun _ _ _ h => h) (Or.inl ⟨by rfl, ?_⟩) ?_ ?_
                                            rotate_left
                                            · intro w'
                                              go_simp
                                              with_reducible rfl
                                            rotate_left
                                            · simp only [Act.put, List.setIfInBounds_toArray, List.set_cons_zero, List.set_cons_succ, i64_w, i32_w]
                                              rfl
                                            refine pure_ (i := 16) (N := some 13) (v := ?_) (a' := ?_) #[true, true, true, true, true, true, true, true, true, true, true, true, true, true, true, true, true] rfl rfl (any_of HT_.out (by kernel_rfl)) (fun _ _ _ h => h) (Or.inl ⟨by rfl, ?_⟩) ?_ ?_
                                            rotate_left
                                            · intro w'
                                              go_simp
                                              with_reducible rfl
                                            rotate_left
                                            · simp only [Act.put, List.setIfInBounds_toArray, List.set_cons_zero, List.set_cons_succ, i64_w, i32_w]
                                              rfl
                                            refine done_ (done_of HT_.out (by kernel_rfl)) ?_
                                            try go_wp2
                                            have n0_ := a0m (Kd.R_drew HO_5.out)
                                            have n1_ := a0m (Kd.R_drew HO_6.out)
                                            have n2_ := a0m (Kd.R_drew HO_7.out)
                                            have n3_ := a0m (Kd.R_drew HO387.out)
                                            have n4_ := a0m (below_drew1 HB.out)
                                            clear HO_5
                                            clear HO_6
                                            clear HO_7
                                            clear HO387
                                            clear HB
                                            have HO_5 := n0_
                                            have HO_6 := n1_
                                            have HO_7 := n2_
                                            have HO387 := n3_
                                            have HB := n4_
                                            clear n0_ n1_ n2_ n3_ n4_
                                            have q45 : ((ji28) : Int) ≤ ((x7_2.length : Int) : Int) := of_decide_eq_true (by first | (with_reducible assumption) | assumption)
                                            obtain ⟨i045, hi045, _, hsz45, _⟩ := info_parts info47
                                            have hroom45 : x7_2.length ≤ co40 := (Kd.R_reads' HO_7.out).2.1
                                            have hC45 : Kd.C k47 _ (some ad382) x7_2.length x7_2 := (Kd.R_reads' HO_7.out).2.2
                                            have hcut45 := cut_to (P := Try.prog) 42 47 .i64 Try.underlying42 hi045 (some ad382) x7_2.length co40 (ji28) (of_decide_eq_true (by first | (with_reducible assumption) | assumption)) q45 hroom45
                                            have hr45 := Kd.C_take (m := ((ji28) : Int).toNat) hC45 (by omega)
                                            have hy45 : y391.length = ((ji28) : Int).toNat := (by rw [Ny391.out, List.length_take]; omega)
                                            rw [← Ny391.out] at hr45
                                            rw [← hy45] at hcut45
                                            have HR394 := a0m hr45
                                            have HC394 := a0m (show y391.length ≤ co40 from by omega)
                                            clear hr45 hC45 hroom45 hi045 hsz45
                                            have KY45 := a0m hy45
                                            clear hy45
                                            have KL45 := a0m (show ((ji28) : Int).toNat ≤ x7_2.length from by omega)
                                            replace q45 := eq_true q45
                                            have q46 : ((ji36) : Int) ≤ ((x7_2.length : Int) : Int) := of_decide_eq_true (by first | (with_reducible assumption) | assumption)
                                            obtain ⟨i046, hi046, _, hsz46, _⟩ := info_parts info47
                                            have hroom46 : x7_2.length ≤ co40 := (Kd.R_reads' HO_7.out).2.1
                                            have hC46 : Kd.C k47 _ (some ad382) x7_2.length x7_2 := (Kd.R_reads' HO_7.out).2.2
                                            have q046 : (0 : Int) ≤ ((ji36) : Int) := of_decide_eq_true (by first | (with_reducible assumption) | assumption)
                                            have hcut46 := cut_from (P := Try.prog) 42 47 .i64 Try.underlying42 hi046 2 hsz46 (some ad382) x7_2.length co40 (ji36) q046 q46
                                            have hr46 := Kd.C_drop (m := ((ji36) : Int).toNat) (c := co40) hC46 (by omega) hroom46
                                            obtain ⟨A46, hA46⟩ : ∃ A1, A1 = (if co40 = ((ji36) : Int).toNat then (some ad382) else ((some ad382) : Option Addr).map (·.add (((ji36) : Int).toNat * 2))) := ⟨_, rfl⟩
                                            obtain ⟨c46, hc46⟩ : ∃ c1, c1 = co40 - ((ji36) : Int).toNat := ⟨_, rfl⟩
                                            have hy46 : y398.length = x7_2.length - ((ji36) : Int).toNat := (by rw [Ny398.out, List.length_drop] <;> omega)
                                            rw [show (x7_2).drop ((ji36) : Int).toNat = y398 from Ny398.out.symm] at hr46
                                            replace hr46 : Kd.C k47 _ A46 y398.length y398 := (by rw [hA46]; exact hr46)
                                            rw [← hy46, ← hA46, ← hc46] at hcut46
                                            have HR401 := a0m hr46
                                            have HC401 := a0m (show y398.length ≤ c46 from by rw [hy46, hc46]; exact Nat.sub_le_sub_right hroom46 _)
                                            clear hr46 hC46 hroom46 hi046 hsz46 hc46
                                            have KY46 := a0m hy46
                                            have KA46 := a0m hA46
                                            clear hy46 hA46
                                            have KL46 := a0m (show ((ji36) : Int).toNat ≤ x7_2.length from by omega)
                                            replace q46 := eq_true q46
                                            refine start_ (n := 11) (S := fun w' => True) (ds := []) #[false, false, false, false, false, false, false, false, false, false, false] (by kernel_rfl) rfl rfl trivial (fun hHeld => ?_); refine with_tabW TO.tab17 TO.bits17 (fun HT_ HW_ => ?_)
                                            generalize w43.drew = w44 at HO_5 HO_6 HO_7 HO387 HB HR394 HR401 hHeld ⊢
                                            refine pure_ (i := 1) (N := some 83) (v := ?_) (a' := ?_) #[false, true, false, false, false, false, false, false, false, false, false] rfl rfl (any_of HT_.out (by kernel_rfl)) (fun _ _ _ h => h) (Or.inl ⟨by rfl, ?_⟩) ?_ ?_
                                            rotate_left
                                            · intro w'
                                              go_simp
                                              with_reducible rfl
                                            rotate_left
                                            · simp only [Act.put, List.setIfInBounds_toArray, List.set_cons_zero, List.set_cons_succ, i64_w, i32_w]
                                              rfl
                                            refine pure_ (i := 2) (N := some 84) (v := ?_) (a' := ?_) #[false, true, true, false, false, false, false, false, false, false, false] rfl rfl (any_of HT_.out (by kernel_rfl)) (fun _ _ _ h => h) (Or.inl ⟨by rfl, ?_⟩) ?_ ?_
                                            rotate_left
                                            · intro w'
                                              go_simp
                                              with_reducible rfl
                                            rotate_left
                                            · simp only [Act.put, List.setIfInBounds_toArray, List.set_cons_zero, List.set_cons_succ, i64_w, i32_w]
                                              rfl
                                            refine pure_ (i := 3) (N := some 85) (v := ?_) (a' := ?_) #[false, true, true, true, false, false, false, false, false, false, false] rfl rfl (any_of HT_.out (by kernel_rfl)) (fun _ _ _ h => h) (Or.inl ⟨by rfl, ?_⟩) ?_ ?_
                                            rotate_left
                                            · intro w'
                                              go_simp
                                              with_reducible rfl
                                            rotate_left
                                            · simp only [Act.put, List.setIfInBounds_toArray, List.set_cons_zero, List.set_cons_succ, i64_w, i32_w]
                                              rfl
                                            refine pure_ (i := 5) (N := some 87) (v := ?_) (a' := ?_) #[false, true, true, true, false, true, false, false, false, false, false] rfl rfl (any_of HT_.out (by kernel_rfl)) (fun _ _ _ h => h) (Or.inl ⟨by rfl, ?_⟩) ?_ ?_
                                            rotate_left
                                            · intro w'
                                              go_simp
                                              with_reducible rfl
                                            rotate_left
                                            · simp only [Act.put, List.setIfInBounds_toArray, List.set_cons_zero, List.set_cons_succ, i64_w, i32_w]
                                              rfl
                                            refine pure_ (i := 6) (N := some 88) (v := ?_) (a' := ?_) #[false, true, true, true, false, true, true, false, false, false, false] rfl rfl (any_of HT_.out (by kernel_rfl)) (fun _ _ _ h => h) (Or.inl ⟨by rfl, ?_⟩) ?_ ?_
                                            rotate_left
                                            · intro w'
                                              go_simp
                                              with_reducible rfl
                                            rotate_left
                                            · simp only [Act.put, List.setIfInBounds_toArray, List.set_cons_zero, List.set_cons_succ, i64_w, i32_w]
                                              rfl
                                            refine pure_ (i := 7) (N := some 89) (v := ?_) (a' := ?_) #[false, true, true, true, false, true, true, true, false, false, false] rfl rfl (any_of HT_.out (by kernel_rfl)) (fun _ _ _ h => h) (Or.inl ⟨by rfl, ?_⟩) ?_ ?_
                                            rotate_left
                                            · intro w'
                                              go_simp
                                              with_reducible rfl
                                            rotate_left
                                            · simp only [Act.put, List.setIfInBounds_toArray, List.set_cons_zero, List.set_cons_succ, i64_w, i32_w]
                                              rfl
                                            refine pure_ (i := 8) (N := some 90) (v := ?_) (a' := ?_) #[false, true, true, true, false, true, true, true, true, false, false] rfl rfl (any_of HT_.out (by kernel_rfl)) (fun _ _ _ h => h) (Or.inl ⟨by rfl, ?_⟩) ?_ ?_
                                            rotate_left
                                            · intro w'
                                              go_simp
                                              with_reducible rfl
                                            rotate_left
                                            · simp only [Act.put, List.setIfInBounds_toArray, List.set_cons_zero, List.set_cons_succ, i64_w, i32_w]
                                              rfl
                                            refine one_ (i := 0) (N := some 82) #[true, true, true, true, false, true, true, true, true, false, false] rfl rfl (one_of HT_.out (by kernel_rfl)) (by decide) (fun K hK => ?_)
                                            refine Kd.R_lit_step k47 _ 47 ?hg (N := 82) ?hd (xs := ([] : List (S47))) (inner := []) (ok := fun _ => True) (okp := fun _ => True) ?hr ?hp (fun _ hk => hk) trivial (Below.refl _ _) (Nat.le_refl _) (by simp) ?_; (case hd => rfl); (case hg => rfl); (case hr => first | (go_simp; done) | (go_simp; rfl)); (case hp => exact (Reps.none _ _))
                                            intro v389 w47 ho48 hb hg_ hnew_
                                            clear hg_ hnew_
                                            (first | rw [← Ny388.out] at ho48 | (simp only [Int.reduceToNat] at ho48; rw [← Ny388.out] at ho48))
                                            have n0_ := a0m (Kd.R_elder' (by (with_reducible repeat (first | apply R_alloc | apply R_drewN | apply Kd.R_drew)); exact HO_5.out) (Kd.R_base ho48) hb)
                                            have n1_ := a0m (Kd.R_elder' (by (with_reducible repeat (first | apply R_alloc | apply R_drewN | apply Kd.R_drew)); exact HO_6.out) (Kd.R_base ho48) hb)
                                            have n2_ := a0m (Kd.R_elder' (by (with_reducible repeat (first | apply R_alloc | apply R_drewN | apply Kd.R_drew)); exact HO_7.out) (Kd.R_base ho48) hb)
                                            have n3_ := a0m (Kd.R_elder' (by (with_reducible repeat (first | apply R_alloc | apply R_drewN | apply Kd.R_drew)); exact HO387.out) (Kd.R_base ho48) hb)
                                            have n4_ := a0m (Kd.R_lower (Kd.R_new' (Kd.R_new' (Kd.R_new' (Kd.R_new' ho48 (Kd.R_lt (by (with_reducible repeat (first | apply R_alloc | apply R_drewN | apply Kd.R_drew)); exact HO_5.out))) (Kd.R_lt (by (with_reducible repeat (first | apply R_alloc | apply R_drewN | apply Kd.R_drew)); exact HO_6.out))) (Kd.R_lt (by (with_reducible repeat (first | apply R_alloc | apply R_drewN | apply Kd.R_drew)); exact HO_7.out))) (Kd.R_lt (by (with_reducible repeat (first | apply R_alloc | apply R_drewN | apply Kd.R_drew)); exact HO387.out))) (below_size (by repeat (first | (with_reducible first | exact HB.out | apply below_alloc | apply pw_below_drewN | apply below_drew1) | exact HB.out))))
                                            have n5_ := a0m (Kd.C_below (by repeat (first | (with_reducible exact HR394.out) | (with_reducible refine Kd.C_alloc ?_ _) | (with_reducible refine Kd.C_drewN ?_ _) | (with_reducible refine Kd.C_drew ?_) | exact HR394.out)) hb)
                                            have n6_ := a0m (Kd.C_below (by repeat (first | (with_reducible exact HR401.out) | (with_reducible refine Kd.C_alloc ?_ _) | (with_reducible refine Kd.C_drewN ?_ _) | (with_reducible refine Kd.C_drew ?_) | exact HR401.out)) hb)
                                            have n7_ := a0m (below_step (by repeat (first | (with_reducible first | exact HB.out | apply below_alloc | apply pw_below_drewN | apply below_drew1) | exact HB.out)) hb)
                                            clear HO_5
                                            clear HO_6
                                            clear HO_7
                                            clear HO387
                                            clear HR394
                                            clear HR401
                                            clear HB
                                            have HO_5 := n0_
                                            have HO_6 := n1_
                                            have HO_7 := n2_
                                            have HO387 := n3_
                                            have HO390 := n4_
                                            have HR394 := n5_
                                            have HR401 := n6_
                                            have HB := n7_
                                            clear n0_ n1_ n2_ n3_ n4_ n5_ n6_ n7_
                                            clear hb ho48
                                            refine hK.out _ _ trivial (fun hHeld => ?_)
                                            clear hK K
                                            refine norm_ (a' := ?_) ?_ ?_
                                            rotate_left
                                            · show Act.put _ (some 82) _ = _
                                              simp only [Act.put, List.setIfInBounds_toArray, List.set_cons_zero, List.set_cons_succ, i64_w, i32_w]
                                              rfl
                                            refine one_ (i := 4) (N := some 86) #[true, true, true, true, true, true, true, true, true, false, false] rfl rfl (one_of HT_.out (by kernel_rfl)) (by decide) (fun K hK => ?_)
                                            refine Kd.R_append_rows_step k47 (w0 := w) w.heap.size (by rfl) (.tmp 82) (.tmp 85) 42 47 (.agg #[(.string ⟨#[]⟩), (.int .i64 0)]) 24 rfl Try.underlying42 info47 rfl (by decide) (by omega) v389 y388 y391 _ _ _ (fun k_ => some k_ ≠ (u5 : Value).ownBlock ∧ some k_ ≠ (.slice Ao42 x6_2.length co42 : Value).ownBlock ∧ some k_ ≠ (.slice (some ad382) x7_2.length co40 : Value).ownBlock ∧ some k_ ≠ (v386 : Value).ownBlock) (fun _ => False) rfl rfl ?aO ?aR (fun _ _ h => h) (fun _ h => h.elim) ?aF ?aB ?aS ?aL ?_
                                            (case aR => repeat (first | exact (by repeat (first | (with_reducible exact HR394.out) | (with_reducible refine Kd.C_alloc ?_ _) | (with_reducible refine Kd.C_drewN ?_ _) | (with_reducible refine Kd.C_drew ?_) | exact HR394.out)) | (with_reducible refine Kd.C_alloc ?_ _) | (with_reducible refine Kd.C_drewN ?_ _) | (with_reducible refine Kd.C_drew ?_)))
                                            (case aB => exact (by repeat (first | (with_reducible first | exact HB.out | apply below_alloc | apply pw_below_drewN | apply below_drew1) | exact HB.out)))
                                            (case aF => exact (fun k_ hk => ⟨Kd.fresh' (Kd.R_lt (by (with_reducible repeat (first | apply R_alloc | apply R_drewN | apply Kd.R_drew)); exact HO_5.out)) k_ hk, Kd.fresh' (Kd.R_lt (by (with_reducible repeat (first | apply R_alloc | apply R_drewN | apply Kd.R_drew)); exact HO_6.out)) k_ hk, Kd.fresh' (Kd.R_lt (by (with_reducible repeat (first | apply R_alloc | apply R_drewN | apply Kd.R_drew)); exact HO_7.out)) k_ hk, Kd.fresh' (Kd.R_lt (by (with_reducible repeat (first | apply R_alloc | apply R_drewN | apply Kd.R_drew)); exact HO387.out)) k_ hk⟩))
                                            (case aO => exact (by (with_reducible repeat (first | apply R_alloc | apply R_drewN | apply Kd.R_drew)); exact Kd.R_mono HO390.out (fun _ hk => ⟨hk.1.1.1.2, ⟨hk.1.1.2, ⟨hk.1.2, hk.2⟩⟩⟩)))
                                            (case aS => exact (below_size (by repeat (first | (with_reducible first | exact HB.out | apply below_alloc | apply pw_below_drewN | apply below_drew1) | exact HB.out))))
                                            (case aL => have := LMc35.out; omega)
                                            intro v396 w49 ho hb hg hat
                                            rw [← Ny395.out] at ho
                                            have n0_ := a0m (Kd.R_after (ok := (fun k_ => some k_ ≠ (.slice Ao42 x6_2.length co42 : Value).ownBlock ∧ some k_ ≠ (.slice (some ad382) x7_2.length co40 : Value).ownBlock ∧ some k_ ≠ (v386 : Value).ownBlock)) (by (with_reducible repeat (first | apply R_alloc | apply R_drewN | apply Kd.R_drew)); exact Kd.R_mono HO_5.out (fun _ hk => ⟨⟨hk.1.1.1, ⟨hk.1.1.2, hk.1.2⟩⟩, hk.2⟩)) hg hat)
                                            have n1_ := a0m (Kd.R_after (ok := (fun k_ => some k_ ≠ (u5 : Value).ownBlock ∧ some k_ ≠ (.slice (some ad382) x7_2.length co40 : Value).ownBlock ∧ some k_ ≠ (v386 : Value).ownBlock)) (by (with_reducible repeat (first | apply R_alloc | apply R_drewN | apply Kd.R_drew)); exact Kd.R_mono HO_6.out (fun _ hk => ⟨⟨hk.1.1.1, ⟨hk.1.1.2, hk.1.2⟩⟩, hk.2⟩)) hg hat)
                                            have n2_ := a0m (Kd.R_after (ok := (fun k_ => some k_ ≠ (u5 : Value).ownBlock ∧ some k_ ≠ (.slice Ao42 x6_2.length co42 : Value).ownBlock ∧ some k_ ≠ (v386 : Value).ownBlock)) (by (with_reducible repeat (first | apply R_alloc | apply R_drewN | apply Kd.R_drew)); exact Kd.R_mono HO_7.out (fun _ hk => ⟨⟨hk.1.1.1, ⟨hk.1.1.2, hk.1.2⟩⟩, hk.2⟩)) hg hat)
                                            have n3_ := a0m (Kd.R_after (ok := (fun k_ => some k_ ≠ (u5 : Value).ownBlock ∧ some k_ ≠ (.slice Ao42 x6_2.length co42 : Value).ownBlock ∧ some k_ ≠ (.slice (some ad382) x7_2.length co40 : Value).ownBlock)) (by (with_reducible repeat (first | apply R_alloc | apply R_drewN | apply Kd.R_drew)); exact Kd.R_mono HO387.out (fun _ hk => ⟨⟨hk.1.1.1.2, ⟨hk.1.1.2, hk.1.2⟩⟩, hk.2⟩)) hg hat)
                                            have n4_ := a0m (hb)
                                            have n5_ := a0m ((show Kd.C k47 w49 (some ad382) y391.length y391 from by rw [Ny391.out]; exact Kd.C_take (m := ((ji28) : Int).toNat) ((Kd.R_reads' (Kd.R_after (ok := (fun k_ => some k_ ≠ (u5 : Value).ownBlock ∧ some k_ ≠ (.slice Ao42 x6_2.length co42 : Value).ownBlock ∧ some k_ ≠ (v386 : Value).ownBlock)) (by (with_reducible repeat (first | apply R_alloc | apply R_drewN | apply Kd.R_drew)); exact Kd.R_mono HO_7.out (fun _ hk => ⟨⟨hk.1.1.1, ⟨hk.1.1.2, hk.1.2⟩⟩, hk.2⟩)) hg hat)).2.2) KL45.out))
                                            have n6_ := a0m ((show Kd.C k47 w49 A46 y398.length y398 from by rw [Ny398.out, KA46.out]; exact Kd.C_drop (m := ((ji36) : Int).toNat) (c := co40) ((Kd.R_reads' (Kd.R_after (ok := (fun k_ => some k_ ≠ (u5 : Value).ownBlock ∧ some k_ ≠ (.slice Ao42 x6_2.length co42 : Value).ownBlock ∧ some k_ ≠ (v386 : Value).ownBlock)) (by (with_reducible repeat (first | apply R_alloc | apply R_drewN | apply Kd.R_drew)); exact Kd.R_mono HO_7.out (fun _ hk => ⟨⟨hk.1.1.1, ⟨hk.1.1.2, hk.1.2⟩⟩, hk.2⟩)) hg hat)).2.2) KL46.out ((Kd.R_reads' (Kd.R_after (ok := (fun k_ => some k_ ≠ (u5 : Value).ownBlock ∧ some k_ ≠ (.slice Ao42 x6_2.length co42 : Value).ownBlock ∧ some k_ ≠ (v386 : Value).ownBlock)) (by (with_reducible repeat (first | apply R_alloc | apply R_drewN | apply Kd.R_drew)); exact Kd.R_mono HO_7.out (fun _ hk => ⟨⟨hk.1.1.1, ⟨hk.1.1.2, hk.1.2⟩⟩, hk.2⟩)) hg hat)).2.1)))
                                            have n7_ := a0m (ho)
                                            clear HO_5
                                            clear HO_6
                                            clear HO_7
                                            clear HO387
                                            clear HB
                                            clear HR394
                                            clear HR401
                                            clear HO390
                                            have HO_5 := n0_
                                            have HO_6 := n1_
                                            have HO_7 := n2_
                                            have HO387 := n3_
                                            have HB := n4_
                                            have HR394 := n5_
                                            have HR401 := n6_
                                            have HO397 := n7_
                                            clear n0_ n1_ n2_ n3_ n4_ n5_ n6_ n7_
                                            clear ho hb hg hat
                                            refine hK.out _ _ trivial (fun hHeld => ?_)
                                            clear hK K
                                            refine norm_ (a' := ?_) ?_ ?_
                                            rotate_left
                                            · show Act.put _ (some 86) _ = _
                                              simp only [Act.put, List.setIfInBounds_toArray, List.set_cons_zero, List.set_cons_succ, i64_w, i32_w]
                                              rfl
                                            refine one_ (i := 9) (N := some 91) #[true, true, true, true, true, true, true, true, true, true, false] rfl rfl (one_of HT_.out (by kernel_rfl)) (by decide) (fun K hK => ?_)
                                            refine Kd.R_append_rows_step k47 (w0 := w) w.heap.size (by rfl) (.tmp 86) (.tmp 90) 42 47 (.agg #[(.string ⟨#[]⟩), (.int .i64 0)]) 24 rfl Try.underlying42 info47 rfl (by decide) (by omega) v396 y395 y398 _ _ _ (fun k_ => some k_ ≠ (u5 : Value).ownBlock ∧ some k_ ≠ (.slice Ao42 x6_2.length co42 : Value).ownBlock ∧ some k_ ≠ (.slice (some ad382) x7_2.length co40 : Value).ownBlock ∧ some k_ ≠ (v386 : Value).ownBlock) (fun _ => False) rfl rfl ?aO ?aR (fun _ _ h => h) (fun _ h => h.elim) ?aF ?aB ?aS ?aL ?_
                                            (case aR => repeat (first | exact (by repeat (first | (with_reducible exact HR401.out) | (with_reducible refine Kd.C_alloc ?_ _) | (with_reducible refine Kd.C_drewN ?_ _) | (with_reducible refine Kd.C_drew ?_) | exact HR401.out)) | (with_reducible refine Kd.C_alloc ?_ _) | (with_reducible refine Kd.C_drewN ?_ _) | (with_reducible refine Kd.C_drew ?_)))
                                            (case aB => exact (by repeat (first | (with_reducible first | exact HB.out | apply below_alloc | apply pw_below_drewN | apply below_drew1) | exact HB.out)))
                                            (case aF => exact (fun k_ hk => ⟨Kd.fresh' (Kd.R_lt (by (with_reducible repeat (first | apply R_alloc | apply R_drewN | apply Kd.R_drew)); exact HO_5.out)) k_ hk, Kd.fresh' (Kd.R_lt (by (with_reducible repeat (first | apply R_alloc | apply R_drewN | apply Kd.R_drew)); exact HO_6.out)) k_ hk, Kd.fresh' (Kd.R_lt (by (with_reducible repeat (first | apply R_alloc | apply R_drewN | apply Kd.R_drew)); exact HO_7.out)) k_ hk, Kd.fresh' (Kd.R_lt (by (with_reducible repeat (first | apply R_alloc | apply R_drewN | apply Kd.R_drew)); exact HO387.out)) k_ hk⟩))
                                            (case aO => exact (by (with_reducible repeat (first | apply R_alloc | apply R_drewN | apply Kd.R_drew)); exact HO397.out))
                                            (case aS => exact (below_size (by repeat (first | (with_reducible first | exact HB.out | apply below_alloc | apply pw_below_drewN | apply below_drew1) | exact HB.out))))
                                            (case aL => have := LMc39.out; omega)
                                            intro v403 w50 ho hb hg hat
                                            rw [← Ny402.out] at ho
                                            have n0_ := a0m (Kd.R_after (ok := (fun k_ => some k_ ≠ (.slice Ao42 x6_2.length co42 : Value).ownBlock ∧ some k_ ≠ (.slice (some ad382) x7_2.length co40 : Value).ownBlock ∧ some k_ ≠ (v386 : Value).ownBlock)) (by (with_reducible repeat (first | apply R_alloc | apply R_drewN | apply Kd.R_drew)); exact HO_5.out) hg hat)
                                            have n1_ := a0m (Kd.R_after (ok := (fun k_ => some k_ ≠ (u5 : Value).ownBlock ∧ some k_ ≠ (.slice (some ad382) x7_2.length co40 : Value).ownBlock ∧ some k_ ≠ (v386 : Value).ownBlock)) (by (with_reducible repeat (first | apply R_alloc | apply R_drewN | apply Kd.R_drew)); exact HO_6.out) hg hat)
                                            have n2_ := a0m (Kd.R_after (ok := (fun k_ => some k_ ≠ (u5 : Value).ownBlock ∧ some k_ ≠ (.slice Ao42 x6_2.length co42 : Value).ownBlock ∧ some k_ ≠ (v386 : Value).ownBlock)) (by (with_reducible repeat (first | apply R_alloc | apply R_drewN | apply Kd.R_drew)); exact HO_7.out) hg hat)
                                            have n3_ := a0m (Kd.R_after (ok := (fun k_ => some k_ ≠ (u5 : Value).ownBlock ∧ some k_ ≠ (.slice Ao42 x6_2.length co42 : Value).ownBlock ∧ some k_ ≠ (.slice (some ad382) x7_2.length co40 : Value).ownBlock)) (by (with_reducible repeat (first | apply R_alloc | apply R_drewN | apply Kd.R_drew)); exact HO387.out) hg hat)
                                            have n4_ := a0m (hb)
                                            have n5_ := a0m ((show Kd.C k47 w50 (some ad382) y391.length y391 from by rw [Ny391.out]; exact Kd.C_take (m := ((ji28) : Int).toNat) ((Kd.R_reads' (Kd.R_after (ok := (fun k_ => some k_ ≠ (u5 : Value).ownBlock ∧ some k_ ≠ (.slice Ao42 x6_2.length co42 : Value).ownBlock ∧ some k_ ≠ (v386 : Value).ownBlock)) (by (with_reducible repeat (first | apply R_alloc | apply R_drewN | apply Kd.R_drew)); exact HO_7.out) hg hat)).2.2) KL45.out))
                                            have n6_ := a0m ((show Kd.C k47 w50 A46 y398.length y398 from by rw [Ny398.out, KA46.out]; exact Kd.C_drop (m := ((ji36) : Int).toNat) (c := co40) ((Kd.R_reads' (Kd.R_after (ok := (fun k_ => some k_ ≠ (u5 : Value).ownBlock ∧ some k_ ≠ (.slice Ao42 x6_2.length co42 : Value).ownBlock ∧ some k_ ≠ (v386 : Value).ownBlock)) (by (with_reducible repeat (first | apply R_alloc | apply R_drewN | apply Kd.R_drew)); exact HO_7.out) hg hat)).2.2) KL46.out ((Kd.R_reads' (Kd.R_after (ok := (fun k_ => some k_ ≠ (u5 : Value).ownBlock ∧ some k_ ≠ (.slice Ao42 x6_2.length co42 : Value).ownBlock ∧ some k_ ≠ (v386 : Value).ownBlock)) (by (with_reducible repeat (first | apply R_alloc | apply R_drewN | apply Kd.R_drew)); exact HO_7.out) hg hat)).2.1)))
                                            have n7_ := a0m (ho)
                                            clear HO_5
                                            clear HO_6
                                            clear HO_7
                                            clear HO387
                                            clear HB
                                            clear HR394
                                            clear HR401
                                            clear HO397
                                            have HO_5 := n0_
                                            have HO_6 := n1_
                                            have HO_7 := n2_
                                            have HO387 := n3_
                                            have HB := n4_
                                            have HR394 := n5_
                                            have HR401 := n6_
                                            have HO404 := n7_
                                            clear n0_ n1_ n2_ n3_ n4_ n5_ n6_ n7_
                                            clear ho hb hg hat
                                            refine hK.out _ _ trivial (fun hHeld => ?_)
                                            clear hK K
                                            refine norm_ (a' := ?_) ?_ ?_
                                            rotate_left
                                            · show Act.put _ (some 91) _ = _
                                              simp only [Act.put, List.setIfInBounds_toArray, List.set_cons_zero, List.set_cons_succ, i64_w, i32_w]
                                              rfl
                                            refine pure_ (i := 10) (N := some 7) (v := ?_) (a' := ?_) #[true, true, true, true, true, true, true, true, true, true, true] rfl rfl (any_of HT_.out (by kernel_rfl)) (fun _ _ _ h => h) (Or.inl ⟨by rfl, ?_⟩) ?_ ?_
                                            rotate_left
                                            · intro w'
                                              go_simp
                                              with_reducible rfl
                                            rotate_left
                                            · simp only [Act.put, List.setIfInBounds_toArray, List.set_cons_zero, List.set_cons_succ, i64_w, i32_w]
                                              rfl
                                            refine done_ (done_of HT_.out (by kernel_rfl)) ?_
                                            try go_wp2
                                            go_roundg kj19
                                            case measure => have := HJ2.out; have := HK2.out; have := HJ19.out; omega
                                            case rel => exact ⟨(x5_19), (t384), (y402), (wrap64 (x8_2 + 1)), (by first | rfl | (simp; done) | (simp [*]; done)), H', ⟨by have := HJ2.out; have := HK2.out; have := HJ19.out; omega⟩, ⟨by (with_reducible repeat (first | apply R_alloc | apply R_drewN | apply Kd.R_drew)); exact Kd.R_mono HO_5.out (fun _ hk => ⟨hk.1.2.2, hk.2⟩)⟩, ⟨by (with_reducible repeat (first | apply R_alloc | apply R_drewN | apply Kd.R_drew)); exact Kd.R_mono HO387.out (fun _ hk => ⟨hk.1.1, hk.2⟩)⟩, ⟨by (with_reducible repeat (first | apply R_alloc | apply R_drewN | apply Kd.R_drew)); exact Kd.R_mono HO404.out (fun _ hk => ⟨hk.1, hk.2.2.2⟩)⟩, ⟨by repeat (first | (with_reducible first | exact HB.out | apply below_alloc | apply pw_below_drewN | apply below_drew1) | exact HB.out)⟩⟩
                                          · rw [if_neg c39] at H
                                            exact absurd H (by simp)
                                        · rw [if_neg c38] at H
                                          exact absurd H (by simp)
                                      · rw [if_neg c37] at H
                                        exact absurd H (by simp)
                                    · rw [if_neg c35] at H
                                      exact absurd H (by simp)
                                  · rw [if_neg c34] at H
                                    exact absurd H (by simp)
                                · rw [if_neg c32] at H
                                  have c32b0 : (t385 == 0) = false := beq_eq_false_iff_ne.mpr c32
                                  have c32b1 : (t385 != 0) = true := bne_iff_ne.mpr c32
                                  obtain ⟨y405, hy405⟩ : ∃ y_ : List (S47), y_ = (([] : List (S47))) := ⟨_, rfl⟩
                                  replace H : (if (ji28) ≤ (x7_2.length : Int) then ((some (x7_2.take ((ji28) : Int).toNat : List (S47))).bind fun y408 => (if y405.length + y408.length < 5864062014805 then ((some (y405 ++ y408 : List (S47))).bind fun y412 => (if 0 ≤ (wrap64 ((ji28) + 1)) then (if (wrap64 ((ji28) + 1)) ≤ (x7_2.length : Int) then ((some (x7_2.drop ((wrap64 ((ji28) + 1)) : Int).toNat : List (S47))).bind fun y415 => (if y412.length + y415.length < 5864062014805 then (TO.l0 kj19 l0 l1 x5_19 x6_2 (y412 ++ y415) (wrap64 (x8_2 + 1))) else (none))) else (none)) else (none))) else (none))) else (none)) = some r := by first | (rw [hy405]; with_reducible exact H) | (have H2_ := (Option.bind_some _ _).symm.trans H; rw [hy405]; with_reducible exact H2_) | (have H2_ := (Option.bind_some _ _).symm.trans H; with_reducible exact H2_) | with_reducible exact H | (rw [hy405]; exact H) | exact H
                                  have Ny405 := a0m hy405
                                  clear hy405
                                  have c51b0 := eq_true (of_decide_eq_true (by first | (with_reducible assumption) | assumption) : 0 ≤ (ji28))
                                  by_cases c52 : (ji28) ≤ (x7_2.length : Int)
                                  · rw [if_pos c52] at H
                                    have c52b0 := eq_true c52
                                    have c52b1 : decide ((ji28) ≤ (x7_2.length : Int)) = true := decide_eq_true c52
                                    clear c52
                                    obtain ⟨y408, hy408⟩ : ∃ y_ : List (S47), y_ = (x7_2.take ((ji28) : Int).toNat) := ⟨_, rfl⟩
                                    replace H : (if y405.length + y408.length < 5864062014805 then ((some (y405 ++ y408 : List (S47))).bind fun y412 => (if 0 ≤ (wrap64 ((ji28) + 1)) then (if (wrap64 ((ji28) + 1)) ≤ (x7_2.length : Int) then ((some (x7_2.drop ((wrap64 ((ji28) + 1)) : Int).toNat : List (S47))).bind fun y415 => (if y412.length + y415.length < 5864062014805 then (TO.l0 kj19 l0 l1 x5_19 x6_2 (y412 ++ y415) (wrap64 (x8_2 + 1))) else (none))) else (none)) else (none))) else (none)) = some r := by first | (rw [hy408]; with_reducible exact H) | (have H2_ := (Option.bind_some _ _).symm.trans H; rw [hy408]; with_reducible exact H2_) | (have H2_ := (Option.bind_some _ _).symm.trans H; with_reducible exact H2_) | with_reducible exact H | (rw [hy408]; exact H) | exact H
                                    have Ny408 := a0m hy408
                                    clear hy408
                                    by_cases c53 : y405.length + y408.length < 5864062014805
                                    · rw [if_pos c53] at H
                                      have LMc53 := a0m c53
                                      clear c53
                                      obtain ⟨y412, hy412⟩ : ∃ y_ : List (S47), y_ = (y405 ++ y408) := ⟨_, rfl⟩
                                      replace H : (if 0 ≤ (wrap64 ((ji28) + 1)) then (if (wrap64 ((ji28) + 1)) ≤ (x7_2.length : Int) then ((some (x7_2.drop ((wrap64 ((ji28) + 1)) : Int).toNat : List (S47))).bind fun y415 => (if y412.length + y415.length < 5864062014805 then (TO.l0 kj19 l0 l1 x5_19 x6_2 (y412 ++ y415) (wrap64 (x8_2 + 1))) else (none))) else (none)) else (none)) = some r := by first | (rw [hy412]; with_reducible exact H) | (have H2_ := (Option.bind_some _ _).symm.trans H; rw [hy412]; with_reducible exact H2_) | (have H2_ := (Option.bind_some _ _).symm.trans H; with_reducible exact H2_) | with_reducible exact H | (rw [hy412]; exact H) | exact H
                                      have Ny412 := a0m hy412
                                      clear hy412
                                      obtain ⟨ji54, hji54⟩ : ∃ j_ : Int, (wrap64 ((ji28) + 1)) = j_ := ⟨_, rfl⟩
                                      replace H : (if 0 ≤ (ji54) then (if (ji54) ≤ (x7_2.length : Int) then ((some (x7_2.drop ((ji54) : Int).toNat : List (S47))).bind fun y415 => (if y412.length + y415.length < 5864062014805 then (TO.l0 kj19 l0 l1 x5_19 x6_2 (y412 ++ y415) (wrap64 (x8_2 + 1))) else (none))) else (none)) else (none)) = some r := by first | (rw [hji54] at H; exact H) | (simp only [hji54] at H ⊢; exact H)
                                      (try rw [hji54] at A31)
                                      have hji54w : (IntKind.i64.wrap ((ji28) + 1)) = ji54 := (i64_w _).trans hji54
                                      by_cases c55 : 0 ≤ (ji54)
                                      · rw [if_pos c55] at H
                                        have c55b0 := eq_true c55
                                        have c55b1 : decide (0 ≤ (ji54)) = true := decide_eq_true c55
                                        clear c55
                                        by_cases c56 : (ji54) ≤ (x7_2.length : Int)
                                        · rw [if_pos c56] at H
                                          have c56b0 := eq_true c56
                                          have c56b1 : decide ((ji54) ≤ (x7_2.length : Int)) = true := decide_eq_true c56
                                          clear c56
                                          obtain ⟨y415, hy415⟩ : ∃ y_ : List (S47), y_ = (x7_2.drop ((ji54) : Int).toNat) := ⟨_, rfl⟩
                                          replace H : (if y412.length + y415.length < 5864062014805 then (TO.l0 kj19 l0 l1 x5_19 x6_2 (y412 ++ y415) (wrap64 (x8_2 + 1))) else (none)) = some r := by first | (rw [hy415]; with_reducible exact H) | (have H2_ := (Option.bind_some _ _).symm.trans H; rw [hy415]; with_reducible exact H2_) | (have H2_ := (Option.bind_some _ _).symm.trans H; with_reducible exact H2_) | with_reducible exact H | (rw [hy415]; exact H) | exact H
                                          have Ny415 := a0m hy415
                                          clear hy415
                                          by_cases c57 : y412.length + y415.length < 5864062014805
                                          · rw [if_pos c57] at H
                                            have LMc57 := a0m c57
                                            clear c57
                                            obtain ⟨y419, hy419⟩ : ∃ y_ : List (S47), y_ = (y412 ++ y415) := ⟨_, rfl⟩
                                            replace H : (TO.l0 kj19 l0 l1 x5_19 x6_2 y419 (wrap64 (x8_2 + 1))) = some r := by first | (rw [hy419]; with_reducible exact H) | (have H2_ := (Option.bind_some _ _).symm.trans H; rw [hy419]; with_reducible exact H2_) | (have H2_ := (Option.bind_some _ _).symm.trans H; with_reducible exact H2_) | with_reducible exact H | (rw [hy419]; exact H) | exact H
                                            have Ny419 := a0m hy419
                                            clear hy419
                                            have H' := a0m H
                                            clear H
                                            have p381 : 0 ≤ (x8_2 : Int) := of_decide_eq_true (by first | (with_reducible assumption) | assumption)
                                            have q381 : x8_2 < (l1.length : Int) := of_decide_eq_true (by first | (with_reducible assumption) | assumption)
                                            obtain ⟨ad381, e381, hx381_0⟩ := Kd.at_int HR1.out x8_2 p381 q381
                                            cases e381
                                            replace hx381_0 := (HB.out.cell (World.block_lt_of_cell? w _ hx381_0)).trans hx381_0
                                            replace p381 := eq_true p381
                                            replace q381 := eq_true q381
                                            obtain ⟨Ao58, co58, eo58⟩ := Kd.R_slice HO_7.out
                                            subst eo58
                                            try go_wp2
                                            have n0_ := a0m (Kd.R_drew HO_5.out)
                                            have n1_ := a0m (Kd.R_drew HO_6.out)
                                            have n2_ := a0m (Kd.R_drew HO_7.out)
                                            have n3_ := a0m (below_drew1 HB.out)
                                            clear HO_5
                                            clear HO_6
                                            clear HO_7
                                            clear HB
                                            have HO_5 := n0_
                                            have HO_6 := n1_
                                            have HO_7 := n2_
                                            have HB := n3_
                                            clear n0_ n1_ n2_ n3_
                                            have p382 : 0 ≤ ((ji28) : Int) := of_decide_eq_true (by first | (with_reducible assumption) | assumption)
                                            have q382 : (ji28) < (x7_2.length : Int) := of_decide_eq_true (by first | (with_reducible assumption) | assumption)
                                            obtain ⟨ad382, e382, hx382_0, hx382_1⟩ := at_T47 (Kd.R_reads' HO_7.out).2.2 (ji28) p382 q382
                                            cases e382
                                            replace p382 := eq_true p382
                                            replace q382 := eq_true q382
                                            have p383 : 0 ≤ ((ji28) : Int) := of_decide_eq_true (by first | (with_reducible assumption) | assumption)
                                            have q383 : (ji28) < (x7_2.length : Int) := of_decide_eq_true (by first | (with_reducible assumption) | assumption)
                                            obtain ⟨ad383, e383, hx383_0, hx383_1⟩ := at_T47 (Kd.R_reads' HO_7.out).2.2 (ji28) p383 q383
                                            obtain rfl : ad382 = ad383 := (by injection e383)
                                            replace p383 := eq_true p383
                                            replace q383 := eq_true q383
                                            obtain ⟨Ao60, co60, eo60⟩ := Kd.R_slice HO_6.out
                                            (first | subst eo60 | (injection eo60 with f1_ f2_ f3_; have f4_ := f1_.symm; have f5_ := f3_.symm; clear f1_ f2_ f3_; subst f4_; subst f5_))
                                            refine start_ (n := 17) (S := fun w' => w'.cell? (ad382.add (((ji28)).toNat * 2)) = some (.string ((rd_T47 x7_2 (ji28)).f0)) ∧ w'.cell? ⟨(ad382.add (((ji28)).toNat * 2)).block, (ad382.add (((ji28)).toNat * 2)).off + 1, none⟩ = some (.int .i64 ((rd_T47 x7_2 (ji28)).f1)) ∧ w'.cell? (ad382.add (((ji28)).toNat * 2)) = some (.string ((rd_T47 x7_2 (ji28)).f0)) ∧ w'.cell? ⟨(ad382.add (((ji28)).toNat * 2)).block, (ad382.add (((ji28)).toNat * 2)).off + 1, none⟩ = some (.int .i64 ((rd_T47 x7_2 (ji28)).f1))) (ds := []) #[false, false, false, false, false, false, false, false, false, false, false, false, false, false, false, false, false] (by kernel_rfl) rfl rfl ⟨hx382_0, hx382_1, hx383_0, hx383_1⟩ (fun hHeld => ?_); refine with_tabW TO.tab14 TO.bits14 (fun HT_ HW_ => ?_)
                                            generalize wc.drew = w59 at HO_5 HO_6 HO_7 HB hx382_0 hx382_1 hx383_0 hx383_1 hHeld ⊢
                                            refine pure_ (i := 0) (N := some 65) (v := ?_) (a' := ?_) #[true, false, false, false, false, false, false, false, false, false, false, false, false, false, false, false, false] rfl rfl (any_of HT_.out (by kernel_rfl)) (fun _ _ _ h => h) (Or.inl ⟨by rfl, ?_⟩) ?_ ?_
                                            rotate_left
                                            · intro w'
                                              go_simp
                                              with_reducible rfl
                                            rotate_left
                                            · simp only [Act.put, List.setIfInBounds_toArray, List.set_cons_zero, List.set_cons_succ, i64_w, i32_w]
                                              rfl
                                            refine pure_ (i := 1) (N := some 66) (v := ?_) (a' := ?_) #[true, true, false, false, false, false, false, false, false, false, false, false, false, false, false, false, false] rfl rfl (any_of HT_.out (by kernel_rfl)) (fun _ _ _ h => h) (Or.inl ⟨by rfl, ?_⟩) ?_ ?_
                                            rotate_left
                                            · intro w'
                                              go_simp
                                              with_reducible rfl
                                            rotate_left
                                            · simp only [Act.put, List.setIfInBounds_toArray, List.set_cons_zero, List.set_cons_succ, i64_w, i32_w]
                                              rfl
                                            refine pure_ (i := 2) (N := some 67) (v := ?_) (a' := ?_) #[true, true, true, false, false, false, false, false, false, false, false, false, false, false, false, false, false] rfl rfl (any_of HT_.out (by kernel_rfl)) (fun _ _ _ h => h) (Or.inl ⟨by rfl, ?_⟩) ?_ ?_
                                            rotate_left
                                            · intro w'
                                              go_simp
                                              with_reducible rfl
                                            rotate_left
                                            · simp only [Act.put, List.setIfInBounds_toArray, List.set_cons_zero, List.set_cons_succ, i64_w, i32_w]
                                              rfl
                                            refine pure_ (i := 3) (N := some 68) (v := ?_) (a' := ?_) #[true, true, true, true, false, false, false, false, false, false, false, false, false, false, false, false, false] rfl rfl (any_of HT_.out (by kernel_rfl)) (fun _ _ _ h => h) (Or.inl ⟨by rfl, ?_⟩) ?_ ?_
                                            rotate_left
                                            · intro w'
                                              go_simp
                                              with_reducible rfl
                                            rotate_left
                                            · simp only [Act.put, List.setIfInBounds_toArray, List.set_cons_zero, List.set_cons_succ, i64_w, i32_w]
                                              rfl
                                            refine pure_ (i := 4) (N := some 69) (v := ?_) (a' := ?_) #[true, true, true, true, true, false, false, false, false, false, false, false, false, false, false, false, false] rfl rfl (any_of HT_.out (by kernel_rfl)) (fun _ _ _ h => h) (Or.inl ⟨by rfl, ?_⟩) ?_ ?_
                                            rotate_left
                                            · intro w'
                                              go_simp
                                              with_reducible rfl
                                            rotate_left
                                            · simp only [Act.put, List.setIfInBounds_toArray, List.set_cons_zero, List.set_cons_succ, i64_w, i32_w]
                                              rfl
                                            refine pure_ (i := 6) (N := some 71) (v := ?_) (a' := ?_) #[true, true, true, true, true, false, true, false, false, false, false, false, false, false, false, false, false] rfl rfl (any_of HT_.out (by kernel_rfl)) (fun _ _ _ h => h) (Or.inl ⟨by rfl, ?_⟩) ?_ ?_
                                            rotate_left
                                            · intro w'
                                              go_simp
                                              with_reducible rfl
                                            rotate_left
                                            · simp only [Act.put, List.setIfInBounds_toArray, List.set_cons_zero, List.set_cons_succ, i64_w, i32_w]
                                              rfl
                                            refine pure_ (i := 7) (N := some 72) (v := ?_) (a' := ?_) #[true, true, true, true, true, false, true, true, false, false, false, false, false, false, false, false, false] rfl rfl (any_of HT_.out (by kernel_rfl)) (fun _ _ _ h => h) (Or.inl ⟨by rfl, ?_⟩) ?_ ?_
                                            rotate_left
                                            · intro w'
                                              go_simp
                                              with_reducible rfl
                                            rotate_left
                                            · simp only [Act.put, List.setIfInBounds_toArray, List.set_cons_zero, List.set_cons_succ, i64_w, i32_w]
                                              rfl
                                            refine pure_ (i := 8) (N := some 73) (v := ?_) (a' := ?_) #[true, true, true, true, true, false, true, true, true, false, false, false, false, false, false, false, false] rfl rfl (any_of HT_.out (by kernel_rfl)) (fun _ _ _ h => h) (Or.inl ⟨by rfl, ?_⟩) ?_ ?_
                                            rotate_left
                                            · intro w'
                                              go_simp
                                              with_reducible rfl
                                            rotate_left
                                            · simp only [Act.put, List.setIfInBounds_toArray, List.set_cons_zero, List.set_cons_succ, i64_w, i32_w]
                                              rfl
                                            refine pure_ (i := 9) (N := some 74) (v := ?_) (a' := ?_) #[true, true, true, true, true, false, true, true, true, true, false, false, false, false, false, false, false] rfl rfl (any_of HT_.out (by kernel_rfl)) (fun _ _ _ h => h) (Or.inl ⟨by rfl, ?_⟩) ?_ ?_
                                            rotate_left
                                            · intro w'
                                              go_simp
                                              with_reducible rfl
                                            rotate_left
                                            · simp only [Act.put, List.setIfInBounds_toArray, List.set_cons_zero, List.set_cons_succ, i64_w, i32_w]
                                              rfl
                                            refine take_ (i := 5) (N := some 70) (v := ?_) (a' := ?_) #[true, true, true, true, true, true, true, true, true, true, false, false, false, false, false, false, false] rfl rfl (take_ofW HT_.out HW_.out (by kernel_rfl)) (fun _ _ _ h => h) (Or.inl ⟨by rfl, ?_⟩) hHeld ?_ ?_
                                            rotate_left
                                            · rintro w' ⟨s0, s1, s2, s3⟩
                                              go_simp
                                              with_reducible rfl
                                            rotate_left
                                            · simp only [Act.put, List.setIfInBounds_toArray, List.set_cons_zero, List.set_cons_succ, i64_w, i32_w]
                                              rfl
                                            refine take_ (i := 10) (N := some 75) (v := ?_) (a' := ?_) #[true, true, true, true, true, true, true, true, true, true, true, false, false, false, false, false, false] rfl rfl (take_ofW HT_.out HW_.out (by kernel_rfl)) (fun _ _ _ h => h) (Or.inl ⟨by rfl, ?_⟩) hHeld ?_ ?_
                                            rotate_left
                                            · rintro w' ⟨s0, s1, s2, s3⟩
                                              go_simp
                                              with_reducible rfl
                                            rotate_left
                                            · simp only [Act.put, List.setIfInBounds_toArray, List.set_cons_zero, List.set_cons_succ, i64_w, i32_w]
                                              rfl
                                            refine one_ (i := 11) (N := some 76) #[true, true, true, true, true, true, true, true, true, true, true, true, false, false, false, false, false] rfl rfl (one_of HT_.out (by kernel_rfl)) (by decide) (fun K hK => ?_)
                                            refine goes_ Try.func27 (by kernel_rfl) rfl #[.slice Ao60 x6_2.length co60, .string ((rd_T47 x7_2 (ji28)).f0), .int .i64 ((rd_T47 x7_2 (ji28)).f1)] (by rfl) rfl rfl (by (try simp only [List.map_toArray, List.map_cons, List.map_nil]); first | done | (simp only [hji28]; rfl) | rfl | (simp only [List.length_drop, List.length_take]; rfl)) ?_
                                            with_reducible refine (tally_Add.calls _ _ x6_2 ((rd_T47 x7_2 (ji28)).f0) ((rd_T47 x7_2 (ji28)).f1) t384 t385 _ ?side1 ?side2 A31.out).mono ?_
                                            (case side1 => repeat (first | exact (Kd.R_reads' HO_6.out).2.2 | (with_reducible refine Kd.C_alloc ?_ _) | (with_reducible refine Kd.C_drewN ?_ _) | (with_reducible refine Kd.C_drew ?_)))
                                            (case side2 => exact (Kd.R_reads' HO_6.out).2.1)
                                            rintro e w61 ⟨v386, rfl, ho0, hb⟩
                                            have HS0_ := (hb.cell (World.block_lt_of_cell? _ _ (hHeld.1))).trans (hHeld.1)
                                            have HS1_ := (hb.cell (World.block_lt_of_cell? _ _ (hHeld.2.1))).trans (hHeld.2.1)
                                            have HS2_ := (hb.cell (World.block_lt_of_cell? _ _ (hHeld.2.2.1))).trans (hHeld.2.2.1)
                                            have HS3_ := (hb.cell (World.block_lt_of_cell? _ _ (hHeld.2.2.2))).trans (hHeld.2.2.2)
                                            refine ⟨_, rfl, ?_⟩
                                            have n0_ := a0m (Kd.R_elder' (by (with_reducible repeat (first | apply R_alloc | apply R_drewN | apply Kd.R_drew)); exact HO_5.out) (Kd.R_base ho0) hb)
                                            have n1_ := a0m (Kd.R_elder' (by (with_reducible repeat (first | apply R_alloc | apply R_drewN | apply Kd.R_drew)); exact HO_6.out) (Kd.R_base ho0) hb)
                                            have n2_ := a0m (Kd.R_elder' (by (with_reducible repeat (first | apply R_alloc | apply R_drewN | apply Kd.R_drew)); exact HO_7.out) (Kd.R_base ho0) hb)
                                            have n3_ := a0m (Kd.R_lower (Kd.R_new' (Kd.R_new' (Kd.R_new' ho0 (Kd.R_lt (by (with_reducible repeat (first | apply R_alloc | apply R_drewN | apply Kd.R_drew)); exact HO_5.out))) (Kd.R_lt (by (with_reducible repeat (first | apply R_alloc | apply R_drewN | apply Kd.R_drew)); exact HO_6.out))) (Kd.R_lt (by (with_reducible repeat (first | apply R_alloc | apply R_drewN | apply Kd.R_drew)); exact HO_7.out))) (below_size (by repeat (first | (with_reducible first | exact HB.out | apply below_alloc | apply pw_below_drewN | apply below_drew1) | exact HB.out))))
                                            have n4_ := a0m (below_step (by repeat (first | (with_reducible first | exact HB.out | apply below_alloc | apply pw_below_drewN | apply below_drew1) | exact HB.out)) hb)
                                            clear HO_5
                                            clear HO_6
                                            clear HO_7
                                            clear HB
                                            have HO_5 := n0_
                                            have HO_6 := n1_
                                            have HO_7 := n2_
                                            have HO387 := n3_
                                            have HB := n4_
                                            clear n0_ n1_ n2_ n3_ n4_
                                            (try clear hb)
                                            (try clear hb2)
                                            (try clear hk)
                                            (try clear hi)
                                            (try clear ho0)
                                            refine hK.out _ _ ⟨HS0_, HS1_, HS2_, HS3_⟩ (fun hHeld => ?_)
                                            clear hK K
                                            refine norm_ (a' := ?_) ?_ ?_
                                            rotate_left
                                            · show Act.put _ (some 76) _ = _
                                              simp only [Act.put, List.setIfInBounds_toArray, List.set_cons_zero, List.set_cons_succ, i64_w, i32_w]
                                              rfl
                                            refine pure_ (i := 12) (N := some 64) (v := ?_) (a' := ?_) #[true, true, true, true, true, true, true, true, true, true, true, true, true, false, false, false, false] rfl rfl (any_of HT_.out (by kernel_rfl)) (fun _ _ _ h => h) (Or.inl ⟨by rfl, ?_⟩) ?_ ?_
                                            rotate_left
                                            · intro w'
                                              go_simp
                                              with_reducible rfl
                                            rotate_left
                                            · simp only [Act.put, List.setIfInBounds_toArray, List.set_cons_zero, List.set_cons_succ, i64_w, i32_w]
                                              rfl
                                            refine pure_ (i := 13) (N := some 77) (v := ?_) (a' := ?_) #[true, true, true, true, true, true, true, true, true, true, true, true, true, true, false, false, false] rfl rfl (any_of HT_.out (by kernel_rfl)) (fun _ _ _ h => h) (Or.inl ⟨by rfl, ?_⟩) ?_ ?_
                                            rotate_left
                                            · intro w'
                                              go_simp
                                              with_reducible rfl
                                            rotate_left
                                            · simp only [Act.put, List.setIfInBounds_toArray, List.set_cons_zero, List.set_cons_succ, i64_w, i32_w]
                                              rfl
                                            refine pure_ (i := 14) (N := some 78) (v := ?_) (a' := ?_) #[true, true, true, true, true, true, true, true, true, true, true, true, true, true, true, false, false] rfl rfl (any_of HT_.out (by kernel_rfl)) (fun _ _ _ h => h) (Or.inl ⟨by rfl, ?_⟩) ?_ ?_
                                            rotate_left
                                            · intro w'
                                              go_simp
                                              with_reducible rfl
                                            rotate_left
                                            · simp only [Act.put, List.setIfInBounds_toArray, List.set_cons_zero, List.set_cons_succ, i64_w, i32_w]
                                              rfl
                                            refine pure_ (i := 15) (N := some 12) (v := ?_) (a' := ?_) #[true, true, true, true, true, true, true, true, true, true, true, true, true, true, true, true, false] rfl rfl (any_of HT_.out (by kernel_rfl)) (fun _ _ _ h => h) (Or.inl ⟨by rfl, ?_⟩) ?_ ?_
                                            rotate_left
                                            · intro w'
                                              go_simp
                                              with_reducible rfl
                                            rotate_left
                                            · simp only [Act.put, List.setIfInBounds_toArray, List.set_cons_zero, List.set_cons_succ, i64_w, i32_w]
                                              rfl
                                            refine pure_ (i := 16) (N := some 13) (v := ?_) (a' := ?_) #[true, true, true, true, true, true, true, true, true, true, true, true, true, true, true, true, true] rfl rfl (any_of HT_.out (by kernel_rfl)) (fun _ _ _ h => h) (Or.inl ⟨by rfl, ?_⟩) ?_ ?_
                                            rotate_left
                                            · intro w'
                                              go_simp
                                              with_reducible rfl
                                            rotate_left
                                            · simp only [Act.put, List.setIfInBounds_toArray, List.set_cons_zero, List.set_cons_succ, i64_w, i32_w]
                                              rfl
                                            refine done_ (done_of HT_.out (by kernel_rfl)) ?_
                                            try go_wp2
                                            have n0_ := a0m (Kd.R_drew HO_5.out)
                                            have n1_ := a0m (Kd.R_drew HO_6.out)
                                            have n2_ := a0m (Kd.R_drew HO_7.out)
                                            have n3_ := a0m (Kd.R_drew HO387.out)
                                            have n4_ := a0m (below_drew1 HB.out)
                                            clear HO_5
                                            clear HO_6
                                            clear HO_7
                                            clear HO387
                                            clear HB
                                            have HO_5 := n0_
                                            have HO_6 := n1_
                                            have HO_7 := n2_
                                            have HO387 := n3_
                                            have HB := n4_
                                            clear n0_ n1_ n2_ n3_ n4_
                                            have q63 : ((ji28) : Int) ≤ ((x7_2.length : Int) : Int) := of_decide_eq_true (by first | (with_reducible assumption) | assumption)
                                            obtain ⟨i063, hi063, _, hsz63, _⟩ := info_parts info47
                                            have hroom63 : x7_2.length ≤ co58 := (Kd.R_reads' HO_7.out).2.1
                                            have hC63 : Kd.C k47 _ (some ad382) x7_2.length x7_2 := (Kd.R_reads' HO_7.out).2.2
                                            have hcut63 := cut_to (P := Try.prog) 42 47 .i64 Try.underlying42 hi063 (some ad382) x7_2.length co58 (ji28) (of_decide_eq_true (by first | (with_reducible assumption) | assumption)) q63 hroom63
                                            have hr63 := Kd.C_take (m := ((ji28) : Int).toNat) hC63 (by omega)
                                            have hy63 : y408.length = ((ji28) : Int).toNat := (by rw [Ny408.out, List.length_take]; omega)
                                            rw [← Ny408.out] at hr63
                                            rw [← hy63] at hcut63
                                            have HR411 := a0m hr63
                                            have HC411 := a0m (show y408.length ≤ co58 from by omega)
                                            clear hr63 hC63 hroom63 hi063 hsz63
                                            have KY63 := a0m hy63
                                            clear hy63
                                            have KL63 := a0m (show ((ji28) : Int).toNat ≤ x7_2.length from by omega)
                                            replace q63 := eq_true q63
                                            have q64 : ((ji54) : Int) ≤ ((x7_2.length : Int) : Int) := of_decide_eq_true (by first | (with_reducible assumption) | assumption)
                                            obtain ⟨i064, hi064, _, hsz64, _⟩ := info_parts info47
                                            have hroom64 : x7_2.length ≤ co58 := (Kd.R_reads' HO_7.out).2.1
                                            have hC64 : Kd.C k47 _ (some ad382) x7_2.length x7_2 := (Kd.R_reads' HO_7.out).2.2
                                            have q064 : (0 : Int) ≤ ((ji54) : Int) := of_decide_eq_true (by first | (with_reducible assumption) | assumption)
                                            have hcut64 := cut_from (P := Try.prog) 42 47 .i64 Try.underlying42 hi064 2 hsz64 (some ad382) x7_2.length co58 (ji54) q064 q64
                                            have hr64 := Kd.C_drop (m := ((ji54) : Int).toNat) (c := co58) hC64 (by omega) hroom64
                                            obtain ⟨A64, hA64⟩ : ∃ A1, A1 = (if co58 = ((ji54) : Int).toNat then (some ad382) else ((some ad382) : Option Addr).map (·.add (((ji54) : Int).toNat * 2))) := ⟨_, rfl⟩
                                            obtain ⟨c64, hc64⟩ : ∃ c1, c1 = co58 - ((ji54) : Int).toNat := ⟨_, rfl⟩
                                            have hy64 : y415.length = x7_2.length - ((ji54) : Int).toNat := (by rw [Ny415.out, List.length_drop] <;> omega)
                                            rw [show (x7_2).drop ((ji54) : Int).toNat = y415 from Ny415.out.symm] at hr64
                                            replace hr64 : Kd.C k47 _ A64 y415.length y415 := (by rw [hA64]; exact hr64)
                                            rw [← hy64, ← hA64, ← hc64] at hcut64
                                            have HR418 := a0m hr64
                                            have HC418 := a0m (show y415.length ≤ c64 from by rw [hy64, hc64]; exact Nat.sub_le_sub_right hroom64 _)
                                            clear hr64 hC64 hroom64 hi064 hsz64 hc64
                                            have KY64 := a0m hy64
                                            have KA64 := a0m hA64
                                            clear hy64 hA64
                                            have KL64 := a0m (show ((ji54) : Int).toNat ≤ x7_2.length from by omega)
                                            replace q64 := eq_true q64
                                            refine start_ (n := 11) (S := fun w' => True) (ds := []) #[false, false, false, false, false, false, false, false, false, false, false] (by kernel_rfl) rfl rfl trivial (fun hHeld => ?_); refine with_tabW TO.tab17 TO.bits17 (fun HT_ HW_ => ?_)
                                            generalize w61.drew = w62 at HO_5 HO_6 HO_7 HO387 HB HR411 HR418 hHeld ⊢
                                            refine pure_ (i := 1) (N := some 83) (v := ?_) (a' := ?_) #[false, true, false, false, false, false, false, false, false, false, false] rfl rfl (any_of HT_.out (by kernel_rfl)) (fun _ _ _ h => h) (Or.inl ⟨by rfl, ?_⟩) ?_ ?_
                                            rotate_left
                                            · intro w'
                                              go_simp
                                              with_reducible rfl
                                            rotate_left
                                            · simp only [Act.put, List.setIfInBounds_toArray, List.set_cons_zero, List.set_cons_succ, i64_w, i32_w]
                                              rfl
                                            refine pure_ (i := 2) (N := some 84) (v := ?_) (a' := ?_) #[false, true, true, false, false, false, false, false, false, false, false] rfl rfl (any_of HT_.out (by kernel_rfl)) (fun _ _ _ h => h) (Or.inl ⟨by rfl, ?_⟩) ?_ ?_
                                            rotate_left
                                            · intro w'
                                              go_simp
                                              with_reducible rfl
                                            rotate_left
                                            · simp only [Act.put, List.setIfInBounds_toArray, List.set_cons_zero, List.set_cons_succ, i64_w, i32_w]
                                              rfl
                                            refine pure_ (i := 3) (N := some 85) (v := ?_) (a' := ?_) #[false, true, true, true, false, false, false, false, false, false, false] rfl rfl (any_of HT_.out (by kernel_rfl)) (fun _ _ _ h => h) (Or.inl ⟨by rfl, ?_⟩) ?_ ?_
                                            rotate_left
                                            · intro w'
                                              go_simp
                                              with_reducible rfl
                                            rotate_left
                                            · simp only [Act.put, List.setIfInBounds_toArray, List.set_cons_zero, List.set_cons_succ, i64_w, i32_w]
                                              rfl
                                            refine pure_ (i := 5) (N := some 87) (v := ?_) (a' := ?_) #[false, true, true, true, false, true, false, false, false, false, false] rfl rfl (any_of HT_.out (by kernel_rfl)) (fun _ _ _ h => h) (Or.inl ⟨by rfl, ?_⟩) ?_ ?_
                                            rotate_left
                                            · intro w'
                                              go_simp
                                              with_reducible rfl
                                            rotate_left
                                            · simp only [Act.put, List.setIfInBounds_toArray, List.set_cons_zero, List.set_cons_succ, i64_w, i32_w]
                                              rfl
                                            refine pure_ (i := 6) (N := some 88) (v := ?_) (a' := ?_) #[false, true, true, true, false, true, true, false, false, false, false] rfl rfl (any_of HT_.out (by kernel_rfl)) (fun _ _ _ h => h) (Or.inl ⟨by rfl, ?_⟩) ?_ ?_
                                            rotate_left
                                            · intro w'
                                              go_simp
                                              with_reducible rfl
                                            rotate_left
                                            · simp only [Act.put, List.setIfInBounds_toArray, List.set_cons_zero, List.set_cons_succ, i64_w, i32_w]
                                              rfl
                                            refine pure_ (i := 7) (N := some 89) (v := ?_) (a' := ?_) #[false, true, true, true, false, true, true, true, false, false, false] rfl rfl (any_of HT_.out (by kernel_rfl)) (fun _ _ _ h => h) (Or.inl ⟨by rfl, ?_⟩) ?_ ?_
                                            rotate_left
                                            · intro w'
                                              go_simp
                                              with_reducible rfl
                                            rotate_left
                                            · simp only [Act.put, List.setIfInBounds_toArray, List.set_cons_zero, List.set_cons_succ, i64_w, i32_w]
                                              rfl
                                            refine pure_ (i := 8) (N := some 90) (v := ?_) (a' := ?_) #[false, true, true, true, false, true, true, true, true, false, false] rfl rfl (any_of HT_.out (by kernel_rfl)) (fun _ _ _ h => h) (Or.inl ⟨by rfl, ?_⟩) ?_ ?_
                                            rotate_left
                                            · intro w'
                                              go_simp
                                              with_reducible rfl
                                            rotate_left
                                            · simp only [Act.put, List.setIfInBounds_toArray, List.set_cons_zero, List.set_cons_succ, i64_w, i32_w]
                                              rfl
                                            refine one_ (i := 0) (N := some 82) #[true, true, true, true, false, true, true, true, true, false, false] rfl rfl (one_of HT_.out (by kernel_rfl)) (by decide) (fun K hK => ?_)
                                            refine Kd.R_lit_step k47 _ 47 ?hg (N := 82) ?hd (xs := ([] : List (S47))) (inner := []) (ok := fun _ => True) (okp := fun _ => True) ?hr ?hp (fun _ hk => hk) trivial (Below.refl _ _) (Nat.le_refl _) (by simp) ?_; (case hd => rfl); (case hg => rfl); (case hr => first | (go_simp; done) | (go_simp; rfl)); (case hp => exact (Reps.none _ _))
                                            intro v406 w65 ho66 hb hg_ hnew_
                                            clear hg_ hnew_
                                            (first | rw [← Ny405.out] at ho66 | (simp only [Int.reduceToNat] at ho66; rw [← Ny405.out] at ho66))
                                            have n0_ := a0m (Kd.R_elder' (by (with_reducible repeat (first | apply R_alloc | apply R_drewN | apply Kd.R_drew)); exact HO_5.out) (Kd.R_base ho66) hb)
                                            have n1_ := a0m (Kd.R_elder' (by (with_reducible repeat (first | apply R_alloc | apply R_drewN | apply Kd.R_drew)); exact HO_6.out) (Kd.R_base ho66) hb)
                                            have n2_ := a0m (Kd.R_elder' (by (with_reducible repeat (first | apply R_alloc | apply R_drewN | apply Kd.R_drew)); exact HO_7.out) (Kd.R_base ho66) hb)
                                            have n3_ := a0m (Kd.R_elder' (by (with_reducible repeat (first | apply R_alloc | apply R_drewN | apply Kd.R_drew)); exact HO387.out) (Kd.R_base ho66) hb)
                                            have n4_ := a0m (Kd.R_lower (Kd.R_new' (Kd.R_new' (Kd.R_new' (Kd.R_new' ho66 (Kd.R_lt (by (with_reducible repeat (first | apply R_alloc | apply R_drewN | apply Kd.R_drew)); exact HO_5.out))) (Kd.R_lt (by (with_reducible repeat (first | apply R_alloc | apply R_drewN | apply Kd.R_drew)); exact HO_6.out))) (Kd.R_lt (by (with_reducible repeat (first | apply R_alloc | apply R_drewN | apply Kd.R_drew)); exact HO_7.out))) (Kd.R_lt (by (with_reducible repeat (first | apply R_alloc | apply R_drewN | apply Kd.R_drew)); exact HO387.out))) (below_size (by repeat (first | (with_reducible first | exact HB.out | apply below_alloc | apply pw_below_drewN | apply below_drew1) | exact HB.out))))
                                            have n5_ := a0m (Kd.C_below (by repeat (first | (with_reducible exact HR411.out) | (with_reducible refine Kd.C_alloc ?_ _) | (with_reducible refine Kd.C_drewN ?_ _) | (with_reducible refine Kd.C_drew ?_) | exact HR411.out)) hb)
                                            have n6_ := a0m (Kd.C_below (by repeat (first | (with_reducible exact HR418.out) | (with_reducible refine Kd.C_alloc ?_ _) | (with_reducible refine Kd.C_drewN ?_ _) | (with_reducible refine Kd.C_drew ?_) | exact HR418.out)) hb)
                                            have n7_ := a0m (below_step (by repeat (first | (with_reducible first | exact HB.out | apply below_alloc | apply pw_below_drewN | apply below_drew1) | exact HB.out)) hb)
                                            clear HO_5
                                            clear HO_6
                                            clear HO_7
                                            clear HO387
                                            clear HR411
                                            clear HR418
                                            clear HB
                                            have HO_5 := n0_
                                            have HO_6 := n1_
                                            have HO_7 := n2_
                                            have HO387 := n3_
                                            have HO407 := n4_
                                            have HR411 := n5_
                                            have HR418 := n6_
                                            have HB := n7_
                                            clear n0_ n1_ n2_ n3_ n4_ n5_ n6_ n7_
                                            clear hb ho66
                                            refine hK.out _ _ trivial (fun hHeld => ?_)
                                            clear hK K
                                            refine norm_ (a' := ?_) ?_ ?_
                                            rotate_left
                                            · show Act.put _ (some 82) _ = _
                                              simp only [Act.put, List.setIfInBounds_toArray, List.set_cons_zero, List.set_cons_succ, i64_w, i32_w]
                                              rfl
                                            refine one_ (i := 4) (N := some 86) #[true, true, true, true, true, true, true, true, true, false, false] rfl rfl (one_of HT_.out (by kernel_rfl)) (by decide) (fun K hK => ?_)
                                            refine Kd.R_append_rows_step k47 (w0 := w) w.heap.size (by rfl) (.tmp 82) (.tmp 85) 42 47 (.agg #[(.string ⟨#[]⟩), (.int .i64 0)]) 24 rfl Try.underlying42 info47 rfl (by decide) (by omega) v406 y405 y408 _ _ _ (fun k_ => some k_ ≠ (u5 : Value).ownBlock ∧ some k_ ≠ (.slice Ao60 x6_2.length co60 : Value).ownBlock ∧ some k_ ≠ (.slice (some ad382) x7_2.length co58 : Value).ownBlock ∧ some k_ ≠ (v386 : Value).ownBlock) (fun _ => False) rfl rfl ?aO ?aR (fun _ _ h => h) (fun _ h => h.elim) ?aF ?aB ?aS ?aL ?_
                                            (case aR => repeat (first | exact (by repeat (first | (with_reducible exact HR411.out) | (with_reducible refine Kd.C_alloc ?_ _) | (with_reducible refine Kd.C_drewN ?_ _) | (with_reducible refine Kd.C_drew ?_) | exact HR411.out)) | (with_reducible refine Kd.C_alloc ?_ _) | (with_reducible refine Kd.C_drewN ?_ _) | (with_reducible refine Kd.C_drew ?_)))
                                            (case aB => exact (by repeat (first | (with_reducible first | exact HB.out | apply below_alloc | apply pw_below_drewN | apply below_drew1) | exact HB.out)))
                                            (case aF => exact (fun k_ hk => ⟨Kd.fresh' (Kd.R_lt (by (with_reducible repeat (first | apply R_alloc | apply R_drewN | apply Kd.R_drew)); exact HO_5.out)) k_ hk, Kd.fresh' (Kd.R_lt (by (with_reducible repeat (first | apply R_alloc | apply R_drewN | apply Kd.R_drew)); exact HO_6.out)) k_ hk, Kd.fresh' (Kd.R_lt (by (with_reducible repeat (first | apply R_alloc | apply R_drewN | apply Kd.R_drew)); exact HO_7.out)) k_ hk, Kd.fresh' (Kd.R_lt (by (with_reducible repeat (first | apply R_alloc | apply R_drewN | apply Kd.R_drew)); exact HO387.out)) k_ hk⟩))
                                            (case aO => exact (by (with_reducible repeat (first | apply R_alloc | apply R_drewN | apply Kd.R_drew)); exact Kd.R_mono HO407.out (fun _ hk => ⟨hk.1.1.1.2, ⟨hk.1.1.2, ⟨hk.1.2, hk.2⟩⟩⟩)))
                                            (case aS => exact (below_size (by repeat (first | (with_reducible first | exact HB.out | apply below_alloc | apply pw_below_drewN | apply below_drew1) | exact HB.out))))
                                            (case aL => have := LMc53.out; omega)
                                            intro v413 w67 ho hb hg hat
                                            rw [← Ny412.out] at ho
                                            have n0_ := a0m (Kd.R_after (ok := (fun k_ => some k_ ≠ (.slice Ao60 x6_2.length co60 : Value).ownBlock ∧ some k_ ≠ (.slice (some ad382) x7_2.length co58 : Value).ownBlock ∧ some k_ ≠ (v386 : Value).ownBlock)) (by (with_reducible repeat (first | apply R_alloc | apply R_drewN | apply Kd.R_drew)); exact Kd.R_mono HO_5.out (fun _ hk => ⟨⟨hk.1.1.1, ⟨hk.1.1.2, hk.1.2⟩⟩, hk.2⟩)) hg hat)
                                            have n1_ := a0m (Kd.R_after (ok := (fun k_ => some k_ ≠ (u5 : Value).ownBlock ∧ some k_ ≠ (.slice (some ad382) x7_2.length co58 : Value).ownBlock ∧ some k_ ≠ (v386 : Value).ownBlock)) (by (with_reducible repeat (first | apply R_alloc | apply R_drewN | apply Kd.R_drew)); exact Kd.R_mono HO_6.out (fun _ hk => ⟨⟨hk.1.1.1, ⟨hk.1.1.2, hk.1.2⟩⟩, hk.2⟩)) hg hat)
                                            have n2_ := a0m (Kd.R_after (ok := (fun k_ => some k_ ≠ (u5 : Value).ownBlock ∧ some k_ ≠ (.slice Ao60 x6_2.length co60 : Value).ownBlock ∧ some k_ ≠ (v386 : Value).ownBlock)) (by (with_reducible repeat (first | apply R_alloc | apply R_drewN | apply Kd.R_drew)); exact Kd.R_mono HO_7.out (fun _ hk => ⟨⟨hk.1.1.1, ⟨hk.1.1.2, hk.1.2⟩⟩, hk.2⟩)) hg hat)
                                            have n3_ := a0m (Kd.R_after (ok := (fun k_ => some k_ ≠ (u5 : Value).ownBlock ∧ some k_ ≠ (.slice Ao60 x6_2.length co60 : Value).ownBlock ∧ some k_ ≠ (.slice (some ad382) x7_2.length co58 : Value).ownBlock)) (by (with_reducible repeat (first | apply R_alloc | apply R_drewN | apply Kd.R_drew)); exact Kd.R_mono HO387.out (fun _ hk => ⟨⟨hk.1.1.1.2, ⟨hk.1.1.2, hk.1.2⟩⟩, hk.2⟩)) hg hat)
                                            have n4_ := a0m (hb)
                                            have n5_ := a0m ((show Kd.C k47 w67 (some ad382) y408.length y408 from by rw [Ny408.out]; exact Kd.C_take (m := ((ji28) : Int).toNat) ((Kd.R_reads' (Kd.R_after (ok := (fun k_ => some k_ ≠ (u5 : Value).ownBlock ∧ some k_ ≠ (.slice Ao60 x6_2.length co60 : Value).ownBlock ∧ some k_ ≠ (v386 : Value).ownBlock)) (by (with_reducible repeat (first | apply R_alloc | apply R_drewN | apply Kd.R_drew)); exact Kd.R_mono HO_7.out (fun _ hk => ⟨⟨hk.1.1.1, ⟨hk.1.1.2, hk.1.2⟩⟩, hk.2⟩)) hg hat)).2.2) KL63.out))
                                            have n6_ := a0m ((show Kd.C k47 w67 A64 y415.length y415 from by rw [Ny415.out, KA64.out]; exact Kd.C_drop (m := ((ji54) : Int).toNat) (c := co58) ((Kd.R_reads' (Kd.R_after (ok := (fun k_ => some k_ ≠ (u5 : Value).ownBlock ∧ some k_ ≠ (.slice Ao60 x6_2.length co60 : Value).ownBlock ∧ some k_ ≠ (v386 : Value).ownBlock)) (by (with_reducible repeat (first | apply R_alloc | apply R_drewN | apply Kd.R_drew)); exact Kd.R_mono HO_7.out (fun _ hk => ⟨⟨hk.1.1.1, ⟨hk.1.1.2, hk.1.2⟩⟩, hk.2⟩)) hg hat)).2.2) KL64.out ((Kd.R_reads' (Kd.R_after (ok := (fun k_ => some k_ ≠ (u5 : Value).ownBlock ∧ some k_ ≠ (.slice Ao60 x6_2.length co60 : Value).ownBlock ∧ some k_ ≠ (v386 : Value).ownBlock)) (by (with_reducible repeat (first | apply R_alloc | apply R_drewN | apply Kd.R_drew)); exact Kd.R_mono HO_7.out (fun _ hk => ⟨⟨hk.1.1.1, ⟨hk.1.1.2, hk.1.2⟩⟩, hk.2⟩)) hg hat)).2.1)))
                                            have n7_ := a0m (ho)
                                            clear HO_5
                                            clear HO_6
                                            clear HO_7
                                            clear HO387
                                            clear HB
                                            clear HR411
                                            clear HR418
                                            clear HO407
                                            have HO_5 := n0_
                                            have HO_6 := n1_
                                            have HO_7 := n2_
                                            have HO387 := n3_
                                            have HB := n4_
                                            have HR411 := n5_
                                            have HR418 := n6_
                                            have HO414 := n7_
                                            clear n0_ n1_ n2_ n3_ n4_ n5_ n6_ n7_
                                            clear ho hb hg hat
                                            refine hK.out _ _ trivial (fun hHeld => ?_)
                                            clear hK K
                                            refine norm_ (a' := ?_) ?_ ?_
                                            rotate_left
                                            · show Act.put _ (some 86) _ = _
                                              simp only [Act.put, List.setIfInBounds_toArray, List.set_cons_zero, List.set_cons_succ, i64_w, i32_w]
                                              rfl
                                            refine one_ (i := 9) (N := some 91) #[true, true, true, true, true, true, true, true, true, true, false] rfl rfl (one_of HT_.out (by kernel_rfl)) (by decide) (fun K hK => ?_)
                                            refine Kd.R_append_rows_step k47 (w0 := w) w.heap.size (by rfl) (.tmp 86) (.tmp 90) 42 47 (.agg #[(.string ⟨#[]⟩), (.int .i64 0)]) 24 rfl Try.underlying42 info47 rfl (by decide) (by omega) v413 y412 y415 _ _ _ (fun k_ => some k_ ≠ (u5 : Value).ownBlock ∧ some k_ ≠ (.slice Ao60 x6_2.length co60 : Value).ownBlock ∧ some k_ ≠ (.slice (some ad382) x7_2.length co58 : Value).ownBlock ∧ some k_ ≠ (v386 : Value).ownBlock) (fun _ => False) rfl rfl ?aO ?aR (fun _ _ h => h) (fun _ h => h.elim) ?aF ?aB ?aS ?aL ?_
                                            (case aR => repeat (first | exact (by repeat (first | (with_reducible exact HR418.out) | (with_reducible refine Kd.C_alloc ?_ _) | (with_reducible refine Kd.C_drewN ?_ _) | (with_reducible refine Kd.C_drew ?_) | exact HR418.out)) | (with_reducible refine Kd.C_alloc ?_ _) | (with_reducible refine Kd.C_drewN ?_ _) | (with_reducible refine Kd.C_drew ?_)))
                                            (case aB => exact (by repeat (first | (with_reducible first | exact HB.out | apply below_alloc | apply pw_below_drewN | apply below_drew1) | exact HB.out)))
                                            (case aF => exact (fun k_ hk => ⟨Kd.fresh' (Kd.R_lt (by (with_reducible repeat (first | apply R_alloc | apply R_drewN | apply Kd.R_drew)); exact HO_5.out)) k_ hk, Kd.fresh' (Kd.R_lt (by (with_reducible repeat (first | apply R_alloc | apply R_drewN | apply Kd.R_drew)); exact HO_6.out)) k_ hk, Kd.fresh' (Kd.R_lt (by (with_reducible repeat (first | apply R_alloc | apply R_drewN | apply Kd.R_drew)); exact HO_7.out)) k_ hk, Kd.fresh' (Kd.R_lt (by (with_reducible repeat (first | apply R_alloc | apply R_drewN | apply Kd.R_drew)); exact HO387.out)) k_ hk⟩))
                                            (case aO => exact (by (with_reducible repeat (first | apply R_alloc | apply R_drewN | apply Kd.R_drew)); exact HO414.out))
                                            (case aS => exact (below_size (by repeat (first | (with_reducible first | exact HB.out | apply below_alloc | apply pw_below_drewN | apply below_drew1) | exact HB.out))))
                                            (case aL => have := LMc57.out; omega)
                                            intro v420 w68 ho hb hg hat
                                            rw [← Ny419.out] at ho
                                            have n0_ := a0m (Kd.R_after (ok := (fun k_ => some k_ ≠ (.slice Ao60 x6_2.length co60 : Value).ownBlock ∧ some k_ ≠ (.slice (some ad382) x7_2.length co58 : Value).ownBlock ∧ some k_ ≠ (v386 : Value).ownBlock)) (by (with_reducible repeat (first | apply R_alloc | apply R_drewN | apply Kd.R_drew)); exact HO_5.out) hg hat)
                                            have n1_ := a0m (Kd.R_after (ok := (fun k_ => some k_ ≠ (u5 : Value).ownBlock ∧ some k_ ≠ (.slice (some ad382) x7_2.length co58 : Value).ownBlock ∧ some k_ ≠ (v386 : Value).ownBlock)) (by (with_reducible repeat (first | apply R_alloc | apply R_drewN | apply Kd.R_drew)); exact HO_6.out) hg hat)
                                            have n2_ := a0m (Kd.R_after (ok := (fun k_ => some k_ ≠ (u5 : Value).ownBlock ∧ some k_ ≠ (.slice Ao60 x6_2.length co60 : Value).ownBlock ∧ some k_ ≠ (v386 : Value).ownBlock)) (by (with_reducible repeat (first | apply R_alloc | apply R_drewN | apply Kd.R_drew)); exact HO_7.out) hg hat)
                                            have n3_ := a0m (Kd.R_after (ok := (fun k_ => some k_ ≠ (u5 : Value).ownBlock ∧ some k_ ≠ (.slice Ao60 x6_2.length co60 : Value).ownBlock ∧ some k_ ≠ (.slice (some ad382) x7_2.length co58 : Value).ownBlock)) (by (with_reducible repeat (first | apply R_alloc | apply R_drewN | apply Kd.R_drew)); exact HO387.out) hg hat)
                                            have n4_ := a0m (hb)
                                            have n5_ := a0m ((show Kd.C k47 w68 (some ad382) y408.length y408 from by rw [Ny408.out]; exact Kd.C_take (m := ((ji28) : Int).toNat) ((Kd.R_reads' (Kd.R_after (ok := (fun k_ => some k_ ≠ (u5 : Value).ownBlock ∧ some k_ ≠ (.slice Ao60 x6_2.length co60 : Value).ownBlock ∧ some k_ ≠ (v386 : Value).ownBlock)) (by (with_reducible repeat (first | apply R_alloc | apply R_drewN | apply Kd.R_drew)); exact HO_7.out) hg hat)).2.2) KL63.out))
                                            have n6_ := a0m ((show Kd.C k47 w68 A64 y415.length y415 from by rw [Ny415.out, KA64.out]; exact Kd.C_drop (m := ((ji54) : Int).toNat) (c := co58) ((Kd.R_reads' (Kd.R_after (ok := (fun k_ => some k_ ≠ (u5 : Value).ownBlock ∧ some k_ ≠ (.slice Ao60 x6_2.length co60 : Value).ownBlock ∧ some k_ ≠ (v386 : Value).ownBlock)) (by (with_reducible repeat (first | apply R_alloc | apply R_drewN | apply Kd.R_drew)); exact HO_7.out) hg hat)).2.2) KL64.out ((Kd.R_reads' (Kd.R_after (ok := (fun k_ => some k_ ≠ (u5 : Value).ownBlock ∧ some k_ ≠ (.slice Ao60 x6_2.length co60 : Value).ownBlock ∧ some k_ ≠ (v386 : Value).ownBlock)) (by (with_reducible repeat (first | apply R_alloc | apply R_drewN | apply Kd.R_drew)); exact HO_7.out) hg hat)).2.1)))
                                            have n7_ := a0m (ho)
                                            clear HO_5
                                            clear HO_6
                                            clear HO_7
                                            clear HO387
                                            clear HB
                                            clear HR411
                                            clear HR418
                                            clear HO414
                                            have HO_5 := n0_
                                            have HO_6 := n1_
                                            have HO_7 := n2_
                                            have HO387 := n3_
                                            have HB := n4_
                                            have HR411 := n5_
                                            have HR418 := n6_
                                            have HO421 := n7_
                                            clear n0_ n1_ n2_ n3_ n4_ n5_ n6_ n7_
                                            clear ho hb hg hat
                                            refine hK.out _ _ trivial (fun hHeld => ?_)
                                            clear hK K
                                            refine norm_ (a' := ?_) ?_ ?_
                                            rotate_left
                                            · show Act.put _ (some 91) _ = _
                                              simp only [Act.put, List.setIfInBounds_toArray, List.set_cons_zero, List.set_cons_succ, i64_w, i32_w]
                                              rfl
                                            refine pure_ (i := 10) (N := some 7) (v := ?_) (a' := ?_) #[true, true, true, true, true, true, true, true, true, true, true] rfl rfl (any_of HT_.out (by kernel_rfl)) (fun _ _ _ h => h) (Or.inl ⟨by rfl, ?_⟩) ?_ ?_
                                            rotate_left
                                            · intro w'
                                              go_simp
                                              with_reducible rfl
                                            rotate_left
                                            · simp only [Act.put, List.setIfInBounds_toArray, List.set_cons_zero, List.set_cons_succ, i64_w, i32_w]
                                              rfl
                                            refine done_ (done_of HT_.out (by kernel_rfl)) ?_
                                            try go_wp2
                                            go_roundg kj19
                                            case measure => have := HJ2.out; have := HK2.out; have := HJ19.out; omega
                                            case rel => exact ⟨(x5_19), (x6_2), (y419), (wrap64 (x8_2 + 1)), (by first | rfl | (simp; done) | (simp [*]; done)), H', ⟨by have := HJ2.out; have := HK2.out; have := HJ19.out; omega⟩, ⟨by (with_reducible repeat (first | apply R_alloc | apply R_drewN | apply Kd.R_drew)); exact Kd.R_mono HO_5.out (fun _ hk => ⟨hk.1.1, hk.2⟩)⟩, ⟨by (with_reducible repeat (first | apply R_alloc | apply R_drewN | apply Kd.R_drew)); exact Kd.R_mono HO_6.out (fun _ hk => ⟨hk.1.1, hk.2⟩)⟩, ⟨by (with_reducible repeat (first | apply R_alloc | apply R_drewN | apply Kd.R_drew)); exact Kd.R_mono HO421.out (fun _ hk => ⟨hk.1, hk.2.1⟩)⟩, ⟨by repeat (first | (with_reducible first | exact HB.out | apply below_alloc | apply pw_below_drewN | apply below_drew1) | exact HB.out)⟩⟩
                                          · rw [if_neg c57] at H
                                            exact absurd H (by simp)
                                        · rw [if_neg c56] at H
                                          exact absurd H (by simp)
                                      · rw [if_neg c55] at H
                                        exact absurd H (by simp)
                                    · rw [if_neg c53] at H
                                      exact absurd H (by simp)
                                  · rw [if_neg c52] at H
                                    exact absurd H (by simp)
                              · rw [if_neg c30] at H
                                exact absurd H (by simp)
                            · rw [if_neg c29] at H
                              exact absurd H (by simp)
                        · rw [if_neg c26] at H
                          exact absurd H (by simp)
                      · rw [if_neg c25] at H
                        have c25b0 : decide (x8_2 < (l1.length : Int)) = false := decide_eq_false c25
                        clear c25
                        by_cases c69 : 0 < (x7_2.length : Int)
                        · rw [if_pos c69] at H
                          have c69b0 : decide (0 < (x7_2.length : Int)) = true := decide_eq_true c69
                          have c69b1 : decide (0 < x7_2.length) = true := decide_eq_true (by omega)
                          clear c69
                          replace H := Option.bind_eq_some_iff.mp H
                          obtain ⟨⟨t424, t425⟩, A700, H⟩ := H
                          replace H : (if t425 = 0 then ((some (([] : List (S47)) : List (S47))).bind fun y428 => (if 0 ≤ (x7_2.length : Int) then ((some (x7_2.take 0 : List (S47))).bind fun y431 => (if y428.length + y431.length < 5864062014805 then ((some (y428 ++ y431 : List (S47))).bind fun y435 => (if (0 : Int) ≤ (0 + 1) then (if (0 + 1 : Int) ≤ (x7_2.length : Int) then ((some (x7_2.drop ((0 + 1) : Int).toNat : List (S47))).bind fun y438 => (if y435.length + y438.length < 5864062014805 then (TO.l0 kj19 l0 l1 x5_19 t424 (y435 ++ y438) (wrap64 (x8_2 + 1))) else (none))) else (none)) else (none))) else (none))) else (none))) else ((some (([] : List (S47)) : List (S47))).bind fun y445 => (if 0 ≤ (x7_2.length : Int) then ((some (x7_2.take 0 : List (S47))).bind fun y448 => (if y445.length + y448.length < 5864062014805 then ((some (y445 ++ y448 : List (S47))).bind fun y452 => (if (0 : Int) ≤ (0 + 1) then (if (0 + 1 : Int) ≤ (x7_2.length : Int) then ((some (x7_2.drop ((0 + 1) : Int).toNat : List (S47))).bind fun y455 => (if y452.length + y455.length < 5864062014805 then (TO.l0 kj19 l0 l1 x5_19 x6_2 (y452 ++ y455) (wrap64 (x8_2 + 1))) else (none))) else (none)) else (none))) else (none))) else (none)))) = some r := H
                          have A70 := a0m A700
                          clear A700
                          by_cases c71 : t425 = 0
                          · rw [if_pos c71] at H
                            have c71b0 : (t425 == 0) = true := beq_iff_eq.mpr c71
                            have c71b1 : (t425 != 0) = false := bne_eq_false_iff_eq.mpr c71
                            clear c71
                            obtain ⟨y428, hy428⟩ : ∃ y_ : List (S47), y_ = (([] : List (S47))) := ⟨_, rfl⟩
                            replace H : (if 0 ≤ (x7_2.length : Int) then ((some (x7_2.take 0 : List (S47))).bind fun y431 => (if y428.length + y431.length < 5864062014805 then ((some (y428 ++ y431 : List (S47))).bind fun y435 => (if (0 : Int) ≤ (0 + 1) then (if (0 + 1 : Int) ≤ (x7_2.length : Int) then ((some (x7_2.drop ((0 + 1) : Int).toNat : List (S47))).bind fun y438 => (if y435.length + y438.length < 5864062014805 then (TO.l0 kj19 l0 l1 x5_19 t424 (y435 ++ y438) (wrap64 (x8_2 + 1))) else (none))) else (none)) else (none))) else (none))) else (none)) = some r := by first | (rw [hy428]; with_reducible exact H) | (have H2_ := (Option.bind_some _ _).symm.trans H; rw [hy428]; with_reducible exact H2_) | (have H2_ := (Option.bind_some _ _).symm.trans H; with_reducible exact H2_) | with_reducible exact H | (rw [hy428]; exact H) | exact H
                            have Ny428 := a0m hy428
                            clear hy428
                            by_cases c72 : 0 ≤ (x7_2.length : Int)
                            · rw [if_pos c72] at H
                              have c72b0 := eq_true c72
                              have c72b1 : decide (0 ≤ (x7_2.length : Int)) = true := decide_eq_true c72
                              clear c72
                              obtain ⟨y431, hy431⟩ : ∃ y_ : List (S47), y_ = (x7_2.take 0) := ⟨_, rfl⟩
                              replace H : (if y428.length + y431.length < 5864062014805 then ((some (y428 ++ y431 : List (S47))).bind fun y435 => (if (0 : Int) ≤ (0 + 1) then (if (0 + 1 : Int) ≤ (x7_2.length : Int) then ((some (x7_2.drop ((0 + 1) : Int).toNat : List (S47))).bind fun y438 => (if y435.length + y438.length < 5864062014805 then (TO.l0 kj19 l0 l1 x5_19 t424 (y435 ++ y438) (wrap64 (x8_2 + 1))) else (none))) else (none)) else (none))) else (none)) = some r := by first | (rw [hy431]; with_reducible exact H) | (have H2_ := (Option.bind_some _ _).symm.trans H; rw [hy431]; with_reducible exact H2_) | (have H2_ := (Option.bind_some _ _).symm.trans H; with_reducible exact H2_) | with_reducible exact H | (rw [hy431]; exact H) | exact H
                              have Ny431 := a0m hy431
                              clear hy431
                              by_cases c73 : y428.length + y431.length < 5864062014805
                              · rw [if_pos c73] at H
                                have LMc73 := a0m c73
                                clear c73
                                obtain ⟨y435, hy435⟩ : ∃ y_ : List (S47), y_ = (y428 ++ y431) := ⟨_, rfl⟩
                                replace H : (if (0 : Int) ≤ (0 + 1) then (if (0 + 1 : Int) ≤ (x7_2.length : Int) then ((some (x7_2.drop ((0 + 1) : Int).toNat : List (S47))).bind fun y438 => (if y435.length + y438.length < 5864062014805 then (TO.l0 kj19 l0 l1 x5_19 t424 (y435 ++ y438) (wrap64 (x8_2 + 1))) else (none))) else (none)) else (none)) = some r := by first | (rw [hy435]; with_reducible exact H) | (have H2_ := (Option.bind_some _ _).symm.trans H; rw [hy435]; with_reducible exact H2_) | (have H2_ := (Option.bind_some _ _).symm.trans H; with_reducible exact H2_) | with_reducible exact H | (rw [hy435]; exact H) | exact H
                                have Ny435 := a0m hy435
                                clear hy435
                                obtain ⟨ji74, hji74⟩ : ∃ j_ : Int, (0 + 1 : Int) = j_ := ⟨_, rfl⟩
                                have hwji74 : wrap64 ji74 = ji74 := by rw [← hji74]; unfold wrap64; omega
                                replace H : (if 0 ≤ (ji74) then (if (ji74) ≤ (x7_2.length : Int) then ((some (x7_2.drop ((ji74) : Int).toNat : List (S47))).bind fun y438 => (if y435.length + y438.length < 5864062014805 then (TO.l0 kj19 l0 l1 x5_19 t424 (y435 ++ y438) (wrap64 (x8_2 + 1))) else (none))) else (none)) else (none)) = some r := by first | (rw [hji74] at H; exact H) | (simp only [hji74] at H ⊢; exact H)
                                (try rw [hji74] at A70)
                                by_cases c75 : 0 ≤ (ji74)
                                · rw [if_pos c75] at H
                                  have c75b0 := eq_true c75
                                  have c75b1 : decide (0 ≤ (ji74)) = true := decide_eq_true c75
                                  clear c75
                                  by_cases c76 : (ji74) ≤ (x7_2.length : Int)
                                  · rw [if_pos c76] at H
                                    have c76b0 := eq_true c76
                                    have c76b1 : decide ((ji74) ≤ (x7_2.length : Int)) = true := decide_eq_true c76
                                    clear c76
                                    obtain ⟨y438, hy438⟩ : ∃ y_ : List (S47), y_ = (x7_2.drop ((ji74) : Int).toNat) := ⟨_, rfl⟩
                                    replace H : (if y435.length + y438.length < 5864062014805 then (TO.l0 kj19 l0 l1 x5_19 t424 (y435 ++ y438) (wrap64 (x8_2 + 1))) else (none)) = some r := by first | (rw [hy438]; with_reducible exact H) | (have H2_ := (Option.bind_some _ _).symm.trans H; rw [hy438]; with_reducible exact H2_) | (have H2_ := (Option.bind_some _ _).symm.trans H; with_reducible exact H2_) | with_reducible exact H | (rw [hy438]; exact H) | exact H
                                    have Ny438 := a0m hy438
                                    clear hy438
                                    by_cases c77 : y435.length + y438.length < 5864062014805
                                    · rw [if_pos c77] at H
                                      have LMc77 := a0m c77
                                      clear c77
                                      obtain ⟨y442, hy442⟩ : ∃ y_ : List (S47), y_ = (y435 ++ y438) := ⟨_, rfl⟩
                                      replace H : (TO.l0 kj19 l0 l1 x5_19 t424 y442 (wrap64 (x8_2 + 1))) = some r := by first | (rw [hy442]; with_reducible exact H) | (have H2_ := (Option.bind_some _ _).symm.trans H; rw [hy442]; with_reducible exact H2_) | (have H2_ := (Option.bind_some _ _).symm.trans H; with_reducible exact H2_) | with_reducible exact H | (rw [hy442]; exact H) | exact H
                                      have Ny442 := a0m hy442
                                      clear hy442
                                      have H' := a0m H
                                      clear H
                                      try go_wp2
                                      have n0_ := a0m (Kd.R_drew HO_5.out)
                                      have n1_ := a0m (Kd.R_drew HO_6.out)
                                      have n2_ := a0m (Kd.R_drew HO_7.out)
                                      have n3_ := a0m (below_drew1 HB.out)
                                      clear HO_5
                                      clear HO_6
                                      clear HO_7
                                      clear HB
                                      have HO_5 := n0_
                                      have HO_6 := n1_
                                      have HO_7 := n2_
                                      have HB := n3_
                                      clear n0_ n1_ n2_ n3_
                                      obtain ⟨Ao79, co79, eo79⟩ := Kd.R_slice HO_7.out
                                      (first | subst eo79 | (injection eo79 with f1_ f2_ f3_; have f4_ := f1_.symm; have f5_ := f3_.symm; clear f1_ f2_ f3_; subst f4_; subst f5_))
                                      have p422 : 0 ≤ (0 : Int) := (by omega)
                                      have q422 : 0 < (x7_2.length : Int) := of_decide_eq_true (by first | (with_reducible assumption) | assumption)
                                      obtain ⟨ad422, e422, hx422_0, hx422_1⟩ := at_T47 (Kd.R_reads' HO_7.out).2.2 0 p422 q422
                                      cases e422
                                      have qi422 : (0 < x7_2.length) = True := eq_true (by omega)
                                      (try rw [show ((0 : Int)).toNat = 0 from rfl] at hx422_0)
                                      (try rw [show 0 * 2 = 0 from rfl] at hx422_0)
                                      (try rw [Addr.add_zero'] at hx422_0)
                                      (try rw [show ((0 : Int)).toNat = 0 from rfl] at hx422_1)
                                      (try rw [show 0 * 2 = 0 from rfl] at hx422_1)
                                      (try rw [Addr.add_zero'] at hx422_1)
                                      replace p422 := eq_true p422
                                      replace q422 := eq_true q422
                                      have p423 : 0 ≤ (0 : Int) := (by omega)
                                      have q423 : 0 < (x7_2.length : Int) := of_decide_eq_true (by first | (with_reducible assumption) | assumption)
                                      obtain ⟨ad423, e423, hx423_0, hx423_1⟩ := at_T47 (Kd.R_reads' HO_7.out).2.2 0 p423 q423
                                      obtain rfl : ad422 = ad423 := (by injection e423)
                                      have qi423 : (0 < x7_2.length) = True := eq_true (by omega)
                                      (try rw [show ((0 : Int)).toNat = 0 from rfl] at hx423_0)
                                      (try rw [show 0 * 2 = 0 from rfl] at hx423_0)
                                      (try rw [Addr.add_zero'] at hx423_0)
                                      (try rw [show ((0 : Int)).toNat = 0 from rfl] at hx423_1)
                                      (try rw [show 0 * 2 = 0 from rfl] at hx423_1)
                                      (try rw [Addr.add_zero'] at hx423_1)
                                      replace p423 := eq_true p423
                                      replace q423 := eq_true q423
                                      obtain ⟨Ao80, co80, eo80⟩ := Kd.R_slice HO_6.out
                                      (first | subst eo80 | (injection eo80 with f1_ f2_ f3_; have f4_ := f1_.symm; have f5_ := f3_.symm; clear f1_ f2_ f3_; subst f4_; subst f5_))
                                      refine start_ (n := 17) (S := fun w' => w'.cell? ad422 = some (.string ((rd_T47 x7_2 0).f0)) ∧ w'.cell? ⟨ad422.block, ad422.off + 1, none⟩ = some (.int .i64 ((rd_T47 x7_2 0).f1)) ∧ w'.cell? ad422 = some (.string ((rd_T47 x7_2 0).f0)) ∧ w'.cell? ⟨ad422.block, ad422.off + 1, none⟩ = some (.int .i64 ((rd_T47 x7_2 0).f1))) (ds := []) #[false, false, false, false, false, false, false, false, false, false, false, false, false, false, false, false, false] (by kernel_rfl) rfl rfl ⟨hx422_0, hx422_1, hx423_0, hx423_1⟩ (fun hHeld => ?_); refine with_tabW TO.tab14 TO.bits14 (fun HT_ HW_ => ?_)
                                      generalize wc.drew = w78 at HO_5 HO_6 HO_7 HB hx422_0 hx422_1 hx423_0 hx423_1 hHeld ⊢
                                      refine pure_ (i := 0) (N := some 65) (v := ?_) (a' := ?_) #[true, false, false, false, false, false, false, false, false, false, false, false, false, false, false, false, false] rfl rfl (any_of HT_.out (by kernel_rfl)) (fun _ _ _ h => h) (Or.inl ⟨by rfl, ?_⟩) ?_ ?_
                                      rotate_left
                                      · intro w'
                                        go_simp
                                        with_reducible rfl
                                      rotate_left
                                      · simp only [Act.put, List.setIfInBounds_toArray, List.set_cons_zero, List.set_cons_succ, i64_w, i32_w]
                                        rfl
                                      refine pure_ (i := 1) (N := some 66) (v := ?_) (a' := ?_) #[true, true, false, false, false, false, false, false, false, false, false, false, false, false, false, false, false] rfl rfl (any_of HT_.out (by kernel_rfl)) (fun _ _ _ h => h) (Or.inl ⟨by rfl, ?_⟩) ?_ ?_
                                      rotate_left
                                      · intro w'
                                        go_simp
                                        with_reducible rfl
                                      rotate_left
                                      · simp only [Act.put, List.setIfInBounds_toArray, List.set_cons_zero, List.set_cons_succ, i64_w, i32_w]
                                        rfl
                                      refine pure_ (i := 2) (N := some 67) (v := ?_) (a' := ?_) #[true, true, true, false, false, false, false, false, false, false, false, false, false, false, false, false, false] rfl rfl (any_of HT_.out (by kernel_rfl)) (fun _ _ _ h => h) (Or.inl ⟨by rfl, ?_⟩) ?_ ?_
                                      rotate_left
                                      · intro w'
                                        go_simp
                                        with_reducible rfl
                                      rotate_left
                                      · simp only [Act.put, List.setIfInBounds_toArray, List.set_cons_zero, List.set_cons_succ, i64_w, i32_w]
                                        rfl
                                      refine pure_ (i := 3) (N := some 68) (v := ?_) (a' := ?_) #[true, true, true, true, false, false, false, false, false, false, false, false, false, false, false, false, false] rfl rfl (any_of HT_.out (by kernel_rfl)) (fun _ _ _ h => h) (Or.inl ⟨by rfl, ?_⟩) ?_ ?_
                                      rotate_left
                                      · intro w'
                                        go_simp
                                        with_reducible rfl
                                      rotate_left
                                      · simp only [Act.put, List.setIfInBounds_toArray, List.set_cons_zero, List.set_cons_succ, i64_w, i32_w]
                                        rfl
                                      refine pure_ (i := 4) (N := some 69) (v := ?_) (a' := ?_) #[true, true, true, true, true, false, false, false, false, false, false, false, false, false, false, false, false] rfl rfl (any_of HT_.out (by kernel_rfl)) (fun _ _ _ h => h) (Or.inl ⟨by rfl, ?_⟩) ?_ ?_
                                      rotate_left
                                      · intro w'
                                        go_simp
                                        with_reducible rfl
                                      rotate_left
                                      · simp only [Act.put, List.setIfInBounds_toArray, List.set_cons_zero, List.set_cons_succ, i64_w, i32_w]
                                        rfl
                                      refine pure_ (i := 6) (N := some 71) (v := ?_) (a' := ?_) #[true, true, true, true, true, false, true, false, false, false, false, false, false, false, false, false, false] rfl rfl (any_of HT_.out (by kernel_rfl)) (fun _ _ _ h => h) (Or.inl ⟨by rfl, ?_⟩) ?_ ?_
                                      rotate_left
                                      · intro w'
                                        go_simp
                                        with_reducible rfl
                                      rotate_left
                                      · simp only [Act.put, List.setIfInBounds_toArray, List.set_cons_zero, List.set_cons_succ, i64_w, i32_w]
                                        rfl
                                      refine pure_ (i := 7) (N := some 72) (v := ?_) (a' := ?_) #[true, true, true, true, true, false, true, true, false, false, false, false, false, false, false, false, false] rfl rfl (any_of HT_.out (by kernel_rfl)) (fun _ _ _ h => h) (Or.inl ⟨by rfl, ?_⟩) ?_ ?_
                                      rotate_left
                                      · intro w'
                                        go_simp
                                        with_reducible rfl
                                      rotate_left
                                      · simp only [Act.put, List.setIfInBounds_toArray, List.set_cons_zero, List.set_cons_succ, i64_w, i32_w]
                                        rfl
                                      refine pure_ (i := 8) (N := some 73) (v := ?_) (a' := ?_) #[true, true, true, true, true, false, true, true, true, false, false, false, false, false, false, false, false] rfl rfl (any_of HT_.out (by kernel_rfl)) (fun _ _ _ h => h) (Or.inl ⟨by rfl, ?_⟩) ?_ ?_
                                      rotate_left
                                      · intro w'
                                        go_simp
                                        with_reducible rfl
                                      rotate_left
                                      · simp only [Act.put, List.setIfInBounds_toArray, List.set_cons_zero, List.set_cons_succ, i64_w, i32_w]
                                        rfl
                                      refine pure_ (i := 9) (N := some 74) (v := ?_) (a' := ?_) #[true, true, true, true, true, false, true, true, true, true, false, false, false, false, false, false, false] rfl rfl (any_of HT_.out (by kernel_rfl)) (fun _ _ _ h => h) (Or.inl ⟨by rfl, ?_⟩) ?_ ?_
                                      rotate_left
                                      · intro w'
                                        go_simp
                                        with_reducible rfl
                                      rotate_left
                                      · simp only [Act.put, List.setIfInBounds_toArray, List.set_cons_zero, List.set_cons_succ, i64_w, i32_w]
                                        rfl
                                      refine take_ (i := 5) (N := some 70) (v := ?_) (a' := ?_) #[true, true, true, true, true, true, true, true, true, true, false, false, false, false, false, false, false] rfl rfl (take_ofW HT_.out HW_.out (by kernel_rfl)) (fun _ _ _ h => h) (Or.inl ⟨by rfl, ?_⟩) hHeld ?_ ?_
                                      rotate_left
                                      · rintro w' ⟨s0, s1, s2, s3⟩
                                        go_simp
                                        with_reducible rfl
                                      rotate_left
                                      · simp only [Act.put, List.setIfInBounds_toArray, List.set_cons_zero, List.set_cons_succ, i64_w, i32_w]
                                        rfl
                                      refine take_ (i := 10) (N := some 75) (v := ?_) (a' := ?_) #[true, true, true, true, true, true, true, true, true, true, true, false, false, false, false, false, false] rfl rfl (take_ofW HT_.out HW_.out (by kernel_rfl)) (fun _ _ _ h => h) (Or.inl ⟨by rfl, ?_⟩) hHeld ?_ ?_
                                      rotate_left
                                      · rintro w' ⟨s0, s1, s2, s3⟩
                                        go_simp
                                        with_reducible rfl
                                      rotate_left
                                      · simp only [Act.put, List.setIfInBounds_toArray, List.set_cons_zero, List.set_cons_succ, i64_w, i32_w]
                                        rfl
                                      refine one_ (i := 11) (N := some 76) #[true, true, true, true, true, true, true, true, true, true, true, true, false, false, false, false, false] rfl rfl (one_of HT_.out (by kernel_rfl)) (by decide) (fun K hK => ?_)
                                      refine goes_ Try.func27 (by kernel_rfl) rfl #[.slice Ao80 x6_2.length co80, .string ((rd_T47 x7_2 0).f0), .int .i64 ((rd_T47 x7_2 0).f1)] (by rfl) rfl rfl (by (try simp only [List.map_toArray, List.map_cons, List.map_nil]); first | done | rfl | (simp only [List.length_drop, List.length_take]; rfl)) ?_
                                      with_reducible refine (tally_Add.calls _ _ x6_2 ((rd_T47 x7_2 0).f0) ((rd_T47 x7_2 0).f1) t424 t425 _ ?side1 ?side2 A70.out).mono ?_
                                      (case side1 => repeat (first | exact (Kd.R_reads' HO_6.out).2.2 | (with_reducible refine Kd.C_alloc ?_ _) | (with_reducible refine Kd.C_drewN ?_ _) | (with_reducible refine Kd.C_drew ?_)))
                                      (case side2 => exact (Kd.R_reads' HO_6.out).2.1)
                                      rintro e w81 ⟨v426, rfl, ho0, hb⟩
                                      have HS0_ := (hb.cell (World.block_lt_of_cell? _ _ (hHeld.1))).trans (hHeld.1)
                                      have HS1_ := (hb.cell (World.block_lt_of_cell? _ _ (hHeld.2.1))).trans (hHeld.2.1)
                                      have HS2_ := (hb.cell (World.block_lt_of_cell? _ _ (hHeld.2.2.1))).trans (hHeld.2.2.1)
                                      have HS3_ := (hb.cell (World.block_lt_of_cell? _ _ (hHeld.2.2.2))).trans (hHeld.2.2.2)
                                      refine ⟨_, rfl, ?_⟩
                                      have n0_ := a0m (Kd.R_elder' (by (with_reducible repeat (first | apply R_alloc | apply R_drewN | apply Kd.R_drew)); exact HO_5.out) (Kd.R_base ho0) hb)
                                      have n1_ := a0m (Kd.R_elder' (by (with_reducible repeat (first | apply R_alloc | apply R_drewN | apply Kd.R_drew)); exact HO_6.out) (Kd.R_base ho0) hb)
                                      have n2_ := a0m (Kd.R_elder' (by (with_reducible repeat (first | apply R_alloc | apply R_drewN | apply Kd.R_drew)); exact HO_7.out) (Kd.R_base ho0) hb)
                                      have n3_ := a0m (Kd.R_lower (Kd.R_new' (Kd.R_new' (Kd.R_new' ho0 (Kd.R_lt (by (with_reducible repeat (first | apply R_alloc | apply R_drewN | apply Kd.R_drew)); exact HO_5.out))) (Kd.R_lt (by (with_reducible repeat (first | apply R_alloc | apply R_drewN | apply Kd.R_drew)); exact HO_6.out))) (Kd.R_lt (by (with_reducible repeat (first | apply R_alloc | apply R_drewN | apply Kd.R_drew)); exact HO_7.out))) (below_size (by repeat (first | (with_reducible first | exact HB.out | apply below_alloc | apply pw_below_drewN | apply below_drew1) | exact HB.out))))
                                      have n4_ := a0m (below_step (by repeat (first | (with_reducible first | exact HB.out | apply below_alloc | apply pw_below_drewN | apply below_drew1) | exact HB.out)) hb)
                                      clear HO_5
                                      clear HO_6
                                      clear HO_7
                                      clear HB
                                      have HO_5 := n0_
                                      have HO_6 := n1_
                                      have HO_7 := n2_
                                      have HO427 := n3_
                                      have HB := n4_
                                      clear n0_ n1_ n2_ n3_ n4_
                                      (try clear hb)
                                      (try clear hb2)
                                      (try clear hk)
                                      (try clear hi)
                                      (try clear ho0)
                                      refine hK.out _ _ ⟨HS0_, HS1_, HS2_, HS3_⟩ (fun hHeld => ?_)
                                      clear hK K
                                      refine norm_ (a' := ?_) ?_ ?_
                                      rotate_left
                                      · show Act.put _ (some 76) _ = _
                                        simp only [Act.put, List.setIfInBounds_toArray, List.set_cons_zero, List.set_cons_succ, i64_w, i32_w]
                                        rfl
                                      refine pure_ (i := 12) (N := some 64) (v := ?_) (a' := ?_) #[true, true, true, true, true, true, true, true, true, true, true, true, true, false, false, false, false] rfl rfl (any_of HT_.out (by kernel_rfl)) (fun _ _ _ h => h) (Or.inl ⟨by rfl, ?_⟩) ?_ ?_
                                      rotate_left
                                      · intro w'
                                        go_simp
                                        with_reducible rfl
                                      rotate_left
                                      · simp only [Act.put, List.setIfInBounds_toArray, List.set_cons_zero, List.set_cons_succ, i64_w, i32_w]
                                        rfl
                                      refine pure_ (i := 13) (N := some 77) (v := ?_) (a' := ?_) #[true, true, true, true, true, true, true, true, true, true, true, true, true, true, false, false, false] rfl rfl (any_of HT_.out (by kernel_rfl)) (fun _ _ _ h => h) (Or.inl ⟨by rfl, ?_⟩) ?_ ?_
                                      rotate_left
                                      · intro w'
                                        go_simp
                                        with_reducible rfl
                                      rotate_left
                                      · simp only [Act.put, List.setIfInBounds_toArray, List.set_cons_zero, List.set_cons_succ, i64_w, i32_w]
                                        rfl
                                      refine pure_ (i := 14) (N := some 78) (v := ?_) (a' := ?_) #[true, true, true, true, true, true, true, true, true, true, true, true, true, true, true, false, false] rfl rfl (any_of HT_.out (by kernel_rfl)) (fun _ _ _ h => h) (Or.inl ⟨by rfl, ?_⟩) ?_ ?_
                                      rotate_left
                                      · intro w'
                                        go_simp
                                        with_reducible rfl
                                      rotate_left
                                      · simp only [Act.put, List.setIfInBounds_toArray, List.set_cons_zero, List.set_cons_succ, i64_w, i32_w]
                                        rfl
                                      refine pure_ (i := 15) (N := some 12) (v := ?_) (a' := ?_) #[true, true, true, true, true, true, true, true, true, true, true, true, true, true, true, true, false] rfl rfl (any_of HT_.out (by kernel_rfl)) (fun _ _ _ h => h) (Or.inl ⟨by rfl, ?_⟩) ?_ ?_
                                      rotate_left
                                      · intro w'
                                        go_simp
                                        with_reducible rfl
                                      rotate_left
                                      · simp only [Act.put, List.setIfInBounds_toArray, List.set_cons_zero, List.set_cons_succ, i64_w, i32_w]
                                        rfl
                                      refine pure_ (i := 16) (N := some 13) (v := ?_) (a' := ?_) #[true, true, true, true, true, true, true, true, true, true, true, true, true, true, true, true, true] rfl rfl (any_of HT_.out (by kernel_rfl)) (fun _ _ _ h => h) (Or.inl ⟨by rfl, ?_⟩) ?_ ?_
                                      rotate_left
                                      · intro w'
                                        go_simp
                                        with_reducible rfl
                                      rotate_left
                                      · simp only [Act.put, List.setIfInBounds_toArray, List.set_cons_zero, List.set_cons_succ, i64_w, i32_w]
                                        rfl
                                      refine done_ (done_of HT_.out (by kernel_rfl)) ?_
                                      try go_wp2
                                      have n0_ := a0m (Kd.R_drew HO_5.out)
                                      have n1_ := a0m (Kd.R_drew HO_6.out)
                                      have n2_ := a0m (Kd.R_drew HO_7.out)
                                      have n3_ := a0m (Kd.R_drew HO427.out)
                                      have n4_ := a0m (below_drew1 HB.out)
                                      clear HO_5
                                      clear HO_6
                                      clear HO_7
                                      clear HO427
                                      clear HB
                                      have HO_5 := n0_
                                      have HO_6 := n1_
                                      have HO_7 := n2_
                                      have HO427 := n3_
                                      have HB := n4_
                                      clear n0_ n1_ n2_ n3_ n4_
                                      have q83 : (0 : Int) ≤ ((x7_2.length : Int) : Int) := of_decide_eq_true (by first | (with_reducible assumption) | assumption)
                                      obtain ⟨i083, hi083, _, hsz83, _⟩ := info_parts info47
                                      have hroom83 : x7_2.length ≤ co79 := (Kd.R_reads' HO_7.out).2.1
                                      have hC83 : Kd.C k47 _ (some ad422) x7_2.length x7_2 := (Kd.R_reads' HO_7.out).2.2
                                      have hcut83 := cut_to (P := Try.prog) 42 47 .i64 Try.underlying42 hi083 (some ad422) x7_2.length co79 0 (by omega) q83 hroom83
                                      have hr83 := Kd.C_take (m := 0) hC83 (by omega)
                                      have hy83 : y431.length = (0 : Int).toNat := (by rw [Ny431.out, List.length_take]; omega)
                                      rw [← Ny431.out] at hr83
                                      rw [← hy83] at hcut83
                                      have HR434 := a0m hr83
                                      have HC434 := a0m (show y431.length ≤ co79 from by omega)
                                      clear hr83 hC83 hroom83 hi083 hsz83
                                      have KY83 := a0m hy83
                                      clear hy83
                                      have KL83 := a0m (show 0 ≤ x7_2.length from by omega)
                                      replace q83 := eq_true q83
                                      have q84 : ((ji74) : Int) ≤ ((x7_2.length : Int) : Int) := of_decide_eq_true (by first | (with_reducible assumption) | assumption)
                                      obtain ⟨i084, hi084, _, hsz84, _⟩ := info_parts info47
                                      have hroom84 : x7_2.length ≤ co79 := (Kd.R_reads' HO_7.out).2.1
                                      have hC84 : Kd.C k47 _ (some ad422) x7_2.length x7_2 := (Kd.R_reads' HO_7.out).2.2
                                      have q084 : (0 : Int) ≤ ((ji74) : Int) := of_decide_eq_true (by first | (with_reducible assumption) | assumption)
                                      have hcut84 := cut_from (P := Try.prog) 42 47 .i64 Try.underlying42 hi084 2 hsz84 (some ad422) x7_2.length co79 (ji74) q084 q84
                                      have hr84 := Kd.C_drop (m := ((ji74) : Int).toNat) (c := co79) hC84 (by omega) hroom84
                                      obtain ⟨A84, hA84⟩ : ∃ A1, A1 = (if co79 = ((ji74) : Int).toNat then (some ad422) else ((some ad422) : Option Addr).map (·.add (((ji74) : Int).toNat * 2))) := ⟨_, rfl⟩
                                      obtain ⟨c84, hc84⟩ : ∃ c1, c1 = co79 - ((ji74) : Int).toNat := ⟨_, rfl⟩
                                      have hy84 : y438.length = x7_2.length - ((ji74) : Int).toNat := (by rw [Ny438.out, List.length_drop] <;> omega)
                                      rw [show (x7_2).drop ((ji74) : Int).toNat = y438 from Ny438.out.symm] at hr84
                                      replace hr84 : Kd.C k47 _ A84 y438.length y438 := (by rw [hA84]; exact hr84)
                                      rw [← hy84, ← hA84, ← hc84] at hcut84
                                      have HR441 := a0m hr84
                                      have HC441 := a0m (show y438.length ≤ c84 from by rw [hy84, hc84]; exact Nat.sub_le_sub_right hroom84 _)
                                      clear hr84 hC84 hroom84 hi084 hsz84 hc84
                                      have KY84 := a0m hy84
                                      have KA84 := a0m hA84
                                      clear hy84 hA84
                                      have KL84 := a0m (show ((ji74) : Int).toNat ≤ x7_2.length from by omega)
                                      replace q84 := eq_true q84
                                      refine start_ (n := 11) (S := fun w' => True) (ds := []) #[false, false, false, false, false, false, false, false, false, false, false] (by kernel_rfl) rfl rfl trivial (fun hHeld => ?_); refine with_tabW TO.tab17 TO.bits17 (fun HT_ HW_ => ?_)
                                      generalize w81.drew = w82 at HO_5 HO_6 HO_7 HO427 HB HR434 HR441 hHeld ⊢
                                      refine pure_ (i := 1) (N := some 83) (v := ?_) (a' := ?_) #[false, true, false, false, false, false, false, false, false, false, false] rfl rfl (any_of HT_.out (by kernel_rfl)) (fun _ _ _ h => h) (Or.inl ⟨by rfl, ?_⟩) ?_ ?_
                                      rotate_left
                                      · intro w'
                                        go_simp
                                        with_reducible rfl
                                      rotate_left
                                      · simp only [Act.put, List.setIfInBounds_toArray, List.set_cons_zero, List.set_cons_succ, i64_w, i32_w]
                                        rfl
                                      refine pure_ (i := 2) (N := some 84) (v := ?_) (a' := ?_) #[false, true, true, false, false, false, false, false, false, false, false] rfl rfl (any_of HT_.out (by kernel_rfl)) (fun _ _ _ h => h) (Or.inl ⟨by rfl, ?_⟩) ?_ ?_
                                      rotate_left
                                      · intro w'
                                        go_simp
                                        with_reducible rfl
                                      rotate_left
                                      · simp only [Act.put, List.setIfInBounds_toArray, List.set_cons_zero, List.set_cons_succ, i64_w, i32_w]
                                        rfl
                                      refine pure_ (i := 3) (N := some 85) (v := ?_) (a' := ?_) #[false, true, true, true, false, false, false, false, false, false, false] rfl rfl (any_of HT_.out (by kernel_rfl)) (fun _ _ _ h => h) (Or.inl ⟨by rfl, ?_⟩) ?_ ?_
                                      rotate_left
                                      · intro w'
                                        go_simp
                                        with_reducible rfl
                                      rotate_left
                                      · simp only [Act.put, List.setIfInBounds_toArray, List.set_cons_zero, List.set_cons_succ, i64_w, i32_w]
                                        rfl
                                      refine pure_ (i := 5) (N := some 87) (v := ?_) (a' := ?_) #[false, true, true, true, false, true, false, false, false, false, false] rfl rfl (any_of HT_.out (by kernel_rfl)) (fun _ _ _ h => h) (Or.inl ⟨by rfl, ?_⟩) ?_ ?_
                                      rotate_left
                                      · intro w'
                                        go_simp
                                        with_reducible rfl
                                      rotate_left
                                      · simp only [Act.put, List.setIfInBounds_toArray, List.set_cons_zero, List.set_cons_succ, i64_w, i32_w]
                                        rfl
                                      refine pure_ (i := 6) (N := some 88) (v := ?_) (a' := ?_) #[false, true, true, true, false, true, true, false, false, false, false] rfl rfl (any_of HT_.out (by kernel_rfl)) (fun _ _ _ h => h) (Or.inl ⟨by rfl, ?_⟩) ?_ ?_
                                      rotate_left
                                      · intro w'
                                        go_simp
                                        with_reducible rfl
                                      rotate_left
                                      · simp only [Act.put, List.setIfInBounds_toArray, List.set_cons_zero, List.set_cons_succ, i64_w, i32_w]
                                        rfl
                                      refine pure_ (i := 7) (N := some 89) (v := ?_) (a' := ?_) #[false, true, true, true, false, true, true, true, false, false, false] rfl rfl (any_of HT_.out (by kernel_rfl)) (fun _ _ _ h => h) (Or.inl ⟨by rfl, ?_⟩) ?_ ?_
                                      rotate_left
                                      · intro w'
                                        go_simp
                                        with_reducible rfl
                                      rotate_left
                                      · simp only [Act.put, List.setIfInBounds_toArray, List.set_cons_zero, List.set_cons_succ, i64_w, i32_w]
                                        rfl
                                      refine pure_ (i := 8) (N := some 90) (v := ?_) (a' := ?_) #[false, true, true, true, false, true, true, true, true, false, false] rfl rfl (any_of HT_.out (by kernel_rfl)) (fun _ _ _ h => h) (Or.inl ⟨by rfl, ?_⟩) ?_ ?_
                                      rotate_left
                                      · intro w'
                                        go_simp
                                        with_reducible rfl
                                      rotate_left
                                      · simp only [Act.put, List.setIfInBounds_toArray, List.set_cons_zero, List.set_cons_succ, i64_w, i32_w]
                                        rfl
                                      refine one_ (i := 0) (N := some 82) #[true, true, true, true, false, true, true, true, true, false, false] rfl rfl (one_of HT_.out (by kernel_rfl)) (by decide) (fun K hK => ?_)
                                      refine Kd.R_lit_step k47 _ 47 ?hg (N := 82) ?hd (xs := ([] : List (S47))) (inner := []) (ok := fun _ => True) (okp := fun _ => True) ?hr ?hp (fun _ hk => hk) trivial (Below.refl _ _) (Nat.le_refl _) (by simp) ?_; (case hd => rfl); (case hg => rfl); (case hr => first | (go_simp; done) | (go_simp; rfl)); (case hp => exact (Reps.none _ _))
                                      intro v429 w85 ho86 hb hg_ hnew_
                                      clear hg_ hnew_
                                      (first | rw [← Ny428.out] at ho86 | (simp only [Int.reduceToNat] at ho86; rw [← Ny428.out] at ho86))
                                      have n0_ := a0m (Kd.R_elder' (by (with_reducible repeat (first | apply R_alloc | apply R_drewN | apply Kd.R_drew)); exact HO_5.out) (Kd.R_base ho86) hb)
                                      have n1_ := a0m (Kd.R_elder' (by (with_reducible repeat (first | apply R_alloc | apply R_drewN | apply Kd.R_drew)); exact HO_6.out) (Kd.R_base ho86) hb)
                                      have n2_ := a0m (Kd.R_elder' (by (with_reducible repeat (first | apply R_alloc | apply R_drewN | apply Kd.R_drew)); exact HO_7.out) (Kd.R_base ho86) hb)
                                      have n3_ := a0m (Kd.R_elder' (by (with_reducible repeat (first | apply R_alloc | apply R_drewN | apply Kd.R_drew)); exact HO427.out) (Kd.R_base ho86) hb)
                                      have n4_ := a0m (Kd.R_lower (Kd.R_new' (Kd.R_new' (Kd.R_new' (Kd.R_new' ho86 (Kd.R_lt (by (with_reducible repeat (first | apply R_alloc | apply R_drewN | apply Kd.R_drew)); exact HO_5.out))) (Kd.R_lt (by (with_reducible repeat (first | apply R_alloc | apply R_drewN | apply Kd.R_drew)); exact HO_6.out))) (Kd.R_lt (by (with_reducible repeat (first | apply R_alloc | apply R_drewN | apply Kd.R_drew)); exact HO_7.out))) (Kd.R_lt (by (with_reducible repeat (first | apply R_alloc | apply R_drewN | apply Kd.R_drew)); exact HO427.out))) (below_size (by repeat (first | (with_reducible first | exact HB.out | apply below_alloc | apply pw_below_drewN | apply below_drew1) | exact HB.out))))
                                      have n5_ := a0m (Kd.C_below (by repeat (first | (with_reducible exact HR434.out) | (with_reducible refine Kd.C_alloc ?_ _) | (with_reducible refine Kd.C_drewN ?_ _) | (with_reducible refine Kd.C_drew ?_) | exact HR434.out)) hb)
                                      have n6_ := a0m (Kd.C_below (by repeat (first | (with_reducible exact HR441.out) | (with_reducible refine Kd.C_alloc ?_ _) | (with_reducible refine Kd.C_drewN ?_ _) | (with_reducible refine Kd.C_drew ?_) | exact HR441.out)) hb)
                                      have n7_ := a0m (below_step (by repeat (first | (with_reducible first | exact HB.out | apply below_alloc | apply pw_below_drewN | apply below_drew1) | exact HB.out)) hb)
                                      clear HO_5
                                      clear HO_6
                                      clear HO_7
                                      clear HO427
                                      clear HR434
                                      clear HR441
                                      clear HB
                                      have HO_5 := n0_
                                      have HO_6 := n1_
                                      have HO_7 := n2_
                                      have HO427 := n3_
                                      have HO430 := n4_
                                      have HR434 := n5_
                                      have HR441 := n6_
                                      have HB := n7_
                                      clear n0_ n1_ n2_ n3_ n4_ n5_ n6_ n7_
                                      clear hb ho86
                                      refine hK.out _ _ trivial (fun hHeld => ?_)
                                      clear hK K
                                      refine norm_ (a' := ?_) ?_ ?_
                                      rotate_left
                                      · show Act.put _ (some 82) _ = _
                                        simp only [Act.put, List.setIfInBounds_toArray, List.set_cons_zero, List.set_cons_succ, i64_w, i32_w]
                                        rfl
                                      refine one_ (i := 4) (N := some 86) #[true, true, true, true, true, true, true, true, true, false, false] rfl rfl (one_of HT_.out (by kernel_rfl)) (by decide) (fun K hK => ?_)
                                      refine Kd.R_append_rows_step k47 (w0 := w) w.heap.size (by rfl) (.tmp 82) (.tmp 85) 42 47 (.agg #[(.string ⟨#[]⟩), (.int .i64 0)]) 24 rfl Try.underlying42 info47 rfl (by decide) (by omega) v429 y428 y431 _ _ _ (fun k_ => some k_ ≠ (u5 : Value).ownBlock ∧ some k_ ≠ (.slice Ao80 x6_2.length co80 : Value).ownBlock ∧ some k_ ≠ (.slice (some ad422) x7_2.length co79 : Value).ownBlock ∧ some k_ ≠ (v426 : Value).ownBlock) (fun _ => False) rfl rfl ?aO ?aR (fun _ _ h => h) (fun _ h => h.elim) ?aF ?aB ?aS ?aL ?_
                                      (case aR => repeat (first | exact (by repeat (first | (with_reducible exact HR434.out) | (with_reducible refine Kd.C_alloc ?_ _) | (with_reducible refine Kd.C_drewN ?_ _) | (with_reducible refine Kd.C_drew ?_) | exact HR434.out)) | (with_reducible refine Kd.C_alloc ?_ _) | (with_reducible refine Kd.C_drewN ?_ _) | (with_reducible refine Kd.C_drew ?_)))
                                      (case aB => exact (by repeat (first | (with_reducible first | exact HB.out | apply below_alloc | apply pw_below_drewN | apply below_drew1) | exact HB.out)))
                                      (case aF => exact (fun k_ hk => ⟨Kd.fresh' (Kd.R_lt (by (with_reducible repeat (first | apply R_alloc | apply R_drewN | apply Kd.R_drew)); exact HO_5.out)) k_ hk, Kd.fresh' (Kd.R_lt (by (with_reducible repeat (first | apply R_alloc | apply R_drewN | apply Kd.R_drew)); exact HO_6.out)) k_ hk, Kd.fresh' (Kd.R_lt (by (with_reducible repeat (first | apply R_alloc | apply R_drewN | apply Kd.R_drew)); exact HO_7.out)) k_ hk, Kd.fresh' (Kd.R_lt (by (with_reducible repeat (first | apply R_alloc | apply R_drewN | apply Kd.R_drew)); exact HO427.out)) k_ hk⟩))
                                      (case aO => exact (by (with_reducible repeat (first | apply R_alloc | apply R_drewN | apply Kd.R_drew)); exact Kd.R_mono HO430.out (fun _ hk => ⟨hk.1.1.1.2, ⟨hk.1.1.2, ⟨hk.1.2, hk.2⟩⟩⟩)))
                                      (case aS => exact (below_size (by repeat (first | (with_reducible first | exact HB.out | apply below_alloc | apply pw_below_drewN | apply below_drew1) | exact HB.out))))
                                      (case aL => have := LMc73.out; omega)
                                      intro v436 w87 ho hb hg hat
                                      rw [← Ny435.out] at ho
                                      have n0_ := a0m (Kd.R_after (ok := (fun k_ => some k_ ≠ (.slice Ao80 x6_2.length co80 : Value).ownBlock ∧ some k_ ≠ (.slice (some ad422) x7_2.length co79 : Value).ownBlock ∧ some k_ ≠ (v426 : Value).ownBlock)) (by (with_reducible repeat (first | apply R_alloc | apply R_drewN | apply Kd.R_drew)); exact Kd.R_mono HO_5.out (fun _ hk => ⟨⟨hk.1.1.1, ⟨hk.1.1.2, hk.1.2⟩⟩, hk.2⟩)) hg hat)
                                      have n1_ := a0m (Kd.R_after (ok := (fun k_ => some k_ ≠ (u5 : Value).ownBlock ∧ some k_ ≠ (.slice (some ad422) x7_2.length co79 : Value).ownBlock ∧ some k_ ≠ (v426 : Value).ownBlock)) (by (with_reducible repeat (first | apply R_alloc | apply R_drewN | apply Kd.R_drew)); exact Kd.R_mono HO_6.out (fun _ hk => ⟨⟨hk.1.1.1, ⟨hk.1.1.2, hk.1.2⟩⟩, hk.2⟩)) hg hat)
                                      have n2_ := a0m (Kd.R_after (ok := (fun k_ => some k_ ≠ (u5 : Value).ownBlock ∧ some k_ ≠ (.slice Ao80 x6_2.length co80 : Value).ownBlock ∧ some k_ ≠ (v426 : Value).ownBlock)) (by (with_reducible repeat (first | apply R_alloc | apply R_drewN | apply Kd.R_drew)); exact Kd.R_mono HO_7.out (fun _ hk => ⟨⟨hk.1.1.1, ⟨hk.1.1.2, hk.1.2⟩⟩, hk.2⟩)) hg hat)
                                      have n3_ := a0m (Kd.R_after (ok := (fun k_ => some k_ ≠ (u5 : Value).ownBlock ∧ some k_ ≠ (.slice Ao80 x6_2.length co80 : Value).ownBlock ∧ some k_ ≠ (.slice (some ad422) x7_2.length co79 : Value).ownBlock)) (by (with_reducible repeat (first | apply R_alloc | apply R_drewN | apply Kd.R_drew)); exact Kd.R_mono HO427.out (fun _ hk => ⟨⟨hk.1.1.1.2, ⟨hk.1.1.2, hk.1.2⟩⟩, hk.2⟩)) hg hat)
                                      have n4_ := a0m (hb)
                                      have n5_ := a0m ((show Kd.C k47 w87 (some ad422) y431.length y431 from by rw [Ny431.out]; exact Kd.C_take (m := 0) ((Kd.R_reads' (Kd.R_after (ok := (fun k_ => some k_ ≠ (u5 : Value).ownBlock ∧ some k_ ≠ (.slice Ao80 x6_2.length co80 : Value).ownBlock ∧ some k_ ≠ (v426 : Value).ownBlock)) (by (with_reducible repeat (first | apply R_alloc | apply R_drewN | apply Kd.R_drew)); exact Kd.R_mono HO_7.out (fun _ hk => ⟨⟨hk.1.1.1, ⟨hk.1.1.2, hk.1.2⟩⟩, hk.2⟩)) hg hat)).2.2) KL83.out))
                                      have n6_ := a0m ((show Kd.C k47 w87 A84 y438.length y438 from by rw [Ny438.out, KA84.out]; exact Kd.C_drop (m := ((ji74) : Int).toNat) (c := co79) ((Kd.R_reads' (Kd.R_after (ok := (fun k_ => some k_ ≠ (u5 : Value).ownBlock ∧ some k_ ≠ (.slice Ao80 x6_2.length co80 : Value).ownBlock ∧ some k_ ≠ (v426 : Value).ownBlock)) (by (with_reducible repeat (first | apply R_alloc | apply R_drewN | apply Kd.R_drew)); exact Kd.R_mono HO_7.out (fun _ hk => ⟨⟨hk.1.1.1, ⟨hk.1.1.2, hk.1.2⟩⟩, hk.2⟩)) hg hat)).2.2) KL84.out ((Kd.R_reads' (Kd.R_after (ok := (fun k_ => some k_ ≠ (u5 : Value).ownBlock ∧ some k_ ≠ (.slice Ao80 x6_2.length co80 : Value).ownBlock ∧ some k_ ≠ (v426 : Value).ownBlock)) (by (with_reducible repeat (first | apply R_alloc | apply R_drewN | apply Kd.R_drew)); exact Kd.R_mono HO_7.out (fun _ hk => ⟨⟨hk.1.1.1, ⟨hk.1.1.2, hk.1.2⟩⟩, hk.2⟩)) hg hat)).2.1)))
                                      have n7_ := a0m (ho)
                                      clear HO_5
                                      clear HO_6
                                      clear HO_7
                                      clear HO427
                                      clear HB
                                      clear HR434
                                      clear HR441
                                      clear HO430
                                      have HO_5 := n0_
                                      have HO_6 := n1_
                                      have HO_7 := n2_
                                      have HO427 := n3_
                                      have HB := n4_
                                      have HR434 := n5_
                                      have HR441 := n6_
                                      have HO437 := n7_
                                      clear n0_ n1_ n2_ n3_ n4_ n5_ n6_ n7_
                                      clear ho hb hg hat
                                      refine hK.out _ _ trivial (fun hHeld => ?_)
                                      clear hK K
                                      refine norm_ (a' := ?_) ?_ ?_
                                      rotate_left
                                      · show Act.put _ (some 86) _ = _
                                        simp only [Act.put, List.setIfInBounds_toArray, List.set_cons_zero, List.set_cons_succ, i64_w, i32_w]
                                        rfl
                                      refine one_ (i := 9) (N := some 91) #[true, true, true, true, true, true, true, true, true, true, false] rfl rfl (one_of HT_.out (by kernel_rfl)) (by decide) (fun K hK => ?_)
                                      refine Kd.R_append_rows_step k47 (w0 := w) w.heap.size (by rfl) (.tmp 86) (.tmp 90) 42 47 (.agg #[(.string ⟨#[]⟩), (.int .i64 0)]) 24 rfl Try.underlying42 info47 rfl (by decide) (by omega) v436 y435 y438 _ _ _ (fun k_ => some k_ ≠ (u5 : Value).ownBlock ∧ some k_ ≠ (.slice Ao80 x6_2.length co80 : Value).ownBlock ∧ some k_ ≠ (.slice (some ad422) x7_2.length co79 : Value).ownBlock ∧ some k_ ≠ (v426 : Value).ownBlock) (fun _ => False) rfl rfl ?aO ?aR (fun _ _ h => h) (fun _ h => h.elim) ?aF ?aB ?aS ?aL ?_
                                      (case aR => repeat (first | exact (by repeat (first | (with_reducible exact HR441.out) | (with_reducible refine Kd.C_alloc ?_ _) | (with_reducible refine Kd.C_drewN ?_ _) | (with_reducible refine Kd.C_drew ?_) | exact HR441.out)) | (with_reducible refine Kd.C_alloc ?_ _) | (with_reducible refine Kd.C_drewN ?_ _) | (with_reducible refine Kd.C_drew ?_)))
                                      (case aB => exact (by repeat (first | (with_reducible first | exact HB.out | apply below_alloc | apply pw_below_drewN | apply below_drew1) | exact HB.out)))
                                      (case aF => exact (fun k_ hk => ⟨Kd.fresh' (Kd.R_lt (by (with_reducible repeat (first | apply R_alloc | apply R_drewN | apply Kd.R_drew)); exact HO_5.out)) k_ hk, Kd.fresh' (Kd.R_lt (by (with_reducible repeat (first | apply R_alloc | apply R_drewN | apply Kd.R_drew)); exact HO_6.out)) k_ hk, Kd.fresh' (Kd.R_lt (by (with_reducible repeat (first | apply R_alloc | apply R_drewN | apply Kd.R_drew)); exact HO_7.out)) k_ hk, Kd.fresh' (Kd.R_lt (by (with_reducible repeat (first | apply R_alloc | apply R_drewN | apply Kd.R_drew)); exact HO427.out)) k_ hk⟩))
                                      (case aO => exact (by (with_reducible repeat (first | apply R_alloc | apply R_drewN | apply Kd.R_drew)); exact HO437.out))
                                      (case aS => exact (below_size (by repeat (first | (with_reducible first | exact HB.out | apply below_alloc | apply pw_below_drewN | apply below_drew1) | exact HB.out))))
                                      (case aL => have := LMc77.out; omega)
                                      intro v443 w88 ho hb hg hat
                                      rw [← Ny442.out] at ho
                                      have n0_ := a0m (Kd.R_after (ok := (fun k_ => some k_ ≠ (.slice Ao80 x6_2.length co80 : Value).ownBlock ∧ some k_ ≠ (.slice (some ad422) x7_2.length co79 : Value).ownBlock ∧ some k_ ≠ (v426 : Value).ownBlock)) (by (with_reducible repeat (first | apply R_alloc | apply R_drewN | apply Kd.R_drew)); exact HO_5.out) hg hat)
                                      have n1_ := a0m (Kd.R_after (ok := (fun k_ => some k_ ≠ (u5 : Value).ownBlock ∧ some k_ ≠ (.slice (some ad422) x7_2.length co79 : Value).ownBlock ∧ some k_ ≠ (v426 : Value).ownBlock)) (by (with_reducible repeat (first | apply R_alloc | apply R_drewN | apply Kd.R_drew)); exact HO_6.out) hg hat)
                                      have n2_ := a0m (Kd.R_after (ok := (fun k_ => some k_ ≠ (u5 : Value).ownBlock ∧ some k_ ≠ (.slice Ao80 x6_2.length co80 : Value).ownBlock ∧ some k_ ≠ (v426 : Value).ownBlock)) (by (with_reducible repeat (first | apply R_alloc | apply R_drewN | apply Kd.R_drew)); exact HO_7.out) hg hat)
                                      have n3_ := a0m (Kd.R_after (ok := (fun k_ => some k_ ≠ (u5 : Value).ownBlock ∧ some k_ ≠ (.slice Ao80 x6_2.length co80 : Value).ownBlock ∧ some k_ ≠ (.slice (some ad422) x7_2.length co79 : Value).ownBlock)) (by (with_reducible repeat (first | apply R_alloc | apply R_drewN | apply Kd.R_drew)); exact HO427.out) hg hat)
                                      have n4_ := a0m (hb)
                                      have n5_ := a0m ((show Kd.C k47 w88 (some ad422) y431.length y431 from by rw [Ny431.out]; exact Kd.C_take (m := 0) ((Kd.R_reads' (Kd.R_after (ok := (fun k_ => some k_ ≠ (u5 : Value).ownBlock ∧ some k_ ≠ (.slice Ao80 x6_2.length co80 : Value).ownBlock ∧ some k_ ≠ (v426 : Value).ownBlock)) (by (with_reducible repeat (first | apply R_alloc | apply R_drewN | apply Kd.R_drew)); exact HO_7.out) hg hat)).2.2) KL83.out))
                                      have n6_ := a0m ((show Kd.C k47 w88 A84 y438.length y438 from by rw [Ny438.out, KA84.out]; exact Kd.C_drop (m := ((ji74) : Int).toNat) (c := co79) ((Kd.R_reads' (Kd.R_after (ok := (fun k_ => some k_ ≠ (u5 : Value).ownBlock ∧ some k_ ≠ (.slice Ao80 x6_2.length co80 : Value).ownBlock ∧ some k_ ≠ (v426 : Value).ownBlock)) (by (with_reducible repeat (first | apply R_alloc | apply R_drewN | apply Kd.R_drew)); exact HO_7.out) hg hat)).2.2) KL84.out ((Kd.R_reads' (Kd.R_after (ok := (fun k_ => some k_ ≠ (u5 : Value).ownBlock ∧ some k_ ≠ (.slice Ao80 x6_2.length co80 : Value).ownBlock ∧ some k_ ≠ (v426 : Value).ownBlock)) (by (with_reducible repeat (first | apply R_alloc | apply R_drewN | apply Kd.R_drew)); exact HO_7.out) hg hat)).2.1)))
                                      have n7_ := a0m (ho)
                                      clear HO_5
                                      clear HO_6
                                      clear HO_7
                                      clear HO427
                                      clear HB
                                      clear HR434
                                      clear HR441
                                      clear HO437
                                      have HO_5 := n0_
                                      have HO_6 := n1_
                                      have HO_7 := n2_
                                      have HO427 := n3_
                                      have HB := n4_
                                      have HR434 := n5_
                                      have HR441 := n6_
                                      have HO444 := n7_
                                      clear n0_ n1_ n2_ n3_ n4_ n5_ n6_ n7_
                                      clear ho hb hg hat
                                      refine hK.out _ _ trivial (fun hHeld => ?_)
                                      clear hK K
                                      refine norm_ (a' := ?_) ?_ ?_
                                      rotate_left
                                      · show Act.put _ (some 91) _ = _
                                        simp only [Act.put, List.setIfInBounds_toArray, List.set_cons_zero, List.set_cons_succ, i64_w, i32_w]
                                        rfl
                                      refine pure_ (i := 10) (N := some 7) (v := ?_) (a' := ?_) #[true, true, true, true, true, true, true, true, true, true, true] rfl rfl (any_of HT_.out (by kernel_rfl)) (fun _ _ _ h => h) (Or.inl ⟨by rfl, ?_⟩) ?_ ?_
                                      rotate_left
                                      · intro w'
                                        go_simp
                                        with_reducible rfl
                                      rotate_left
                                      · simp only [Act.put, List.setIfInBounds_toArray, List.set_cons_zero, List.set_cons_succ, i64_w, i32_w]
                                        rfl
                                      refine done_ (done_of HT_.out (by kernel_rfl)) ?_
                                      try go_wp2
                                      go_roundg kj19
                                      case measure => have := HJ2.out; have := HK2.out; have := HJ19.out; omega
                                      case rel => exact ⟨(x5_19), (t424), (y442), (wrap64 (x8_2 + 1)), (by first | rfl | (simp; done) | (simp [*]; done)), H', ⟨by have := HJ2.out; have := HK2.out; have := HJ19.out; omega⟩, ⟨by (with_reducible repeat (first | apply R_alloc | apply R_drewN | apply Kd.R_drew)); exact Kd.R_mono HO_5.out (fun _ hk => ⟨hk.1.2.2, hk.2⟩)⟩, ⟨by (with_reducible repeat (first | apply R_alloc | apply R_drewN | apply Kd.R_drew)); exact Kd.R_mono HO427.out (fun _ hk => ⟨hk.1.1, hk.2⟩)⟩, ⟨by (with_reducible repeat (first | apply R_alloc | apply R_drewN | apply Kd.R_drew)); exact Kd.R_mono HO444.out (fun _ hk => ⟨hk.1, hk.2.2.2⟩)⟩, ⟨by repeat (first | (with_reducible first | exact HB.out | apply below_alloc | apply pw_below_drewN | apply below_drew1) | exact HB.out)⟩⟩
                                    · rw [if_neg c77] at H
                                      exact absurd H (by simp)
                                  · rw [if_neg c76] at H
                                    exact absurd H (by simp)
                                · rw [if_neg c75] at H
                                  exact absurd H (by simp)
                              · rw [if_neg c73] at H
                                exact absurd H (by simp)
                            · rw [if_neg c72] at H
                              exact absurd H (by simp)
                          · rw [if_neg c71] at H
                            have c71b0 : (t425 == 0) = false := beq_eq_false_iff_ne.mpr c71
                            have c71b1 : (t425 != 0) = true := bne_iff_ne.mpr c71
                            obtain ⟨y445, hy445⟩ : ∃ y_ : List (S47), y_ = (([] : List (S47))) := ⟨_, rfl⟩
                            replace H : (if 0 ≤ (x7_2.length : Int) then ((some (x7_2.take 0 : List (S47))).bind fun y448 => (if y445.length + y448.length < 5864062014805 then ((some (y445 ++ y448 : List (S47))).bind fun y452 => (if (0 : Int) ≤ (0 + 1) then (if (0 + 1 : Int) ≤ (x7_2.length : Int) then ((some (x7_2.drop ((0 + 1) : Int).toNat : List (S47))).bind fun y455 => (if y452.length + y455.length < 5864062014805 then (TO.l0 kj19 l0 l1 x5_19 x6_2 (y452 ++ y455) (wrap64 (x8_2 + 1))) else (none))) else (none)) else (none))) else (none))) else (none)) = some r := by first | (rw [hy445]; with_reducible exact H) | (have H2_ := (Option.bind_some _ _).symm.trans H; rw [hy445]; with_reducible exact H2_) | (have H2_ := (Option.bind_some _ _).symm.trans H; with_reducible exact H2_) | with_reducible exact H | (rw [hy445]; exact H) | exact H
                            have Ny445 := a0m hy445
                            clear hy445
                            by_cases c89 : 0 ≤ (x7_2.length : Int)
                            · rw [if_pos c89] at H
                              have c89b0 := eq_true c89
                              have c89b1 : decide (0 ≤ (x7_2.length : Int)) = true := decide_eq_true c89
                              clear c89
                              obtain ⟨y448, hy448⟩ : ∃ y_ : List (S47), y_ = (x7_2.take 0) := ⟨_, rfl⟩
                              replace H : (if y445.length + y448.length < 5864062014805 then ((some (y445 ++ y448 : List (S47))).bind fun y452 => (if (0 : Int) ≤ (0 + 1) then (if (0 + 1 : Int) ≤ (x7_2.length : Int) then ((some (x7_2.drop ((0 + 1) : Int).toNat : List (S47))).bind fun y455 => (if y452.length + y455.length < 5864062014805 then (TO.l0 kj19 l0 l1 x5_19 x6_2 (y452 ++ y455) (wrap64 (x8_2 + 1))) else (none))) else (none)) else (none))) else (none)) = some r := by first | (rw [hy448]; with_reducible exact H) | (have H2_ := (Option.bind_some _ _).symm.trans H; rw [hy448]; with_reducible exact H2_) | (have H2_ := (Option.bind_some _ _).symm.trans H; with_reducible exact H2_) | with_reducible exact H | (rw [hy448]; exact H) | exact H
                              have Ny448 := a0m hy448
                              clear hy448
                              by_cases c90 : y445.length + y448.length < 5864062014805
                              · rw [if_pos c90] at H
                                have LMc90 := a0m c90
                                clear c90
                                obtain ⟨y452, hy452⟩ : ∃ y_ : List (S47), y_ = (y445 ++ y448) := ⟨_, rfl⟩
                                replace H : (if (0 : Int) ≤ (0 + 1) then (if (0 + 1 : Int) ≤ (x7_2.length : Int) then ((some (x7_2.drop ((0 + 1) : Int).toNat : List (S47))).bind fun y455 => (if y452.length + y455.length < 5864062014805 then (TO.l0 kj19 l0 l1 x5_19 x6_2 (y452 ++ y455) (wrap64 (x8_2 + 1))) else (none))) else (none)) else (none)) = some r := by first | (rw [hy452]; with_reducible exact H) | (have H2_ := (Option.bind_some _ _).symm.trans H; rw [hy452]; with_reducible exact H2_) | (have H2_ := (Option.bind_some _ _).symm.trans H; with_reducible exact H2_) | with_reducible exact H | (rw [hy452]; exact H) | exact H
                                have Ny452 := a0m hy452
                                clear hy452
                                obtain ⟨ji91, hji91⟩ : ∃ j_ : Int, (0 + 1 : Int) = j_ := ⟨_, rfl⟩
                                have hwji91 : wrap64 ji91 = ji91 := by rw [← hji91]; unfold wrap64; omega
                                replace H : (if 0 ≤ (ji91) then (if (ji91) ≤ (x7_2.length : Int) then ((some (x7_2.drop ((ji91) : Int).toNat : List (S47))).bind fun y455 => (if y452.length + y455.length < 5864062014805 then (TO.l0 kj19 l0 l1 x5_19 x6_2 (y452 ++ y455) (wrap64 (x8_2 + 1))) else (none))) else (none)) else (none)) = some r := by first | (rw [hji91] at H; exact H) | (simp only [hji91] at H ⊢; exact H)
                                (try rw [hji91] at A70)
                                by_cases c92 : 0 ≤ (ji91)
                                · rw [if_pos c92] at H
                                  have c92b0 := eq_true c92
                                  have c92b1 : decide (0 ≤ (ji91)) = true := decide_eq_true c92
                                  clear c92
                                  by_cases c93 : (ji91) ≤ (x7_2.length : Int)
                                  · rw [if_pos c93] at H
                                    have c93b0 := eq_true c93
                                    have c93b1 : decide ((ji91) ≤ (x7_2.length : Int)) = true := decide_eq_true c93
                                    clear c93
                                    obtain ⟨y455, hy455⟩ : ∃ y_ : List (S47), y_ = (x7_2.drop ((ji91) : Int).toNat) := ⟨_, rfl⟩
                                    replace H : (if y452.length + y455.length < 5864062014805 then (TO.l0 kj19 l0 l1 x5_19 x6_2 (y452 ++ y455) (wrap64 (x8_2 + 1))) else (none)) = some r := by first | (rw [hy455]; with_reducible exact H) | (have H2_ := (Option.bind_some _ _).symm.trans H; rw [hy455]; with_reducible exact H2_) | (have H2_ := (Option.bind_some _ _).symm.trans H; with_reducible exact H2_) | with_reducible exact H | (rw [hy455]; exact H) | exact H
                                    have Ny455 := a0m hy455
                                    clear hy455
                                    by_cases c94 : y452.length + y455.length < 5864062014805
                                    · rw [if_pos c94] at H
                                      have LMc94 := a0m c94
                                      clear c94
                                      obtain ⟨y459, hy459⟩ : ∃ y_ : List (S47), y_ = (y452 ++ y455) := ⟨_, rfl⟩
                                      replace H : (TO.l0 kj19 l0 l1 x5_19 x6_2 y459 (wrap64 (x8_2 + 1))) = some r := by first | (rw [hy459]; with_reducible exact H) | (have H2_ := (Option.bind_some _ _).symm.trans H; rw [hy459]; with_reducible exact H2_) | (have H2_ := (Option.bind_some _ _).symm.trans H; with_reducible exact H2_) | with_reducible exact H | (rw [hy459]; exact H) | exact H
                                      have Ny459 := a0m hy459
                                      clear hy459
                                      have H' := a0m H
                                      clear H
                                      try go_wp2
                                      have n0_ := a0m (Kd.R_drew HO_5.out)
                                      have n1_ := a0m (Kd.R_drew HO_6.out)
                                      have n2_ := a0m (Kd.R_drew HO_7.out)
                                      have n3_ := a0m (below_drew1 HB.out)
                                      clear HO_5
                                      clear HO_6
                                      clear HO_7
                                      clear HB
                                      have HO_5 := n0_
                                      have HO_6 := n1_
                                      have HO_7 := n2_
                                      have HB := n3_
                                      clear n0_ n1_ n2_ n3_
                                      obtain ⟨Ao96, co96, eo96⟩ := Kd.R_slice HO_7.out
                                      (first | subst eo96 | (injection eo96 with f1_ f2_ f3_; have f4_ := f1_.symm; have f5_ := f3_.symm; clear f1_ f2_ f3_; subst f4_; subst f5_))
                                      have p422 : 0 ≤ (0 : Int) := (by omega)
                                      have q422 : 0 < (x7_2.length : Int) := of_decide_eq_true (by first | (with_reducible assumption) | assumption)
                                      obtain ⟨ad422, e422, hx422_0, hx422_1⟩ := at_T47 (Kd.R_reads' HO_7.out).2.2 0 p422 q422
                                      cases e422
                                      have qi422 : (0 < x7_2.length) = True := eq_true (by omega)
                                      (try rw [show ((0 : Int)).toNat = 0 from rfl] at hx422_0)
                                      (try rw [show 0 * 2 = 0 from rfl] at hx422_0)
                                      (try rw [Addr.add_zero'] at hx422_0)
                                      (try rw [show ((0 : Int)).toNat = 0 from rfl] at hx422_1)
                                      (try rw [show 0 * 2 = 0 from rfl] at hx422_1)
                                      (try rw [Addr.add_zero'] at hx422_1)
                                      replace p422 := eq_true p422
                                      replace q422 := eq_true q422
                                      have p423 : 0 ≤ (0 : Int) := (by omega)
                                      have q423 : 0 < (x7_2.length : Int) := of_decide_eq_true (by first | (with_reducible assumption) | assumption)
                                      obtain ⟨ad423, e423, hx423_0, hx423_1⟩ := at_T47 (Kd.R_reads' HO_7.out).2.2 0 p423 q423
                                      obtain rfl : ad422 = ad423 := (by injection e423)
                                      have qi423 : (0 < x7_2.length) = True := eq_true (by omega)
                                      (try rw [show ((0 : Int)).toNat = 0 from rfl] at hx423_0)
                                      (try rw [show 0 * 2 = 0 from rfl] at hx423_0)
                                      (try rw [Addr.add_zero'] at hx423_0)
                                      (try rw [show ((0 : Int)).toNat = 0 from rfl] at hx423_1)
                                      (try rw [show 0 * 2 = 0 from rfl] at hx423_1)
                                      (try rw [Addr.add_zero'] at hx423_1)
                                      replace p423 := eq_true p423
                                      replace q423 := eq_true q423
                                      obtain ⟨Ao97, co97, eo97⟩ := Kd.R_slice HO_6.out
                                      (first | subst eo97 | (injection eo97 with f1_ f2_ f3_; have f4_ := f1_.symm; have f5_ := f3_.symm; clear f1_ f2_ f3_; subst f4_; subst f5_))
                                      refine start_ (n := 17) (S := fun w' => w'.cell? ad422 = some (.string ((rd_T47 x7_2 0).f0)) ∧ w'.cell? ⟨ad422.block, ad422.off + 1, none⟩ = some (.int .i64 ((rd_T47 x7_2 0).f1)) ∧ w'.cell? ad422 = some (.string ((rd_T47 x7_2 0).f0)) ∧ w'.cell? ⟨ad422.block, ad422.off + 1, none⟩ = some (.int .i64 ((rd_T47 x7_2 0).f1))) (ds := []) #[false, false, false, false, false, false, false, false, false, false, false, false, false, false, false, false, false] (by kernel_rfl) rfl rfl ⟨hx422_0, hx422_1, hx423_0, hx423_1⟩ (fun hHeld => ?_); refine with_tabW TO.tab14 TO.bits14 (fun HT_ HW_ => ?_)
                                      generalize wc.drew = w95 at HO_5 HO_6 HO_7 HB hx422_0 hx422_1 hx423_0 hx423_1 hHeld ⊢
                                      refine pure_ (i := 0) (N := some 65) (v := ?_) (a' := ?_) #[true, false, false, false, false, false, false, false, false, false, false, false, false, false, false, false, false] rfl rfl (any_of HT_.out (by kernel_rfl)) (fun _ _ _ h => h) (Or.inl ⟨by rfl, ?_⟩) ?_ ?_
                                      rotate_left
                                      · intro w'
                                        go_simp
                                        with_reducible rfl
                                      rotate_left
                                      · simp only [Act.put, List.setIfInBounds_toArray, List.set_cons_zero, List.set_cons_succ, i64_w, i32_w]
                                        rfl
                                      refine pure_ (i := 1) (N := some 66) (v := ?_) (a' := ?_) #[true, true, false, false, false, false, false, false, false, false, false, false, false, false, false, false, false] rfl rfl (any_of HT_.out (by kernel_rfl)) (fun _ _ _ h => h) (Or.inl ⟨by rfl, ?_⟩) ?_ ?_
                                      rotate_left
                                      · intro w'
                                        go_simp
                                        with_reducible rfl
                                      rotate_left
                                      · simp only [Act.put, List.setIfInBounds_toArray, List.set_cons_zero, List.set_cons_succ, i64_w, i32_w]
                                        rfl
                                      refine pure_ (i := 2) (N := some 67) (v := ?_) (a' := ?_) #[true, true, true, false, false, false, false, false, false, false, false, false, false, false, false, false, false] rfl rfl (any_of HT_.out (by kernel_rfl)) (fun _ _ _ h => h) (Or.inl ⟨by rfl, ?_⟩) ?_ ?_
                                      rotate_left
                                      · intro w'
                                        go_simp
                                        with_reducible rfl
                                      rotate_left
                                      · simp only [Act.put, List.setIfInBounds_toArray, List.set_cons_zero, List.set_cons_succ, i64_w, i32_w]
                                        rfl
                                      refine pure_ (i := 3) (N := some 68) (v := ?_) (a' := ?_) #[true, true, true, true, false, false, false, false, false, false, false, false, false, false, false, false, false] rfl rfl (any_of HT_.out (by kernel_rfl)) (fun _ _ _ h => h) (Or.inl ⟨by rfl, ?_⟩) ?_ ?_
                                      rotate_left
                                      · intro w'
                                        go_simp
                                        with_reducible rfl
                                      rotate_left
                                      · simp only [Act.put, List.setIfInBounds_toArray, List.set_cons_zero, List.set_cons_succ, i64_w, i32_w]
                                        rfl
                                      refine pure_ (i := 4) (N := some 69) (v := ?_) (a' := ?_) #[true, true, true, true, true, false, false, false, false, false, false, false, false, false, false, false, false] rfl rfl (any_of HT_.out (by kernel_rfl)) (fun _ _ _ h => h) (Or.inl ⟨by rfl, ?_⟩) ?_ ?_
                                      rotate_left
                                      · intro w'
                                        go_simp
                                        with_reducible rfl
                                      rotate_left
                                      · simp only [Act.put, List.setIfInBounds_toArray, List.set_cons_zero, List.set_cons_succ, i64_w, i32_w]
                                        rfl
                                      refine pure_ (i := 6) (N := some 71) (v := ?_) (a' := ?_) #[true, true, true, true, true, false, true, false, false, false, false, false, false, false, false, false, false] rfl rfl (any_of HT_.out (by kernel_rfl)) (fun _ _ _ h => h) (Or.inl ⟨by rfl, ?_⟩) ?_ ?_
                                      rotate_left
                                      · intro w'
                                        go_simp
                                        with_reducible rfl
                                      rotate_left
                                      · simp only [Act.put, List.setIfInBounds_toArray, List.set_cons_zero, List.set_cons_succ, i64_w, i32_w]
                                        rfl
                                      refine pure_ (i := 7) (N := some 72) (v := ?_) (a' := ?_) #[true, true, true, true, true, false, true, true, false, false, false, false, false, false, false, false, false] rfl rfl (any_of HT_.out (by kernel_rfl)) (fun _ _ _ h => h) (Or.inl ⟨by rfl, ?_⟩) ?_ ?_
                                      rotate_left
                                      · intro w'
                                        go_simp
                                        with_reducible rfl
                                      rotate_left
                                      · simp only [Act.put, List.setIfInBounds_toArray, List.set_cons_zero, List.set_cons_succ, i64_w, i32_w]
                                        rfl
                                      refine pure_ (i := 8) (N := some 73) (v := ?_) (a' := ?_) #[true, true, true, true, true, false, true, true, true, false, false, false, false, false, false, false, false] rfl rfl (any_of HT_.out (by kernel_rfl)) (fun _ _ _ h => h) (Or.inl ⟨by rfl, ?_⟩) ?_ ?_
                                      rotate_left
                                      · intro w'
                                        go_simp
                                        with_reducible rfl
                                      rotate_left
                                      · simp only [Act.put, List.setIfInBounds_toArray, List.set_cons_zero, List.set_cons_succ, i64_w, i32_w]
                                        rfl
                                      refine pure_ (i := 9) (N := some 74) (v := ?_) (a' := ?_) #[true, true, true, true, true, false, true, true, true, true, false, false, false, false, false, false, false] rfl rfl (any_of HT_.out (by kernel_rfl)) (fun _ _ _ h => h) (Or.inl ⟨by rfl, ?_⟩) ?_ ?_
                                      rotate_left
                                      · intro w'
                                        go_simp
                                        with_reducible rfl
                                      rotate_left
                                      · simp only [Act.put, List.setIfInBounds_toArray, List.set_cons_zero, List.set_cons_succ, i64_w, i32_w]
                                        rfl
                                      refine take_ (i := 5) (N := some 70) (v := ?_) (a' := ?_) #[true, true, true, true, true, true, true, true, true, true, false, false, false, false, false, false, false] rfl rfl (take_ofW HT_.out HW_.out (by kernel_rfl)) (fun _ _ _ h => h) (Or.inl ⟨by rfl, ?_⟩) hHeld ?_ ?_
                                      rotate_left
                                      · rintro w' ⟨s0, s1, s2, s3⟩
                                        go_simp
                                        with_reducible rfl
                                      rotate_left
                                      · simp only [Act.put, List.setIfInBounds_toArray, List.set_cons_zero, List.set_cons_succ, i64_w, i32_w]
                                        rfl
                                      refine take_ (i := 10) (N := some 75) (v := ?_) (a' := ?_) #[true, true, true, true, true, true, true, true, true, true, true, false, false, false, false, false, false] rfl rfl (take_ofW HT_.out HW_.out (by kernel_rfl)) (fun _ _ _ h => h) (Or.inl ⟨by rfl, ?_⟩) hHeld ?_ ?_
                                      rotate_left
                                      · rintro w' ⟨s0, s1, s2, s3⟩
                                        go_simp
                                        with_reducible rfl
                                      rotate_left
                                      · simp only [Act.put, List.setIfInBounds_toArray, List.set_cons_zero, List.set_cons_succ, i64_w, i32_w]
                                        rfl
                                      refine one_ (i := 11) (N := some 76) #[true, true, true, true, true, true, true, true, true, true, true, true, false, false, false, false, false] rfl rfl (one_of HT_.out (by kernel_rfl)) (by decide) (fun K hK => ?_)
                                      refine goes_ Try.func27 (by kernel_rfl) rfl #[.slice Ao97 x6_2.length co97, .string ((rd_T47 x7_2 0).f0), .int .i64 ((rd_T47 x7_2 0).f1)] (by rfl) rfl rfl (by (try simp only [List.map_toArray, List.map_cons, List.map_nil]); first | done | rfl | (simp only [List.length_drop, List.length_take]; rfl)) ?_
                                      with_reducible refine (tally_Add.calls _ _ x6_2 ((rd_T47 x7_2 0).f0) ((rd_T47 x7_2 0).f1) t424 t425 _ ?side1 ?side2 A70.out).mono ?_
                                      (case side1 => repeat (first | exact (Kd.R_reads' HO_6.out).2.2 | (with_reducible refine Kd.C_alloc ?_ _) | (with_reducible refine Kd.C_drewN ?_ _) | (with_reducible refine Kd.C_drew ?_)))
                                      (case side2 => exact (Kd.R_reads' HO_6.out).2.1)
                                      rintro e w98 ⟨v426, rfl, ho0, hb⟩
                                      have HS0_ := (hb.cell (World.block_lt_of_cell? _ _ (hHeld.1))).trans (hHeld.1)
                                      have HS1_ := (hb.cell (World.block_lt_of_cell? _ _ (hHeld.2.1))).trans (hHeld.2.1)
                                      have HS2_ := (hb.cell (World.block_lt_of_cell? _ _ (hHeld.2.2.1))).trans (hHeld.2.2.1)
                                      have HS3_ := (hb.cell (World.block_lt_of_cell? _ _ (hHeld.2.2.2))).trans (hHeld.2.2.2)
                                      refine ⟨_, rfl, ?_⟩
                                      have n0_ := a0m (Kd.R_elder' (by (with_reducible repeat (first | apply R_alloc | apply R_drewN | apply Kd.R_drew)); exact HO_5.out) (Kd.R_base ho0) hb)
                                      have n1_ := a0m (Kd.R_elder' (by (with_reducible repeat (first | apply R_alloc | apply R_drewN | apply Kd.R_drew)); exact HO_6.out) (Kd.R_base ho0) hb)
                                      have n2_ := a0m (Kd.R_elder' (by (with_reducible repeat (first | apply R_alloc | apply R_drewN | apply Kd.R_drew)); exact HO_7.out) (Kd.R_base ho0) hb)
                                      have n3_ := a0m (Kd.R_lower (Kd.R_new' (Kd.R_new' (Kd.R_new' ho0 (Kd.R_lt (by (with_reducible repeat (first | apply R_alloc | apply R_drewN | apply Kd.R_drew)); exact HO_5.out))) (Kd.R_lt (by (with_reducible repeat (first | apply R_alloc | apply R_drewN | apply Kd.R_drew)); exact HO_6.out))) (Kd.R_lt (by (with_reducible repeat (first | apply R_alloc | apply R_drewN | apply Kd.R_drew)); exact HO_7.out))) (below_size (by repeat (first | (with_reducible first | exact HB.out | apply below_alloc | apply pw_below_drewN | apply below_drew1) | exact HB.out))))
                                      have n4_ := a0m (below_step (by repeat (first | (with_reducible first | exact HB.out | apply below_alloc | apply pw_below_drewN | apply below_drew1) | exact HB.out)) hb)
                                      clear HO_5
                                      clear HO_6
                                      clear HO_7
                                      clear HB
                                      have HO_5 := n0_
                                      have HO_6 := n1_
                                      have HO_7 := n2_
                                      have HO427 := n3_
                                      have HB := n4_
                                      clear n0_ n1_ n2_ n3_ n4_
                                      (try clear hb)
                                      (try clear hb2)
                                      (try clear hk)
                                      (try clear hi)
                                      (try clear ho0)
                                      refine hK.out _ _ ⟨HS0_, HS1_, HS2_, HS3_⟩ (fun hHeld => ?_)
                                      clear hK K
                                      refine norm_ (a' := ?_) ?_ ?_
                                      rotate_left
                                      · show Act.put _ (some 76) _ = _
                                        simp only [Act.put, List.setIfInBounds_toArray, List.set_cons_zero, List.set_cons_succ, i64_w, i32_w]
                                        rfl
                                      refine pure_ (i := 12) (N := some 64) (v := ?_) (a' := ?_) #[true, true, true, true, true, true, true, true, true, true, true, true, true, false, false, false, false] rfl rfl (any_of HT_.out (by kernel_rfl)) (fun _ _ _ h => h) (Or.inl ⟨by rfl, ?_⟩) ?_ ?_
                                      rotate_left
                                      · intro w'
                                        go_simp
                                        with_reducible rfl
                                      rotate_left
                                      · simp only [Act.put, List.setIfInBounds_toArray, List.set_cons_zero, List.set_cons_succ, i64_w, i32_w]
                                        rfl
                                      refine pure_ (i := 13) (N := some 77) (v := ?_) (a' := ?_) #[true, true, true, true, true, true, true, true, true, true, true, true, true, true, false, false, false] rfl rfl (any_of HT_.out (by kernel_rfl)) (fun _ _ _ h => h) (Or.inl ⟨by rfl, ?_⟩) ?_ ?_
                                      rotate_left
                                      · intro w'
                                        go_simp
                                        with_reducible rfl
                                      rotate_left
                                      · simp only [Act.put, List.setIfInBounds_toArray, List.set_cons_zero, List.set_cons_succ, i64_w, i32_w]
                                        rfl
                                      refine pure_ (i := 14) (N := some 78) (v := ?_) (a' := ?_) #[true, true, true, true, true, true, true, true, true, true, true, true, true, true, true, false, false] rfl rfl (any_of HT_.out (by kernel_rfl)) (fun _ _ _ h => h) (Or.inl ⟨by rfl, ?_⟩) ?_ ?_
                                      rotate_left
                                      · intro w'
                                        go_simp
                                        with_reducible rfl
                                      rotate_left
                                      · simp only [Act.put, List.setIfInBounds_toArray, List.set_cons_zero, List.set_cons_succ, i64_w, i32_w]
                                        rfl
                                      refine pure_ (i := 15) (N := some 12) (v := ?_) (a' := ?_) #[true, true, true, true, true, true, true, true, true, true, true, true, true, true, true, true, false] rfl rfl (any_of HT_.out (by kernel_rfl)) (fun _ _ _ h => h) (Or.inl ⟨by rfl, ?_⟩) ?_ ?_
                                      rotate_left
                                      · intro w'
                                        go_simp
                                        with_reducible rfl
                                      rotate_left
                                      · simp only [Act.put, List.setIfInBounds_toArray, List.set_cons_zero, List.set_cons_succ, i64_w, i32_w]
                                        rfl
                                      refine pure_ (i := 16) (N := some 13) (v := ?_) (a' := ?_) #[true, true, true, true, true, true, true, true, true, true, true, true, true, true, true, true, true] rfl rfl (any_of HT_.out (by kernel_rfl)) (fun _ _ _ h => h) (Or.inl ⟨by rfl, ?_⟩) ?_ ?_
                                      rotate_left
                                      · intro w'
                                        go_simp
                                        with_reducible rfl
                                      rotate_left
                                      · simp only [Act.put, List.setIfInBounds_toArray, List.set_cons_zero, List.set_cons_succ, i64_w, i32_w]
                                        rfl
                                      refine done_ (done_of HT_.out (by kernel_rfl)) ?_
                                      try go_wp2
                                      have n0_ := a0m (Kd.R_drew HO_5.out)
                                      have n1_ := a0m (Kd.R_drew HO_6.out)
                                      have n2_ := a0m (Kd.R_drew HO_7.out)
                                      have n3_ := a0m (Kd.R_drew HO427.out)
                                      have n4_ := a0m (below_drew1 HB.out)
                                      clear HO_5
                                      clear HO_6
                                      clear HO_7
                                      clear HO427
                                      clear HB
                                      have HO_5 := n0_
                                      have HO_6 := n1_
                                      have HO_7 := n2_
                                      have HO427 := n3_
                                      have HB := n4_
                                      clear n0_ n1_ n2_ n3_ n4_
                                      have q100 : (0 : Int) ≤ ((x7_2.length : Int) : Int) := of_decide_eq_true (by first | (with_reducible assumption) | assumption)
                                      obtain ⟨i0100, hi0100, _, hsz100, _⟩ := info_parts info47
                                      have hroom100 : x7_2.length ≤ co96 := (Kd.R_reads' HO_7.out).2.1
                                      have hC100 : Kd.C k47 _ (some ad422) x7_2.length x7_2 := (Kd.R_reads' HO_7.out).2.2
                                      have hcut100 := cut_to (P := Try.prog) 42 47 .i64 Try.underlying42 hi0100 (some ad422) x7_2.length co96 0 (by omega) q100 hroom100
                                      have hr100 := Kd.C_take (m := 0) hC100 (by omega)
                                      have hy100 : y448.length = (0 : Int).toNat := (by rw [Ny448.out, List.length_take]; omega)
                                      rw [← Ny448.out] at hr100
                                      rw [← hy100] at hcut100
                                      have HR451 := a0m hr100
                                      have HC451 := a0m (show y448.length ≤ co96 from by omega)
                                      clear hr100 hC100 hroom100 hi0100 hsz100
                                      have KY100 := a0m hy100
                                      clear hy100
                                      have KL100 := a0m (show 0 ≤ x7_2.length from by omega)
                                      replace q100 := eq_true q100
                                      have q101 : ((ji91) : Int) ≤ ((x7_2.length : Int) : Int) := of_decide_eq_true (by first | (with_reducible assumption) | assumption)
                                      obtain ⟨i0101, hi0101, _, hsz101, _⟩ := info_parts info47
                                      have hroom101 : x7_2.length ≤ co96 := (Kd.R_reads' HO_7.out).2.1
                                      have hC101 : Kd.C k47 _ (some ad422) x7_2.length x7_2 := (Kd.R_reads' HO_7.out).2.2
                                      have q0101 : (0 : Int) ≤ ((ji91) : Int) := of_decide_eq_true (by first | (with_reducible assumption) | assumption)
                                      have hcut101 := cut_from (P := Try.prog) 42 47 .i64 Try.underlying42 hi0101 2 hsz101 (some ad422) x7_2.length co96 (ji91) q0101 q101
                                      have hr101 := Kd.C_drop (m := ((ji91) : Int).toNat) (c := co96) hC101 (by omega) hroom101
                                      obtain ⟨A101, hA101⟩ : ∃ A1, A1 = (if co96 = ((ji91) : Int).toNat then (some ad422) else ((some ad422) : Option Addr).map (·.add (((ji91) : Int).toNat * 2))) := ⟨_, rfl⟩
                                      obtain ⟨c101, hc101⟩ : ∃ c1, c1 = co96 - ((ji91) : Int).toNat := ⟨_, rfl⟩
                                      have hy101 : y455.length = x7_2.length - ((ji91) : Int).toNat := (by rw [Ny455.out, List.length_drop] <;> omega)
                                      rw [show (x7_2).drop ((ji91) : Int).toNat = y455 from Ny455.out.symm] at hr101
                                      replace hr101 : Kd.C k47 _ A101 y455.length y455 := (by rw [hA101]; exact hr101)
                                      rw [← hy101, ← hA101, ← hc101] at hcut101
                                      have HR458 := a0m hr101
                                      have HC458 := a0m (show y455.length ≤ c101 from by rw [hy101, hc101]; exact Nat.sub_le_sub_right hroom101 _)
                                      clear hr101 hC101 hroom101 hi0101 hsz101 hc101
                                      have KY101 := a0m hy101
                                      have KA101 := a0m hA101
                                      clear hy101 hA101
                                      have KL101 := a0m (show ((ji91) : Int).toNat ≤ x7_2.length from by omega)
                                      replace q101 := eq_true q101
                                      refine start_ (n := 11) (S := fun w' => True) (ds := []) #[false, false, false, false, false, false, false, false, false, false, false] (by kernel_rfl) rfl rfl trivial (fun hHeld => ?_); refine with_tabW TO.tab17 TO.bits17 (fun HT_ HW_ => ?_)
                                      generalize w98.drew = w99 at HO_5 HO_6 HO_7 HO427 HB HR451 HR458 hHeld ⊢
                                      refine pure_ (i := 1) (N := some 83) (v := ?_) (a' := ?_) #[false, true, false, false, false, false, false, false, false, false, false] rfl rfl (any_of HT_.out (by kernel_rfl)) (fun _ _ _ h => h) (Or.inl ⟨by rfl, ?_⟩) ?_ ?_
                                      rotate_left
                                      · intro w'
                                        go_simp
                                        with_reducible rfl
                                      rotate_left
                                      · simp only [Act.put, List.setIfInBounds_toArray, List.set_cons_zero, List.set_cons_succ, i64_w, i32_w]
                                        rfl
                                      refine pure_ (i := 2) (N := some 84) (v := ?_) (a' := ?_) #[false, true, true, false, false, false, false, false, false, false, false] rfl rfl (any_of HT_.out (by kernel_rfl)) (fun _ _ _ h => h) (Or.inl ⟨by rfl, ?_⟩) ?_ ?_
                                      rotate_left
                                      · intro w'
                                        go_simp
                                        with_reducible rfl
                                      rotate_left
                                      · simp only [Act.put, List.setIfInBounds_toArray, List.set_cons_zero, List.set_cons_succ, i64_w, i32_w]
                                        rfl
                                      refine pure_ (i := 3) (N := some 85) (v := ?_) (a' := ?_) #[false, true, true, true, false, false, false, false, false, false, false] rfl rfl (any_of HT_.out (by kernel_rfl)) (fun _ _ _ h => h) (Or.inl ⟨by rfl, ?_⟩) ?_ ?_
                                      rotate_left
                                      · intro w'
                                        go_simp
                                        with_reducible rfl
                                      rotate_left
                                      · simp only [Act.put, List.setIfInBounds_toArray, List.set_cons_zero, List.set_cons_succ, i64_w, i32_w]
                                        rfl
                                      refine pure_ (i := 5) (N := some 87) (v := ?_) (a' := ?_) #[false, true, true, true, false, true, false, false, false, false, false] rfl rfl (any_of HT_.out (by kernel_rfl)) (fun _ _ _ h => h) (Or.inl ⟨by rfl, ?_⟩) ?_ ?_
                                      rotate_left
                                      · intro w'
                                        go_simp
                                        with_reducible rfl
                                      rotate_left
                                      · simp only [Act.put, List.setIfInBounds_toArray, List.set_cons_zero, List.set_cons_succ, i64_w, i32_w]
                                        rfl
                                      refine pure_ (i := 6) (N := some 88) (v := ?_) (a' := ?_) #[false, true, true, true, false, true, true, false, false, false, false] rfl rfl (any_of HT_.out (by kernel_rfl)) (fun _ _ _ h => h) (Or.inl ⟨by rfl, ?_⟩) ?_ ?_
                                      rotate_left
                                      · intro w'
                                        go_simp
                                        with_reducible rfl
                                      rotate_left
                                      · simp only [Act.put, List.setIfInBounds_toArray, List.set_cons_zero, List.set_cons_succ, i64_w, i32_w]
                                        rfl
                                      refine pure_ (i := 7) (N := some 89) (v := ?_) (a' := ?_) #[false, true, true, true, false, true, true, true, false, false, false] rfl rfl (any_of HT_.out (by kernel_rfl)) (fun _ _ _ h => h) (Or.inl ⟨by rfl, ?_⟩) ?_ ?_
                                      rotate_left
                                      · intro w'
                                        go_simp
                                        with_reducible rfl
                                      rotate_left
                                      · simp only [Act.put, List.setIfInBounds_toArray, List.set_cons_zero, List.set_cons_succ, i64_w, i32_w]
                                        rfl
                                      refine pure_ (i := 8) (N := some 90) (v := ?_) (a' := ?_) #[false, true, true, true, false, true, true, true, true, false, false] rfl rfl (any_of HT_.out (by kernel_rfl)) (fun _ _ _ h => h) (Or.inl ⟨by rfl, ?_⟩) ?_ ?_
                                      rotate_left
                                      · intro w'
                                        go_simp
                                        with_reducible rfl
                                      rotate_left
                                      · simp only [Act.put, List.setIfInBounds_toArray, List.set_cons_zero, List.set_cons_succ, i64_w, i32_w]
                                        rfl
                                      refine one_ (i := 0) (N := some 82) #[true, true, true, true, false, true, true, true, true, false, false] rfl rfl (one_of HT_.out (by kernel_rfl)) (by decide) (fun K hK => ?_)
                                      refine Kd.R_lit_step k47 _ 47 ?hg (N := 82) ?hd (xs := ([] : List (S47))) (inner := []) (ok := fun _ => True) (okp := fun _ => True) ?hr ?hp (fun _ hk => hk) trivial (Below.refl _ _) (Nat.le_refl _) (by simp) ?_; (case hd => rfl); (case hg => rfl); (case hr => first | (go_simp; done) | (go_simp; rfl)); (case hp => exact (Reps.none _ _))
                                      intro v446 w102 ho103 hb hg_ hnew_
                                      clear hg_ hnew_
                                      (first | rw [← Ny445.out] at ho103 | (simp only [Int.reduceToNat] at ho103; rw [← Ny445.out] at ho103))
                                      have n0_ := a0m (Kd.R_elder' (by (with_reducible repeat (first | apply R_alloc | apply R_drewN | apply Kd.R_drew)); exact HO_5.out) (Kd.R_base ho103) hb)
                                      have n1_ := a0m (Kd.R_elder' (by (with_reducible repeat (first | apply R_alloc | apply R_drewN | apply Kd.R_drew)); exact HO_6.out) (Kd.R_base ho103) hb)
                                      have n2_ := a0m (Kd.R_elder' (by (with_reducible repeat (first | apply R_alloc | apply R_drewN | apply Kd.R_drew)); exact HO_7.out) (Kd.R_base ho103) hb)
                                      have n3_ := a0m (Kd.R_elder' (by (with_reducible repeat (first | apply R_alloc | apply R_drewN | apply Kd.R_drew)); exact HO427.out) (Kd.R_base ho103) hb)
                                      have n4_ := a0m (Kd.R_lower (Kd.R_new' (Kd.R_new' (Kd.R_new' (Kd.R_new' ho103 (Kd.R_lt (by (with_reducible repeat (first | apply R_alloc | apply R_drewN | apply Kd.R_drew)); exact HO_5.out))) (Kd.R_lt (by (with_reducible repeat (first | apply R_alloc | apply R_drewN | apply Kd.R_drew)); exact HO_6.out))) (Kd.R_lt (by (with_reducible repeat (first | apply R_alloc | apply R_drewN | apply Kd.R_drew)); exact HO_7.out))) (Kd.R_lt (by (with_reducible repeat (first | apply R_alloc | apply R_drewN | apply Kd.R_drew)); exact HO427.out))) (below_size (by repeat (first | (with_reducible first | exact HB.out | apply below_alloc | apply pw_below_drewN | apply below_drew1) | exact HB.out))))
                                      have n5_ := a0m (Kd.C_below (by repeat (first | (with_reducible exact HR451.out) | (with_reducible refine Kd.C_alloc ?_ _) | (with_reducible refine Kd.C_drewN ?_ _) | (with_reducible refine Kd.C_drew ?_) | exact HR451.out)) hb)
                                      have n6_ := a0m (Kd.C_below (by repeat (first | (with_reducible exact HR458.out) | (with_reducible refine Kd.C_alloc ?_ _) | (with_reducible refine Kd.C_drewN ?_ _) | (with_reducible refine Kd.C_drew ?_) | exact HR458.out)) hb)
                                      have n7_ := a0m (below_step (by repeat (first | (with_reducible first | exact HB.out | apply below_alloc | apply pw_below_drewN | apply below_drew1) | exact HB.out)) hb)
                                      clear HO_5
                                      clear HO_6
                                      clear HO_7
                                      clear HO427
                                      clear HR451
                                      clear HR458
                                      clear HB
                                      have HO_5 := n0_
                                      have HO_6 := n1_
                                      have HO_7 := n2_
                                      have HO427 := n3_
                                      have HO447 := n4_
                                      have HR451 := n5_
                                      have HR458 := n6_
                                      have HB := n7_
                                      clear n0_ n1_ n2_ n3_ n4_ n5_ n6_ n7_
                                      clear hb ho103
                                      refine hK.out _ _ trivial (fun hHeld => ?_)
                                      clear hK K
                                      refine norm_ (a' := ?_) ?_ ?_
                                      rotate_left
                                      · show Act.put _ (some 82) _ = _
                                        simp only [Act.put, List.setIfInBounds_toArray, List.set_cons_zero, List.set_cons_succ, i64_w, i32_w]
                                        rfl
                                      refine one_ (i := 4) (N := some 86) #[true, true, true, true, true, true, true, true, true, false, false] rfl rfl (one_of HT_.out (by kernel_rfl)) (by decide) (fun K hK => ?_)
                                      refine Kd.R_append_rows_step k47 (w0 := w) w.heap.size (by rfl) (.tmp 82) (.tmp 85) 42 47 (.agg #[(.string ⟨#[]⟩), (.int .i64 0)]) 24 rfl Try.underlying42 info47 rfl (by decide) (by omega) v446 y445 y448 _ _ _ (fun k_ => some k_ ≠ (u5 : Value).ownBlock ∧ some k_ ≠ (.slice Ao97 x6_2.length co97 : Value).ownBlock ∧ some k_ ≠ (.slice (some ad422) x7_2.length co96 : Value).ownBlock ∧ some k_ ≠ (v426 : Value).ownBlock) (fun _ => False) rfl rfl ?aO ?aR (fun _ _ h => h) (fun _ h => h.elim) ?aF ?aB ?aS ?aL ?_
                                      (case aR => repeat (first | exact (by repeat (first | (with_reducible exact HR451.out) | (with_reducible refine Kd.C_alloc ?_ _) | (with_reducible refine Kd.C_drewN ?_ _) | (with_reducible refine Kd.C_drew ?_) | exact HR451.out)) | (with_reducible refine Kd.C_alloc ?_ _) | (with_reducible refine Kd.C_drewN ?_ _) | (with_reducible refine Kd.C_drew ?_)))
                                      (case aB => exact (by repeat (first | (with_reducible first | exact HB.out | apply below_alloc | apply pw_below_drewN | apply below_drew1) | exact HB.out)))
                                      (case aF => exact (fun k_ hk => ⟨Kd.fresh' (Kd.R_lt (by (with_reducible repeat (first | apply R_alloc | apply R_drewN | apply Kd.R_drew)); exact HO_5.out)) k_ hk, Kd.fresh' (Kd.R_lt (by (with_reducible repeat (first | apply R_alloc | apply R_drewN | apply Kd.R_drew)); exact HO_6.out)) k_ hk, Kd.fresh' (Kd.R_lt (by (with_reducible repeat (first | apply R_alloc | apply R_drewN | apply Kd.R_drew)); exact HO_7.out)) k_ hk, Kd.fresh' (Kd.R_lt (by (with_reducible repeat (first | apply R_alloc | apply R_drewN | apply Kd.R_drew)); exact HO427.out)) k_ hk⟩))
                                      (case aO => exact (by (with_reducible repeat (first | apply R_alloc | apply R_drewN | apply Kd.R_drew)); exact Kd.R_mono HO447.out (fun _ hk => ⟨hk.1.1.1.2, ⟨hk.1.1.2, ⟨hk.1.2, hk.2⟩⟩⟩)))
                                      (case aS => exact (below_size (by repeat (first | (with_reducible first | exact HB.out | apply below_alloc | apply pw_below_drewN | apply below_drew1) | exact HB.out))))
                                      (case aL => have := LMc90.out; omega)
                                      intro v453 w104 ho hb hg hat
                                      rw [← Ny452.out] at ho
                                      have n0_ := a0m (Kd.R_after (ok := (fun k_ => some k_ ≠ (.slice Ao97 x6_2.length co97 : Value).ownBlock ∧ some k_ ≠ (.slice (some ad422) x7_2.length co96 : Value).ownBlock ∧ some k_ ≠ (v426 : Value).ownBlock)) (by (with_reducible repeat (first | apply R_alloc | apply R_drewN | apply Kd.R_drew)); exact Kd.R_mono HO_5.out (fun _ hk => ⟨⟨hk.1.1.1, ⟨hk.1.1.2, hk.1.2⟩⟩, hk.2⟩)) hg hat)
                                      have n1_ := a0m (Kd.R_after (ok := (fun k_ => some k_ ≠ (u5 : Value).ownBlock ∧ some k_ ≠ (.slice (some ad422) x7_2.length co96 : Value).ownBlock ∧ some k_ ≠ (v426 : Value).ownBlock)) (by (with_reducible repeat (first | apply R_alloc | apply R_drewN | apply Kd.R_drew)); exact Kd.R_mono HO_6.out (fun _ hk => ⟨⟨hk.1.1.1, ⟨hk.1.1.2, hk.1.2⟩⟩, hk.2⟩)) hg hat)
                                      have n2_ := a0m (Kd.R_after (ok := (fun k_ => some k_ ≠ (u5 : Value).ownBlock ∧ some k_ ≠ (.slice Ao97 x6_2.length co97 : Value).ownBlock ∧ some k_ ≠ (v426 : Value).ownBlock)) (by (with_reducible repeat (first | apply R_alloc | apply R_drewN | apply Kd.R_drew)); exact Kd.R_mono HO_7.out (fun _ hk => ⟨⟨hk.1.1.1, ⟨hk.1.1.2, hk.1.2⟩⟩, hk.2⟩)) hg hat)
                                      have n3_ := a0m (Kd.R_after (ok := (fun k_ => some k_ ≠ (u5 : Value).ownBlock ∧ some k_ ≠ (.slice Ao97 x6_2.length co97 : Value).ownBlock ∧ some k_ ≠ (.slice (some ad422) x7_2.length co96 : Value).ownBlock)) (by (with_reducible repeat (first | apply R_alloc | apply R_drewN | apply Kd.R_drew)); exact Kd.R_mono HO427.out (fun _ hk => ⟨⟨hk.1.1.1.2, ⟨hk.1.1.2, hk.1.2⟩⟩, hk.2⟩)) hg hat)
                                      have n4_ := a0m (hb)
                                      have n5_ := a0m ((show Kd.C k47 w104 (some ad422) y448.length y448 from by rw [Ny448.out]; exact Kd.C_take (m := 0) ((Kd.R_reads' (Kd.R_after (ok := (fun k_ => some k_ ≠ (u5 : Value).ownBlock ∧ some k_ ≠ (.slice Ao97 x6_2.length co97 : Value).ownBlock ∧ some k_ ≠ (v426 : Value).ownBlock)) (by (with_reducible repeat (first | apply R_alloc | apply R_drewN | apply Kd.R_drew)); exact Kd.R_mono HO_7.out (fun _ hk => ⟨⟨hk.1.1.1, ⟨hk.1.1.2, hk.1.2⟩⟩, hk.2⟩)) hg hat)).2.2) KL100.out))
                                      have n6_ := a0m ((show Kd.C k47 w104 A101 y455.length y455 from by rw [Ny455.out, KA101.out]; exact Kd.C_drop (m := ((ji91) : Int).toNat) (c := co96) ((Kd.R_reads' (Kd.R_after (ok := (fun k_ => some k_ ≠ (u5 : Value).ownBlock ∧ some k_ ≠ (.slice Ao97 x6_2.length co97 : Value).ownBlock ∧ some k_ ≠ (v426 : Value).ownBlock)) (by (with_reducible repeat (first | apply R_alloc | apply R_drewN | apply Kd.R_drew)); exact Kd.R_mono HO_7.out (fun _ hk => ⟨⟨hk.1.1.1, ⟨hk.1.1.2, hk.1.2⟩⟩, hk.2⟩)) hg hat)).2.2) KL101.out ((Kd.R_reads' (Kd.R_after (ok := (fun k_ => some k_ ≠ (u5 : Value).ownBlock ∧ some k_ ≠ (.slice Ao97 x6_2.length co97 : Value).ownBlock ∧ some k_ ≠ (v426 : Value).ownBlock)) (by (with_reducible repeat (first | apply R_alloc | apply R_drewN | apply Kd.R_drew)); exact Kd.R_mono HO_7.out (fun _ hk => ⟨⟨hk.1.1.1, ⟨hk.1.1.2, hk.1.2⟩⟩, hk.2⟩)) hg hat)).2.1)))
                                      have n7_ := a0m (ho)
                                      clear HO_5
                                      clear HO_6
                                      clear HO_7
                                      clear HO427
                                      clear HB
                                      clear HR451
                                      clear HR458
                                      clear HO447
                                      have HO_5 := n0_
                                      have HO_6 := n1_
                                      have HO_7 := n2_
                                      have HO427 := n3_
                                      have HB := n4_
                                      have HR451 := n5_
                                      have HR458 := n6_
                                      have HO454 := n7_
                                      clear n0_ n1_ n2_ n3_ n4_ n5_ n6_ n7_
                                      clear ho hb hg hat
                                      refine hK.out _ _ trivial (fun hHeld => ?_)
                                      clear hK K
                                      refine norm_ (a' := ?_) ?_ ?_
                                      rotate_left
                                      · show Act.put _ (some 86) _ = _
                                        simp only [Act.put, List.setIfInBounds_toArray, List.set_cons_zero, List.set_cons_succ, i64_w, i32_w]
                                        rfl
                                      refine one_ (i := 9) (N := some 91) #[true, true, true, true, true, true, true, true, true, true, false] rfl rfl (one_of HT_.out (by kernel_rfl)) (by decide) (fun K hK => ?_)
                                      refine Kd.R_append_rows_step k47 (w0 := w) w.heap.size (by rfl) (.tmp 86) (.tmp 90) 42 47 (.agg #[(.string ⟨#[]⟩), (.int .i64 0)]) 24 rfl Try.underlying42 info47 rfl (by decide) (by omega) v453 y452 y455 _ _ _ (fun k_ => some k_ ≠ (u5 : Value).ownBlock ∧ some k_ ≠ (.slice Ao97 x6_2.length co97 : Value).ownBlock ∧ some k_ ≠ (.slice (some ad422) x7_2.length co96 : Value).ownBlock ∧ some k_ ≠ (v426 : Value).ownBlock) (fun _ => False) rfl rfl ?aO ?aR (fun _ _ h => h) (fun _ h => h.elim) ?aF ?aB ?aS ?aL ?_
                                      (case aR => repeat (first | exact (by repeat (first | (with_reducible exact HR458.out) | (with_reducible refine Kd.C_alloc ?_ _) | (with_reducible refine Kd.C_drewN ?_ _) | (with_reducible refine Kd.C_drew ?_) | exact HR458.out)) | (with_reducible refine Kd.C_alloc ?_ _) | (with_reducible refine Kd.C_drewN ?_ _) | (with_reducible refine Kd.C_drew ?_)))
                                      (case aB => exact (by repeat (first | (with_reducible first | exact HB.out | apply below_alloc | apply pw_below_drewN | apply below_drew1) | exact HB.out)))
                                      (case aF => exact (fun k_ hk => ⟨Kd.fresh' (Kd.R_lt (by (with_reducible repeat (first | apply R_alloc | apply R_drewN | apply Kd.R_drew)); exact HO_5.out)) k_ hk, Kd.fresh' (Kd.R_lt (by (with_reducible repeat (first | apply R_alloc | apply R_drewN | apply Kd.R_drew)); exact HO_6.out)) k_ hk, Kd.fresh' (Kd.R_lt (by (with_reducible repeat (first | apply R_alloc | apply R_drewN | apply Kd.R_drew)); exact HO_7.out)) k_ hk, Kd.fresh' (Kd.R_lt (by (with_reducible repeat (first | apply R_alloc | apply R_drewN | apply Kd.R_drew)); exact HO427.out)) k_ hk⟩))
                                      (case aO => exact (by (with_reducible repeat (first | apply R_alloc | apply R_drewN | apply Kd.R_drew)); exact HO454.out))
                                      (case aS => exact (below_size (by repeat (first | (with_reducible first | exact HB.out | apply below_alloc | apply pw_below_drewN | apply below_drew1) | exact HB.out))))
                                      (case aL => have := LMc94.out; omega)
                                      intro v460 w105 ho hb hg hat
                                      rw [← Ny459.out] at ho
                                      have n0_ := a0m (Kd.R_after (ok := (fun k_ => some k_ ≠ (.slice Ao97 x6_2.length co97 : Value).ownBlock ∧ some k_ ≠ (.slice (some ad422) x7_2.length co96 : Value).ownBlock ∧ some k_ ≠ (v426 : Value).ownBlock)) (by (with_reducible repeat (first | apply R_alloc | apply R_drewN | apply Kd.R_drew)); exact HO_5.out) hg hat)
                                      have n1_ := a0m (Kd.R_after (ok := (fun k_ => some k_ ≠ (u5 : Value).ownBlock ∧ some k_ ≠ (.slice (some ad422) x7_2.length co96 : Value).ownBlock ∧ some k_ ≠ (v426 : Value).ownBlock)) (by (with_reducible repeat (first | apply R_alloc | apply R_drewN | apply Kd.R_drew)); exact HO_6.out) hg hat)
                                      have n2_ := a0m (Kd.R_after (ok := (fun k_ => some k_ ≠ (u5 : Value).ownBlock ∧ some k_ ≠ (.slice Ao97 x6_2.length co97 : Value).ownBlock ∧ some k_ ≠ (v426 : Value).ownBlock)) (by (with_reducible repeat (first | apply R_alloc | apply R_drewN | apply Kd.R_drew)); exact HO_7.out) hg hat)
                                      have n3_ := a0m (Kd.R_after (ok := (fun k_ => some k_ ≠ (u5 : Value).ownBlock ∧ some k_ ≠ (.slice Ao97 x6_2.length co97 : Value).ownBlock ∧ some k_ ≠ (.slice (some ad422) x7_2.length co96 : Value).ownBlock)) (by (with_reducible repeat (first | apply R_alloc | apply R_drewN | apply Kd.R_drew)); exact HO427.out) hg hat)
                                      have n4_ := a0m (hb)
                                      have n5_ := a0m ((show Kd.C k47 w105 (some ad422) y448.length y448 from by rw [Ny448.out]; exact Kd.C_take (m := 0) ((Kd.R_reads' (Kd.R_after (ok := (fun k_ => some k_ ≠ (u5 : Value).ownBlock ∧ some k_ ≠ (.slice Ao97 x6_2.length co97 : Value).ownBlock ∧ some k_ ≠ (v426 : Value).ownBlock)) (by (with_reducible repeat (first | apply R_alloc | apply R_drewN | apply Kd.R_drew)); exact HO_7.out) hg hat)).2.2) KL100.out))
                                      have n6_ := a0m ((show Kd.C k47 w105 A101 y455.length y455 from by rw [Ny455.out, KA101.out]; exact Kd.C_drop (m := ((ji91) : Int).toNat) (c := co96) ((Kd.R_reads' (Kd.R_after (ok := (fun k_ => some k_ ≠ (u5 : Value).ownBlock ∧ some k_ ≠ (.slice Ao97 x6_2.length co97 : Value).ownBlock ∧ some k_ ≠ (v426 : Value).ownBlock)) (by (with_reducible repeat (first | apply R_alloc | apply R_drewN | apply Kd.R_drew)); exact HO_7.out) hg hat)).2.2) KL101.out ((Kd.R_reads' (Kd.R_after (ok := (fun k_ => some k_ ≠ (u5 : Value).ownBlock ∧ some k_ ≠ (.slice Ao97 x6_2.length co97 : Value).ownBlock ∧ some k_ ≠ (v426 : Value).ownBlock)) (by (with_reducible repeat (first | apply R_alloc | apply R_drewN | apply Kd.R_drew)); exact HO_7.out) hg hat)).2.1)))
                                      have n7_ := a0m (ho)
                                      clear HO_5
                                      clear HO_6
                                      clear HO_7
                                      clear HO427
                                      clear HB
                                      clear HR451
                                      clear HR458
                                      clear HO454
                                      have HO_5 := n0_
                                      have HO_6 := n1_
                                      have HO_7 := n2_
                                      have HO427 := n3_
                                      have HB := n4_
                                      have HR451 := n5_
                                      have HR458 := n6_
                                      have HO461 := n7_
                                      clear n0_ n1_ n2_ n3_ n4_ n5_ n6_ n7_
                                      clear ho hb hg hat
                                      refine hK.out _ _ trivial (fun hHeld => ?_)
                                      clear hK K
                                      refine norm_ (a' := ?_) ?_ ?_
                                      rotate_left
                                      · show Act.put _ (some 91) _ = _
                                        simp only [Act.put, List.setIfInBounds_toArray, List.set_cons_zero, List.set_cons_succ, i64_w, i32_w]
                                        rfl
                                      refine pure_ (i := 10) (N := some 7) (v := ?_) (a' := ?_) #[true, true, true, true, true, true, true, true, true, true, true] rfl rfl (any_of HT_.out (by kernel_rfl)) (fun _ _ _ h => h) (Or.inl ⟨by rfl, ?_⟩) ?_ ?_
                                      rotate_left
                                      · intro w'
                                        go_simp
                                        with_reducible rfl
                                      rotate_left
                                      · simp only [Act.put, List.setIfInBounds_toArray, List.set_cons_zero, List.set_cons_succ, i64_w, i32_w]
                                        rfl
                                      refine done_ (done_of HT_.out (by kernel_rfl)) ?_
                                      try go_wp2
                                      go_roundg kj19
                                      case measure => have := HJ2.out; have := HK2.out; have := HJ19.out; omega
                                      case rel => exact ⟨(x5_19), (x6_2), (y459), (wrap64 (x8_2 + 1)), (by first | rfl | (simp; done) | (simp [*]; done)), H', ⟨by have := HJ2.out; have := HK2.out; have := HJ19.out; omega⟩, ⟨by (with_reducible repeat (first | apply R_alloc | apply R_drewN | apply Kd.R_drew)); exact Kd.R_mono HO_5.out (fun _ hk => ⟨hk.1.1, hk.2⟩)⟩, ⟨by (with_reducible repeat (first | apply R_alloc | apply R_drewN | apply Kd.R_drew)); exact Kd.R_mono HO_6.out (fun _ hk => ⟨hk.1.1, hk.2⟩)⟩, ⟨by (with_reducible repeat (first | apply R_alloc | apply R_drewN | apply Kd.R_drew)); exact Kd.R_mono HO461.out (fun _ hk => ⟨hk.1, hk.2.1⟩)⟩, ⟨by repeat (first | (with_reducible first | exact HB.out | apply below_alloc | apply pw_below_drewN | apply below_drew1) | exact HB.out)⟩⟩
                                    · rw [if_neg c94] at H
                                      exact absurd H (by simp)
                                  · rw [if_neg c93] at H
                                    exact absurd H (by simp)
                                · rw [if_neg c92] at H
                                  exact absurd H (by simp)
                              · rw [if_neg c90] at H
                                exact absurd H (by simp)
                            · rw [if_neg c89] at H
                              exact absurd H (by simp)
                        · rw [if_neg c69] at H
                          exact absurd H (by simp)
                · rw [if_neg c18] at H
                  exact absurd H (by simp)
              · rw [if_neg c17] at H
                have c17b0 : decide (x8_2 < (l0.length : Int)) = false := decide_eq_false c17
                clear c17
                replace H := Option.bind_eq_some_iff.mp H
                obtain ⟨t372, A1060, H⟩ := H
                replace H : (if t372 = true then ((hucksterref10_Same.f k2 x5_2 x6_2).bind fun t373 => (if t373 = true then ((hucksterlaw10_awake.f k2).bind fun t374 => (some t374)) else (some false))) else (some false)) = some r := H
                have A106 := a0m A1060
                clear A1060
                by_cases c107 : t372 = true
                · subst c107
                  have H1 : ((hucksterref10_Same.f k2 x5_2 x6_2).bind fun t373 => (if t373 = true then ((hucksterlaw10_awake.f k2).bind fun t374 => (some t374)) else (some false))) = some r := by rw [if_pos rfl] at H; exact H
                  clear H
                  have H := H1
                  clear H1
                  replace H := Option.bind_eq_some_iff.mp H
                  obtain ⟨t373, A1080, H⟩ := H
                  replace H : (if t373 = true then ((hucksterlaw10_awake.f k2).bind fun t374 => (some t374)) else (some false)) = some r := H
                  have A108 := a0m A1080
                  clear A1080
                  by_cases c109 : t373 = true
                  · subst c109
                    have H1 : ((hucksterlaw10_awake.f k2).bind fun t374 => (some t374)) = some r := by rw [if_pos rfl] at H; exact H
                    clear H
                    have H := H1
                    clear H1
                    replace H := Option.bind_eq_some_iff.mp H
                    obtain ⟨t374, A1100, H⟩ := H
                    replace H : (some t374) = some r := H
                    have A110 := a0m A1100
                    clear A1100
                    obtain rfl := Option.some.inj H
                    obtain ⟨Ao111, co111, eo111⟩ := Kd.R_slice HO_5.out
                    subst eo111
                    obtain ⟨Ao112, co112, eo112⟩ := Kd.R_slice HO_6.out
                    subst eo112
                    go_wp2_with (first | ((with_reducible refine gate_callee (f := 35) rfl ?_); refine goesL_ (some 94) rfl rfl Try.func35 (by kernel_rfl) rfl #[.slice Ao111 x5_2.length co111, .slice Ao112 x6_2.length co112] rfl (by (try simp only [List.map_toArray, List.map_cons, List.map_nil]); first | done | rfl | (simp only [List.length_drop, List.length_take]; rfl)) ?_; (with_reducible refine (tally_Same.calls k2 _ _ x5_2 _ _ x6_2 true _ ?side1 ?side2 ?side3 ?side4 A106.out).mono ?_); (case side1 => repeat (first | exact (Kd.R_reads' HO_5.out).2.2 | (with_reducible refine Kd.C_alloc ?_ _) | (with_reducible refine Kd.C_drewN ?_ _) | (with_reducible refine Kd.C_drew ?_))); (case side2 => exact (Kd.R_reads' HO_5.out).2.1); (case side3 => repeat (first | exact (Kd.R_reads' HO_6.out).2.2 | (with_reducible refine Kd.C_alloc ?_ _) | (with_reducible refine Kd.C_drewN ?_ _) | (with_reducible refine Kd.C_drew ?_))); (case side4 => exact (Kd.R_reads' HO_6.out).2.1); rintro e w' ⟨rfl, ⟨nd, rfl⟩⟩; refine ⟨_, rfl, ?_⟩) | (go_at_call 33; (with_reducible refine (hucksterref10_Same.calls k2 _ _ x5_2 _ _ x6_2 true _ ?side1 ?side2 ?side3 ?side4 A108.out).mono ?_); (case side1 => repeat (first | exact (Kd.R_reads' HO_5.out).2.2 | (with_reducible refine Kd.C_alloc ?_ _) | (with_reducible refine Kd.C_drewN ?_ _) | (with_reducible refine Kd.C_drew ?_))); (case side2 => exact (Kd.R_reads' HO_5.out).2.1); (case side3 => repeat (first | exact (Kd.R_reads' HO_6.out).2.2 | (with_reducible refine Kd.C_alloc ?_ _) | (with_reducible refine Kd.C_drewN ?_ _) | (with_reducible refine Kd.C_drew ?_))); (case side4 => exact (Kd.R_reads' HO_6.out).2.1); rintro e w' ⟨rfl, ⟨nd, rfl⟩⟩) | (go_at_call 26; (with_reducible refine (hucksterlaw10_awake.calls k2  t374 _ A110.out).mono ?_); rintro e w113 ⟨rfl, hb⟩; have n0_ := a0m (Kd.R_below (by (with_reducible repeat (first | apply R_alloc | apply R_drewN | apply Kd.R_drew)); exact HO_5.out) hb); have n1_ := a0m (Kd.R_below (by (with_reducible repeat (first | apply R_alloc | apply R_drewN | apply Kd.R_drew)); exact HO_6.out) hb); have n2_ := a0m (Kd.R_below (by (with_reducible repeat (first | apply R_alloc | apply R_drewN | apply Kd.R_drew)); exact HO_7.out) hb); have n3_ := a0m (below_step (by repeat (first | (with_reducible first | exact HB.out | apply below_alloc | apply pw_below_drewN | apply below_drew1) | exact HB.out)) hb); clear HO_5; clear HO_6; clear HO_7; clear HB; have HO_5 := n0_; have HO_6 := n1_; have HO_7 := n2_; have HB := n3_; clear n0_ n1_ n2_ n3_; (try clear hb); (try clear hb2); (try clear hk); (try clear hi)))
                    go_ret
                    exact ⟨by first | rfl | (simp [errW_none, errW_some] <;> rfl) | (simp [*, errW_none, errW_some] <;> rfl), by repeat (first | (with_reducible first | exact HB.out | apply below_alloc | apply pw_below_drewN | apply below_drew1) | exact HB.out)⟩
                  · replace c109 := Bool.eq_false_iff.mpr c109
                    subst c109
                    have H1 : (some false) = some r := by rw [if_neg (show ¬ (false = true) by decide)] at H; exact H
                    clear H
                    have H := H1
                    clear H1
                    obtain rfl := Option.some.inj H
                    obtain ⟨Ao114, co114, eo114⟩ := Kd.R_slice HO_5.out
                    subst eo114
                    obtain ⟨Ao115, co115, eo115⟩ := Kd.R_slice HO_6.out
                    subst eo115
                    go_wp2_with (first | ((with_reducible refine gate_callee (f := 35) rfl ?_); refine goesL_ (some 94) rfl rfl Try.func35 (by kernel_rfl) rfl #[.slice Ao114 x5_2.length co114, .slice Ao115 x6_2.length co115] rfl (by (try simp only [List.map_toArray, List.map_cons, List.map_nil]); first | done | rfl | (simp only [List.length_drop, List.length_take]; rfl)) ?_; (with_reducible refine (tally_Same.calls k2 _ _ x5_2 _ _ x6_2 true _ ?side1 ?side2 ?side3 ?side4 A106.out).mono ?_); (case side1 => repeat (first | exact (Kd.R_reads' HO_5.out).2.2 | (with_reducible refine Kd.C_alloc ?_ _) | (with_reducible refine Kd.C_drewN ?_ _) | (with_reducible refine Kd.C_drew ?_))); (case side2 => exact (Kd.R_reads' HO_5.out).2.1); (case side3 => repeat (first | exact (Kd.R_reads' HO_6.out).2.2 | (with_reducible refine Kd.C_alloc ?_ _) | (with_reducible refine Kd.C_drewN ?_ _) | (with_reducible refine Kd.C_drew ?_))); (case side4 => exact (Kd.R_reads' HO_6.out).2.1); rintro e w' ⟨rfl, ⟨nd, rfl⟩⟩; refine ⟨_, rfl, ?_⟩) | (go_at_call 33; (with_reducible refine (hucksterref10_Same.calls k2 _ _ x5_2 _ _ x6_2 false _ ?side1 ?side2 ?side3 ?side4 A108.out).mono ?_); (case side1 => repeat (first | exact (Kd.R_reads' HO_5.out).2.2 | (with_reducible refine Kd.C_alloc ?_ _) | (with_reducible refine Kd.C_drewN ?_ _) | (with_reducible refine Kd.C_drew ?_))); (case side2 => exact (Kd.R_reads' HO_5.out).2.1); (case side3 => repeat (first | exact (Kd.R_reads' HO_6.out).2.2 | (with_reducible refine Kd.C_alloc ?_ _) | (with_reducible refine Kd.C_drewN ?_ _) | (with_reducible refine Kd.C_drew ?_))); (case side4 => exact (Kd.R_reads' HO_6.out).2.1); rintro e w' ⟨rfl, ⟨nd, rfl⟩⟩))
                    go_ret
                    exact ⟨by first | rfl | (simp [errW_none, errW_some] <;> rfl) | (simp [*, errW_none, errW_some] <;> rfl), by repeat (first | (with_reducible first | exact HB.out | apply below_alloc | apply pw_below_drewN | apply below_drew1) | exact HB.out)⟩
                · replace c107 := Bool.eq_false_iff.mpr c107
                  subst c107
                  have H1 : (some false) = some r := by rw [if_neg (show ¬ (false = true) by decide)] at H; exact H
                  clear H
                  have H := H1
                  clear H1
                  obtain rfl := Option.some.inj H
                  obtain ⟨Ao116, co116, eo116⟩ := Kd.R_slice HO_5.out
                  subst eo116
                  obtain ⟨Ao117, co117, eo117⟩ := Kd.R_slice HO_6.out
                  subst eo117
                  go_wp2_with (first | ((with_reducible refine gate_callee (f := 35) rfl ?_); refine goesL_ (some 94) rfl rfl Try.func35 (by kernel_rfl) rfl #[.slice Ao116 x5_2.length co116, .slice Ao117 x6_2.length co117] rfl (by (try simp only [List.map_toArray, List.map_cons, List.map_nil]); first | done | rfl | (simp only [List.length_drop, List.length_take]; rfl)) ?_; (with_reducible refine (tally_Same.calls k2 _ _ x5_2 _ _ x6_2 false _ ?side1 ?side2 ?side3 ?side4 A106.out).mono ?_); (case side1 => repeat (first | exact (Kd.R_reads' HO_5.out).2.2 | (with_reducible refine Kd.C_alloc ?_ _) | (with_reducible refine Kd.C_drewN ?_ _) | (with_reducible refine Kd.C_drew ?_))); (case side2 => exact (Kd.R_reads' HO_5.out).2.1); (case side3 => repeat (first | exact (Kd.R_reads' HO_6.out).2.2 | (with_reducible refine Kd.C_alloc ?_ _) | (with_reducible refine Kd.C_drewN ?_ _) | (with_reducible refine Kd.C_drew ?_))); (case side4 => exact (Kd.R_reads' HO_6.out).2.1); rintro e w' ⟨rfl, ⟨nd, rfl⟩⟩; refine ⟨_, rfl, ?_⟩))
                  go_ret
                  exact ⟨by first | rfl | (simp [errW_none, errW_some] <;> rfl) | (simp [*, errW_none, errW_some] <;> rfl), by repeat (first | (with_reducible first | exact HB.out | apply below_alloc | apply pw_below_drewN | apply below_drew1) | exact HB.out)⟩
        · rw [if_neg c9] at H
          exact absurd H (by simp)

end Go.Proofs.Ytfnpiclioikjpaa.X

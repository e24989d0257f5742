/- register.Set. -/
import Derived.Test.YtfnpiclioikjpaaRegP
import Derived.Test.YtfnpiclioikjpaaRowNote
import Derived.Test.YtfnpiclioikjpaaInsNote
import Derived.Test.YtfnpiclioikjpaaCloNote
import Derived.Test.YtfnpiclioikjpaaXregistermay
import Derived.Deep.CutBlock
set_option linter.unusedSimpArgs false
set_option linter.unusedVariables false
namespace Go.Proofs.Ytfnpiclioikjpaa.X
open Go.RowKit Go.Proofs.YtfnpiclioikjpaaW.PrintWords Go.Proofs.YtfnpiclioikjpaaW.PrintLast Go.Proofs.YtfnpiclioikjpaaW.PrintMore

theorem chk_call (A0 : Option Addr) (c0 : Nat) (l0 : List Nt) (w : World) (hr0 : Kd.C k24 w A0 l0.length l0) (hc0 : l0.length ≤ c0) :
    Calls Try.prog 18 #[.slice A0 l0.length c0] w fun e w' => e = .returned (.int .i64 (if chkN l0 = true then 0 else 1)) ∧ Below w.heap.size w w' := by
  obtain ⟨k, hk⟩ := (check_is l0).rounds
  exact register_Check.calls k A0 c0 l0 _ w hr0 hc0 hk
def boxN (n : Nt) : Array Value := #[.string n.f0, .int .i64 n.f1, .int .i64 n.f2, .string n.f3]
theorem boxN_cells {W : World} {g : Nat} {n : Nt} {t : TypeId} (h : W.heap[g]? = some (.cells (boxN n) t (0, 0))) :
    W.cell? ⟨g, 0, none⟩ = some (.string n.f0) ∧ W.cell? ⟨g, 1, none⟩ = some (.int .i64 n.f1) ∧ W.cell? ⟨g, 2, none⟩ = some (.int .i64 n.f2) ∧ W.cell? ⟨g, 3, none⟩ = some (.string n.f3) :=
  ⟨by rw [cell_of_row W g 0 _ _ (0, 0) h]; rfl, by rw [cell_of_row W g 1 _ _ (0, 0) h]; rfl, by rw [cell_of_row W g 2 _ _ (0, 0) h]; rfl, by rw [cell_of_row W g 3 _ _ (0, 0) h]; rfl⟩
theorem boxN_new {w w' : World} {n : Nt} {t : TypeId} (hb : Below (w.alloc (.cells (boxN n) t)).heap.size (w.alloc (.cells (boxN n) t)) w') : w'.heap[w.heap.size]? = some (.cells (boxN n) t (0, 0)) :=
  (hb.block _ (by simp)).trans (heap_alloc_new w _)
def SetPost (w : World) (r : List Nt × Int) (e : Ending) (w' : World) : Prop := ∃ v0_ : Value, e = .returned (.tuple #[v0_, .int .i64 r.2]) ∧ Kd.R k24 24 w' w.heap.size (fun _ => True) v0_ r.1 ∧ Below w.heap.size w w'

set_option maxHeartbeats 4000000 in
set_option maxRecDepth 100000 in
theorem set_no (A0 : Option Addr) (c0 : Nat) (l0 : List Nt) (n : Nt) (w : World) (hr0 : Kd.C k24 w A0 l0.length l0) (hc0 : l0.length ≤ c0) (h : chkN l0 = false) :
    Calls Try.prog 16 #[.slice A0 l0.length c0, .agg #[.string n.f0, .int .i64 n.f1, .int .i64 n.f2, .string n.f3]] w (SetPost w ([], 1)) := by
  have HR := Aside0.mk hr0
  clear hr0
  go_enter Try.func16, Try.ntmps16
  go_wp2_with fail
  refine (chk_call A0 c0 l0 _ (Kd.C_alloc HR.out _) hc0).mono ?_
  rintro e w' ⟨rfl, hb⟩
  rw [h, if_neg (by decide)]
  go_wp2_with fail
  go_ret2
  exact ⟨_, rfl, Kd.R_nil _ _ _ _ _, below_step (below_alloc (Below.refl _ _) _) hb⟩
set_option maxHeartbeats 4000000 in
set_option maxRecDepth 100000 in
theorem set_bad (A0 : Option Addr) (c0 : Nat) (l0 : List Nt) (n : Nt) (w : World) (hr0 : Kd.C k24 w A0 l0.length l0) (hc0 : l0.length ≤ c0) (h : chkN l0 = true) (hn : okN n = false) :
    Calls Try.prog 16 #[.slice A0 l0.length c0, .agg #[.string n.f0, .int .i64 n.f1, .int .i64 n.f2, .string n.f3]] w (SetPost w ([], 1)) := by
  have HR := Aside0.mk hr0
  clear hr0
  go_enter Try.func16, Try.ntmps16
  go_wp2_with fail
  refine (chk_call A0 c0 l0 _ (Kd.C_alloc HR.out _) hc0).mono ?_
  rintro e w' ⟨rfl, hb⟩
  rw [h, if_pos rfl]
  have hbox := boxN_new (n := n) hb
  obtain ⟨hx0, hx1, hx2, hx3⟩ := boxN_cells hbox
  go_wp2_with fail
  refine (register_may.calls n.f0 n.f1 n.f2 n.f3 _ _ (may_is n)).mono ?_
  rintro e w2 ⟨rfl, hb2⟩
  rw [hn]
  go_wp2_with fail
  go_ret2
  exact ⟨_, rfl, Kd.R_nil _ _ _ _ _, below_step (below_step (below_alloc (Below.refl _ _) _) hb) hb2⟩

set_option maxHeartbeats 4000000 in
set_option maxRecDepth 100000 in
theorem set_go (A0 : Option Addr) (c0 : Nat) (l0 : List Nt) (n : Nt) (w : World) (hr0 : Kd.C k24 w A0 l0.length l0) (hc0 : l0.length ≤ c0) (h : chkN l0 = true) (hn : okN n = true) :
    Calls Try.prog 16 #[.slice A0 l0.length c0, .agg #[.string n.f0, .int .i64 n.f1, .int .i64 n.f2, .string n.f3]] w (SetPost w (setN l0 n)) := by
  have HR := Aside0.mk hr0
  obtain ⟨hl4, _, hord⟩ := (chkN_iff l0).1 h
  have HO := Aside0.mk hord
  have hfind : register_find.f l0 n.f0 = some (((posK (ksNote l0) n.f0 : Nat) : Int), hasNote l0 n.f0) := by
    unfold register_find.f
    rw [if_pos ⟨hord, by omega⟩]
  have HFI := Aside0.mk hfind
  have hposl : posK (ksNote l0) n.f0 ≤ l0.length := by have := posK_le (ksNote l0) n.f0; simpa [ksNote] using this
  obtain ⟨r, hr⟩ : ∃ r, r = setN l0 n := ⟨_, rfl⟩
  rw [← hr]
  unfold setN at hr
  have HRR := Aside0.mk hr
  have hhas : hasNote l0 n.f0 = true → posK (ksNote l0) n.f0 < l0.length := by
    intro hh
    unfold hasNote at hh
    rw [Bool.and_eq_true, decide_eq_true_eq] at hh
    exact hh.1
  generalize posK (ksNote l0) n.f0 = p at *
  generalize hasNote l0 n.f0 = hs at *
  clear hr0 hr hord hfind
  go_enter Try.func16, Try.ntmps16
  go_wp2_with fail
  refine (chk_call A0 c0 l0 _ (Kd.C_alloc HR.out _) hc0).mono ?_
  rintro e w1 ⟨rfl, hb1⟩
  rw [h, if_pos rfl]
  have hbox1 := boxN_new (n := n) hb1
  have HB1 := Aside0.mk (below_step (below_alloc (Below.refl w.heap.size w) _) hb1)
  obtain ⟨hx0, hx1, hx2, hx3⟩ := boxN_cells hbox1
  have HX1 := Aside0.mk hbox1
  clear hb1 hbox1
  go_wp2_with fail
  refine (register_may.calls n.f0 n.f1 n.f2 n.f3 _ _ (may_is n)).mono ?_
  rintro e w2 ⟨rfl, hb2⟩
  rw [hn]
  have HB2 := Aside0.mk (below_step HB1.out hb2)
  have HX2 := Aside0.mk ((hb2.block w.heap.size (by have := HX1.out; exact (Array.getElem?_eq_some_iff.1 this).1)).trans HX1.out)
  clear hx0 hx1 hx2 hx3 HX1 HB1 hb2
  go_wp2_with fail
  refine (api_Note_56.calls A0 c0 l0 l0 _ (Kd.C_below HR.out HB2.out) hc0 (by unfold api_Note_56.f; rw [if_pos (by omega)])).mono ?_
  rintro e w3 ⟨v0, rfl, hR3, hb3⟩
  have HB3 := Aside0.mk (below_step HB2.out hb3)
  have HX3 := Aside0.mk ((hb3.block w.heap.size (by have := HX2.out; exact (Array.getElem?_eq_some_iff.1 this).1)).trans HX2.out)
  have HV3 := Aside0.mk (Kd.R_lower hR3 (below_size HB2.out))
  have hne3 : v0.ownBlock ≠ some w.heap.size := by
    intro he
    have h1 := Kd.R_base hR3 _ he
    have h2 := (Array.getElem?_eq_some_iff.1 HX2.out).1
    omega
  obtain ⟨A1, c1, rfl, hc1, _⟩ := Kd.R_reads HV3.out
  obtain ⟨hx0, hx1, hx2, hx3⟩ := boxN_cells HX3.out
  clear hR3 hb3 HX2 HB2
  go_wp2_with fail
  refine (register_find.calls A1 c1 l0 n.f0 _ _ _ (Kd.R_reads' HV3.out).2.2 hc1 HFI.out).mono ?_
  rintro e w4 ⟨rfl, hb4⟩
  have HB4 := Aside0.mk (below_step HB3.out hb4)
  have HX4 := Aside0.mk ((hb4.block w.heap.size (by have := HX3.out; exact (Array.getElem?_eq_some_iff.1 this).1)).trans HX3.out)
  have HV4 := Aside0.mk (Kd.R_below HV3.out hb4)
  clear hx0 hx1 hx2 hx3 HX3 HB3 HV3 hb4
  cases hs with
  | false =>
    have hposl' : decide ((p : Int) < 0) = false := by simp
    by_cases hfull : l0.length = 4000
    · have hf : ((l0.length : Int) == 4000) = true := by simp; omega
      go_wp2_with fail
      go_quiet (fail)
      go_wp2_with fail
      go_ret2
      have hr : r = ([], 6) := by rw [HRR.out, if_neg (by decide), if_pos hfull]
      rw [hr]
      exact ⟨_, rfl, Kd.R_nil _ _ _ _ _, by repeat (first | exact HB4.out | apply below_alloc | apply pw_below_drewN | apply below_drew1)⟩
    · have hf : ((l0.length : Int) == 4000) = false := by simp; omega
      obtain ⟨hx0, hx1, hx2, hx3⟩ := boxN_cells HX4.out
      go_wp2_with fail
      go_quiet (fail)
      go_wp2_with fail
      have hV5 : Kd.R k24 24 ((w4.drewN nq).alloc (.cells (boxN n) 24)) w.heap.size (fun _ => True) (.slice A1 l0.length c1) l0 := Kd.R_alloc (Kd.R_drewN HV4.out _) _
      have hlt := Kd.R_lt HV4.out
      refine (insertNote (.slice A1 l0.length c1) l0.length p (cellsNote l0) (cellNote n) w4.heap.size w.heap.size w _ (ownRNote hV5) ?_ ?_ rfl (by intro u hu; simp only [cellNote, List.mem_cons, List.not_mem_nil, or_false] at hu; rcases hu with rfl | rfl | rfl | rfl <;> rfl) (cellsNote_one l0) hposl (by omega) (below_alloc (pw_below_drewN HB4.out _) _) ?_).mono ?_
      · have := heap_alloc_new (w4.drewN nq) (.cells (boxN n) 24)
        exact this
      · intro he
        have := hlt _ he.symm
        omega
      · have := below_size HB4.out
        rw [World.size_alloc]
        show w.heap.size ≤ (w4.drewN nq).heap.size + 1
        have h2 : (w4.drewN nq).heap.size = w4.heap.size := rfl
        omega
      rintro e w5 ⟨v5, rfl, ho5, hb5⟩
      have hr : r = (l0.take p ++ n :: l0.drop p, 0) := by rw [HRR.out, if_neg (by decide), if_neg hfull]
      have hR5 : Kd.R k24 24 w5 w.heap.size (fun _ => True) v5 (l0.take p ++ n :: l0.drop p) := RownNote (by simp only [List.length_append, List.length_cons, List.length_take, List.length_drop]; omega) (ins_cellsNote l0 n p) ho5
      go_wp2_with fail
      go_ret2
      rw [hr]
      exact ⟨_, rfl, hR5, hb5⟩
  | true =>
    have hpl := hhas rfl
    have hown := ownRNote HV4.out
    rcases hown.2 with ⟨_, h0⟩ | ⟨g, cap, cur, he, hgb, hgh, _, hcm, _, _⟩
    · omega
    injection he with h1 _ h2
    subst h1; subst h2
    have q1 : 0 ≤ (p : Int) := by omega
    have q2 : (p : Int) < (l0.length : Int) := by omega
    obtain ⟨ad, e0, hy0, hy1, hy2, hy3⟩ := at_T24 (Kd.R_reads' HV4.out).2.2 (p : Int) q1 q2
    injection e0 with e0
    subst e0
    simp only [Int.toNat_natCast] at hy0 hy1 hy2 hy3
    have ha : (⟨g, 0, none⟩ : Addr).add (p * 4) = ⟨g, p * 4, none⟩ := by simp [add_plain]
    rw [ha] at hy0 hy1 hy2 hy3
    simp only at hy0 hy1 hy2 hy3
    obtain ⟨hx0, hx1, hx2, hx3⟩ := boxN_cells HX4.out
    have q3 : decide (0 ≤ (p : Int)) = true := decide_eq_true q1
    have q4 : decide ((p : Int) < (l0.length : Int)) = true := decide_eq_true q2
    have hLt := later_is n (rd_T24 l0 (p : Int))
    obtain ⟨lt, hlt⟩ : ∃ lt, lt = ltrN n (rd_T24 l0 (p : Int)) := ⟨_, rfl⟩
    rw [← hlt] at hLt
    have HLT := Aside0.mk hlt
    have HCL := Aside0.mk hLt
    clear hlt hLt hown hgh
    go_upto_region 6 with fail
    go_cut [31] (fun v31 wc => v31 = .bool lt ∧ Aside0 (Below w.heap.size w wc) ∧ Aside0 (wc.heap[w.heap.size]? = some (.cells (boxN n) 24 (0, 0))) ∧ Aside0 (Kd.R k24 24 wc w.heap.size (fun _ => True) (.slice (some ⟨g, 0, none⟩) l0.length c1) l0))
    case first =>
      go_region_with (refine (register_Later.calls _ _ _ _ _ _ _ _ _ _ HCL.out).mono ?_; rintro e w' ⟨rfl, hb⟩)
      all_goals go_wp2_with (fail)
      all_goals go_meet
      all_goals exact ⟨rfl, ⟨below_step (below_drew HB4.out) hb⟩, ⟨(hb.block w.heap.size (by have := (Array.getElem?_eq_some_iff.1 HX4.out).1; exact this)).trans HX4.out⟩, ⟨Kd.R_below (Kd.R_drew HV4.out) hb⟩⟩
    case rest =>
      clear hx0 hx1 hx2 hx3 hy0 hy1 hy2 hy3 HX4 HB4 HV4
      obtain ⟨rfl, HB5, HX5, HV5⟩ := hcut
      have HCC : Aside0 (∀ j u, (cellNote (rd_T24 l0 (p : Int)))[j]? = some u → wc.cell? ⟨g, (p : Int).toNat * 4 + j, none⟩ = some u) := ⟨fun j u hu => by
        obtain ⟨ad, e0, hy0, hy1, hy2, hy3⟩ := at_T24 (Kd.R_reads' HV5.out).2.2 (p : Int) (by omega) (by omega)
        injection e0 with e0
        subst e0
        have ha : ∀ j, (⟨g, 0, none⟩ : Addr).add j = ⟨g, j, none⟩ := fun j => by simp [add_plain]
        rw [ha] at hy0 hy1 hy2 hy3
        simp only at hy0 hy1 hy2 hy3
        rcases j with _ | _ | _ | _ | j
        · injection hu with hu; subst hu; exact hy0
        · injection hu with hu; subst hu; exact hy1
        · injection hu with hu; subst hu; exact hy2
        · injection hu with hu; subst hu; exact hy3
        · cases hu⟩
      obtain ⟨hx0, hx1, hx2, hx3⟩ := boxN_cells HX5.out
      cases lt with
      | false =>
        have hr : r = (l0, 0) := by rw [HRR.out, ← HLT.out]; simp
        go_wp2_with fail
        go_ret2
        rw [hr]
        exact ⟨_, rfl, HV5.out, HB5.out⟩
      | true =>
        have hr : r = (l0.set p n, 0) := by rw [HRR.out, ← HLT.out]; simp
        go_wp2_with ((with_reducible refine gate_store (t := 24) (p := 44) rfl ?_); refine Kd.R_store k24 (w0 := w) w.heap.size rfl rfl 24 (.tmp 44) (.tmp 43) rfl 24 (p : Int) 0 l0 n (.agg (boxN n)) (cellNote n) (cellNote (rd_T24 l0 (p : Int))) (fun _ => True) (fun _ => False) rfl ?oo rfl rfl sizeInsNote ?h1 HV5.out (by omega) (by omega) rfl ?cc (Nat.le_refl 4) ?mm (fun _ h => h.elim) HB5.out ?_; (case oo => simp only [Int.toNat_natCast, Nat.add_zero]; rfl); (case h1 => intro u hu; simp only [cellNote, List.mem_cons, List.not_mem_nil, or_false] at hu; rcases hu with rfl | rfl | rfl | rfl <;> rfl); (case mm => exact k24_mkM _ _ _ n); (case cc => exact HCC.out); intro w6 hR6 hB6 hg6)
        go_ret2
        rw [hr]
        rw [Int.toNat_natCast] at hR6
        exact ⟨_, rfl, hR6, hB6⟩

theorem register_Set.calls (A0 : Option Addr) (c0 : Nat) (l0 : List Nt) (a1_0 : ByteArray) (a1_1 : Int) (a1_2 : Int) (a1_3 : ByteArray) (r1 : List Nt) (r2 : Int) (w : World) (hr0 : Kd.C k24 w A0 l0.length l0) (hc0 : l0.length ≤ c0) (h : register_Set.f l0 a1_0 a1_1 a1_2 a1_3 = some (r1, r2)) :
    Calls Try.prog 16 #[.slice A0 l0.length c0, .agg #[.string a1_0, .int .i64 a1_1, .int .i64 a1_2, .string a1_3]] w fun e w' => ∃ v0_ : Value, e = .returned (.tuple #[v0_, .int .i64 r2]) ∧ Kd.R k24 24 w' w.heap.size (fun _ => True) v0_ r1 ∧ Below w.heap.size w w' := by
  unfold register_Set.f at h
  cases hc : chkN l0 with
  | false =>
    rw [hc, Bool.false_and, if_neg (by decide)] at h
    have := set_no A0 c0 l0 ⟨a1_0, a1_1, a1_2, a1_3⟩ w hr0 hc0 hc
    simp only [Option.some.injEq, Prod.mk.injEq] at h
    obtain ⟨rfl, rfl⟩ := h
    exact this
  | true =>
    cases hn : okN ⟨a1_0, a1_1, a1_2, a1_3⟩ with
    | false =>
      rw [hc, hn, Bool.and_false, if_neg (by decide)] at h
      have := set_bad A0 c0 l0 ⟨a1_0, a1_1, a1_2, a1_3⟩ w hr0 hc0 hc hn
      simp only [Option.some.injEq, Prod.mk.injEq] at h
      obtain ⟨rfl, rfl⟩ := h
      exact this
    | true =>
      rw [hc, hn, Bool.and_true, if_pos rfl] at h
      have := set_go A0 c0 l0 ⟨a1_0, a1_1, a1_2, a1_3⟩ w hr0 hc0 hc hn
      simp only [Option.some.injEq] at h
      rw [h] at this
      exact this
end Go.Proofs.Ytfnpiclioikjpaa.X

/- tally.Add. -/
import Derived.Test.YtfnpiclioikjpaaTalP
import Derived.Test.YtfnpiclioikjpaaRowCell
import Derived.Test.YtfnpiclioikjpaaDelCell
import Derived.Test.YtfnpiclioikjpaaCloCell
import Derived.Deep.CutBlock
set_option linter.unusedSimpArgs false
set_option linter.unusedVariables false
namespace Go.Proofs.Ytfnpiclioikjpaa.X
open Go.RowKit Go.Proofs.YtfnpiclioikjpaaW.PrintWords Go.Proofs.YtfnpiclioikjpaaW.PrintLast Go.Proofs.YtfnpiclioikjpaaW.PrintMore

theorem sizeInt : (Try.prog.info? 3).map (·.size) = some 1 := by kernel_rfl
theorem chkC_call (A0 : Option Addr) (c0 : Nat) (l0 : List Ct) (w : World) (hr0 : Kd.C k47 w A0 l0.length l0) (hc0 : l0.length ≤ c0) :
    Calls Try.prog 29 #[.slice A0 l0.length c0] w fun e w' => e = .returned (.int .i64 (if chkC l0 = true then 0 else 1)) ∧ Below w.heap.size w w' := by
  obtain ⟨k, hk⟩ := (checkC_is l0).rounds
  exact tally_Check.calls k A0 c0 l0 _ w hr0 hc0 hk
def AddPost (w : World) (r : List Ct × Int) (e : Ending) (w' : World) : Prop := ∃ v0_ : Value, e = .returned (.tuple #[v0_, .int .i64 r.2]) ∧ Kd.R k47 47 w' w.heap.size (fun _ => True) v0_ r.1 ∧ Below w.heap.size w w'

set_option maxHeartbeats 4000000 in
set_option maxRecDepth 100000 in
theorem add_no (A0 : Option Addr) (c0 : Nat) (l0 : List Ct) (key : ByteArray) (n : Int) (w : World) (hr0 : Kd.C k47 w A0 l0.length l0) (hc0 : l0.length ≤ c0) (h : chkC l0 = false) :
    Calls Try.prog 27 #[.slice A0 l0.length c0, .string key, .int .i64 n] w (AddPost w ([], 1)) := by
  have HR := Aside0.mk hr0
  clear hr0
  go_enter Try.func27, Try.ntmps27
  go_wp2_with fail
  refine (chkC_call A0 c0 l0 _ HR.out hc0).mono ?_
  rintro e w' ⟨rfl, hb⟩
  rw [h, if_neg (by decide)]
  go_wp2_with fail
  go_ret2
  exact ⟨_, rfl, Kd.R_nil _ _ _ _ _, hb⟩
set_option maxHeartbeats 4000000 in
set_option maxRecDepth 100000 in
theorem add_bad (A0 : Option Addr) (c0 : Nat) (l0 : List Ct) (key : ByteArray) (n : Int) (w : World) (hr0 : Kd.C k47 w A0 l0.length l0) (hc0 : l0.length ≤ c0) (h : chkC l0 = true) (hk : keyOk key n = false) :
    Calls Try.prog 27 #[.slice A0 l0.length c0, .string key, .int .i64 n] w (AddPost w ([], 1)) := by
  have HR := Aside0.mk hr0
  clear hr0
  unfold keyOk at hk
  cases h1 : key.toList == ([] : List UInt8) with
  | true =>
    have h1' : key.toList.isEmpty = true := by simpa using h1
    clear hk
    go_enter Try.func27, Try.ntmps27
    go_wp2_with fail
    refine (chkC_call A0 c0 l0 _ HR.out hc0).mono ?_
    rintro e w' ⟨rfl, hb⟩
    rw [h, if_pos rfl]
    go_wp2_with fail
    go_ret2
    exact ⟨_, rfl, Kd.R_nil _ _ _ _ _, hb⟩
  | false =>
    have h1' : key.toList.isEmpty = false := by simpa using h1
    rw [h1, Bool.not_false, Bool.true_and] at hk
    by_cases h2 : (key.size : Int) ≤ 32
    · have h2' : decide ((32 : Int) < (key.size : Int)) = false := by simp; omega
      rw [decide_eq_true h2, Bool.true_and] at hk
      by_cases h3 : n ≤ 1000
      · have h3' : decide ((1000 : Int) < n) = false := by simp; omega
        rw [decide_eq_true h3, Bool.true_and, decide_eq_false_iff_not] at hk
        have h4' : decide (n < (-1000 : Int)) = true := by simp; omega
        clear hk
        go_enter Try.func27, Try.ntmps27
        go_wp2_with fail
        refine (chkC_call A0 c0 l0 _ HR.out hc0).mono ?_
        rintro e w' ⟨rfl, hb⟩
        rw [h, if_pos rfl]
        go_wp2_with fail
        go_ret2
        exact ⟨_, rfl, Kd.R_nil _ _ _ _ _, hb⟩
      · have h3' : decide ((1000 : Int) < n) = true := by simp; omega
        clear hk
        go_enter Try.func27, Try.ntmps27
        go_wp2_with fail
        refine (chkC_call A0 c0 l0 _ HR.out hc0).mono ?_
        rintro e w' ⟨rfl, hb⟩
        rw [h, if_pos rfl]
        go_wp2_with fail
        go_ret2
        exact ⟨_, rfl, Kd.R_nil _ _ _ _ _, hb⟩
    · have h2' : decide ((32 : Int) < (key.size : Int)) = true := by simp; omega
      clear hk
      go_enter Try.func27, Try.ntmps27
      go_wp2_with fail
      refine (chkC_call A0 c0 l0 _ HR.out hc0).mono ?_
      rintro e w' ⟨rfl, hb⟩
      rw [h, if_pos rfl]
      go_wp2_with fail
      go_ret2
      exact ⟨_, rfl, Kd.R_nil _ _ _ _ _, hb⟩

set_option maxHeartbeats 4000000 in
set_option maxRecDepth 100000 in
theorem add_go (A0 : Option Addr) (c0 : Nat) (l0 : List Ct) (key : ByteArray) (n : Int) (w : World) (hr0 : Kd.C k47 w A0 l0.length l0) (hc0 : l0.length ≤ c0) (h : chkC l0 = true) (hk : keyOk key n = true) :
    Calls Try.prog 27 #[.slice A0 l0.length c0, .string key, .int .i64 n] w (AddPost w (if chkC (putC l0 key n) = true then (putC l0 key n, 0) else ([], 6))) := by
  have HR := Aside0.mk hr0
  obtain ⟨hl4, _, hord⟩ := (chkC_iff l0).1 h
  unfold keyOk at hk
  simp only [Bool.and_eq_true, Bool.not_eq_true', decide_eq_true_eq] at hk
  obtain ⟨hk1, hk2, hk3, hk4⟩ := hk
  have hk1' : key.toList.isEmpty = false := by simpa using hk1
  have hk2' : decide ((32 : Int) < (key.size : Int)) = false := by simp; omega
  have hk3' : decide ((1000 : Int) < n) = false := by simp; omega
  have hk4' : decide (n < (-1000 : Int)) = false := by simp; omega
  have hfind : tally_find.f l0 key = some (((posK (ksCell l0) key : Nat) : Int), hasCell l0 key) := by
    unfold tally_find.f
    rw [if_pos ⟨hord, by omega⟩]
  have HFI := Aside0.mk hfind
  have hposl : posK (ksCell l0) key ≤ l0.length := by have := posK_le (ksCell l0) key; simpa [ksCell] using this
  obtain ⟨r, hr⟩ : ∃ r, r = putC l0 key n := ⟨_, rfl⟩
  rw [← hr]
  unfold putC at hr
  have hhas : hasCell l0 key = true → posK (ksCell l0) key < l0.length := by
    intro hh
    unfold hasCell at hh
    rw [Bool.and_eq_true, decide_eq_true_eq] at hh
    exact hh.1
  generalize posK (ksCell l0) key = p at *
  generalize hasCell l0 key = hs at *
  have hrl : r.length ≤ 4001 := by
    rw [hr]
    split
    · omega
    · split
      · split
        · simp only [List.length_append, List.length_take, List.length_drop]; omega
        · rw [List.length_set]; omega
      · simp only [List.length_append, List.length_cons, List.length_take, List.length_drop]; omega
  have HRR := Aside0.mk hr
  obtain ⟨ck, hck⟩ : ∃ ck, ck = chkC r := ⟨_, rfl⟩
  rw [← hck]
  have HCK := Aside0.mk hck
  obtain ⟨rr, hrr⟩ : ∃ rr, rr = (if ck = true then (r, (0 : Int)) else ([], 6)) := ⟨_, rfl⟩
  rw [← hrr]
  have HQ := Aside0.mk hrr
  clear hr0 hr hord hfind hck hrr
  go_enter Try.func27, Try.ntmps27
  go_wp2_with fail
  refine (chkC_call A0 c0 l0 _ HR.out hc0).mono ?_
  rintro e w1 ⟨rfl, hb1⟩
  rw [h, if_pos rfl]
  have HB2 := Aside0.mk hb1
  clear hb1
  go_wp2_with fail
  refine (api_Cell_59.calls A0 c0 l0 l0 _ (Kd.C_below HR.out HB2.out) hc0 (by unfold api_Cell_59.f; rw [if_pos (by omega)])).mono ?_
  rintro e w3 ⟨v0, rfl, hR3, hb3⟩
  have HB3 := Aside0.mk (below_step HB2.out hb3)
  have HV3 := Aside0.mk (Kd.R_lower hR3 (below_size HB2.out))
  obtain ⟨A1, c1, rfl, hc1, _⟩ := Kd.R_reads HV3.out
  clear hR3 hb3 HB2
  go_wp2_with fail
  refine (tally_find.calls A1 c1 l0 key _ _ _ (Kd.R_reads' HV3.out).2.2 hc1 HFI.out).mono ?_
  rintro e w4 ⟨rfl, hb4⟩
  have HB4 := Aside0.mk (below_step HB3.out hb4)
  have HV4 := Aside0.mk (Kd.R_below HV3.out hb4)
  clear HB3 HV3 hb4
  by_cases hn0 : n = 0
  · have hn0' : (n == 0) = true := by simp [hn0]
    have hr : r = l0 := by rw [HRR.out, if_pos hn0]
    have HV5 : Aside0 (Kd.R k47 47 w4 w.heap.size (fun _ => True) (.slice A1 l0.length c1) r) := ⟨by rw [hr]; exact HV4.out⟩
    have hlr : l0.length = r.length := by rw [hr]
    have hcr : r.length ≤ c1 := by rw [← hlr]; exact hc1
    rw [hlr] at HV5 ⊢
    have HB5 := HB4
    clear hr hlr
    go_wp2_with fail
    refine (chkC_call A1 c1 r _ (Kd.R_reads' HV5.out).2.2 hcr).mono ?_
    rintro e w6 ⟨rfl, hb6⟩
    rw [← HCK.out]
    have HB6 := Aside0.mk (below_step HB5.out hb6)
    have HV6 := Aside0.mk (Kd.R_below HV5.out hb6)
    clear hb6
    cases ck with
    | true =>
      have hq : rr = (r, 0) := by rw [HQ.out, if_pos rfl]
      rw [if_pos rfl]
      go_wp2_with fail
      go_ret2
      rw [hq]
      exact ⟨_, rfl, HV6.out, HB6.out⟩
    | false =>
      have hq : rr = ([], 6) := by rw [HQ.out, if_neg (by decide)]
      rw [if_neg (by decide)]
      go_wp2_with fail
      go_ret2
      rw [hq]
      exact ⟨_, rfl, Kd.R_nil _ _ _ _ _, HB6.out⟩
  · have hn0' : (n == 0) = false := by simp [hn0]
    cases hs with
    | false =>
      go_wp2_with fail
      have hV5 : Kd.R k47 47 (w4.alloc (.cells #[.string key, .int .i64 n] 47)) w.heap.size (fun _ => True) (.slice A1 l0.length c1) l0 := Kd.R_alloc HV4.out _
      have hlt := Kd.R_lt HV4.out
      refine (insertCell (.slice A1 l0.length c1) l0.length p (cellsCell l0) (cellCell ⟨key, n⟩) w4.heap.size w.heap.size w _ (ownRCell hV5) ?_ ?_ rfl (by intro u hu; simp only [cellCell, List.mem_cons, List.not_mem_nil, or_false] at hu; rcases hu with rfl | rfl <;> rfl) (cellsCell_one l0) hposl (by omega) (below_alloc HB4.out _) ?_).mono ?_
      · have := heap_alloc_new w4 (.cells #[.string key, .int .i64 n] 47)
        exact this
      · intro he
        have := hlt _ he.symm
        omega
      · have := below_size HB4.out
        rw [World.size_alloc]
        omega
      rintro e w5 ⟨v5, rfl, ho5, hb5⟩
      have hr : r = l0.take p ++ ⟨key, n⟩ :: l0.drop p := by rw [HRR.out, if_neg hn0, if_neg (by decide)]
      have HV5 : Aside0 (Kd.R k47 47 w5 w.heap.size (fun _ => True) v5 r) := ⟨RownCell (by rw [hr]; simp only [List.length_append, List.length_cons, List.length_take, List.length_drop]; omega) (by rw [hr]; exact ins_cellsCell l0 _ p) ho5⟩
      have HB5 := Aside0.mk hb5
      clear hb5 ho5 hlt hV5 hr
      obtain ⟨A5, c5, rfl, hc5, _⟩ := Kd.R_reads HV5.out
      go_wp2_with fail
      refine (chkC_call A5 c5 r _ (Kd.R_reads' HV5.out).2.2 hc5).mono ?_
      rintro e w6 ⟨rfl, hb6⟩
      rw [← HCK.out]
      have HB6 := Aside0.mk (below_step HB5.out hb6)
      have HV6 := Aside0.mk (Kd.R_below HV5.out hb6)
      clear hb6
      cases ck with
      | true =>
        have hq : rr = (r, 0) := by rw [HQ.out, if_pos rfl]
        rw [if_pos rfl]
        go_wp2_with fail
        go_ret2
        rw [hq]
        exact ⟨_, rfl, HV6.out, HB6.out⟩
      | false =>
        have hq : rr = ([], 6) := by rw [HQ.out, if_neg (by decide)]
        rw [if_neg (by decide)]
        go_wp2_with fail
        go_ret2
        rw [hq]
        exact ⟨_, rfl, Kd.R_nil _ _ _ _ _, HB6.out⟩
    | true =>
      have hpl := hhas rfl
      have hown := ownRCell HV4.out
      rcases hown.2 with ⟨_, h0⟩ | ⟨g, cap, cur, he, hgb, hgh, _, hcm, _, _⟩
      · omega
      injection he with h1 _ h2
      subst h1; subst h2
      have q1 : 0 ≤ (p : Int) := by omega
      have q2 : (p : Int) < (l0.length : Int) := by omega
      obtain ⟨ad, e0, hy0, hy1⟩ := at_T47 (Kd.R_reads' HV4.out).2.2 (p : Int) q1 q2
      injection e0 with e0
      subst e0
      simp only [Int.toNat_natCast] at hy0 hy1
      have ha : (⟨g, 0, none⟩ : Addr).add (p * 2) = ⟨g, p * 2, none⟩ := by simp [add_plain]
      rw [ha] at hy0 hy1
      simp only at hy0 hy1
      have hw1 : IntKind.i64.wrap (-n) = -n := by rw [IntKind.wrap_i64]; omega
      by_cases hneg : (rd_T47 l0 (p : Int)).f1 = -n
      · have hneg' : ((rd_T47 l0 (p : Int)).f1 == -n) = true := by simp [hneg]
        have hw2 : IntKind.i64.wrap ((p : Int) + 1) = (p : Int) + 1 := by rw [IntKind.wrap_i64]; omega
        go_wp2_with fail
        refine (deleteCell (.slice (some ⟨g, 0, none⟩) l0.length c1) l0.length p (cellsCell l0) w.heap.size w w4 (ownRCell HV4.out) (cellsCell_one l0) hpl (by omega) HB4.out).mono ?_
        rintro e w5 ⟨v5, rfl, ho5, hb5⟩
        have hr : r = l0.take p ++ l0.drop (p + 1) := by rw [HRR.out, if_neg hn0]; simp only [if_true]; rw [if_pos hneg]
        have HV5 : Aside0 (Kd.R k47 47 w5 w.heap.size (fun _ => True) v5 r) := ⟨RownCell (by rw [hr]; simp only [List.length_append, List.length_take, List.length_drop]; omega) (by rw [hr]; exact del_cellsCell l0 p) ho5⟩
        have HB5 := Aside0.mk hb5
        clear hb5 ho5 hr
        obtain ⟨A5, c5, rfl, hc5, _⟩ := Kd.R_reads HV5.out
        go_wp2_with fail
        refine (chkC_call A5 c5 r _ (Kd.R_reads' HV5.out).2.2 hc5).mono ?_
        rintro e w6 ⟨rfl, hb6⟩
        rw [← HCK.out]
        have HB6 := Aside0.mk (below_step HB5.out hb6)
        have HV6 := Aside0.mk (Kd.R_below HV5.out hb6)
        clear hb6
        cases ck with
        | true =>
          have hq : rr = (r, 0) := by rw [HQ.out, if_pos rfl]
          rw [if_pos rfl]
          go_wp2_with fail
          go_ret2
          rw [hq]
          exact ⟨_, rfl, HV6.out, HB6.out⟩
        | false =>
          have hq : rr = ([], 6) := by rw [HQ.out, if_neg (by decide)]
          rw [if_neg (by decide)]
          go_wp2_with fail
          go_ret2
          rw [hq]
          exact ⟨_, rfl, Kd.R_nil _ _ _ _ _, HB6.out⟩
      · have hneg' : ((rd_T47 l0 (p : Int)).f1 == -n) = false := by simp [hneg]
        have hr : r = l0.set p ⟨(rd_T47 l0 (p : Int)).f0, wrap64 ((rd_T47 l0 (p : Int)).f1 + n)⟩ := by rw [HRR.out, if_neg hn0]; simp only [if_true]; rw [if_neg hneg]
        have HCC : Aside0 (∀ j u, (cellCell (rd_T47 l0 (p : Int)))[j]? = some u → w4.cell? ⟨g, (p : Int).toNat * 2 + j, none⟩ = some u) := ⟨fun j u hu => by
          rw [Int.toNat_natCast]
          rcases j with _ | _ | j
          · injection hu with hu; subst hu; exact hy0
          · injection hu with hu; subst hu; exact hy1
          · cases hu⟩
        go_wp2_with ((with_reducible refine gate_store (t := 3) (p := 47) rfl ?_); refine Kd.R_store k47 (w0 := w) w.heap.size rfl rfl 3 (.tmp 47) (.tmp 45) rfl 47 (p : Int) 1 l0 ⟨(rd_T47 l0 (p : Int)).f0, wrap64 ((rd_T47 l0 (p : Int)).f1 + n)⟩ (.int .i64 (wrap64 ((rd_T47 l0 (p : Int)).f1 + n))) [.int .i64 (wrap64 ((rd_T47 l0 (p : Int)).f1 + n))] (cellCell (rd_T47 l0 (p : Int))) (fun _ => True) (fun _ => False) rfl ?oo rfl rfl sizeInt ?h1 HV4.out (by omega) (by omega) rfl ?cc (Nat.le_refl 2) ?mm (fun _ h => h.elim) HB4.out ?_; (case oo => simp only [Int.toNat_natCast]; rfl); (case h1 => intro u hu; simp only [List.mem_cons, List.not_mem_nil, or_false] at hu; subst hu; rfl); (case mm => exact k47_mkM _ _ _ ⟨(rd_T47 l0 (p : Int)).f0, wrap64 ((rd_T47 l0 (p : Int)).f1 + n)⟩); (case cc => exact HCC.out); intro w5 hR5 hB5 hg5)
        obtain ⟨v5, hv5⟩ : ∃ v5, v5 = Value.slice (some ⟨g, 0, none⟩) l0.length c1 := ⟨_, rfl⟩
        have hlr : l0.length = r.length := by rw [hr, List.length_set]
        rw [Int.toNat_natCast] at hR5
        have HV5 : Aside0 (Kd.R k47 47 w5 w.heap.size (fun _ => True) (.slice (some ⟨g, 0, none⟩) r.length c1) r) := ⟨by rw [← hlr, hr]; exact hR5⟩
        have HB5 := Aside0.mk hB5
        rw [hlr]
        have hcr : r.length ≤ c1 := by rw [← hlr]; exact hc1
        clear hR5 hB5 hg5 hr hlr hv5
        refine (chkC_call (some ⟨g, 0, none⟩) c1 r _ (Kd.R_reads' HV5.out).2.2 hcr).mono ?_
        rintro e w6 ⟨rfl, hb6⟩
        rw [← HCK.out]
        have HB6 := Aside0.mk (below_step HB5.out hb6)
        have HV6 := Aside0.mk (Kd.R_below HV5.out hb6)
        clear hb6
        cases ck with
        | true =>
          have hq : rr = (r, 0) := by rw [HQ.out, if_pos rfl]
          rw [if_pos rfl]
          go_wp2_with fail
          go_ret2
          rw [hq]
          exact ⟨_, rfl, HV6.out, HB6.out⟩
        | false =>
          have hq : rr = ([], 6) := by rw [HQ.out, if_neg (by decide)]
          rw [if_neg (by decide)]
          go_wp2_with fail
          go_ret2
          rw [hq]
          exact ⟨_, rfl, Kd.R_nil _ _ _ _ _, HB6.out⟩

theorem tally_Add.calls (A0 : Option Addr) (c0 : Nat) (l0 : List Ct) (a1 : ByteArray) (a2 : Int) (r1 : List Ct) (r2 : Int) (w : World) (hr0 : Kd.C k47 w A0 l0.length l0) (hc0 : l0.length ≤ c0) (h : tally_Add.f l0 a1 a2 = some (r1, r2)) :
    Calls Try.prog 27 #[.slice A0 l0.length c0, .string a1, .int .i64 a2] w fun e w' => ∃ v0_ : Value, e = .returned (.tuple #[v0_, .int .i64 r2]) ∧ Kd.R k47 47 w' w.heap.size (fun _ => True) v0_ r1 ∧ Below w.heap.size w w' := by
  unfold tally_Add.f at h
  cases hc : chkC l0 with
  | false =>
    rw [hc, Bool.false_and, if_neg (by decide)] at h
    have := add_no A0 c0 l0 a1 a2 w hr0 hc0 hc
    simp only [Option.some.injEq, Prod.mk.injEq] at h
    obtain ⟨rfl, rfl⟩ := h
    exact this
  | true =>
    cases hn : keyOk a1 a2 with
    | false =>
      rw [hc, hn, Bool.and_false, if_neg (by decide)] at h
      have := add_bad A0 c0 l0 a1 a2 w hr0 hc0 hc hn
      simp only [Option.some.injEq, Prod.mk.injEq] at h
      obtain ⟨rfl, rfl⟩ := h
      exact this
    | true =>
      rw [hc, hn, Bool.and_true, if_pos rfl] at h
      have := add_go A0 c0 l0 a1 a2 w hr0 hc0 hc hn
      cases hq : chkC (putC l0 a1 a2) with
      | true =>
        rw [hq, if_pos rfl] at h this
        simp only [Option.some.injEq] at h
        rw [h] at this
        exact this
      | false =>
        rw [hq, if_neg (by decide)] at h this
        simp only [Option.some.injEq] at h
        rw [h] at this
        exact this
end Go.Proofs.Ytfnpiclioikjpaa.X

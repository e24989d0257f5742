/- hucksterref12.Set, of a register that came in. -/
import Derived.Test.YtfnpiclioikjpaaESet
import Derived.Test.YtfnpiclioikjpaaRegQ
import Derived.Test.YtfnpiclioikjpaaXhucksterref12Get
import Derived.Test.YtfnpiclioikjpaaXhucksterref12Later
import Derived.LoopTactic
import Derived.Great.BuildSlice
set_option linter.unusedSimpArgs false
set_option linter.unusedVariables false
namespace Go.Proofs.Ytfnpiclioikjpaa.X
open Go.RowKit Go.Proofs.YtfnpiclioikjpaaW.PrintWords Go.Proofs.YtfnpiclioikjpaaW.PrintLast Go.Proofs.YtfnpiclioikjpaaW.PrintMore

def refR (n : Nt) : Bool → List Nt → List Nt
  | d, [] => if d = true then [] else [n]
  | d, x :: l => (if (!d && !blt x.f0 n.f0) = true then [n] else []) ++ ((if x.f0 = n.f0 then [] else [x]) ++ refR n (d || !blt x.f0 n.f0) l)
def RefPost (w : World) (R : List Nt) (e : Ending) (w' : World) : Prop := ∃ (A : Option Addr) (c : Nat), e = .returned (.slice A R.length c) ∧ R.length ≤ c ∧ Kd.C k24 w' A R.length R ∧ Below w.heap.size w w'
theorem laterR_is (x y : Nt) : hucksterref12_Later.f x.f0 x.f1 x.f2 x.f3 y.f0 y.f1 y.f2 y.f3 = some (ltrN x y) := later_is x y

set_option maxHeartbeats 4000000 in
set_option maxRecDepth 100000 in
theorem refSet_reads (A0 : Option Addr) (c0 : Nat) (l0 : List Nt) (n was : Nt) (k : Nat) (w : World) (hr0 : Kd.C k24 w A0 l0.length l0) (hc0 : l0.length ≤ c0) (hl : l0.length ≤ 4000) (hget : hucksterref12_Get.f k l0 n.f0 = some (was.f0, was.f1, was.f2, was.f3)) :
    Calls Try.prog 23 #[.slice A0 l0.length c0, .agg #[.string n.f0, .int .i64 n.f1, .int .i64 n.f2, .string n.f3]] w (RefPost w (if (!(was.f0.toList == ([] : List UInt8)) && !ltrN n was) = true then l0 else refR n false l0)) := by
  have HR := Aside0.mk hr0
  obtain ⟨keep, hkeep⟩ : ∃ keep, keep = (!(was.f0.toList == ([] : List UInt8)) && !ltrN n was) := ⟨_, rfl⟩
  rw [← hkeep]
  have HK := Aside0.mk hkeep
  have HL := Aside0.mk (laterR_is n was)
  obtain ⟨R, hRR⟩ : ∃ R, R = (if keep = true then l0 else refR n false l0) := ⟨_, rfl⟩
  rw [← hRR]
  have HRR := Aside0.mk hRR
  clear hr0 hkeep hRR
  go_enter Try.func23, Try.ntmps23
  go_wp2_with fail
  refine (hucksterref12_Get.calls k A0 c0 l0 n.f0 was.f0 was.f1 was.f2 was.f3 _ (Kd.C_alloc HR.out _) hc0 hget).mono ?_
  rintro e w1 ⟨rfl, hb1⟩
  have HB1 := Aside0.mk (below_step (below_alloc (Below.refl w.heap.size w) _) hb1)
  have HX1 := Aside0.mk (boxN_new (n := n) hb1)
  clear hb1
  have hlt1 : w.heap.size < w1.heap.size := (Array.getElem?_eq_some_iff.1 HX1.out).1
  have hbx : (w1.alloc (.cells #[.string was.f0, .int .i64 was.f1, .int .i64 was.f2, .string was.f3] 24)).heap[w.heap.size]? = some (.cells (boxN n) 24 (0, 0)) := ((below_alloc (Below.refl w1.heap.size w1) _).block w.heap.size hlt1).trans HX1.out
  have HX2 := Aside0.mk hbx
  have HB2 := Aside0.mk (below_alloc HB1.out (.cells #[.string was.f0, .int .i64 was.f1, .int .i64 was.f2, .string was.f3] 24))
  obtain ⟨hx0, hx1, hx2, hx3⟩ := boxN_cells hbx
  clear hbx HX1 HB1
  go_upto_region 2 with fail
  (try simp only [Act.put, List.setIfInBounds_toArray, List.set_cons_zero, List.set_cons_succ])
  go_cut [21] (fun v21 wc => ∃ (kk : Bool), v21 = .bool kk ∧ kk = keep ∧ Aside0 (Below w.heap.size w wc) ∧ Aside0 (wc.heap[w.heap.size]? = some (.cells (boxN n) 24 (0, 0))))
  case first =>
    cases h0 : (was.f0.toList == ([] : List UInt8)) with
    | true =>
      have h0' : was.f0.toList.isEmpty = true := by simpa using h0
      have hkp : keep = false := by rw [HK.out, h0]; rfl
      subst hkp
      go_wp2_with fail
      go_meet
      exact ⟨false, rfl, rfl, HB2, HX2⟩
    | false =>
      have h0' : was.f0.toList.isEmpty = false := by simpa using h0
      have hkp : keep = !ltrN n was := by rw [HK.out, h0]; rfl
      subst hkp
      go_wp2_with fail
      refine (hucksterref12_Later.calls _ _ _ _ _ _ _ _ _ _ HL.out).mono ?_
      rintro e w2 ⟨rfl, hb2⟩
      go_wp2_with fail
      go_meet
      exact ⟨_, rfl, rfl, ⟨below_step HB2.out hb2⟩, ⟨(hb2.block w.heap.size (Array.getElem?_eq_some_iff.1 HX2.out).1).trans HX2.out⟩⟩
  case rest =>
    clear hx0 hx1 hx2 hx3 HX2 HB2
    obtain ⟨kk, rfl, rfl, HB, HX⟩ := hcut
    cases kk with
    | true =>
      have hR : R = l0 := by rw [HRR.out, if_pos rfl]
      subst hR
      go_wp2_with fail
      go_ret
      exact ⟨A0, c0, rfl, hc0, Kd.C_below HR.out HB.out, HB.out⟩
    | false =>
      have hR : R = refR n false l0 := by rw [HRR.out, if_neg (by decide)]
      have HRE := Aside0.mk hR
      clear hR
      go_wp2_with (((with_reducible refine gate_dst (N := 23) rfl ?_); (try (refine gate_guard (by rfl) ?_; dsimp only)); refine Kd.R_lit k24 _ 24 ?hg (N := 23) ?hd (xs := ([] : List Nt)) (inner := []) (ok := fun _ => True) (okp := fun _ => True) ?hr ?hp (fun _ hk => hk) trivial (Below.refl _ _) (Nat.le_refl _) (by simp) ?_; (case hd => rfl); (case hg => rfl); (case hr => first | (go_simp; done) | (go_simp; rfl)); (case hp => exact (Reps.none _ _)); intro v6 w3 ho3 hb3 hg_ hnew_; clear hg_ hnew_))
      have hlt := (Array.getElem?_eq_some_iff.1 HX.out).1
      have HV3 := Aside0.mk (Kd.R_lower (Kd.R_mono (ok' := fun k_ => k_ ≠ w.heap.size) (Kd.R_bound ho3) (fun k hk => by have := hk.2.1; omega)) (below_size HB.out))
      have HX3 := Aside0.mk ((hb3.block w.heap.size hlt).trans HX.out)
      have HB3 := Aside0.mk (below_step HB.out hb3)
      clear ho3 hb3 hlt HX HB
      go_loopw [6, 7, 8] (fun v6 v7 v8 w' => ∃ (x6 : List Nt) (d : Bool) (pos : Nat), v7 = .bool d ∧ v8 = .int .i64 (pos : Int) ∧ pos ≤ l0.length ∧ x6.length ≤ 2 * pos ∧ Aside0 (x6 ++ refR n d (l0.drop pos) = R) ∧ Aside0 (Kd.R k24 24 w' w.heap.size (fun k_ => k_ ≠ w.heap.size) v6 x6) ∧ Aside0 (w'.heap[w.heap.size]? = some (.cells (boxN n) 24 (0, 0))) ∧ Aside0 (Below w.heap.size w w')) (fun _ _ v8 _ => ((l0.length : Int) - intV v8).toNat)
      case atStart => exact ⟨[], false, 0, rfl, rfl, Nat.zero_le _, Nat.le_refl _, ⟨by rw [HRE.out]; rfl⟩, HV3, HX3, HB3⟩
      case round =>
        obtain ⟨x6, d, pos, rfl, rfl, hpl, hxl, HE, HV, HX, HB⟩ := hrel
        by_cases hp : pos < l0.length
        · have hp' : decide ((pos : Int) < (l0.length : Int)) = true := by simp; omega
          have hdr : l0.drop pos = rd_T24 l0 (pos : Int) :: l0.drop (pos + 1) := rd_drop l0 pos hp
          have HDR := Aside0.mk hdr
          clear hdr
          have p1 : 0 ≤ (pos : Int) := by omega
          have p2 : (pos : Int) < (l0.length : Int) := by omega
          obtain ⟨ad, e0, hy0, hy1, hy2, hy3⟩ := at_T24 HR.out (pos : Int) p1 p2
          cases e0
          have HY0 := Aside0.mk hy0; have HY1 := Aside0.mk hy1; have HY2 := Aside0.mk hy2; have HY3 := Aside0.mk hy3
          clear hy0 hy1 hy2 hy3
          have hw1 : IntKind.i64.wrap ((pos : Int) + 1) = (pos : Int) + 1 := by rw [IntKind.wrap_i64]; omega
          replace p1 := eq_true p1
          replace p2 := eq_true p2
          have hcell : ∀ (W : World), Below w.heap.size w W → W.cell? (ad.add ((pos : Int).toNat * 4)) = some (.string (rd_T24 l0 (pos : Int)).f0) ∧ W.cell? ⟨(ad.add ((pos : Int).toNat * 4)).block, (ad.add ((pos : Int).toNat * 4)).off + 1, none⟩ = some (.int .i64 (rd_T24 l0 (pos : Int)).f1) ∧ W.cell? ⟨(ad.add ((pos : Int).toNat * 4)).block, (ad.add ((pos : Int).toNat * 4)).off + 2, none⟩ = some (.int .i64 (rd_T24 l0 (pos : Int)).f2) ∧ W.cell? ⟨(ad.add ((pos : Int).toNat * 4)).block, (ad.add ((pos : Int).toNat * 4)).off + 3, none⟩ = some (.string (rd_T24 l0 (pos : Int)).f3) := fun W hB =>
            ⟨(hB.cell (World.block_lt_of_cell? w _ HY0.out)).trans HY0.out, (hB.cell (World.block_lt_of_cell? w _ HY1.out)).trans HY1.out, (hB.cell (World.block_lt_of_cell? w _ HY2.out)).trans HY2.out, (hB.cell (World.block_lt_of_cell? w _ HY3.out)).trans HY3.out⟩
          have HCELL := Aside0.mk hcell
          clear hcell
          obtain ⟨hx0, hx1, hx2, hx3⟩ := boxN_cells HX.out
          obtain ⟨hy0, hy1, hy2, hy3⟩ := HCELL.out _ HB.out
          simp only [Int.toNat_natCast] at hy0 hy1 hy2 hy3
          obtain ⟨at_, hat⟩ : ∃ at_ : Bool, at_ = (!d && !blt (rd_T24 l0 (pos : Int)).f0 n.f0) := ⟨_, rfl⟩
          have HAT := Aside0.mk hat
          clear hat
          go_upto_region 9 with fail
          go_cut [41] (fun v41 wc => ∃ (b : Bool), v41 = .bool b ∧ b = at_ ∧ Aside0 (Below w.heap.size w wc) ∧ Aside0 (wc.heap[w.heap.size]? = some (.cells (boxN n) 24 (0, 0))) ∧ Aside0 (Kd.R k24 24 wc w.heap.size (fun k_ => k_ ≠ w.heap.size) u6 x6))
          case first =>
            cases d with
            | true =>
              go_quiet (fail)
              try go_wp2_with fail
              go_meet
              exact ⟨_, rfl, by rw [HAT.out]; rfl, ⟨pw_below_drewN HB.out _⟩, ⟨blk_drewN HX.out _⟩, ⟨Kd.R_drewN HV.out _⟩⟩
            | false =>
              go_quiet (fail)
              try go_wp2_with fail
              go_meet
              exact ⟨_, rfl, by rw [HAT.out]; rfl, ⟨pw_below_drewN HB.out _⟩, ⟨blk_drewN HX.out _⟩, ⟨Kd.R_drewN HV.out _⟩⟩
          case rest =>
            clear hx0 hx1 hx2 hx3 hy0 hy1 hy2 hy3 HX HB HV
            obtain ⟨b41, rfl, hb41, HB, HX, HV⟩ := hcut
            have HBA := Aside0.mk hb41
            clear hb41
            go_upto_if 41 with fail
            go_cut [6, 7] (fun v6 v7 wc => ∃ (y6 : List Nt) (d' : Bool), v7 = .bool d' ∧ Aside0 (d' = (d || b41)) ∧ Aside0 (y6 = x6 ++ (if b41 = true then [n] else [])) ∧ Aside0 (Below w.heap.size w wc) ∧ Aside0 (wc.heap[w.heap.size]? = some (.cells (boxN n) 24 (0, 0))) ∧ Aside0 (Kd.R k24 24 wc w.heap.size (fun k_ => k_ ≠ w.heap.size) v6 y6))
            case first =>
              obtain ⟨hx0, hx1, hx2, hx3⟩ := boxN_cells HX.out
              cases b41 with
              | false =>
                go_wp2_with fail
                go_meet
                exact ⟨x6, d, rfl, ⟨by simp⟩, ⟨by simp⟩, HB, HX, HV⟩
              | true =>
                go_wp2_with (((with_reducible refine gate_builtin (b := .append) (xs := #[.tmp 42, .tmp 44]) rfl ?_); at_builtin; refine Kd.R_append k24 (w0 := w) w.heap.size rfl (.tmp 42) (.tmp 44) 22 24 (.agg #[(.string ⟨#[]⟩), (.int .i64 0), (.int .i64 0), (.string ⟨#[]⟩)]) 48 rfl Try.underlying22 info24 rfl (by decide) (by omega) u6 x6 n [.string n.f0, .int .i64 n.f1, .int .i64 n.f2, .string n.f3] (fun k_ => k_ ≠ w.heap.size) (fun _ => False) rfl rfl ?aP (fun _ hk => hk.elim) ?aF ?aO ?aB ?aS ?aL ?_; (case aP => exact k24_mkM _ _ _ n); (case aF => intro k hk; have h1 := (Array.getElem?_eq_some_iff.1 HX.out).1; have hk' : wc.heap.size ≤ k := hk; show k ≠ w.heap.size; omega); (case aO => exact HV.out); (case aB => exact HB.out); (case aS => exact below_size (HB.out)); (case aL => omega); intro v9 w9 ho9 hb9 hg9 hat9; have HV9 := Aside0.mk ho9; have HB9 := Aside0.mk hb9; have HX9 := Aside0.mk ((hg9.block w.heap.size (Array.getElem?_eq_some_iff.1 HX.out).1 (fun e => (HV.out.1 _ e.symm) rfl)).trans HX.out); clear ho9 hb9 hg9 hat9))
                go_meet
                exact ⟨_, true, rfl, ⟨by simp⟩, ⟨by simp⟩, HB9, HX9, HV9⟩
            case rest =>
              clear HX HB HV
              obtain ⟨y6, d', rfl, HD, HY, HB, HX, HV⟩ := hcut
              obtain ⟨hx0, hx1, hx2, hx3⟩ := boxN_cells HX.out
              obtain ⟨hy0, hy1, hy2, hy3⟩ := HCELL.out _ HB.out
              simp only [Int.toNat_natCast] at hy0 hy1 hy2 hy3
              have hyl : y6.length ≤ 2 * pos + 1 := by rw [HY.out, List.length_append]; split <;> simp <;> omega
              cases heq : ((rd_T24 l0 (pos : Int)).f0.toList == n.f0.toList) with
              | true =>
                have heq2 : (rd_T24 l0 (pos : Int)).f0 = n.f0 := bytes_eq (by simpa using heq)
                go_wp2_with fail
                go_quiet (fail)
                go_wp2_with fail
                go_roundw
                case rel =>
                  refine ⟨y6, d', pos + 1, rfl, rfl, by omega, by omega, ⟨?_⟩, ⟨Kd.R_drewN HV.out _⟩, ⟨blk_drewN HX.out _⟩, ⟨pw_below_drewN HB.out _⟩⟩
                  rw [← HE.out, HY.out, HD.out, HDR.out, refR, if_pos heq2, List.nil_append, HBA.out, HAT.out]
                  cases d <;> cases blt (rd_T24 l0 (pos : Int)).f0 n.f0 <;> simp
                case measure => simp only [intV]; omega
              | false =>
                have heq2 : ¬ (rd_T24 l0 (pos : Int)).f0 = n.f0 := fun e => by rw [e] at heq; simp at heq
                go_wp2_with fail
                go_quiet (fail)
                go_wp2_with (((with_reducible refine gate_builtin (b := .append) (xs := #[.tmp 54, .tmp 59]) rfl ?_); at_builtin; refine Kd.R_append k24 (w0 := w) w.heap.size rfl (.tmp 54) (.tmp 59) 22 24 (.agg #[(.string ⟨#[]⟩), (.int .i64 0), (.int .i64 0), (.string ⟨#[]⟩)]) 48 rfl Try.underlying22 info24 rfl (by decide) (by omega) u6 y6 (rd_T24 l0 (pos : Int)) [.string (rd_T24 l0 (pos : Int)).f0, .int .i64 (rd_T24 l0 (pos : Int)).f1, .int .i64 (rd_T24 l0 (pos : Int)).f2, .string (rd_T24 l0 (pos : Int)).f3] (fun k_ => k_ ≠ w.heap.size) (fun _ => False) rfl rfl ?aP (fun _ hk => hk.elim) ?aF ?aO ?aB ?aS ?aL ?_; (case aP => exact k24_mkM _ _ _ (rd_T24 l0 (pos : Int))); (case aF => intro k hk; have h1 := (Array.getElem?_eq_some_iff.1 HX.out).1; have hk' : wc.heap.size ≤ k := hk; show k ≠ w.heap.size; omega); (case aO => exact (Kd.R_drewN HV.out _)); (case aB => exact (pw_below_drewN HB.out _)); (case aS => exact below_size ((pw_below_drewN HB.out _))); (case aL => omega); intro v9 w9 ho9 hb9 hg9 hat9; have HV9 := Aside0.mk ho9; have HB9 := Aside0.mk hb9; have HX9 := Aside0.mk ((hg9.block w.heap.size (Array.getElem?_eq_some_iff.1 HX.out).1 (fun e => (HV.out.1 _ e.symm) rfl)).trans HX.out); clear ho9 hb9 hg9 hat9))
                go_roundw
                case rel =>
                  refine ⟨_, d', pos + 1, rfl, rfl, by omega, by simp; omega, ⟨?_⟩, HV9, HX9, HB9⟩
                  rw [← HE.out, HY.out, HD.out, HDR.out, refR, if_neg heq2, HBA.out, HAT.out]
                  cases d <;> cases blt (rd_T24 l0 (pos : Int)).f0 n.f0 <;> simp
                case measure => simp only [intV]; omega
        · have hp' : decide ((pos : Int) < (l0.length : Int)) = false := by simp; omega
          have hpe : pos = l0.length := by omega
          have hE := HE.out
          rw [List.drop_eq_nil_of_le (by omega)] at hE
          obtain ⟨hx0, hx1, hx2, hx3⟩ := boxN_cells HX.out
          obtain ⟨wc, hwc⟩ : ∃ wc, wc = wr := ⟨_, rfl⟩
          subst hwc
          cases d with
          | true =>
            have hR : R = x6 := by rw [← hE]; simp [refR]
            subst hR
            clear hE
            go_wp2_with fail
            obtain ⟨A6, c6, rfl, hc6, hC6⟩ := Kd.R_reads HV.out
            go_ret
            exact ⟨A6, c6, rfl, hc6, hC6, HB.out⟩
          | false =>
            have hR : R = x6 ++ [n] := by rw [← hE]; simp [refR]
            subst hR
            clear hE HE HRE
            go_wp2_with (((with_reducible refine gate_builtin (b := .append) (xs := #[.tmp 63, .tmp 65]) rfl ?_); at_builtin; refine Kd.R_append k24 (w0 := w) w.heap.size rfl (.tmp 63) (.tmp 65) 22 24 (.agg #[(.string ⟨#[]⟩), (.int .i64 0), (.int .i64 0), (.string ⟨#[]⟩)]) 48 rfl Try.underlying22 info24 rfl (by decide) (by omega) u6 x6 n [.string n.f0, .int .i64 n.f1, .int .i64 n.f2, .string n.f3] (fun k_ => k_ ≠ w.heap.size) (fun _ => False) rfl rfl ?aP (fun _ hk => hk.elim) ?aF ?aO ?aB ?aS ?aL ?_; (case aP => exact k24_mkM _ _ _ n); (case aF => intro k hk; have h1 := (Array.getElem?_eq_some_iff.1 HX.out).1; have hk' : wc.heap.size ≤ k := hk; show k ≠ w.heap.size; omega); (case aO => exact HV.out); (case aB => exact HB.out); (case aS => exact below_size (HB.out)); (case aL => omega); intro v9 w9 ho9 hb9 hg9 hat9; have HV9 := Aside0.mk ho9; have HB9 := Aside0.mk hb9; have HX9 := Aside0.mk ((hg9.block w.heap.size (Array.getElem?_eq_some_iff.1 HX.out).1 (fun e => (HV.out.1 _ e.symm) rfl)).trans HX.out); clear ho9 hb9 hg9 hat9))
            obtain ⟨A6, c6, rfl, hc6, hC6⟩ := Kd.R_reads HV9.out
            go_ret
            exact ⟨A6, c6, rfl, hc6, hC6, HB9.out⟩
end Go.Proofs.Ytfnpiclioikjpaa.X

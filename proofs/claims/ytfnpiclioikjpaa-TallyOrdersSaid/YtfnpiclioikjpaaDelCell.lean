/- slices.Delete of one element of type Cell out of a row of the call's own, told cell by cell. -/
import Derived.Test.YtfnpiclioikjpaaInsCell
set_option linter.unusedSimpArgs false
set_option linter.unusedVariables false
namespace Go.Proofs.Ytfnpiclioikjpaa.X
open Go.RowKit Go.Proofs.YtfnpiclioikjpaaW.PrintWords

set_option maxRecDepth 100000 in
set_option maxHeartbeats 4000000 in
theorem deleteCell (v : Value) (n i : Nat) (cs : List Value) (base : Nat) (w0 w : World) (ho : w.ownsRow base 47 2 v n cs)
    (h1c : ∀ u ∈ cs, u.oneCell' = true) (hi : i < n) (hn : n ≤ 1000000000) (hB : Below base w0 w) :
    Calls Try.prog 62 #[v, .int .i64 (i : Int), .int .i64 ((i : Int) + 1)] w (InsPostCell base w0 (n - 1) (delCells cs (i * 2) 2)) := by
  obtain ⟨i0, hi0, hz0, hzs, hzb⟩ := info_parts infoInsCell
  have hcl := ho.1
  obtain ⟨A, c, rfl⟩ := own_slice ho
  rcases ho.2 with ⟨_, h0⟩ | ⟨g, cap, cur, he, hgb, hh, hnc, hcm, hcs, hpre⟩
  · omega
  injection he with h1 _ h2
  subst h1; subst h2
  have hg : w.heap[g]? = some (.cells cur.toList.toArray 47 (0, 0)) := by rw [Array.toArray_toList]; exact hh
  have hcur : cur.toList.length = c * 2 := by rw [Array.length_toList]; exact hcs
  generalize cur.toList = cur at *
  have hc63 : c ≤ 9223372036854775807 := by simp only [maxLen] at hcm; omega
  obtain ⟨zs, hzd⟩ : ∃ zs : List Value, Hid (zs = (Builtin.zeroCells ((.agg #[(.string ⟨#[]⟩), (.int .i64 0)]) : Value).cells 1).toList) := ⟨_, Lib.hid rfl⟩
  have hzl : zs.length = 2 := by
    rw [hzd.out, Array.length_toList, size_zeroCells, show ((.agg #[(.string ⟨#[]⟩), (.int .i64 0)]) : Value).cells.size = 2 from rfl]
  have hz1 : ∀ u ∈ zs, u.oneCell' = true := by
    rw [hzd.out]
    decide +kernel
  obtain ⟨c1, hc1⟩ : ∃ c1, Hid (c1 = cur.take (i * 2) ++ (cs.drop (i * 2 + 2) ++ cur.drop (i * 2 + (cs.drop (i * 2 + 2)).length))) := ⟨_, Lib.hid rfl⟩
  obtain ⟨c2, hc2⟩ : ∃ c2, Hid (c2 = c1.take (cs.length - 2) ++ (zs ++ c1.drop (cs.length - 2 + zs.length))) := ⟨_, Lib.hid rfl⟩
  have hmv := Lib.hid (move_up cur cs zs (i * 2) 2 hzl (by omega) (by omega) (by rw [hcl]; exact hpre) c1 c2 hc1.out hc2.out)
  have hdl : (cs.drop (i * 2 + 2)).length = (n - (i + 1)) * 2 := by rw [List.length_drop, hcl]; omega
  have hl1 : c1.length = cur.length := by rw [hc1.out]; exact over_length _ _ _ (by omega)
  have hap : ∀ (A1 : Addr), (0 < n - (i + 1) → A1 = ⟨g, (i + 1) * 2, none⟩) → ∀ ty mc, (Builtin.append_ #[42, 42] ty #[.slice (some ⟨g, 0, none⟩) i c, .slice (some A1) (n - (i + 1)) mc]).run Try.prog w.drew = .ok (.slice (some ⟨g, 0, none⟩) (n - 1) c) (w.drew.setRow g c1.toArray) := by
    intro A1 hA1 ty mc
    have h := run_append_gen (P := Try.prog) w.drew 42 ty 47 g i c A1 (n - (i + 1)) mc cur 47 (cs.drop (i * 2 + 2)) 2 Try.underlying42 sizeInsCell hg (by omega) hdl
      (fun j v hj => by
        have hjl : j < (cs.drop (i * 2 + 2)).length := (List.getElem?_eq_some_iff.1 hj).1
        rw [hA1 (by omega)]
        have hadd : (⟨g, (i + 1) * 2, none⟩ : Addr).add j = ⟨g, (i + 1) * 2 + j, none⟩ := Addr.add_lit _ _ _
        rw [hadd, cell_of_row w.drew g ((i + 1) * 2 + j) cur.toArray 47 (0, 0) hg, show (i + 1) * 2 + j = i * 2 + 2 + j by omega]
        rw [List.getElem?_drop] at hj
        rw [← hpre, List.getElem?_take] at hj
        split at hj
        · simpa using hj
        · cases hj) (by omega) (fun v hv => h1c v (List.mem_of_mem_drop hv))
    rw [h, show i + (n - (i + 1)) = n - 1 by omega, ← hc1.out]
  obtain ⟨W1, hW1⟩ : ∃ W1, Hid (W1 = w.drew.setRow g c1.toArray) := ⟨_, Lib.hid rfl⟩
  rw [← hW1.out] at hap
  have hg1 : W1.heap[g]? = some (.cells c1.toArray 47 (0, 0)) := by rw [hW1.out]; exact setRow_heap w.drew g _ _ 47 _ hg
  have hcl1 : ∀ ty mc, (Builtin.clear_ #[42] ty #[.slice (some ⟨g, (n - 1) * 2, none⟩) (n - (n - 1)) mc]).run Try.prog W1 = .ok (.tuple #[]) (W1.setRow g c2.toArray) := by
    intro ty mc
    rw [show n - (n - 1) = 1 by omega]
    have h := run_clear_gen (P := Try.prog) W1 42 ty 47 i0 (.agg #[(.string ⟨#[]⟩), (.int .i64 0)]) g ((n - 1) * 2) 1 mc c1 47 Try.underlying42 hi0 hz0 hg1 (by omega) (by rw [show ((.agg #[(.string ⟨#[]⟩), (.int .i64 0)]) : Value).cells.size = 2 from rfl]; omega) (by rw [← hzd.out]; exact hz1)
    rw [h, ← hzd.out, hc2.out, show cs.length - 2 = (n - 1) * 2 by omega]
  have hfin : InsPostCell base w0 (n - 1) (delCells cs (i * 2) 2) (.returned (.slice (some ⟨g, 0, none⟩) (n - 1) c)) (W1.setRow g c2.toArray) := by
    refine ⟨_, rfl, ⟨?_, .inr ⟨g, c, c2.toArray, rfl, hgb, setRow_heap W1 g _ _ 47 _ hg1, by omega, hcm, ?_, ?_⟩⟩, ?_⟩
    · rw [del_length (by omega), hcl]; omega
    · rw [List.size_toArray, hmv.out.1, hcur]
    · show c2.take ((n - 1) * 2) = _
      rw [← hmv.out.2, hcl]
      congr 1
      omega
    · rw [hW1.out]
      exact below_setRow (below_setRow (below_drew hB) hgb _) hgb _
  have HF := Lib.hid hfin
  have HAP := Lib.hid hap
  have HCL := Lib.hid hcl1
  have hw1 : IntKind.i64.wrap ((i : Int) + 1) = (i : Int) + 1 := by rw [IntKind.wrap_i64]; omega
  have hb1 : (0 : Int) ≤ (i : Int) + 1 := by omega
  have htn : ((i : Int) + 1).toNat = i + 1 := by omega
  have hin : i ≤ n := by omega
  have hz2 : ((i : Int) == (i : Int) + 1) = false := by simp; omega
  have hb2 : (i : Int) + 1 ≤ (n : Int) := by omega
  have hbi : (i : Int) ≤ (c : Int) := by omega
  have hbx : (i : Int) ≤ (i : Int) + 1 := by omega
  have hbn : (i : Int) ≤ (n : Int) := by omega
  have hb0 : (0 : Int) ≤ (i : Int) := by omega
  have hic : i ≤ c := by omega
  have hb4 : ¬ (c = i) := by omega
  have hb5 : ¬ (c = n - 1) := by omega
  have hb6 : n - 1 ≤ n := by omega
  clear hfin hap hcl1 hg1 hg hcur hpre hB hl1 hdl hcl h1c hz1 hzl hmv ho hcs hh
  by_cases hci : c = i + 1
  · obtain rfl : n = i + 1 := by omega
    subst hci
    go_enter Try.func62, Try.ntmps62
    go_wp2_with fail
    go_region_law (refine step_append_run rfl (.tmp 22) (.tmp 25) 42 42 rfl (.slice (some ⟨g, 0, none⟩) i (i + 1)) (.slice (some ⟨g, 0, none⟩) (i + 1 - (i + 1)) 0) (by simp [Act.eval, Act.put]) (by simp [Act.eval, Act.put]) (HAP.out _ (fun h => by omega) _ _) ?_)
    have HCA : Hid (∀ ty, (Builtin.clear_ #[42] ty #[.slice (some ⟨g, i * 2, none⟩) 1 1]).run Try.prog W1 = .ok (.tuple #[]) (W1.setRow g c2.toArray)) := Lib.hid (fun ty => by
      have h := HCL.out ty 1
      rw [show i + 1 - (i + 1 - 1) = 1 by omega, show i + 1 - 1 = i by omega] at h
      exact h)
    go_wp2_with (with_reducible refine wpList_clear_run _ rfl (.tmp 31) 42 rfl (.slice (some ⟨g, i * 2, none⟩) 1 1) rfl (HCA.out _) ?_)
    go_ret
    exact HF.out
  · go_enter Try.func62, Try.ntmps62
    go_wp2_with fail
    go_region_law (refine step_append_run rfl (.tmp 22) (.tmp 25) 42 42 rfl (.slice (some ⟨g, 0, none⟩) i c) (.slice (some ⟨g, (i + 1) * 2, none⟩) (n - (i + 1)) (c - (i + 1))) (by simp [Act.eval, Act.put]) (by simp [Act.eval, Act.put]) (HAP.out _ (fun _ => rfl) _ _) ?_)
    go_wp2_with (with_reducible refine wpList_clear_run _ rfl (.tmp 31) 42 rfl (.slice (some ⟨g, (n - 1) * 2, none⟩) (n - (n - 1)) (c - (n - 1))) rfl (HCL.out _ _) ?_)
    go_ret
    exact HF.out
end Go.Proofs.Ytfnpiclioikjpaa.X

/- slices.Insert of one element of type Note into a row of the call's own, told cell by cell. -/
import Derived.Test.YtfnpiclioikjpaaProg
import Derived.Test.YtfnpiclioikjpaaSL1
import Derived.KernelRfl
set_option linter.unusedSimpArgs false
set_option linter.unusedVariables false
namespace Go.Proofs.Ytfnpiclioikjpaa.X
open Go.RowKit Go.Proofs.YtfnpiclioikjpaaW.PrintWords

theorem infoInsNote : (Try.prog.info? 24).map (fun i => (i.zero, i.size, i.bytes)) = some (some (.agg #[(.string ⟨#[]⟩), (.int .i64 0), (.int .i64 0), (.string ⟨#[]⟩)]), 4, 48) := by kernel_rfl
theorem sizeInsNote : (Try.prog.info? 24).map (·.size) = some 4 := by
  obtain ⟨i0, hi, _, h1, _⟩ := info_parts infoInsNote
  rw [hi]; simp [h1]
theorem sofInsNote (w : World) : (sizeOf 24).run Try.prog w = .ok 4 w := by
  obtain ⟨i0, hi, _, h1, _⟩ := info_parts infoInsNote
  simp [sizeOf, typeInfo, hi, h1]

/-- What is handed back: a row of the call's own, the element laid in. -/
def InsPostNote (base : Nat) (w0 : World) (n : Nat) (cs : List Value) (e : Ending) (w' : World) : Prop :=
  ∃ v', e = .returned v' ∧ w'.ownsRow base 24 4 v' n cs ∧ Below base w0 w'

set_option maxRecDepth 100000 in
set_option maxHeartbeats 4000000 in
/-- At the end. -/
theorem ins_endNote (A : Option Addr) (c n : Nat) (cs seg : List Value) (vb base : Nat) (w0 w : World) (ho : w.ownsRow base 24 4 (.slice A n c) n cs) (hv : w.heap[vb]? = some (.cells seg.toArray 24 (0, 0)))
    (hseg : seg.length = 4) (h1s : ∀ u ∈ seg, u.oneCell' = true) (hn : n ≤ 1000000000) (hB : Below base w0 w) (hbase : base ≤ w.heap.size) :
    Calls Try.prog 58 #[.slice A n c, .int .i64 (n : Int), .slice (some ⟨vb, 0, none⟩) 1 1] w (InsPostNote base w0 (n + 1) (insCells cs seg (n * 4))) := by
  obtain ⟨i0, hi, hz0, hz1, hz2⟩ := info_parts infoInsNote
  have hcs : cs.length = n * 4 := ho.1
  have hnc : n ≤ c := own_cap ho
  have hsrc : ∀ j u, seg[j]? = some u → w.cell? ((⟨vb, 0, none⟩ : Addr).add j) = some u := by
    intro j u hu
    rw [add_plain, cell_of_row w vb j seg.toArray 24 (0, 0) hv]
    simpa using hu
  obtain ⟨v1, w1, hr, hown, hg, _, hat⟩ := run_append_own_at (P := Try.prog) w base 22 22 24 i0 _ 4 48 Try.underlying22 hi hz0 hz1 hz2 rfl (by decide) (.slice A n c) n cs ho ⟨vb, 0, none⟩ 1 1 seg (by rw [hseg]) hsrc h1s (by simp only [maxLen]; omega) (by omega) hbase
  have hr' := Lib.hid hr
  have hfin : InsPostNote base w0 (n + 1) (insCells cs seg (n * 4)) (.returned v1) w1 := by
    refine ⟨v1, rfl, ?_, hB.grown hg hbase (own_base ho)⟩
    unfold insCells
    rw [List.take_of_length_le (by omega), List.drop_of_length_le (by omega), List.append_nil]
    exact hown
  have HF := Lib.hid hfin
  have hb1 : (n : Int) ≤ (n : Int) := Int.le_refl _
  clear hfin hr hown hg hat ho hv hsrc hB
  go_enter Try.func58, Try.ntmps58
  go_wp2_with (at_builtin; refine Lib.wpList_append_run _ rfl _ _ _ _ rfl _ _ rfl rfl _ _ hr'.out ?_)
  all_goals
    go_ret
    exact HF.out

set_option maxRecDepth 100000 in
set_option maxHeartbeats 4000000 in
/-- In the midst, with room: in place. -/
theorem ins_shiftNote (g c n i : Nat) (cur cs seg : List Value) (vb base : Nat) (w0 w : World) (hg : w.heap[g]? = some (.cells cur.toArray 24 (0, 0))) (hcur : cur.length = c * 4) (hpre : cur.take (n * 4) = cs) (hcl : cs.length = n * 4) (hgb : base ≤ g)
    (hv : w.heap[vb]? = some (.cells seg.toArray 24 (0, 0))) (hne : vb ≠ g) (hseg : seg.length = 4) (h1s : ∀ u ∈ seg, u.oneCell' = true) (h1c : ∀ u ∈ cs, u.oneCell' = true)
    (hi : i < n) (hroom : n + 1 ≤ c) (hn : n ≤ 1000000000) (hc : c ≤ maxLen) (hB : Below base w0 w) (hbase : base ≤ w.heap.size) :
    Calls Try.prog 58 #[.slice (some ⟨g, 0, none⟩) n c, .int .i64 (i : Int), .slice (some ⟨vb, 0, none⟩) 1 1] w (InsPostNote base w0 (n + 1) (insCells cs seg (i * 4))) := by
  have hc63 : c ≤ 9223372036854775807 := by simp only [maxLen] at hc; omega
  obtain ⟨c1, hc1⟩ : ∃ c1, Hid (c1 = cur.take (i * 4 + 4) ++ (cs.drop (i * 4) ++ cur.drop (i * 4 + 4 + (cs.drop (i * 4)).length))) := ⟨_, Lib.hid rfl⟩
  obtain ⟨c2, hc2⟩ : ∃ c2, Hid (c2 = c1.take (i * 4) ++ (seg ++ c1.drop (i * 4 + seg.length))) := ⟨_, Lib.hid rfl⟩
  have hsh := Lib.hid (shift_in cur cs seg (i * 4) 4 hseg (by omega) (by omega) (by rw [hcl]; exact hpre) c1 c2 hc1.out hc2.out)
  have hdl : (cs.drop (i * 4)).length = (n - i) * 4 := by rw [List.length_drop, hcl]; omega
  have hl1 : c1.length = cur.length := by rw [hc1.out]; exact over_length _ _ _ (by omega)
  have hov : ∀ lb cb, (callFunc 75 #[.slice (some ⟨vb, 0, none⟩) 1 1, .slice (some ⟨g, (i + 1) * 4, none⟩) lb cb]).run Try.prog w = .ok (.value (.bool false)) w := fun lb cb => by
    rw [run_callFunc_extern Try.func75 (by kernel_rfl) (by kernel_rfl) (by kernel_rfl) (e := Extern.SlicesOverlaps.overlaps #[22, 22] #[4]) (by kernel_rfl),
      Lib.run_overlaps_apart w 22 4 24 Try.underlying22 4 sofInsNote ⟨vb, 0, none⟩ ⟨g, (i + 1) * 4, none⟩ 1 1 lb cb hne 24 24 4 (c * 4) (by simp [World.shape?, hv, hseg]) (by simp [World.shape?, hg, hcur]) (by omega) (blk_frozen hv 0) (blk_frozen hv 4)]
    rfl
  have hcp1 : ∀ ty dc sc, (Builtin.copy_ #[22, 22] ty #[.slice (some ⟨g, (i + 1) * 4, none⟩) (n - i) dc, .slice (some ⟨g, i * 4, none⟩) (n + 1 - i) sc]).run Try.prog w.drew = .ok (goInt ((n - i : Nat) : Int)) (w.drew.setRow g c1.toArray) := fun ty dc sc => by
    have h := run_copy_gen (P := Try.prog) w.drew 22 22 ty 24 g ((i + 1) * 4) (n - i) dc ⟨g, i * 4, none⟩ (n + 1 - i) sc cur 24 (cs.drop (i * 4)) 4 Try.underlying22 sizeInsNote hg (by rw [hdl]; simp only [Nat.min_def]; split <;> omega)
      (fun j v hj => by
        have hadd : (⟨g, i * 4, none⟩ : Addr).add j = ⟨g, i * 4 + j, none⟩ := Addr.add_lit _ _ _
        rw [hadd, cell_of_row w.drew g (i * 4 + j) cur.toArray 24 (0, 0) hg]
        rw [List.getElem?_drop] at hj
        rw [← hpre, List.getElem?_take] at hj
        split at hj
        · simpa using hj
        · cases hj) (by omega) (fun v hv => h1c v (List.mem_of_mem_drop hv))
    rw [show Nat.min (n + 1 - i) (n - i) = n - i by simp only [Nat.min_def]; split <;> omega] at h
    rw [h, show (i + 1) * 4 = i * 4 + 4 by omega, ← hc1.out]
  obtain ⟨W1, hW1⟩ : ∃ W1, Hid (W1 = w.drew.setRow g c1.toArray) := ⟨_, Lib.hid rfl⟩
  rw [← hW1.out] at hcp1
  have hg1 : W1.heap[g]? = some (.cells c1.toArray 24 (0, 0)) := by rw [hW1.out]; exact setRow_heap w.drew g _ _ 24 _ hg
  have hv1 : W1.heap[vb]? = some (.cells seg.toArray 24 (0, 0)) := by rw [hW1.out]; exact (setRow_other w.drew g vb _ hne).trans hv
  have hcp2 : ∀ ty dc, (Builtin.copy_ #[22, 22] ty #[.slice (some ⟨g, i * 4, none⟩) (n + 1 - i) dc, .slice (some ⟨vb, 0, none⟩) 1 1]).run Try.prog W1 = .ok (goInt ((1 : Nat) : Int)) (W1.setRow g c2.toArray) := fun ty dc => by
    have h := run_copy_gen (P := Try.prog) W1 22 22 ty 24 g (i * 4) (n + 1 - i) dc ⟨vb, 0, none⟩ 1 1 c1 24 seg 4 Try.underlying22 sizeInsNote hg1 (by rw [hseg]; simp only [Nat.min_def]; split <;> omega)
      (fun j v hj => by
        rw [add_plain, cell_of_row W1 vb j seg.toArray 24 (0, 0) hv1]
        simpa using hj) (by omega) h1s
    rw [show Nat.min 1 (n + 1 - i) = 1 by simp only [Nat.min_def]; split <;> omega] at h
    rw [h, ← hc2.out]
  have hfin : InsPostNote base w0 (n + 1) (insCells cs seg (i * 4)) (.returned (.slice (some ⟨g, 0, none⟩) (n + 1) c)) (W1.setRow g c2.toArray) := by
    refine ⟨_, rfl, ⟨?_, .inr ⟨g, c, c2.toArray, rfl, hgb, setRow_heap W1 g _ _ 24 _ hg1, hroom, hc, ?_, ?_⟩⟩, ?_⟩
    · rw [insCells_length (by omega), hcl, hseg]; omega
    · rw [List.size_toArray, hsh.out.1, hcur]
    · show c2.take ((n + 1) * 4) = _
      rw [← hsh.out.2, hcl]
      congr 1
      omega
    · rw [hW1.out]
      exact below_setRow (below_setRow (below_drew hB) hgb _) hgb _
  have HF := Lib.hid hfin
  have HCP1 := Lib.hid hcp1
  have HCP2 := Lib.hid hcp2
  have hz2 : ((i : Int) == (n : Int)) = false := by simp; omega
  have hz3 : decide ((c : Int) < (n : Int) + 1) = false := by simp; omega
  have hw1 : IntKind.i64.wrap ((i : Int) + 1) = (i : Int) + 1 := by rw [IntKind.wrap_i64]; omega
  have hb1 : (0 : Int) ≤ (i : Int) + 1 := by omega
  have htn : ((i : Int) + 1).toNat = i + 1 := by omega
  have hin : i ≤ n := by omega
  have hb2 : ¬ (c = i + 1) := by omega
  have hb3 : (i : Int) ≤ (n : Int) + 1 := by omega
  have hb4 : ¬ (c = i) := by omega
  clear hfin hcp1 hcp2 hg1 hv1 hsh hg hcur hpre hv hB hl1 hdl hcl hseg h1s h1c
  go_enter Try.func58, Try.ntmps58
  go_wp2_with (simp only [hov])
  go_region_law (refine step_copy_runI rfl (.tmp 73) (.tmp 76) 22 22 rfl (.slice (some ⟨g, (i + 1) * 4, none⟩) (n - i) (c - (i + 1))) (.slice (some ⟨g, i * 4, none⟩) (n + 1 - i) (c - i)) (by simp [Act.eval, Act.put]) (by simp [Act.eval, Act.put]) (HCP1.out _ _ _) ?_)
  go_wp2_with (with_reducible refine wpList_copy_runI _ rfl (.tmp 80) (.tmp 81) 22 22 rfl (.slice (some ⟨g, i * 4, none⟩) (n + 1 - i) (c - i)) (.slice (some ⟨vb, 0, none⟩) 1 1) rfl rfl (HCP2.out _ _) ?_)
  go_ret
  exact HF.out

set_option maxRecDepth 100000 in
set_option maxHeartbeats 4000000 in
/-- In the midst, without room: a new row. -/
theorem ins_growNote (g c n i : Nat) (cur cs seg : List Value) (vb base : Nat) (w0 w : World) (hg : w.heap[g]? = some (.cells cur.toArray 24 (0, 0))) (hcur : cur.length = c * 4) (hpre : cur.take (n * 4) = cs) (hcl : cs.length = n * 4)
    (hv : w.heap[vb]? = some (.cells seg.toArray 24 (0, 0))) (hseg : seg.length = 4) (h1s : ∀ u ∈ seg, u.oneCell' = true) (h1c : ∀ u ∈ cs, u.oneCell' = true)
    (hi : i < n) (hnc : n ≤ c) (hroom : c < n + 1) (hn : n ≤ 1000000000) (hB : Below base w0 w) (hbase : base ≤ w.heap.size) :
    Calls Try.prog 58 #[.slice (some ⟨g, 0, none⟩) n c, .int .i64 (i : Int), .slice (some ⟨vb, 0, none⟩) 1 1] w (InsPostNote base w0 (n + 1) (insCells cs seg (i * 4))) := by
  obtain ⟨i0, hi0, hz0, hzs, hzb⟩ := info_parts infoInsNote
  have hgl : g < w.heap.size := blk_lt hg
  have hvl : vb < w.heap.size := blk_lt hv
  have hcellg : ∀ W : World, W.heap[g]? = some (.cells cur.toArray 24 (0, 0)) → ∀ j v, cs[j]? = some v → W.cell? ⟨g, j, none⟩ = some v := by
    intro W hW j v hj
    rw [cell_of_row W g j cur.toArray 24 (0, 0) hW]
    rw [← hpre, List.getElem?_take] at hj
    split at hj
    · simpa using hj
    · cases hj
  have hold : (Builtin.firstCells i0.size i (.slice (some ⟨g, 0, none⟩) i c)).run Try.prog w.drew = .ok (cs.take (i * 4)).toArray w.drew := by
    rw [hzs]
    exact run_firstCells_some w.drew 4 i ⟨g, 0, none⟩ i c (cs.take (i * 4)) (by rw [List.length_take]; omega) (fun j v hj => by
      rw [add_plain]
      rw [List.getElem?_take] at hj
      split at hj
      · exact hcellg w.drew hg j v hj
      · cases hj)
  obtain ⟨G, hG⟩ : ∃ G, Hid (G = grownCap w (n + 1) c 24) := ⟨_, Lib.hid rfl⟩
  have hGn : n + 1 ≤ G := by rw [hG.out]; exact grownCap_ge w _ _ _
  have hGm : G ≤ maxLen := by rw [hG.out]; exact grownCap_le_maxLen w (n + 1) c 24 (by simp only [maxLen]; omega)
  have hG63 : G ≤ 9223372036854775807 := by simp only [maxLen] at hGm; omega
  obtain ⟨zs, hzs'⟩ : ∃ zs : List Value, Hid (zs = (Builtin.zeroCells ((.agg #[(.string ⟨#[]⟩), (.int .i64 0), (.int .i64 0), (.string ⟨#[]⟩)]) : Value).cells (n + 1 - i) ++ Builtin.zeroCells ((.agg #[(.string ⟨#[]⟩), (.int .i64 0), (.int .i64 0), (.string ⟨#[]⟩)]) : Value).cells (G - (n + 1))).toList) := ⟨_, Lib.hid rfl⟩
  have hzl : zs.length = (G - i) * 4 := by
    rw [hzs'.out, Array.length_toList, Array.size_append, size_zeroCells, size_zeroCells, show ((.agg #[(.string ⟨#[]⟩), (.int .i64 0), (.int .i64 0), (.string ⟨#[]⟩)]) : Value).cells.size = 4 from rfl]
    omega
  have hik : i + (n + 1 - i) = n + 1 := by omega
  have hkk : (n : Int) + 1 - (i : Int) = ((n + 1 - i : Nat) : Int) := by omega
  have hrz : ∀ ty, (Builtin.append_ #[22, 3] ty #[.slice (some ⟨g, 0, none⟩) i c, .int .i64 ((n : Int) + 1 - (i : Int))]).run Try.prog w =
      .ok (.slice (some ⟨w.heap.size, 0, none⟩) (n + 1) G) (w.drew.alloc (.cells (cs.take (i * 4) ++ zs).toArray 24)) := fun ty => by
    have h := Lib.run_append_grow_zeros w 22 3 ty 24 i0 _ .i64 .i64 Try.underlying22 Try.underlying3 hi0 hz0 (some ⟨g, 0, none⟩) i c (cs.take (i * 4)) hold (n + 1 - i) (by omega) (by omega) (by omega) (by omega) (by rw [hzb]; omega) (by rw [hzb, hik]; exact growslice_fits hroom (by omega))
    rw [hik, ← hG.out] at h
    rw [hkk, h, hzs'.out]
    congr 3
    simp [Array.append_assoc]
  obtain ⟨c1, hc1⟩ : ∃ c1, Hid (c1 = (cs.take (i * 4) ++ zs).take (i * 4) ++ (seg ++ (cs.take (i * 4) ++ zs).drop (i * 4 + seg.length))) := ⟨_, Lib.hid rfl⟩
  obtain ⟨c2, hc2⟩ : ∃ c2, Hid (c2 = c1.take (i * 4 + 4) ++ (cs.drop (i * 4) ++ c1.drop (i * 4 + 4 + (cs.drop (i * 4)).length))) := ⟨_, Lib.hid rfl⟩
  have hfr := Lib.hid (fresh_in cs seg zs (i * 4) 4 hseg (by omega) (by omega) c1 c2 hc1.out hc2.out)
  have hl0 : (cs.take (i * 4) ++ zs).length = G * 4 := by
    rw [List.length_append, List.length_take, hzl, hcl]
    omega
  have hl1 : c1.length = G * 4 := by rw [hc1.out, over_length _ _ _ (by omega), hl0]
  have hdl : (cs.drop (i * 4)).length = (n - i) * 4 := by rw [List.length_drop, hcl]; omega
  obtain ⟨W1, hW1⟩ : ∃ W1, Hid (W1 = w.drew.alloc (.cells (cs.take (i * 4) ++ zs).toArray 24)) := ⟨_, Lib.hid rfl⟩
  have hg1 : W1.heap[w.heap.size]? = some (.cells (cs.take (i * 4) ++ zs).toArray 24 (0, 0)) := by
    rw [hW1.out]
    have := heap_alloc_new w.drew (.cells (cs.take (i * 4) ++ zs).toArray 24)
    simpa using this
  have hb1 : Below w.heap.size w W1 := by rw [hW1.out]; exact below_alloc (below_drew (Below.refl _ _)) _
  have hgg1 : W1.heap[g]? = some (.cells cur.toArray 24 (0, 0)) := (hb1.block g hgl).trans hg
  have hv1 : W1.heap[vb]? = some (.cells seg.toArray 24 (0, 0)) := (hb1.block vb hvl).trans hv
  have hcp1 : ∀ ty dc, (Builtin.copy_ #[22, 22] ty #[.slice (some ⟨w.heap.size, i * 4, none⟩) (n + 1 - i) dc, .slice (some ⟨vb, 0, none⟩) 1 1]).run Try.prog W1 = .ok (goInt ((1 : Nat) : Int)) (W1.setRow w.heap.size c1.toArray) := fun ty dc => by
    have h := run_copy_gen (P := Try.prog) W1 22 22 ty 24 w.heap.size (i * 4) (n + 1 - i) dc ⟨vb, 0, none⟩ 1 1 (cs.take (i * 4) ++ zs) 24 seg 4 Try.underlying22 sizeInsNote hg1 (by rw [hseg]; simp only [Nat.min_def]; split <;> omega)
      (fun j v hj => by
        rw [add_plain, cell_of_row W1 vb j seg.toArray 24 (0, 0) hv1]
        simpa using hj) (by omega) h1s
    rw [show Nat.min 1 (n + 1 - i) = 1 by simp only [Nat.min_def]; split <;> omega] at h
    rw [h, ← hc1.out]
  obtain ⟨W2, hW2⟩ : ∃ W2, Hid (W2 = W1.setRow w.heap.size c1.toArray) := ⟨_, Lib.hid rfl⟩
  have hg2 : W2.drew.heap[w.heap.size]? = some (.cells c1.toArray 24 (0, 0)) := by rw [hW2.out]; exact setRow_heap W1 _ _ _ 24 _ hg1
  have hgg2 : W2.drew.heap[g]? = some (.cells cur.toArray 24 (0, 0)) := by rw [hW2.out]; exact (setRow_other W1 w.heap.size g _ (by omega)).trans hgg1
  have hcp2 : ∀ ty dc sc, (Builtin.copy_ #[22, 22] ty #[.slice (some ⟨w.heap.size, (i + 1) * 4, none⟩) (n - i) dc, .slice (some ⟨g, i * 4, none⟩) (n - i) sc]).run Try.prog W2.drew = .ok (goInt ((n - i : Nat) : Int)) (W2.drew.setRow w.heap.size c2.toArray) := fun ty dc sc => by
    have h := run_copy_gen (P := Try.prog) W2.drew 22 22 ty 24 w.heap.size ((i + 1) * 4) (n - i) dc ⟨g, i * 4, none⟩ (n - i) sc c1 24 (cs.drop (i * 4)) 4 Try.underlying22 sizeInsNote hg2 (by rw [hdl]; simp only [Nat.min_def]; split <;> omega)
      (fun j v hj => by
        have hadd : (⟨g, i * 4, none⟩ : Addr).add j = ⟨g, i * 4 + j, none⟩ := Addr.add_lit _ _ _
        rw [hadd]
        rw [List.getElem?_drop] at hj
        exact hcellg W2.drew hgg2 _ v hj) (by omega) (fun v hv => h1c v (List.mem_of_mem_drop hv))
    rw [show Nat.min (n - i) (n - i) = n - i by simp only [Nat.min_def]; split <;> omega] at h
    rw [h, show (i + 1) * 4 = i * 4 + 4 by omega, ← hc2.out]
  have hfin : InsPostNote base w0 (n + 1) (insCells cs seg (i * 4)) (.returned (.slice (some ⟨w.heap.size, 0, none⟩) (n + 1) G)) (W2.drew.setRow w.heap.size c2.toArray) := by
    refine ⟨_, rfl, ⟨?_, .inr ⟨w.heap.size, G, c2.toArray, rfl, hbase, setRow_heap W2.drew _ _ _ 24 _ hg2, hGn, hGm, ?_, ?_⟩⟩, ?_⟩
    · rw [insCells_length (by omega), hcl, hseg]; omega
    · rw [List.size_toArray, hfr.out.1, hl0]
    · show c2.take ((n + 1) * 4) = _
      rw [← hfr.out.2, hcl]
      congr 1
      omega
    · rw [hW2.out]
      refine below_setRow (below_drew (below_setRow (hB.trans ?_) hbase _)) hbase _
      exact ⟨hb1.os, hb1.tape, hb1.output, hb1.size, fun k hk => hb1.block k (by omega)⟩
  have HF := Lib.hid hfin
  rw [← hW1.out] at hrz
  rw [← hW2.out] at hcp1
  have HRZ := Lib.hid hrz
  have HCP1 := Lib.hid hcp1
  have HCP2 := Lib.hid hcp2
  have hz2 : ((i : Int) == (n : Int)) = false := by simp; omega
  have hz3 : decide ((c : Int) < (n : Int) + 1) = true := by simp; omega
  have hw1 : IntKind.i64.wrap ((i : Int) + 1) = (i : Int) + 1 := by rw [IntKind.wrap_i64]; omega
  have hb1 : (0 : Int) ≤ (i : Int) + 1 := by omega
  have htn : ((i : Int) + 1).toNat = i + 1 := by omega
  have hin : i ≤ n := by omega
  have hic : i ≤ c := by omega
  have hc63 : c ≤ 9223372036854775807 := by omega
  have hb2 : ¬ (c = i + 1) ∨ c = i + 1 := by omega
  have hb4 : ¬ (c = i) := by omega
  have hb5 : ¬ (G = i) := by omega
  have hb6 : ¬ (G = i + 1) := by omega
  clear hfin hrz hcp1 hcp2 hg1 hv1 hgg1 hg2 hgg2 hfr hg hcur hpre hv hB hl1 hdl hcl hseg h1s h1c hold hcellg hl0 hzl hb2 hkk hik hGm
  go_enter Try.func58, Try.ntmps58
  go_wp2_with (first | (at_builtin; refine Lib.wpList_append_run _ rfl _ _ _ _ rfl _ _ rfl rfl _ _ (HRZ.out _) ?_) | (with_reducible refine wpList_copy_runI _ rfl (.tmp 43) (.tmp 44) 22 22 rfl (.slice (some ⟨w.heap.size, i * 4, none⟩) (n + 1 - i) (G - i)) (.slice (some ⟨vb, 0, none⟩) 1 1) rfl rfl (HCP1.out _ _) ?_))
  go_region_law (refine step_copy_runI rfl (.tmp 50) (.tmp 53) 22 22 rfl (.slice (some ⟨w.heap.size, (i + 1) * 4, none⟩) (n - i) (G - (i + 1))) (.slice (some ⟨g, i * 4, none⟩) (n - i) (c - i)) (by simp [Act.eval, Act.put]) (by simp [Act.eval, Act.put]) (HCP2.out _ _ _) ?_)
  go_wp2
  go_ret
  exact HF.out

/-- slices.Insert(s, i, x), s a row of the call's own. -/
theorem insertNote (v : Value) (n i : Nat) (cs seg : List Value) (vb base : Nat) (w0 w : World) (ho : w.ownsRow base 24 4 v n cs) (hv : w.heap[vb]? = some (.cells seg.toArray 24 (0, 0))) (hvo : some vb ≠ v.ownBlock)
    (hseg : seg.length = 4) (h1s : ∀ u ∈ seg, u.oneCell' = true) (h1c : ∀ u ∈ cs, u.oneCell' = true) (hi : i ≤ n) (hn : n ≤ 1000000000) (hB : Below base w0 w) (hbase : base ≤ w.heap.size) :
    Calls Try.prog 58 #[v, .int .i64 (i : Int), .slice (some ⟨vb, 0, none⟩) 1 1] w (InsPostNote base w0 (n + 1) (insCells cs seg (i * 4))) := by
  obtain ⟨A, c, rfl⟩ := own_slice ho
  by_cases hin : i = n
  · subst hin
    exact ins_endNote A c i cs seg vb base w0 w ho hv hseg h1s hn hB hbase
  · have hcl := ho.1
    rcases ho.2 with ⟨_, h0⟩ | ⟨g, cap, cur, he, hgb, hh, hnc, hcm, hcs, ht⟩
    · omega
    injection he with h1 _ h2
    subst h1; subst h2
    have hne : vb ≠ g := fun e => hvo (by rw [e]; simp [Value.ownBlock])
    have hh' : w.heap[g]? = some (.cells cur.toList.toArray 24 (0, 0)) := by rw [Array.toArray_toList]; exact hh
    have hcur : cur.toList.length = c * 4 := by rw [Array.length_toList]; exact hcs
    by_cases hroom : n + 1 ≤ c
    · exact ins_shiftNote g c n i cur.toList cs seg vb base w0 w hh' hcur ht hcl hgb hv hne hseg h1s h1c (by omega) hroom hn hcm hB hbase
    · exact ins_growNote g c n i cur.toList cs seg vb base w0 w hh' hcur ht hcl hv hseg h1s h1c (by omega) hnc (by omega) hn hB hbase
end Go.Proofs.Ytfnpiclioikjpaa.X

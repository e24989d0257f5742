/- Copies of cells between rows of elements of any size; lists of cells. No program of its own. -/
import Derived.Test.YtfnpiclioikjpaaWWords
import Derived.Shelf.Spec.SlicesInsert
import Derived.Lib.AppendZerosOnto
import Derived.Laws.CopyOwn
import Derived.Lib.Overlaps
import Derived.Lib.Bytealg
import Derived.Lib.Hide
import Derived.BigCall
import Derived.Deep.RegionLaw
set_option linter.unusedSimpArgs false
set_option linter.unusedVariables false
namespace Go.Proofs.Ytfnpiclioikjpaa.X
open Go.RowKit Go.Proofs.YtfnpiclioikjpaaW.PrintWords

theorem run_copy_gen {P : Program} (w : World) (dT sT ty elem : TypeId) (g o dLen dCap : Nat) (a : Addr) (sLen sCap : Nat) (cur : List Value) (t : TypeId) (cs : List Value) (sz : Nat)
    (hu : P.underlying dT = some (.slice elem)) (hs : (P.info? elem).map (·.size) = some sz)
    (hg : w.heap[g]? = some (.cells cur.toArray t (0, 0))) (hn : cs.length = Nat.min sLen dLen * sz)
    (hsrc : ∀ j v, cs[j]? = some v → w.cell? (a.add j) = some v) (hfit : o + cs.length ≤ cur.length) (h1 : ∀ v ∈ cs, v.oneCell' = true) :
    (Builtin.copy_ #[dT, sT] ty #[.slice (some ⟨g, o, none⟩) dLen dCap, .slice (some a) sLen sCap]).run P w =
      .ok (goInt (Nat.min sLen dLen)) (w.setRow g (cur.take o ++ (cs ++ cur.drop (o + cs.length))).toArray) := by
  have hl := run_loadCells_list (P := P) w a cs hsrc
  have hst := run_storeCells_at P g o t cs 0 cur.toArray w hg (by simpa using hfit) h1
  cases hq : P.info? elem with
  | none => simp [hq] at hs
  | some i =>
    have hi : i.size = sz := by simpa [hq] using hs
    simp [Builtin.copy_, run_underlying hu, Builtin.lenOf, Builtin.firstCells, sizeOf, typeInfo, hq, hi, ← hn, hl, hst, List.append_assoc]

/-- What a row of cells is behind an element laid in at a place. -/
def insCells (cs seg : List Value) (k : Nat) : List Value := cs.take k ++ (seg ++ cs.drop k)
theorem insCells_length {cs seg : List Value} {k : Nat} (h : k ≤ cs.length) : (insCells cs seg k).length = cs.length + seg.length := by
  unfold insCells
  simp only [List.length_append, List.length_take, List.length_drop]
  omega
/-- Cells laid over a row from place o on. -/
theorem over_get (l cs : List Value) (o j : Nat) (h : o + cs.length ≤ l.length) : (l.take o ++ (cs ++ l.drop (o + cs.length)))[j]? = if j < o then l[j]? else if j < o + cs.length then cs[j - o]? else l[j]? := by
  by_cases h1 : j < o
  · rw [if_pos h1, List.getElem?_append_left (by rw [List.length_take]; omega), List.getElem?_take, if_pos h1]
  · rw [if_neg h1, List.getElem?_append_right (by rw [List.length_take]; omega), List.length_take, show min o l.length = o by omega]
    by_cases h2 : j < o + cs.length
    · rw [if_pos h2, List.getElem?_append_left (by omega)]
    · rw [if_neg h2, List.getElem?_append_right (by omega), List.getElem?_drop]
      congr 1
      omega
theorem ins_get (cs seg : List Value) (k j : Nat) (h : k ≤ cs.length) : (insCells cs seg k)[j]? = if j < k then cs[j]? else if j < k + seg.length then seg[j - k]? else cs[j - seg.length]? := by
  unfold insCells
  by_cases h1 : j < k
  · rw [if_pos h1, List.getElem?_append_left (by rw [List.length_take]; omega), List.getElem?_take, if_pos h1]
  · rw [if_neg h1, List.getElem?_append_right (by rw [List.length_take]; omega), List.length_take, show min k cs.length = k by omega]
    by_cases h2 : j < k + seg.length
    · rw [if_pos h2, List.getElem?_append_left (by omega)]
    · rw [if_neg h2, List.getElem?_append_right (by omega), List.getElem?_drop]
      congr 1
      omega
theorem over_length (l cs : List Value) (o : Nat) (h : o + cs.length ≤ l.length) : (l.take o ++ (cs ++ l.drop (o + cs.length))).length = l.length := by
  simp only [List.length_append, List.length_take, List.length_drop]
  omega
/-- The cells from k on shifted behind, then the element laid in. -/
theorem shift_in (cur cs seg : List Value) (k m : Nat) (hm : seg.length = m) (hk : k ≤ cs.length) (hfit : cs.length + m ≤ cur.length) (hpre : cur.take cs.length = cs) (c1 c2 : List Value)
    (e1 : c1 = cur.take (k + m) ++ (cs.drop k ++ cur.drop (k + m + (cs.drop k).length))) (e2 : c2 = c1.take k ++ (seg ++ c1.drop (k + seg.length))) :
    c2.length = cur.length ∧ c2.take (cs.length + m) = insCells cs seg k := by
  have ld : (cs.drop k).length = cs.length - k := List.length_drop
  have l1 : c1.length = cur.length := by rw [e1]; exact over_length _ _ _ (by omega)
  have l2 : c2.length = cur.length := by rw [e2, over_length _ _ _ (by omega), l1]
  refine ⟨l2, ?_⟩
  apply List.ext_getElem?
  intro j
  have hcur : ∀ j, j < cs.length → cur[j]? = cs[j]? := by
    intro j hj
    have := congrArg (fun l => l[j]?) hpre
    simpa [List.getElem?_take, hj] using this
  rw [ins_get _ _ _ _ hk]
  by_cases hj : j < cs.length + m
  · rw [List.getElem?_take, if_pos hj, e2, over_get _ _ _ _ (by omega), hm]
    by_cases h1 : j < k
    · rw [if_pos h1, if_pos h1, e1, over_get _ _ _ _ (by omega), if_pos (by omega), hcur j (by omega)]
    · rw [if_neg h1, if_neg h1]
      by_cases h2 : j < k + m
      · rw [if_pos h2, if_pos h2]
      · rw [if_neg h2, if_neg h2, e1, over_get _ _ _ _ (by omega), if_neg h2, if_pos (by omega), List.getElem?_drop]
        congr 1
        omega
  · rw [List.getElem?_take, if_neg hj, if_neg (by omega), if_neg (by omega), List.getElem?_eq_none (by omega)]
/-- A new row, the first k cells as they were, zeros behind: the element laid in, then the cells from k on. -/
theorem fresh_in (cs seg zs : List Value) (k m : Nat) (hm : seg.length = m) (hk : k ≤ cs.length) (hz : m + (cs.length - k) ≤ zs.length) (c1 c2 : List Value)
    (e1 : c1 = (cs.take k ++ zs).take k ++ (seg ++ (cs.take k ++ zs).drop (k + seg.length))) (e2 : c2 = c1.take (k + m) ++ (cs.drop k ++ c1.drop (k + m + (cs.drop k).length))) :
    c2.length = (cs.take k ++ zs).length ∧ c2.take (cs.length + m) = insCells cs seg k := by
  have ld : (cs.drop k).length = cs.length - k := List.length_drop
  have l0 : (cs.take k ++ zs).length = k + zs.length := by simp only [List.length_append, List.length_take]; omega
  have l1 : c1.length = k + zs.length := by rw [e1, over_length _ _ _ (by omega), l0]
  have l2 : c2.length = k + zs.length := by rw [e2, over_length _ _ _ (by omega), l1]
  refine ⟨by rw [l2, l0], ?_⟩
  apply List.ext_getElem?
  intro j
  rw [ins_get _ _ _ _ hk]
  by_cases hj : j < cs.length + m
  · rw [List.getElem?_take, if_pos hj, e2, over_get _ _ _ _ (by omega), hm]
    by_cases h2 : j < k + m
    · rw [if_pos h2, e1, over_get _ _ _ _ (by omega), hm]
      by_cases h1 : j < k
      · rw [if_pos h1, if_pos h1, List.getElem?_append_left (by rw [List.length_take]; omega), List.getElem?_take, if_pos h1]
      · rw [if_neg h1, if_neg h1, if_pos h2, if_pos h2]
    · rw [if_neg h2, if_pos (show j < k + m + (cs.drop k).length by omega), if_neg (show ¬ j < k by omega), if_neg h2, List.getElem?_drop]
      congr 1
      omega
  · rw [List.getElem?_take, if_neg hj, if_neg (by omega), if_neg (by omega), List.getElem?_eq_none (by omega)]

/-- append within the room that there is, of elements of any size. -/
theorem run_append_gen {P : Program} (w : World) (t ty elem : TypeId) (g i c : Nat) (a : Addr) (m mc : Nat) (cur : List Value) (e : TypeId) (cs : List Value) (sz : Nat)
    (hu : P.underlying t = some (.slice elem)) (hs : (P.info? elem).map (·.size) = some sz)
    (hg : w.heap[g]? = some (.cells cur.toArray e (0, 0))) (hroom : i + m ≤ c) (hn : cs.length = m * sz)
    (hsrc : ∀ j v, cs[j]? = some v → w.cell? (a.add j) = some v) (hfit : i * sz + cs.length ≤ cur.length) (h1 : ∀ v ∈ cs, v.oneCell' = true) :
    (Builtin.append_ #[t, t] ty #[.slice (some ⟨g, 0, none⟩) i c, .slice (some a) m mc]).run P w =
      .ok (.slice (some ⟨g, 0, none⟩) (i + m) c) (w.setRow g (cur.take (i * sz) ++ (cs ++ cur.drop (i * sz + cs.length))).toArray) := by
  have hl := run_loadCells_list (P := P) w a cs hsrc
  have hst := run_storeCells_at P g (i * sz) e cs 0 cur.toArray w hg (by simpa using hfit) h1
  cases hq : P.info? elem with
  | none => simp [hq] at hs
  | some i =>
    have hi : i.size = sz := by simpa [hq] using hs
    simp [Builtin.append_, run_underlying hu, Builtin.lenOf, Builtin.firstCells, sizeOf, typeInfo, hq, hi, ← hn, hl, hst, hroom, add_plain, List.append_assoc]
theorem run_clear_gen {P : Program} (w : World) (t ty elem : TypeId) (i0 : TypeInfo) (z : Value) (g o m mc : Nat) (cur : List Value) (e : TypeId)
    (hu : P.underlying t = some (.slice elem)) (hi : P.info? elem = some i0) (hz : i0.zero = some z) (hg : w.heap[g]? = some (.cells cur.toArray e (0, 0))) (hm : 0 < m)
    (hfit : o + m * z.cells.size ≤ cur.length) (h1 : ∀ v ∈ (Builtin.zeroCells z.cells m).toList, v.oneCell' = true) :
    (Builtin.clear_ #[t] ty #[.slice (some ⟨g, o, none⟩) m mc]).run P w = .ok (.tuple #[]) (w.setRow g (cur.take o ++ ((Builtin.zeroCells z.cells m).toList ++ cur.drop (o + (Builtin.zeroCells z.cells m).toList.length))).toArray) := by
  have hst := run_storeCells_at P g o e (Builtin.zeroCells z.cells m).toList 0 cur.toArray w hg (by rw [Array.length_toList, size_zeroCells]; simpa using hfit) h1
  obtain ⟨m, rfl⟩ : ∃ k, m = k + 1 := ⟨m - 1, by omega⟩
  simp [Builtin.clear_, run_underlying hu, zeroValue, typeInfo, hi, hz, hst, List.append_assoc]
theorem wp_clear_run {P : Program} (w : World) {o : Oper} {a : Act} {K : Act → World → Prop} {Q : Exit → Act → World → Prop} (s : Operand) (t : TypeId)
    (ho : o.op = .call { callee := .builtin .clear, args := #[s], argTypes := #[t] }) (v : Value) (hs : a.eval s = v) {v' : Value} {w' : World}
    (hr : (Builtin.clear_ #[t] o.type #[v]).run P w = .ok v' w') (h : K (a.put o.dst v') w') : o.wp P a w K Q := by
  unfold Oper.wp execOp
  simp only [ho, resolve, invoke, builtin, Sem.run_bind, Sem.run_pure, Result.andThen_ok, List.map_toArray, List.map_cons, List.map_nil, hs, hr]
  exact h
theorem wpList_clear_run {P : Program} (w : World) {ops : Array Oper} {rest : List Oper} {o : Oper} {a : Act} {Q : Exit → Act → World → Prop} (hgd : o.guard = none) (s : Operand) (t : TypeId)
    (ho : o.op = .call { callee := .builtin .clear, args := #[s], argTypes := #[t] }) (v : Value) (hs : a.eval s = v) {v' : Value} {w' : World}
    (hr : (Builtin.clear_ #[t] o.type #[v]).run P w = .ok v' w') (h : wpList P ops Q rest (a.put o.dst v') w') : wpList P ops Q (o :: rest) a w :=
  wpList_plain hgd fun _ hK => wp_clear_run w s t ho v hs hr (hK _ _ h)
theorem step_append_run {P : Program} {ops : Array Oper} {o : Oper} {a : Act} {w : World} {K : Act → World → Prop} {Q : Exit → Act → World → Prop} {E : Prop}
    (hg : o.guard = none) (d x : Operand) (dT sT : TypeId) (hop : o.op = Op.call { callee := Callee.builtin Builtin.append, args := #[d, x], argTypes := #[dT, sT] })
    (v u : Value) (hd : a.eval d = v) (hx : a.eval x = u) {v' : Value} {w' : World} (hr : (Builtin.append_ #[dT, sT] o.type #[v, u]).run P w = .ok v' w') (hK : K (a.put o.dst v') w') :
    if Region.wanted o (yielded ops a.tmps) = true then Oper.wp P o a w K Q else E := by
  have hw : Region.wanted o (yielded ops a.tmps) = true := by simp [Region.wanted, hg]
  rw [if_pos hw]
  exact Lib.wp_append_run w d x dT sT hop v u hd hx v' w' hr hK
/-- What a row of cells is with m of them, from k on, taken out. -/
def delCells (cs : List Value) (k m : Nat) : List Value := cs.take k ++ cs.drop (k + m)
theorem del_length {cs : List Value} {k m : Nat} (h : k + m ≤ cs.length) : (delCells cs k m).length = cs.length - m := by
  unfold delCells
  simp only [List.length_append, List.length_take, List.length_drop]
  omega
theorem del_get (cs : List Value) (k m j : Nat) (h : k + m ≤ cs.length) : (delCells cs k m)[j]? = if j < k then cs[j]? else cs[j + m]? := by
  unfold delCells
  by_cases h1 : j < k
  · rw [if_pos h1, List.getElem?_append_left (by rw [List.length_take]; omega), List.getElem?_take, if_pos h1]
  · rw [if_neg h1, List.getElem?_append_right (by rw [List.length_take]; omega), List.length_take, show min k cs.length = k by omega, List.getElem?_drop]
    congr 1
    omega
/-- The cells behind moved ahead, zeros laid behind. -/
theorem move_up (cur cs zs : List Value) (k m : Nat) (hz : zs.length = m) (hk : k + m ≤ cs.length) (hfit : cs.length ≤ cur.length) (hpre : cur.take cs.length = cs) (c1 c2 : List Value)
    (e1 : c1 = cur.take k ++ (cs.drop (k + m) ++ cur.drop (k + (cs.drop (k + m)).length))) (e2 : c2 = c1.take (cs.length - m) ++ (zs ++ c1.drop (cs.length - m + zs.length))) :
    c2.length = cur.length ∧ c2.take (cs.length - m) = delCells cs k m := by
  have ld : (cs.drop (k + m)).length = cs.length - (k + m) := List.length_drop
  have l1 : c1.length = cur.length := by rw [e1]; exact over_length _ _ _ (by omega)
  have l2 : c2.length = cur.length := by rw [e2, over_length _ _ _ (by omega), l1]
  refine ⟨l2, ?_⟩
  apply List.ext_getElem?
  intro j
  have hcur : ∀ j, j < cs.length → cur[j]? = cs[j]? := by
    intro j hj
    have := congrArg (fun l => l[j]?) hpre
    simpa [List.getElem?_take, hj] using this
  rw [del_get _ _ _ _ hk]
  by_cases hj : j < cs.length - m
  · rw [List.getElem?_take, if_pos hj, e2, over_get _ _ _ _ (by omega), if_pos hj, e1, over_get _ _ _ _ (by omega)]
    by_cases h1 : j < k
    · rw [if_pos h1, if_pos h1, hcur j (by omega)]
    · rw [if_neg h1, if_neg h1, if_pos (by omega), List.getElem?_drop]
      congr 1
      omega
  · rw [List.getElem?_take, if_neg hj, if_neg (by omega), List.getElem?_eq_none (by omega)]
end Go.Proofs.Ytfnpiclioikjpaa.X

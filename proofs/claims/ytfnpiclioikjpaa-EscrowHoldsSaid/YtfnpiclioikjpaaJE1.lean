/- Joined texts of this session: SL1, Ord, Arr5, X0, Evx, Cmp, FindAcc, PosAcc, EscP, EscQ, EscFind, XEq92, Arr5b, EscCheck, RowAcc, InsAcc, DelAcc, CloAcc, EscPut, Xescrowright, Xescrowthere, Xescrowlow, EscG, EscNumber, EscRights, EscRefGet, Xhucksterref11Number. -/
import Derived.Test.YtfnpiclioikjpaaWWords
import Derived.Shelf.Spec.SlicesInsert
import Derived.Lib.AppendZerosOnto
import Derived.Laws.CopyOwn
import Derived.Lib.Overlaps
import Derived.Lib.Bytealg
import Derived.Lib.Hide
import Derived.BigCall
import Derived.Deep.RegionLaw
import Derived.Test.YtfnpiclioikjpaaProg
import Derived.ChangeKeysEq
import Derived.Laws.StructEq
import Derived.KernelRfl
import Derived.WalkKit
import Derived.Below
import Derived.Deep.Draws
import Derived.Deep.AppendLies
import Derived.Maps.AppendAt
import Derived.OwnWalk
import Derived.Laws.BytesArg
import Derived.Laws.MakeOwn
import Derived.Laws.OwnMore
import Derived.Deep.OwnRows
import Derived.Tactics
import Derived.Lib.ConvBytes
import Derived.Laws.Slices
import Derived.RowKit3
import Derived.Deep.LoopGhost
import Derived.Deep.QuietTactic
import Derived.BigQuiet
import Derived.WideLaws
import Derived.Deep.DeepCutAuto
import Derived.Deep.CutBlock
import Derived.Deep.RegionHeld3
import Derived.Laws.Rows
import Derived.Lib.AppendStr
import Derived.ArgAppend
import Derived.Laws.IdiomCopy
import Derived.OrdersHeld
import Derived.Laws.BitsLemmas
import Derived.RowKit
import Derived.Test.YtfnpiclioikjpaaWLast
import Derived.Test.YtfnpiclioikjpaaWTab
import Derived.Test.YtfnpiclioikjpaaWFour
import Derived.Test.YtfnpiclioikjpaaWQPut
import Derived.Test.YtfnpiclioikjpaaWApart
import Derived.Test.YtfnpiclioikjpaaWArr
import Derived.Test.YtfnpiclioikjpaaWZeros
import Derived.Test.YtfnpiclioikjpaaWFoot
import Derived.Test.YtfnpiclioikjpaaWKept
import Derived.Test.YtfnpiclioikjpaaWShare
import Derived.Test.YtfnpiclioikjpaaWN
import Derived.Test.YtfnpiclioikjpaaWFootNe
import Derived.Test.YtfnpiclioikjpaaWAt
import Derived.Test.YtfnpiclioikjpaaWEqStruct
import Derived.Test.YtfnpiclioikjpaaWRepsOne
import Derived.Test.YtfnpiclioikjpaaWInv
import Derived.Test.YtfnpiclioikjpaaWInvWords
import Derived.Test.YtfnpiclioikjpaaWGuard
import Derived.Test.YtfnpiclioikjpaaWNEv
import Derived.Test.YtfnpiclioikjpaaWMore
import Derived.LoopTactic
import Derived.StillTailTactics
import Derived.Lib.SliceRun
import Derived.Handy
/- Copies of cells between rows of elements of any size; lists of cells. No program of its own. -/
set_option linter.unusedSimpArgs false
set_option linter.unusedVariables false
namespace Go.Proofs.Ytfnpiclioikjpaa.X
open Go.RowKit Go.Proofs.YtfnpiclioikjpaaW.PrintWords

theorem run_copy_gen {P : Program} (w : World) (dT sT ty elem : TypeId) (g o dLen dCap : Nat) (a : Addr) (sLen sCap : Nat) (cur : List Value) (t : TypeId) (cs : List Value) (sz : Nat)
    (hu : P.underlying dT = some (.slice elem)) (hs : (P.info? elem).map (·.size) = some sz)
    (hg : w.heap[g]? = some (.cells cur.toArray t (0, 0))) (hn : cs.length = Nat.min sLen dLen * sz)
    (hsrc : ∀ j v, cs[j]? = some v → w.cell? (a.add j) = some v) (hfit : o + cs.length ≤ cur.length) (h1 : ∀ v ∈ cs, v.oneCell' = true) :
    (Builtin.copy_ #[dT, sT] ty #[.slice (some ⟨g, o, none⟩) dLen dCap, .slice (some a) sLen sCap]).run P w =
      .ok (goInt (Nat.min sLen dLen)) (w.setRow g (cur.take o ++ (cs ++ cur.drop (o + cs.length))).toArray) := by
  have hl := run_loadCells_list (P := P) w a cs hsrc
  have hst := run_storeCells_at P g o t cs 0 cur.toArray w hg (by simpa using hfit) h1
  cases hq : P.info? elem with
  | none => simp [hq] at hs
  | some i =>
    have hi : i.size = sz := by simpa [hq] using hs
    simp [Builtin.copy_, run_underlying hu, Builtin.lenOf, Builtin.firstCells, sizeOf, typeInfo, hq, hi, ← hn, hl, hst, List.append_assoc]

/-- What a row of cells is behind an element laid in at a place. -/
def insCells (cs seg : List Value) (k : Nat) : List Value := cs.take k ++ (seg ++ cs.drop k)
theorem insCells_length {cs seg : List Value} {k : Nat} (h : k ≤ cs.length) : (insCells cs seg k).length = cs.length + seg.length := by
  unfold insCells
  simp only [List.length_append, List.length_take, List.length_drop]
  omega
/-- Cells laid over a row from place o on. -/
theorem over_get (l cs : List Value) (o j : Nat) (h : o + cs.length ≤ l.length) : (l.take o ++ (cs ++ l.drop (o + cs.length)))[j]? = if j < o then l[j]? else if j < o + cs.length then cs[j - o]? else l[j]? := by
  by_cases h1 : j < o
  · rw [if_pos h1, List.getElem?_append_left (by rw [List.length_take]; omega), List.getElem?_take, if_pos h1]
  · rw [if_neg h1, List.getElem?_append_right (by rw [List.length_take]; omega), List.length_take, show min o l.length = o by omega]
    by_cases h2 : j < o + cs.length
    · rw [if_pos h2, List.getElem?_append_left (by omega)]
    · rw [if_neg h2, List.getElem?_append_right (by omega), List.getElem?_drop]
      congr 1
      omega
theorem ins_get (cs seg : List Value) (k j : Nat) (h : k ≤ cs.length) : (insCells cs seg k)[j]? = if j < k then cs[j]? else if j < k + seg.length then seg[j - k]? else cs[j - seg.length]? := by
  unfold insCells
  by_cases h1 : j < k
  · rw [if_pos h1, List.getElem?_append_left (by rw [List.length_take]; omega), List.getElem?_take, if_pos h1]
  · rw [if_neg h1, List.getElem?_append_right (by rw [List.length_take]; omega), List.length_take, show min k cs.length = k by omega]
    by_cases h2 : j < k + seg.length
    · rw [if_pos h2, List.getElem?_append_left (by omega)]
    · rw [if_neg h2, List.getElem?_append_right (by omega), List.getElem?_drop]
      congr 1
      omega
theorem over_length (l cs : List Value) (o : Nat) (h : o + cs.length ≤ l.length) : (l.take o ++ (cs ++ l.drop (o + cs.length))).length = l.length := by
  simp only [List.length_append, List.length_take, List.length_drop]
  omega
/-- The cells from k on shifted behind, then the element laid in. -/
theorem shift_in (cur cs seg : List Value) (k m : Nat) (hm : seg.length = m) (hk : k ≤ cs.length) (hfit : cs.length + m ≤ cur.length) (hpre : cur.take cs.length = cs) (c1 c2 : List Value)
    (e1 : c1 = cur.take (k + m) ++ (cs.drop k ++ cur.drop (k + m + (cs.drop k).length))) (e2 : c2 = c1.take k ++ (seg ++ c1.drop (k + seg.length))) :
    c2.length = cur.length ∧ c2.take (cs.length + m) = insCells cs seg k := by
  have ld : (cs.drop k).length = cs.length - k := List.length_drop
  have l1 : c1.length = cur.length := by rw [e1]; exact over_length _ _ _ (by omega)
  have l2 : c2.length = cur.length := by rw [e2, over_length _ _ _ (by omega), l1]
  refine ⟨l2, ?_⟩
  apply List.ext_getElem?
  intro j
  have hcur : ∀ j, j < cs.length → cur[j]? = cs[j]? := by
    intro j hj
    have := congrArg (fun l => l[j]?) hpre
    simpa [List.getElem?_take, hj] using this
  rw [ins_get _ _ _ _ hk]
  by_cases hj : j < cs.length + m
  · rw [List.getElem?_take, if_pos hj, e2, over_get _ _ _ _ (by omega), hm]
    by_cases h1 : j < k
    · rw [if_pos h1, if_pos h1, e1, over_get _ _ _ _ (by omega), if_pos (by omega), hcur j (by omega)]
    · rw [if_neg h1, if_neg h1]
      by_cases h2 : j < k + m
      · rw [if_pos h2, if_pos h2]
      · rw [if_neg h2, if_neg h2, e1, over_get _ _ _ _ (by omega), if_neg h2, if_pos (by omega), List.getElem?_drop]
        congr 1
        omega
  · rw [List.getElem?_take, if_neg hj, if_neg (by omega), if_neg (by omega), List.getElem?_eq_none (by omega)]
/-- A new row, the first k cells as they were, zeros behind: the element laid in, then the cells from k on. -/
theorem fresh_in (cs seg zs : List Value) (k m : Nat) (hm : seg.length = m) (hk : k ≤ cs.length) (hz : m + (cs.length - k) ≤ zs.length) (c1 c2 : List Value)
    (e1 : c1 = (cs.take k ++ zs).take k ++ (seg ++ (cs.take k ++ zs).drop (k + seg.length))) (e2 : c2 = c1.take (k + m) ++ (cs.drop k ++ c1.drop (k + m + (cs.drop k).length))) :
    c2.length = (cs.take k ++ zs).length ∧ c2.take (cs.length + m) = insCells cs seg k := by
  have ld : (cs.drop k).length = cs.length - k := List.length_drop
  have l0 : (cs.take k ++ zs).length = k + zs.length := by simp only [List.length_append, List.length_take]; omega
  have l1 : c1.length = k + zs.length := by rw [e1, over_length _ _ _ (by omega), l0]
  have l2 : c2.length = k + zs.length := by rw [e2, over_length _ _ _ (by omega), l1]
  refine ⟨by rw [l2, l0], ?_⟩
  apply List.ext_getElem?
  intro j
  rw [ins_get _ _ _ _ hk]
  by_cases hj : j < cs.length + m
  · rw [List.getElem?_take, if_pos hj, e2, over_get _ _ _ _ (by omega), hm]
    by_cases h2 : j < k + m
    · rw [if_pos h2, e1, over_get _ _ _ _ (by omega), hm]
      by_cases h1 : j < k
      · rw [if_pos h1, if_pos h1, List.getElem?_append_left (by rw [List.length_take]; omega), List.getElem?_take, if_pos h1]
      · rw [if_neg h1, if_neg h1, if_pos h2, if_pos h2]
    · rw [if_neg h2, if_pos (show j < k + m + (cs.drop k).length by omega), if_neg (show ¬ j < k by omega), if_neg h2, List.getElem?_drop]
      congr 1
      omega
  · rw [List.getElem?_take, if_neg hj, if_neg (by omega), if_neg (by omega), List.getElem?_eq_none (by omega)]

/-- append within the room that there is, of elements of any size. -/
theorem run_append_gen {P : Program} (w : World) (t ty elem : TypeId) (g i c : Nat) (a : Addr) (m mc : Nat) (cur : List Value) (e : TypeId) (cs : List Value) (sz : Nat)
    (hu : P.underlying t = some (.slice elem)) (hs : (P.info? elem).map (·.size) = some sz)
    (hg : w.heap[g]? = some (.cells cur.toArray e (0, 0))) (hroom : i + m ≤ c) (hn : cs.length = m * sz)
    (hsrc : ∀ j v, cs[j]? = some v → w.cell? (a.add j) = some v) (hfit : i * sz + cs.length ≤ cur.length) (h1 : ∀ v ∈ cs, v.oneCell' = true) :
    (Builtin.append_ #[t, t] ty #[.slice (some ⟨g, 0, none⟩) i c, .slice (some a) m mc]).run P w =
      .ok (.slice (some ⟨g, 0, none⟩) (i + m) c) (w.setRow g (cur.take (i * sz) ++ (cs ++ cur.drop (i * sz + cs.length))).toArray) := by
  have hl := run_loadCells_list (P := P) w a cs hsrc
  have hst := run_storeCells_at P g (i * sz) e cs 0 cur.toArray w hg (by simpa using hfit) h1
  cases hq : P.info? elem with
  | none => simp [hq] at hs
  | some i =>
    have hi : i.size = sz := by simpa [hq] using hs
    simp [Builtin.append_, run_underlying hu, Builtin.lenOf, Builtin.firstCells, sizeOf, typeInfo, hq, hi, ← hn, hl, hst, hroom, add_plain, List.append_assoc]
theorem run_clear_gen {P : Program} (w : World) (t ty elem : TypeId) (i0 : TypeInfo) (z : Value) (g o m mc : Nat) (cur : List Value) (e : TypeId)
    (hu : P.underlying t = some (.slice elem)) (hi : P.info? elem = some i0) (hz : i0.zero = some z) (hg : w.heap[g]? = some (.cells cur.toArray e (0, 0))) (hm : 0 < m)
    (hfit : o + m * z.cells.size ≤ cur.length) (h1 : ∀ v ∈ (Builtin.zeroCells z.cells m).toList, v.oneCell' = true) :
    (Builtin.clear_ #[t] ty #[.slice (some ⟨g, o, none⟩) m mc]).run P w = .ok (.tuple #[]) (w.setRow g (cur.take o ++ ((Builtin.zeroCells z.cells m).toList ++ cur.drop (o + (Builtin.zeroCells z.cells m).toList.length))).toArray) := by
  have hst := run_storeCells_at P g o e (Builtin.zeroCells z.cells m).toList 0 cur.toArray w hg (by rw [Array.length_toList, size_zeroCells]; simpa using hfit) h1
  obtain ⟨m, rfl⟩ : ∃ k, m = k + 1 := ⟨m - 1, by omega⟩
  simp [Builtin.clear_, run_underlying hu, zeroValue, typeInfo, hi, hz, hst, List.append_assoc]
theorem wp_clear_run {P : Program} (w : World) {o : Oper} {a : Act} {K : Act → World → Prop} {Q : Exit → Act → World → Prop} (s : Operand) (t : TypeId)
    (ho : o.op = .call { callee := .builtin .clear, args := #[s], argTypes := #[t] }) (v : Value) (hs : a.eval s = v) {v' : Value} {w' : World}
    (hr : (Builtin.clear_ #[t] o.type #[v]).run P w = .ok v' w') (h : K (a.put o.dst v') w') : o.wp P a w K Q := by
  unfold Oper.wp execOp
  simp only [ho, resolve, invoke, builtin, Sem.run_bind, Sem.run_pure, Result.andThen_ok, List.map_toArray, List.map_cons, List.map_nil, hs, hr]
  exact h
theorem wpList_clear_run {P : Program} (w : World) {ops : Array Oper} {rest : List Oper} {o : Oper} {a : Act} {Q : Exit → Act → World → Prop} (hgd : o.guard = none) (s : Operand) (t : TypeId)
    (ho : o.op = .call { callee := .builtin .clear, args := #[s], argTypes := #[t] }) (v : Value) (hs : a.eval s = v) {v' : Value} {w' : World}
    (hr : (Builtin.clear_ #[t] o.type #[v]).run P w = .ok v' w') (h : wpList P ops Q rest (a.put o.dst v') w') : wpList P ops Q (o :: rest) a w :=
  wpList_plain hgd fun _ hK => wp_clear_run w s t ho v hs hr (hK _ _ h)
theorem step_append_run {P : Program} {ops : Array Oper} {o : Oper} {a : Act} {w : World} {K : Act → World → Prop} {Q : Exit → Act → World → Prop} {E : Prop}
    (hg : o.guard = none) (d x : Operand) (dT sT : TypeId) (hop : o.op = Op.call { callee := Callee.builtin Builtin.append, args := #[d, x], argTypes := #[dT, sT] })
    (v u : Value) (hd : a.eval d = v) (hx : a.eval x = u) {v' : Value} {w' : World} (hr : (Builtin.append_ #[dT, sT] o.type #[v, u]).run P w = .ok v' w') (hK : K (a.put o.dst v') w') :
    if Region.wanted o (yielded ops a.tmps) = true then Oper.wp P o a w K Q else E := by
  have hw : Region.wanted o (yielded ops a.tmps) = true := by simp [Region.wanted, hg]
  rw [if_pos hw]
  exact Lib.wp_append_run w d x dT sT hop v u hd hx v' w' hr hK
/-- What a row of cells is with m of them, from k on, taken out. -/
def delCells (cs : List Value) (k m : Nat) : List Value := cs.take k ++ cs.drop (k + m)
theorem del_length {cs : List Value} {k m : Nat} (h : k + m ≤ cs.length) : (delCells cs k m).length = cs.length - m := by
  unfold delCells
  simp only [List.length_append, List.length_take, List.length_drop]
  omega
theorem del_get (cs : List Value) (k m j : Nat) (h : k + m ≤ cs.length) : (delCells cs k m)[j]? = if j < k then cs[j]? else cs[j + m]? := by
  unfold delCells
  by_cases h1 : j < k
  · rw [if_pos h1, List.getElem?_append_left (by rw [List.length_take]; omega), List.getElem?_take, if_pos h1]
  · rw [if_neg h1, List.getElem?_append_right (by rw [List.length_take]; omega), List.length_take, show min k cs.length = k by omega, List.getElem?_drop]
    congr 1
    omega
/-- The cells behind moved ahead, zeros laid behind. -/
theorem move_up (cur cs zs : List Value) (k m : Nat) (hz : zs.length = m) (hk : k + m ≤ cs.length) (hfit : cs.length ≤ cur.length) (hpre : cur.take cs.length = cs) (c1 c2 : List Value)
    (e1 : c1 = cur.take k ++ (cs.drop (k + m) ++ cur.drop (k + (cs.drop (k + m)).length))) (e2 : c2 = c1.take (cs.length - m) ++ (zs ++ c1.drop (cs.length - m + zs.length))) :
    c2.length = cur.length ∧ c2.take (cs.length - m) = delCells cs k m := by
  have ld : (cs.drop (k + m)).length = cs.length - (k + m) := List.length_drop
  have l1 : c1.length = cur.length := by rw [e1]; exact over_length _ _ _ (by omega)
  have l2 : c2.length = cur.length := by rw [e2, over_length _ _ _ (by omega), l1]
  refine ⟨l2, ?_⟩
  apply List.ext_getElem?
  intro j
  have hcur : ∀ j, j < cs.length → cur[j]? = cs[j]? := by
    intro j hj
    have := congrArg (fun l => l[j]?) hpre
    simpa [List.getElem?_take, hj] using this
  rw [del_get _ _ _ _ hk]
  by_cases hj : j < cs.length - m
  · rw [List.getElem?_take, if_pos hj, e2, over_get _ _ _ _ (by omega), if_pos hj, e1, over_get _ _ _ _ (by omega)]
    by_cases h1 : j < k
    · rw [if_pos h1, if_pos h1, hcur j (by omega)]
    · rw [if_neg h1, if_neg h1, if_pos (by omega), List.getElem?_drop]
      congr 1
      omega
  · rw [List.getElem?_take, if_neg hj, if_neg (by omega), List.getElem?_eq_none (by omega)]
end Go.Proofs.Ytfnpiclioikjpaa.X

/- The order of texts, byte by byte. -/
set_option linter.unusedSimpArgs false
set_option linter.unusedVariables false
namespace Go.Proofs.Ytfnpiclioikjpaa.X
open Go.RowKit Go.Proofs.YtfnpiclioikjpaaW.PrintWords

theorem less_nil (a : List UInt8) : Op.bytesLess a [] = false := by cases a <;> rfl
theorem less_cons (a b : UInt8) (x y : List UInt8) : Op.bytesLess (a :: x) (b :: y) = (decide (a < b) || (a == b && Op.bytesLess x y)) := rfl
theorem less_irrefl (a : List UInt8) : Op.bytesLess a a = false := by
  induction a with
  | nil => rfl
  | cons x a ih =>
    rw [less_cons, ih]
    simp
theorem less_trans (a b c : List UInt8) : Op.bytesLess a b = true → Op.bytesLess b c = true → Op.bytesLess a c = true := by
  induction a generalizing b c with
  | nil =>
    intro h1 h2
    cases b with
    | nil => rw [less_nil] at h1; cases h1
    | cons y b =>
      cases c with
      | nil => rw [less_nil] at h2; cases h2
      | cons z c => rfl
  | cons x a ih =>
    intro h1 h2
    cases b with
    | nil => rw [less_nil] at h1; cases h1
    | cons y b =>
      cases c with
      | nil => rw [less_nil] at h2; cases h2
      | cons z c =>
        rw [less_cons] at *
        simp only [Bool.or_eq_true, decide_eq_true_eq, Bool.and_eq_true, beq_iff_eq, UInt8.lt_iff_toNat_lt] at *
        rcases h1 with h1 | ⟨rfl, h1⟩
        · rcases h2 with h2 | ⟨rfl, h2⟩
          · exact .inl (by omega)
          · exact .inl h1
        · rcases h2 with h2 | ⟨rfl, h2⟩
          · exact .inl h2
          · exact .inr ⟨rfl, ih _ _ h1 h2⟩
theorem less_tri (a b : List UInt8) : Op.bytesLess a b = false → Op.bytesLess b a = false → a = b := by
  induction a generalizing b with
  | nil =>
    intro h1 h2
    cases b with
    | nil => rfl
    | cons y b => exact absurd h1 (by simp [Op.bytesLess])
  | cons x a ih =>
    intro h1 h2
    cases b with
    | nil => exact absurd h2 (by simp [Op.bytesLess])
    | cons y b =>
      rw [less_cons] at *
      simp only [Bool.or_eq_false_iff, decide_eq_false_iff_not, Bool.and_eq_false_iff, beq_eq_false_iff_ne, UInt8.lt_iff_toNat_lt] at *
      have hxy : x = y := UInt8.toNat_inj.1 (by omega)
      subst hxy
      rw [ih b (h1.2.resolve_left (fun h => h rfl)) (h2.2.resolve_left (fun h => h rfl))]
theorem compare_less (a b : List UInt8) : (Lib.compareBytes a b < 0 ↔ Op.bytesLess a b = true) ∧ (Lib.compareBytes a b = 0 ↔ a = b) := by
  induction a generalizing b with
  | nil =>
    cases b with
    | nil => exact ⟨by simp [Lib.compareBytes, Op.bytesLess], by simp [Lib.compareBytes]⟩
    | cons y b => exact ⟨by simp [Lib.compareBytes, Op.bytesLess], by simp [Lib.compareBytes]⟩
  | cons x a ih =>
    cases b with
    | nil => exact ⟨by simp [Lib.compareBytes, Op.bytesLess], by simp [Lib.compareBytes]⟩
    | cons y b =>
      rw [less_cons]
      simp only [Lib.compareBytes]
      by_cases h1 : x < y
      · have hne : x ≠ y := by rintro rfl; exact absurd h1 (by simp [UInt8.lt_iff_toNat_lt])
        rw [if_pos h1]
        exact ⟨by simp [h1], by simp [hne]⟩
      · rw [if_neg h1]
        by_cases h2 : y < x
        · have hne : x ≠ y := by rintro rfl; exact absurd h2 (by simp [UInt8.lt_iff_toNat_lt])
          rw [if_pos h2]
          exact ⟨by simp [h1, hne], by simp [hne]⟩
        · have hxy : x = y := UInt8.toNat_inj.1 (by rw [UInt8.lt_iff_toNat_lt] at h1 h2; omega)
          subst hxy
          rw [if_neg h2]
          obtain ⟨i1, i2⟩ := ih b
          exact ⟨by rw [i1]; simp [h1], by rw [i2]; simp⟩
/-- Is a text ahead of another one? -/
def blt (a b : ByteArray) : Bool := Op.bytesLess a.toList b.toList
theorem blt_irrefl (a : ByteArray) : blt a a = false := less_irrefl _
theorem blt_trans {a b c : ByteArray} (h : blt a b = true) (k : blt b c = true) : blt a c = true := less_trans _ _ _ h k
theorem bytes_eq {a b : ByteArray} (h : a.toList = b.toList) : a = b := by
  rw [ByteArray.toList_eq, ByteArray.toList_eq] at h
  have h2 : a.data = b.data := Array.toList_inj.1 h
  cases a; cases b; simp only at h2; rw [h2]
theorem blt_tri {a b : ByteArray} (h : blt a b = false) (k : blt b a = false) : a = b := bytes_eq (less_tri _ _ h k)
theorem blt_asymm {a b : ByteArray} (h : blt a b = true) : blt b a = false := by
  cases k : blt b a with
  | false => rfl
  | true => have := blt_trans h k; rw [blt_irrefl] at this; cases this
theorem bytes_le (a b : ByteArray) : (Op.bytesLess a.toList b.toList || a.toList == b.toList) = !(Op.bytesLess b.toList a.toList) := by
  cases h : Op.bytesLess a.toList b.toList with
  | true =>
    have := blt_asymm (a := a) (b := b) h
    unfold blt at this
    rw [this]; rfl
  | false =>
    cases k : Op.bytesLess b.toList a.toList with
    | true =>
      have : (a.toList == b.toList) = false := by
        rw [beq_eq_false_iff_ne]
        intro e
        rw [e, less_irrefl] at k
        cases k
      rw [this]; rfl
    | false => rw [less_tri _ _ h k]; simp
@[go_sem] theorem binOp_leq_less (t : TypeId) (a b : ByteArray) : binOp .leq t (.string a) (.string b) = pure (.bool (!(Op.bytesLess b.toList a.toList))) := by
  rw [← bytes_le]; simp [binOp, Op.stringOp]
@[go_sem] theorem binOp_gtr_less (t : TypeId) (a b : ByteArray) : binOp .gtr t (.string a) (.string b) = pure (.bool (Op.bytesLess b.toList a.toList)) := by
  rw [← Bool.not_not (Op.bytesLess b.toList a.toList), ← bytes_le]; simp [binOp, Op.stringOp]
@[go_sem] theorem binOp_geq_less (t : TypeId) (a b : ByteArray) : binOp .geq t (.string a) (.string b) = pure (.bool (!(Op.bytesLess a.toList b.toList))) := by simp [binOp, Op.stringOp]
def bcmp (a b : ByteArray) : Int := Lib.compareBytes a.data.toList b.data.toList
theorem bcmp_lt (a b : ByteArray) : bcmp a b < 0 ↔ blt a b = true := by
  unfold bcmp blt
  rw [ByteArray.toList_eq, ByteArray.toList_eq]
  exact (compare_less _ _).1
theorem bcmp_eq (a b : ByteArray) : bcmp a b = 0 ↔ a = b := by
  unfold bcmp
  rw [(compare_less _ _).2]
  constructor
  · intro h; exact bytes_eq (by rw [ByteArray.toList_eq, ByteArray.toList_eq]; exact h)
  · intro h; rw [h]
/-- Where a key stands, or would stand, among keys in order. -/
def posK (ks : List ByteArray) (key : ByteArray) : Nat := (ks.takeWhile fun x => blt x key).length
theorem posK_le (ks : List ByteArray) (key : ByteArray) : posK ks key ≤ ks.length := List.Sublist.length_le (List.takeWhile_sublist _)
/-- Keys in order. -/
def OrdK (ks : List ByteArray) : Prop := ks.Pairwise fun a b => blt a b = true
instance (ks : List ByteArray) : Decidable (OrdK ks) := by unfold OrdK; infer_instance
theorem ordK_get {ks : List ByteArray} (h : OrdK ks) (i j : Nat) (hij : i < j) (hj : j < ks.length) : blt (ks[i]'(by omega)) ks[j] = true := List.pairwise_iff_getElem.1 h i j (by omega) hj hij
theorem posK_of (ks : List ByteArray) (key : ByteArray) (i : Nat) (hi : i ≤ ks.length) (h1 : ∀ k (hk : k < ks.length), k < i → blt ks[k] key = true) (h2 : ∀ (hk : i < ks.length), blt ks[i] key = false) : posK ks key = i := by
  unfold posK
  induction ks generalizing i with
  | nil => simp at hi; simp [hi]
  | cons a ks ih =>
    rcases i with _ | i
    · have := h2 (by simp)
      simp only [List.getElem_cons_zero] at this
      rw [List.takeWhile_cons, this]
      rfl
    · have := h1 0 (by simp) (by omega)
      simp only [List.getElem_cons_zero] at this
      rw [List.takeWhile_cons, if_pos this, List.length_cons, ih i (by simpa using hi) (fun k hk hki => by have := h1 (k + 1) (by simpa using hk) (by omega); simp only [List.getElem_cons_succ] at this; exact this) (fun hk => by have := h2 (by simpa using hk); simp only [List.getElem_cons_succ] at this; exact this)]
theorem posK_lt {ks : List ByteArray} {key : ByteArray} (k : Nat) (hk : k < ks.length) (h : k < posK ks key) : blt ks[k] key = true := by
  unfold posK at h
  induction ks generalizing k with
  | nil => simp at hk
  | cons a ks ih =>
    rw [List.takeWhile_cons] at h
    split at h
    · rename_i ha
      rcases k with _ | k
      · exact ha
      · exact ih k (by simpa using hk) (by simpa using h)
    · simp at h
theorem posK_not {ks : List ByteArray} {key : ByteArray} (hk : posK ks key < ks.length) : blt ks[posK ks key] key = false := by
  induction ks with
  | nil => simp at hk
  | cons a ks ih =>
    by_cases ha : blt a key = true
    · have e : posK (a :: ks) key = posK ks key + 1 := by unfold posK; rw [List.takeWhile_cons, if_pos ha]; rfl
      have hk' : posK ks key < ks.length := by rw [e] at hk; simpa using hk
      have := ih hk'
      simp only [e, List.getElem_cons_succ]
      exact this
    · have e : posK (a :: ks) key = 0 := by unfold posK; rw [List.takeWhile_cons, if_neg ha]; rfl
      simp only [e, List.getElem_cons_zero]
      simpa using ha
end Go.Proofs.Ytfnpiclioikjpaa.X

/- '==' of arrays, place by place. -/
namespace Go.Proofs.Ytfnpiclioikjpaa.X
open Go
theorem eqi_cons {P : Program} {w : World} {d : Nat} {e : TypeId} {c : Nat} {xs ys : Array Value} {i : Nat} {is : List Nat} {a b : Value} {r s : Bool} (ha : (part e xs (i * c)).run P w = .ok a w) (hb : (part e ys (i * c)).run P w = .ok b w)
    (he : (Op.equalIn d e a b).run P w = .ok r w) (hr : (Op.eqItems d e c xs ys is).run P w = .ok s w) : (Op.eqItems d e c xs ys (i :: is)).run P w = .ok (r && s) w := by
  rw [Op.eqItems]
  simp only [Sem.run_bind, ha, hb, he, Result.andThen_ok]
  cases r
  · simp
  · simpa using hr
theorem eqi_nil {P : Program} {w : World} {d : Nat} {e : TypeId} {c : Nat} {xs ys : Array Value} : (Op.eqItems d e c xs ys []).run P w = .ok true w := by simp [Op.eqItems]
theorem eqi_of {P : Program} {w : World} {d : Nat} {t e : TypeId} {n : Nat} {xs ys : Array Value} {r : Bool} (hu : P.underlying t = some (.array n e)) (hi : (P.info? e).isSome = true)
    (h : (Op.eqItems d e (P.cellsOf e) xs ys (List.range n)).run P w = .ok r w) : (Op.equalIn (d + 1) t (.agg xs) (.agg ys)).run P w = .ok r w := by
  obtain ⟨i, hi⟩ := Option.isSome_iff_exists.1 hi
  rw [run_equalIn_array w d xs ys hu hi]
  exact h
end Go.Proofs.Ytfnpiclioikjpaa.X

/- Functions of the seat as Lean functions, and that the calls come to them: written by this session's own program xprint.py over the kit's printer. -/
namespace Go.Proofs.Ytfnpiclioikjpaa.X
open Go.RowKit Go.Proofs.YtfnpiclioikjpaaW.PrintWords Go.Proofs.YtfnpiclioikjpaaW.PrintLast Go.Proofs.YtfnpiclioikjpaaW.PrintMore
attribute [local go_sem] max2_int min2_int max_two min_two max_three min_three max_four min_four   -- for this text's walks alone
set_option linter.unusedVariables false
set_option linter.unusedSimpArgs false



def errW : Option Int → Value
  | none => .nilIface
  | some c => .iface 0 (.int .i64 c)
theorem errW_none : errW none = .nilIface := rfl
theorem errW_some (c : Int) : errW (some c) = .iface 0 (.int .i64 c) := rfl

theorem info94 : (Try.prog.info? 94).map (fun i => (i.zero, i.size, i.bytes)) = some (some (.agg #[(.string ⟨#[]⟩), (.int .i64 0), (.int .i64 0), (.int .i64 0), (.int .i64 0), (.int .i64 0)]), 6, 56) := by kernel_rfl
-- the values' own types
/-! #### struct type 92 -/
structure S92 where
  f0 : Int
  f1 : Int
  f2 : Int
  f3 : Int
  f4 : Int
def z92 : S92 := ⟨(0 : Int), (0 : Int), (0 : Int), (0 : Int), (0 : Int)⟩
def k92 : Kd S92 := Kd.iso (Kd.pair (Kd.int .i64) (Kd.pair (Kd.int .i64) (Kd.pair (Kd.int .i64) (Kd.pair (Kd.int .i64) (Kd.int .i64))))) (fun x : S92 => (x.f0, x.f1, x.f2, x.f3, x.f4))
theorem k92_open {w : World} {x : S92} {cs : List Value} (h : k92.K w x cs) : cs = [.int .i64 x.f0, .int .i64 x.f1, .int .i64 x.f2, .int .i64 x.f3, .int .i64 x.f4] := by
  obtain ⟨_, _, rfl, rfl, ⟨_, _, rfl, rfl, ⟨_, _, rfl, rfl, ⟨_, _, rfl, rfl, rfl⟩⟩⟩⟩ := h
  exact rfl
theorem k92_openM {w : World} {base : Nat} {ok : Nat → Prop} {x : S92} {cs : List Value} (h : k92.M w base ok x cs) : cs = [.int .i64 x.f0, .int .i64 x.f1, .int .i64 x.f2, .int .i64 x.f3, .int .i64 x.f4] := by
  obtain ⟨_, _, rfl, rfl, ⟨_, _, rfl, rfl, ⟨_, _, rfl, rfl, ⟨_, _, rfl, rfl, rfl⟩⟩⟩⟩ := h
  exact rfl
theorem k92_mk (w : World) (x : S92)  : k92.K w x [.int .i64 x.f0, .int .i64 x.f1, .int .i64 x.f2, .int .i64 x.f3, .int .i64 x.f4] := ⟨[.int .i64 x.f0], [.int .i64 x.f1, .int .i64 x.f2, .int .i64 x.f3, .int .i64 x.f4], rfl, rfl, ⟨[.int .i64 x.f1], [.int .i64 x.f2, .int .i64 x.f3, .int .i64 x.f4], rfl, rfl, ⟨[.int .i64 x.f2], [.int .i64 x.f3, .int .i64 x.f4], rfl, rfl, ⟨[.int .i64 x.f3], [.int .i64 x.f4], rfl, rfl, rfl⟩⟩⟩⟩
theorem k92_mkM (w : World) (base : Nat) (ok : Nat → Prop) (x : S92)  : k92.M w base ok x [.int .i64 x.f0, .int .i64 x.f1, .int .i64 x.f2, .int .i64 x.f3, .int .i64 x.f4] := ⟨[.int .i64 x.f0], [.int .i64 x.f1, .int .i64 x.f2, .int .i64 x.f3, .int .i64 x.f4], rfl, rfl, ⟨[.int .i64 x.f1], [.int .i64 x.f2, .int .i64 x.f3, .int .i64 x.f4], rfl, rfl, ⟨[.int .i64 x.f2], [.int .i64 x.f3, .int .i64 x.f4], rfl, rfl, ⟨[.int .i64 x.f3], [.int .i64 x.f4], rfl, rfl, rfl⟩⟩⟩⟩
def rd_T92 (xs : List S92) (i : Int) : S92 := xs.getD i.toNat z92
theorem at_T92 {w : World} {A : Option Addr} {n : Nat} {xs : List S92} (h : Kd.C k92 w A n xs) (i : Int) (h0 : 0 ≤ i) (h1 : i < n) : ∃ ad , A = some ad ∧ w.cell? (ad.add (i.toNat * 5)) = some (.int .i64 (rd_T92 xs i).f0) ∧ w.cell? ⟨(ad.add (i.toNat * 5)).block, (ad.add (i.toNat * 5)).off + 1, none⟩ = some (.int .i64 (rd_T92 xs i).f1) ∧ w.cell? ⟨(ad.add (i.toNat * 5)).block, (ad.add (i.toNat * 5)).off + 2, none⟩ = some (.int .i64 (rd_T92 xs i).f2) ∧ w.cell? ⟨(ad.add (i.toNat * 5)).block, (ad.add (i.toNat * 5)).off + 3, none⟩ = some (.int .i64 (rd_T92 xs i).f3) ∧ w.cell? ⟨(ad.add (i.toNat * 5)).block, (ad.add (i.toNat * 5)).off + 4, none⟩ = some (.int .i64 (rd_T92 xs i).f4) := by
  obtain ⟨ad, c, e, _, hK, hc0⟩ := Kd.C_get h z92 i h0 h1
  have hc : ∀ j u, c[j]? = some u → w.cell? (ad.add (i.toNat * 5 + j)) = some u := hc0
  obtain rfl := k92_open hK
  exact ⟨ad, e, hc 0 _ rfl, by rw [← add_field _ _ 1 (by omega)]; exact hc 1 _ rfl, by rw [← add_field _ _ 2 (by omega)]; exact hc 2 _ rfl, by rw [← add_field _ _ 3 (by omega)]; exact hc 3 _ rfl, by rw [← add_field _ _ 4 (by omega)]; exact hc 4 _ rfl⟩

/-! #### struct type 94 -/
structure S94 where
  f0 : ByteArray
  f1 : S92
def z94 : S94 := ⟨(⟨#[]⟩ : ByteArray), z92⟩
def k94 : Kd S94 := Kd.iso (Kd.pair Kd.string k92) (fun x : S94 => (x.f0, x.f1))
theorem k94_open {w : World} {x : S94} {cs : List Value} (h : k94.K w x cs) : cs = [.string x.f0, .int .i64 x.f1.f0, .int .i64 x.f1.f1, .int .i64 x.f1.f2, .int .i64 x.f1.f3, .int .i64 x.f1.f4] := by
  obtain ⟨_, _, rfl, rfl, s1⟩ := h
  obtain rfl := k92_open s1
  exact rfl
theorem k94_openM {w : World} {base : Nat} {ok : Nat → Prop} {x : S94} {cs : List Value} (h : k94.M w base ok x cs) : cs = [.string x.f0, .int .i64 x.f1.f0, .int .i64 x.f1.f1, .int .i64 x.f1.f2, .int .i64 x.f1.f3, .int .i64 x.f1.f4] := by
  obtain ⟨_, _, rfl, rfl, s1⟩ := h
  obtain rfl := k92_openM s1
  exact rfl
theorem k94_mk (w : World) (x : S94)  : k94.K w x [.string x.f0, .int .i64 x.f1.f0, .int .i64 x.f1.f1, .int .i64 x.f1.f2, .int .i64 x.f1.f3, .int .i64 x.f1.f4] := ⟨[.string x.f0], [.int .i64 x.f1.f0, .int .i64 x.f1.f1, .int .i64 x.f1.f2, .int .i64 x.f1.f3, .int .i64 x.f1.f4], rfl, rfl, (k92_mk w x.f1 )⟩
theorem k94_mkM (w : World) (base : Nat) (ok : Nat → Prop) (x : S94)  : k94.M w base ok x [.string x.f0, .int .i64 x.f1.f0, .int .i64 x.f1.f1, .int .i64 x.f1.f2, .int .i64 x.f1.f3, .int .i64 x.f1.f4] := ⟨[.string x.f0], [.int .i64 x.f1.f0, .int .i64 x.f1.f1, .int .i64 x.f1.f2, .int .i64 x.f1.f3, .int .i64 x.f1.f4], rfl, rfl, (k92_mkM w base ok x.f1 )⟩
def rd_T94 (xs : List S94) (i : Int) : S94 := xs.getD i.toNat z94
theorem at_T94 {w : World} {A : Option Addr} {n : Nat} {xs : List S94} (h : Kd.C k94 w A n xs) (i : Int) (h0 : 0 ≤ i) (h1 : i < n) : ∃ ad , A = some ad ∧ w.cell? (ad.add (i.toNat * 6)) = some (.string (rd_T94 xs i).f0) ∧ w.cell? ⟨(ad.add (i.toNat * 6)).block, (ad.add (i.toNat * 6)).off + 1, none⟩ = some (.int .i64 (rd_T94 xs i).f1.f0) ∧ w.cell? ⟨(ad.add (i.toNat * 6)).block, (ad.add (i.toNat * 6)).off + 2, none⟩ = some (.int .i64 (rd_T94 xs i).f1.f1) ∧ w.cell? ⟨(ad.add (i.toNat * 6)).block, (ad.add (i.toNat * 6)).off + 3, none⟩ = some (.int .i64 (rd_T94 xs i).f1.f2) ∧ w.cell? ⟨(ad.add (i.toNat * 6)).block, (ad.add (i.toNat * 6)).off + 4, none⟩ = some (.int .i64 (rd_T94 xs i).f1.f3) ∧ w.cell? ⟨(ad.add (i.toNat * 6)).block, (ad.add (i.toNat * 6)).off + 5, none⟩ = some (.int .i64 (rd_T94 xs i).f1.f4) := by
  obtain ⟨ad, c, e, _, hK, hc0⟩ := Kd.C_get h z94 i h0 h1
  have hc : ∀ j u, c[j]? = some u → w.cell? (ad.add (i.toNat * 6 + j)) = some u := hc0
  obtain rfl := k94_open hK
  exact ⟨ad, e, hc 0 _ rfl, by rw [← add_field _ _ 1 (by omega)]; exact hc 1 _ rfl, by rw [← add_field _ _ 2 (by omega)]; exact hc 2 _ rfl, by rw [← add_field _ _ 3 (by omega)]; exact hc 3 _ rfl, by rw [← add_field _ _ 4 (by omega)]; exact hc 4 _ rfl, by rw [← add_field _ _ 5 (by omega)]; exact hc 5 _ rfl⟩

def rd_L4 (xs : List (List S94)) (i : Int) : (List S94) := xs.getD i.toNat ([] : List S94)
theorem at_L4 {w : World} {A : Option Addr} {n : Nat} {xs : List (List S94)} (h : Kd.C (Kd.slice 94 k94) w A n xs) (i : Int) (h0 : 0 ≤ i) (h1 : i < n) : ∃ ad A0 c0, A = some ad ∧ w.cell? (ad.add i.toNat) = some (.slice A0 (rd_L4 xs i).length c0) ∧ (rd_L4 xs i).length ≤ c0 ∧ k94.C w A0 (rd_L4 xs i).length (rd_L4 xs i) := by
  obtain ⟨ad, c, e, _, hK, hc0⟩ := Kd.C_get h ([] : List S94) i h0 h1
  have hc : ∀ j u, c[j]? = some u → w.cell? (ad.add (i.toNat * 1 + j)) = some u := hc0
  obtain ⟨A0, c0, rfl, l0, g0⟩ := hK
  exact ⟨ad, A0, c0, e, by have hq := hc 0 _ rfl; rwa [Nat.mul_one, Nat.add_zero] at hq, l0, g0⟩

end Go.Proofs.Ytfnpiclioikjpaa.X

/- Small helpers for rounds. -/
set_option linter.unusedSimpArgs false
set_option linter.unusedVariables false
namespace Go.Proofs.Ytfnpiclioikjpaa.X
open Go.RowKit Go.Proofs.YtfnpiclioikjpaaW.PrintWords Go.Proofs.YtfnpiclioikjpaaW.PrintLast Go.Proofs.YtfnpiclioikjpaaW.PrintMore

theorem Ev.succ {α : Type} {g : Nat → Option α} {r : α} (h : Ev (fun k => g (k + 1)) r) : Ev g r := Ev.step (fun _ => rfl) h
theorem Ev.bind1 {α β : Type} {g : Option α} {f : Nat → α → Option β} {a : α} {r : β} (h : g = some a) (k : Ev (fun n => f n a) r) : Ev (fun n => g.bind (f n)) r := by
  subst h
  exact k
theorem Ev.yes {α : Type} {c : Prop} [Decidable c] {g f : Nat → Option α} {r : α} (h : c) (k : Ev g r) : Ev (fun n => if c then g n else f n) r := Ev.congr (fun _ => if_pos h) k
theorem Ev.no {α : Type} {c : Prop} [Decidable c] {g f : Nat → Option α} {r : α} (h : ¬ c) (k : Ev f r) : Ev (fun n => if c then g n else f n) r := Ev.congr (fun _ => if_neg h) k
theorem Ev.is {α : Type} {r r' : α} (h : r = r') : Ev (fun _ => some r) r' := h ▸ Ev.now r
theorem wrap_up (i : Nat) (h : (i : Int) < 9223372036854775807) : wrap64 ((i : Int) + 1) = ((i + 1 : Nat) : Int) := by
  unfold wrap64; omega
theorem wrap_dn (i : Nat) (h0 : 0 < i) (h : (i : Int) < 9223372036854775807) : wrap64 ((i : Int) - 1) = ((i - 1 : Nat) : Int) := by
  unfold wrap64; omega
end Go.Proofs.Ytfnpiclioikjpaa.X

/- strings.Compare. -/
set_option linter.unusedSimpArgs false
set_option linter.unusedVariables false
namespace Go.Proofs.Ytfnpiclioikjpaa.X
open Go.RowKit Go.Proofs.YtfnpiclioikjpaaW.PrintWords

set_option maxHeartbeats 1000000 in
set_option maxRecDepth 100000 in
theorem compareString (a b : ByteArray) (w : World) :
    Calls Try.prog 86 #[.string a, .string b] w fun e w' => e = .returned (.int .i64 (bcmp a b)) ∧ w' = w := by
  go_enter Try.func86, Try.ntmps86
  go_wp2
  rw [run_callFunc_extern Try.func91 (by kernel_rfl) (by kernel_rfl) (by kernel_rfl) (e := Extern.BytealgCompare.compare) (by kernel_rfl), Lib.run_compareString]
  simp only [Result.andThen]
  rw [Oper.upon_value]
  go_wp2
  go_ret
  exact ⟨rfl, rfl⟩
set_option maxHeartbeats 1000000 in
theorem stringsCompare (a b : ByteArray) (w : World) :
    Calls Try.prog 74 #[.string a, .string b] w fun e w' => e = .returned (.int .i64 (bcmp a b)) ∧ w' = w := by
  go_enter Try.func74, Try.ntmps74
  go_wp2_with fail
  refine (compareString _ _ _).mono ?_
  rintro e w' ⟨rfl, rfl⟩
  go_wp2_with fail
  go_ret
  exact ⟨rfl, rfl⟩
end Go.Proofs.Ytfnpiclioikjpaa.X

/- find among Accs: by halves. -/
set_option linter.unusedSimpArgs false
set_option linter.unusedVariables false
namespace Go.Proofs.Ytfnpiclioikjpaa.X
open Go.RowKit Go.Proofs.YtfnpiclioikjpaaW.PrintWords

set_option maxHeartbeats 1000000 in
set_option maxRecDepth 100000 in
theorem find1Acc (x : S94) (key : ByteArray) (w : World) :
    Calls Try.prog 82 #[.agg #[.string x.f0, .int .i64 x.f1.f0, .int .i64 x.f1.f1, .int .i64 x.f1.f2, .int .i64 x.f1.f3, .int .i64 x.f1.f4], .string key] w fun e w' => e = .returned (.int .i64 (bcmp x.f0 key)) ∧ Below w.heap.size w w' := by
  go_enter Try.func82, Try.ntmps82
  go_wp2_with fail
  refine (stringsCompare _ _ _).mono ?_
  rintro e w' ⟨rfl, rfl⟩
  go_wp2_with fail
  go_ret
  exact ⟨rfl, below_alloc (Below.refl _ _) _⟩

def ksAcc (l : List S94) : List ByteArray := l.map (·.f0)
theorem ksAcc_get (l : List S94) (i : Nat) (h : i < l.length) : (ksAcc l)[i]'(by simpa [ksAcc] using h) = (rd_T94 l (i : Int)).f0 := by
  unfold ksAcc rd_T94
  simp [List.getD, h]
/-- Is the key at its place? -/
def hasAcc (l : List S94) (key : ByteArray) : Bool := decide (posK (ksAcc l) key < l.length) && ((rd_T94 l (posK (ksAcc l) key : Int)).f0.toList == key.toList)

def intV : Value → Int
  | .int _ a => a
  | _ => 0
set_option maxHeartbeats 4000000 in
set_option maxRecDepth 100000 in
theorem bsfAcc (A : Option Addr) (c : Nat) (l : List S94) (key : ByteArray) (w : World) (hr : Kd.C k94 w A l.length l) (hc : l.length ≤ c) (hn : l.length ≤ 4000000000) (ho : OrdK (ksAcc l)) :
    Calls Try.prog 81 #[.slice A l.length c, .string key, .func (.func 82) #[] #[]] w fun e w' => e = .returned (.tuple #[.int .i64 (posK (ksAcc l) key : Nat), .bool (hasAcc l key)]) ∧ Below w.heap.size w w' := by
  have hkl : (ksAcc l).length = l.length := by simp [ksAcc]
  have hhas : hasAcc l key = (decide (posK (ksAcc l) key < l.length) && ((rd_T94 l (posK (ksAcc l) key : Int)).f0.toList == key.toList)) := rfl
  have hget : ∀ k (h : k < (ksAcc l).length), (ksAcc l)[k] = (rd_T94 l (k : Int)).f0 := fun k h => ksAcc_get l k (by simpa [ksAcc] using h)
  generalize hnl : l.length = n at *
  have HNL := Aside0.mk hkl
  have HR := Aside0.mk hr
  have HO := Aside0.mk ho
  have HH := Aside0.mk hhas
  have HG := Aside0.mk hget
  clear hr ho hnl hkl hhas hget
  go_enter Try.func81, Try.ntmps81
  go_wp2
  go_loopw [9, 10] (fun v9 v10 w' => ∃ (i j : Nat), v9 = .int .i64 (i : Int) ∧ v10 = .int .i64 (j : Int) ∧ i ≤ j ∧ j ≤ n ∧ Aside0 (∀ k (hk : k < (ksAcc l).length), k < i → blt (ksAcc l)[k] key = true) ∧ Aside0 (∀ k (hk : k < (ksAcc l).length), j ≤ k → blt (ksAcc l)[k] key = false) ∧ Aside0 (Below w.heap.size w w')) (fun v9 v10 _ => (intV v10 - intV v9).toNat)
  case atStart => exact ⟨0, n, rfl, rfl, by omega, by omega, ⟨fun k hk h => absurd h (by omega)⟩, ⟨fun k hk h => absurd h (by have := HNL.out; omega)⟩, ⟨Below.refl _ _⟩⟩
  case round =>
    obtain ⟨i, j, rfl, rfl, hij, hj, HA, HZ, HB⟩ := hrel
    by_cases hlt : i < j
    · have hlt' : decide ((i : Int) < (j : Int)) = true := by simp; omega
      obtain ⟨m, hm⟩ : ∃ m, m = (i + j) / 2 := ⟨_, rfl⟩
      have hw1 : IntKind.i64.wrap ((i : Int) + (j : Int)) = (i : Int) + (j : Int) := by rw [IntKind.wrap_i64]; omega
      have hw2 : IntKind.u64.wrap ((i : Int) + (j : Int)) = (i : Int) + (j : Int) := by simp [IntKind.wrap, IntKind.bits, IntKind.signed]; omega
      have hw3 : ((i : Int) + (j : Int)) / 2 = (m : Int) := by omega
      have hw4 : wrap64 (m : Int) = (m : Int) := by unfold wrap64; omega
      have hw5 : IntKind.i64.wrap ((m : Int) + 1) = (m : Int) + 1 := by rw [IntKind.wrap_i64]; omega
      have p : 0 ≤ (m : Int) := by omega
      have q : (m : Int) < (n : Int) := by omega
      obtain ⟨ad, e0, hx0, hx1, hx2, hx3, hx4, hx5⟩ := at_T94 HR.out (m : Int) p q
      cases e0
      simp only [Int.toNat_natCast] at hx0 hx1 hx2 hx3 hx4 hx5
      have hB := HB.out
      replace hx0 := (hB.cell (World.block_lt_of_cell? w _ hx0)).trans hx0; replace hx1 := (hB.cell (World.block_lt_of_cell? w _ hx1)).trans hx1; replace hx2 := (hB.cell (World.block_lt_of_cell? w _ hx2)).trans hx2; replace hx3 := (hB.cell (World.block_lt_of_cell? w _ hx3)).trans hx3; replace hx4 := (hB.cell (World.block_lt_of_cell? w _ hx4)).trans hx4; replace hx5 := (hB.cell (World.block_lt_of_cell? w _ hx5)).trans hx5
      clear hB
      replace p := eq_true p
      replace q := eq_true q
      have him : i ≤ m := by omega
      have hmj : m < j := by omega
      clear hm
      cases hcmp : blt (rd_T94 l (m : Int)).f0 key with
      | true =>
        have hd : decide (bcmp (rd_T94 l (m : Int)).f0 key < 0) = true := decide_eq_true ((bcmp_lt _ _).2 hcmp)
        go_wp2_with fail
        refine (find1Acc (rd_T94 l (m : Int)) key _).mono ?_
        rintro e w' ⟨rfl, hb⟩
        go_wp2_with fail
        go_roundw
        case rel =>
          refine ⟨m + 1, j, rfl, rfl, by omega, hj, ⟨fun k hk h => ?_⟩, HZ, ⟨below_step HB.out hb⟩⟩
          have hml : m < (ksAcc l).length := by have := HNL.out; omega
          have hmk : blt (ksAcc l)[m] key = true := by rw [HG.out m hml]; exact hcmp
          rcases Nat.lt_or_ge k m with h1 | h1
          · exact blt_trans (ordK_get HO.out k m h1 hml) hmk
          · obtain rfl : k = m := by omega
            exact hmk
        case measure => simp only [intV]; omega
      | false =>
        have hd : decide (bcmp (rd_T94 l (m : Int)).f0 key < 0) = false := decide_eq_false (fun h => by rw [(bcmp_lt _ _).1 h] at hcmp; cases hcmp)
        go_wp2_with fail
        refine (find1Acc (rd_T94 l (m : Int)) key _).mono ?_
        rintro e w' ⟨rfl, hb⟩
        go_wp2_with fail
        go_roundw
        case rel =>
          refine ⟨i, m, rfl, rfl, by omega, by omega, HA, ⟨fun k hk h => ?_⟩, ⟨below_step HB.out hb⟩⟩
          have hml : m < (ksAcc l).length := by have := HNL.out; omega
          have hmk : blt (ksAcc l)[m] key = false := by rw [HG.out m hml]; exact hcmp
          rcases Nat.lt_or_ge m k with h1 | h1
          · cases hc2 : blt (ksAcc l)[k] key with
            | false => rfl
            | true => rw [blt_trans (ordK_get HO.out m k h1 hk) hc2] at hmk; cases hmk
          · obtain rfl : k = m := by omega
            exact hmk
        case measure => simp only [intV]; omega
    · have hlt' : decide ((i : Int) < (j : Int)) = false := by simp; omega
      obtain rfl : i = j := by omega
      have hpos : posK (ksAcc l) key = i := posK_of _ _ _ (by have := HNL.out; omega) HA.out (fun hk => HZ.out i hk (by omega))
      have hh := HH.out
      rw [hpos] at hh
      have HP := Aside0.mk hpos
      have HH2 := Aside0.mk hh
      clear hh hpos HH
      by_cases hin : i < n
      · have p : 0 ≤ (i : Int) := by omega
        have q : (i : Int) < (n : Int) := by omega
        obtain ⟨ad, e0, hx0, hx1, hx2, hx3, hx4, hx5⟩ := at_T94 HR.out (i : Int) p q
        cases e0
        simp only [Int.toNat_natCast] at hx0 hx1 hx2 hx3 hx4 hx5
        have hB := HB.out
        replace hx0 := (hB.cell (World.block_lt_of_cell? w _ hx0)).trans hx0; replace hx1 := (hB.cell (World.block_lt_of_cell? w _ hx1)).trans hx1; replace hx2 := (hB.cell (World.block_lt_of_cell? w _ hx2)).trans hx2; replace hx3 := (hB.cell (World.block_lt_of_cell? w _ hx3)).trans hx3; replace hx4 := (hB.cell (World.block_lt_of_cell? w _ hx4)).trans hx4; replace hx5 := (hB.cell (World.block_lt_of_cell? w _ hx5)).trans hx5
        clear hB
        have hq : decide ((i : Int) < (n : Int)) = true := by simp; omega
        have hqn : decide (i < n) = true := decide_eq_true hin
        replace p := eq_true p
        replace q := eq_true q
        have hfin : (bcmp (rd_T94 l (i : Int)).f0 key == 0) = ((rd_T94 l (i : Int)).f0.toList == key.toList) := by
          rw [Bool.eq_iff_iff, beq_iff_eq, beq_iff_eq, bcmp_eq]
          exact ⟨fun h => by rw [h], bytes_eq⟩
        obtain ⟨bq, hbq⟩ : ∃ bq, bq = (bcmp (rd_T94 l (i : Int)).f0 key == 0) := ⟨_, rfl⟩
        have HBQ := Aside0.mk hbq
        have HFI := Aside0.mk hfin
        clear hfin hbq
        go_wp2_with fail
        refine (find1Acc (rd_T94 l (i : Int)) key _).mono ?_
        rintro e w' ⟨rfl, hb⟩
        go_wp2_with fail
        go_ret2
        refine ⟨?_, below_step HB.out hb⟩
        rw [HP.out, HH2.out, hqn, Bool.true_and, ← HFI.out]
        rfl
      · obtain rfl : i = n := by omega
        have hq : decide ((i : Int) < (i : Int)) = false := by simp
        have hqn : decide (i < i) = false := by simp
        go_wp2_with fail
        go_ret2
        refine ⟨?_, HB.out⟩
        rw [HP.out, HH2.out, hqn, Bool.false_and]
        rfl

end Go.Proofs.Ytfnpiclioikjpaa.X

/- Where a key stands among Accs. -/
set_option linter.unusedSimpArgs false
set_option linter.unusedVariables false
namespace Go.Proofs.Ytfnpiclioikjpaa.X
open Go.RowKit

theorem ks_lenAcc (l : List S94) : (ksAcc l).length = l.length := List.length_map ..
/-! #### where a key stands -/
theorem before_posAcc (l : List S94) (key : ByteArray) : ∀ x ∈ l.take (posK (ksAcc l) key), blt x.f0 key = true := by
  intro x hx
  obtain ⟨j, hj, rfl⟩ := List.mem_iff_getElem.1 hx
  rw [List.length_take] at hj
  have := posK_lt (ks := ksAcc l) (key := key) j (by rw [ks_lenAcc]; omega) (by omega)
  simpa [ksAcc] using this
theorem after_posAcc {l : List S94} (ho : OrdK (ksAcc l)) (key : ByteArray) : ∀ x ∈ l.drop (posK (ksAcc l) key), blt x.f0 key = false := by
  intro x hx
  obtain ⟨j, hj, rfl⟩ := List.mem_iff_getElem.1 hx
  rw [List.length_drop] at hj
  have hp : posK (ksAcc l) key < (ksAcc l).length := by rw [ks_lenAcc]; omega
  have h0 := posK_not hp
  rw [List.getElem_drop]
  rcases Nat.eq_zero_or_pos j with rfl | h1
  · simpa [ksAcc] using h0
  · have h2 := ordK_get ho (posK (ksAcc l) key) (posK (ksAcc l) key + j) (by omega) (by rw [ks_lenAcc]; omega)
    cases h3 : blt (l[posK (ksAcc l) key + j]).f0 key with
    | false => rfl
    | true =>
      have h4 : blt ((ksAcc l)[posK (ksAcc l) key + j]'(by rw [ks_lenAcc]; omega)) key = true := by simpa [ksAcc] using h3
      rw [blt_trans h2 h4] at h0
      cases h0
theorem rd_getAcc (l : List S94) (i : Nat) (h : i < l.length) : rd_T94 l (i : Int) = l[i] := by
  unfold rd_T94
  simp [List.getD, h]
theorem has_yesAcc {l : List S94} {key : ByteArray} (h : hasAcc l key = true) : ∃ hp : posK (ksAcc l) key < l.length, (l[posK (ksAcc l) key]).f0 = key := by
  unfold hasAcc at h
  rw [Bool.and_eq_true, decide_eq_true_eq, beq_iff_eq] at h
  refine ⟨h.1, ?_⟩
  have := bytes_eq h.2
  rw [rd_getAcc l _ h.1] at this
  exact this
theorem has_noAcc {l : List S94} {key : ByteArray} (ho : OrdK (ksAcc l)) (h : hasAcc l key = false) : ∀ x ∈ l, x.f0 ≠ key := by
  intro x hx he
  rw [← List.take_append_drop (posK (ksAcc l) key) l] at hx
  rcases List.mem_append.1 hx with hx | hx
  · have := before_posAcc l key x hx
    rw [he, blt_irrefl] at this
    cases this
  · obtain ⟨j, hj, hje⟩ := List.mem_iff_getElem.1 hx
    rw [List.length_drop] at hj
    have hp : posK (ksAcc l) key < l.length := by omega
    have hne : (l[posK (ksAcc l) key]).f0 ≠ key := by
      intro hk
      have : hasAcc l key = true := by
        unfold hasAcc
        rw [rd_getAcc l _ hp, hk]
        simp [hp]
      rw [this] at h
      cases h
    have h0 := after_posAcc ho key (l[posK (ksAcc l) key]) (by rw [List.mem_iff_getElem]; exact ⟨0, by rw [List.length_drop]; omega, by rw [List.getElem_drop]; rfl⟩)
    rcases Nat.eq_zero_or_pos j with rfl | h1
    · rw [List.getElem_drop] at hje
      have : l[posK (ksAcc l) key] = x := hje
      rw [this] at hne
      exact hne he
    · rw [List.getElem_drop] at hje
      have h2 := ordK_get ho (posK (ksAcc l) key) (posK (ksAcc l) key + j) (by omega) (by rw [ks_lenAcc]; omega)
      have h3 : blt (l[posK (ksAcc l) key]).f0 key = true := by
        have h4 : blt (l[posK (ksAcc l) key]).f0 x.f0 = true := by rw [← hje]; simpa [ksAcc] using h2
        rw [he] at h4
        exact h4
      rw [h3] at h0
      cases h0
theorem key_oneAcc {l : List S94} (ho : OrdK (ksAcc l)) {x y : S94} (hx : x ∈ l) (hy : y ∈ l) (h : x.f0 = y.f0) : x = y := by
  obtain ⟨i, hi, rfl⟩ := List.mem_iff_getElem.1 hx
  obtain ⟨j, hj, rfl⟩ := List.mem_iff_getElem.1 hy
  rcases Nat.lt_trichotomy i j with h1 | h1 | h1
  · have h2 := ordK_get ho i j h1 (by rw [ks_lenAcc]; omega)
    simp only [ksAcc, List.getElem_map] at h2
    rw [h, blt_irrefl] at h2
    cases h2
  · subst h1; rfl
  · have h2 := ordK_get ho j i h1 (by rw [ks_lenAcc]; omega)
    simp only [ksAcc, List.getElem_map] at h2
    rw [h, blt_irrefl] at h2
    cases h2

theorem ord_extAcc : ∀ (a b : List S94), OrdK (ksAcc a) → OrdK (ksAcc b) → (∀ x, x ∈ a ↔ x ∈ b) → a = b := by
  intro a
  induction a with
  | nil =>
    intro b _ _ h
    cases b with
    | nil => rfl
    | cons y b => exact absurd ((h y).2 (List.mem_cons_self ..)) (by simp)
  | cons x a ih =>
    intro b ha hb h
    cases b with
    | nil => exact absurd ((h x).1 (List.mem_cons_self ..)) (by simp)
    | cons y b =>
      have ha' := List.pairwise_cons.1 ha
      have hb' := List.pairwise_cons.1 hb
      have hxa : ∀ z ∈ a, blt x.f0 z.f0 = true := fun z hz => ha'.1 _ (List.mem_map.2 ⟨z, hz, rfl⟩)
      have hyb : ∀ z ∈ b, blt y.f0 z.f0 = true := fun z hz => hb'.1 _ (List.mem_map.2 ⟨z, hz, rfl⟩)
      have hxy : x = y := by
        rcases List.mem_cons.1 ((h x).1 (List.mem_cons_self ..)) with e | e
        · exact e
        rcases List.mem_cons.1 ((h y).2 (List.mem_cons_self ..)) with e' | e'
        · exact e'.symm
        have h1 := hyb x e
        have h2 := hxa y e'
        rw [blt_asymm h1] at h2
        cases h2
      subst hxy
      rw [ih b ha'.2 hb'.2 (fun z => ?_)]
      constructor
      · intro hz
        rcases List.mem_cons.1 ((h z).1 (List.mem_cons_of_mem _ hz)) with e | e
        · have := hxa z hz
          rw [e, blt_irrefl] at this
          cases this
        · exact e
      · intro hz
        rcases List.mem_cons.1 ((h z).2 (List.mem_cons_of_mem _ hz)) with e | e
        · have := hyb z hz
          rw [e, blt_irrefl] at this
          cases this
        · exact e
end Go.Proofs.Ytfnpiclioikjpaa.X

/- Accounts as plain lists: which may be, what a key has, what is put. -/
set_option linter.unusedSimpArgs false
set_option linter.unusedVariables false
namespace Go.Proofs.Ytfnpiclioikjpaa.X
open Go.RowKit

abbrev Ac := S94
abbrev Hv := S92
def hv (h : Hv) : Nat → Int
  | 0 => h.f0
  | 1 => h.f1
  | 2 => h.f2
  | 3 => h.f3
  | _ => h.f4
def z5 : Hv := ⟨0, 0, 0, 0, 0⟩
def setH (h : Hv) (k : Nat) (n : Int) : Hv :=
  match k with
  | 0 => ⟨n, h.f1, h.f2, h.f3, h.f4⟩
  | 1 => ⟨h.f0, n, h.f2, h.f3, h.f4⟩
  | 2 => ⟨h.f0, h.f1, n, h.f3, h.f4⟩
  | 3 => ⟨h.f0, h.f1, h.f2, n, h.f4⟩
  | _ => ⟨h.f0, h.f1, h.f2, h.f3, n⟩
def addH (h : Hv) (k : Nat) (n : Int) : Hv := setH h k (wrap64 (hv h k + n))
def isZ (h : Hv) : Bool := h.f0 == 0 && (h.f1 == 0 && (h.f2 == 0 && (h.f3 == 0 && h.f4 == 0)))
def inB (n : Int) : Bool := decide (n ≤ 1099511627776) && decide (-1099511627776 ≤ n)
def okH (h : Hv) : Bool := inB h.f0 && (inB h.f1 && (inB h.f2 && (inB h.f3 && inB h.f4)))
def okA (x : Ac) : Bool := decide ((x.f0.size : Int) ≤ 32) && (!isZ x.f1 && okH x.f1)
def chkU : ByteArray → List Ac → Bool
  | _, [] => true
  | p, x :: l => blt p x.f0 && (okA x && chkU x.f0 l)
def chkA (l : List Ac) : Bool := decide (l.length ≤ 4000) && chkU ⟨#[]⟩ l
/-- What replicas have of a key. -/
def getA : List Ac → ByteArray → Hv
  | [], _ => z5
  | x :: l, key => if x.f0 = key then x.f1 else getA l key
/-- The accounts with one laid in (left out, where it has nothing), by one way through. -/
def layA (a : Ac) : Bool → List Ac → List Ac
  | sm, [] => if sm then [a] else []
  | sm, x :: l => (if sm && !blt x.f0 a.f0 then [a] else []) ++ ((if x.f0 = a.f0 then [] else [x]) ++ layA a (sm && blt x.f0 a.f0) l)
def setA (l : List Ac) (key : ByteArray) (h : Hv) : List Ac := layA ⟨key, h⟩ (!isZ h) l
def numA (h : Hv) : Int := h.f0 + h.f1 + h.f2 + h.f3 + h.f4
def repOk (rep : Int) : Bool := decide (1 ≤ rep) && decide (rep ≤ 5)
def keyR (key : ByteArray) : Bool := !(key.toList == ([] : List UInt8)) && decide ((key.size : Int) ≤ 32)

theorem setH_get (h : Hv) (k j : Nat) (hk : k < 5) (hj : j < 5) (n : Int) : hv (setH h k n) j = if j = k then n else hv h j := by
  rcases k with _ | _ | _ | _ | _ | k <;> rcases j with _ | _ | _ | _ | _ | j <;> first | rfl | omega
theorem hv_ext {a b : Hv} (h : ∀ j, j < 5 → hv a j = hv b j) : a = b := by
  have h0 := h 0 (by omega); have h1 := h 1 (by omega); have h2 := h 2 (by omega); have h3 := h 3 (by omega); have h4 := h 4 (by omega)
  cases a; cases b
  simp only [hv] at *
  subst h0; subst h1; subst h2; subst h3; subst h4
  rfl
theorem okH_iff (h : Hv) : okH h = true ↔ ∀ j, j < 5 → inB (hv h j) = true := by
  constructor
  · intro hh j hj
    simp only [okH, Bool.and_eq_true] at hh
    rcases j with _ | _ | _ | _ | _ | j
    · exact hh.1
    · exact hh.2.1
    · exact hh.2.2.1
    · exact hh.2.2.2.1
    · exact hh.2.2.2.2
    · omega
  · intro hh
    simp only [okH, Bool.and_eq_true]
    exact ⟨hh 0 (by omega), hh 1 (by omega), hh 2 (by omega), hh 3 (by omega), hh 4 (by omega)⟩
theorem inB_iff (n : Int) : inB n = true ↔ -1099511627776 ≤ n ∧ n ≤ 1099511627776 := by
  unfold inB; rw [Bool.and_eq_true, decide_eq_true_eq, decide_eq_true_eq]; omega
theorem isZ_iff (h : Hv) : isZ h = true ↔ h = z5 := by
  unfold isZ z5
  cases h
  simp only [Bool.and_eq_true, beq_iff_eq, S92.mk.injEq]
theorem chkU_ord {p : ByteArray} {l : List Ac} (h : chkU p l = true) : (∀ x ∈ l, okA x = true ∧ blt p x.f0 = true) ∧ OrdK (ksAcc l) := by
  induction l generalizing p with
  | nil => exact ⟨(fun x hx => by cases hx), List.Pairwise.nil⟩
  | cons a l ih =>
    simp only [chkU, Bool.and_eq_true] at h
    obtain ⟨h1, h2⟩ := ih h.2.2
    refine ⟨fun x hx => ?_, List.Pairwise.cons (fun k hk => ?_) h2⟩
    · rcases List.mem_cons.1 hx with rfl | hx
      · exact ⟨h.2.1, h.1⟩
      · exact ⟨(h1 x hx).1, blt_trans h.1 (h1 x hx).2⟩
    · obtain ⟨y, hy, rfl⟩ := List.mem_map.1 hk
      exact (h1 y hy).2
theorem chkU_of {l : List Ac} (p : ByteArray) (ha : ∀ x ∈ l, okA x = true) (ho : OrdK (ksAcc l)) (hp : ∀ x ∈ l, blt p x.f0 = true) : chkU p l = true := by
  induction l generalizing p with
  | nil => rfl
  | cons a l ih =>
    have ho' := List.pairwise_cons.1 ho
    simp only [chkU, Bool.and_eq_true]
    exact ⟨hp a (List.mem_cons_self ..), ha a (List.mem_cons_self ..), ih _ (fun x hx => ha x (List.mem_cons_of_mem _ hx)) ho'.2 (fun x hx => ho'.1 _ (List.mem_map.2 ⟨x, hx, rfl⟩))⟩
theorem blt_emptyA (x : ByteArray) : blt ⟨#[]⟩ x = !(x.toList == ([] : List UInt8)) := by
  unfold blt
  have e : (⟨#[]⟩ : ByteArray).toList = [] := by rw [ByteArray.toList_eq]
  rw [e]
  cases x.toList with
  | nil => rfl
  | cons a l => rfl
theorem chkA_iff (l : List Ac) : chkA l = true ↔ l.length ≤ 4000 ∧ (∀ x ∈ l, okA x = true ∧ x.f0.toList ≠ []) ∧ OrdK (ksAcc l) := by
  unfold chkA
  rw [Bool.and_eq_true, decide_eq_true_eq]
  constructor
  · rintro ⟨h1, h2⟩
    obtain ⟨h3, h4⟩ := chkU_ord h2
    refine ⟨h1, fun x hx => ⟨(h3 x hx).1, fun e => ?_⟩, h4⟩
    have := (h3 x hx).2
    rw [blt_emptyA, e] at this
    simp at this
  · rintro ⟨h1, h2, h3⟩
    refine ⟨h1, chkU_of _ (fun x hx => (h2 x hx).1) h3 (fun x hx => ?_)⟩
    rw [blt_emptyA]
    have := (h2 x hx).2
    simpa using this
theorem okA_iff (x : Ac) : okA x = true ↔ (x.f0.size : Int) ≤ 32 ∧ isZ x.f1 = false ∧ okH x.f1 = true := by
  unfold okA
  simp only [Bool.and_eq_true, decide_eq_true_eq, Bool.not_eq_true']

/-! #### what a key has -/
theorem getA_mem {l : List Ac} (ho : OrdK (ksAcc l)) {x : Ac} (hx : x ∈ l) : getA l x.f0 = x.f1 := by
  induction l with
  | nil => cases hx
  | cons a l ih =>
    have ho' := List.pairwise_cons.1 ho
    unfold getA
    rcases List.mem_cons.1 hx with rfl | hx
    · rw [if_pos rfl]
    · have h : blt a.f0 x.f0 = true := ho'.1 _ (List.mem_map.2 ⟨x, hx, rfl⟩)
      rw [if_neg (fun e => by rw [e, blt_irrefl] at h; cases h)]
      exact ih ho'.2 hx
theorem getA_none {l : List Ac} {key : ByteArray} (h : ∀ x ∈ l, x.f0 ≠ key) : getA l key = z5 := by
  induction l with
  | nil => rfl
  | cons a l ih =>
    unfold getA
    rw [if_neg (h a (List.mem_cons_self ..))]
    exact ih (fun x hx => h x (List.mem_cons_of_mem _ hx))
theorem getA_case (l : List Ac) (key : ByteArray) : (∃ x ∈ l, x.f0 = key ∧ getA l key = x.f1) ∨ getA l key = z5 := by
  induction l with
  | nil => exact .inr rfl
  | cons a l ih =>
    unfold getA
    by_cases h : a.f0 = key
    · rw [if_pos h]
      exact .inl ⟨a, List.mem_cons_self .., h, rfl⟩
    · rw [if_neg h]
      rcases ih with ⟨x, hx, h1, h2⟩ | h2
      · exact .inl ⟨x, List.mem_cons_of_mem _ hx, h1, h2⟩
      · exact .inr h2
theorem getA_bd {l : List Ac} (hc : chkA l = true) (key : ByteArray) (j : Nat) (hj : j < 5) : -1099511627776 ≤ hv (getA l key) j ∧ hv (getA l key) j ≤ 1099511627776 := by
  rcases getA_case l key with ⟨x, hx, _, h⟩ | h
  · rw [h]
    have := ((chkA_iff l).1 hc).2.1 x hx
    exact (inB_iff _).1 ((okH_iff _).1 ((okA_iff x).1 this.1).2.2 j hj)
  · rw [h]
    rcases j with _ | _ | _ | _ | _ | j <;> first | (constructor <;> decide) | omega
/-- The place that halving finds has what the key has. -/
theorem getA_at {l : List Ac} (ho : OrdK (ksAcc l)) (key : ByteArray) : getA l key = if hasAcc l key = true then (rd_T94 l (posK (ksAcc l) key : Int)).f1 else z5 := by
  cases h : hasAcc l key with
  | true =>
    obtain ⟨hp, hk⟩ := has_yesAcc h
    rw [if_pos rfl, rd_getAcc l _ hp]
    have := getA_mem ho (List.getElem_mem hp)
    rw [hk] at this
    exact this
  | false =>
    rw [if_neg (by decide)]
    exact getA_none (has_noAcc ho h)

/-! #### one laid in -/
theorem layA_no (a : Ac) : ∀ l : List Ac, layA a false l = l.filter (fun x => !decide (x.f0 = a.f0))
  | [] => rfl
  | x :: l => by
    simp only [layA, Bool.false_and, if_false, List.nil_append, layA_no a l, List.filter_cons]
    by_cases h : x.f0 = a.f0 <;> simp [h]
theorem filter_all {l : List Ac} {p : Ac → Bool} (h : ∀ x ∈ l, p x = true) : l.filter p = l := List.filter_eq_self.2 h
/-- What the walk of Insert and Delete makes is what one way through makes. -/
theorem layA_at {l : List Ac} (ho : OrdK (ksAcc l)) (a : Ac) (sm : Bool) :
    layA a sm l = l.take (posK (ksAcc l) a.f0) ++ ((if sm then [a] else []) ++ l.drop (posK (ksAcc l) a.f0 + if hasAcc l a.f0 = true then 1 else 0)) := by
  have hb := before_posAcc l a.f0
  have ha := after_posAcc ho a.f0
  have hpl : posK (ksAcc l) a.f0 ≤ l.length := by have := posK_le (ksAcc l) a.f0; rwa [ks_lenAcc] at this
  have key : ∀ (m r : List Ac), (∀ x ∈ m, blt x.f0 a.f0 = true) → layA a sm (m ++ r) = m ++ layA a sm r := by
    intro m r hm
    induction m with
    | nil => rfl
    | cons x m ih =>
      have hx := hm x (List.mem_cons_self ..)
      have hne : x.f0 ≠ a.f0 := fun e => by rw [e, blt_irrefl] at hx; cases hx
      simp only [List.cons_append, layA, hx, Bool.not_true, Bool.and_false, Bool.and_true, if_false, List.nil_append, if_neg hne, ih (fun y hy => hm y (List.mem_cons_of_mem _ hy))]
      rfl
  have rest : ∀ (r : List Ac), (∀ x ∈ r, x.f0 ≠ a.f0) → (∀ x ∈ r, blt x.f0 a.f0 = false) → layA a sm r = (if sm then [a] else []) ++ r := by
    intro r h1 h2
    cases r with
    | nil => cases sm <;> rfl
    | cons x r =>
      have hx := h2 x (List.mem_cons_self ..)
      simp only [layA, hx, Bool.not_false, Bool.and_true, Bool.and_false, if_neg (h1 x (List.mem_cons_self ..))]
      rw [layA_no, filter_all (fun y hy => by simpa using h1 y (List.mem_cons_of_mem _ hy))]
      rfl
  conv => lhs; rw [← List.take_append_drop (posK (ksAcc l) a.f0) l]
  rw [key _ _ hb]
  congr 1
  cases hh : hasAcc l a.f0 with
  | true =>
    obtain ⟨hp, hk⟩ := has_yesAcc hh
    rw [if_pos rfl]
    rw [← List.getElem_cons_drop (h := hp)]
    have h2 := ha
    rw [← List.getElem_cons_drop (h := hp)] at h2
    have hno : ∀ x ∈ l.drop (posK (ksAcc l) a.f0 + 1), x.f0 ≠ a.f0 := by
      intro x hx he
      obtain ⟨j, hj, hje⟩ := List.mem_iff_getElem.1 hx
      rw [List.length_drop] at hj
      have h4 := ordK_get ho (posK (ksAcc l) a.f0) (posK (ksAcc l) a.f0 + 1 + j) (by omega) (by rw [ks_lenAcc]; omega)
      rw [List.getElem_drop] at hje
      have h5 : blt (l[posK (ksAcc l) a.f0]).f0 (l[posK (ksAcc l) a.f0 + 1 + j]'(by omega)).f0 = true := by simpa [ksAcc] using h4
      have h6 : (l[posK (ksAcc l) a.f0]).f0 = x.f0 := hk.trans he.symm
      rw [hje, h6, blt_irrefl] at h5
      cases h5
    simp only [layA, hk, blt_irrefl, Bool.not_false, Bool.and_true, Bool.and_false, if_true, List.nil_append]
    rw [layA_no, filter_all (fun y hy => by simpa using hno y hy)]
  | false =>
    rw [show (if false = true then 1 else 0) = 0 from rfl, Nat.add_zero]
    exact rest _ (fun x hx => has_noAcc ho hh x (List.mem_of_mem_drop hx)) ha
end Go.Proofs.Ytfnpiclioikjpaa.X

/- Accounts, the plain law: what a key has behind one laid in; one laid in twice; one as it was. -/
set_option linter.unusedSimpArgs false
set_option linter.unusedVariables false
namespace Go.Proofs.Ytfnpiclioikjpaa.X
open Go.RowKit

theorem layA_mem {l : List Ac} (ho : OrdK (ksAcc l)) (a : Ac) (sm : Bool) (x : Ac) : x ∈ layA a sm l ↔ (x ∈ l ∧ x.f0 ≠ a.f0) ∨ (sm = true ∧ x = a) := by
  induction l generalizing sm with
  | nil => cases sm <;> simp [layA]
  | cons y l ih =>
    have ho' := List.pairwise_cons.1 ho
    simp only [layA, List.mem_append, ih ho'.2]
    cases sm with
    | false =>
      by_cases hy : y.f0 = a.f0
      · simp only [Bool.false_and, if_false, hy, if_true, List.not_mem_nil, List.mem_cons]
        constructor
        · rintro (h | h | ⟨h1, h2⟩ | h)
          · cases h
          · cases h
          · exact .inl ⟨.inr h1, h2⟩
          · exact absurd h.1 (by decide)
        · rintro (⟨h | h, h2⟩ | h)
          · subst h; exact absurd hy h2
          · exact .inr (.inr (.inl ⟨h, h2⟩))
          · exact absurd h.1 (by decide)
      · simp only [Bool.false_and, if_neg hy, List.not_mem_nil, List.mem_cons]
        constructor
        · rintro (h | h | ⟨h1, h2⟩ | h)
          · exact absurd h (by simp)
          · rcases h with h | h
            · subst h; exact .inl ⟨.inl rfl, hy⟩
            · exact absurd h (by simp)
          · exact .inl ⟨.inr h1, h2⟩
          · exact absurd h.1 (by decide)
        · rintro (⟨h | h, h2⟩ | h)
          · subst h; exact .inr (.inl (.inl rfl))
          · exact .inr (.inr (.inl ⟨h, h2⟩))
          · exact absurd h.1 (by decide)
    | true =>
      cases hb : blt y.f0 a.f0 with
      | true =>
        have hy : y.f0 ≠ a.f0 := fun e => by rw [e, blt_irrefl] at hb; cases hb
        simp only [Bool.true_and, Bool.not_true, if_neg hy, List.not_mem_nil, List.mem_cons]
        constructor
        · rintro (h | h | ⟨h1, h2⟩ | h)
          · exact absurd h (by simp)
          · rcases h with h | h
            · subst h; exact .inl ⟨.inl rfl, hy⟩
            · exact absurd h (by simp)
          · exact .inl ⟨.inr h1, h2⟩
          · exact .inr h
        · rintro (⟨h | h, h2⟩ | h)
          · subst h; exact .inr (.inl (.inl rfl))
          · exact .inr (.inr (.inl ⟨h, h2⟩))
          · exact .inr (.inr (.inr h))
      | false =>
        by_cases hy : y.f0 = a.f0
        · simp only [Bool.true_and, Bool.not_false, if_true, hy, List.not_mem_nil, List.mem_cons]
          constructor
          · rintro (h | h | ⟨h1, h2⟩ | h)
            · exact .inr ⟨trivial, h.resolve_right (by simp)⟩
            · cases h
            · exact .inl ⟨.inr h1, h2⟩
            · exact absurd h.1 (by decide)
          · rintro (⟨h | h, h2⟩ | h)
            · subst h; exact absurd hy h2
            · exact .inr (.inr (.inl ⟨h, h2⟩))
            · exact .inl (.inl h.2)
        · simp only [Bool.true_and, Bool.not_false, if_true, if_neg hy, List.not_mem_nil, List.mem_cons]
          constructor
          · rintro (h | h | ⟨h1, h2⟩ | h)
            · exact .inr ⟨trivial, h.resolve_right (by simp)⟩
            · rcases h with h | h
              · subst h; exact .inl ⟨.inl rfl, hy⟩
              · exact absurd h (by simp)
            · exact .inl ⟨.inr h1, h2⟩
            · exact absurd h.1 (by decide)
          · rintro (⟨h | h, h2⟩ | h)
            · subst h; exact .inr (.inl (.inl rfl))
            · exact .inr (.inr (.inl ⟨h, h2⟩))
            · exact .inl (.inl h.2)
theorem blt_tri2 {a b : ByteArray} (h : blt a b = false) (hne : a ≠ b) : blt b a = true := by
  cases h2 : blt b a with
  | true => rfl
  | false => exact absurd (bytes_eq (less_tri _ _ h h2)) hne
theorem layA_ord {l : List Ac} (ho : OrdK (ksAcc l)) (a : Ac) (sm : Bool) : OrdK (ksAcc (layA a sm l)) := by
  induction l generalizing sm with
  | nil =>
    cases sm
    · exact List.Pairwise.nil
    · exact List.pairwise_singleton ..
  | cons y l ih =>
    have ho' := List.pairwise_cons.1 ho
    have hy : ∀ z ∈ l, blt y.f0 z.f0 = true := fun z hz => ho'.1 _ (List.mem_map.2 ⟨z, hz, rfl⟩)
    have tail : ∀ sm' : Bool, (sm' = true → blt y.f0 a.f0 = true) → ∀ k ∈ ksAcc (layA a sm' l), blt y.f0 k = true := by
      intro sm' hs k hk
      obtain ⟨z, hz, rfl⟩ := List.mem_map.1 hk
      rcases (layA_mem ho'.2 a sm' z).1 hz with ⟨h, _⟩ | ⟨h, rfl⟩
      · exact hy z h
      · exact hs h
    have tail2 : ∀ sm' : Bool, sm' = false → blt y.f0 a.f0 = false → y.f0 ≠ a.f0 → ∀ k ∈ ksAcc (y :: layA a sm' l), blt a.f0 k = true := by
      intro sm' hs hb hne k hk
      have hay := blt_tri2 hb hne
      rcases List.mem_cons.1 hk with rfl | hk
      · exact hay
      · exact blt_trans hay (tail sm' (fun h => by rw [hs] at h; cases h) k hk)
    simp only [layA]
    cases sm with
    | false =>
      by_cases he : y.f0 = a.f0
      · simp only [Bool.false_and, he, if_true]
        exact ih ho'.2 false
      · simp only [Bool.false_and, if_neg he]
        exact List.Pairwise.cons (tail false (fun h => by cases h)) (ih ho'.2 false)
    | true =>
      cases hb : blt y.f0 a.f0 with
      | true =>
        have he : y.f0 ≠ a.f0 := fun e => by rw [e, blt_irrefl] at hb; cases hb
        simp only [Bool.true_and, Bool.not_true, if_neg he]
        exact List.Pairwise.cons (tail true (fun _ => hb)) (ih ho'.2 true)
      | false =>
        by_cases he : y.f0 = a.f0
        · simp only [Bool.true_and, Bool.not_false, if_true, he]
          refine List.Pairwise.cons (fun k hk => ?_) (ih ho'.2 false)
          have := tail false (fun h => by cases h) k hk
          rw [he] at this
          exact this
        · simp only [Bool.true_and, Bool.not_false, if_true, if_neg he]
          exact List.Pairwise.cons (tail2 false rfl hb he) (List.Pairwise.cons (tail false (fun h => by cases h)) (ih ho'.2 false))
theorem setA_mem {l : List Ac} (ho : OrdK (ksAcc l)) (key : ByteArray) (h : Hv) (x : Ac) : x ∈ setA l key h ↔ (x ∈ l ∧ x.f0 ≠ key) ∨ (isZ h = false ∧ x = ⟨key, h⟩) := by
  unfold setA
  rw [layA_mem ho]
  simp only [Bool.not_eq_true']
theorem setA_ord {l : List Ac} (ho : OrdK (ksAcc l)) (key : ByteArray) (h : Hv) : OrdK (ksAcc (setA l key h)) := layA_ord ho _ _
theorem getA_set {l : List Ac} (ho : OrdK (ksAcc l)) (key : ByteArray) (h : Hv) : getA (setA l key h) key = h := by
  cases hz : isZ h with
  | true =>
    rw [getA_none (fun x hx e => ?_)]
    · exact ((isZ_iff h).1 hz).symm
    · rcases (setA_mem ho key h x).1 hx with ⟨_, h2⟩ | ⟨h1, _⟩
      · exact h2 e
      · rw [hz] at h1; cases h1
  | false => exact getA_mem (setA_ord ho key h) ((setA_mem ho key h ⟨key, h⟩).2 (.inr ⟨hz, rfl⟩))
theorem setA_set {l : List Ac} (ho : OrdK (ksAcc l)) (key : ByteArray) (h h' : Hv) : setA (setA l key h) key h' = setA l key h' := by
  apply ord_extAcc _ _ (setA_ord (setA_ord ho key h) key h') (setA_ord ho key h')
  intro x
  rw [setA_mem (setA_ord ho key h), setA_mem ho, setA_mem ho]
  constructor
  · rintro (⟨h1 | ⟨_, h1⟩, h2⟩ | h1)
    · exact .inl h1
    · subst h1; exact absurd rfl h2
    · exact .inr h1
  · rintro (h1 | h1)
    · exact .inl ⟨.inl h1, h1.2⟩
    · exact .inr h1
theorem setA_get {l : List Ac} (hc : chkA l = true) (key : ByteArray) : setA l key (getA l key) = l := by
  obtain ⟨_, hok, ho⟩ := (chkA_iff l).1 hc
  apply ord_extAcc _ _ (setA_ord ho _ _) ho
  intro x
  rw [setA_mem ho]
  constructor
  · rintro (⟨h1, _⟩ | ⟨hz, rfl⟩)
    · exact h1
    · rcases getA_case l key with ⟨y, hy, hk, he⟩ | he
      · rw [he]
        have : (⟨key, y.f1⟩ : Ac) = y := by cases y; simp only at hk; subst hk; rfl
        rw [this]; exact hy
      · rw [he] at hz; exact absurd hz (by decide)
  · intro hx
    by_cases he : x.f0 = key
    · have h1 := getA_mem ho hx
      rw [he] at h1
      refine .inr ⟨?_, ?_⟩
      · rw [h1]; exact ((okA_iff x).1 (hok x hx).1).2.1
      · rw [h1]; cases x; simp only at he; subst he; rfl
    · exact .inl ⟨hx, he⟩
theorem setA_len (l : List Ac) (key : ByteArray) (h : Hv) : (setA l key h).length ≤ l.length + 1 := by
  have : ∀ (a : Ac) (l : List Ac) (sm : Bool), (layA a sm l).length ≤ l.length + (if sm then 1 else 0) := by
    intro a l
    induction l with
    | nil => intro sm; cases sm <;> simp [layA]
    | cons y l ih =>
      intro sm
      have h1 := ih (sm && blt y.f0 a.f0)
      simp only [layA, List.length_append, List.length_cons]
      cases sm <;> cases hb : blt y.f0 a.f0 <;> rw [hb] at h1 <;> simp only [Bool.and_true, Bool.and_false, Bool.true_and, Bool.false_and, Bool.not_true, Bool.not_false] at h1 ⊢ <;> by_cases he : y.f0 = a.f0 <;> simp [he] at h1 ⊢ <;> omega
  have h1 := this ⟨key, h⟩ l (!isZ h)
  unfold setA
  split at h1 <;> omega
end Go.Proofs.Ytfnpiclioikjpaa.X

/- escrow.find, walked. -/
set_option linter.unusedSimpArgs false
set_option linter.unusedVariables false
namespace Go.Proofs.Ytfnpiclioikjpaa.X
open Go.RowKit Go.Proofs.YtfnpiclioikjpaaW.PrintWords Go.Proofs.YtfnpiclioikjpaaW.PrintLast Go.Proofs.YtfnpiclioikjpaaW.PrintMore

theorem results_tct {P : Program} {fn : Func} {p u v : Tmp} {ty : TypeId} (h : fn.results = #[.tmp u, .cell p ty, .tmp v]) (tmps : Array Value) (w : World) (g : Nat) (t : TypeId) (cs : Array Value) (fr : Nat × Nat) (d : TypeDesc)
    (hp : tmps.getD p undef = .pointer (some ⟨g, 0, none⟩)) (hg : w.heap[g]? = some (.cells cs t fr))
    (hu : P.underlying ty = some d) (hd : (match d with | .struct _ | .array _ _ => true | _ => false) = true) (hi : (P.info? ty).map (·.size) = some cs.size) :
    (results fn tmps).run P w = .ok (.tuple #[tmps.getD u undef, .agg cs, tmps.getD v undef]) w := by
  have hp' : tmps[p]?.getD undef = .pointer (some ⟨g, 0, none⟩) := by simpa using hp
  simp [results, h, hp', asAddr, run_loadVar_row w g t ty cs fr d hg hu hd hi]
def FindPost (w : World) (l0 : List Ac) (key : ByteArray) (e : Ending) (w' : World) : Prop :=
  e = .returned (.tuple #[.int .i64 (posK (ksAcc l0) key : Nat), .agg #[.string key, .int .i64 (getA l0 key).f0, .int .i64 (getA l0 key).f1, .int .i64 (getA l0 key).f2, .int .i64 (getA l0 key).f3, .int .i64 (getA l0 key).f4], .bool (hasAcc l0 key)]) ∧ Below w.heap.size w w'
set_option maxHeartbeats 8000000 in
set_option maxRecDepth 100000 in
theorem findA_call (A0 : Option Addr) (c0 : Nat) (l0 : List Ac) (key : ByteArray) (w : World) (hr0 : Kd.C k94 w A0 l0.length l0) (hc0 : l0.length ≤ c0) (hn : l0.length ≤ 4000000000) (ho : OrdK (ksAcc l0)) :
    Calls Try.prog 67 #[.slice A0 l0.length c0, .string key] w (FindPost w l0 key) := by
  have HR := Aside0.mk hr0
  have HO := Aside0.mk ho
  clear hr0 ho
  go_enter Try.func67, Try.ntmps67
  go_wp2_with (first | ((with_reducible refine gate_dst (N := 5) rfl ?_); refine box_event ?hg (N := 5) ?hd (cs := #[.string (⟨#[]⟩ : ByteArray), .int .i64 0, .int .i64 0, .int .i64 0, .int .i64 0, .int .i64 0]) (t := 94) ?hr ?_; (case hd => rfl); (case hg => rfl); (case hr => first | (go_simp; done) | (go_simp; rfl)); intro g hg w3 hbox hb; have HB := Aside0.mk hb; have BK := Aside0.mk hbox; have HG := Aside0.mk hg; clear hb hbox hg))
  refine (bsfAcc A0 c0 l0 key _ (Kd.C_below HR.out HB.out) hc0 hn HO.out).mono ?_
  rintro e w1 ⟨rfl, hb1⟩
  have HB1 := Aside0.mk (below_step HB.out hb1)
  have BK1 := Aside0.mk (blk_below BK.out hb1)
  clear hb1
  have hga := getA_at HO.out key
  have HGA := Aside0.mk hga
  clear hga
  have hlen := posK_le (ksAcc l0) key
  rw [ks_lenAcc] at hlen
  have hcz0 : w1.cell? ⟨g, 0, none⟩ = some (.string (⟨#[]⟩ : ByteArray)) := (blk_cell BK1.out 0).trans rfl
  have hcz1 : w1.cell? ⟨g, 1, none⟩ = some (.int .i64 0) := (blk_cell BK1.out 1).trans rfl
  have hcz2 : w1.cell? ⟨g, 2, none⟩ = some (.int .i64 0) := (blk_cell BK1.out 2).trans rfl
  have hcz3 : w1.cell? ⟨g, 3, none⟩ = some (.int .i64 0) := (blk_cell BK1.out 3).trans rfl
  have hcz4 : w1.cell? ⟨g, 4, none⟩ = some (.int .i64 0) := (blk_cell BK1.out 4).trans rfl
  have hcz5 : w1.cell? ⟨g, 5, none⟩ = some (.int .i64 0) := (blk_cell BK1.out 5).trans rfl
  have hfz0 := blk_frozen BK1.out 0
  have hfz1 := blk_frozen BK1.out 1
  have hfz2 := blk_frozen BK1.out 2
  have hfz3 := blk_frozen BK1.out 3
  have hfz4 := blk_frozen BK1.out 4
  have hfz5 := blk_frozen BK1.out 5
  have HGE : Aside0 (w.heap.size ≤ g) := ⟨by rw [HG.out]; exact Nat.le_refl _⟩
  cases hh : hasAcc l0 key with
  | false =>
    have HGA2 := Aside0.mk (HGA.out.trans (by rw [hh, if_neg (by decide)]))
    have HHH := Aside0.mk hh
    clear hh
    generalize hp : posK (ksAcc l0) key = p at *
    have HP := Aside0.mk hp
    clear hp
    go_wp2
    refine bodyPost_ret (results_tct rfl _ _ g 94 #[.string key, .int .i64 0, .int .i64 0, .int .i64 0, .int .i64 0, .int .i64 0] (0, 0) _ rfl ?hbk Try.underlying94 rfl (by kernel_rfl)) rfl ?_
    case hbk =>
      refine blk_put (cs := #[.string key, .int .i64 0, .int .i64 0, .int .i64 0, .int .i64 0, .int .i64 0]) ?_ 5 _ rfl
      refine blk_put (cs := #[.string key, .int .i64 0, .int .i64 0, .int .i64 0, .int .i64 0, .int .i64 0]) ?_ 4 _ rfl
      refine blk_put (cs := #[.string key, .int .i64 0, .int .i64 0, .int .i64 0, .int .i64 0, .int .i64 0]) ?_ 3 _ rfl
      refine blk_put (cs := #[.string key, .int .i64 0, .int .i64 0, .int .i64 0, .int .i64 0, .int .i64 0]) ?_ 2 _ rfl
      refine blk_put (cs := #[.string key, .int .i64 0, .int .i64 0, .int .i64 0, .int .i64 0, .int .i64 0]) ?_ 1 _ rfl
      refine blk_put (cs := #[.string ⟨#[]⟩, .int .i64 0, .int .i64 0, .int .i64 0, .int .i64 0, .int .i64 0]) ?_ 0 _ rfl
      exact BK1.out
    unfold FindPost
    rw [HGA2.out, HP.out, HHH.out]
    exact ⟨rfl, by repeat (first | (with_reducible exact HB1.out) | refine below_set ?_ HGE.out)⟩
  | true =>
    obtain ⟨hp, hk⟩ := has_yesAcc hh
    have HGA2 := Aside0.mk (HGA.out.trans (by rw [hh, if_pos rfl]))
    have hk2 : (rd_T94 l0 (posK (ksAcc l0) key : Int)).f0 = key := by rw [rd_getAcc l0 _ hp]; exact hk
    have HK2 := Aside0.mk hk2
    clear hk hk2
    generalize hpp : posK (ksAcc l0) key = p at *
    have HP := Aside0.mk hpp
    clear hpp
    have q1 : 0 ≤ (p : Int) := by omega
    have q2 : (p : Int) < (l0.length : Int) := by omega
    obtain ⟨ad, e0, hx0, hx1, hx2, hx3, hx4, hx5⟩ := at_T94 HR.out (p : Int) q1 q2
    cases e0
    rw [HK2.out] at hx0
    have hga : getA l0 key = (rd_T94 l0 (p : Int)).f1 := HGA2.out
    rw [← hga] at hx1 hx2 hx3 hx4 hx5
    simp only [Int.toNat_natCast] at hx0 hx1 hx2 hx3 hx4 hx5
    have hB := HB1.out
    replace hx0 := (hB.cell (World.block_lt_of_cell? w _ hx0)).trans hx0
    replace hx1 := (hB.cell (World.block_lt_of_cell? w _ hx1)).trans hx1
    replace hx2 := (hB.cell (World.block_lt_of_cell? w _ hx2)).trans hx2
    replace hx3 := (hB.cell (World.block_lt_of_cell? w _ hx3)).trans hx3
    replace hx4 := (hB.cell (World.block_lt_of_cell? w _ hx4)).trans hx4
    replace hx5 := (hB.cell (World.block_lt_of_cell? w _ hx5)).trans hx5
    clear hB hga HGA HGA2 HK2
    have HHH := Aside0.mk hh
    generalize hh5 : getA l0 key = h5 at *
    obtain ⟨h0, h1, h2, h3, h4⟩ := h5
    have HH5 := Aside0.mk hh5
    clear hh5
    simp only at hx1 hx2 hx3 hx4 hx5
    replace q1 := eq_true q1
    replace q2 := eq_true q2
    clear hh
    go_wp2
    go_still_tail 6, (by kernel_rfl)
    change wpList _ _ _ _ _ w1.drew
    go_wp2
    refine bodyPost_ret (results_tct rfl _ _ g 94 #[.string key, .int .i64 h0, .int .i64 h1, .int .i64 h2, .int .i64 h3, .int .i64 h4] (0, 0) _ rfl ?hbk Try.underlying94 rfl (by kernel_rfl)) rfl ?_
    case hbk =>
      refine blk_drew ?_
      refine blk_put (cs := #[.string key, .int .i64 h0, .int .i64 h1, .int .i64 h2, .int .i64 h3, .int .i64 0]) ?_ 5 _ rfl
      refine blk_put (cs := #[.string key, .int .i64 h0, .int .i64 h1, .int .i64 h2, .int .i64 0, .int .i64 0]) ?_ 4 _ rfl
      refine blk_put (cs := #[.string key, .int .i64 h0, .int .i64 h1, .int .i64 0, .int .i64 0, .int .i64 0]) ?_ 3 _ rfl
      refine blk_put (cs := #[.string key, .int .i64 h0, .int .i64 0, .int .i64 0, .int .i64 0, .int .i64 0]) ?_ 2 _ rfl
      refine blk_put (cs := #[.string key, .int .i64 0, .int .i64 0, .int .i64 0, .int .i64 0, .int .i64 0]) ?_ 1 _ rfl
      refine blk_put (cs := #[.string ⟨#[]⟩, .int .i64 0, .int .i64 0, .int .i64 0, .int .i64 0, .int .i64 0]) ?_ 0 _ rfl
      exact BK1.out
    unfold FindPost
    rw [HH5.out, HP.out, HHH.out]
    exact ⟨rfl, by refine below_drew ?_; repeat (first | (with_reducible exact HB1.out) | refine below_set ?_ HGE.out)⟩
end Go.Proofs.Ytfnpiclioikjpaa.X

/- Functions of the seat as Lean functions, and that the calls come to them: written by this session's own program xprint.py over the kit's printer. -/
namespace Go.Proofs.Ytfnpiclioikjpaa.X
open Go.RowKit Go.Proofs.YtfnpiclioikjpaaW.PrintWords Go.Proofs.YtfnpiclioikjpaaW.PrintLast Go.Proofs.YtfnpiclioikjpaaW.PrintMore
attribute [local go_sem] max2_int min2_int max_two min_two max_three min_three max_four min_four   -- for this text's walks alone
set_option linter.unusedVariables false
set_option linter.unusedSimpArgs false

theorem eqA92 (d : Nat) (w : World) (x0 y0 : Int) (x1 y1 : Int) (x2 y2 : Int) (x3 y3 : Int) (x4 y4 : Int) :
    (Op.equalIn (d + 2) 92 (.agg #[.int .i64 x0, .int .i64 x1, .int .i64 x2, .int .i64 x3, .int .i64 x4]) (.agg #[.int .i64 y0, .int .i64 y1, .int .i64 y2, .int .i64 y3, .int .i64 y4])).run Try.prog w = .ok (x0 == y0 && (x1 == y1 && (x2 == y2 && (x3 == y3 && (x4 == y4))))) w := by
  have h := eqi_of (P := Try.prog) (w := w) (d := d + 1) (t := 92) (e := 3) (n := 5) (xs := #[.int .i64 x0, .int .i64 x1, .int .i64 x2, .int .i64 x3, .int .i64 x4]) (ys := #[.int .i64 y0, .int .i64 y1, .int .i64 y2, .int .i64 y3, .int .i64 y4])
    (r := x0 == y0 && (x1 == y1 && (x2 == y2 && (x3 == y3 && (x4 == y4 && true))))) Try.underlying92 (by kernel_rfl) ?_
  · rwa [Bool.and_true] at h
  rw [show Try.prog.cellsOf 3 = 1 by kernel_rfl, show List.range 5 = [0, 1, 2, 3, 4] from rfl]
  refine eqi_cons (by go_simp; rfl) (by go_simp; rfl) (by go_simp) ?_
  refine eqi_cons (by go_simp; rfl) (by go_simp; rfl) (by go_simp) ?_
  refine eqi_cons (by go_simp; rfl) (by go_simp; rfl) (by go_simp) ?_
  refine eqi_cons (by go_simp; rfl) (by go_simp; rfl) (by go_simp) ?_
  refine eqi_cons (by go_simp; rfl) (by go_simp; rfl) (by go_simp) ?_
  exact eqi_nil
theorem eqA94 (d : Nat) (w : World) (x0 y0 : ByteArray) (x1 y1 : Int) (x2 y2 : Int) (x3 y3 : Int) (x4 y4 : Int) (x5 y5 : Int) :
    (Op.equalIn (d + 3) 94 (.agg #[.string x0, .int .i64 x1, .int .i64 x2, .int .i64 x3, .int .i64 x4, .int .i64 x5]) (.agg #[.string y0, .int .i64 y1, .int .i64 y2, .int .i64 y3, .int .i64 y4, .int .i64 y5])).run Try.prog w = .ok (x0.toList == y0.toList && ((x1 == y1 && (x2 == y2 && (x3 == y3 && (x4 == y4 && (x5 == y5))))))) w := by
  refine eqA_of Try.underlying94 (by kernel_rfl) ?_
  refine eqf_cons (by rfl) (by go_simp; rfl) (by go_simp; rfl) (by go_simp) ?_
  exact eqf_last (by rfl) (by go_simp) (by go_simp) (eqA92 (d + 0) w _ _ _ _ _ _ _ _ _ _)
end Go.Proofs.Ytfnpiclioikjpaa.X

/- A place of an array of five whole numbers, by value. -/
set_option linter.unusedSimpArgs false
set_option linter.unusedVariables false
namespace Go.Proofs.Ytfnpiclioikjpaa.X
open Go.RowKit
theorem idx5_of (w : World) (cs : Array Value) (k : IntKind) (i : Int) (v : Value) (h0 : 0 ≤ i) (h1 : i < 5) (hp : (part 3 cs i.toNat).run Try.prog w = .ok v w) :
    (Instr.index 92 (.agg cs) (.int k i)).run Try.prog w = .ok v w := by
  have hi : (Try.prog.info? 3).map (·.size) = some 1 := by kernel_rfl
  cases hq : Try.prog.info? 3 with
  | none => simp [hq] at hi
  | some i0 =>
    have hs : i0.size = 1 := by simpa [hq] using hi
    have h2 : 0 ≤ i ∧ i < ((5 : Nat) : Int) := ⟨h0, by omega⟩
    have h3 : 0 ≤ i ∧ i < 5 := ⟨h0, h1⟩
    simp [Instr.index, asIntOf, run_underlying Try.underlying92, h2, h3, sizeOf, typeInfo, hq, hs, hp]
theorem idx5_0 (w : World) (a b c d e : Int) : (Instr.index 92 (.agg #[.int .i64 a, .int .i64 b, .int .i64 c, .int .i64 d, .int .i64 e]) (.int .i64 0)).run Try.prog w = .ok (.int .i64 a) w := idx5_of w _ _ _ _ (by omega) (by omega) (by go_simp)
theorem idx5_1 (w : World) (a b c d e : Int) : (Instr.index 92 (.agg #[.int .i64 a, .int .i64 b, .int .i64 c, .int .i64 d, .int .i64 e]) (.int .i64 1)).run Try.prog w = .ok (.int .i64 b) w := idx5_of w _ _ _ _ (by omega) (by omega) (by go_simp)
theorem idx5_2 (w : World) (a b c d e : Int) : (Instr.index 92 (.agg #[.int .i64 a, .int .i64 b, .int .i64 c, .int .i64 d, .int .i64 e]) (.int .i64 2)).run Try.prog w = .ok (.int .i64 c) w := idx5_of w _ _ _ _ (by omega) (by omega) (by go_simp)
theorem idx5_3 (w : World) (a b c d e : Int) : (Instr.index 92 (.agg #[.int .i64 a, .int .i64 b, .int .i64 c, .int .i64 d, .int .i64 e]) (.int .i64 3)).run Try.prog w = .ok (.int .i64 d) w := idx5_of w _ _ _ _ (by omega) (by omega) (by go_simp)
theorem idx5_4 (w : World) (a b c d e : Int) : (Instr.index 92 (.agg #[.int .i64 a, .int .i64 b, .int .i64 c, .int .i64 d, .int .i64 e]) (.int .i64 4)).run Try.prog w = .ok (.int .i64 e) w := idx5_of w _ _ _ _ (by omega) (by omega) (by go_simp)
end Go.Proofs.Ytfnpiclioikjpaa.X

/- escrow.Check, walked. -/
set_option linter.unusedSimpArgs false
set_option linter.unusedVariables false
namespace Go.Proofs.Ytfnpiclioikjpaa.X
open Go.RowKit Go.Proofs.YtfnpiclioikjpaaW.PrintWords Go.Proofs.YtfnpiclioikjpaaW.PrintLast Go.Proofs.YtfnpiclioikjpaaW.PrintMore
attribute [local go_sem high] eqA92 idx5_0 idx5_1 idx5_2 idx5_3 idx5_4

def escrow_Check.f (l0 : List Ac) : Option Int := some (if chkA l0 = true then 0 else 1)
set_option maxHeartbeats 8000000 in
set_option maxRecDepth 100000 in
theorem chkA_call (A0 : Option Addr) (c0 : Nat) (l0 : List Ac) (w : World) (hr0 : Kd.C k94 w A0 l0.length l0) (hc0 : l0.length ≤ c0) (r : Int) (hr : r = if chkA l0 = true then 0 else 1) :
    Calls Try.prog 45 #[.slice A0 l0.length c0] w fun e w' => e = .returned (.int .i64 r) ∧ Below w.heap.size w w' := by
  by_cases h4 : l0.length ≤ 4000
  · have hr' : r = if chkU ⟨#[]⟩ l0 = true then 0 else 1 := by
      rw [hr]; unfold chkA; rw [decide_eq_true h4, Bool.true_and]
    have hdr : ∀ (pos : Nat) (hp : pos < l0.length) (last : ByteArray), chkU last (l0.drop pos) = (blt last (rd_T94 l0 (pos : Int)).f0 && (okA (rd_T94 l0 (pos : Int)) && chkU (rd_T94 l0 (pos : Int)).f0 (l0.drop (pos + 1)))) := by
      intro pos hp last
      rw [← List.getElem_cons_drop (h := hp), rd_getAcc l0 pos hp]
      rfl
    have hend : ∀ (last : ByteArray), chkU last (l0.drop l0.length) = true := by intro last; rw [List.drop_length]; rfl
    generalize hnl : l0.length = n at *
    have HR := Aside0.mk hr0
    have HX := Aside0.mk hr'
    have HD := Aside0.mk hdr
    have HE := Aside0.mk hend
    have h4' : decide ((4000 : Int) < (n : Int)) = false := by simp; omega
    clear hr0 hr hr' hdr hend hnl
    go_enter Try.func45, Try.ntmps45
    go_wp2
    go_loopw [3, 13] (fun v3 v13 w' => ∃ (last : ByteArray) (pos : Nat), v3 = .string last ∧ v13 = .int .i64 (pos : Int) ∧ pos ≤ n ∧ Aside0 (chkU last (l0.drop pos) = chkU ⟨#[]⟩ l0) ∧ Aside0 (Below w.heap.size w w')) (fun _ v13 _ => (n - (intV v13)).toNat)
    case atStart => exact ⟨⟨#[]⟩, 0, rfl, rfl, by omega, ⟨by rw [List.drop_zero]⟩, ⟨Below.refl _ _⟩⟩
    case round =>
      obtain ⟨last, pos, rfl, rfl, hpos, HC, HB⟩ := hrel
      by_cases hlt : pos < n
      · have hlt' : decide ((pos : Int) < (n : Int)) = true := by simp; omega
        have hcase := HD.out pos hlt last
        rw [HC.out] at hcase
        have p : 0 ≤ (pos : Int) := by omega
        have q : (pos : Int) < (n : Int) := by omega
        obtain ⟨ad, e0, hx0, hx1, hx2, hx3, hx4, hx5⟩ := at_T94 HR.out (pos : Int) p q
        cases e0
        simp only [Int.toNat_natCast] at hx0 hx1 hx2 hx3 hx4 hx5
        have hB := HB.out
        replace hx0 := (hB.cell (World.block_lt_of_cell? w _ hx0)).trans hx0
        replace hx1 := (hB.cell (World.block_lt_of_cell? w _ hx1)).trans hx1
        replace hx2 := (hB.cell (World.block_lt_of_cell? w _ hx2)).trans hx2
        replace hx3 := (hB.cell (World.block_lt_of_cell? w _ hx3)).trans hx3
        replace hx4 := (hB.cell (World.block_lt_of_cell? w _ hx4)).trans hx4
        replace hx5 := (hB.cell (World.block_lt_of_cell? w _ hx5)).trans hx5
        clear hB
        replace p := eq_true p
        replace q := eq_true q
        have hw5 : IntKind.i64.wrap ((pos : Int) + 1) = (pos : Int) + 1 := by rw [IntKind.wrap_i64]; omega
        have HS := Aside0.mk hcase
        clear hcase
        generalize hx : rd_T94 l0 (pos : Int) = x at *
        obtain ⟨xk, xh0, xh1, xh2, xh3, xh4⟩ := x
        simp only at hx0 hx1 hx2 hx3 hx4 hx5 HS
        have HXX := Aside0.mk hx
        clear hx
        have bad : (blt last xk && (okA ⟨xk, ⟨xh0, xh1, xh2, xh3, xh4⟩⟩ && chkU xk (l0.drop (pos + 1)))) = false → r = 1 := by
          intro hh; rw [HX.out, HS.out, hh]; rfl
        cases hb : blt last xk with
        | false =>
          have hr1 : r = 1 := bad (by rw [hb]; rfl)
          have hb' : Op.bytesLess last.toList xk.toList = false := hb
          subst hr1
          clear bad hb
          go_wp2
          go_ret
          exact ⟨rfl, below_alloc HB.out _⟩
        | true =>
          have hb' : Op.bytesLess last.toList xk.toList = true := hb
          rw [hb, Bool.true_and] at bad
          by_cases h32 : (xk.size : Int) ≤ 32
          · have h32' : decide ((32 : Int) < (xk.size : Int)) = false := by simp; omega
            cases hz : isZ ⟨xh0, xh1, xh2, xh3, xh4⟩ with
            | true =>
              have hr1 : r = 1 := bad (by unfold okA; rw [hz]; simp)
              have hz' : (xh0 == 0 && (xh1 == 0 && (xh2 == 0 && (xh3 == 0 && xh4 == 0)))) = true := hz
              subst hr1
              clear bad hb hz
              go_wp2
              go_ret
              exact ⟨rfl, below_alloc HB.out _⟩
            | false =>
              have hz' : (xh0 == 0 && (xh1 == 0 && (xh2 == 0 && (xh3 == 0 && xh4 == 0)))) = false := hz
              have bad2 : okH ⟨xh0, xh1, xh2, xh3, xh4⟩ = false → r = 1 := fun hh => bad (by unfold okA; rw [hh]; simp)
              have good : okH ⟨xh0, xh1, xh2, xh3, xh4⟩ = true → chkU xk (l0.drop (pos + 1)) = chkU ⟨#[]⟩ l0 := by
                intro hh
                have := HS.out
                rw [hb, Bool.true_and] at this
                rw [this]
                unfold okA
                rw [hz, hh, decide_eq_true h32]
                rfl
              have BAD := Aside0.mk bad2
              have GOOD := Aside0.mk good
              clear bad bad2 good hb hz
              go_wp2
              go_loop [35] (fun v35 => ∃ k : Int, 0 ≤ k ∧ k ≤ 5 ∧ v35 = .int .i64 k ∧ Aside0 (∀ j : Nat, (j : Int) < k → inB (hv ⟨xh0, xh1, xh2, xh3, xh4⟩ j) = true)) (fun v35 => (5 - intV v35).toNat)
              case atStart => exact ⟨0, by omega, by omega, rfl, ⟨fun j hj => absurd hj (by omega)⟩⟩
              case round =>
                obtain ⟨k, hk0, hk5, rfl, HI⟩ := hrel
                obtain rfl | rfl | rfl | rfl | rfl | rfl : k = 0 ∨ k = 1 ∨ k = 2 ∨ k = 3 ∨ k = 4 ∨ k = 5 := by omega
                · by_cases g1 : (1099511627776 : Int) < xh0
                  · have g1' : decide ((1099511627776 : Int) < xh0) = true := decide_eq_true g1
                    have hr1 : r = 1 := BAD.out (by
                      cases ho : okH ⟨xh0, xh1, xh2, xh3, xh4⟩ with
                      | false => rfl
                      | true => have := (inB_iff _).1 ((okH_iff _).1 ho 0 (by omega)); simp only [hv] at this; omega)
                    subst hr1
                    go_wp2
                    go_ret
                    exact ⟨rfl, below_alloc HB.out _⟩
                  · have g1' : decide ((1099511627776 : Int) < xh0) = false := decide_eq_false g1
                    by_cases g2 : xh0 < (-1099511627776 : Int)
                    · have g2' : decide (xh0 < (-1099511627776 : Int)) = true := decide_eq_true g2
                      have hr1 : r = 1 := BAD.out (by
                        cases ho : okH ⟨xh0, xh1, xh2, xh3, xh4⟩ with
                        | false => rfl
                        | true => have := (inB_iff _).1 ((okH_iff _).1 ho 0 (by omega)); simp only [hv] at this; omega)
                      subst hr1
                      go_wp2
                      go_ret
                      exact ⟨rfl, below_alloc HB.out _⟩
                    · have g2' : decide (xh0 < (-1099511627776 : Int)) = false := decide_eq_false g2
                      go_wp2
                      go_round
                      case rel =>
                        refine ⟨1, by omega, by omega, rfl, ⟨fun j hj => ?_⟩⟩
                        by_cases hjk : (j : Int) < 0
                        · exact HI.out j hjk
                        · obtain rfl : j = 0 := by omega
                          exact (inB_iff _).2 (by simp only [hv]; omega)
                      case measure => simp only [intV]; omega
                · by_cases g1 : (1099511627776 : Int) < xh1
                  · have g1' : decide ((1099511627776 : Int) < xh1) = true := decide_eq_true g1
                    have hr1 : r = 1 := BAD.out (by
                      cases ho : okH ⟨xh0, xh1, xh2, xh3, xh4⟩ with
                      | false => rfl
                      | true => have := (inB_iff _).1 ((okH_iff _).1 ho 1 (by omega)); simp only [hv] at this; omega)
                    subst hr1
                    go_wp2
                    go_ret
                    exact ⟨rfl, below_alloc HB.out _⟩
                  · have g1' : decide ((1099511627776 : Int) < xh1) = false := decide_eq_false g1
                    by_cases g2 : xh1 < (-1099511627776 : Int)
                    · have g2' : decide (xh1 < (-1099511627776 : Int)) = true := decide_eq_true g2
                      have hr1 : r = 1 := BAD.out (by
                        cases ho : okH ⟨xh0, xh1, xh2, xh3, xh4⟩ with
                        | false => rfl
                        | true => have := (inB_iff _).1 ((okH_iff _).1 ho 1 (by omega)); simp only [hv] at this; omega)
                      subst hr1
                      go_wp2
                      go_ret
                      exact ⟨rfl, below_alloc HB.out _⟩
                    · have g2' : decide (xh1 < (-1099511627776 : Int)) = false := decide_eq_false g2
                      go_wp2
                      go_round
                      case rel =>
                        refine ⟨2, by omega, by omega, rfl, ⟨fun j hj => ?_⟩⟩
                        by_cases hjk : (j : Int) < 1
                        · exact HI.out j hjk
                        · obtain rfl : j = 1 := by omega
                          exact (inB_iff _).2 (by simp only [hv]; omega)
                      case measure => simp only [intV]; omega
                · by_cases g1 : (1099511627776 : Int) < xh2
                  · have g1' : decide ((1099511627776 : Int) < xh2) = true := decide_eq_true g1
                    have hr1 : r = 1 := BAD.out (by
                      cases ho : okH ⟨xh0, xh1, xh2, xh3, xh4⟩ with
                      | false => rfl
                      | true => have := (inB_iff _).1 ((okH_iff _).1 ho 2 (by omega)); simp only [hv] at this; omega)
                    subst hr1
                    go_wp2
                    go_ret
                    exact ⟨rfl, below_alloc HB.out _⟩
                  · have g1' : decide ((1099511627776 : Int) < xh2) = false := decide_eq_false g1
                    by_cases g2 : xh2 < (-1099511627776 : Int)
                    · have g2' : decide (xh2 < (-1099511627776 : Int)) = true := decide_eq_true g2
                      have hr1 : r = 1 := BAD.out (by
                        cases ho : okH ⟨xh0, xh1, xh2, xh3, xh4⟩ with
                        | false => rfl
                        | true => have := (inB_iff _).1 ((okH_iff _).1 ho 2 (by omega)); simp only [hv] at this; omega)
                      subst hr1
                      go_wp2
                      go_ret
                      exact ⟨rfl, below_alloc HB.out _⟩
                    · have g2' : decide (xh2 < (-1099511627776 : Int)) = false := decide_eq_false g2
                      go_wp2
                      go_round
                      case rel =>
                        refine ⟨3, by omega, by omega, rfl, ⟨fun j hj => ?_⟩⟩
                        by_cases hjk : (j : Int) < 2
                        · exact HI.out j hjk
                        · obtain rfl : j = 2 := by omega
                          exact (inB_iff _).2 (by simp only [hv]; omega)
                      case measure => simp only [intV]; omega
                · by_cases g1 : (1099511627776 : Int) < xh3
                  · have g1' : decide ((1099511627776 : Int) < xh3) = true := decide_eq_true g1
                    have hr1 : r = 1 := BAD.out (by
                      cases ho : okH ⟨xh0, xh1, xh2, xh3, xh4⟩ with
                      | false => rfl
                      | true => have := (inB_iff _).1 ((okH_iff _).1 ho 3 (by omega)); simp only [hv] at this; omega)
                    subst hr1
                    go_wp2
                    go_ret
                    exact ⟨rfl, below_alloc HB.out _⟩
                  · have g1' : decide ((1099511627776 : Int) < xh3) = false := decide_eq_false g1
                    by_cases g2 : xh3 < (-1099511627776 : Int)
                    · have g2' : decide (xh3 < (-1099511627776 : Int)) = true := decide_eq_true g2
                      have hr1 : r = 1 := BAD.out (by
                        cases ho : okH ⟨xh0, xh1, xh2, xh3, xh4⟩ with
                        | false => rfl
                        | true => have := (inB_iff _).1 ((okH_iff _).1 ho 3 (by omega)); simp only [hv] at this; omega)
                      subst hr1
                      go_wp2
                      go_ret
                      exact ⟨rfl, below_alloc HB.out _⟩
                    · have g2' : decide (xh3 < (-1099511627776 : Int)) = false := decide_eq_false g2
                      go_wp2
                      go_round
                      case rel =>
                        refine ⟨4, by omega, by omega, rfl, ⟨fun j hj => ?_⟩⟩
                        by_cases hjk : (j : Int) < 3
                        · exact HI.out j hjk
                        · obtain rfl : j = 3 := by omega
                          exact (inB_iff _).2 (by simp only [hv]; omega)
                      case measure => simp only [intV]; omega
                · by_cases g1 : (1099511627776 : Int) < xh4
                  · have g1' : decide ((1099511627776 : Int) < xh4) = true := decide_eq_true g1
                    have hr1 : r = 1 := BAD.out (by
                      cases ho : okH ⟨xh0, xh1, xh2, xh3, xh4⟩ with
                      | false => rfl
                      | true => have := (inB_iff _).1 ((okH_iff _).1 ho 4 (by omega)); simp only [hv] at this; omega)
                    subst hr1
                    go_wp2
                    go_ret
                    exact ⟨rfl, below_alloc HB.out _⟩
                  · have g1' : decide ((1099511627776 : Int) < xh4) = false := decide_eq_false g1
                    by_cases g2 : xh4 < (-1099511627776 : Int)
                    · have g2' : decide (xh4 < (-1099511627776 : Int)) = true := decide_eq_true g2
                      have hr1 : r = 1 := BAD.out (by
                        cases ho : okH ⟨xh0, xh1, xh2, xh3, xh4⟩ with
                        | false => rfl
                        | true => have := (inB_iff _).1 ((okH_iff _).1 ho 4 (by omega)); simp only [hv] at this; omega)
                      subst hr1
                      go_wp2
                      go_ret
                      exact ⟨rfl, below_alloc HB.out _⟩
                    · have g2' : decide (xh4 < (-1099511627776 : Int)) = false := decide_eq_false g2
                      go_wp2
                      go_round
                      case rel =>
                        refine ⟨5, by omega, by omega, rfl, ⟨fun j hj => ?_⟩⟩
                        by_cases hjk : (j : Int) < 4
                        · exact HI.out j hjk
                        · obtain rfl : j = 4 := by omega
                          exact (inB_iff _).2 (by simp only [hv]; omega)
                      case measure => simp only [intV]; omega
                · have hok : okH ⟨xh0, xh1, xh2, xh3, xh4⟩ = true := (okH_iff _).2 (fun j hj => HI.out j (by omega))
                  have HG := Aside0.mk (GOOD.out hok)
                  clear hok
                  go_wp2
                  go_roundw
                  case rel => exact ⟨xk, pos + 1, rfl, rfl, by omega, HG, ⟨below_alloc HB.out _⟩⟩
                  case measure => simp only [intV]; omega
          · have h32' : decide ((32 : Int) < (xk.size : Int)) = true := by simp; omega
            have hr1 : r = 1 := bad (by unfold okA; rw [decide_eq_false h32]; simp)
            subst hr1
            clear bad hb
            go_wp2
            go_ret
            exact ⟨rfl, below_alloc HB.out _⟩
      · have hlt' : decide ((pos : Int) < (n : Int)) = false := by simp; omega
        obtain rfl : pos = n := by omega
        have hr0 : r = 0 := by
          rw [HX.out, ← HC.out, HE.out last]; rfl
        subst hr0
        go_wp2
        go_ret
        exact ⟨rfl, HB.out⟩
  · have hr1 : r = 1 := by rw [hr]; unfold chkA; rw [decide_eq_false h4]; rfl
    subst hr1
    clear hr
    have h4' : decide ((4000 : Int) < (l0.length : Int)) = true := by simp; omega
    have HR := Aside0.mk hr0
    clear hr0
    go_enter Try.func45, Try.ntmps45
    go_wp2
    go_ret
    exact ⟨rfl, Below.refl _ _⟩
theorem escrow_Check.calls (A0 : Option Addr) (c0 : Nat) (l0 : List Ac) (r1 : Int) (w : World) (hr0 : Kd.C k94 w A0 l0.length l0) (hc0 : l0.length ≤ c0) (h : escrow_Check.f l0 = some r1) :
    Calls Try.prog 45 #[.slice A0 l0.length c0] w fun e w' => e = .returned (.int .i64 r1) ∧ Below w.heap.size w w' := by
  unfold escrow_Check.f at h
  exact chkA_call A0 c0 l0 w hr0 hc0 r1 (by injection h with h; exact h.symm)
end Go.Proofs.Ytfnpiclioikjpaa.X

/- The cells of a row of Accs. -/
set_option linter.unusedSimpArgs false
set_option linter.unusedVariables false
namespace Go.Proofs.Ytfnpiclioikjpaa.X
open Go.RowKit Go.Proofs.YtfnpiclioikjpaaW.PrintWords Go.Proofs.YtfnpiclioikjpaaW.PrintLast Go.Proofs.YtfnpiclioikjpaaW.PrintMore

def cellAcc (x : S94) : List Value := [.string x.f0, .int .i64 x.f1.f0, .int .i64 x.f1.f1, .int .i64 x.f1.f2, .int .i64 x.f1.f3, .int .i64 x.f1.f4]
def cellsAcc : List S94 → List Value
  | [] => []
  | x :: l => cellAcc x ++ cellsAcc l
theorem cellsAcc_length (l : List S94) : (cellsAcc l).length = l.length * 6 := by
  induction l with
  | nil => rfl
  | cons x l ih => simp only [cellsAcc, List.length_append, ih, List.length_cons, cellAcc, List.length_nil]; omega
theorem cellsAcc_one (l : List S94) : ∀ u ∈ cellsAcc l, u.oneCell' = true := by
  induction l with
  | nil => intro u hu; cases hu
  | cons x l ih =>
    intro u hu
    rcases List.mem_append.1 hu with h | h
    · simp only [cellAcc, List.mem_cons, List.not_mem_nil, or_false] at h
      rcases h with rfl | h
      · rfl
      · repeat (first | (rcases h with rfl | h; · rfl) | (subst h; rfl))
    · exact ih u h
theorem cellsAcc_append (l m : List S94) : cellsAcc (l ++ m) = cellsAcc l ++ cellsAcc m := by
  induction l with
  | nil => rfl
  | cons x l ih => simp only [List.cons_append, cellsAcc, ih, List.append_assoc]
theorem cellsAcc_take (l : List S94) (i : Nat) : (cellsAcc l).take (i * 6) = cellsAcc (l.take i) := by
  rcases Nat.lt_or_ge l.length i with h | h
  · rw [List.take_of_length_le (by rw [cellsAcc_length]; omega), List.take_of_length_le (by omega)]
  · have hl : (cellsAcc (l.take i)).length = i * 6 := by rw [cellsAcc_length, List.length_take]; rw [Nat.min_eq_left h]
    have he : cellsAcc l = cellsAcc (l.take i) ++ cellsAcc (l.drop i) := by rw [← cellsAcc_append, List.take_append_drop]
    rw [he, ← hl, List.take_left]
theorem cellsAcc_drop (l : List S94) (i : Nat) : (cellsAcc l).drop (i * 6) = cellsAcc (l.drop i) := by
  rcases Nat.lt_or_ge l.length i with h | h
  · rw [List.drop_eq_nil_of_le (by rw [cellsAcc_length]; omega), List.drop_eq_nil_of_le (by omega)]; rfl
  · have hl : (cellsAcc (l.take i)).length = i * 6 := by rw [cellsAcc_length, List.length_take]; rw [Nat.min_eq_left h]
    have he : cellsAcc l = cellsAcc (l.take i) ++ cellsAcc (l.drop i) := by rw [← cellsAcc_append, List.take_append_drop]
    rw [he, ← hl, List.drop_left]
theorem cellsAcc_get (l : List S94) (i j : Nat) (hi : i < l.length) (hj : j < 6) : (cellsAcc l)[i * 6 + j]? = (cellAcc (l[i]))[j]? := by
  have he : cellsAcc l = cellsAcc (l.take i) ++ (cellAcc l[i] ++ cellsAcc (l.drop (i + 1))) := by
    have : l = l.take i ++ (l[i] :: l.drop (i + 1)) := by rw [List.getElem_cons_drop, List.take_append_drop]
    have h2 := congrArg cellsAcc this
    rw [cellsAcc_append] at h2
    exact h2
  have hl : (cellsAcc (l.take i)).length = i * 6 := by rw [cellsAcc_length, List.length_take]; rw [Nat.min_eq_left (by omega)]
  rw [he, List.getElem?_append_right (by omega), hl, show i * 6 + j - i * 6 = j by omega, List.getElem?_append_left (by simpa [cellAcc] using hj)]
theorem repsAcc {R : S94 → List Value → Prop} (hR : ∀ x c, R x c → c = cellAcc x) : ∀ (l : List S94) (cs : List Value), Reps R 6 l cs → cs = cellsAcc l := by
  intro l
  induction l with
  | nil =>
    intro cs h
    have := h.1
    simp only [List.length_nil, Nat.zero_mul] at this
    exact List.eq_nil_of_length_eq_zero this
  | cons x l ih =>
    intro cs h
    have h1 := h.1
    rw [List.length_cons] at h1
    have h0 := hR _ _ (h.2 0 x rfl)
    simp only [Nat.zero_mul, List.drop_zero] at h0
    have h2 := ih (cs.drop 6) ⟨by rw [List.length_drop, h1]; omega, fun j p hj => by
      have := h.2 (j + 1) p (by simpa using hj)
      rw [List.drop_drop, show 6 + j * 6 = (j + 1) * 6 by omega]
      exact this⟩
    rw [cellsAcc, ← h0, ← h2, List.take_append_drop]
theorem cellsAcc_reps {R : S94 → List Value → Prop} (hR : ∀ x, R x (cellAcc x)) (l : List S94) : Reps R 6 l (cellsAcc l) := by
  refine ⟨cellsAcc_length l, fun j p hj => ?_⟩
  obtain ⟨hl, rfl⟩ := List.getElem?_eq_some_iff.1 hj
  have h1 : ((cellsAcc l).drop (j * 6)).take 6 = cellAcc l[j] := by
    rw [cellsAcc_drop, ← List.getElem_cons_drop (h := hl), cellsAcc]
    rw [List.take_append_of_le_length (by simp [cellAcc])]
    rw [List.take_of_length_le (by simp [cellAcc])]
  rw [h1]
  exact hR _
theorem ownRAcc {w : World} {base : Nat} {ok : Nat → Prop} {v : Value} {l : List S94} (h : Kd.R k94 94 w base ok v l) : w.ownsRow base 94 6 v l.length (cellsAcc l) := by
  obtain ⟨_, inner, ho, hr⟩ := h
  obtain rfl := repsAcc (fun x c hp => k94_openM hp) l inner hr
  exact ho
theorem RownAcc {w : World} {base : Nat} {v : Value} {l : List S94} {n : Nat} {cs : List Value} (hn : n = l.length) (hc : cs = cellsAcc l) (h : w.ownsRow base 94 6 v n cs) : Kd.R k94 94 w base (fun _ => True) v l := by
  subst hn
  subst hc
  exact ⟨fun _ _ => trivial, cellsAcc l, h, cellsAcc_reps (fun x => k94_mkM _ _ _ x) l⟩
theorem ins_cellsAcc (l : List S94) (x : S94) (i : Nat) : insCells (cellsAcc l) (cellAcc x) (i * 6) = cellsAcc (l.take i ++ x :: l.drop i) := by
  unfold insCells
  rw [cellsAcc_take, cellsAcc_drop, cellsAcc_append, cellsAcc]
theorem del_cellsAcc (l : List S94) (i : Nat) : delCells (cellsAcc l) (i * 6) 6 = cellsAcc (l.take i ++ l.drop (i + 1)) := by
  unfold delCells
  rw [cellsAcc_take, show i * 6 + 6 = (i + 1) * 6 by omega, cellsAcc_drop, cellsAcc_append]
theorem set_cellsAcc (l : List S94) (x : S94) (i : Nat) (hi : i < l.length) : (cellsAcc l).take (i * 6) ++ (cellAcc x ++ (cellsAcc l).drop (i * 6 + (cellAcc x).length)) = cellsAcc (l.set i x) := by
  rw [show (cellAcc x).length = 6 from rfl, cellsAcc_take, show i * 6 + 6 = (i + 1) * 6 by omega, cellsAcc_drop, List.set_eq_take_append_cons_drop, if_pos hi, cellsAcc_append, cellsAcc]
end Go.Proofs.Ytfnpiclioikjpaa.X

/- slices.Insert of one element of type Acc into a row of the call's own, told cell by cell. -/
set_option linter.unusedSimpArgs false
set_option linter.unusedVariables false
namespace Go.Proofs.Ytfnpiclioikjpaa.X
open Go.RowKit Go.Proofs.YtfnpiclioikjpaaW.PrintWords

theorem infoInsAcc : (Try.prog.info? 94).map (fun i => (i.zero, i.size, i.bytes)) = some (some (.agg #[(.string ⟨#[]⟩), (.int .i64 0), (.int .i64 0), (.int .i64 0), (.int .i64 0), (.int .i64 0)]), 6, 56) := by kernel_rfl
theorem sizeInsAcc : (Try.prog.info? 94).map (·.size) = some 6 := by
  obtain ⟨i0, hi, _, h1, _⟩ := info_parts infoInsAcc
  rw [hi]; simp [h1]
theorem sofInsAcc (w : World) : (sizeOf 94).run Try.prog w = .ok 6 w := by
  obtain ⟨i0, hi, _, h1, _⟩ := info_parts infoInsAcc
  simp [sizeOf, typeInfo, hi, h1]

/-- What is handed back: a row of the call's own, the element laid in. -/
def InsPostAcc (base : Nat) (w0 : World) (n : Nat) (cs : List Value) (e : Ending) (w' : World) : Prop :=
  ∃ v', e = .returned v' ∧ w'.ownsRow base 94 6 v' n cs ∧ Below base w0 w'

set_option maxRecDepth 100000 in
set_option maxHeartbeats 4000000 in
/-- At the end. -/
theorem ins_endAcc (A : Option Addr) (c n : Nat) (cs seg : List Value) (vb base : Nat) (w0 w : World) (ho : w.ownsRow base 94 6 (.slice A n c) n cs) (hv : w.heap[vb]? = some (.cells seg.toArray 94 (0, 0)))
    (hseg : seg.length = 6) (h1s : ∀ u ∈ seg, u.oneCell' = true) (hn : n ≤ 1000000000) (hB : Below base w0 w) (hbase : base ≤ w.heap.size) :
    Calls Try.prog 85 #[.slice A n c, .int .i64 (n : Int), .slice (some ⟨vb, 0, none⟩) 1 1] w (InsPostAcc base w0 (n + 1) (insCells cs seg (n * 6))) := by
  obtain ⟨i0, hi, hz0, hz1, hz2⟩ := info_parts infoInsAcc
  have hcs : cs.length = n * 6 := ho.1
  have hnc : n ≤ c := own_cap ho
  have hsrc : ∀ j u, seg[j]? = some u → w.cell? ((⟨vb, 0, none⟩ : Addr).add j) = some u := by
    intro j u hu
    rw [add_plain, cell_of_row w vb j seg.toArray 94 (0, 0) hv]
    simpa using hu
  obtain ⟨v1, w1, hr, hown, hg, _, hat⟩ := run_append_own_at (P := Try.prog) w base 59 59 94 i0 _ 6 56 Try.underlying59 hi hz0 hz1 hz2 rfl (by decide) (.slice A n c) n cs ho ⟨vb, 0, none⟩ 1 1 seg (by rw [hseg]) hsrc h1s (by simp only [maxLen]; omega) (by omega) hbase
  have hr' := Lib.hid hr
  have hfin : InsPostAcc base w0 (n + 1) (insCells cs seg (n * 6)) (.returned v1) w1 := by
    refine ⟨v1, rfl, ?_, hB.grown hg hbase (own_base ho)⟩
    unfold insCells
    rw [List.take_of_length_le (by omega), List.drop_of_length_le (by omega), List.append_nil]
    exact hown
  have HF := Lib.hid hfin
  have hb1 : (n : Int) ≤ (n : Int) := Int.le_refl _
  clear hfin hr hown hg hat ho hv hsrc hB
  go_enter Try.func85, Try.ntmps85
  go_wp2_with (at_builtin; refine Lib.wpList_append_run _ rfl _ _ _ _ rfl _ _ rfl rfl _ _ hr'.out ?_)
  all_goals
    go_ret
    exact HF.out

set_option maxRecDepth 100000 in
set_option maxHeartbeats 4000000 in
/-- In the midst, with room: in place. -/
theorem ins_shiftAcc (g c n i : Nat) (cur cs seg : List Value) (vb base : Nat) (w0 w : World) (hg : w.heap[g]? = some (.cells cur.toArray 94 (0, 0))) (hcur : cur.length = c * 6) (hpre : cur.take (n * 6) = cs) (hcl : cs.length = n * 6) (hgb : base ≤ g)
    (hv : w.heap[vb]? = some (.cells seg.toArray 94 (0, 0))) (hne : vb ≠ g) (hseg : seg.length = 6) (h1s : ∀ u ∈ seg, u.oneCell' = true) (h1c : ∀ u ∈ cs, u.oneCell' = true)
    (hi : i < n) (hroom : n + 1 ≤ c) (hn : n ≤ 1000000000) (hc : c ≤ maxLen) (hB : Below base w0 w) (hbase : base ≤ w.heap.size) :
    Calls Try.prog 85 #[.slice (some ⟨g, 0, none⟩) n c, .int .i64 (i : Int), .slice (some ⟨vb, 0, none⟩) 1 1] w (InsPostAcc base w0 (n + 1) (insCells cs seg (i * 6))) := by
  have hc63 : c ≤ 9223372036854775807 := by simp only [maxLen] at hc; omega
  obtain ⟨c1, hc1⟩ : ∃ c1, Hid (c1 = cur.take (i * 6 + 6) ++ (cs.drop (i * 6) ++ cur.drop (i * 6 + 6 + (cs.drop (i * 6)).length))) := ⟨_, Lib.hid rfl⟩
  obtain ⟨c2, hc2⟩ : ∃ c2, Hid (c2 = c1.take (i * 6) ++ (seg ++ c1.drop (i * 6 + seg.length))) := ⟨_, Lib.hid rfl⟩
  have hsh := Lib.hid (shift_in cur cs seg (i * 6) 6 hseg (by omega) (by omega) (by rw [hcl]; exact hpre) c1 c2 hc1.out hc2.out)
  have hdl : (cs.drop (i * 6)).length = (n - i) * 6 := by rw [List.length_drop, hcl]; omega
  have hl1 : c1.length = cur.length := by rw [hc1.out]; exact over_length _ _ _ (by omega)
  have hov : ∀ lb cb, (callFunc 89 #[.slice (some ⟨vb, 0, none⟩) 1 1, .slice (some ⟨g, (i + 1) * 6, none⟩) lb cb]).run Try.prog w = .ok (.value (.bool false)) w := fun lb cb => by
    rw [run_callFunc_extern Try.func89 (by kernel_rfl) (by kernel_rfl) (by kernel_rfl) (e := Extern.SlicesOverlaps.overlaps #[59, 59] #[4]) (by kernel_rfl),
      Lib.run_overlaps_apart w 59 4 94 Try.underlying59 6 sofInsAcc ⟨vb, 0, none⟩ ⟨g, (i + 1) * 6, none⟩ 1 1 lb cb hne 94 94 6 (c * 6) (by simp [World.shape?, hv, hseg]) (by simp [World.shape?, hg, hcur]) (by omega) (blk_frozen hv 0) (blk_frozen hv 6)]
    rfl
  have hcp1 : ∀ ty dc sc, (Builtin.copy_ #[59, 59] ty #[.slice (some ⟨g, (i + 1) * 6, none⟩) (n - i) dc, .slice (some ⟨g, i * 6, none⟩) (n + 1 - i) sc]).run Try.prog w.drew = .ok (goInt ((n - i : Nat) : Int)) (w.drew.setRow g c1.toArray) := fun ty dc sc => by
    have h := run_copy_gen (P := Try.prog) w.drew 59 59 ty 94 g ((i + 1) * 6) (n - i) dc ⟨g, i * 6, none⟩ (n + 1 - i) sc cur 94 (cs.drop (i * 6)) 6 Try.underlying59 sizeInsAcc hg (by rw [hdl]; simp only [Nat.min_def]; split <;> omega)
      (fun j v hj => by
        have hadd : (⟨g, i * 6, none⟩ : Addr).add j = ⟨g, i * 6 + j, none⟩ := Addr.add_lit _ _ _
        rw [hadd, cell_of_row w.drew g (i * 6 + j) cur.toArray 94 (0, 0) hg]
        rw [List.getElem?_drop] at hj
        rw [← hpre, List.getElem?_take] at hj
        split at hj
        · simpa using hj
        · cases hj) (by omega) (fun v hv => h1c v (List.mem_of_mem_drop hv))
    rw [show Nat.min (n + 1 - i) (n - i) = n - i by simp only [Nat.min_def]; split <;> omega] at h
    rw [h, show (i + 1) * 6 = i * 6 + 6 by omega, ← hc1.out]
  obtain ⟨W1, hW1⟩ : ∃ W1, Hid (W1 = w.drew.setRow g c1.toArray) := ⟨_, Lib.hid rfl⟩
  rw [← hW1.out] at hcp1
  have hg1 : W1.heap[g]? = some (.cells c1.toArray 94 (0, 0)) := by rw [hW1.out]; exact setRow_heap w.drew g _ _ 94 _ hg
  have hv1 : W1.heap[vb]? = some (.cells seg.toArray 94 (0, 0)) := by rw [hW1.out]; exact (setRow_other w.drew g vb _ hne).trans hv
  have hcp2 : ∀ ty dc, (Builtin.copy_ #[59, 59] ty #[.slice (some ⟨g, i * 6, none⟩) (n + 1 - i) dc, .slice (some ⟨vb, 0, none⟩) 1 1]).run Try.prog W1 = .ok (goInt ((1 : Nat) : Int)) (W1.setRow g c2.toArray) := fun ty dc => by
    have h := run_copy_gen (P := Try.prog) W1 59 59 ty 94 g (i * 6) (n + 1 - i) dc ⟨vb, 0, none⟩ 1 1 c1 94 seg 6 Try.underlying59 sizeInsAcc hg1 (by rw [hseg]; simp only [Nat.min_def]; split <;> omega)
      (fun j v hj => by
        rw [add_plain, cell_of_row W1 vb j seg.toArray 94 (0, 0) hv1]
        simpa using hj) (by omega) h1s
    rw [show Nat.min 1 (n + 1 - i) = 1 by simp only [Nat.min_def]; split <;> omega] at h
    rw [h, ← hc2.out]
  have hfin : InsPostAcc base w0 (n + 1) (insCells cs seg (i * 6)) (.returned (.slice (some ⟨g, 0, none⟩) (n + 1) c)) (W1.setRow g c2.toArray) := by
    refine ⟨_, rfl, ⟨?_, .inr ⟨g, c, c2.toArray, rfl, hgb, setRow_heap W1 g _ _ 94 _ hg1, hroom, hc, ?_, ?_⟩⟩, ?_⟩
    · rw [insCells_length (by omega), hcl, hseg]; omega
    · rw [List.size_toArray, hsh.out.1, hcur]
    · show c2.take ((n + 1) * 6) = _
      rw [← hsh.out.2, hcl]
      congr 1
      omega
    · rw [hW1.out]
      exact below_setRow (below_setRow (below_drew hB) hgb _) hgb _
  have HF := Lib.hid hfin
  have HCP1 := Lib.hid hcp1
  have HCP2 := Lib.hid hcp2
  have hz2 : ((i : Int) == (n : Int)) = false := by simp; omega
  have hz3 : decide ((c : Int) < (n : Int) + 1) = false := by simp; omega
  have hw1 : IntKind.i64.wrap ((i : Int) + 1) = (i : Int) + 1 := by rw [IntKind.wrap_i64]; omega
  have hb1 : (0 : Int) ≤ (i : Int) + 1 := by omega
  have htn : ((i : Int) + 1).toNat = i + 1 := by omega
  have hin : i ≤ n := by omega
  have hb2 : ¬ (c = i + 1) := by omega
  have hb3 : (i : Int) ≤ (n : Int) + 1 := by omega
  have hb4 : ¬ (c = i) := by omega
  clear hfin hcp1 hcp2 hg1 hv1 hsh hg hcur hpre hv hB hl1 hdl hcl hseg h1s h1c
  go_enter Try.func85, Try.ntmps85
  go_wp2_with (simp only [hov])
  go_region_law (refine step_copy_runI rfl (.tmp 73) (.tmp 76) 59 59 rfl (.slice (some ⟨g, (i + 1) * 6, none⟩) (n - i) (c - (i + 1))) (.slice (some ⟨g, i * 6, none⟩) (n + 1 - i) (c - i)) (by simp [Act.eval, Act.put]) (by simp [Act.eval, Act.put]) (HCP1.out _ _ _) ?_)
  go_wp2_with (with_reducible refine wpList_copy_runI _ rfl (.tmp 80) (.tmp 81) 59 59 rfl (.slice (some ⟨g, i * 6, none⟩) (n + 1 - i) (c - i)) (.slice (some ⟨vb, 0, none⟩) 1 1) rfl rfl (HCP2.out _ _) ?_)
  go_ret
  exact HF.out

set_option maxRecDepth 100000 in
set_option maxHeartbeats 4000000 in
/-- In the midst, without room: a new row. -/
theorem ins_growAcc (g c n i : Nat) (cur cs seg : List Value) (vb base : Nat) (w0 w : World) (hg : w.heap[g]? = some (.cells cur.toArray 94 (0, 0))) (hcur : cur.length = c * 6) (hpre : cur.take (n * 6) = cs) (hcl : cs.length = n * 6)
    (hv : w.heap[vb]? = some (.cells seg.toArray 94 (0, 0))) (hseg : seg.length = 6) (h1s : ∀ u ∈ seg, u.oneCell' = true) (h1c : ∀ u ∈ cs, u.oneCell' = true)
    (hi : i < n) (hnc : n ≤ c) (hroom : c < n + 1) (hn : n ≤ 1000000000) (hB : Below base w0 w) (hbase : base ≤ w.heap.size) :
    Calls Try.prog 85 #[.slice (some ⟨g, 0, none⟩) n c, .int .i64 (i : Int), .slice (some ⟨vb, 0, none⟩) 1 1] w (InsPostAcc base w0 (n + 1) (insCells cs seg (i * 6))) := by
  obtain ⟨i0, hi0, hz0, hzs, hzb⟩ := info_parts infoInsAcc
  have hgl : g < w.heap.size := blk_lt hg
  have hvl : vb < w.heap.size := blk_lt hv
  have hcellg : ∀ W : World, W.heap[g]? = some (.cells cur.toArray 94 (0, 0)) → ∀ j v, cs[j]? = some v → W.cell? ⟨g, j, none⟩ = some v := by
    intro W hW j v hj
    rw [cell_of_row W g j cur.toArray 94 (0, 0) hW]
    rw [← hpre, List.getElem?_take] at hj
    split at hj
    · simpa using hj
    · cases hj
  have hold : (Builtin.firstCells i0.size i (.slice (some ⟨g, 0, none⟩) i c)).run Try.prog w.drew = .ok (cs.take (i * 6)).toArray w.drew := by
    rw [hzs]
    exact run_firstCells_some w.drew 6 i ⟨g, 0, none⟩ i c (cs.take (i * 6)) (by rw [List.length_take]; omega) (fun j v hj => by
      rw [add_plain]
      rw [List.getElem?_take] at hj
      split at hj
      · exact hcellg w.drew hg j v hj
      · cases hj)
  obtain ⟨G, hG⟩ : ∃ G, Hid (G = grownCap w (n + 1) c 94) := ⟨_, Lib.hid rfl⟩
  have hGn : n + 1 ≤ G := by rw [hG.out]; exact grownCap_ge w _ _ _
  have hGm : G ≤ maxLen := by rw [hG.out]; exact grownCap_le_maxLen w (n + 1) c 94 (by simp only [maxLen]; omega)
  have hG63 : G ≤ 9223372036854775807 := by simp only [maxLen] at hGm; omega
  obtain ⟨zs, hzs'⟩ : ∃ zs : List Value, Hid (zs = (Builtin.zeroCells ((.agg #[(.string ⟨#[]⟩), (.int .i64 0), (.int .i64 0), (.int .i64 0), (.int .i64 0), (.int .i64 0)]) : Value).cells (n + 1 - i) ++ Builtin.zeroCells ((.agg #[(.string ⟨#[]⟩), (.int .i64 0), (.int .i64 0), (.int .i64 0), (.int .i64 0), (.int .i64 0)]) : Value).cells (G - (n + 1))).toList) := ⟨_, Lib.hid rfl⟩
  have hzl : zs.length = (G - i) * 6 := by
    rw [hzs'.out, Array.length_toList, Array.size_append, size_zeroCells, size_zeroCells, show ((.agg #[(.string ⟨#[]⟩), (.int .i64 0), (.int .i64 0), (.int .i64 0), (.int .i64 0), (.int .i64 0)]) : Value).cells.size = 6 from rfl]
    omega
  have hik : i + (n + 1 - i) = n + 1 := by omega
  have hkk : (n : Int) + 1 - (i : Int) = ((n + 1 - i : Nat) : Int) := by omega
  have hrz : ∀ ty, (Builtin.append_ #[59, 3] ty #[.slice (some ⟨g, 0, none⟩) i c, .int .i64 ((n : Int) + 1 - (i : Int))]).run Try.prog w =
      .ok (.slice (some ⟨w.heap.size, 0, none⟩) (n + 1) G) (w.drew.alloc (.cells (cs.take (i * 6) ++ zs).toArray 94)) := fun ty => by
    have h := Lib.run_append_grow_zeros w 59 3 ty 94 i0 _ .i64 .i64 Try.underlying59 Try.underlying3 hi0 hz0 (some ⟨g, 0, none⟩) i c (cs.take (i * 6)) hold (n + 1 - i) (by omega) (by omega) (by omega) (by omega) (by rw [hzb]; omega) (by rw [hzb, hik]; exact growslice_fits hroom (by omega))
    rw [hik, ← hG.out] at h
    rw [hkk, h, hzs'.out]
    congr 3
    simp [Array.append_assoc]
  obtain ⟨c1, hc1⟩ : ∃ c1, Hid (c1 = (cs.take (i * 6) ++ zs).take (i * 6) ++ (seg ++ (cs.take (i * 6) ++ zs).drop (i * 6 + seg.length))) := ⟨_, Lib.hid rfl⟩
  obtain ⟨c2, hc2⟩ : ∃ c2, Hid (c2 = c1.take (i * 6 + 6) ++ (cs.drop (i * 6) ++ c1.drop (i * 6 + 6 + (cs.drop (i * 6)).length))) := ⟨_, Lib.hid rfl⟩
  have hfr := Lib.hid (fresh_in cs seg zs (i * 6) 6 hseg (by omega) (by omega) c1 c2 hc1.out hc2.out)
  have hl0 : (cs.take (i * 6) ++ zs).length = G * 6 := by
    rw [List.length_append, List.length_take, hzl, hcl]
    omega
  have hl1 : c1.length = G * 6 := by rw [hc1.out, over_length _ _ _ (by omega), hl0]
  have hdl : (cs.drop (i * 6)).length = (n - i) * 6 := by rw [List.length_drop, hcl]; omega
  obtain ⟨W1, hW1⟩ : ∃ W1, Hid (W1 = w.drew.alloc (.cells (cs.take (i * 6) ++ zs).toArray 94)) := ⟨_, Lib.hid rfl⟩
  have hg1 : W1.heap[w.heap.size]? = some (.cells (cs.take (i * 6) ++ zs).toArray 94 (0, 0)) := by
    rw [hW1.out]
    have := heap_alloc_new w.drew (.cells (cs.take (i * 6) ++ zs).toArray 94)
    simpa using this
  have hb1 : Below w.heap.size w W1 := by rw [hW1.out]; exact below_alloc (below_drew (Below.refl _ _)) _
  have hgg1 : W1.heap[g]? = some (.cells cur.toArray 94 (0, 0)) := (hb1.block g hgl).trans hg
  have hv1 : W1.heap[vb]? = some (.cells seg.toArray 94 (0, 0)) := (hb1.block vb hvl).trans hv
  have hcp1 : ∀ ty dc, (Builtin.copy_ #[59, 59] ty #[.slice (some ⟨w.heap.size, i * 6, none⟩) (n + 1 - i) dc, .slice (some ⟨vb, 0, none⟩) 1 1]).run Try.prog W1 = .ok (goInt ((1 : Nat) : Int)) (W1.setRow w.heap.size c1.toArray) := fun ty dc => by
    have h := run_copy_gen (P := Try.prog) W1 59 59 ty 94 w.heap.size (i * 6) (n + 1 - i) dc ⟨vb, 0, none⟩ 1 1 (cs.take (i * 6) ++ zs) 94 seg 6 Try.underlying59 sizeInsAcc hg1 (by rw [hseg]; simp only [Nat.min_def]; split <;> omega)
      (fun j v hj => by
        rw [add_plain, cell_of_row W1 vb j seg.toArray 94 (0, 0) hv1]
        simpa using hj) (by omega) h1s
    rw [show Nat.min 1 (n + 1 - i) = 1 by simp only [Nat.min_def]; split <;> omega] at h
    rw [h, ← hc1.out]
  obtain ⟨W2, hW2⟩ : ∃ W2, Hid (W2 = W1.setRow w.heap.size c1.toArray) := ⟨_, Lib.hid rfl⟩
  have hg2 : W2.drew.heap[w.heap.size]? = some (.cells c1.toArray 94 (0, 0)) := by rw [hW2.out]; exact setRow_heap W1 _ _ _ 94 _ hg1
  have hgg2 : W2.drew.heap[g]? = some (.cells cur.toArray 94 (0, 0)) := by rw [hW2.out]; exact (setRow_other W1 w.heap.size g _ (by omega)).trans hgg1
  have hcp2 : ∀ ty dc sc, (Builtin.copy_ #[59, 59] ty #[.slice (some ⟨w.heap.size, (i + 1) * 6, none⟩) (n - i) dc, .slice (some ⟨g, i * 6, none⟩) (n - i) sc]).run Try.prog W2.drew = .ok (goInt ((n - i : Nat) : Int)) (W2.drew.setRow w.heap.size c2.toArray) := fun ty dc sc => by
    have h := run_copy_gen (P := Try.prog) W2.drew 59 59 ty 94 w.heap.size ((i + 1) * 6) (n - i) dc ⟨g, i * 6, none⟩ (n - i) sc c1 94 (cs.drop (i * 6)) 6 Try.underlying59 sizeInsAcc hg2 (by rw [hdl]; simp only [Nat.min_def]; split <;> omega)
      (fun j v hj => by
        have hadd : (⟨g, i * 6, none⟩ : Addr).add j = ⟨g, i * 6 + j, none⟩ := Addr.add_lit _ _ _
        rw [hadd]
        rw [List.getElem?_drop] at hj
        exact hcellg W2.drew hgg2 _ v hj) (by omega) (fun v hv => h1c v (List.mem_of_mem_drop hv))
    rw [show Nat.min (n - i) (n - i) = n - i by simp only [Nat.min_def]; split <;> omega] at h
    rw [h, show (i + 1) * 6 = i * 6 + 6 by omega, ← hc2.out]
  have hfin : InsPostAcc base w0 (n + 1) (insCells cs seg (i * 6)) (.returned (.slice (some ⟨w.heap.size, 0, none⟩) (n + 1) G)) (W2.drew.setRow w.heap.size c2.toArray) := by
    refine ⟨_, rfl, ⟨?_, .inr ⟨w.heap.size, G, c2.toArray, rfl, hbase, setRow_heap W2.drew _ _ _ 94 _ hg2, hGn, hGm, ?_, ?_⟩⟩, ?_⟩
    · rw [insCells_length (by omega), hcl, hseg]; omega
    · rw [List.size_toArray, hfr.out.1, hl0]
    · show c2.take ((n + 1) * 6) = _
      rw [← hfr.out.2, hcl]
      congr 1
      omega
    · rw [hW2.out]
      refine below_setRow (below_drew (below_setRow (hB.trans ?_) hbase _)) hbase _
      exact ⟨hb1.os, hb1.tape, hb1.output, hb1.size, fun k hk => hb1.block k (by omega)⟩
  have HF := Lib.hid hfin
  rw [← hW1.out] at hrz
  rw [← hW2.out] at hcp1
  have HRZ := Lib.hid hrz
  have HCP1 := Lib.hid hcp1
  have HCP2 := Lib.hid hcp2
  have hz2 : ((i : Int) == (n : Int)) = false := by simp; omega
  have hz3 : decide ((c : Int) < (n : Int) + 1) = true := by simp; omega
  have hw1 : IntKind.i64.wrap ((i : Int) + 1) = (i : Int) + 1 := by rw [IntKind.wrap_i64]; omega
  have hb1 : (0 : Int) ≤ (i : Int) + 1 := by omega
  have htn : ((i : Int) + 1).toNat = i + 1 := by omega
  have hin : i ≤ n := by omega
  have hic : i ≤ c := by omega
  have hc63 : c ≤ 9223372036854775807 := by omega
  have hb2 : ¬ (c = i + 1) ∨ c = i + 1 := by omega
  have hb4 : ¬ (c = i) := by omega
  have hb5 : ¬ (G = i) := by omega
  have hb6 : ¬ (G = i + 1) := by omega
  clear hfin hrz hcp1 hcp2 hg1 hv1 hgg1 hg2 hgg2 hfr hg hcur hpre hv hB hl1 hdl hcl hseg h1s h1c hold hcellg hl0 hzl hb2 hkk hik hGm
  go_enter Try.func85, Try.ntmps85
  go_wp2_with (first | (at_builtin; refine Lib.wpList_append_run _ rfl _ _ _ _ rfl _ _ rfl rfl _ _ (HRZ.out _) ?_) | (with_reducible refine wpList_copy_runI _ rfl (.tmp 43) (.tmp 44) 59 59 rfl (.slice (some ⟨w.heap.size, i * 6, none⟩) (n + 1 - i) (G - i)) (.slice (some ⟨vb, 0, none⟩) 1 1) rfl rfl (HCP1.out _ _) ?_))
  go_region_law (refine step_copy_runI rfl (.tmp 50) (.tmp 53) 59 59 rfl (.slice (some ⟨w.heap.size, (i + 1) * 6, none⟩) (n - i) (G - (i + 1))) (.slice (some ⟨g, i * 6, none⟩) (n - i) (c - i)) (by simp [Act.eval, Act.put]) (by simp [Act.eval, Act.put]) (HCP2.out _ _ _) ?_)
  go_wp2
  go_ret
  exact HF.out

/-- slices.Insert(s, i, x), s a row of the call's own. -/
theorem insertAcc (v : Value) (n i : Nat) (cs seg : List Value) (vb base : Nat) (w0 w : World) (ho : w.ownsRow base 94 6 v n cs) (hv : w.heap[vb]? = some (.cells seg.toArray 94 (0, 0))) (hvo : some vb ≠ v.ownBlock)
    (hseg : seg.length = 6) (h1s : ∀ u ∈ seg, u.oneCell' = true) (h1c : ∀ u ∈ cs, u.oneCell' = true) (hi : i ≤ n) (hn : n ≤ 1000000000) (hB : Below base w0 w) (hbase : base ≤ w.heap.size) :
    Calls Try.prog 85 #[v, .int .i64 (i : Int), .slice (some ⟨vb, 0, none⟩) 1 1] w (InsPostAcc base w0 (n + 1) (insCells cs seg (i * 6))) := by
  obtain ⟨A, c, rfl⟩ := own_slice ho
  by_cases hin : i = n
  · subst hin
    exact ins_endAcc A c i cs seg vb base w0 w ho hv hseg h1s hn hB hbase
  · have hcl := ho.1
    rcases ho.2 with ⟨_, h0⟩ | ⟨g, cap, cur, he, hgb, hh, hnc, hcm, hcs, ht⟩
    · omega
    injection he with h1 _ h2
    subst h1; subst h2
    have hne : vb ≠ g := fun e => hvo (by rw [e]; simp [Value.ownBlock])
    have hh' : w.heap[g]? = some (.cells cur.toList.toArray 94 (0, 0)) := by rw [Array.toArray_toList]; exact hh
    have hcur : cur.toList.length = c * 6 := by rw [Array.length_toList]; exact hcs
    by_cases hroom : n + 1 ≤ c
    · exact ins_shiftAcc g c n i cur.toList cs seg vb base w0 w hh' hcur ht hcl hgb hv hne hseg h1s h1c (by omega) hroom hn hcm hB hbase
    · exact ins_growAcc g c n i cur.toList cs seg vb base w0 w hh' hcur ht hcl hv hseg h1s h1c (by omega) hnc (by omega) hn hB hbase
end Go.Proofs.Ytfnpiclioikjpaa.X

/- slices.Delete of one element of type Acc out of a row of the call's own, told cell by cell. -/
set_option linter.unusedSimpArgs false
set_option linter.unusedVariables false
namespace Go.Proofs.Ytfnpiclioikjpaa.X
open Go.RowKit Go.Proofs.YtfnpiclioikjpaaW.PrintWords

set_option maxRecDepth 100000 in
set_option maxHeartbeats 4000000 in
theorem deleteAcc (v : Value) (n i : Nat) (cs : List Value) (base : Nat) (w0 w : World) (ho : w.ownsRow base 94 6 v n cs)
    (h1c : ∀ u ∈ cs, u.oneCell' = true) (hi : i < n) (hn : n ≤ 1000000000) (hB : Below base w0 w) :
    Calls Try.prog 84 #[v, .int .i64 (i : Int), .int .i64 ((i : Int) + 1)] w (InsPostAcc base w0 (n - 1) (delCells cs (i * 6) 6)) := by
  obtain ⟨i0, hi0, hz0, hzs, hzb⟩ := info_parts infoInsAcc
  have hcl := ho.1
  obtain ⟨A, c, rfl⟩ := own_slice ho
  rcases ho.2 with ⟨_, h0⟩ | ⟨g, cap, cur, he, hgb, hh, hnc, hcm, hcs, hpre⟩
  · omega
  injection he with h1 _ h2
  subst h1; subst h2
  have hg : w.heap[g]? = some (.cells cur.toList.toArray 94 (0, 0)) := by rw [Array.toArray_toList]; exact hh
  have hcur : cur.toList.length = c * 6 := by rw [Array.length_toList]; exact hcs
  generalize cur.toList = cur at *
  have hc63 : c ≤ 9223372036854775807 := by simp only [maxLen] at hcm; omega
  obtain ⟨zs, hzd⟩ : ∃ zs : List Value, Hid (zs = (Builtin.zeroCells ((.agg #[(.string ⟨#[]⟩), (.int .i64 0), (.int .i64 0), (.int .i64 0), (.int .i64 0), (.int .i64 0)]) : Value).cells 1).toList) := ⟨_, Lib.hid rfl⟩
  have hzl : zs.length = 6 := by
    rw [hzd.out, Array.length_toList, size_zeroCells, show ((.agg #[(.string ⟨#[]⟩), (.int .i64 0), (.int .i64 0), (.int .i64 0), (.int .i64 0), (.int .i64 0)]) : Value).cells.size = 6 from rfl]
  have hz1 : ∀ u ∈ zs, u.oneCell' = true := by
    rw [hzd.out]
    decide +kernel
  obtain ⟨c1, hc1⟩ : ∃ c1, Hid (c1 = cur.take (i * 6) ++ (cs.drop (i * 6 + 6) ++ cur.drop (i * 6 + (cs.drop (i * 6 + 6)).length))) := ⟨_, Lib.hid rfl⟩
  obtain ⟨c2, hc2⟩ : ∃ c2, Hid (c2 = c1.take (cs.length - 6) ++ (zs ++ c1.drop (cs.length - 6 + zs.length))) := ⟨_, Lib.hid rfl⟩
  have hmv := Lib.hid (move_up cur cs zs (i * 6) 6 hzl (by omega) (by omega) (by rw [hcl]; exact hpre) c1 c2 hc1.out hc2.out)
  have hdl : (cs.drop (i * 6 + 6)).length = (n - (i + 1)) * 6 := by rw [List.length_drop, hcl]; omega
  have hl1 : c1.length = cur.length := by rw [hc1.out]; exact over_length _ _ _ (by omega)
  have hap : ∀ (A1 : Addr), (0 < n - (i + 1) → A1 = ⟨g, (i + 1) * 6, none⟩) → ∀ ty mc, (Builtin.append_ #[59, 59] ty #[.slice (some ⟨g, 0, none⟩) i c, .slice (some A1) (n - (i + 1)) mc]).run Try.prog w.drew = .ok (.slice (some ⟨g, 0, none⟩) (n - 1) c) (w.drew.setRow g c1.toArray) := by
    intro A1 hA1 ty mc
    have h := run_append_gen (P := Try.prog) w.drew 59 ty 94 g i c A1 (n - (i + 1)) mc cur 94 (cs.drop (i * 6 + 6)) 6 Try.underlying59 sizeInsAcc hg (by omega) hdl
      (fun j v hj => by
        have hjl : j < (cs.drop (i * 6 + 6)).length := (List.getElem?_eq_some_iff.1 hj).1
        rw [hA1 (by omega)]
        have hadd : (⟨g, (i + 1) * 6, none⟩ : Addr).add j = ⟨g, (i + 1) * 6 + j, none⟩ := Addr.add_lit _ _ _
        rw [hadd, cell_of_row w.drew g ((i + 1) * 6 + j) cur.toArray 94 (0, 0) hg, show (i + 1) * 6 + j = i * 6 + 6 + j by omega]
        rw [List.getElem?_drop] at hj
        rw [← hpre, List.getElem?_take] at hj
        split at hj
        · simpa using hj
        · cases hj) (by omega) (fun v hv => h1c v (List.mem_of_mem_drop hv))
    rw [h, show i + (n - (i + 1)) = n - 1 by omega, ← hc1.out]
  obtain ⟨W1, hW1⟩ : ∃ W1, Hid (W1 = w.drew.setRow g c1.toArray) := ⟨_, Lib.hid rfl⟩
  rw [← hW1.out] at hap
  have hg1 : W1.heap[g]? = some (.cells c1.toArray 94 (0, 0)) := by rw [hW1.out]; exact setRow_heap w.drew g _ _ 94 _ hg
  have hcl1 : ∀ ty mc, (Builtin.clear_ #[59] ty #[.slice (some ⟨g, (n - 1) * 6, none⟩) (n - (n - 1)) mc]).run Try.prog W1 = .ok (.tuple #[]) (W1.setRow g c2.toArray) := by
    intro ty mc
    rw [show n - (n - 1) = 1 by omega]
    have h := run_clear_gen (P := Try.prog) W1 59 ty 94 i0 (.agg #[(.string ⟨#[]⟩), (.int .i64 0), (.int .i64 0), (.int .i64 0), (.int .i64 0), (.int .i64 0)]) g ((n - 1) * 6) 1 mc c1 94 Try.underlying59 hi0 hz0 hg1 (by omega) (by rw [show ((.agg #[(.string ⟨#[]⟩), (.int .i64 0), (.int .i64 0), (.int .i64 0), (.int .i64 0), (.int .i64 0)]) : Value).cells.size = 6 from rfl]; omega) (by rw [← hzd.out]; exact hz1)
    rw [h, ← hzd.out, hc2.out, show cs.length - 6 = (n - 1) * 6 by omega]
  have hfin : InsPostAcc base w0 (n - 1) (delCells cs (i * 6) 6) (.returned (.slice (some ⟨g, 0, none⟩) (n - 1) c)) (W1.setRow g c2.toArray) := by
    refine ⟨_, rfl, ⟨?_, .inr ⟨g, c, c2.toArray, rfl, hgb, setRow_heap W1 g _ _ 94 _ hg1, by omega, hcm, ?_, ?_⟩⟩, ?_⟩
    · rw [del_length (by omega), hcl]; omega
    · rw [List.size_toArray, hmv.out.1, hcur]
    · show c2.take ((n - 1) * 6) = _
      rw [← hmv.out.2, hcl]
      congr 1
      omega
    · rw [hW1.out]
      exact below_setRow (below_setRow (below_drew hB) hgb _) hgb _
  have HF := Lib.hid hfin
  have HAP := Lib.hid hap
  have HCL := Lib.hid hcl1
  have hw1 : IntKind.i64.wrap ((i : Int) + 1) = (i : Int) + 1 := by rw [IntKind.wrap_i64]; omega
  have hb1 : (0 : Int) ≤ (i : Int) + 1 := by omega
  have htn : ((i : Int) + 1).toNat = i + 1 := by omega
  have hin : i ≤ n := by omega
  have hz2 : ((i : Int) == (i : Int) + 1) = false := by simp; omega
  have hb2 : (i : Int) + 1 ≤ (n : Int) := by omega
  have hbi : (i : Int) ≤ (c : Int) := by omega
  have hbx : (i : Int) ≤ (i : Int) + 1 := by omega
  have hbn : (i : Int) ≤ (n : Int) := by omega
  have hb0 : (0 : Int) ≤ (i : Int) := by omega
  have hic : i ≤ c := by omega
  have hb4 : ¬ (c = i) := by omega
  have hb5 : ¬ (c = n - 1) := by omega
  have hb6 : n - 1 ≤ n := by omega
  clear hfin hap hcl1 hg1 hg hcur hpre hB hl1 hdl hcl h1c hz1 hzl hmv ho hcs hh
  by_cases hci : c = i + 1
  · obtain rfl : n = i + 1 := by omega
    subst hci
    go_enter Try.func84, Try.ntmps84
    go_wp2_with fail
    go_region_law (refine step_append_run rfl (.tmp 22) (.tmp 25) 59 59 rfl (.slice (some ⟨g, 0, none⟩) i (i + 1)) (.slice (some ⟨g, 0, none⟩) (i + 1 - (i + 1)) 0) (by simp [Act.eval, Act.put]) (by simp [Act.eval, Act.put]) (HAP.out _ (fun h => by omega) _ _) ?_)
    have HCA : Hid (∀ ty, (Builtin.clear_ #[59] ty #[.slice (some ⟨g, i * 6, none⟩) 1 1]).run Try.prog W1 = .ok (.tuple #[]) (W1.setRow g c2.toArray)) := Lib.hid (fun ty => by
      have h := HCL.out ty 1
      rw [show i + 1 - (i + 1 - 1) = 1 by omega, show i + 1 - 1 = i by omega] at h
      exact h)
    go_wp2_with (with_reducible refine wpList_clear_run _ rfl (.tmp 31) 59 rfl (.slice (some ⟨g, i * 6, none⟩) 1 1) rfl (HCA.out _) ?_)
    go_ret
    exact HF.out
  · go_enter Try.func84, Try.ntmps84
    go_wp2_with fail
    go_region_law (refine step_append_run rfl (.tmp 22) (.tmp 25) 59 59 rfl (.slice (some ⟨g, 0, none⟩) i c) (.slice (some ⟨g, (i + 1) * 6, none⟩) (n - (i + 1)) (c - (i + 1))) (by simp [Act.eval, Act.put]) (by simp [Act.eval, Act.put]) (HAP.out _ (fun _ => rfl) _ _) ?_)
    go_wp2_with (with_reducible refine wpList_clear_run _ rfl (.tmp 31) 59 rfl (.slice (some ⟨g, (n - 1) * 6, none⟩) (n - (n - 1)) (c - (n - 1))) rfl (HCL.out _ _) ?_)
    go_ret
    exact HF.out
end Go.Proofs.Ytfnpiclioikjpaa.X

/- slices.Clone of Accs. -/
set_option linter.unusedSimpArgs false
set_option linter.unusedVariables false
namespace Go.Proofs.Ytfnpiclioikjpaa.X
open Go.RowKit Go.Proofs.YtfnpiclioikjpaaW.PrintWords Go.Proofs.YtfnpiclioikjpaaW.PrintLast Go.Proofs.YtfnpiclioikjpaaW.PrintMore

def api_Account_83.f (l0 : List (S94)) : Option (List S94) := if l0.length ≤ 1000000000 then some l0 else none
set_option maxHeartbeats 4000000 in
set_option maxRecDepth 100000 in
theorem api_Account_83.calls (A0 : Option Addr) (c0 : Nat) (l0 : List (S94)) (r : List (S94)) (w : World) (hr0 : Kd.C k94 w A0 l0.length l0) (hc0 : l0.length ≤ c0) (h : api_Account_83.f l0 = some r) :
    Calls Try.prog 83 #[.slice A0 l0.length c0] w fun e w' => ∃ v0_ : Value, e = .returned v0_ ∧ Kd.R k94 94 w' w.heap.size (fun _ => True) v0_ r ∧ Below w.heap.size w w' := by
  have q22 : ∀ (w : World) (a : Option Addr) (n c n' c' : Nat), (binOp .eql 59 (.slice a n c) (.slice none n' c')).run Try.prog w = .ok (.bool a.isNone) w := fun w a n c n' c' => Lib.run_eql_slice_nil w _ _ a n c n' c' Try.underlying59
  unfold api_Account_83.f at h
  split at h
  · rename_i hn
    simp only [Option.some.injEq] at h
    subst h
    rcases A0 with _ | ad
    · have h0 : l0 = [] := by
        rcases l0 with _ | ⟨a, l0⟩
        · rfl
        · obtain ⟨_, h, _⟩ := hr0.2.2 (by simp)
          cases h
      subst h0
      clear hr0
      go_enter Try.func83, Try.ntmps83
      go_wp2_with fail
      go_ret
      exact ⟨_, rfl, Kd.R_nil _ _ _ _ _, Below.refl _ _⟩
    · have HR := Aside0.mk hr0
      clear hr0
      obtain ⟨n, hnl⟩ : ∃ n, n = l0.length := ⟨_, rfl⟩
      go_enter Try.func83, Try.ntmps83
      go_wp2_with (first | ((with_reducible refine gate_dst (N := 5) rfl ?_); (try (refine gate_guard (by rfl) ?_; dsimp only)); refine Kd.R_lit k94 _ 94 ?hg (N := 5) ?hd (xs := ([] : List (S94))) (inner := []) (ok := fun _ => True) (okp := fun _ => True) ?hr ?hp (fun _ hk => hk) trivial (Below.refl _ _) (Nat.le_refl _) (by simp) ?_; (case hd => rfl); (case hg => rfl); (case hr => first | (go_simp; done) | (go_simp; rfl)); (case hp => exact (Reps.none _ _)); intro v361 w10 ho11 hb hg_ hnew_; clear hg_ hnew_; have HO := Aside0.mk (Kd.R_lower ho11 (below_size (Below.refl _ _))); have HB := Aside0.mk hb; clear hb ho11) | ((with_reducible refine gate_builtin (b := .append) (xs := #[.tmp 5, .tmp 6]) rfl ?_); (try (refine gate_guard (by rfl) ?_; dsimp only)); at_builtin; refine Kd.R_append_rows k94 (w0 := w) w.heap.size rfl (.tmp 5) (.tmp 6) 59 94 (.agg #[(.string ⟨#[]⟩), (.int .i64 0), (.int .i64 0), (.int .i64 0), (.int .i64 0), (.int .i64 0)]) 56 rfl Try.underlying59 info94 rfl (by decide) (by omega) v361 [] l0 _ _ _ (fun k_ => True) (fun _ => False) rfl rfl ?aO ?aR (fun _ _ h => h) (fun _ h => h.elim) ?aF ?aB ?aS ?aL ?_; (case aR => exact (Kd.C_below HR.out HB.out)); (case aB => exact HB.out); (case aF => exact (fun _ _ => trivial)); (case aO => exact HO.out); (case aS => exact below_size HB.out); (case aL => simp only [List.length_nil]; omega); intro v370 w16 ho hb hg hat; have HO2 := Aside0.mk ho; have HB2 := Aside0.mk hb; clear ho hb hg hat))
      go_ret
      exact ⟨_, rfl, HO2.out, HB2.out⟩
  · cases h
end Go.Proofs.Ytfnpiclioikjpaa.X

/- escrow.put, walked. -/
set_option linter.unusedSimpArgs false
set_option linter.unusedVariables false
namespace Go.Proofs.Ytfnpiclioikjpaa.X
open Go.RowKit Go.Proofs.YtfnpiclioikjpaaW.PrintWords Go.Proofs.YtfnpiclioikjpaaW.PrintLast Go.Proofs.YtfnpiclioikjpaaW.PrintMore
attribute [local go_sem high] eqA92
def EscPost (w : World) (r : List Ac × Int) (e : Ending) (w' : World) : Prop := ∃ v0_ : Value, e = .returned (.tuple #[v0_, .int .i64 r.2]) ∧ Kd.R k94 94 w' w.heap.size (fun _ => True) v0_ r.1 ∧ Below w.heap.size w w'
set_option maxHeartbeats 8000000 in
set_option maxRecDepth 100000 in
theorem put_call (A0 : Option Addr) (c0 : Nat) (l0 : List Ac) (key : ByteArray) (h0 h1 h2 h3 h4 : Int) (w : World) (hr0 : Kd.C k94 w A0 l0.length l0) (hc0 : l0.length ≤ c0) (hchk : chkA l0 = true) :
    Calls Try.prog 68 #[.slice A0 l0.length c0, .agg #[.string key, .int .i64 h0, .int .i64 h1, .int .i64 h2, .int .i64 h3, .int .i64 h4]] w (EscPost w (if chkA (setA l0 key ⟨h0, h1, h2, h3, h4⟩) = true then (setA l0 key ⟨h0, h1, h2, h3, h4⟩, 0) else ([], 6))) := by
  have HR := Aside0.mk hr0
  obtain ⟨hl4, _, hord⟩ := (chkA_iff l0).1 hchk
  have HO := Aside0.mk hord
  have hset := layA_at hord ⟨key, ⟨h0, h1, h2, h3, h4⟩⟩ (!isZ ⟨h0, h1, h2, h3, h4⟩)
  obtain ⟨r, hr⟩ : ∃ r, r = setA l0 key ⟨h0, h1, h2, h3, h4⟩ := ⟨_, rfl⟩
  have hrs : r = layA ⟨key, ⟨h0, h1, h2, h3, h4⟩⟩ (!isZ ⟨h0, h1, h2, h3, h4⟩) l0 := hr
  rw [hset] at hrs
  rw [← hr]
  have hposl : posK (ksAcc l0) key ≤ l0.length := by have := posK_le (ksAcc l0) key; rwa [ks_lenAcc] at this
  have hhas : hasAcc l0 key = true → posK (ksAcc l0) key < l0.length := fun hh => (has_yesAcc hh).1
  have HRR := Aside0.mk hrs
  obtain ⟨ck', hck'⟩ : ∃ ck' : Int, ck' = if chkA r = true then 0 else 1 := ⟨_, rfl⟩
  have HCK' := Aside0.mk hck'
  obtain ⟨rr, hrr⟩ : ∃ rr, rr = (if chkA r = true then (r, (0 : Int)) else ([], 6)) := ⟨_, rfl⟩
  rw [← hrr]
  have HQ := Aside0.mk hrr
  clear hr0 hr hrs hset hord hck' hrr
  go_enter Try.func68, Try.ntmps68
  go_wp2_with (first | ((with_reducible refine gate_dst (N := 3) rfl ?_); refine box_event ?hg (N := 3) ?hd (cs := #[.string key, .int .i64 h0, .int .i64 h1, .int .i64 h2, .int .i64 h3, .int .i64 h4]) (t := 94) ?hr ?_; (case hd => rfl); (case hg => rfl); (case hr => first | (go_simp; done) | (go_simp; rfl)); intro g hg w1 hbox hb; have HB1 := Aside0.mk hb; have BK1 := Aside0.mk hbox; have HG := Aside0.mk hg; clear hb hbox hg) | fail)
  refine (api_Account_83.calls A0 c0 l0 l0 _ (Kd.C_below HR.out HB1.out) hc0 (by unfold api_Account_83.f; rw [if_pos (by omega)])).mono ?_
  rintro e w3 ⟨v0, rfl, hR3, hb3⟩
  have HB3 := Aside0.mk hb3
  have HV3 := Aside0.mk hR3
  have BK3 := Aside0.mk (blk_below BK1.out hb3)
  obtain ⟨A1, c1, rfl, hc1, _⟩ := Kd.R_reads HV3.out
  clear hR3 hb3
  have hcq : w3.cell? ⟨g, 0, none⟩ = some (.string key) := (blk_cell BK3.out 0).trans rfl
  go_wp2_with fail
  refine (findA_call A1 c1 l0 key _ (Kd.R_reads' HV3.out).2.2 hc1 (by omega) HO.out).mono ?_
  rintro e w4 hfp
  obtain ⟨rfl, hb4⟩ := hfp
  have HB4 := Aside0.mk (below_step HB3.out hb4)
  have HV4 := Aside0.mk (Kd.R_below HV3.out hb4)
  clear HB3 HV3 hb4 hcq BK3
  generalize getA l0 key = ga at *
  obtain ⟨ga0, ga1, ga2, ga3, ga4⟩ := ga
  generalize hpp : posK (ksAcc l0) key = p at *
  generalize hss : hasAcc l0 key = hs at *
  have HP := Aside0.mk hpp
  have HS := Aside0.mk hss
  clear hpp hss
  dsimp only
  obtain ⟨G4, hG4⟩ : ∃ G4, G4 = w4.alloc (.cells #[.string key, .int .i64 ga0, .int .i64 ga1, .int .i64 ga2, .int .i64 ga3, .int .i64 ga4] 94) := ⟨_, rfl⟩
  have HBG : Aside0 (Below w1.heap.size w1 G4) := ⟨by rw [hG4]; exact below_alloc HB4.out _⟩
  have HVG : Aside0 (Kd.R k94 94 G4 w1.heap.size (fun _ => True) (.slice A1 l0.length c1) l0) := ⟨by rw [hG4]; exact Kd.R_alloc HV4.out _⟩
  have BKG : Aside0 (G4.heap[g]? = some (.cells #[.string key, .int .i64 h0, .int .i64 h1, .int .i64 h2, .int .i64 h3, .int .i64 h4] 94 (0, 0))) := ⟨blk_below BK1.out HBG.out⟩
  have HG4 := Aside0.mk hG4
  clear hG4
  cases hs with
  | false =>
    cases hz : isZ ⟨h0, h1, h2, h3, h4⟩ with
    | true =>
      have hz' : (h0 == 0 && (h1 == 0 && (h2 == 0 && (h3 == 0 && h4 == 0)))) = true := hz
      have hz2 : (!(h0 == 0) || (!(h1 == 0) || (!(h2 == 0) || (!(h3 == 0) || !(h4 == 0))))) = false := by have := congrArg not hz'; simpa [Bool.not_and] using this
      have hca0 : (w4.alloc (.cells #[.string key, .int .i64 ga0, .int .i64 ga1, .int .i64 ga2, .int .i64 ga3, .int .i64 ga4] 94)).cell? ⟨g, 0, none⟩ = some (.string key) := (blk_cell (HG4.out ▸ BKG.out) 0).trans rfl
      have hca1 : (w4.alloc (.cells #[.string key, .int .i64 ga0, .int .i64 ga1, .int .i64 ga2, .int .i64 ga3, .int .i64 ga4] 94)).cell? ⟨g, 1, none⟩ = some (.int .i64 h0) := (blk_cell (HG4.out ▸ BKG.out) 1).trans rfl
      have hca2 : (w4.alloc (.cells #[.string key, .int .i64 ga0, .int .i64 ga1, .int .i64 ga2, .int .i64 ga3, .int .i64 ga4] 94)).cell? ⟨g, 2, none⟩ = some (.int .i64 h1) := (blk_cell (HG4.out ▸ BKG.out) 2).trans rfl
      have hca3 : (w4.alloc (.cells #[.string key, .int .i64 ga0, .int .i64 ga1, .int .i64 ga2, .int .i64 ga3, .int .i64 ga4] 94)).cell? ⟨g, 3, none⟩ = some (.int .i64 h2) := (blk_cell (HG4.out ▸ BKG.out) 3).trans rfl
      have hca4 : (w4.alloc (.cells #[.string key, .int .i64 ga0, .int .i64 ga1, .int .i64 ga2, .int .i64 ga3, .int .i64 ga4] 94)).cell? ⟨g, 4, none⟩ = some (.int .i64 h3) := (blk_cell (HG4.out ▸ BKG.out) 4).trans rfl
      have hca5 : (w4.alloc (.cells #[.string key, .int .i64 ga0, .int .i64 ga1, .int .i64 ga2, .int .i64 ga3, .int .i64 ga4] 94)).cell? ⟨g, 5, none⟩ = some (.int .i64 h4) := (blk_cell (HG4.out ▸ BKG.out) 5).trans rfl
      go_wp2_with fail
      rw [← HG4.out]
      have hr : r = l0 := by rw [HRR.out, hz, Bool.not_true, if_neg (by decide), if_neg (by decide), List.nil_append, Nat.add_zero, List.take_append_drop]
      have HV5 : Aside0 (Kd.R k94 94 G4 w1.heap.size (fun _ => True) (.slice A1 r.length c1) r) := ⟨by rw [hr]; exact HVG.out⟩
      have hc5 : r.length ≤ c1 := by rw [hr]; exact hc1
      have HB5 := HBG
      have hlr : l0.length = r.length := by rw [hr]
      rw [hlr]
      clear hr hlr
      refine (chkA_call A1 c1 r _ (Kd.R_reads' HV5.out).2.2 hc5 ck' HCK'.out).mono ?_
      rintro e w6 ⟨rfl, hb6⟩
      have HB6 := Aside0.mk (below_step HB5.out hb6)
      have HV6 := Aside0.mk (Kd.R_below HV5.out hb6)
      clear hb6
      cases hck : chkA r with
      | true =>
        have hq : rr = (r, 0) := by rw [HQ.out, hck, if_pos rfl]
        have hk0 : ck' = 0 := by rw [HCK'.out, hck, if_pos rfl]
        rw [hk0]
        go_wp2_with fail
        go_ret2
        rw [hq]
        exact ⟨_, rfl, Kd.R_lower HV6.out (below_size HB1.out), below_step HB1.out HB6.out⟩
      | false =>
        have hq : rr = ([], 6) := by rw [HQ.out, hck, if_neg (by decide)]
        have hk0 : ck' = 1 := by rw [HCK'.out, hck, if_neg (by decide)]
        rw [hk0]
        go_wp2_with fail
        go_ret2
        rw [hq]
        exact ⟨_, rfl, Kd.R_nil _ _ _ _ _, below_step HB1.out HB6.out⟩
    | false =>
      have hz' : (h0 == 0 && (h1 == 0 && (h2 == 0 && (h3 == 0 && h4 == 0)))) = false := hz
      have hz2 : (!(h0 == 0) || (!(h1 == 0) || (!(h2 == 0) || (!(h3 == 0) || !(h4 == 0))))) = true := by have := congrArg not hz'; simpa [Bool.not_and] using this
      have hca0 : (w4.alloc (.cells #[.string key, .int .i64 ga0, .int .i64 ga1, .int .i64 ga2, .int .i64 ga3, .int .i64 ga4] 94)).cell? ⟨g, 0, none⟩ = some (.string key) := (blk_cell (HG4.out ▸ BKG.out) 0).trans rfl
      have hca1 : (w4.alloc (.cells #[.string key, .int .i64 ga0, .int .i64 ga1, .int .i64 ga2, .int .i64 ga3, .int .i64 ga4] 94)).cell? ⟨g, 1, none⟩ = some (.int .i64 h0) := (blk_cell (HG4.out ▸ BKG.out) 1).trans rfl
      have hca2 : (w4.alloc (.cells #[.string key, .int .i64 ga0, .int .i64 ga1, .int .i64 ga2, .int .i64 ga3, .int .i64 ga4] 94)).cell? ⟨g, 2, none⟩ = some (.int .i64 h1) := (blk_cell (HG4.out ▸ BKG.out) 2).trans rfl
      have hca3 : (w4.alloc (.cells #[.string key, .int .i64 ga0, .int .i64 ga1, .int .i64 ga2, .int .i64 ga3, .int .i64 ga4] 94)).cell? ⟨g, 3, none⟩ = some (.int .i64 h2) := (blk_cell (HG4.out ▸ BKG.out) 3).trans rfl
      have hca4 : (w4.alloc (.cells #[.string key, .int .i64 ga0, .int .i64 ga1, .int .i64 ga2, .int .i64 ga3, .int .i64 ga4] 94)).cell? ⟨g, 4, none⟩ = some (.int .i64 h3) := (blk_cell (HG4.out ▸ BKG.out) 4).trans rfl
      have hca5 : (w4.alloc (.cells #[.string key, .int .i64 ga0, .int .i64 ga1, .int .i64 ga2, .int .i64 ga3, .int .i64 ga4] 94)).cell? ⟨g, 5, none⟩ = some (.int .i64 h4) := (blk_cell (HG4.out ▸ BKG.out) 5).trans rfl
      go_wp2_with fail
      rw [← HG4.out]
      have hlt := Kd.R_lt HVG.out
      have hvb : w4.heap.size + 1 = G4.heap.size := by rw [HG4.out, World.size_alloc]
      refine (insertAcc (.slice A1 l0.length c1) l0.length p (cellsAcc l0) (cellAcc ⟨key, ⟨h0, h1, h2, h3, h4⟩⟩) (w4.heap.size + 1) w1.heap.size w1 _ (ownRAcc (Kd.R_alloc HVG.out _)) ?_ ?_ rfl (by intro u hu; simp only [cellAcc, List.mem_cons, List.not_mem_nil, or_false] at hu; rcases hu with rfl | rfl | rfl | rfl | rfl | rfl <;> rfl) (cellsAcc_one l0) (by omega) (by omega) (below_alloc HBG.out _) ?_).mono ?_
      · rw [hvb]; exact heap_alloc_new G4 (.cells #[.string key, .int .i64 h0, .int .i64 h1, .int .i64 h2, .int .i64 h3, .int .i64 h4] 94)
      · intro he
        have := hlt _ he.symm
        omega
      · have := below_size HBG.out
        rw [World.size_alloc]
        omega
      rintro e w8 ⟨v8, rfl, ho8, hb8⟩
      have HB5 := Aside0.mk hb8
      have hr : r = l0.take p ++ ⟨key, ⟨h0, h1, h2, h3, h4⟩⟩ :: l0.drop p := by rw [HRR.out, hz, Bool.not_false, if_pos rfl, if_neg (by decide), Nat.add_zero]; rfl
      have HV5 : Aside0 (Kd.R k94 94 w8 w1.heap.size (fun _ => True) v8 r) := ⟨RownAcc (by rw [hr]; simp only [List.length_append, List.length_cons, List.length_take, List.length_drop]; omega) (by rw [hr]; exact ins_cellsAcc l0 _ p) ho8⟩
      clear hb8 ho8 hlt hr
      obtain ⟨A5, c5, rfl, hc5, _⟩ := Kd.R_reads HV5.out
      go_wp2_with fail
      refine (chkA_call A5 c5 r _ (Kd.R_reads' HV5.out).2.2 hc5 ck' HCK'.out).mono ?_
      rintro e w6 ⟨rfl, hb6⟩
      have HB6 := Aside0.mk (below_step HB5.out hb6)
      have HV6 := Aside0.mk (Kd.R_below HV5.out hb6)
      clear hb6
      cases hck : chkA r with
      | true =>
        have hq : rr = (r, 0) := by rw [HQ.out, hck, if_pos rfl]
        have hk0 : ck' = 0 := by rw [HCK'.out, hck, if_pos rfl]
        rw [hk0]
        go_wp2_with fail
        go_ret2
        rw [hq]
        exact ⟨_, rfl, Kd.R_lower HV6.out (below_size HB1.out), below_step HB1.out HB6.out⟩
      | false =>
        have hq : rr = ([], 6) := by rw [HQ.out, hck, if_neg (by decide)]
        have hk0 : ck' = 1 := by rw [HCK'.out, hck, if_neg (by decide)]
        rw [hk0]
        go_wp2_with fail
        go_ret2
        rw [hq]
        exact ⟨_, rfl, Kd.R_nil _ _ _ _ _, below_step HB1.out HB6.out⟩
  | true =>
    have hpl := hhas rfl
    have hw2 : IntKind.i64.wrap ((p : Int) + 1) = (p : Int) + 1 := by rw [IntKind.wrap_i64]; omega
    go_wp2_with fail
    rw [← HG4.out]
    refine (deleteAcc (.slice A1 l0.length c1) l0.length p (cellsAcc l0) w1.heap.size w1 G4 (ownRAcc HVG.out) (cellsAcc_one l0) hpl (by omega) HBG.out).mono ?_
    rintro e w5 ⟨v5, rfl, ho5, hb5⟩
    obtain ⟨d, hd⟩ : ∃ d, d = l0.take p ++ l0.drop (p + 1) := ⟨_, rfl⟩
    have hdl : d.length + 1 = l0.length := by rw [hd]; simp only [List.length_append, List.length_take, List.length_drop]; omega
    have HBD := Aside0.mk hb5
    have HVD : Aside0 (Kd.R k94 94 w5 w1.heap.size (fun _ => True) v5 d) := ⟨RownAcc (by omega) (by rw [hd]; exact del_cellsAcc l0 p) ho5⟩
    have BKD : Aside0 (w5.heap[g]? = some (.cells #[.string key, .int .i64 h0, .int .i64 h1, .int .i64 h2, .int .i64 h3, .int .i64 h4] 94 (0, 0))) := ⟨blk_below BK1.out HBD.out⟩
    obtain ⟨A2, c2, rfl, hc2, _⟩ := Kd.R_reads HVD.out
    have HD := Aside0.mk hd
    clear hb5 ho5 hd
    cases hz : isZ ⟨h0, h1, h2, h3, h4⟩ with
    | true =>
      have hz' : (h0 == 0 && (h1 == 0 && (h2 == 0 && (h3 == 0 && h4 == 0)))) = true := hz
      have hz2 : (!(h0 == 0) || (!(h1 == 0) || (!(h2 == 0) || (!(h3 == 0) || !(h4 == 0))))) = false := by have := congrArg not hz'; simpa [Bool.not_and] using this
      have hca0 : w5.cell? ⟨g, 0, none⟩ = some (.string key) := (blk_cell BKD.out 0).trans rfl
      have hca1 : w5.cell? ⟨g, 1, none⟩ = some (.int .i64 h0) := (blk_cell BKD.out 1).trans rfl
      have hca2 : w5.cell? ⟨g, 2, none⟩ = some (.int .i64 h1) := (blk_cell BKD.out 2).trans rfl
      have hca3 : w5.cell? ⟨g, 3, none⟩ = some (.int .i64 h2) := (blk_cell BKD.out 3).trans rfl
      have hca4 : w5.cell? ⟨g, 4, none⟩ = some (.int .i64 h3) := (blk_cell BKD.out 4).trans rfl
      have hca5 : w5.cell? ⟨g, 5, none⟩ = some (.int .i64 h4) := (blk_cell BKD.out 5).trans rfl
      go_wp2_with fail
      have hr : r = d := by rw [HRR.out, hz, Bool.not_true, if_neg (by decide), if_pos trivial, List.nil_append, HD.out]
      have HV5 : Aside0 (Kd.R k94 94 w5 w1.heap.size (fun _ => True) (.slice A2 r.length c2) r) := ⟨by rw [hr]; exact HVD.out⟩
      have hc5 : r.length ≤ c2 := by rw [hr]; exact hc2
      have HB5 := HBD
      have hlr : d.length = r.length := by rw [hr]
      rw [hlr]
      clear hr hlr
      refine (chkA_call A2 c2 r _ (Kd.R_reads' HV5.out).2.2 hc5 ck' HCK'.out).mono ?_
      rintro e w6 ⟨rfl, hb6⟩
      have HB6 := Aside0.mk (below_step HB5.out hb6)
      have HV6 := Aside0.mk (Kd.R_below HV5.out hb6)
      clear hb6
      cases hck : chkA r with
      | true =>
        have hq : rr = (r, 0) := by rw [HQ.out, hck, if_pos rfl]
        have hk0 : ck' = 0 := by rw [HCK'.out, hck, if_pos rfl]
        rw [hk0]
        go_wp2_with fail
        go_ret2
        rw [hq]
        exact ⟨_, rfl, Kd.R_lower HV6.out (below_size HB1.out), below_step HB1.out HB6.out⟩
      | false =>
        have hq : rr = ([], 6) := by rw [HQ.out, hck, if_neg (by decide)]
        have hk0 : ck' = 1 := by rw [HCK'.out, hck, if_neg (by decide)]
        rw [hk0]
        go_wp2_with fail
        go_ret2
        rw [hq]
        exact ⟨_, rfl, Kd.R_nil _ _ _ _ _, below_step HB1.out HB6.out⟩
    | false =>
      have hz' : (h0 == 0 && (h1 == 0 && (h2 == 0 && (h3 == 0 && h4 == 0)))) = false := hz
      have hz2 : (!(h0 == 0) || (!(h1 == 0) || (!(h2 == 0) || (!(h3 == 0) || !(h4 == 0))))) = true := by have := congrArg not hz'; simpa [Bool.not_and] using this
      have hca0 : w5.cell? ⟨g, 0, none⟩ = some (.string key) := (blk_cell BKD.out 0).trans rfl
      have hca1 : w5.cell? ⟨g, 1, none⟩ = some (.int .i64 h0) := (blk_cell BKD.out 1).trans rfl
      have hca2 : w5.cell? ⟨g, 2, none⟩ = some (.int .i64 h1) := (blk_cell BKD.out 2).trans rfl
      have hca3 : w5.cell? ⟨g, 3, none⟩ = some (.int .i64 h2) := (blk_cell BKD.out 3).trans rfl
      have hca4 : w5.cell? ⟨g, 4, none⟩ = some (.int .i64 h3) := (blk_cell BKD.out 4).trans rfl
      have hca5 : w5.cell? ⟨g, 5, none⟩ = some (.int .i64 h4) := (blk_cell BKD.out 5).trans rfl
      go_wp2_with fail
      have hlt := Kd.R_lt HVD.out
      have hvb : w5.heap.size = w5.heap.size := rfl
      refine (insertAcc (.slice A2 d.length c2) d.length p (cellsAcc d) (cellAcc ⟨key, ⟨h0, h1, h2, h3, h4⟩⟩) (w5.heap.size) w1.heap.size w1 _ (ownRAcc (Kd.R_alloc HVD.out _)) ?_ ?_ rfl (by intro u hu; simp only [cellAcc, List.mem_cons, List.not_mem_nil, or_false] at hu; rcases hu with rfl | rfl | rfl | rfl | rfl | rfl <;> rfl) (cellsAcc_one d) (by omega) (by omega) (below_alloc HBD.out _) ?_).mono ?_
      · rw [hvb]; exact heap_alloc_new w5 (.cells #[.string key, .int .i64 h0, .int .i64 h1, .int .i64 h2, .int .i64 h3, .int .i64 h4] 94)
      · intro he
        have := hlt _ he.symm
        omega
      · have := below_size HBD.out
        rw [World.size_alloc]
        omega
      rintro e w8 ⟨v8, rfl, ho8, hb8⟩
      have HB5 := Aside0.mk hb8
      have hr : r = d.take p ++ ⟨key, ⟨h0, h1, h2, h3, h4⟩⟩ :: d.drop p := by
        have hlp : (l0.take p).length = p := by rw [List.length_take]; omega
        rw [HRR.out, hz, Bool.not_false, if_pos rfl, if_pos trivial, HD.out, List.take_left' hlp, List.drop_left' hlp]
        rfl
      have HV5 : Aside0 (Kd.R k94 94 w8 w1.heap.size (fun _ => True) v8 r) := ⟨RownAcc (by rw [hr]; simp only [List.length_append, List.length_cons, List.length_take, List.length_drop]; omega) (by rw [hr]; exact ins_cellsAcc d _ p) ho8⟩
      clear hb8 ho8 hlt hr
      obtain ⟨A5, c5, rfl, hc5, _⟩ := Kd.R_reads HV5.out
      go_wp2_with fail
      refine (chkA_call A5 c5 r _ (Kd.R_reads' HV5.out).2.2 hc5 ck' HCK'.out).mono ?_
      rintro e w6 ⟨rfl, hb6⟩
      have HB6 := Aside0.mk (below_step HB5.out hb6)
      have HV6 := Aside0.mk (Kd.R_below HV5.out hb6)
      clear hb6
      cases hck : chkA r with
      | true =>
        have hq : rr = (r, 0) := by rw [HQ.out, hck, if_pos rfl]
        have hk0 : ck' = 0 := by rw [HCK'.out, hck, if_pos rfl]
        rw [hk0]
        go_wp2_with fail
        go_ret2
        rw [hq]
        exact ⟨_, rfl, Kd.R_lower HV6.out (below_size HB1.out), below_step HB1.out HB6.out⟩
      | false =>
        have hq : rr = ([], 6) := by rw [HQ.out, hck, if_neg (by decide)]
        have hk0 : ck' = 1 := by rw [HCK'.out, hck, if_neg (by decide)]
        rw [hk0]
        go_wp2_with fail
        go_ret2
        rw [hq]
        exact ⟨_, rfl, Kd.R_nil _ _ _ _ _, below_step HB1.out HB6.out⟩
end Go.Proofs.Ytfnpiclioikjpaa.X

/- Functions of the seat as Lean functions, and that the calls come to them: written by this session's own program xprint.py over the kit's printer. -/
namespace Go.Proofs.Ytfnpiclioikjpaa.X
open Go.RowKit Go.Proofs.YtfnpiclioikjpaaW.PrintWords Go.Proofs.YtfnpiclioikjpaaW.PrintLast Go.Proofs.YtfnpiclioikjpaaW.PrintMore
attribute [local go_sem] max2_int min2_int max_two min_two max_three min_three max_four min_four   -- for this text's walks alone
set_option linter.unusedVariables false
set_option linter.unusedSimpArgs false

/-! ### escrow_right: function 65 -/
def escrow_right.f (a0 : ByteArray) : Option (Bool) := if a0.toList = ([] : List UInt8) then (some false) else (some (decide ((a0.size : Int) ≤ 32)))
set_option maxHeartbeats 8000000 in
set_option maxRecDepth 100000 in
theorem escrow_right.calls (a0 : ByteArray) (r : Bool) (w : World) (h : escrow_right.f a0 = some r) :
    Calls Try.prog 65 #[.string a0] w fun e w' => e = .returned (.bool r) ∧ Drawn0 w w' := by
  have H : (if a0.toList = ([] : List UInt8) then (some false) else (some (decide ((a0.size : Int) ≤ 32)))) = some r := h
  clear h
  by_cases c2 : a0.toList = ([] : List UInt8)
  · rw [if_pos c2] at H
    have c2b0 : (a0.toList == ([] : List UInt8)) = true := beq_iff_eq.mpr c2
    have c2b1 : (a0.toList != ([] : List UInt8)) = false := bne_eq_false_iff_eq.mpr c2
    clear c2
    obtain rfl := Option.some.inj H
    go_enter Try.func65, Try.ntmps65
    go_wp2
    go_ret
    exact ⟨by first | rfl | (simp; done) | (simp [*]; done), by repeat (first | exact Drawn0.refl _ | apply Drawn0.step)⟩
  · rw [if_neg c2] at H
    have c2b0 : (a0.toList == ([] : List UInt8)) = false := beq_eq_false_iff_ne.mpr c2
    have c2b1 : (a0.toList != ([] : List UInt8)) = true := bne_iff_ne.mpr c2
    obtain rfl := Option.some.inj H
    go_enter Try.func65, Try.ntmps65
    go_wp2
    go_ret
    exact ⟨by first | rfl | (simp; done) | (simp [*]; done), by repeat (first | exact Drawn0.refl _ | apply Drawn0.step)⟩

end Go.Proofs.Ytfnpiclioikjpaa.X

/- Functions of the seat as Lean functions, and that the calls come to them: written by this session's own program xprint.py over the kit's printer. -/
namespace Go.Proofs.Ytfnpiclioikjpaa.X
open Go.RowKit Go.Proofs.YtfnpiclioikjpaaW.PrintWords Go.Proofs.YtfnpiclioikjpaaW.PrintLast Go.Proofs.YtfnpiclioikjpaaW.PrintMore
attribute [local go_sem] max2_int min2_int max_two min_two max_three min_three max_four min_four   -- for this text's walks alone
set_option linter.unusedVariables false
set_option linter.unusedSimpArgs false

/-! ### escrow_there: function 66 -/
def escrow_there.f (a0 : Int) : Option (Bool) := if a0 ≥ 1 then (some (decide (a0 ≤ 5))) else (some false)
set_option maxHeartbeats 8000000 in
set_option maxRecDepth 100000 in
theorem escrow_there.calls (a0 : Int) (r : Bool) (w : World) (h : escrow_there.f a0 = some r) :
    Calls Try.prog 66 #[.int .i64 a0] w fun e w' => e = .returned (.bool r) ∧ Drawn0 w w' := by
  have H : (if a0 ≥ 1 then (some (decide (a0 ≤ 5))) else (some false)) = some r := h
  clear h
  by_cases c2 : a0 ≥ 1
  · rw [if_pos c2] at H
    have c2b0 : decide (1 ≤ a0) = true := decide_eq_true c2
    clear c2
    obtain rfl := Option.some.inj H
    go_enter Try.func66, Try.ntmps66
    go_wp2
    go_ret
    exact ⟨by first | rfl | (simp; done) | (simp [*]; done), by repeat (first | exact Drawn0.refl _ | apply Drawn0.step)⟩
  · rw [if_neg c2] at H
    have c2b0 : decide (1 ≤ a0) = false := decide_eq_false c2
    clear c2
    obtain rfl := Option.some.inj H
    go_enter Try.func66, Try.ntmps66
    go_wp2
    go_ret
    exact ⟨by first | rfl | (simp; done) | (simp [*]; done), by repeat (first | exact Drawn0.refl _ | apply Drawn0.step)⟩

end Go.Proofs.Ytfnpiclioikjpaa.X

/- Functions of the seat as Lean functions, and that the calls come to them: written by this session's own program xprint.py over the kit's printer. -/
namespace Go.Proofs.Ytfnpiclioikjpaa.X
open Go.RowKit Go.Proofs.YtfnpiclioikjpaaW.PrintWords Go.Proofs.YtfnpiclioikjpaaW.PrintLast Go.Proofs.YtfnpiclioikjpaaW.PrintMore
attribute [local go_sem] max2_int min2_int max_two min_two max_three min_three max_four min_four   -- for this text's walks alone
set_option linter.unusedVariables false
set_option linter.unusedSimpArgs false

/-! ### escrow_low: function 70 -/
def escrow_low.f (a0 : Int) : Option (Bool) := if a0 ≤ 0 then (some (decide (a0 ≥ (-1000)))) else (some false)
set_option maxHeartbeats 8000000 in
set_option maxRecDepth 100000 in
theorem escrow_low.calls (a0 : Int) (r : Bool) (w : World) (h : escrow_low.f a0 = some r) :
    Calls Try.prog 70 #[.int .i64 a0] w fun e w' => e = .returned (.bool r) ∧ Drawn0 w w' := by
  have H : (if a0 ≤ 0 then (some (decide (a0 ≥ (-1000)))) else (some false)) = some r := h
  clear h
  by_cases c2 : a0 ≤ 0
  · rw [if_pos c2] at H
    have c2b0 : decide (a0 ≤ 0) = true := decide_eq_true c2
    clear c2
    obtain rfl := Option.some.inj H
    go_enter Try.func70, Try.ntmps70
    go_wp2
    go_ret
    exact ⟨by first | rfl | (simp; done) | (simp [*]; done), by repeat (first | exact Drawn0.refl _ | apply Drawn0.step)⟩
  · rw [if_neg c2] at H
    have c2b0 : decide (a0 ≤ 0) = false := decide_eq_false c2
    clear c2
    obtain rfl := Option.some.inj H
    go_enter Try.func70, Try.ntmps70
    go_wp2
    go_ret
    exact ⟨by first | rfl | (simp; done) | (simp [*]; done), by repeat (first | exact Drawn0.refl _ | apply Drawn0.step)⟩

end Go.Proofs.Ytfnpiclioikjpaa.X

/- Small guards of escrow; a row behind a box that was written. -/
set_option linter.unusedSimpArgs false
set_option linter.unusedVariables false
namespace Go.Proofs.Ytfnpiclioikjpaa.X
open Go.RowKit Go.Proofs.YtfnpiclioikjpaaW.PrintWords Go.Proofs.YtfnpiclioikjpaaW.PrintLast Go.Proofs.YtfnpiclioikjpaaW.PrintMore
def lowOk (f : Int) : Bool := decide (f ≤ 0) && decide (-1000 ≤ f)
theorem right_is (key : ByteArray) : escrow_right.f key = some (keyR key) := by
  unfold escrow_right.f keyR
  by_cases h : key.toList = ([] : List UInt8)
  · rw [if_pos h, h]; rfl
  · rw [if_neg h, beq_eq_false_iff_ne.2 h]; rfl
theorem there_is (rep : Int) : escrow_there.f rep = some (repOk rep) := by
  unfold escrow_there.f repOk
  by_cases h : rep ≥ 1
  · rw [if_pos h, decide_eq_true h]; rfl
  · rw [if_neg h, decide_eq_false h]; rfl
theorem low_is (f : Int) : escrow_low.f f = some (lowOk f) := by
  unfold escrow_low.f lowOk
  by_cases h : f ≤ 0
  · rw [if_pos h, decide_eq_true h]; rfl
  · rw [if_neg h, decide_eq_false h]; rfl
theorem right_is' {key : ByteArray} {b : Bool} (h : keyR key = b) : escrow_right.f key = some b := by rw [right_is, h]
theorem there_is' {rep : Int} {b : Bool} (h : repOk rep = b) : escrow_there.f rep = some b := by rw [there_is, h]
theorem low_is' {f : Int} {b : Bool} (h : lowOk f = b) : escrow_low.f f = some b := by rw [low_is, h]
theorem cellBelow (W : World) (o : Obj) (j : Nat) (v : Value) : Below W.heap.size W ((W.alloc o).setCell ⟨W.heap.size, j, none⟩ v) := below_set (below_alloc (Below.refl _ _) _) (Nat.le_refl _)
theorem esc_end {w w5 W w6 : World} {v6 : Value} {r : List Ac × Int} (hb5 : Below w.heap.size w w5) (hW : Below w5.heap.size w5 W) (hR : Kd.R k94 94 w6 W.heap.size (fun _ => True) v6 r.1) (hb6 : Below W.heap.size W w6) :
    EscPost w r (.returned (.tuple #[v6, .int .i64 r.2])) w6 :=
  ⟨v6, rfl, Kd.R_lower hR (below_size (below_step hb5 hW)), below_step (below_step hb5 hW) hb6⟩
end Go.Proofs.Ytfnpiclioikjpaa.X

/- escrow.Number, walked. -/
set_option linter.unusedSimpArgs false
set_option linter.unusedVariables false
namespace Go.Proofs.Ytfnpiclioikjpaa.X
open Go.RowKit Go.Proofs.YtfnpiclioikjpaaW.PrintWords Go.Proofs.YtfnpiclioikjpaaW.PrintLast Go.Proofs.YtfnpiclioikjpaaW.PrintMore
attribute [local go_sem high] idx5_0 idx5_1 idx5_2 idx5_3 idx5_4
def numH (h : Hv) : Int := h.f0 + h.f1 + h.f2 + h.f3 + h.f4
def escrow_Number.f (l0 : List Ac) (a1 : ByteArray) : Option Int := some (if chkA l0 = true then numH (getA l0 a1) else 0)
set_option maxHeartbeats 8000000 in
set_option maxRecDepth 100000 in
theorem number_call (A0 : Option Addr) (c0 : Nat) (l0 : List Ac) (key : ByteArray) (w : World) (hr0 : Kd.C k94 w A0 l0.length l0) (hc0 : l0.length ≤ c0) :
    Calls Try.prog 50 #[.slice A0 l0.length c0, .string key] w fun e w' => e = .returned (.int .i64 (if chkA l0 = true then numH (getA l0 key) else 0)) ∧ Below w.heap.size w w' := by
  have HR := Aside0.mk hr0
  cases hc : chkA l0 with
  | false =>
    clear hr0
    rw [if_neg (by decide)]
    go_enter Try.func50, Try.ntmps50
    go_wp2_with fail
    refine (chkA_call A0 c0 l0 _ HR.out hc0 1 (by rw [hc]; rfl)).mono ?_
    rintro e w1 ⟨rfl, hb1⟩
    have HB1 := Aside0.mk hb1
    clear hb1
    go_wp2_with fail
    go_ret
    exact ⟨rfl, HB1.out⟩
  | true =>
    rw [if_pos rfl]
    obtain ⟨hl4, _, hord⟩ := (chkA_iff l0).1 hc
    have HO := Aside0.mk hord
    have hbd := getA_bd hc key
    generalize hga : getA l0 key = ga at *
    obtain ⟨g0, g1, g2, g3, g4⟩ := ga
    have b0 := hbd 0 (by omega)
    have b1 := hbd 1 (by omega)
    have b2 := hbd 2 (by omega)
    have b3 := hbd 3 (by omega)
    have b4 := hbd 4 (by omega)
    simp only [hv] at b0 b1 b2 b3 b4
    obtain ⟨b0, b0'⟩ := b0
    obtain ⟨b1, b1'⟩ := b1
    obtain ⟨b2, b2'⟩ := b2
    obtain ⟨b3, b3'⟩ := b3
    obtain ⟨b4, b4'⟩ := b4
    have HGA := Aside0.mk hga
    clear hbd hord hr0 hga
    rw [show numH ⟨g0, g1, g2, g3, g4⟩ = g0 + g1 + g2 + g3 + g4 from rfl]
    go_enter Try.func50, Try.ntmps50
    go_wp2_with fail
    refine (chkA_call A0 c0 l0 _ HR.out hc0 0 (by rw [hc]; rfl)).mono ?_
    rintro e w1 ⟨rfl, hb1⟩
    have HB1 := Aside0.mk hb1
    clear hb1
    go_wp2_with fail
    refine (findA_call A0 c0 l0 key _ (by repeat (first | exact Kd.C_below HR.out HB1.out | (with_reducible refine Kd.C_drewN ?_ _))) hc0 (by omega) HO.out).mono ?_
    rintro e w5 hfp
    obtain ⟨rfl, hb5⟩ := hfp
    rw [HGA.out]
    have HB5 : Aside0 (Below w.heap.size w w5) := ⟨below_step (by repeat (first | exact HB1.out | apply pw_below_drewN)) hb5⟩
    clear hb5
    go_wp2_with fail
    go_rounds 6
    go_ret
    exact ⟨rfl, by repeat (first | (with_reducible exact HB5.out) | apply below_alloc | apply pw_below_drewN)⟩
theorem escrow_Number.calls (A0 : Option Addr) (c0 : Nat) (l0 : List Ac) (a1 : ByteArray) (r1 : Int) (w : World) (hr0 : Kd.C k94 w A0 l0.length l0) (hc0 : l0.length ≤ c0) (h : escrow_Number.f l0 a1 = some r1) :
    Calls Try.prog 50 #[.slice A0 l0.length c0, .string a1] w fun e w' => e = .returned (.int .i64 r1) ∧ Below w.heap.size w w' := by
  unfold escrow_Number.f at h
  injection h with h
  subst h
  exact number_call A0 c0 l0 a1 w hr0 hc0
end Go.Proofs.Ytfnpiclioikjpaa.X

/- escrow.Rights, walked. -/
set_option linter.unusedSimpArgs false
set_option linter.unusedVariables false
namespace Go.Proofs.Ytfnpiclioikjpaa.X
open Go.RowKit Go.Proofs.YtfnpiclioikjpaaW.PrintWords Go.Proofs.YtfnpiclioikjpaaW.PrintLast Go.Proofs.YtfnpiclioikjpaaW.PrintMore
attribute [local go_sem high] idx5_0 idx5_1 idx5_2 idx5_3 idx5_4
def rgB (l : List Ac) (rep floor : Int) : Bool := chkA l && (repOk rep && lowOk floor)
def rgR (h : Hv) (rep floor : Int) : Int := if rep = 1 then hv h (rep - 1).toNat - floor else hv h (rep - 1).toNat
def escrow_Rights.f (l0 : List Ac) (a1 : ByteArray) (a2 : Int) (a3 : Int) : Option Int := some (if rgB l0 a2 a3 = true then rgR (getA l0 a1) a2 a3 else 0)
set_option maxHeartbeats 8000000 in
set_option maxRecDepth 100000 in
theorem rights_call (A0 : Option Addr) (c0 : Nat) (l0 : List Ac) (key : ByteArray) (rep floor : Int) (w : World) (hr0 : Kd.C k94 w A0 l0.length l0) (hc0 : l0.length ≤ c0) :
    Calls Try.prog 51 #[.slice A0 l0.length c0, .string key, .int .i64 rep, .int .i64 floor] w fun e w' => e = .returned (.int .i64 (if rgB l0 rep floor = true then rgR (getA l0 key) rep floor else 0)) ∧ Below w.heap.size w w' := by
  have HR := Aside0.mk hr0
  unfold rgB
  cases hc : chkA l0 with
  | false =>
    clear hr0
    rw [Bool.false_and, if_neg (by decide)]
    go_enter Try.func51, Try.ntmps51
    go_wp2_with fail
    refine (chkA_call A0 c0 l0 _ HR.out hc0 1 (by rw [hc]; rfl)).mono ?_
    rintro e w1 ⟨rfl, hb1⟩
    have HB1 := Aside0.mk hb1
    clear hb1
    go_wp2_with fail
    go_ret
    exact ⟨rfl, by repeat (first | exact HB1.out | apply pw_below_drewN)⟩
  | true =>
    rw [Bool.true_and]
    cases hr : repOk rep with
    | false =>
      clear hr0
      rw [Bool.false_and, if_neg (by decide)]
      go_enter Try.func51, Try.ntmps51
      go_wp2_with fail
      refine (chkA_call A0 c0 l0 _ HR.out hc0 0 (by rw [hc]; rfl)).mono ?_
      rintro e w1 ⟨rfl, hb1⟩
      have HB1 := Aside0.mk hb1
      clear hb1
      go_wp2_with fail
      refine (escrow_there.calls rep false _ (there_is' hr)).mono ?_
      rintro e w2 ⟨rfl, ⟨nd2, rfl⟩⟩
      go_wp2_with fail
      go_ret
      exact ⟨rfl, by repeat (first | exact HB1.out | apply pw_below_drewN)⟩
    | true =>
      rw [Bool.true_and]
      cases hf : lowOk floor with
      | false =>
        clear hr0
        rw [if_neg (by decide)]
        go_enter Try.func51, Try.ntmps51
        go_wp2_with fail
        refine (chkA_call A0 c0 l0 _ HR.out hc0 0 (by rw [hc]; rfl)).mono ?_
        rintro e w1 ⟨rfl, hb1⟩
        have HB1 := Aside0.mk hb1
        clear hb1
        go_wp2_with fail
        refine (escrow_there.calls rep true _ (there_is' hr)).mono ?_
        rintro e w2 ⟨rfl, ⟨nd2, rfl⟩⟩
        go_wp2_with fail
        refine (escrow_low.calls floor false _ (low_is' hf)).mono ?_
        rintro e w3 ⟨rfl, ⟨nd3, rfl⟩⟩
        go_wp2_with fail
        go_ret
        exact ⟨rfl, by repeat (first | exact HB1.out | apply pw_below_drewN)⟩
      | true =>
        rw [if_pos rfl]
        have hr' := hr
        unfold repOk at hr'
        simp only [Bool.and_eq_true, decide_eq_true_eq] at hr'
        have hf' := hf
        unfold lowOk at hf'
        simp only [Bool.and_eq_true, decide_eq_true_eq] at hf'
        obtain ⟨hf1, hf2⟩ := hf'
        obtain ⟨hl4, _, hord⟩ := (chkA_iff l0).1 hc
        have HO := Aside0.mk hord
        have hbd := getA_bd hc key
        generalize hga : getA l0 key = ga at *
        obtain ⟨g0, g1, g2, g3, g4⟩ := ga
        have b0 := hbd 0 (by omega)
        have b1 := hbd 1 (by omega)
        have b2 := hbd 2 (by omega)
        have b3 := hbd 3 (by omega)
        have b4 := hbd 4 (by omega)
        simp only [hv] at b0 b1 b2 b3 b4
        obtain ⟨b0, b0'⟩ := b0
        obtain ⟨b1, b1'⟩ := b1
        obtain ⟨b2, b2'⟩ := b2
        obtain ⟨b3, b3'⟩ := b3
        obtain ⟨b4, b4'⟩ := b4
        have HGA := Aside0.mk hga
        clear hbd hord hr0 hga
        obtain rfl | rfl | rfl | rfl | rfl : rep = 1 ∨ rep = 2 ∨ rep = 3 ∨ rep = 4 ∨ rep = 5 := by omega
        · clear hr'
          rw [show rgR ⟨g0, g1, g2, g3, g4⟩ 1 floor = g0 - floor from rfl]
          go_enter Try.func51, Try.ntmps51
          go_wp2_with fail
          refine (chkA_call A0 c0 l0 _ HR.out hc0 0 (by rw [hc]; rfl)).mono ?_
          rintro e w1 ⟨rfl, hb1⟩
          have HB1 := Aside0.mk hb1
          clear hb1
          go_wp2_with fail
          refine (escrow_there.calls 1 true _ (there_is' hr)).mono ?_
          rintro e w2 ⟨rfl, ⟨nd2, rfl⟩⟩
          go_wp2_with fail
          refine (escrow_low.calls floor true _ (low_is' hf)).mono ?_
          rintro e w3 ⟨rfl, ⟨nd3, rfl⟩⟩
          go_wp2_with fail
          refine (findA_call A0 c0 l0 key _ (by repeat (first | exact Kd.C_below HR.out HB1.out | (with_reducible refine Kd.C_drewN ?_ _))) hc0 (by omega) HO.out).mono ?_
          rintro e w5 hfp
          obtain ⟨rfl, hb5⟩ := hfp
          rw [HGA.out]
          have HB5 : Aside0 (Below w.heap.size w w5) := ⟨below_step (by repeat (first | exact HB1.out | apply pw_below_drewN)) hb5⟩
          clear hb5
          go_wp2_with fail
          go_ret
          exact ⟨rfl, by repeat (first | (with_reducible exact HB5.out) | apply below_alloc | apply pw_below_drewN)⟩
        · clear hr'
          rw [show rgR ⟨g0, g1, g2, g3, g4⟩ 2 floor = g1 from rfl]
          go_enter Try.func51, Try.ntmps51
          go_wp2_with fail
          refine (chkA_call A0 c0 l0 _ HR.out hc0 0 (by rw [hc]; rfl)).mono ?_
          rintro e w1 ⟨rfl, hb1⟩
          have HB1 := Aside0.mk hb1
          clear hb1
          go_wp2_with fail
          refine (escrow_there.calls 2 true _ (there_is' hr)).mono ?_
          rintro e w2 ⟨rfl, ⟨nd2, rfl⟩⟩
          go_wp2_with fail
          refine (escrow_low.calls floor true _ (low_is' hf)).mono ?_
          rintro e w3 ⟨rfl, ⟨nd3, rfl⟩⟩
          go_wp2_with fail
          refine (findA_call A0 c0 l0 key _ (by repeat (first | exact Kd.C_below HR.out HB1.out | (with_reducible refine Kd.C_drewN ?_ _))) hc0 (by omega) HO.out).mono ?_
          rintro e w5 hfp
          obtain ⟨rfl, hb5⟩ := hfp
          rw [HGA.out]
          have HB5 : Aside0 (Below w.heap.size w w5) := ⟨below_step (by repeat (first | exact HB1.out | apply pw_below_drewN)) hb5⟩
          clear hb5
          go_wp2_with fail
          go_ret
          exact ⟨rfl, by repeat (first | (with_reducible exact HB5.out) | apply below_alloc | apply pw_below_drewN)⟩
        · clear hr'
          rw [show rgR ⟨g0, g1, g2, g3, g4⟩ 3 floor = g2 from rfl]
          go_enter Try.func51, Try.ntmps51
          go_wp2_with fail
          refine (chkA_call A0 c0 l0 _ HR.out hc0 0 (by rw [hc]; rfl)).mono ?_
          rintro e w1 ⟨rfl, hb1⟩
          have HB1 := Aside0.mk hb1
          clear hb1
          go_wp2_with fail
          refine (escrow_there.calls 3 true _ (there_is' hr)).mono ?_
          rintro e w2 ⟨rfl, ⟨nd2, rfl⟩⟩
          go_wp2_with fail
          refine (escrow_low.calls floor true _ (low_is' hf)).mono ?_
          rintro e w3 ⟨rfl, ⟨nd3, rfl⟩⟩
          go_wp2_with fail
          refine (findA_call A0 c0 l0 key _ (by repeat (first | exact Kd.C_below HR.out HB1.out | (with_reducible refine Kd.C_drewN ?_ _))) hc0 (by omega) HO.out).mono ?_
          rintro e w5 hfp
          obtain ⟨rfl, hb5⟩ := hfp
          rw [HGA.out]
          have HB5 : Aside0 (Below w.heap.size w w5) := ⟨below_step (by repeat (first | exact HB1.out | apply pw_below_drewN)) hb5⟩
          clear hb5
          go_wp2_with fail
          go_ret
          exact ⟨rfl, by repeat (first | (with_reducible exact HB5.out) | apply below_alloc | apply pw_below_drewN)⟩
        · clear hr'
          rw [show rgR ⟨g0, g1, g2, g3, g4⟩ 4 floor = g3 from rfl]
          go_enter Try.func51, Try.ntmps51
          go_wp2_with fail
          refine (chkA_call A0 c0 l0 _ HR.out hc0 0 (by rw [hc]; rfl)).mono ?_
          rintro e w1 ⟨rfl, hb1⟩
          have HB1 := Aside0.mk hb1
          clear hb1
          go_wp2_with fail
          refine (escrow_there.calls 4 true _ (there_is' hr)).mono ?_
          rintro e w2 ⟨rfl, ⟨nd2, rfl⟩⟩
          go_wp2_with fail
          refine (escrow_low.calls floor true _ (low_is' hf)).mono ?_
          rintro e w3 ⟨rfl, ⟨nd3, rfl⟩⟩
          go_wp2_with fail
          refine (findA_call A0 c0 l0 key _ (by repeat (first | exact Kd.C_below HR.out HB1.out | (with_reducible refine Kd.C_drewN ?_ _))) hc0 (by omega) HO.out).mono ?_
          rintro e w5 hfp
          obtain ⟨rfl, hb5⟩ := hfp
          rw [HGA.out]
          have HB5 : Aside0 (Below w.heap.size w w5) := ⟨below_step (by repeat (first | exact HB1.out | apply pw_below_drewN)) hb5⟩
          clear hb5
          go_wp2_with fail
          go_ret
          exact ⟨rfl, by repeat (first | (with_reducible exact HB5.out) | apply below_alloc | apply pw_below_drewN)⟩
        · clear hr'
          rw [show rgR ⟨g0, g1, g2, g3, g4⟩ 5 floor = g4 from rfl]
          go_enter Try.func51, Try.ntmps51
          go_wp2_with fail
          refine (chkA_call A0 c0 l0 _ HR.out hc0 0 (by rw [hc]; rfl)).mono ?_
          rintro e w1 ⟨rfl, hb1⟩
          have HB1 := Aside0.mk hb1
          clear hb1
          go_wp2_with fail
          refine (escrow_there.calls 5 true _ (there_is' hr)).mono ?_
          rintro e w2 ⟨rfl, ⟨nd2, rfl⟩⟩
          go_wp2_with fail
          refine (escrow_low.calls floor true _ (low_is' hf)).mono ?_
          rintro e w3 ⟨rfl, ⟨nd3, rfl⟩⟩
          go_wp2_with fail
          refine (findA_call A0 c0 l0 key _ (by repeat (first | exact Kd.C_below HR.out HB1.out | (with_reducible refine Kd.C_drewN ?_ _))) hc0 (by omega) HO.out).mono ?_
          rintro e w5 hfp
          obtain ⟨rfl, hb5⟩ := hfp
          rw [HGA.out]
          have HB5 : Aside0 (Below w.heap.size w w5) := ⟨below_step (by repeat (first | exact HB1.out | apply pw_below_drewN)) hb5⟩
          clear hb5
          go_wp2_with fail
          go_ret
          exact ⟨rfl, by repeat (first | (with_reducible exact HB5.out) | apply below_alloc | apply pw_below_drewN)⟩
theorem escrow_Rights.calls (A0 : Option Addr) (c0 : Nat) (l0 : List Ac) (a1 : ByteArray) (a2 : Int) (a3 : Int) (r1 : Int) (w : World) (hr0 : Kd.C k94 w A0 l0.length l0) (hc0 : l0.length ≤ c0) (h : escrow_Rights.f l0 a1 a2 a3 = some r1) :
    Calls Try.prog 51 #[.slice A0 l0.length c0, .string a1, .int .i64 a2, .int .i64 a3] w fun e w' => e = .returned (.int .i64 r1) ∧ Below w.heap.size w w' := by
  unfold escrow_Rights.f at h
  injection h with h
  subst h
  exact rights_call A0 c0 l0 a1 a2 a3 w hr0 hc0
end Go.Proofs.Ytfnpiclioikjpaa.X

/- hucksterref11.Get, walked. -/
set_option linter.unusedSimpArgs false
set_option linter.unusedVariables false
namespace Go.Proofs.Ytfnpiclioikjpaa.X
open Go.RowKit Go.Proofs.YtfnpiclioikjpaaW.PrintWords Go.Proofs.YtfnpiclioikjpaaW.PrintLast Go.Proofs.YtfnpiclioikjpaaW.PrintMore

def getR (l : List Ac) (key : ByteArray) (rep : Int) : Int := if repOk rep = true then hv (getA l key) (rep - 1).toNat else 0
def hucksterref11_Get.f (l0 : List Ac) (a1 : ByteArray) (a2 : Int) : Option Int := if l0.length ≤ 4000000000 then some (getR l0 a1 a2) else none
theorem getA_drop (l : List Ac) (key : ByteArray) (pos : Nat) (h : pos < l.length) : getA (l.drop pos) key = if (rd_T94 l (pos : Int)).f0 = key then (rd_T94 l (pos : Int)).f1 else getA (l.drop (pos + 1)) key := by
  rw [← List.getElem_cons_drop (h := h), rd_getAcc l pos h]
  rfl
set_option maxHeartbeats 8000000 in
set_option maxRecDepth 100000 in
theorem getR_call (A0 : Option Addr) (c0 : Nat) (l0 : List Ac) (key : ByteArray) (rep : Int) (w : World) (hr0 : Kd.C k94 w A0 l0.length l0) (hc0 : l0.length ≤ c0) (hl : l0.length ≤ 4000000000) :
    Calls Try.prog 69 #[.slice A0 l0.length c0, .string key, .int .i64 rep] w fun e w' => e = .returned (.int .i64 (getR l0 key rep)) ∧ w' = w := by
  have hdr := getA_drop l0 key
  have hend : getA (l0.drop l0.length) key = z5 := by rw [List.drop_length]; rfl
  generalize hg : getR l0 key rep = r at *
  generalize hnl : l0.length = n at *
  have HR := Aside0.mk hr0
  have HD := Aside0.mk hdr
  have HE := Aside0.mk hend
  have HG := Aside0.mk hg
  clear hr0 hdr hend hnl hg
  by_cases h1 : 1 ≤ rep ∧ rep ≤ 5
  · obtain rfl | rfl | rfl | rfl | rfl : rep = 1 ∨ rep = 2 ∨ rep = 3 ∨ rep = 4 ∨ rep = 5 := by omega
    · go_enter Try.func69, Try.ntmps69
      go_wp2
      go_loop [7] (fun v7 => ∃ (pos : Nat), v7 = .int .i64 (pos : Int) ∧ pos ≤ n ∧ Aside0 (getA (l0.drop pos) key = getA l0 key)) (fun v7 => (n - (intV v7)).toNat)
      case atStart => exact ⟨0, rfl, by omega, ⟨by rw [List.drop_zero]⟩⟩
      case round =>
        obtain ⟨pos, rfl, hpos, HC⟩ := hrel
        by_cases hlt : pos < n
        · have hlt' : decide ((pos : Int) < (n : Int)) = true := by simp; omega
          have hcase := HD.out pos hlt
          rw [HC.out] at hcase
          have p : 0 ≤ (pos : Int) := by omega
          have q : (pos : Int) < (n : Int) := by omega
          obtain ⟨ad, e0, hx0, hx1, hx2, hx3, hx4, hx5⟩ := at_T94 HR.out (pos : Int) p q
          cases e0
          simp only [Int.toNat_natCast] at hx0 hx1 hx2 hx3 hx4 hx5
          replace p := eq_true p
          replace q := eq_true q
          have hw5 : IntKind.i64.wrap ((pos : Int) + 1) = (pos : Int) + 1 := by rw [IntKind.wrap_i64]; omega
          have HS := Aside0.mk hcase
          clear hcase
          generalize hx : rd_T94 l0 (pos : Int) = x at *
          obtain ⟨xk, xh0, xh1, xh2, xh3, xh4⟩ := x
          simp only at hx0 hx1 hx2 hx3 hx4 hx5 HS
          have HXX := Aside0.mk hx
          clear hx
          by_cases hk : xk = key
          · have hk' : (xk.toList == key.toList) = true := by rw [hk]; simp
            have hh := HS.out
            rw [if_pos hk] at hh
            have HH := Aside0.mk hh
            clear hh hk
            go_wp2
            have hv : r = xh0 := by rw [← HG.out]; unfold getR; rw [if_pos (by decide), HH.out]; rfl
            subst hv
            go_ret
            exact ⟨rfl, rfl⟩
          · have hk' : (xk.toList == key.toList) = false := beq_eq_false_iff_ne.2 (fun e => hk (bytes_eq e))
            have hh := HS.out
            rw [if_neg hk] at hh
            have HH := Aside0.mk hh.symm
            clear hh hk
            go_wp2
            go_round
            case rel => exact ⟨pos + 1, rfl, by omega, HH⟩
            case measure => simp only [intV]; omega
        · have hlt' : decide ((pos : Int) < (n : Int)) = false := by simp; omega
          obtain rfl : pos = n := by omega
          have hz : getA l0 key = z5 := by rw [← HC.out]; exact HE.out
          have hr0 : r = 0 := by rw [← HG.out]; unfold getR; rw [if_pos (by decide), hz]; rfl
          subst hr0
          go_wp2
          go_ret
          exact ⟨rfl, rfl⟩
    · go_enter Try.func69, Try.ntmps69
      go_wp2
      go_loop [7] (fun v7 => ∃ (pos : Nat), v7 = .int .i64 (pos : Int) ∧ pos ≤ n ∧ Aside0 (getA (l0.drop pos) key = getA l0 key)) (fun v7 => (n - (intV v7)).toNat)
      case atStart => exact ⟨0, rfl, by omega, ⟨by rw [List.drop_zero]⟩⟩
      case round =>
        obtain ⟨pos, rfl, hpos, HC⟩ := hrel
        by_cases hlt : pos < n
        · have hlt' : decide ((pos : Int) < (n : Int)) = true := by simp; omega
          have hcase := HD.out pos hlt
          rw [HC.out] at hcase
          have p : 0 ≤ (pos : Int) := by omega
          have q : (pos : Int) < (n : Int) := by omega
          obtain ⟨ad, e0, hx0, hx1, hx2, hx3, hx4, hx5⟩ := at_T94 HR.out (pos : Int) p q
          cases e0
          simp only [Int.toNat_natCast] at hx0 hx1 hx2 hx3 hx4 hx5
          replace p := eq_true p
          replace q := eq_true q
          have hw5 : IntKind.i64.wrap ((pos : Int) + 1) = (pos : Int) + 1 := by rw [IntKind.wrap_i64]; omega
          have HS := Aside0.mk hcase
          clear hcase
          generalize hx : rd_T94 l0 (pos : Int) = x at *
          obtain ⟨xk, xh0, xh1, xh2, xh3, xh4⟩ := x
          simp only at hx0 hx1 hx2 hx3 hx4 hx5 HS
          have HXX := Aside0.mk hx
          clear hx
          by_cases hk : xk = key
          · have hk' : (xk.toList == key.toList) = true := by rw [hk]; simp
            have hh := HS.out
            rw [if_pos hk] at hh
            have HH := Aside0.mk hh
            clear hh hk
            go_wp2
            have hv : r = xh1 := by rw [← HG.out]; unfold getR; rw [if_pos (by decide), HH.out]; rfl
            subst hv
            go_ret
            exact ⟨rfl, rfl⟩
          · have hk' : (xk.toList == key.toList) = false := beq_eq_false_iff_ne.2 (fun e => hk (bytes_eq e))
            have hh := HS.out
            rw [if_neg hk] at hh
            have HH := Aside0.mk hh.symm
            clear hh hk
            go_wp2
            go_round
            case rel => exact ⟨pos + 1, rfl, by omega, HH⟩
            case measure => simp only [intV]; omega
        · have hlt' : decide ((pos : Int) < (n : Int)) = false := by simp; omega
          obtain rfl : pos = n := by omega
          have hz : getA l0 key = z5 := by rw [← HC.out]; exact HE.out
          have hr0 : r = 0 := by rw [← HG.out]; unfold getR; rw [if_pos (by decide), hz]; rfl
          subst hr0
          go_wp2
          go_ret
          exact ⟨rfl, rfl⟩
    · go_enter Try.func69, Try.ntmps69
      go_wp2
      go_loop [7] (fun v7 => ∃ (pos : Nat), v7 = .int .i64 (pos : Int) ∧ pos ≤ n ∧ Aside0 (getA (l0.drop pos) key = getA l0 key)) (fun v7 => (n - (intV v7)).toNat)
      case atStart => exact ⟨0, rfl, by omega, ⟨by rw [List.drop_zero]⟩⟩
      case round =>
        obtain ⟨pos, rfl, hpos, HC⟩ := hrel
        by_cases hlt : pos < n
        · have hlt' : decide ((pos : Int) < (n : Int)) = true := by simp; omega
          have hcase := HD.out pos hlt
          rw [HC.out] at hcase
          have p : 0 ≤ (pos : Int) := by omega
          have q : (pos : Int) < (n : Int) := by omega
          obtain ⟨ad, e0, hx0, hx1, hx2, hx3, hx4, hx5⟩ := at_T94 HR.out (pos : Int) p q
          cases e0
          simp only [Int.toNat_natCast] at hx0 hx1 hx2 hx3 hx4 hx5
          replace p := eq_true p
          replace q := eq_true q
          have hw5 : IntKind.i64.wrap ((pos : Int) + 1) = (pos : Int) + 1 := by rw [IntKind.wrap_i64]; omega
          have HS := Aside0.mk hcase
          clear hcase
          generalize hx : rd_T94 l0 (pos : Int) = x at *
          obtain ⟨xk, xh0, xh1, xh2, xh3, xh4⟩ := x
          simp only at hx0 hx1 hx2 hx3 hx4 hx5 HS
          have HXX := Aside0.mk hx
          clear hx
          by_cases hk : xk = key
          · have hk' : (xk.toList == key.toList) = true := by rw [hk]; simp
            have hh := HS.out
            rw [if_pos hk] at hh
            have HH := Aside0.mk hh
            clear hh hk
            go_wp2
            have hv : r = xh2 := by rw [← HG.out]; unfold getR; rw [if_pos (by decide), HH.out]; rfl
            subst hv
            go_ret
            exact ⟨rfl, rfl⟩
          · have hk' : (xk.toList == key.toList) = false := beq_eq_false_iff_ne.2 (fun e => hk (bytes_eq e))
            have hh := HS.out
            rw [if_neg hk] at hh
            have HH := Aside0.mk hh.symm
            clear hh hk
            go_wp2
            go_round
            case rel => exact ⟨pos + 1, rfl, by omega, HH⟩
            case measure => simp only [intV]; omega
        · have hlt' : decide ((pos : Int) < (n : Int)) = false := by simp; omega
          obtain rfl : pos = n := by omega
          have hz : getA l0 key = z5 := by rw [← HC.out]; exact HE.out
          have hr0 : r = 0 := by rw [← HG.out]; unfold getR; rw [if_pos (by decide), hz]; rfl
          subst hr0
          go_wp2
          go_ret
          exact ⟨rfl, rfl⟩
    · go_enter Try.func69, Try.ntmps69
      go_wp2
      go_loop [7] (fun v7 => ∃ (pos : Nat), v7 = .int .i64 (pos : Int) ∧ pos ≤ n ∧ Aside0 (getA (l0.drop pos) key = getA l0 key)) (fun v7 => (n - (intV v7)).toNat)
      case atStart => exact ⟨0, rfl, by omega, ⟨by rw [List.drop_zero]⟩⟩
      case round =>
        obtain ⟨pos, rfl, hpos, HC⟩ := hrel
        by_cases hlt : pos < n
        · have hlt' : decide ((pos : Int) < (n : Int)) = true := by simp; omega
          have hcase := HD.out pos hlt
          rw [HC.out] at hcase
          have p : 0 ≤ (pos : Int) := by omega
          have q : (pos : Int) < (n : Int) := by omega
          obtain ⟨ad, e0, hx0, hx1, hx2, hx3, hx4, hx5⟩ := at_T94 HR.out (pos : Int) p q
          cases e0
          simp only [Int.toNat_natCast] at hx0 hx1 hx2 hx3 hx4 hx5
          replace p := eq_true p
          replace q := eq_true q
          have hw5 : IntKind.i64.wrap ((pos : Int) + 1) = (pos : Int) + 1 := by rw [IntKind.wrap_i64]; omega
          have HS := Aside0.mk hcase
          clear hcase
          generalize hx : rd_T94 l0 (pos : Int) = x at *
          obtain ⟨xk, xh0, xh1, xh2, xh3, xh4⟩ := x
          simp only at hx0 hx1 hx2 hx3 hx4 hx5 HS
          have HXX := Aside0.mk hx
          clear hx
          by_cases hk : xk = key
          · have hk' : (xk.toList == key.toList) = true := by rw [hk]; simp
            have hh := HS.out
            rw [if_pos hk] at hh
            have HH := Aside0.mk hh
            clear hh hk
            go_wp2
            have hv : r = xh3 := by rw [← HG.out]; unfold getR; rw [if_pos (by decide), HH.out]; rfl
            subst hv
            go_ret
            exact ⟨rfl, rfl⟩
          · have hk' : (xk.toList == key.toList) = false := beq_eq_false_iff_ne.2 (fun e => hk (bytes_eq e))
            have hh := HS.out
            rw [if_neg hk] at hh
            have HH := Aside0.mk hh.symm
            clear hh hk
            go_wp2
            go_round
            case rel => exact ⟨pos + 1, rfl, by omega, HH⟩
            case measure => simp only [intV]; omega
        · have hlt' : decide ((pos : Int) < (n : Int)) = false := by simp; omega
          obtain rfl : pos = n := by omega
          have hz : getA l0 key = z5 := by rw [← HC.out]; exact HE.out
          have hr0 : r = 0 := by rw [← HG.out]; unfold getR; rw [if_pos (by decide), hz]; rfl
          subst hr0
          go_wp2
          go_ret
          exact ⟨rfl, rfl⟩
    · go_enter Try.func69, Try.ntmps69
      go_wp2
      go_loop [7] (fun v7 => ∃ (pos : Nat), v7 = .int .i64 (pos : Int) ∧ pos ≤ n ∧ Aside0 (getA (l0.drop pos) key = getA l0 key)) (fun v7 => (n - (intV v7)).toNat)
      case atStart => exact ⟨0, rfl, by omega, ⟨by rw [List.drop_zero]⟩⟩
      case round =>
        obtain ⟨pos, rfl, hpos, HC⟩ := hrel
        by_cases hlt : pos < n
        · have hlt' : decide ((pos : Int) < (n : Int)) = true := by simp; omega
          have hcase := HD.out pos hlt
          rw [HC.out] at hcase
          have p : 0 ≤ (pos : Int) := by omega
          have q : (pos : Int) < (n : Int) := by omega
          obtain ⟨ad, e0, hx0, hx1, hx2, hx3, hx4, hx5⟩ := at_T94 HR.out (pos : Int) p q
          cases e0
          simp only [Int.toNat_natCast] at hx0 hx1 hx2 hx3 hx4 hx5
          replace p := eq_true p
          replace q := eq_true q
          have hw5 : IntKind.i64.wrap ((pos : Int) + 1) = (pos : Int) + 1 := by rw [IntKind.wrap_i64]; omega
          have HS := Aside0.mk hcase
          clear hcase
          generalize hx : rd_T94 l0 (pos : Int) = x at *
          obtain ⟨xk, xh0, xh1, xh2, xh3, xh4⟩ := x
          simp only at hx0 hx1 hx2 hx3 hx4 hx5 HS
          have HXX := Aside0.mk hx
          clear hx
          by_cases hk : xk = key
          · have hk' : (xk.toList == key.toList) = true := by rw [hk]; simp
            have hh := HS.out
            rw [if_pos hk] at hh
            have HH := Aside0.mk hh
            clear hh hk
            go_wp2
            have hv : r = xh4 := by rw [← HG.out]; unfold getR; rw [if_pos (by decide), HH.out]; rfl
            subst hv
            go_ret
            exact ⟨rfl, rfl⟩
          · have hk' : (xk.toList == key.toList) = false := beq_eq_false_iff_ne.2 (fun e => hk (bytes_eq e))
            have hh := HS.out
            rw [if_neg hk] at hh
            have HH := Aside0.mk hh.symm
            clear hh hk
            go_wp2
            go_round
            case rel => exact ⟨pos + 1, rfl, by omega, HH⟩
            case measure => simp only [intV]; omega
        · have hlt' : decide ((pos : Int) < (n : Int)) = false := by simp; omega
          obtain rfl : pos = n := by omega
          have hz : getA l0 key = z5 := by rw [← HC.out]; exact HE.out
          have hr0 : r = 0 := by rw [← HG.out]; unfold getR; rw [if_pos (by decide), hz]; rfl
          subst hr0
          go_wp2
          go_ret
          exact ⟨rfl, rfl⟩
  · by_cases h2 : rep < 1
    · have d1 : decide ((1 : Int) ≤ rep) = false := by simp; omega
      go_enter Try.func69, Try.ntmps69
      go_wp2
      go_loop [7] (fun v7 => ∃ (pos : Nat), v7 = .int .i64 (pos : Int) ∧ pos ≤ n ∧ Aside0 True) (fun v7 => (n - (intV v7)).toNat)
      case atStart => exact ⟨0, rfl, by omega, ⟨trivial⟩⟩
      case round =>
        obtain ⟨pos, rfl, hpos, HC⟩ := hrel
        by_cases hlt : pos < n
        · have hlt' : decide ((pos : Int) < (n : Int)) = true := by simp; omega
          have p : 0 ≤ (pos : Int) := by omega
          have q : (pos : Int) < (n : Int) := by omega
          obtain ⟨ad, e0, hx0, hx1, hx2, hx3, hx4, hx5⟩ := at_T94 HR.out (pos : Int) p q
          cases e0
          simp only [Int.toNat_natCast] at hx0 hx1 hx2 hx3 hx4 hx5
          replace p := eq_true p
          replace q := eq_true q
          have hw5 : IntKind.i64.wrap ((pos : Int) + 1) = (pos : Int) + 1 := by rw [IntKind.wrap_i64]; omega
          generalize hx : rd_T94 l0 (pos : Int) = x at *
          obtain ⟨xk, xh0, xh1, xh2, xh3, xh4⟩ := x
          simp only at hx0 hx1 hx2 hx3 hx4 hx5
          have HXX := Aside0.mk hx
          clear hx
          by_cases hk : xk = key
          · have hk' : (xk.toList == key.toList) = true := by rw [hk]; simp
            clear hk
            go_wp2
            go_round
            case rel => exact ⟨pos + 1, rfl, by omega, ⟨trivial⟩⟩
            case measure => simp only [intV]; omega
          · have hk' : (xk.toList == key.toList) = false := beq_eq_false_iff_ne.2 (fun e => hk (bytes_eq e))
            clear hk
            go_wp2
            go_round
            case rel => exact ⟨pos + 1, rfl, by omega, ⟨trivial⟩⟩
            case measure => simp only [intV]; omega
        · have hlt' : decide ((pos : Int) < (n : Int)) = false := by simp; omega
          obtain rfl : pos = n := by omega
          have hr0 : r = 0 := by rw [← HG.out]; unfold getR; rw [if_neg (by unfold repOk; simp; omega)]
          subst hr0
          go_wp2
          go_ret
          exact ⟨rfl, rfl⟩
    · have d1 : decide ((1 : Int) ≤ rep) = true := by simp; omega
      have d2 : decide (rep ≤ (5 : Int)) = false := by simp; omega
      go_enter Try.func69, Try.ntmps69
      go_wp2
      go_loop [7] (fun v7 => ∃ (pos : Nat), v7 = .int .i64 (pos : Int) ∧ pos ≤ n ∧ Aside0 True) (fun v7 => (n - (intV v7)).toNat)
      case atStart => exact ⟨0, rfl, by omega, ⟨trivial⟩⟩
      case round =>
        obtain ⟨pos, rfl, hpos, HC⟩ := hrel
        by_cases hlt : pos < n
        · have hlt' : decide ((pos : Int) < (n : Int)) = true := by simp; omega
          have p : 0 ≤ (pos : Int) := by omega
          have q : (pos : Int) < (n : Int) := by omega
          obtain ⟨ad, e0, hx0, hx1, hx2, hx3, hx4, hx5⟩ := at_T94 HR.out (pos : Int) p q
          cases e0
          simp only [Int.toNat_natCast] at hx0 hx1 hx2 hx3 hx4 hx5
          replace p := eq_true p
          replace q := eq_true q
          have hw5 : IntKind.i64.wrap ((pos : Int) + 1) = (pos : Int) + 1 := by rw [IntKind.wrap_i64]; omega
          generalize hx : rd_T94 l0 (pos : Int) = x at *
          obtain ⟨xk, xh0, xh1, xh2, xh3, xh4⟩ := x
          simp only at hx0 hx1 hx2 hx3 hx4 hx5
          have HXX := Aside0.mk hx
          clear hx
          by_cases hk : xk = key
          · have hk' : (xk.toList == key.toList) = true := by rw [hk]; simp
            clear hk
            go_wp2
            go_round
            case rel => exact ⟨pos + 1, rfl, by omega, ⟨trivial⟩⟩
            case measure => simp only [intV]; omega
          · have hk' : (xk.toList == key.toList) = false := beq_eq_false_iff_ne.2 (fun e => hk (bytes_eq e))
            clear hk
            go_wp2
            go_round
            case rel => exact ⟨pos + 1, rfl, by omega, ⟨trivial⟩⟩
            case measure => simp only [intV]; omega
        · have hlt' : decide ((pos : Int) < (n : Int)) = false := by simp; omega
          obtain rfl : pos = n := by omega
          have hr0 : r = 0 := by rw [← HG.out]; unfold getR; rw [if_neg (by unfold repOk; simp; omega)]
          subst hr0
          go_wp2
          go_ret
          exact ⟨rfl, rfl⟩
theorem hucksterref11_Get.calls (A0 : Option Addr) (c0 : Nat) (l0 : List Ac) (a1 : ByteArray) (a2 : Int) (r1 : Int) (w : World) (hr0 : Kd.C k94 w A0 l0.length l0) (hc0 : l0.length ≤ c0) (h : hucksterref11_Get.f l0 a1 a2 = some r1) :
    Calls Try.prog 69 #[.slice A0 l0.length c0, .string a1, .int .i64 a2] w fun e w' => e = .returned (.int .i64 r1) ∧ Drawn0 w w' := by
  unfold hucksterref11_Get.f at h
  split at h
  · rename_i hl
    injection h with h
    subst h
    exact (getR_call A0 c0 l0 a1 a2 w hr0 hc0 hl).mono fun e w' ⟨he, hw⟩ => ⟨he, by rw [hw]; exact Drawn0.refl w⟩
  · cases h
end Go.Proofs.Ytfnpiclioikjpaa.X

/- Functions of the seat as Lean functions, and that the calls come to them: written by this session's own program xprint.py over the kit's printer. -/
namespace Go.Proofs.Ytfnpiclioikjpaa.X
open Go.RowKit Go.Proofs.YtfnpiclioikjpaaW.PrintWords Go.Proofs.YtfnpiclioikjpaaW.PrintLast Go.Proofs.YtfnpiclioikjpaaW.PrintMore
attribute [local go_sem] max2_int min2_int max_two min_two max_three min_three max_four min_four   -- for this text's walks alone
set_option linter.unusedVariables false
set_option linter.unusedSimpArgs false

/-! ### hucksterref11_Number: function 52 -/
def hucksterref11_Number.l0 : Nat → List (S94) → ByteArray → Int → Int → Option (Int)
  | 0, _, _, _, _ => none
  | k + 1, x0, x1, x5, x6 => if x6 ≤ 5 then ((hucksterref11_Get.f x0 x1 x6).bind fun t159 => (hucksterref11_Number.l0 k x0 x1 (wrap64 (x5 + t159)) (wrap64 (x6 + 1)))) else (some x5)
def hucksterref11_Number.f (k : Nat) (l0 : List (S94)) (a1 : ByteArray) : Option (Int) := hucksterref11_Number.l0 k l0 a1 0 1
theorem hucksterref11_Number.mono_l : ∀ k, (∀ y0 y1 y2 y3, LeO (hucksterref11_Number.l0 k y0 y1 y2 y3) (hucksterref11_Number.l0 (k + 1) y0 y1 y2 y3))
  | 0 => fun _ _ _ _ r h => by simp [hucksterref11_Number.l0] at h
  | k + 1 => by
    have ih0 := hucksterref11_Number.mono_l k
    · intro y0 y1 y2 y3
      unfold hucksterref11_Number.l0
      repeat' first
      | (with_reducible exact ih0 _ _ _ _)
      | (with_reducible exact LeO.refl _)
      | (with_reducible exact LeO.none _)
      | (with_reducible refine LeO.ite ?_ ?_)
      | (with_reducible refine LeO.bind ?_ (fun _ => ?_))
      | exact ih0 _ _ _ _
      | exact LeO.none _
      | refine LeO.ite ?_ ?_
      | refine LeO.bind ?_ (fun _ => ?_)
theorem hucksterref11_Number.mono : ∀ a0 a1 k, LeO (hucksterref11_Number.f k a0 a1) (hucksterref11_Number.f (k + 1) a0 a1) := by
  intro a0 a1 k
  have ih0 := hucksterref11_Number.mono_l k
  unfold hucksterref11_Number.f
  repeat' first
      | (with_reducible exact ih0 _ _ _ _)
      | (with_reducible exact LeO.refl _)
      | (with_reducible exact LeO.none _)
      | (with_reducible refine LeO.ite ?_ ?_)
      | (with_reducible refine LeO.bind ?_ (fun _ => ?_))
      | exact ih0 _ _ _ _
      | exact LeO.none _
      | refine LeO.ite ?_ ?_
      | refine LeO.bind ?_ (fun _ => ?_)
set_option maxHeartbeats 8000000 in
set_option maxRecDepth 100000 in
theorem hucksterref11_Number.calls (k : Nat) (A0 : Option Addr) (c0 : Nat) (l0 : List (S94)) (a1 : ByteArray) (r : Int) (w : World) (hr0 : Kd.C k94 w A0 l0.length l0) (hc0 : l0.length ≤ c0) (h : hucksterref11_Number.f k l0 a1 = some r) :
    Calls Try.prog 52 #[.slice A0 l0.length c0, .string a1] w fun e w' => e = .returned (.int .i64 r) ∧ Drawn0 w w' := by
  have HR0 := Aside0.mk hr0
  have HC0 := Aside0.mk hc0
  clear hr0 hc0
  have H : (hucksterref11_Number.l0 k l0 a1 0 1) = some r := h
  clear h
  have H' := Aside0.mk H
  clear H
  go_enter Try.func52, Try.ntmps52
  go_wp2
  go_loopg [5, 6] k (fun kq v5 v6 w' => ∃ (x5_1 : Int) (x6_1 : Int), v5 = .int .i64 x5_1 ∧ v6 = .int .i64 x6_1 ∧ Aside0 (hucksterref11_Number.l0 kq l0 a1 x5_1 x6_1 = some r) ∧ Aside0 (kq ≤ k) ∧ Drawn0 w w')
  case atStart => exact ⟨(0), (1), (by first | rfl | (simp; done) | (simp [*]; done)), (by first | rfl | (simp; done) | (simp [*]; done)), H', ⟨Nat.le_refl _⟩, by repeat (first | exact Drawn0.refl _ | apply Drawn0.step)⟩
  case round =>
    clear H'
    try clear p2
    obtain ⟨x5_1, x6_1, rfl, rfl, HA, HK1, ⟨m1, rfl⟩⟩ := hrel
    cases gk with
    | zero => exact absurd HA.out (by simp [hucksterref11_Number.l0])
    | succ k1 =>
      have H := HA.out
      clear HA
      simp only [hucksterref11_Number.l0] at H
      by_cases c3 : x6_1 ≤ 5
      · rw [if_pos c3] at H
        have c3b0 : decide (x6_1 ≤ 5) = true := decide_eq_true c3
        clear c3
        replace H := Option.bind_eq_some_iff.mp H
        obtain ⟨t159, A40, H⟩ := H
        replace H : (hucksterref11_Number.l0 k1 l0 a1 (wrap64 (x5_1 + t159)) (wrap64 (x6_1 + 1))) = some r := H
        have A4 := Aside0.mk A40
        clear A40
        have H' := Aside0.mk H
        clear H
        go_wp2_with (first | ((with_reducible refine gate_callee (f := 69) rfl ?_); refine goesL_ (some 15) rfl rfl Try.func69 (by kernel_rfl) rfl #[.slice A0 l0.length c0, .string a1, .int .i64 x6_1] rfl (by (try simp only [List.map_toArray, List.map_cons, List.map_nil]); first | done | rfl | (simp only [List.length_drop, List.length_take]; rfl)) ?_; (with_reducible refine (hucksterref11_Get.calls _ _ l0 a1 x6_1 t159 _ ?side1 ?side2 A4.out).mono ?_); (case side1 => repeat (first | exact HR0.out | (with_reducible refine Kd.C_alloc ?_ _) | (with_reducible refine Kd.C_drewN ?_ _) | (with_reducible refine Kd.C_drew ?_))); (case side2 => exact HC0.out); rintro e w' ⟨rfl, ⟨nd, rfl⟩⟩; refine ⟨_, rfl, ?_⟩))
        go_roundg k1
        case measure => have := HK1.out; omega
        case rel => exact ⟨(wrap64 (x5_1 + t159)), (wrap64 (x6_1 + 1)), (by first | rfl | (simp; done) | (simp [*]; done)), (by first | rfl | (simp; done) | (simp [*]; done)), H', ⟨by have := HK1.out; omega⟩, by repeat (first | exact Drawn0.refl _ | apply Drawn0.step)⟩
      · rw [if_neg c3] at H
        have c3b0 : decide (x6_1 ≤ 5) = false := decide_eq_false c3
        clear c3
        obtain rfl := Option.some.inj H
        go_wp2
        go_ret
        exact ⟨by first | rfl | (simp; done) | (simp [*]; done), by repeat (first | exact Drawn0.refl _ | apply Drawn0.step)⟩

end Go.Proofs.Ytfnpiclioikjpaa.X

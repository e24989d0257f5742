/- The law RegisterSets, walked by hand. -/
import Derived.Test.YtfnpiclioikjpaaRegS
import Derived.Test.YtfnpiclioikjpaaXregisterGet
import Derived.Test.YtfnpiclioikjpaaXEq24
set_option linter.unusedSimpArgs false
set_option linter.unusedVariables false
namespace Go.Proofs.Ytfnpiclioikjpaa.X
open Go.RowKit Go.Proofs.YtfnpiclioikjpaaW.PrintWords Go.Proofs.YtfnpiclioikjpaaW.PrintLast Go.Proofs.YtfnpiclioikjpaaW.PrintMore

attribute [local go_sem high] eqA24

theorem C_oneN (W : World) (n : Nt) : Kd.C k24 (W.alloc (.cells (boxN n) 24)) (some ⟨W.heap.size, 0, none⟩) [n].length [n] := by
  refine ⟨rfl, by simp, fun _ => ⟨_, rfl, fun j p hj => ?_⟩⟩
  have hj0 : j = 0 := by
    rcases j with _ | j
    · rfl
    · simp at hj
  subst hj0
  injection hj with hj
  subst hj
  refine ⟨cellNote n, rfl, k24_mk _ n, fun i u hu => ?_⟩
  rw [show (⟨W.heap.size, 0, none⟩ : Addr).add (0 * k24.sz + i) = ⟨W.heap.size, i, none⟩ by simp [add_plain], cell_of_row _ W.heap.size i (boxN n) _ (0, 0) (heap_alloc_new W _)]
  rw [← Array.getElem?_toList]
  exact hu
theorem awake_call (w : World) : Calls Try.prog 15 #[] w fun e w' => e = .returned (.bool true) ∧ Below w.heap.size w w' := by
  obtain ⟨k, hk⟩ := awake12.rounds
  exact hucksterlaw12_awake.calls k true w hk
theorem may_call (A0 : Option Addr) (c0 : Nat) (l0 : List Nt) (w : World) (hr0 : Kd.C k24 w A0 l0.length l0) (hc0 : l0.length ≤ c0) (hl : l0.length ≤ 4000) :
    Calls Try.prog 19 #[.slice A0 l0.length c0] w fun e w' => e = .returned (.bool (chkN l0)) ∧ Below w.heap.size w w' := by
  obtain ⟨k, hk⟩ := (mayR_is l0 hl).rounds
  exact hucksterref12_May.calls k A0 c0 l0 _ w hr0 hc0 hk
/-- What Get hands back. -/
def gotN (l : List Nt) (key : ByteArray) : Nt := if chkN l = true then getN l key else ⟨⟨#[]⟩, 0, 0, ⟨#[]⟩⟩
theorem get12 (l : List Nt) (key : ByteArray) : Ev (fun k => register_Get.f k l key) ((gotN l key).f0, (gotN l key).f1, (gotN l key).f2, (gotN l key).f3, chkN l && hasNote l key) := by
  unfold register_Get.f gotN
  have hc := check_is l
  cases ha : chkN l with
  | false =>
    rw [ha, if_neg (by decide)] at hc
    exact Ev.bind hc (Ev.no (by decide) (Ev.now _))
  | true =>
    rw [ha, if_pos rfl] at hc
    obtain ⟨h1, _, h3⟩ := (chkN_iff l).1 ha
    have hfind : register_find.f l key = some (((posK (ksNote l) key : Nat) : Int), hasNote l key) := by
      unfold register_find.f
      rw [if_pos ⟨h3, by omega⟩]
    refine Ev.bind hc (Ev.yes rfl (Ev.bind1 hfind ?_))
    unfold getN
    cases hh : hasNote l key with
    | true =>
      obtain ⟨hp, hk⟩ := has_yes hh
      refine Ev.yes rfl (Ev.yes (by simp) (Ev.yes (by simp; omega) (Ev.is rfl)))
    | false => exact Ev.no (by simp) (Ev.is rfl)
def SetsPost (w : World) (e : Ending) (w' : World) : Prop := e = .returned (.bool true) ∧ Below w.heap.size w w'

set_option maxHeartbeats 4000000 in
set_option maxRecDepth 100000 in
theorem sets_walk (A0 : Option Addr) (c0 : Nat) (l0 : List Nt) (n : Nt) (key : ByteArray) (w : World) (hr0 : Kd.C k24 w A0 l0.length l0) (hc0 : l0.length ≤ c0) :
    Calls Try.prog 3 #[.slice A0 l0.length c0, .agg #[.string n.f0, .int .i64 n.f1, .int .i64 n.f2, .string n.f3], .string key] w (SetsPost w) := by
  have HR := Aside0.mk hr0
  clear hr0
  obtain ⟨b1, he1, hl1⟩ := light12 l0
  obtain ⟨k1, hk1⟩ := he1.rounds
  obtain ⟨b2, he2, _⟩ := light12 [n]
  obtain ⟨k2, hk2⟩ := he2.rounds
  have HL1 := Aside0.mk hk1
  have HL2 := Aside0.mk hk2
  clear hk1 hk2 he1 he2
  cases b1 with
  | false =>
    go_enter Try.func3, Try.ntmps3
    go_wp2_with fail
    refine (hucksterlaw12_Light.calls k1 A0 c0 l0 false _ (Kd.C_alloc HR.out _) hc0 HL1.out).mono ?_
    rintro e w1 ⟨rfl, nd, rfl⟩
    go_wp2_with fail
    refine (awake_call _).mono ?_
    rintro e w2 ⟨rfl, hb2⟩
    go_wp2_with fail
    go_ret
    exact ⟨rfl, below_step (pw_below_drewN (below_alloc (Below.refl _ _) _) _) hb2⟩
  | true =>
    have hll := hl1 rfl
    go_enter Try.func3, Try.ntmps3
    go_wp2_with fail
    refine (hucksterlaw12_Light.calls k1 A0 c0 l0 true _ (Kd.C_alloc HR.out _) hc0 HL1.out).mono ?_
    rintro e w1 ⟨rfl, nd, rfl⟩
    obtain ⟨w1, hw1⟩ : ∃ w1, w1 = (w.alloc (.cells (boxN n) 24)).drewN nd := ⟨_, rfl⟩
    have hX : w1.heap[w.heap.size]? = some (.cells (boxN n) 24 (0, 0)) := by rw [hw1]; exact blk_drewN (heap_alloc_new w _) _
    have HX := Aside0.mk hX
    have HB := Aside0.mk (show Below w.heap.size w w1 by rw [hw1]; exact pw_below_drewN (below_alloc (Below.refl _ _) _) _)
    obtain ⟨hx0, hx1, hx2, hx3⟩ := boxN_cells hX
    unfold boxN at hw1
    rw [← hw1]
    clear hw1 hX
    go_wp2_with fail
    refine (hucksterlaw12_Light.calls k2 _ _ [n] b2 _ (C_oneN w1 n) (by simp) HL2.out).mono ?_
    rintro e w2 ⟨rfl, nd2, rfl⟩
    obtain ⟨w2, hw2⟩ : ∃ w2, w2 = (w1.alloc (.cells (boxN n) 24)).drewN nd2 := ⟨_, rfl⟩
    have HB2 := Aside0.mk (show Below w.heap.size w w2 by rw [hw2]; exact pw_below_drewN (below_alloc HB.out _) _)
    have HX2 := Aside0.mk (show w2.heap[w.heap.size]? = some (.cells (boxN n) 24 (0, 0)) by
      rw [hw2]
      exact blk_drewN (((below_alloc (Below.refl w1.heap.size w1) _).block w.heap.size (Array.getElem?_eq_some_iff.1 HX.out).1).trans HX.out) _)
    rw [← hw2]
    clear hw2 hx0 hx1 hx2 hx3 HX HB
    cases b2 with
    | false =>
      go_wp2_with fail
      refine (awake_call _).mono ?_
      rintro e w3 ⟨rfl, hb3⟩
      go_wp2_with fail
      go_ret
      exact ⟨rfl, below_step HB2.out hb3⟩
    | true =>
      by_cases hkl : (key.size : Int) ≤ 100
      · have hkl' : decide ((100 : Int) < (key.size : Int)) = false := by simp; omega
        obtain ⟨hx0, hx1, hx2, hx3⟩ := boxN_cells HX2.out
        go_wp2_with fail
        obtain ⟨⟨x, ec⟩, hset⟩ : ∃ r, register_Set.f l0 n.f0 n.f1 n.f2 n.f3 = some r := by
          unfold register_Set.f
          split
          · exact ⟨_, rfl⟩
          · exact ⟨_, rfl⟩
        have HS := Aside0.mk hset
        clear hset
        refine (register_Set.calls A0 c0 l0 n.f0 n.f1 n.f2 n.f3 x ec _ (Kd.C_below HR.out HB2.out) hc0 HS.out).mono ?_
        rintro e w3 ⟨v7, rfl, hR3, hb3⟩
        have HB3 := Aside0.mk (below_step HB2.out hb3)
        have HX3 := Aside0.mk ((hb3.block w.heap.size (Array.getElem?_eq_some_iff.1 HX2.out).1).trans HX2.out)
        have HV3 := Aside0.mk (Kd.R_lower hR3 (below_size HB2.out))
        obtain ⟨A7, c7, rfl, hc7, _⟩ := Kd.R_reads HV3.out
        clear hR3 hb3 hx0 hx1 hx2 hx3 HX2 HB2
        obtain ⟨kg, hkg⟩ := (get12 l0 key).rounds
        have HG := Aside0.mk hkg
        clear hkg
        go_wp2_with fail
        refine (register_Get.calls kg A0 c0 l0 key _ _ _ _ _ _ (Kd.C_below HR.out HB3.out) hc0 HG.out).mono ?_
        rintro e w4 ⟨rfl, hb4⟩
        have HB4 := Aside0.mk (below_step HB3.out hb4)
        have HX4 := Aside0.mk ((hb4.block w.heap.size (Array.getElem?_eq_some_iff.1 HX3.out).1).trans HX3.out)
        have HV4 := Aside0.mk (Kd.R_below HV3.out hb4)
        clear hb4 HX3 HB3 HV3
        obtain ⟨y, hy⟩ : ∃ y, y = gotN l0 key := ⟨_, rfl⟩
        have HY := Aside0.mk hy
        obtain ⟨th, hth⟩ : ∃ th, th = (chkN l0 && hasNote l0 key) := ⟨_, rfl⟩
        have HTH := Aside0.mk hth
        rw [← hy, ← hth]
        clear hy hth HG
        go_wp2_with fail
        obtain ⟨w5, hw5⟩ : ∃ w5, w5 = w4.alloc (.cells (boxN y) 24) := ⟨_, rfl⟩
        have hlt4 : w.heap.size < w4.heap.size := (Array.getElem?_eq_some_iff.1 HX4.out).1
        have HB5 := Aside0.mk (show Below w.heap.size w w5 by rw [hw5]; exact below_alloc HB4.out _)
        have HX5 := Aside0.mk (show w5.heap[w.heap.size]? = some (.cells (boxN n) 24 (0, 0)) by rw [hw5]; exact ((below_alloc (Below.refl w4.heap.size w4) _).block w.heap.size hlt4).trans HX4.out)
        have HY5 := Aside0.mk (show w5.heap[w4.heap.size]? = some (.cells (boxN y) 24 (0, 0)) by rw [hw5]; exact heap_alloc_new w4 _)
        have HV5 := Aside0.mk (show Kd.R k24 24 w5 w.heap.size (fun _ => True) (.slice A7 x.length c7) x by rw [hw5]; exact Kd.R_alloc HV4.out _)
        unfold boxN at hw5
        rw [← hw5]
        clear hw5 HB4 HX4 HV4
        refine (chk_call A0 c0 l0 _ (Kd.C_below HR.out HB5.out) hc0).mono ?_
        rintro e w6 ⟨rfl, hb6⟩
        have HB6 := Aside0.mk (below_step HB5.out hb6)
        have HX6 := Aside0.mk ((hb6.block w.heap.size (Array.getElem?_eq_some_iff.1 HX5.out).1).trans HX5.out)
        have HY6 := Aside0.mk ((hb6.block w4.heap.size (Array.getElem?_eq_some_iff.1 HY5.out).1).trans HY5.out)
        have HV6 := Aside0.mk (Kd.R_below HV5.out hb6)
        clear hb6 HB5 HX5 HY5 HV5
        cases hck : chkN l0 with
        | false =>
          rw [if_neg (by decide)]
          have hs := HS.out
          unfold register_Set.f at hs
          rw [hck, Bool.false_and, if_neg (by decide)] at hs
          simp only [Option.some.injEq, Prod.mk.injEq] at hs
          obtain ⟨hsx, hse⟩ := hs
          subst hsx; subst hse
          have hy0 : y = ⟨⟨#[]⟩, 0, 0, ⟨#[]⟩⟩ := by rw [HY.out]; unfold gotN; rw [hck]; rfl
          have ht0 : th = false := by rw [HTH.out, hck]; rfl
          subst hy0; subst ht0
          go_wp2_with fail
          refine (may_call A0 c0 l0 _ (Kd.C_below HR.out HB6.out) hc0 (by omega)).mono ?_
          rintro e w7 ⟨rfl, hb7⟩
          rw [hck]
          have HB7 := Aside0.mk (below_step HB6.out hb7)
          have HY7 := Aside0.mk ((hb7.block w4.heap.size (Array.getElem?_eq_some_iff.1 HY6.out).1).trans HY6.out)
          clear hb7 HB6 HX6 HY6 HV6
          go_wp2_with fail
          refine (may_call A0 c0 l0 _ (Kd.C_below HR.out HB7.out) hc0 (by omega)).mono ?_
          rintro e w8 ⟨rfl, hb8⟩
          rw [hck]
          have HB8 := Aside0.mk (below_step HB7.out hb8)
          have HY8 := Aside0.mk ((hb8.block w4.heap.size (Array.getElem?_eq_some_iff.1 HY7.out).1).trans HY7.out)
          clear hb8 HB7 HY7
          obtain ⟨hx0, hx1, hx2, hx3⟩ := boxN_cells HY8.out
          go_wp2_with fail
          refine (awake_call _).mono ?_
          rintro e w9 ⟨rfl, hb9⟩
          go_wp2_with fail
          go_ret
          exact ⟨rfl, below_step HB8.out hb9⟩
        | true =>
          rw [if_pos rfl]
          have hy0 : y = getN l0 key := by rw [HY.out]; unfold gotN; rw [hck]; rfl
          have ht0 : th = hasNote l0 key := by rw [HTH.out, hck]; rfl
          have hys : (!(y.f0.toList == ([] : List UInt8))) = th := by
            rw [hy0, ht0]
            unfold getN
            cases hh : hasNote l0 key with
            | true =>
              obtain ⟨hp, hk⟩ := has_yes hh
              rw [if_pos rfl, rd_get l0 _ hp, okN_key (((chkN_iff l0).1 hck).2.1 _ (List.getElem_mem hp))]
              rfl
            | false =>
              rw [if_neg (by decide)]
              have e : ((⟨#[]⟩ : ByteArray).toList == ([] : List UInt8)) = true := by rw [ByteArray.toList_eq]; rfl
              rw [e]; rfl
          have hys2 : (!y.f0.toList.isEmpty) = th := by
            rw [← hys]
            cases y.f0.toList <;> rfl
          obtain ⟨kr, hkr⟩ := (refGet_is hck key).rounds
          rw [← hy0] at hkr
          have HKR := Aside0.mk hkr
          have HYS := Aside0.mk hys2
          have HY0 := Aside0.mk hy0
          clear hkr hy0 ht0 hys hys2
          go_wp2_with fail
          refine (may_call A0 c0 l0 _ (Kd.C_below HR.out HB6.out) hc0 (by omega)).mono ?_
          rintro e w7 ⟨rfl, hb7⟩
          rw [hck]
          have HB7 := Aside0.mk (below_step HB6.out hb7)
          have HX7 := Aside0.mk ((hb7.block w.heap.size (Array.getElem?_eq_some_iff.1 HX6.out).1).trans HX6.out)
          have HY7 := Aside0.mk ((hb7.block w4.heap.size (Array.getElem?_eq_some_iff.1 HY6.out).1).trans HY6.out)
          have HV7 := Aside0.mk (Kd.R_below HV6.out hb7)
          clear hb7 HB6 HX6 HY6 HV6
          go_wp2_with fail
          refine (may_call A0 c0 l0 _ (Kd.C_below HR.out HB7.out) hc0 (by omega)).mono ?_
          rintro e w8 ⟨rfl, hb8⟩
          rw [hck]
          have HB8 := Aside0.mk (below_step HB7.out hb8)
          have HX8 := Aside0.mk ((hb8.block w.heap.size (Array.getElem?_eq_some_iff.1 HX7.out).1).trans HX7.out)
          have HY8 := Aside0.mk ((hb8.block w4.heap.size (Array.getElem?_eq_some_iff.1 HY7.out).1).trans HY7.out)
          have HV8 := Aside0.mk (Kd.R_below HV7.out hb8)
          clear hb8 HB7 HX7 HY7 HV7
          go_wp2_with fail
          refine (hucksterref12_Get.calls kr A0 c0 l0 key y.f0 y.f1 y.f2 y.f3 _ (Kd.C_below HR.out HB8.out) hc0 HKR.out).mono ?_
          rintro e w9 ⟨rfl, hb9⟩
          have HB9 := Aside0.mk (below_step HB8.out hb9)
          have HX9 := Aside0.mk ((hb9.block w.heap.size (Array.getElem?_eq_some_iff.1 HX8.out).1).trans HX8.out)
          have HY9 := Aside0.mk ((hb9.block w4.heap.size (Array.getElem?_eq_some_iff.1 HY8.out).1).trans HY8.out)
          have HV9 := Aside0.mk (Kd.R_below HV8.out hb9)
          clear hb9 HB8 HX8 HY8 HV8
          have hlt9 : w4.heap.size < w9.heap.size := (Array.getElem?_eq_some_iff.1 HY9.out).1
          have hyy : (w9.alloc (.cells #[.string y.f0, .int .i64 y.f1, .int .i64 y.f2, .string y.f3] 24)).heap[w4.heap.size]? = some (.cells (boxN y) 24 (0, 0)) := ((below_alloc (Below.refl w9.heap.size w9) _).block w4.heap.size hlt9).trans HY9.out
          obtain ⟨hx0, hx1, hx2, hx3⟩ := boxN_cells hyy
          have hxx : (w9.alloc (.cells #[.string y.f0, .int .i64 y.f1, .int .i64 y.f2, .string y.f3] 24)).heap[w.heap.size]? = some (.cells (boxN n) 24 (0, 0)) := ((below_alloc (Below.refl w9.heap.size w9) _).block w.heap.size (Array.getElem?_eq_some_iff.1 HX9.out).1).trans HX9.out
          obtain ⟨hz0, hz1, hz2, hz3⟩ := boxN_cells hxx
          have HBA := Aside0.mk (below_alloc HB9.out (.cells #[.string y.f0, .int .i64 y.f1, .int .i64 y.f2, .string y.f3] 24))
          have HVA := Aside0.mk (Kd.R_alloc HV9.out (.cells #[.string y.f0, .int .i64 y.f1, .int .i64 y.f2, .string y.f3] 24))
          have hys3 := HYS.out
          clear hyy hxx
          go_wp2_with fail
          refine (hucksterref12_One.calls n.f0 n.f1 n.f2 n.f3 _ _ (one_is n)).mono ?_
          rintro e w10 ⟨rfl, hb10⟩
          have HBB := Aside0.mk (below_step HBA.out hb10)
          have HVB := Aside0.mk (Kd.R_below HVA.out hb10)
          have hxb := (hb10.block w.heap.size (World.block_lt_of_cell? _ _ hz0)).trans (((below_alloc (Below.refl w9.heap.size w9) (.cells #[.string y.f0, .int .i64 y.f1, .int .i64 y.f2, .string y.f3] 24)).block w.heap.size (Array.getElem?_eq_some_iff.1 HX9.out).1).trans HX9.out)
          have HXB := Aside0.mk hxb
          clear hb10 hxb hx0 hx1 hx2 hx3 hz0 hz1 hz2 hz3 HBA HVA HX9 HB9 HY9 HV9 hys3 hlt9
          cases hn : okN n with
          | false =>
            have hs := HS.out
            unfold register_Set.f at hs
            rw [hck, hn, Bool.and_false, if_neg (by decide)] at hs
            simp only [Option.some.injEq, Prod.mk.injEq] at hs
            obtain ⟨hsx, hse⟩ := hs
            subst hsx; subst hse
            go_wp2_with fail
            refine (awake_call _).mono ?_
            rintro e w11 ⟨rfl, hb11⟩
            go_wp2_with fail
            go_ret
            exact ⟨rfl, below_step HBB.out hb11⟩
          | true =>
            have hs := HS.out
            unfold register_Set.f at hs
            rw [hck, hn, Bool.and_self, if_pos rfl, setN_ref hck n hll] at hs
            simp only [Option.some.injEq, Prod.mk.injEq] at hs
            obtain ⟨hsx, hse⟩ := hs
            obtain ⟨ks, hks⟩ := (refGet_is hck n.f0).rounds
            have HSX := Aside0.mk hsx
            have HKS := Aside0.mk hks
            obtain ⟨km, hkm⟩ := (same12 x (by
              rw [← hsx]
              split
              · omega
              · have h1 := setN_ref hck n hll
                have h2 := congrArg (fun r => r.1.length) h1
                have h3 : (setN l0 n).1.length ≤ l0.length + 1 := by
                  unfold setN
                  split
                  · split
                    · rw [List.length_set]; omega
                    · exact Nat.le_succ _
                  · split
                    · simp
                    · simp only [List.length_append, List.length_cons, List.length_take, List.length_drop]; omega
                rename_i hneg
                rw [if_neg hneg] at h2
                simp only at h2
                omega)).rounds
            have HKM := Aside0.mk hkm
            subst hse
            clear hsx hks hkm
            obtain ⟨hx0, hx1, hx2, hx3⟩ := boxN_cells HXB.out
            go_wp2_with fail
            refine (refSet_reads A0 c0 l0 n (getN l0 n.f0) ks _ (Kd.C_below HR.out HBB.out) hc0 (by omega) HKS.out).mono ?_
            rw [HSX.out]
            rintro e w11 ⟨A11, c11, rfl, hc11, hC11, hb11⟩
            have HBC := Aside0.mk (below_step HBB.out hb11)
            have HVC := Aside0.mk (Kd.R_below HVB.out hb11)
            have HC11 := Aside0.mk hC11
            clear hb11 hC11 hx0 hx1 hx2 hx3 HXB HBB HVB
            go_wp2_with fail
            refine (hucksterref12_Same.calls km A7 c7 x A11 c11 x true _ (Kd.R_reads' HVC.out).2.2 hc7 HC11.out hc11 HKM.out).mono ?_
            rintro e w12 ⟨rfl, nd12, rfl⟩
            go_wp2_with fail
            refine (awake_call _).mono ?_
            rintro e w13 ⟨rfl, hb13⟩
            go_wp2_with fail
            go_ret
            exact ⟨rfl, below_step (pw_below_drewN HBC.out _) hb13⟩
      · have hkl' : decide ((100 : Int) < (key.size : Int)) = true := by simp; omega
        go_wp2_with fail
        refine (awake_call _).mono ?_
        rintro e w3 ⟨rfl, hb3⟩
        go_wp2_with fail
        go_ret
        exact ⟨rfl, below_step HB2.out hb3⟩
end Go.Proofs.Ytfnpiclioikjpaa.X

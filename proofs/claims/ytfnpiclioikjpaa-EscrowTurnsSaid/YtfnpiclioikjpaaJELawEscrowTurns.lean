/- The law LawEscrowTurns: its walk, its plain law, its row. -/
import Derived.Test.YtfnpiclioikjpaaRows
import Derived.Test.YtfnpiclioikjpaaWSized
import Derived.WalkKit
import Derived.ProofKit
import Derived.OpenShut
import Derived.ShutString
import Derived.ChangeOld
import Derived.Below
import Derived.SizedLaws
import Derived.Lib.SmallJoins
import Derived.Test.YtfnpiclioikjpaaJE1
import Derived.Test.YtfnpiclioikjpaaJE2
import Derived.Test.YtfnpiclioikjpaaJE3
/- Functions of the seat as Lean functions, and that the calls come to them: written by this session's own program xprint.py over the kit's printer. -/
namespace Go.Proofs.Ytfnpiclioikjpaa.X
open Go.RowKit Go.Proofs.YtfnpiclioikjpaaW.PrintWords Go.Proofs.YtfnpiclioikjpaaW.PrintLast Go.Proofs.YtfnpiclioikjpaaW.PrintMore
attribute [local go_sem] max2_int min2_int max_two min_two max_three min_three max_four min_four   -- for this text's walks alone
set_option linter.unusedVariables false
set_option linter.unusedSimpArgs false

/-! ### hucksterlaw11_there: function 44 -/
def hucksterlaw11_there.f (a0 : Int) : Option (Bool) := if a0 ≥ 1 then (some (decide (a0 ≤ 5))) else (some false)
set_option maxHeartbeats 8000000 in
set_option maxRecDepth 100000 in
theorem hucksterlaw11_there.calls (a0 : Int) (r : Bool) (w : World) (h : hucksterlaw11_there.f a0 = some r) :
    Calls Try.prog 44 #[.int .i64 a0] w fun e w' => e = .returned (.bool r) ∧ Drawn0 w w' := by
  have H : (if a0 ≥ 1 then (some (decide (a0 ≤ 5))) else (some false)) = some r := h
  clear h
  by_cases c2 : a0 ≥ 1
  · rw [if_pos c2] at H
    have c2b0 : decide (1 ≤ a0) = true := decide_eq_true c2
    clear c2
    obtain rfl := Option.some.inj H
    go_enter Try.func44, Try.ntmps44
    go_wp2
    go_ret
    exact ⟨by first | rfl | (simp; done) | (simp [*]; done), by repeat (first | exact Drawn0.refl _ | apply Drawn0.step)⟩
  · rw [if_neg c2] at H
    have c2b0 : decide (1 ≤ a0) = false := decide_eq_false c2
    clear c2
    obtain rfl := Option.some.inj H
    go_enter Try.func44, Try.ntmps44
    go_wp2
    go_ret
    exact ⟨by first | rfl | (simp; done) | (simp [*]; done), by repeat (first | exact Drawn0.refl _ | apply Drawn0.step)⟩

end Go.Proofs.Ytfnpiclioikjpaa.X

/- hucksterlaw11.EscrowTurns, walked. -/
set_option linter.unusedSimpArgs false
set_option linter.unusedVariables false
namespace Go.Proofs.Ytfnpiclioikjpaa.X
open Go.RowKit Go.Proofs.YtfnpiclioikjpaaW.PrintWords Go.Proofs.YtfnpiclioikjpaaW.PrintLast Go.Proofs.YtfnpiclioikjpaaW.PrintMore

theorem law_there11 {rep : Int} {b : Bool} (h : repOk rep = b) : hucksterlaw11_there.f rep = some b := by
  subst h
  unfold hucksterlaw11_there.f repOk
  by_cases h : rep ≥ 1
  · rw [if_pos h, decide_eq_true h]; rfl
  · rw [if_neg h, decide_eq_false h]; rfl
theorem there_call (rep : Int) (b : Bool) (w : World) (h : repOk rep = b) : Calls Try.prog 44 #[.int .i64 rep] w fun e w' => e = .returned (.bool b) ∧ Below w.heap.size w w' :=
  (hucksterlaw11_there.calls rep b w (law_there11 h)).mono fun e w' ⟨he, hd⟩ => ⟨he, hd.below⟩
theorem light_call (k : Nat) (A0 : Option Addr) (c0 : Nat) (l0 : List Ac) (r : Bool) (w : World) (hr0 : Kd.C k94 w A0 l0.length l0) (hc0 : l0.length ≤ c0) (h : hucksterlaw11_Light.f k l0 = some r) : Calls Try.prog 39 #[.slice A0 l0.length c0] w fun e w' => e = .returned (.bool r) ∧ Below w.heap.size w w' :=
  (hucksterlaw11_Light.calls k A0 c0 l0 r w hr0 hc0 h).mono fun e w' ⟨he, hd⟩ => ⟨he, hd.below⟩
theorem same_call (l0 : List Ac) (hl : l0.length ≤ 4000000000) (A0 : Option Addr) (c0 : Nat) (A1 : Option Addr) (c1 : Nat) (w : World) (hr0 : Kd.C k94 w A0 l0.length l0) (hc0 : l0.length ≤ c0) (hr1 : Kd.C k94 w A1 l0.length l0) (hc1 : l0.length ≤ c1) : Calls Try.prog 47 #[.slice A0 l0.length c0, .slice A1 l0.length c1] w fun e w' => e = .returned (.bool true) ∧ Below w.heap.size w w' := by
  obtain ⟨k, hk⟩ := (sameR_is l0 hl).rounds
  exact (hucksterref11_Same.calls k A0 c0 l0 A1 c1 l0 true w hr0 hc0 hr1 hc1 hk).mono fun e w' ⟨he, hd⟩ => ⟨he, hd.below⟩
theorem awake_call (w : World) : Calls Try.prog 40 #[] w fun e w' => e = .returned (.bool true) ∧ Below w.heap.size w w' := by
  obtain ⟨k, hk⟩ := awake11.rounds
  exact hucksterlaw11_awake.calls k true w hk
def boxD (key : ByteArray) (rep tp n : Int) : Array Value := #[.string key, .int .i64 rep, .int .i64 tp, .int .i64 n]
def TurnsIs (A0 : Option Addr) (c0 : Nat) (l0 : List Ac) (key : ByteArray) (rep tp n : Int) (w : World) : Prop :=
  Calls Try.prog 10 #[.slice A0 l0.length c0, .agg #[.string key, .int .i64 rep, .int .i64 tp, .int .i64 n]] w fun e w' => e = .returned (.bool true) ∧ Below w.heap.size w w'

set_option maxHeartbeats 16000000 in
set_option maxRecDepth 100000 in
theorem turns_dark1 (A0 : Option Addr) (c0 : Nat) (l0 : List Ac) (key : ByteArray) (rep tp n : Int) (w : World) (hr0 : Kd.C k94 w A0 l0.length l0) (hc0 : l0.length ≤ c0) (kl : Nat) (hL : hucksterlaw11_Light.f kl l0 = some false) : TurnsIs A0 c0 l0 key rep tp n w := by
  have HR := Aside0.mk hr0
  clear hr0

  unfold TurnsIs
  go_enter Try.func10, Try.ntmps10
  go_wp2_with (first | ((with_reducible refine gate_dst (N := 3) rfl ?_); refine box_event ?hg (N := 3) ?hd (cs := #[.string key, .int .i64 rep, .int .i64 tp, .int .i64 n]) (t := 61) ?hr ?_; (case hd => rfl); (case hg => rfl); (case hr => first | (go_simp; done) | (go_simp; rfl)); intro g hg w1 hbox hb; have HB0 := Aside0.mk hb; have BK0 := Aside0.mk hbox; clear hb hbox hg) | fail)
  have hbox : ∀ W : World, Below w1.heap.size w1 W → W.cell? ⟨g, 0, none⟩ = some (.string key) ∧ W.cell? ⟨g, 1, none⟩ = some (.int .i64 rep) ∧ W.cell? ⟨g, 2, none⟩ = some (.int .i64 tp) ∧ W.cell? ⟨g, 3, none⟩ = some (.int .i64 n) := fun W hW => by
    have h := blk_below BK0.out hW
    exact ⟨(blk_cell h 0).trans rfl, (blk_cell h 1).trans rfl, (blk_cell h 2).trans rfl, (blk_cell h 3).trans rfl⟩
  have HBOX := Aside0.mk hbox
  clear hbox
  have HB := Aside0.mk (Below.refl w1.heap.size w1)
  have HR1 := Aside0.mk (Kd.C_below HR.out HB0.out)
  obtain ⟨hd0, hd1, hd2, hd3⟩ := HBOX.out _ HB.out
  go_wp2_with fail
  refine (light_call kl A0 c0 l0 false _ (Kd.C_below HR1.out HB.out) hc0 hL).mono ?_
  rintro e w2 ⟨rfl, hb⟩
  have HB_ := HB
  clear HB
  have HB := Aside0.mk (below_step HB_.out hb)
  clear HB_ hb
  try clear hd0 hd1 hd2 hd3
  obtain ⟨hd0, hd1, hd2, hd3⟩ := HBOX.out _ HB.out
  go_wp2_with fail
  refine (awake_call _).mono ?_
  rintro e w3 ⟨rfl, hb⟩
  have HB_ := HB
  clear HB
  have HB := Aside0.mk (below_step HB_.out hb)
  clear HB_ hb
  try clear hd0 hd1 hd2 hd3
  obtain ⟨hd0, hd1, hd2, hd3⟩ := HBOX.out _ HB.out
  go_wp2_with fail
  go_ret
  exact ⟨rfl, below_step HB0.out HB.out⟩

set_option maxHeartbeats 16000000 in
set_option maxRecDepth 100000 in
theorem turns_dark2 (A0 : Option Addr) (c0 : Nat) (l0 : List Ac) (key : ByteArray) (rep tp n : Int) (w : World) (hr0 : Kd.C k94 w A0 l0.length l0) (hc0 : l0.length ≤ c0) (kl : Nat) (hL : hucksterlaw11_Light.f kl l0 = some true) (hs : 100 < (key.size : Int)) : TurnsIs A0 c0 l0 key rep tp n w := by
  have HR := Aside0.mk hr0
  clear hr0
  have hsz : decide ((100 : Int) < (key.size : Int)) = true := by simp; omega
  unfold TurnsIs
  go_enter Try.func10, Try.ntmps10
  go_wp2_with (first | ((with_reducible refine gate_dst (N := 3) rfl ?_); refine box_event ?hg (N := 3) ?hd (cs := #[.string key, .int .i64 rep, .int .i64 tp, .int .i64 n]) (t := 61) ?hr ?_; (case hd => rfl); (case hg => rfl); (case hr => first | (go_simp; done) | (go_simp; rfl)); intro g hg w1 hbox hb; have HB0 := Aside0.mk hb; have BK0 := Aside0.mk hbox; clear hb hbox hg) | fail)
  have hbox : ∀ W : World, Below w1.heap.size w1 W → W.cell? ⟨g, 0, none⟩ = some (.string key) ∧ W.cell? ⟨g, 1, none⟩ = some (.int .i64 rep) ∧ W.cell? ⟨g, 2, none⟩ = some (.int .i64 tp) ∧ W.cell? ⟨g, 3, none⟩ = some (.int .i64 n) := fun W hW => by
    have h := blk_below BK0.out hW
    exact ⟨(blk_cell h 0).trans rfl, (blk_cell h 1).trans rfl, (blk_cell h 2).trans rfl, (blk_cell h 3).trans rfl⟩
  have HBOX := Aside0.mk hbox
  clear hbox
  have HB := Aside0.mk (Below.refl w1.heap.size w1)
  have HR1 := Aside0.mk (Kd.C_below HR.out HB0.out)
  obtain ⟨hd0, hd1, hd2, hd3⟩ := HBOX.out _ HB.out
  go_wp2_with fail
  refine (light_call kl A0 c0 l0 true _ (Kd.C_below HR1.out HB.out) hc0 hL).mono ?_
  rintro e w2 ⟨rfl, hb⟩
  have HB_ := HB
  clear HB
  have HB := Aside0.mk (below_step HB_.out hb)
  clear HB_ hb
  try clear hd0 hd1 hd2 hd3
  obtain ⟨hd0, hd1, hd2, hd3⟩ := HBOX.out _ HB.out
  go_wp2_with fail
  refine (awake_call _).mono ?_
  rintro e w3 ⟨rfl, hb⟩
  have HB_ := HB
  clear HB
  have HB := Aside0.mk (below_step HB_.out hb)
  clear HB_ hb
  try clear hd0 hd1 hd2 hd3
  obtain ⟨hd0, hd1, hd2, hd3⟩ := HBOX.out _ HB.out
  go_wp2_with fail
  go_ret
  exact ⟨rfl, below_step HB0.out HB.out⟩

theorem right_f {l : List Ac} {b : Bool} (hl : l.length ≤ 4000000000) (h : chkA l = b) : hucksterref11_Right.f l = some b := by unfold hucksterref11_Right.f; rw [if_pos hl, h]
theorem up_no {l : List Ac} {key : ByteArray} {rep n : Int} (h : upB l key rep n = false) : escrow_Up.f l key rep n = some ([], 1) := by unfold escrow_Up.f; rw [h]; rfl
theorem mv_no {l : List Ac} {key : ByteArray} {rep tp n : Int} (h : mvB l key rep tp n = false) : escrow_Move.f l key rep tp n = some ([], 1) := by unfold escrow_Move.f; rw [h]; rfl
theorem up_full {l : List Ac} {key : ByteArray} {rep n : Int} (h : upB l key rep n = true) (h2 : chkA (setA l key (upR (getA l key) rep n)) = false) : escrow_Up.f l key rep n = some ([], 6) := by unfold escrow_Up.f; rw [h, h2]; rfl
theorem up_ok {l : List Ac} {key : ByteArray} {rep n : Int} (h : upB l key rep n = true) (h2 : chkA (setA l key (upR (getA l key) rep n)) = true) : escrow_Up.f l key rep n = some (setA l key (upR (getA l key) rep n), 0) := by unfold escrow_Up.f; rw [h, h2]; rfl
theorem mv_full {l : List Ac} {key : ByteArray} {rep tp n : Int} (h : mvB l key rep tp n = true) (h2 : chkA (setA l key (mvR (getA l key) rep tp n)) = false) : escrow_Move.f l key rep tp n = some ([], 6) := by unfold escrow_Move.f; rw [h, h2]; rfl
theorem mv_ok {l : List Ac} {key : ByteArray} {rep tp n : Int} (h : mvB l key rep tp n = true) (h2 : chkA (setA l key (mvR (getA l key) rep tp n)) = true) : escrow_Move.f l key rep tp n = some (setA l key (mvR (getA l key) rep tp n), 0) := by unfold escrow_Move.f; rw [h, h2]; rfl
theorem bd41_chk {l : List Ac} (hc : chkA l = true) (key : ByteArray) : bd41 (getA l key) = true := by
  have hb := getA_bd hc key
  have b0 := hb 0 (by omega); have b1 := hb 1 (by omega); have b2 := hb 2 (by omega); have b3 := hb 3 (by omega); have b4 := hb 4 (by omega)
  simp only [hv] at b0 b1 b2 b3 b4
  unfold bd41
  rw [(in41_iff _).2 (by omega), (in41_iff _).2 (by omega), (in41_iff _).2 (by omega), (in41_iff _).2 (by omega), (in41_iff _).2 (by omega)]
  rfl
theorem add_f {l : List Ac} {key : ByteArray} {rep n : Int} (hl : l.length ≤ 60) (hc : chkA l = true) (hr : repOk rep = true) (h1 : -1000 ≤ n) (h2 : n ≤ 1000) : hucksterref11_Add.f l key rep n = some (setA l key (upR (getA l key) rep n)) := by
  unfold hucksterref11_Add.f
  rw [if_pos ⟨by omega, hr, h1, h2, bd41_chk hc key⟩]
theorem add_f2 {l : List Ac} {key : ByteArray} {rep tp n : Int} (hl : l.length ≤ 60) (hc : chkA l = true) (hr : repOk rep = true) (ht : repOk tp = true) (h1 : 1 ≤ n) (h2 : n ≤ 1000) :
    hucksterref11_Add.f (setA l key (upR (getA l key) rep (-n))) key tp n = some (setA l key (mvR (getA l key) rep tp n)) := by
  have ho := ((chkA_iff l).1 hc).2.2
  have hlen := setA_len l key (upR (getA l key) rep (-n))
  have hb := getA_bd hc key
  have b0 := hb 0 (by omega); have b1 := hb 1 (by omega); have b2 := hb 2 (by omega); have b3 := hb 3 (by omega); have b4 := hb 4 (by omega)
  simp only [hv] at b0 b1 b2 b3 b4
  have hbd : bd41 (upR (getA l key) rep (-n)) = true := by
    have hr' := (repOk_iff rep).1 hr
    have hu := fun k hk => upR_at (getA l key) rep (-n) k hk hr'.1 hr'.2
    have u0 := hu 0 (by omega); have u1 := hu 1 (by omega); have u2 := hu 2 (by omega); have u3 := hu 3 (by omega); have u4 := hu 4 (by omega)
    simp only [hv] at u0 u1 u2 u3 u4
    unfold bd41
    rw [(in41_iff _).2 (by rw [u0]; split <;> omega), (in41_iff _).2 (by rw [u1]; split <;> omega), (in41_iff _).2 (by rw [u2]; split <;> omega), (in41_iff _).2 (by rw [u3]; split <;> omega), (in41_iff _).2 (by rw [u4]; split <;> omega)]
    rfl
  have he : upR (upR (getA l key) rep (-n)) tp n = mvR (getA l key) rep tp n := by unfold mvR upR; simp only [Int.sub_eq_add_neg]
  unfold hucksterref11_Add.f
  rw [getA_set ho, if_pos ⟨by omega, ht, by omega, h2, hbd⟩, setA_set ho, he]
theorem mvR_self {h : Hv} {rep n : Int} (hr : repOk rep = true) : mvR h rep rep n = h := by
  rw [repOk_iff] at hr
  rcases (by omega : rep = 1 ∨ rep = 2 ∨ rep = 3 ∨ rep = 4 ∨ rep = 5) with rfl | rfl | rfl | rfl | rfl <;> (cases h; simp [mvR, setH, hv])

set_option maxHeartbeats 16000000 in
set_option maxRecDepth 100000 in
theorem turns_chk (A0 : Option Addr) (c0 : Nat) (l0 : List Ac) (key : ByteArray) (rep tp n : Int) (w : World) (hr0 : Kd.C k94 w A0 l0.length l0) (hc0 : l0.length ≤ c0) (kl : Nat) (hL : hucksterlaw11_Light.f kl l0 = some true) (hl : l0.length ≤ 60) (hs : (key.size : Int) ≤ 100) (hc : chkA l0 = false) : TurnsIs A0 c0 l0 key rep tp n w := by
  have HR := Aside0.mk hr0
  clear hr0
  have hsz : decide ((100 : Int) < (key.size : Int)) = false := by simp; omega
  have hub : upB l0 key rep n = false := by unfold upB; simp [hc]
  have hmb : mvB l0 key rep tp n = false := by unfold mvB; simp [hc]
  have hU := up_no hub
  have hM := mv_no hmb
  clear hub hmb
  unfold TurnsIs
  go_enter Try.func10, Try.ntmps10
  go_wp2_with (first | ((with_reducible refine gate_dst (N := 3) rfl ?_); refine box_event ?hg (N := 3) ?hd (cs := #[.string key, .int .i64 rep, .int .i64 tp, .int .i64 n]) (t := 61) ?hr ?_; (case hd => rfl); (case hg => rfl); (case hr => first | (go_simp; done) | (go_simp; rfl)); intro g hg w1 hbox hb; have HB0 := Aside0.mk hb; have BK0 := Aside0.mk hbox; clear hb hbox hg) | fail)
  have hbox : ∀ W : World, Below w1.heap.size w1 W → W.cell? ⟨g, 0, none⟩ = some (.string key) ∧ W.cell? ⟨g, 1, none⟩ = some (.int .i64 rep) ∧ W.cell? ⟨g, 2, none⟩ = some (.int .i64 tp) ∧ W.cell? ⟨g, 3, none⟩ = some (.int .i64 n) := fun W hW => by
    have h := blk_below BK0.out hW
    exact ⟨(blk_cell h 0).trans rfl, (blk_cell h 1).trans rfl, (blk_cell h 2).trans rfl, (blk_cell h 3).trans rfl⟩
  have HBOX := Aside0.mk hbox
  clear hbox
  have HB := Aside0.mk (Below.refl w1.heap.size w1)
  have HR1 := Aside0.mk (Kd.C_below HR.out HB0.out)
  obtain ⟨hd0, hd1, hd2, hd3⟩ := HBOX.out _ HB.out
  go_wp2_with fail
  refine (light_call kl A0 c0 l0 true _ (Kd.C_below HR1.out HB.out) hc0 hL).mono ?_
  rintro e w2 ⟨rfl, hb⟩
  have HB_ := HB
  clear HB
  have HB := Aside0.mk (below_step HB_.out hb)
  clear HB_ hb
  try clear hd0 hd1 hd2 hd3
  obtain ⟨hd0, hd1, hd2, hd3⟩ := HBOX.out _ HB.out
  go_wp2_with fail
  refine (escrow_Up.calls A0 c0 l0 key rep n [] 1 _ (Kd.C_below HR1.out HB.out) hc0 hU).mono ?_
  rintro e w3 ⟨va, rfl, hRr, hb⟩
  have HVn := Aside0.mk (Kd.R_lower hRr (below_size HB.out))
  clear hRr
  have HB_ := HB
  clear HB
  have HB := Aside0.mk (below_step HB_.out hb)
  clear HB_ hb
  try clear hd0 hd1 hd2 hd3
  have HVa := HVn
  clear HVn
  obtain ⟨Aa, ca, rfl, hca, _⟩ := Kd.R_reads HVa.out
  obtain ⟨hd0, hd1, hd2, hd3⟩ := HBOX.out _ HB.out
  go_wp2_with fail
  refine (escrow_Move.calls A0 c0 l0 key rep tp n [] 1 _ (Kd.C_below HR1.out HB.out) hc0 hM).mono ?_
  rintro e w4 ⟨vb, rfl, hRr, hb⟩
  have HVn := Aside0.mk (Kd.R_lower hRr (below_size HB.out))
  clear hRr
  have HB_ := HB
  clear HB
  have HB := Aside0.mk (below_step HB_.out hb)
  have HV_ := HVa
  clear HVa
  have HVa := Aside0.mk (Kd.R_below HV_.out hb)
  clear HV_
  clear HB_ hb
  try clear hd0 hd1 hd2 hd3
  have HVb := HVn
  clear HVn
  obtain ⟨Ab, cb, rfl, hcb, _⟩ := Kd.R_reads HVb.out
  obtain ⟨hd0, hd1, hd2, hd3⟩ := HBOX.out _ HB.out
  go_wp2_with fail
  refine (hucksterref11_Right.calls A0 c0 l0 false _ (Kd.C_below HR1.out HB.out) hc0 (right_f (by omega) hc)).mono ?_
  rintro e w5 ⟨rfl, hb⟩
  have HB_ := HB
  clear HB
  have HB := Aside0.mk (below_step HB_.out hb)
  have HV_ := HVa
  clear HVa
  have HVa := Aside0.mk (Kd.R_below HV_.out hb)
  clear HV_
  have HV_ := HVb
  clear HVb
  have HVb := Aside0.mk (Kd.R_below HV_.out hb)
  clear HV_
  clear HB_ hb
  try clear hd0 hd1 hd2 hd3
  obtain ⟨hd0, hd1, hd2, hd3⟩ := HBOX.out _ HB.out
  go_wp2_with fail
  refine (chkA_call A0 c0 l0 _ (Kd.C_below HR1.out HB.out) hc0 1 (by rw [hc]; rfl)).mono ?_
  rintro e w6 ⟨rfl, hb⟩
  have HB_ := HB
  clear HB
  have HB := Aside0.mk (below_step HB_.out hb)
  have HV_ := HVa
  clear HVa
  have HVa := Aside0.mk (Kd.R_below HV_.out hb)
  clear HV_
  have HV_ := HVb
  clear HVb
  have HVb := Aside0.mk (Kd.R_below HV_.out hb)
  clear HV_
  clear HB_ hb
  try clear hd0 hd1 hd2 hd3
  obtain ⟨hd0, hd1, hd2, hd3⟩ := HBOX.out _ HB.out
  go_wp2_with fail
  refine (hucksterref11_Right.calls A0 c0 l0 false _ (Kd.C_below HR1.out HB.out) hc0 (right_f (by omega) hc)).mono ?_
  rintro e w7 ⟨rfl, hb⟩
  have HB_ := HB
  clear HB
  have HB := Aside0.mk (below_step HB_.out hb)
  have HV_ := HVa
  clear HVa
  have HVa := Aside0.mk (Kd.R_below HV_.out hb)
  clear HV_
  have HV_ := HVb
  clear HVb
  have HVb := Aside0.mk (Kd.R_below HV_.out hb)
  clear HV_
  clear HB_ hb
  try clear hd0 hd1 hd2 hd3
  obtain ⟨hd0, hd1, hd2, hd3⟩ := HBOX.out _ HB.out
  go_wp2_with fail
  refine (awake_call _).mono ?_
  rintro e w8 ⟨rfl, hb⟩
  have HB_ := HB
  clear HB
  have HB := Aside0.mk (below_step HB_.out hb)
  have HV_ := HVa
  clear HVa
  have HVa := Aside0.mk (Kd.R_below HV_.out hb)
  clear HV_
  have HV_ := HVb
  clear HVb
  have HVb := Aside0.mk (Kd.R_below HV_.out hb)
  clear HV_
  clear HB_ hb
  try clear hd0 hd1 hd2 hd3
  obtain ⟨hd0, hd1, hd2, hd3⟩ := HBOX.out _ HB.out
  go_wp2_with fail
  go_ret
  exact ⟨rfl, below_step HB0.out HB.out⟩

set_option maxHeartbeats 16000000 in
set_option maxRecDepth 100000 in
theorem turns_key (A0 : Option Addr) (c0 : Nat) (l0 : List Ac) (key : ByteArray) (rep tp n : Int) (w : World) (hr0 : Kd.C k94 w A0 l0.length l0) (hc0 : l0.length ≤ c0) (kl : Nat) (hL : hucksterlaw11_Light.f kl l0 = some true) (hl : l0.length ≤ 60) (hs : (key.size : Int) ≤ 100) (hc : chkA l0 = true) (hk : (key.toList == ([] : List UInt8)) = true) : TurnsIs A0 c0 l0 key rep tp n w := by
  have HR := Aside0.mk hr0
  clear hr0
  have hsz : decide ((100 : Int) < (key.size : Int)) = false := by simp; omega
  have hk1 : (key.toList == ([] : List UInt8)) = true := hk
  have hk2 : key.toList.isEmpty = true := by simpa using hk1
  have hk3 : (key.toList != ([] : List UInt8)) = false := by rw [bne, hk1]; rfl
  have hub : upB l0 key rep n = false := by unfold upB; simp [hc, keyR, hk]
  have hmb : mvB l0 key rep tp n = false := by unfold mvB; simp [hc, keyR, hk]
  have hU := up_no hub
  have hM := mv_no hmb
  clear hub hmb
  unfold TurnsIs
  go_enter Try.func10, Try.ntmps10
  go_wp2_with (first | ((with_reducible refine gate_dst (N := 3) rfl ?_); refine box_event ?hg (N := 3) ?hd (cs := #[.string key, .int .i64 rep, .int .i64 tp, .int .i64 n]) (t := 61) ?hr ?_; (case hd => rfl); (case hg => rfl); (case hr => first | (go_simp; done) | (go_simp; rfl)); intro g hg w1 hbox hb; have HB0 := Aside0.mk hb; have BK0 := Aside0.mk hbox; clear hb hbox hg) | fail)
  have hbox : ∀ W : World, Below w1.heap.size w1 W → W.cell? ⟨g, 0, none⟩ = some (.string key) ∧ W.cell? ⟨g, 1, none⟩ = some (.int .i64 rep) ∧ W.cell? ⟨g, 2, none⟩ = some (.int .i64 tp) ∧ W.cell? ⟨g, 3, none⟩ = some (.int .i64 n) := fun W hW => by
    have h := blk_below BK0.out hW
    exact ⟨(blk_cell h 0).trans rfl, (blk_cell h 1).trans rfl, (blk_cell h 2).trans rfl, (blk_cell h 3).trans rfl⟩
  have HBOX := Aside0.mk hbox
  clear hbox
  have HB := Aside0.mk (Below.refl w1.heap.size w1)
  have HR1 := Aside0.mk (Kd.C_below HR.out HB0.out)
  obtain ⟨hd0, hd1, hd2, hd3⟩ := HBOX.out _ HB.out
  go_wp2_with fail
  refine (light_call kl A0 c0 l0 true _ (Kd.C_below HR1.out HB.out) hc0 hL).mono ?_
  rintro e w2 ⟨rfl, hb⟩
  have HB_ := HB
  clear HB
  have HB := Aside0.mk (below_step HB_.out hb)
  clear HB_ hb
  try clear hd0 hd1 hd2 hd3
  obtain ⟨hd0, hd1, hd2, hd3⟩ := HBOX.out _ HB.out
  go_wp2_with fail
  refine (escrow_Up.calls A0 c0 l0 key rep n [] 1 _ (Kd.C_below HR1.out HB.out) hc0 hU).mono ?_
  rintro e w3 ⟨va, rfl, hRr, hb⟩
  have HVn := Aside0.mk (Kd.R_lower hRr (below_size HB.out))
  clear hRr
  have HB_ := HB
  clear HB
  have HB := Aside0.mk (below_step HB_.out hb)
  clear HB_ hb
  try clear hd0 hd1 hd2 hd3
  have HVa := HVn
  clear HVn
  obtain ⟨Aa, ca, rfl, hca, _⟩ := Kd.R_reads HVa.out
  obtain ⟨hd0, hd1, hd2, hd3⟩ := HBOX.out _ HB.out
  go_wp2_with fail
  refine (escrow_Move.calls A0 c0 l0 key rep tp n [] 1 _ (Kd.C_below HR1.out HB.out) hc0 hM).mono ?_
  rintro e w4 ⟨vb, rfl, hRr, hb⟩
  have HVn := Aside0.mk (Kd.R_lower hRr (below_size HB.out))
  clear hRr
  have HB_ := HB
  clear HB
  have HB := Aside0.mk (below_step HB_.out hb)
  have HV_ := HVa
  clear HVa
  have HVa := Aside0.mk (Kd.R_below HV_.out hb)
  clear HV_
  clear HB_ hb
  try clear hd0 hd1 hd2 hd3
  have HVb := HVn
  clear HVn
  obtain ⟨Ab, cb, rfl, hcb, _⟩ := Kd.R_reads HVb.out
  obtain ⟨hd0, hd1, hd2, hd3⟩ := HBOX.out _ HB.out
  go_wp2_with fail
  refine (hucksterref11_Right.calls A0 c0 l0 true _ (Kd.C_below HR1.out HB.out) hc0 (right_f (by omega) hc)).mono ?_
  rintro e w5 ⟨rfl, hb⟩
  have HB_ := HB
  clear HB
  have HB := Aside0.mk (below_step HB_.out hb)
  have HV_ := HVa
  clear HVa
  have HVa := Aside0.mk (Kd.R_below HV_.out hb)
  clear HV_
  have HV_ := HVb
  clear HVb
  have HVb := Aside0.mk (Kd.R_below HV_.out hb)
  clear HV_
  clear HB_ hb
  try clear hd0 hd1 hd2 hd3
  obtain ⟨hd0, hd1, hd2, hd3⟩ := HBOX.out _ HB.out
  go_wp2_with fail
  refine (chkA_call A0 c0 l0 _ (Kd.C_below HR1.out HB.out) hc0 0 (by rw [hc]; rfl)).mono ?_
  rintro e w6 ⟨rfl, hb⟩
  have HB_ := HB
  clear HB
  have HB := Aside0.mk (below_step HB_.out hb)
  have HV_ := HVa
  clear HVa
  have HVa := Aside0.mk (Kd.R_below HV_.out hb)
  clear HV_
  have HV_ := HVb
  clear HVb
  have HVb := Aside0.mk (Kd.R_below HV_.out hb)
  clear HV_
  clear HB_ hb
  try clear hd0 hd1 hd2 hd3
  obtain ⟨hd0, hd1, hd2, hd3⟩ := HBOX.out _ HB.out
  go_wp2_with fail
  refine (hucksterref11_Right.calls A0 c0 l0 true _ (Kd.C_below HR1.out HB.out) hc0 (right_f (by omega) hc)).mono ?_
  rintro e w7 ⟨rfl, hb⟩
  have HB_ := HB
  clear HB
  have HB := Aside0.mk (below_step HB_.out hb)
  have HV_ := HVa
  clear HVa
  have HVa := Aside0.mk (Kd.R_below HV_.out hb)
  clear HV_
  have HV_ := HVb
  clear HVb
  have HVb := Aside0.mk (Kd.R_below HV_.out hb)
  clear HV_
  clear HB_ hb
  try clear hd0 hd1 hd2 hd3
  obtain ⟨hd0, hd1, hd2, hd3⟩ := HBOX.out _ HB.out
  go_wp2_with fail
  refine (awake_call _).mono ?_
  rintro e w8 ⟨rfl, hb⟩
  have HB_ := HB
  clear HB
  have HB := Aside0.mk (below_step HB_.out hb)
  have HV_ := HVa
  clear HVa
  have HVa := Aside0.mk (Kd.R_below HV_.out hb)
  clear HV_
  have HV_ := HVb
  clear HVb
  have HVb := Aside0.mk (Kd.R_below HV_.out hb)
  clear HV_
  clear HB_ hb
  try clear hd0 hd1 hd2 hd3
  obtain ⟨hd0, hd1, hd2, hd3⟩ := HBOX.out _ HB.out
  go_wp2_with fail
  go_ret
  exact ⟨rfl, below_step HB0.out HB.out⟩

set_option maxHeartbeats 16000000 in
set_option maxRecDepth 100000 in
theorem turns_size (A0 : Option Addr) (c0 : Nat) (l0 : List Ac) (key : ByteArray) (rep tp n : Int) (w : World) (hr0 : Kd.C k94 w A0 l0.length l0) (hc0 : l0.length ≤ c0) (kl : Nat) (hL : hucksterlaw11_Light.f kl l0 = some true) (hl : l0.length ≤ 60) (hs : (key.size : Int) ≤ 100) (hc : chkA l0 = true) (hk : (key.toList == ([] : List UInt8)) = false) (h32 : ¬ (key.size : Int) ≤ 32) : TurnsIs A0 c0 l0 key rep tp n w := by
  have HR := Aside0.mk hr0
  clear hr0
  have hsz : decide ((100 : Int) < (key.size : Int)) = false := by simp; omega
  have hk1 : (key.toList == ([] : List UInt8)) = false := hk
  have hk2 : key.toList.isEmpty = false := by simpa using hk1
  have hk3 : (key.toList != ([] : List UInt8)) = true := by rw [bne, hk1]; rfl
  have hz : decide ((key.size : Int) ≤ 32) = false := by simp; omega
  have hub : upB l0 key rep n = false := by unfold upB; simp [hc, keyR, hk, h32]
  have hmb : mvB l0 key rep tp n = false := by unfold mvB; simp [hc, keyR, hk, h32]
  have hU := up_no hub
  have hM := mv_no hmb
  clear hub hmb
  unfold TurnsIs
  go_enter Try.func10, Try.ntmps10
  go_wp2_with (first | ((with_reducible refine gate_dst (N := 3) rfl ?_); refine box_event ?hg (N := 3) ?hd (cs := #[.string key, .int .i64 rep, .int .i64 tp, .int .i64 n]) (t := 61) ?hr ?_; (case hd => rfl); (case hg => rfl); (case hr => first | (go_simp; done) | (go_simp; rfl)); intro g hg w1 hbox hb; have HB0 := Aside0.mk hb; have BK0 := Aside0.mk hbox; clear hb hbox hg) | fail)
  have hbox : ∀ W : World, Below w1.heap.size w1 W → W.cell? ⟨g, 0, none⟩ = some (.string key) ∧ W.cell? ⟨g, 1, none⟩ = some (.int .i64 rep) ∧ W.cell? ⟨g, 2, none⟩ = some (.int .i64 tp) ∧ W.cell? ⟨g, 3, none⟩ = some (.int .i64 n) := fun W hW => by
    have h := blk_below BK0.out hW
    exact ⟨(blk_cell h 0).trans rfl, (blk_cell h 1).trans rfl, (blk_cell h 2).trans rfl, (blk_cell h 3).trans rfl⟩
  have HBOX := Aside0.mk hbox
  clear hbox
  have HB := Aside0.mk (Below.refl w1.heap.size w1)
  have HR1 := Aside0.mk (Kd.C_below HR.out HB0.out)
  obtain ⟨hd0, hd1, hd2, hd3⟩ := HBOX.out _ HB.out
  go_wp2_with fail
  refine (light_call kl A0 c0 l0 true _ (Kd.C_below HR1.out HB.out) hc0 hL).mono ?_
  rintro e w2 ⟨rfl, hb⟩
  have HB_ := HB
  clear HB
  have HB := Aside0.mk (below_step HB_.out hb)
  clear HB_ hb
  try clear hd0 hd1 hd2 hd3
  obtain ⟨hd0, hd1, hd2, hd3⟩ := HBOX.out _ HB.out
  go_wp2_with fail
  refine (escrow_Up.calls A0 c0 l0 key rep n [] 1 _ (Kd.C_below HR1.out HB.out) hc0 hU).mono ?_
  rintro e w3 ⟨va, rfl, hRr, hb⟩
  have HVn := Aside0.mk (Kd.R_lower hRr (below_size HB.out))
  clear hRr
  have HB_ := HB
  clear HB
  have HB := Aside0.mk (below_step HB_.out hb)
  clear HB_ hb
  try clear hd0 hd1 hd2 hd3
  have HVa := HVn
  clear HVn
  obtain ⟨Aa, ca, rfl, hca, _⟩ := Kd.R_reads HVa.out
  obtain ⟨hd0, hd1, hd2, hd3⟩ := HBOX.out _ HB.out
  go_wp2_with fail
  refine (escrow_Move.calls A0 c0 l0 key rep tp n [] 1 _ (Kd.C_below HR1.out HB.out) hc0 hM).mono ?_
  rintro e w4 ⟨vb, rfl, hRr, hb⟩
  have HVn := Aside0.mk (Kd.R_lower hRr (below_size HB.out))
  clear hRr
  have HB_ := HB
  clear HB
  have HB := Aside0.mk (below_step HB_.out hb)
  have HV_ := HVa
  clear HVa
  have HVa := Aside0.mk (Kd.R_below HV_.out hb)
  clear HV_
  clear HB_ hb
  try clear hd0 hd1 hd2 hd3
  have HVb := HVn
  clear HVn
  obtain ⟨Ab, cb, rfl, hcb, _⟩ := Kd.R_reads HVb.out
  obtain ⟨hd0, hd1, hd2, hd3⟩ := HBOX.out _ HB.out
  go_wp2_with fail
  refine (hucksterref11_Right.calls A0 c0 l0 true _ (Kd.C_below HR1.out HB.out) hc0 (right_f (by omega) hc)).mono ?_
  rintro e w5 ⟨rfl, hb⟩
  have HB_ := HB
  clear HB
  have HB := Aside0.mk (below_step HB_.out hb)
  have HV_ := HVa
  clear HVa
  have HVa := Aside0.mk (Kd.R_below HV_.out hb)
  clear HV_
  have HV_ := HVb
  clear HVb
  have HVb := Aside0.mk (Kd.R_below HV_.out hb)
  clear HV_
  clear HB_ hb
  try clear hd0 hd1 hd2 hd3
  obtain ⟨hd0, hd1, hd2, hd3⟩ := HBOX.out _ HB.out
  go_wp2_with fail
  refine (chkA_call A0 c0 l0 _ (Kd.C_below HR1.out HB.out) hc0 0 (by rw [hc]; rfl)).mono ?_
  rintro e w6 ⟨rfl, hb⟩
  have HB_ := HB
  clear HB
  have HB := Aside0.mk (below_step HB_.out hb)
  have HV_ := HVa
  clear HVa
  have HVa := Aside0.mk (Kd.R_below HV_.out hb)
  clear HV_
  have HV_ := HVb
  clear HVb
  have HVb := Aside0.mk (Kd.R_below HV_.out hb)
  clear HV_
  clear HB_ hb
  try clear hd0 hd1 hd2 hd3
  obtain ⟨hd0, hd1, hd2, hd3⟩ := HBOX.out _ HB.out
  go_wp2_with fail
  refine (hucksterref11_Right.calls A0 c0 l0 true _ (Kd.C_below HR1.out HB.out) hc0 (right_f (by omega) hc)).mono ?_
  rintro e w7 ⟨rfl, hb⟩
  have HB_ := HB
  clear HB
  have HB := Aside0.mk (below_step HB_.out hb)
  have HV_ := HVa
  clear HVa
  have HVa := Aside0.mk (Kd.R_below HV_.out hb)
  clear HV_
  have HV_ := HVb
  clear HVb
  have HVb := Aside0.mk (Kd.R_below HV_.out hb)
  clear HV_
  clear HB_ hb
  try clear hd0 hd1 hd2 hd3
  obtain ⟨hd0, hd1, hd2, hd3⟩ := HBOX.out _ HB.out
  go_wp2_with fail
  refine (awake_call _).mono ?_
  rintro e w8 ⟨rfl, hb⟩
  have HB_ := HB
  clear HB
  have HB := Aside0.mk (below_step HB_.out hb)
  have HV_ := HVa
  clear HVa
  have HVa := Aside0.mk (Kd.R_below HV_.out hb)
  clear HV_
  have HV_ := HVb
  clear HVb
  have HVb := Aside0.mk (Kd.R_below HV_.out hb)
  clear HV_
  clear HB_ hb
  try clear hd0 hd1 hd2 hd3
  obtain ⟨hd0, hd1, hd2, hd3⟩ := HBOX.out _ HB.out
  go_wp2_with fail
  go_ret
  exact ⟨rfl, below_step HB0.out HB.out⟩

set_option maxHeartbeats 16000000 in
set_option maxRecDepth 100000 in
theorem turns_rep (A0 : Option Addr) (c0 : Nat) (l0 : List Ac) (key : ByteArray) (rep tp n : Int) (w : World) (hr0 : Kd.C k94 w A0 l0.length l0) (hc0 : l0.length ≤ c0) (kl : Nat) (hL : hucksterlaw11_Light.f kl l0 = some true) (hl : l0.length ≤ 60) (hs : (key.size : Int) ≤ 100) (hc : chkA l0 = true) (hk : (key.toList == ([] : List UInt8)) = false) (h32 : (key.size : Int) ≤ 32) (hr : repOk rep = false) : TurnsIs A0 c0 l0 key rep tp n w := by
  have HR := Aside0.mk hr0
  clear hr0
  have hsz : decide ((100 : Int) < (key.size : Int)) = false := by simp; omega
  have hk1 : (key.toList == ([] : List UInt8)) = false := hk
  have hk2 : key.toList.isEmpty = false := by simpa using hk1
  have hk3 : (key.toList != ([] : List UInt8)) = true := by rw [bne, hk1]; rfl
  have hz : decide ((key.size : Int) ≤ 32) = true := by simp; omega
  have hub : upB l0 key rep n = false := by unfold upB; simp [hc, keyR, hk, hr]
  have hmb : mvB l0 key rep tp n = false := by unfold mvB; simp [hc, keyR, hk, hr]
  have hU := up_no hub
  have hM := mv_no hmb
  clear hub hmb
  unfold TurnsIs
  go_enter Try.func10, Try.ntmps10
  go_wp2_with (first | ((with_reducible refine gate_dst (N := 3) rfl ?_); refine box_event ?hg (N := 3) ?hd (cs := #[.string key, .int .i64 rep, .int .i64 tp, .int .i64 n]) (t := 61) ?hr ?_; (case hd => rfl); (case hg => rfl); (case hr => first | (go_simp; done) | (go_simp; rfl)); intro g hg w1 hbox hb; have HB0 := Aside0.mk hb; have BK0 := Aside0.mk hbox; clear hb hbox hg) | fail)
  have hbox : ∀ W : World, Below w1.heap.size w1 W → W.cell? ⟨g, 0, none⟩ = some (.string key) ∧ W.cell? ⟨g, 1, none⟩ = some (.int .i64 rep) ∧ W.cell? ⟨g, 2, none⟩ = some (.int .i64 tp) ∧ W.cell? ⟨g, 3, none⟩ = some (.int .i64 n) := fun W hW => by
    have h := blk_below BK0.out hW
    exact ⟨(blk_cell h 0).trans rfl, (blk_cell h 1).trans rfl, (blk_cell h 2).trans rfl, (blk_cell h 3).trans rfl⟩
  have HBOX := Aside0.mk hbox
  clear hbox
  have HB := Aside0.mk (Below.refl w1.heap.size w1)
  have HR1 := Aside0.mk (Kd.C_below HR.out HB0.out)
  obtain ⟨hd0, hd1, hd2, hd3⟩ := HBOX.out _ HB.out
  go_wp2_with fail
  refine (light_call kl A0 c0 l0 true _ (Kd.C_below HR1.out HB.out) hc0 hL).mono ?_
  rintro e w2 ⟨rfl, hb⟩
  have HB_ := HB
  clear HB
  have HB := Aside0.mk (below_step HB_.out hb)
  clear HB_ hb
  try clear hd0 hd1 hd2 hd3
  obtain ⟨hd0, hd1, hd2, hd3⟩ := HBOX.out _ HB.out
  go_wp2_with fail
  refine (escrow_Up.calls A0 c0 l0 key rep n [] 1 _ (Kd.C_below HR1.out HB.out) hc0 hU).mono ?_
  rintro e w3 ⟨va, rfl, hRr, hb⟩
  have HVn := Aside0.mk (Kd.R_lower hRr (below_size HB.out))
  clear hRr
  have HB_ := HB
  clear HB
  have HB := Aside0.mk (below_step HB_.out hb)
  clear HB_ hb
  try clear hd0 hd1 hd2 hd3
  have HVa := HVn
  clear HVn
  obtain ⟨Aa, ca, rfl, hca, _⟩ := Kd.R_reads HVa.out
  obtain ⟨hd0, hd1, hd2, hd3⟩ := HBOX.out _ HB.out
  go_wp2_with fail
  refine (escrow_Move.calls A0 c0 l0 key rep tp n [] 1 _ (Kd.C_below HR1.out HB.out) hc0 hM).mono ?_
  rintro e w4 ⟨vb, rfl, hRr, hb⟩
  have HVn := Aside0.mk (Kd.R_lower hRr (below_size HB.out))
  clear hRr
  have HB_ := HB
  clear HB
  have HB := Aside0.mk (below_step HB_.out hb)
  have HV_ := HVa
  clear HVa
  have HVa := Aside0.mk (Kd.R_below HV_.out hb)
  clear HV_
  clear HB_ hb
  try clear hd0 hd1 hd2 hd3
  have HVb := HVn
  clear HVn
  obtain ⟨Ab, cb, rfl, hcb, _⟩ := Kd.R_reads HVb.out
  obtain ⟨hd0, hd1, hd2, hd3⟩ := HBOX.out _ HB.out
  go_wp2_with fail
  refine (hucksterref11_Right.calls A0 c0 l0 true _ (Kd.C_below HR1.out HB.out) hc0 (right_f (by omega) hc)).mono ?_
  rintro e w5 ⟨rfl, hb⟩
  have HB_ := HB
  clear HB
  have HB := Aside0.mk (below_step HB_.out hb)
  have HV_ := HVa
  clear HVa
  have HVa := Aside0.mk (Kd.R_below HV_.out hb)
  clear HV_
  have HV_ := HVb
  clear HVb
  have HVb := Aside0.mk (Kd.R_below HV_.out hb)
  clear HV_
  clear HB_ hb
  try clear hd0 hd1 hd2 hd3
  obtain ⟨hd0, hd1, hd2, hd3⟩ := HBOX.out _ HB.out
  go_wp2_with fail
  refine (there_call rep false _ hr).mono ?_
  rintro e w6 ⟨rfl, hb⟩
  have HB_ := HB
  clear HB
  have HB := Aside0.mk (below_step HB_.out hb)
  have HV_ := HVa
  clear HVa
  have HVa := Aside0.mk (Kd.R_below HV_.out hb)
  clear HV_
  have HV_ := HVb
  clear HVb
  have HVb := Aside0.mk (Kd.R_below HV_.out hb)
  clear HV_
  clear HB_ hb
  try clear hd0 hd1 hd2 hd3
  obtain ⟨hd0, hd1, hd2, hd3⟩ := HBOX.out _ HB.out
  go_wp2_with fail
  refine (chkA_call A0 c0 l0 _ (Kd.C_below HR1.out HB.out) hc0 0 (by rw [hc]; rfl)).mono ?_
  rintro e w7 ⟨rfl, hb⟩
  have HB_ := HB
  clear HB
  have HB := Aside0.mk (below_step HB_.out hb)
  have HV_ := HVa
  clear HVa
  have HVa := Aside0.mk (Kd.R_below HV_.out hb)
  clear HV_
  have HV_ := HVb
  clear HVb
  have HVb := Aside0.mk (Kd.R_below HV_.out hb)
  clear HV_
  clear HB_ hb
  try clear hd0 hd1 hd2 hd3
  obtain ⟨hd0, hd1, hd2, hd3⟩ := HBOX.out _ HB.out
  go_wp2_with fail
  refine (hucksterref11_Right.calls A0 c0 l0 true _ (Kd.C_below HR1.out HB.out) hc0 (right_f (by omega) hc)).mono ?_
  rintro e w8 ⟨rfl, hb⟩
  have HB_ := HB
  clear HB
  have HB := Aside0.mk (below_step HB_.out hb)
  have HV_ := HVa
  clear HVa
  have HVa := Aside0.mk (Kd.R_below HV_.out hb)
  clear HV_
  have HV_ := HVb
  clear HVb
  have HVb := Aside0.mk (Kd.R_below HV_.out hb)
  clear HV_
  clear HB_ hb
  try clear hd0 hd1 hd2 hd3
  obtain ⟨hd0, hd1, hd2, hd3⟩ := HBOX.out _ HB.out
  go_wp2_with fail
  refine (awake_call _).mono ?_
  rintro e w9 ⟨rfl, hb⟩
  have HB_ := HB
  clear HB
  have HB := Aside0.mk (below_step HB_.out hb)
  have HV_ := HVa
  clear HVa
  have HVa := Aside0.mk (Kd.R_below HV_.out hb)
  clear HV_
  have HV_ := HVb
  clear HVb
  have HVb := Aside0.mk (Kd.R_below HV_.out hb)
  clear HV_
  clear HB_ hb
  try clear hd0 hd1 hd2 hd3
  obtain ⟨hd0, hd1, hd2, hd3⟩ := HBOX.out _ HB.out
  go_wp2_with fail
  go_ret
  exact ⟨rfl, below_step HB0.out HB.out⟩

set_option maxHeartbeats 16000000 in
set_option maxRecDepth 100000 in
theorem turns_many (A0 : Option Addr) (c0 : Nat) (l0 : List Ac) (key : ByteArray) (rep tp n : Int) (w : World) (hr0 : Kd.C k94 w A0 l0.length l0) (hc0 : l0.length ≤ c0) (kl : Nat) (hL : hucksterlaw11_Light.f kl l0 = some true) (hl : l0.length ≤ 60) (hs : (key.size : Int) ≤ 100) (hc : chkA l0 = true) (hk : (key.toList == ([] : List UInt8)) = false) (h32 : (key.size : Int) ≤ 32) (hr : repOk rep = true) (hn0 : ¬ n ≤ 1000) : TurnsIs A0 c0 l0 key rep tp n w := by
  have HR := Aside0.mk hr0
  clear hr0
  have hsz : decide ((100 : Int) < (key.size : Int)) = false := by simp; omega
  have hk1 : (key.toList == ([] : List UInt8)) = false := hk
  have hk2 : key.toList.isEmpty = false := by simpa using hk1
  have hk3 : (key.toList != ([] : List UInt8)) = true := by rw [bne, hk1]; rfl
  have hz : decide ((key.size : Int) ≤ 32) = true := by simp; omega
  have hn : decide (n ≤ (1000 : Int)) = false := by simp; omega
  have hub : upB l0 key rep n = false := by unfold upB; simp [hc, keyR, hk, hr, hn0]
  have hmb : mvB l0 key rep tp n = false := by unfold mvB; simp [hc, keyR, hk, hr, hn0]
  have hU := up_no hub
  have hM := mv_no hmb
  clear hub hmb
  unfold TurnsIs
  go_enter Try.func10, Try.ntmps10
  go_wp2_with (first | ((with_reducible refine gate_dst (N := 3) rfl ?_); refine box_event ?hg (N := 3) ?hd (cs := #[.string key, .int .i64 rep, .int .i64 tp, .int .i64 n]) (t := 61) ?hr ?_; (case hd => rfl); (case hg => rfl); (case hr => first | (go_simp; done) | (go_simp; rfl)); intro g hg w1 hbox hb; have HB0 := Aside0.mk hb; have BK0 := Aside0.mk hbox; clear hb hbox hg) | fail)
  have hbox : ∀ W : World, Below w1.heap.size w1 W → W.cell? ⟨g, 0, none⟩ = some (.string key) ∧ W.cell? ⟨g, 1, none⟩ = some (.int .i64 rep) ∧ W.cell? ⟨g, 2, none⟩ = some (.int .i64 tp) ∧ W.cell? ⟨g, 3, none⟩ = some (.int .i64 n) := fun W hW => by
    have h := blk_below BK0.out hW
    exact ⟨(blk_cell h 0).trans rfl, (blk_cell h 1).trans rfl, (blk_cell h 2).trans rfl, (blk_cell h 3).trans rfl⟩
  have HBOX := Aside0.mk hbox
  clear hbox
  have HB := Aside0.mk (Below.refl w1.heap.size w1)
  have HR1 := Aside0.mk (Kd.C_below HR.out HB0.out)
  obtain ⟨hd0, hd1, hd2, hd3⟩ := HBOX.out _ HB.out
  go_wp2_with fail
  refine (light_call kl A0 c0 l0 true _ (Kd.C_below HR1.out HB.out) hc0 hL).mono ?_
  rintro e w2 ⟨rfl, hb⟩
  have HB_ := HB
  clear HB
  have HB := Aside0.mk (below_step HB_.out hb)
  clear HB_ hb
  try clear hd0 hd1 hd2 hd3
  obtain ⟨hd0, hd1, hd2, hd3⟩ := HBOX.out _ HB.out
  go_wp2_with fail
  refine (escrow_Up.calls A0 c0 l0 key rep n [] 1 _ (Kd.C_below HR1.out HB.out) hc0 hU).mono ?_
  rintro e w3 ⟨va, rfl, hRr, hb⟩
  have HVn := Aside0.mk (Kd.R_lower hRr (below_size HB.out))
  clear hRr
  have HB_ := HB
  clear HB
  have HB := Aside0.mk (below_step HB_.out hb)
  clear HB_ hb
  try clear hd0 hd1 hd2 hd3
  have HVa := HVn
  clear HVn
  obtain ⟨Aa, ca, rfl, hca, _⟩ := Kd.R_reads HVa.out
  obtain ⟨hd0, hd1, hd2, hd3⟩ := HBOX.out _ HB.out
  go_wp2_with fail
  refine (escrow_Move.calls A0 c0 l0 key rep tp n [] 1 _ (Kd.C_below HR1.out HB.out) hc0 hM).mono ?_
  rintro e w4 ⟨vb, rfl, hRr, hb⟩
  have HVn := Aside0.mk (Kd.R_lower hRr (below_size HB.out))
  clear hRr
  have HB_ := HB
  clear HB
  have HB := Aside0.mk (below_step HB_.out hb)
  have HV_ := HVa
  clear HVa
  have HVa := Aside0.mk (Kd.R_below HV_.out hb)
  clear HV_
  clear HB_ hb
  try clear hd0 hd1 hd2 hd3
  have HVb := HVn
  clear HVn
  obtain ⟨Ab, cb, rfl, hcb, _⟩ := Kd.R_reads HVb.out
  obtain ⟨hd0, hd1, hd2, hd3⟩ := HBOX.out _ HB.out
  go_wp2_with fail
  refine (hucksterref11_Right.calls A0 c0 l0 true _ (Kd.C_below HR1.out HB.out) hc0 (right_f (by omega) hc)).mono ?_
  rintro e w5 ⟨rfl, hb⟩
  have HB_ := HB
  clear HB
  have HB := Aside0.mk (below_step HB_.out hb)
  have HV_ := HVa
  clear HVa
  have HVa := Aside0.mk (Kd.R_below HV_.out hb)
  clear HV_
  have HV_ := HVb
  clear HVb
  have HVb := Aside0.mk (Kd.R_below HV_.out hb)
  clear HV_
  clear HB_ hb
  try clear hd0 hd1 hd2 hd3
  obtain ⟨hd0, hd1, hd2, hd3⟩ := HBOX.out _ HB.out
  go_wp2_with fail
  refine (there_call rep true _ hr).mono ?_
  rintro e w6 ⟨rfl, hb⟩
  have HB_ := HB
  clear HB
  have HB := Aside0.mk (below_step HB_.out hb)
  have HV_ := HVa
  clear HVa
  have HVa := Aside0.mk (Kd.R_below HV_.out hb)
  clear HV_
  have HV_ := HVb
  clear HVb
  have HVb := Aside0.mk (Kd.R_below HV_.out hb)
  clear HV_
  clear HB_ hb
  try clear hd0 hd1 hd2 hd3
  obtain ⟨hd0, hd1, hd2, hd3⟩ := HBOX.out _ HB.out
  go_wp2_with fail
  refine (chkA_call A0 c0 l0 _ (Kd.C_below HR1.out HB.out) hc0 0 (by rw [hc]; rfl)).mono ?_
  rintro e w7 ⟨rfl, hb⟩
  have HB_ := HB
  clear HB
  have HB := Aside0.mk (below_step HB_.out hb)
  have HV_ := HVa
  clear HVa
  have HVa := Aside0.mk (Kd.R_below HV_.out hb)
  clear HV_
  have HV_ := HVb
  clear HVb
  have HVb := Aside0.mk (Kd.R_below HV_.out hb)
  clear HV_
  clear HB_ hb
  try clear hd0 hd1 hd2 hd3
  obtain ⟨hd0, hd1, hd2, hd3⟩ := HBOX.out _ HB.out
  go_wp2_with fail
  refine (hucksterref11_Right.calls A0 c0 l0 true _ (Kd.C_below HR1.out HB.out) hc0 (right_f (by omega) hc)).mono ?_
  rintro e w8 ⟨rfl, hb⟩
  have HB_ := HB
  clear HB
  have HB := Aside0.mk (below_step HB_.out hb)
  have HV_ := HVa
  clear HVa
  have HVa := Aside0.mk (Kd.R_below HV_.out hb)
  clear HV_
  have HV_ := HVb
  clear HVb
  have HVb := Aside0.mk (Kd.R_below HV_.out hb)
  clear HV_
  clear HB_ hb
  try clear hd0 hd1 hd2 hd3
  obtain ⟨hd0, hd1, hd2, hd3⟩ := HBOX.out _ HB.out
  go_wp2_with fail
  refine (awake_call _).mono ?_
  rintro e w9 ⟨rfl, hb⟩
  have HB_ := HB
  clear HB
  have HB := Aside0.mk (below_step HB_.out hb)
  have HV_ := HVa
  clear HVa
  have HVa := Aside0.mk (Kd.R_below HV_.out hb)
  clear HV_
  have HV_ := HVb
  clear HVb
  have HVb := Aside0.mk (Kd.R_below HV_.out hb)
  clear HV_
  clear HB_ hb
  try clear hd0 hd1 hd2 hd3
  obtain ⟨hd0, hd1, hd2, hd3⟩ := HBOX.out _ HB.out
  go_wp2_with fail
  go_ret
  exact ⟨rfl, below_step HB0.out HB.out⟩

set_option maxHeartbeats 16000000 in
set_option maxRecDepth 100000 in
theorem turns_low (A0 : Option Addr) (c0 : Nat) (l0 : List Ac) (key : ByteArray) (rep tp n : Int) (w : World) (hr0 : Kd.C k94 w A0 l0.length l0) (hc0 : l0.length ≤ c0) (kl : Nat) (hL : hucksterlaw11_Light.f kl l0 = some true) (hl : l0.length ≤ 60) (hs : (key.size : Int) ≤ 100) (hc : chkA l0 = true) (hk : (key.toList == ([] : List UInt8)) = false) (h32 : (key.size : Int) ≤ 32) (hr : repOk rep = true) (hn0 : n ≤ 1000) (hlo : n < -1000) : TurnsIs A0 c0 l0 key rep tp n w := by
  have HR := Aside0.mk hr0
  clear hr0
  have hsz : decide ((100 : Int) < (key.size : Int)) = false := by simp; omega
  have hk1 : (key.toList == ([] : List UInt8)) = false := hk
  have hk2 : key.toList.isEmpty = false := by simpa using hk1
  have hk3 : (key.toList != ([] : List UInt8)) = true := by rw [bne, hk1]; rfl
  have hz : decide ((key.size : Int) ≤ 32) = true := by simp; omega
  have hn : decide (n ≤ (1000 : Int)) = true := by simp; omega
  have hq : decide (n < (-1000 : Int)) = true := by simp; omega
  have hq2 : decide (n < (1 : Int)) = true := by simp; omega
  have hub : upB l0 key rep n = false := by unfold upB; simp; omega
  have hmb : mvB l0 key rep tp n = false := by unfold mvB; simp; omega
  have hU := up_no hub
  have hM := mv_no hmb
  clear hub hmb
  unfold TurnsIs
  go_enter Try.func10, Try.ntmps10
  go_wp2_with (first | ((with_reducible refine gate_dst (N := 3) rfl ?_); refine box_event ?hg (N := 3) ?hd (cs := #[.string key, .int .i64 rep, .int .i64 tp, .int .i64 n]) (t := 61) ?hr ?_; (case hd => rfl); (case hg => rfl); (case hr => first | (go_simp; done) | (go_simp; rfl)); intro g hg w1 hbox hb; have HB0 := Aside0.mk hb; have BK0 := Aside0.mk hbox; clear hb hbox hg) | fail)
  have hbox : ∀ W : World, Below w1.heap.size w1 W → W.cell? ⟨g, 0, none⟩ = some (.string key) ∧ W.cell? ⟨g, 1, none⟩ = some (.int .i64 rep) ∧ W.cell? ⟨g, 2, none⟩ = some (.int .i64 tp) ∧ W.cell? ⟨g, 3, none⟩ = some (.int .i64 n) := fun W hW => by
    have h := blk_below BK0.out hW
    exact ⟨(blk_cell h 0).trans rfl, (blk_cell h 1).trans rfl, (blk_cell h 2).trans rfl, (blk_cell h 3).trans rfl⟩
  have HBOX := Aside0.mk hbox
  clear hbox
  have HB := Aside0.mk (Below.refl w1.heap.size w1)
  have HR1 := Aside0.mk (Kd.C_below HR.out HB0.out)
  obtain ⟨hd0, hd1, hd2, hd3⟩ := HBOX.out _ HB.out
  go_wp2_with fail
  refine (light_call kl A0 c0 l0 true _ (Kd.C_below HR1.out HB.out) hc0 hL).mono ?_
  rintro e w2 ⟨rfl, hb⟩
  have HB_ := HB
  clear HB
  have HB := Aside0.mk (below_step HB_.out hb)
  clear HB_ hb
  try clear hd0 hd1 hd2 hd3
  obtain ⟨hd0, hd1, hd2, hd3⟩ := HBOX.out _ HB.out
  go_wp2_with fail
  refine (escrow_Up.calls A0 c0 l0 key rep n [] 1 _ (Kd.C_below HR1.out HB.out) hc0 hU).mono ?_
  rintro e w3 ⟨va, rfl, hRr, hb⟩
  have HVn := Aside0.mk (Kd.R_lower hRr (below_size HB.out))
  clear hRr
  have HB_ := HB
  clear HB
  have HB := Aside0.mk (below_step HB_.out hb)
  clear HB_ hb
  try clear hd0 hd1 hd2 hd3
  have HVa := HVn
  clear HVn
  obtain ⟨Aa, ca, rfl, hca, _⟩ := Kd.R_reads HVa.out
  obtain ⟨hd0, hd1, hd2, hd3⟩ := HBOX.out _ HB.out
  go_wp2_with fail
  refine (escrow_Move.calls A0 c0 l0 key rep tp n [] 1 _ (Kd.C_below HR1.out HB.out) hc0 hM).mono ?_
  rintro e w4 ⟨vb, rfl, hRr, hb⟩
  have HVn := Aside0.mk (Kd.R_lower hRr (below_size HB.out))
  clear hRr
  have HB_ := HB
  clear HB
  have HB := Aside0.mk (below_step HB_.out hb)
  have HV_ := HVa
  clear HVa
  have HVa := Aside0.mk (Kd.R_below HV_.out hb)
  clear HV_
  clear HB_ hb
  try clear hd0 hd1 hd2 hd3
  have HVb := HVn
  clear HVn
  obtain ⟨Ab, cb, rfl, hcb, _⟩ := Kd.R_reads HVb.out
  obtain ⟨hd0, hd1, hd2, hd3⟩ := HBOX.out _ HB.out
  go_wp2_with fail
  refine (hucksterref11_Right.calls A0 c0 l0 true _ (Kd.C_below HR1.out HB.out) hc0 (right_f (by omega) hc)).mono ?_
  rintro e w5 ⟨rfl, hb⟩
  have HB_ := HB
  clear HB
  have HB := Aside0.mk (below_step HB_.out hb)
  have HV_ := HVa
  clear HVa
  have HVa := Aside0.mk (Kd.R_below HV_.out hb)
  clear HV_
  have HV_ := HVb
  clear HVb
  have HVb := Aside0.mk (Kd.R_below HV_.out hb)
  clear HV_
  clear HB_ hb
  try clear hd0 hd1 hd2 hd3
  obtain ⟨hd0, hd1, hd2, hd3⟩ := HBOX.out _ HB.out
  go_wp2_with fail
  refine (there_call rep true _ hr).mono ?_
  rintro e w6 ⟨rfl, hb⟩
  have HB_ := HB
  clear HB
  have HB := Aside0.mk (below_step HB_.out hb)
  have HV_ := HVa
  clear HVa
  have HVa := Aside0.mk (Kd.R_below HV_.out hb)
  clear HV_
  have HV_ := HVb
  clear HVb
  have HVb := Aside0.mk (Kd.R_below HV_.out hb)
  clear HV_
  clear HB_ hb
  try clear hd0 hd1 hd2 hd3
  obtain ⟨hd0, hd1, hd2, hd3⟩ := HBOX.out _ HB.out
  go_wp2_with fail
  refine (chkA_call A0 c0 l0 _ (Kd.C_below HR1.out HB.out) hc0 0 (by rw [hc]; rfl)).mono ?_
  rintro e w7 ⟨rfl, hb⟩
  have HB_ := HB
  clear HB
  have HB := Aside0.mk (below_step HB_.out hb)
  have HV_ := HVa
  clear HVa
  have HVa := Aside0.mk (Kd.R_below HV_.out hb)
  clear HV_
  have HV_ := HVb
  clear HVb
  have HVb := Aside0.mk (Kd.R_below HV_.out hb)
  clear HV_
  clear HB_ hb
  try clear hd0 hd1 hd2 hd3
  obtain ⟨hd0, hd1, hd2, hd3⟩ := HBOX.out _ HB.out
  go_wp2_with fail
  refine (hucksterref11_Right.calls A0 c0 l0 true _ (Kd.C_below HR1.out HB.out) hc0 (right_f (by omega) hc)).mono ?_
  rintro e w8 ⟨rfl, hb⟩
  have HB_ := HB
  clear HB
  have HB := Aside0.mk (below_step HB_.out hb)
  have HV_ := HVa
  clear HVa
  have HVa := Aside0.mk (Kd.R_below HV_.out hb)
  clear HV_
  have HV_ := HVb
  clear HVb
  have HVb := Aside0.mk (Kd.R_below HV_.out hb)
  clear HV_
  clear HB_ hb
  try clear hd0 hd1 hd2 hd3
  obtain ⟨hd0, hd1, hd2, hd3⟩ := HBOX.out _ HB.out
  go_wp2_with fail
  refine (awake_call _).mono ?_
  rintro e w9 ⟨rfl, hb⟩
  have HB_ := HB
  clear HB
  have HB := Aside0.mk (below_step HB_.out hb)
  have HV_ := HVa
  clear HVa
  have HVa := Aside0.mk (Kd.R_below HV_.out hb)
  clear HV_
  have HV_ := HVb
  clear HVb
  have HVb := Aside0.mk (Kd.R_below HV_.out hb)
  clear HV_
  clear HB_ hb
  try clear hd0 hd1 hd2 hd3
  obtain ⟨hd0, hd1, hd2, hd3⟩ := HBOX.out _ HB.out
  go_wp2_with fail
  go_ret
  exact ⟨rfl, below_step HB0.out HB.out⟩

set_option maxHeartbeats 16000000 in
set_option maxRecDepth 100000 in
theorem turns_full_few (A0 : Option Addr) (c0 : Nat) (l0 : List Ac) (key : ByteArray) (rep tp n : Int) (w : World) (hr0 : Kd.C k94 w A0 l0.length l0) (hc0 : l0.length ≤ c0) (kl : Nat) (hL : hucksterlaw11_Light.f kl l0 = some true) (hl : l0.length ≤ 60) (hs : (key.size : Int) ≤ 100) (hc : chkA l0 = true) (hk : (key.toList == ([] : List UInt8)) = false) (h32 : (key.size : Int) ≤ 32) (hr : repOk rep = true) (hn0 : n ≤ 1000) (hlo : -1000 ≤ n) (hfull : chkA (setA l0 key (upR (getA l0 key) rep n)) = false) (hn1 : n < 1) : TurnsIs A0 c0 l0 key rep tp n w := by
  have HR := Aside0.mk hr0
  clear hr0
  have hsz : decide ((100 : Int) < (key.size : Int)) = false := by simp; omega
  have hk1 : (key.toList == ([] : List UInt8)) = false := hk
  have hk2 : key.toList.isEmpty = false := by simpa using hk1
  have hk3 : (key.toList != ([] : List UInt8)) = true := by rw [bne, hk1]; rfl
  have hz : decide ((key.size : Int) ≤ 32) = true := by simp; omega
  have hn : decide (n ≤ (1000 : Int)) = true := by simp; omega
  have hq : decide (n < (-1000 : Int)) = false := by simp; omega
  have hub : upB l0 key rep n = true := by unfold upB keyR; simp [hc, hk, h32, hr, hn0, hlo]
  have hlW : (setA l0 key (upR (getA l0 key) rep n)).length ≤ 61 := by have := setA_len l0 key (upR (getA l0 key) rep n); omega
  have hAdd := add_f (key := key) hl hc hr hlo hn0
  have hU := up_full hub hfull
  have hq2 : decide (n < (1 : Int)) = true := by simp; omega
  have hmb : mvB l0 key rep tp n = false := by unfold mvB; simp; omega
  have hM := mv_no hmb
  clear hub hmb
  generalize hW1 : setA l0 key (upR (getA l0 key) rep n) = W1 at *
  have HW1 := Aside0.mk hW1
  clear hW1

  unfold TurnsIs
  go_enter Try.func10, Try.ntmps10
  go_wp2_with (first | ((with_reducible refine gate_dst (N := 3) rfl ?_); refine box_event ?hg (N := 3) ?hd (cs := #[.string key, .int .i64 rep, .int .i64 tp, .int .i64 n]) (t := 61) ?hr ?_; (case hd => rfl); (case hg => rfl); (case hr => first | (go_simp; done) | (go_simp; rfl)); intro g hg w1 hbox hb; have HB0 := Aside0.mk hb; have BK0 := Aside0.mk hbox; clear hb hbox hg) | fail)
  have hbox : ∀ W : World, Below w1.heap.size w1 W → W.cell? ⟨g, 0, none⟩ = some (.string key) ∧ W.cell? ⟨g, 1, none⟩ = some (.int .i64 rep) ∧ W.cell? ⟨g, 2, none⟩ = some (.int .i64 tp) ∧ W.cell? ⟨g, 3, none⟩ = some (.int .i64 n) := fun W hW => by
    have h := blk_below BK0.out hW
    exact ⟨(blk_cell h 0).trans rfl, (blk_cell h 1).trans rfl, (blk_cell h 2).trans rfl, (blk_cell h 3).trans rfl⟩
  have HBOX := Aside0.mk hbox
  clear hbox
  have HB := Aside0.mk (Below.refl w1.heap.size w1)
  have HR1 := Aside0.mk (Kd.C_below HR.out HB0.out)
  obtain ⟨hd0, hd1, hd2, hd3⟩ := HBOX.out _ HB.out
  go_wp2_with fail
  refine (light_call kl A0 c0 l0 true _ (Kd.C_below HR1.out HB.out) hc0 hL).mono ?_
  rintro e w2 ⟨rfl, hb⟩
  have HB_ := HB
  clear HB
  have HB := Aside0.mk (below_step HB_.out hb)
  clear HB_ hb
  try clear hd0 hd1 hd2 hd3
  obtain ⟨hd0, hd1, hd2, hd3⟩ := HBOX.out _ HB.out
  go_wp2_with fail
  refine (escrow_Up.calls A0 c0 l0 key rep n [] 6 _ (Kd.C_below HR1.out HB.out) hc0 hU).mono ?_
  rintro e w3 ⟨va, rfl, hRr, hb⟩
  have HVn := Aside0.mk (Kd.R_lower hRr (below_size HB.out))
  clear hRr
  have HB_ := HB
  clear HB
  have HB := Aside0.mk (below_step HB_.out hb)
  clear HB_ hb
  try clear hd0 hd1 hd2 hd3
  have HVa := HVn
  clear HVn
  obtain ⟨Aa, ca, rfl, hca, _⟩ := Kd.R_reads HVa.out
  obtain ⟨hd0, hd1, hd2, hd3⟩ := HBOX.out _ HB.out
  go_wp2_with fail
  refine (escrow_Move.calls A0 c0 l0 key rep tp n [] 1 _ (Kd.C_below HR1.out HB.out) hc0 hM).mono ?_
  rintro e w4 ⟨vb, rfl, hRr, hb⟩
  have HVn := Aside0.mk (Kd.R_lower hRr (below_size HB.out))
  clear hRr
  have HB_ := HB
  clear HB
  have HB := Aside0.mk (below_step HB_.out hb)
  have HV_ := HVa
  clear HVa
  have HVa := Aside0.mk (Kd.R_below HV_.out hb)
  clear HV_
  clear HB_ hb
  try clear hd0 hd1 hd2 hd3
  have HVb := HVn
  clear HVn
  obtain ⟨Ab, cb, rfl, hcb, _⟩ := Kd.R_reads HVb.out
  obtain ⟨hd0, hd1, hd2, hd3⟩ := HBOX.out _ HB.out
  go_wp2_with fail
  refine (hucksterref11_Right.calls A0 c0 l0 true _ (Kd.C_below HR1.out HB.out) hc0 (right_f (by omega) hc)).mono ?_
  rintro e w5 ⟨rfl, hb⟩
  have HB_ := HB
  clear HB
  have HB := Aside0.mk (below_step HB_.out hb)
  have HV_ := HVa
  clear HVa
  have HVa := Aside0.mk (Kd.R_below HV_.out hb)
  clear HV_
  have HV_ := HVb
  clear HVb
  have HVb := Aside0.mk (Kd.R_below HV_.out hb)
  clear HV_
  clear HB_ hb
  try clear hd0 hd1 hd2 hd3
  obtain ⟨hd0, hd1, hd2, hd3⟩ := HBOX.out _ HB.out
  go_wp2_with fail
  refine (there_call rep true _ hr).mono ?_
  rintro e w6 ⟨rfl, hb⟩
  have HB_ := HB
  clear HB
  have HB := Aside0.mk (below_step HB_.out hb)
  have HV_ := HVa
  clear HVa
  have HVa := Aside0.mk (Kd.R_below HV_.out hb)
  clear HV_
  have HV_ := HVb
  clear HVb
  have HVb := Aside0.mk (Kd.R_below HV_.out hb)
  clear HV_
  clear HB_ hb
  try clear hd0 hd1 hd2 hd3
  obtain ⟨hd0, hd1, hd2, hd3⟩ := HBOX.out _ HB.out
  go_wp2_with fail
  refine (chkA_call A0 c0 l0 _ (Kd.C_below HR1.out HB.out) hc0 0 (by rw [hc]; rfl)).mono ?_
  rintro e w7 ⟨rfl, hb⟩
  have HB_ := HB
  clear HB
  have HB := Aside0.mk (below_step HB_.out hb)
  have HV_ := HVa
  clear HVa
  have HVa := Aside0.mk (Kd.R_below HV_.out hb)
  clear HV_
  have HV_ := HVb
  clear HVb
  have HVb := Aside0.mk (Kd.R_below HV_.out hb)
  clear HV_
  clear HB_ hb
  try clear hd0 hd1 hd2 hd3
  obtain ⟨hd0, hd1, hd2, hd3⟩ := HBOX.out _ HB.out
  go_wp2_with fail
  refine (hucksterref11_Right.calls A0 c0 l0 true _ (Kd.C_below HR1.out HB.out) hc0 (right_f (by omega) hc)).mono ?_
  rintro e w8 ⟨rfl, hb⟩
  have HB_ := HB
  clear HB
  have HB := Aside0.mk (below_step HB_.out hb)
  have HV_ := HVa
  clear HVa
  have HVa := Aside0.mk (Kd.R_below HV_.out hb)
  clear HV_
  have HV_ := HVb
  clear HVb
  have HVb := Aside0.mk (Kd.R_below HV_.out hb)
  clear HV_
  clear HB_ hb
  try clear hd0 hd1 hd2 hd3
  obtain ⟨hd0, hd1, hd2, hd3⟩ := HBOX.out _ HB.out
  go_wp2_with fail
  refine (hucksterref11_Add.calls A0 c0 l0 key rep n W1 _ (Kd.C_below HR1.out HB.out) hc0 hAdd).mono ?_
  rintro e w9 ⟨vw, rfl, hRr, hb⟩
  have HVn := Aside0.mk (Kd.R_lower hRr (below_size HB.out))
  clear hRr
  have HB_ := HB
  clear HB
  have HB := Aside0.mk (below_step HB_.out hb)
  have HV_ := HVa
  clear HVa
  have HVa := Aside0.mk (Kd.R_below HV_.out hb)
  clear HV_
  have HV_ := HVb
  clear HVb
  have HVb := Aside0.mk (Kd.R_below HV_.out hb)
  clear HV_
  clear HB_ hb
  try clear hd0 hd1 hd2 hd3
  have HVw := HVn
  clear HVn
  obtain ⟨Aw, cw, rfl, hcw, _⟩ := Kd.R_reads HVw.out
  obtain ⟨hd0, hd1, hd2, hd3⟩ := HBOX.out _ HB.out
  go_wp2_with fail
  refine (hucksterref11_Right.calls Aw cw W1 false _ (Kd.R_reads' HVw.out).2.2 hcw (right_f (by omega) hfull)).mono ?_
  rintro e w10 ⟨rfl, hb⟩
  have HB_ := HB
  clear HB
  have HB := Aside0.mk (below_step HB_.out hb)
  have HV_ := HVa
  clear HVa
  have HVa := Aside0.mk (Kd.R_below HV_.out hb)
  clear HV_
  have HV_ := HVb
  clear HVb
  have HVb := Aside0.mk (Kd.R_below HV_.out hb)
  clear HV_
  have HV_ := HVw
  clear HVw
  have HVw := Aside0.mk (Kd.R_below HV_.out hb)
  clear HV_
  clear HB_ hb
  try clear hd0 hd1 hd2 hd3
  clear HVa
  clear HVw
  obtain ⟨hd0, hd1, hd2, hd3⟩ := HBOX.out _ HB.out
  go_wp2_with fail
  refine (awake_call _).mono ?_
  rintro e w11 ⟨rfl, hb⟩
  have HB_ := HB
  clear HB
  have HB := Aside0.mk (below_step HB_.out hb)
  have HV_ := HVb
  clear HVb
  have HVb := Aside0.mk (Kd.R_below HV_.out hb)
  clear HV_
  clear HB_ hb
  try clear hd0 hd1 hd2 hd3
  obtain ⟨hd0, hd1, hd2, hd3⟩ := HBOX.out _ HB.out
  go_wp2_with fail
  go_ret
  exact ⟨rfl, below_step HB0.out HB.out⟩

set_option maxHeartbeats 16000000 in
set_option maxRecDepth 100000 in
theorem turns_full_to (A0 : Option Addr) (c0 : Nat) (l0 : List Ac) (key : ByteArray) (rep tp n : Int) (w : World) (hr0 : Kd.C k94 w A0 l0.length l0) (hc0 : l0.length ≤ c0) (kl : Nat) (hL : hucksterlaw11_Light.f kl l0 = some true) (hl : l0.length ≤ 60) (hs : (key.size : Int) ≤ 100) (hc : chkA l0 = true) (hk : (key.toList == ([] : List UInt8)) = false) (h32 : (key.size : Int) ≤ 32) (hr : repOk rep = true) (hn0 : n ≤ 1000) (hlo : -1000 ≤ n) (hfull : chkA (setA l0 key (upR (getA l0 key) rep n)) = false) (hn1 : 1 ≤ n) (ht : repOk tp = false) : TurnsIs A0 c0 l0 key rep tp n w := by
  have HR := Aside0.mk hr0
  clear hr0
  have hsz : decide ((100 : Int) < (key.size : Int)) = false := by simp; omega
  have hk1 : (key.toList == ([] : List UInt8)) = false := hk
  have hk2 : key.toList.isEmpty = false := by simpa using hk1
  have hk3 : (key.toList != ([] : List UInt8)) = true := by rw [bne, hk1]; rfl
  have hz : decide ((key.size : Int) ≤ 32) = true := by simp; omega
  have hn : decide (n ≤ (1000 : Int)) = true := by simp; omega
  have hq : decide (n < (-1000 : Int)) = false := by simp; omega
  have hub : upB l0 key rep n = true := by unfold upB keyR; simp [hc, hk, h32, hr, hn0, hlo]
  have hlW : (setA l0 key (upR (getA l0 key) rep n)).length ≤ 61 := by have := setA_len l0 key (upR (getA l0 key) rep n); omega
  have hAdd := add_f (key := key) hl hc hr hlo hn0
  have hU := up_full hub hfull
  have hq2 : decide (n < (1 : Int)) = false := by simp; omega
  have hmb : mvB l0 key rep tp n = false := by unfold mvB; simp [ht]
  have hM := mv_no hmb
  clear hub hmb
  generalize hW1 : setA l0 key (upR (getA l0 key) rep n) = W1 at *
  have HW1 := Aside0.mk hW1
  clear hW1

  unfold TurnsIs
  go_enter Try.func10, Try.ntmps10
  go_wp2_with (first | ((with_reducible refine gate_dst (N := 3) rfl ?_); refine box_event ?hg (N := 3) ?hd (cs := #[.string key, .int .i64 rep, .int .i64 tp, .int .i64 n]) (t := 61) ?hr ?_; (case hd => rfl); (case hg => rfl); (case hr => first | (go_simp; done) | (go_simp; rfl)); intro g hg w1 hbox hb; have HB0 := Aside0.mk hb; have BK0 := Aside0.mk hbox; clear hb hbox hg) | fail)
  have hbox : ∀ W : World, Below w1.heap.size w1 W → W.cell? ⟨g, 0, none⟩ = some (.string key) ∧ W.cell? ⟨g, 1, none⟩ = some (.int .i64 rep) ∧ W.cell? ⟨g, 2, none⟩ = some (.int .i64 tp) ∧ W.cell? ⟨g, 3, none⟩ = some (.int .i64 n) := fun W hW => by
    have h := blk_below BK0.out hW
    exact ⟨(blk_cell h 0).trans rfl, (blk_cell h 1).trans rfl, (blk_cell h 2).trans rfl, (blk_cell h 3).trans rfl⟩
  have HBOX := Aside0.mk hbox
  clear hbox
  have HB := Aside0.mk (Below.refl w1.heap.size w1)
  have HR1 := Aside0.mk (Kd.C_below HR.out HB0.out)
  obtain ⟨hd0, hd1, hd2, hd3⟩ := HBOX.out _ HB.out
  go_wp2_with fail
  refine (light_call kl A0 c0 l0 true _ (Kd.C_below HR1.out HB.out) hc0 hL).mono ?_
  rintro e w2 ⟨rfl, hb⟩
  have HB_ := HB
  clear HB
  have HB := Aside0.mk (below_step HB_.out hb)
  clear HB_ hb
  try clear hd0 hd1 hd2 hd3
  obtain ⟨hd0, hd1, hd2, hd3⟩ := HBOX.out _ HB.out
  go_wp2_with fail
  refine (escrow_Up.calls A0 c0 l0 key rep n [] 6 _ (Kd.C_below HR1.out HB.out) hc0 hU).mono ?_
  rintro e w3 ⟨va, rfl, hRr, hb⟩
  have HVn := Aside0.mk (Kd.R_lower hRr (below_size HB.out))
  clear hRr
  have HB_ := HB
  clear HB
  have HB := Aside0.mk (below_step HB_.out hb)
  clear HB_ hb
  try clear hd0 hd1 hd2 hd3
  have HVa := HVn
  clear HVn
  obtain ⟨Aa, ca, rfl, hca, _⟩ := Kd.R_reads HVa.out
  obtain ⟨hd0, hd1, hd2, hd3⟩ := HBOX.out _ HB.out
  go_wp2_with fail
  refine (escrow_Move.calls A0 c0 l0 key rep tp n [] 1 _ (Kd.C_below HR1.out HB.out) hc0 hM).mono ?_
  rintro e w4 ⟨vb, rfl, hRr, hb⟩
  have HVn := Aside0.mk (Kd.R_lower hRr (below_size HB.out))
  clear hRr
  have HB_ := HB
  clear HB
  have HB := Aside0.mk (below_step HB_.out hb)
  have HV_ := HVa
  clear HVa
  have HVa := Aside0.mk (Kd.R_below HV_.out hb)
  clear HV_
  clear HB_ hb
  try clear hd0 hd1 hd2 hd3
  have HVb := HVn
  clear HVn
  obtain ⟨Ab, cb, rfl, hcb, _⟩ := Kd.R_reads HVb.out
  obtain ⟨hd0, hd1, hd2, hd3⟩ := HBOX.out _ HB.out
  go_wp2_with fail
  refine (hucksterref11_Right.calls A0 c0 l0 true _ (Kd.C_below HR1.out HB.out) hc0 (right_f (by omega) hc)).mono ?_
  rintro e w5 ⟨rfl, hb⟩
  have HB_ := HB
  clear HB
  have HB := Aside0.mk (below_step HB_.out hb)
  have HV_ := HVa
  clear HVa
  have HVa := Aside0.mk (Kd.R_below HV_.out hb)
  clear HV_
  have HV_ := HVb
  clear HVb
  have HVb := Aside0.mk (Kd.R_below HV_.out hb)
  clear HV_
  clear HB_ hb
  try clear hd0 hd1 hd2 hd3
  obtain ⟨hd0, hd1, hd2, hd3⟩ := HBOX.out _ HB.out
  go_wp2_with fail
  refine (there_call rep true _ hr).mono ?_
  rintro e w6 ⟨rfl, hb⟩
  have HB_ := HB
  clear HB
  have HB := Aside0.mk (below_step HB_.out hb)
  have HV_ := HVa
  clear HVa
  have HVa := Aside0.mk (Kd.R_below HV_.out hb)
  clear HV_
  have HV_ := HVb
  clear HVb
  have HVb := Aside0.mk (Kd.R_below HV_.out hb)
  clear HV_
  clear HB_ hb
  try clear hd0 hd1 hd2 hd3
  obtain ⟨hd0, hd1, hd2, hd3⟩ := HBOX.out _ HB.out
  go_wp2_with fail
  refine (chkA_call A0 c0 l0 _ (Kd.C_below HR1.out HB.out) hc0 0 (by rw [hc]; rfl)).mono ?_
  rintro e w7 ⟨rfl, hb⟩
  have HB_ := HB
  clear HB
  have HB := Aside0.mk (below_step HB_.out hb)
  have HV_ := HVa
  clear HVa
  have HVa := Aside0.mk (Kd.R_below HV_.out hb)
  clear HV_
  have HV_ := HVb
  clear HVb
  have HVb := Aside0.mk (Kd.R_below HV_.out hb)
  clear HV_
  clear HB_ hb
  try clear hd0 hd1 hd2 hd3
  obtain ⟨hd0, hd1, hd2, hd3⟩ := HBOX.out _ HB.out
  go_wp2_with fail
  refine (hucksterref11_Right.calls A0 c0 l0 true _ (Kd.C_below HR1.out HB.out) hc0 (right_f (by omega) hc)).mono ?_
  rintro e w8 ⟨rfl, hb⟩
  have HB_ := HB
  clear HB
  have HB := Aside0.mk (below_step HB_.out hb)
  have HV_ := HVa
  clear HVa
  have HVa := Aside0.mk (Kd.R_below HV_.out hb)
  clear HV_
  have HV_ := HVb
  clear HVb
  have HVb := Aside0.mk (Kd.R_below HV_.out hb)
  clear HV_
  clear HB_ hb
  try clear hd0 hd1 hd2 hd3
  obtain ⟨hd0, hd1, hd2, hd3⟩ := HBOX.out _ HB.out
  go_wp2_with fail
  refine (hucksterref11_Add.calls A0 c0 l0 key rep n W1 _ (Kd.C_below HR1.out HB.out) hc0 hAdd).mono ?_
  rintro e w9 ⟨vw, rfl, hRr, hb⟩
  have HVn := Aside0.mk (Kd.R_lower hRr (below_size HB.out))
  clear hRr
  have HB_ := HB
  clear HB
  have HB := Aside0.mk (below_step HB_.out hb)
  have HV_ := HVa
  clear HVa
  have HVa := Aside0.mk (Kd.R_below HV_.out hb)
  clear HV_
  have HV_ := HVb
  clear HVb
  have HVb := Aside0.mk (Kd.R_below HV_.out hb)
  clear HV_
  clear HB_ hb
  try clear hd0 hd1 hd2 hd3
  have HVw := HVn
  clear HVn
  obtain ⟨Aw, cw, rfl, hcw, _⟩ := Kd.R_reads HVw.out
  obtain ⟨hd0, hd1, hd2, hd3⟩ := HBOX.out _ HB.out
  go_wp2_with fail
  refine (hucksterref11_Right.calls Aw cw W1 false _ (Kd.R_reads' HVw.out).2.2 hcw (right_f (by omega) hfull)).mono ?_
  rintro e w10 ⟨rfl, hb⟩
  have HB_ := HB
  clear HB
  have HB := Aside0.mk (below_step HB_.out hb)
  have HV_ := HVa
  clear HVa
  have HVa := Aside0.mk (Kd.R_below HV_.out hb)
  clear HV_
  have HV_ := HVb
  clear HVb
  have HVb := Aside0.mk (Kd.R_below HV_.out hb)
  clear HV_
  have HV_ := HVw
  clear HVw
  have HVw := Aside0.mk (Kd.R_below HV_.out hb)
  clear HV_
  clear HB_ hb
  try clear hd0 hd1 hd2 hd3
  clear HVa
  clear HVw
  obtain ⟨hd0, hd1, hd2, hd3⟩ := HBOX.out _ HB.out
  go_wp2_with fail
  refine (there_call tp false _ ht).mono ?_
  rintro e w11 ⟨rfl, hb⟩
  have HB_ := HB
  clear HB
  have HB := Aside0.mk (below_step HB_.out hb)
  have HV_ := HVb
  clear HVb
  have HVb := Aside0.mk (Kd.R_below HV_.out hb)
  clear HV_
  clear HB_ hb
  try clear hd0 hd1 hd2 hd3
  obtain ⟨hd0, hd1, hd2, hd3⟩ := HBOX.out _ HB.out
  go_wp2_with fail
  refine (awake_call _).mono ?_
  rintro e w12 ⟨rfl, hb⟩
  have HB_ := HB
  clear HB
  have HB := Aside0.mk (below_step HB_.out hb)
  have HV_ := HVb
  clear HVb
  have HVb := Aside0.mk (Kd.R_below HV_.out hb)
  clear HV_
  clear HB_ hb
  try clear hd0 hd1 hd2 hd3
  obtain ⟨hd0, hd1, hd2, hd3⟩ := HBOX.out _ HB.out
  go_wp2_with fail
  go_ret
  exact ⟨rfl, below_step HB0.out HB.out⟩

set_option maxHeartbeats 16000000 in
set_option maxRecDepth 100000 in
theorem turns_full_self (A0 : Option Addr) (c0 : Nat) (l0 : List Ac) (key : ByteArray) (rep tp n : Int) (w : World) (hr0 : Kd.C k94 w A0 l0.length l0) (hc0 : l0.length ≤ c0) (kl : Nat) (hL : hucksterlaw11_Light.f kl l0 = some true) (hl : l0.length ≤ 60) (hs : (key.size : Int) ≤ 100) (hc : chkA l0 = true) (hk : (key.toList == ([] : List UInt8)) = false) (h32 : (key.size : Int) ≤ 32) (hr : repOk rep = true) (hn0 : n ≤ 1000) (hlo : -1000 ≤ n) (hfull : chkA (setA l0 key (upR (getA l0 key) rep n)) = false) (hn1 : 1 ≤ n) (ht : repOk tp = true) (hrt : tp = rep) : TurnsIs A0 c0 l0 key rep tp n w := by
  have HR := Aside0.mk hr0
  clear hr0
  have hsz : decide ((100 : Int) < (key.size : Int)) = false := by simp; omega
  have hk1 : (key.toList == ([] : List UInt8)) = false := hk
  have hk2 : key.toList.isEmpty = false := by simpa using hk1
  have hk3 : (key.toList != ([] : List UInt8)) = true := by rw [bne, hk1]; rfl
  have hz : decide ((key.size : Int) ≤ 32) = true := by simp; omega
  have hn : decide (n ≤ (1000 : Int)) = true := by simp; omega
  have hq : decide (n < (-1000 : Int)) = false := by simp; omega
  have hub : upB l0 key rep n = true := by unfold upB keyR; simp [hc, hk, h32, hr, hn0, hlo]
  have hlW : (setA l0 key (upR (getA l0 key) rep n)).length ≤ 61 := by have := setA_len l0 key (upR (getA l0 key) rep n); omega
  have hAdd := add_f (key := key) hl hc hr hlo hn0
  have hU := up_full hub hfull
  have hq2 : decide (n < (1 : Int)) = false := by simp; omega
  have hw3 : (tp == rep) = true := by simp [hrt]
  have hw4 : (tp != rep) = false := by simp [hrt]
  have hw5 : (rep == tp) = true := by simp [hrt]
  have hmb : mvB l0 key rep tp n = true := by unfold mvB keyR; simp [hc, hk, h32, hr, ht, hn0, hn1]
  have hM : escrow_Move.f l0 key rep tp n = some (l0, 0) := by
    unfold escrow_Move.f
    rw [hmb, if_pos rfl]
    subst hrt
    rw [mvR_self hr, setA_get hc, hc, if_pos rfl]
  clear hub hmb hrt
  generalize hW1 : setA l0 key (upR (getA l0 key) rep n) = W1 at *
  have HW1 := Aside0.mk hW1
  clear hW1

  unfold TurnsIs
  go_enter Try.func10, Try.ntmps10
  go_wp2_with (first | ((with_reducible refine gate_dst (N := 3) rfl ?_); refine box_event ?hg (N := 3) ?hd (cs := #[.string key, .int .i64 rep, .int .i64 tp, .int .i64 n]) (t := 61) ?hr ?_; (case hd => rfl); (case hg => rfl); (case hr => first | (go_simp; done) | (go_simp; rfl)); intro g hg w1 hbox hb; have HB0 := Aside0.mk hb; have BK0 := Aside0.mk hbox; clear hb hbox hg) | fail)
  have hbox : ∀ W : World, Below w1.heap.size w1 W → W.cell? ⟨g, 0, none⟩ = some (.string key) ∧ W.cell? ⟨g, 1, none⟩ = some (.int .i64 rep) ∧ W.cell? ⟨g, 2, none⟩ = some (.int .i64 tp) ∧ W.cell? ⟨g, 3, none⟩ = some (.int .i64 n) := fun W hW => by
    have h := blk_below BK0.out hW
    exact ⟨(blk_cell h 0).trans rfl, (blk_cell h 1).trans rfl, (blk_cell h 2).trans rfl, (blk_cell h 3).trans rfl⟩
  have HBOX := Aside0.mk hbox
  clear hbox
  have HB := Aside0.mk (Below.refl w1.heap.size w1)
  have HR1 := Aside0.mk (Kd.C_below HR.out HB0.out)
  obtain ⟨hd0, hd1, hd2, hd3⟩ := HBOX.out _ HB.out
  go_wp2_with fail
  refine (light_call kl A0 c0 l0 true _ (Kd.C_below HR1.out HB.out) hc0 hL).mono ?_
  rintro e w2 ⟨rfl, hb⟩
  have HB_ := HB
  clear HB
  have HB := Aside0.mk (below_step HB_.out hb)
  clear HB_ hb
  try clear hd0 hd1 hd2 hd3
  obtain ⟨hd0, hd1, hd2, hd3⟩ := HBOX.out _ HB.out
  go_wp2_with fail
  refine (escrow_Up.calls A0 c0 l0 key rep n [] 6 _ (Kd.C_below HR1.out HB.out) hc0 hU).mono ?_
  rintro e w3 ⟨va, rfl, hRr, hb⟩
  have HVn := Aside0.mk (Kd.R_lower hRr (below_size HB.out))
  clear hRr
  have HB_ := HB
  clear HB
  have HB := Aside0.mk (below_step HB_.out hb)
  clear HB_ hb
  try clear hd0 hd1 hd2 hd3
  have HVa := HVn
  clear HVn
  obtain ⟨Aa, ca, rfl, hca, _⟩ := Kd.R_reads HVa.out
  obtain ⟨hd0, hd1, hd2, hd3⟩ := HBOX.out _ HB.out
  go_wp2_with fail
  refine (escrow_Move.calls A0 c0 l0 key rep tp n l0 0 _ (Kd.C_below HR1.out HB.out) hc0 hM).mono ?_
  rintro e w4 ⟨vb, rfl, hRr, hb⟩
  have HVn := Aside0.mk (Kd.R_lower hRr (below_size HB.out))
  clear hRr
  have HB_ := HB
  clear HB
  have HB := Aside0.mk (below_step HB_.out hb)
  have HV_ := HVa
  clear HVa
  have HVa := Aside0.mk (Kd.R_below HV_.out hb)
  clear HV_
  clear HB_ hb
  try clear hd0 hd1 hd2 hd3
  have HVb := HVn
  clear HVn
  obtain ⟨Ab, cb, rfl, hcb, _⟩ := Kd.R_reads HVb.out
  obtain ⟨hd0, hd1, hd2, hd3⟩ := HBOX.out _ HB.out
  go_wp2_with fail
  refine (hucksterref11_Right.calls A0 c0 l0 true _ (Kd.C_below HR1.out HB.out) hc0 (right_f (by omega) hc)).mono ?_
  rintro e w5 ⟨rfl, hb⟩
  have HB_ := HB
  clear HB
  have HB := Aside0.mk (below_step HB_.out hb)
  have HV_ := HVa
  clear HVa
  have HVa := Aside0.mk (Kd.R_below HV_.out hb)
  clear HV_
  have HV_ := HVb
  clear HVb
  have HVb := Aside0.mk (Kd.R_below HV_.out hb)
  clear HV_
  clear HB_ hb
  try clear hd0 hd1 hd2 hd3
  obtain ⟨hd0, hd1, hd2, hd3⟩ := HBOX.out _ HB.out
  go_wp2_with fail
  refine (there_call rep true _ hr).mono ?_
  rintro e w6 ⟨rfl, hb⟩
  have HB_ := HB
  clear HB
  have HB := Aside0.mk (below_step HB_.out hb)
  have HV_ := HVa
  clear HVa
  have HVa := Aside0.mk (Kd.R_below HV_.out hb)
  clear HV_
  have HV_ := HVb
  clear HVb
  have HVb := Aside0.mk (Kd.R_below HV_.out hb)
  clear HV_
  clear HB_ hb
  try clear hd0 hd1 hd2 hd3
  obtain ⟨hd0, hd1, hd2, hd3⟩ := HBOX.out _ HB.out
  go_wp2_with fail
  refine (chkA_call A0 c0 l0 _ (Kd.C_below HR1.out HB.out) hc0 0 (by rw [hc]; rfl)).mono ?_
  rintro e w7 ⟨rfl, hb⟩
  have HB_ := HB
  clear HB
  have HB := Aside0.mk (below_step HB_.out hb)
  have HV_ := HVa
  clear HVa
  have HVa := Aside0.mk (Kd.R_below HV_.out hb)
  clear HV_
  have HV_ := HVb
  clear HVb
  have HVb := Aside0.mk (Kd.R_below HV_.out hb)
  clear HV_
  clear HB_ hb
  try clear hd0 hd1 hd2 hd3
  obtain ⟨hd0, hd1, hd2, hd3⟩ := HBOX.out _ HB.out
  go_wp2_with fail
  refine (hucksterref11_Right.calls A0 c0 l0 true _ (Kd.C_below HR1.out HB.out) hc0 (right_f (by omega) hc)).mono ?_
  rintro e w8 ⟨rfl, hb⟩
  have HB_ := HB
  clear HB
  have HB := Aside0.mk (below_step HB_.out hb)
  have HV_ := HVa
  clear HVa
  have HVa := Aside0.mk (Kd.R_below HV_.out hb)
  clear HV_
  have HV_ := HVb
  clear HVb
  have HVb := Aside0.mk (Kd.R_below HV_.out hb)
  clear HV_
  clear HB_ hb
  try clear hd0 hd1 hd2 hd3
  obtain ⟨hd0, hd1, hd2, hd3⟩ := HBOX.out _ HB.out
  go_wp2_with fail
  refine (hucksterref11_Add.calls A0 c0 l0 key rep n W1 _ (Kd.C_below HR1.out HB.out) hc0 hAdd).mono ?_
  rintro e w9 ⟨vw, rfl, hRr, hb⟩
  have HVn := Aside0.mk (Kd.R_lower hRr (below_size HB.out))
  clear hRr
  have HB_ := HB
  clear HB
  have HB := Aside0.mk (below_step HB_.out hb)
  have HV_ := HVa
  clear HVa
  have HVa := Aside0.mk (Kd.R_below HV_.out hb)
  clear HV_
  have HV_ := HVb
  clear HVb
  have HVb := Aside0.mk (Kd.R_below HV_.out hb)
  clear HV_
  clear HB_ hb
  try clear hd0 hd1 hd2 hd3
  have HVw := HVn
  clear HVn
  obtain ⟨Aw, cw, rfl, hcw, _⟩ := Kd.R_reads HVw.out
  obtain ⟨hd0, hd1, hd2, hd3⟩ := HBOX.out _ HB.out
  go_wp2_with fail
  refine (hucksterref11_Right.calls Aw cw W1 false _ (Kd.R_reads' HVw.out).2.2 hcw (right_f (by omega) hfull)).mono ?_
  rintro e w10 ⟨rfl, hb⟩
  have HB_ := HB
  clear HB
  have HB := Aside0.mk (below_step HB_.out hb)
  have HV_ := HVa
  clear HVa
  have HVa := Aside0.mk (Kd.R_below HV_.out hb)
  clear HV_
  have HV_ := HVb
  clear HVb
  have HVb := Aside0.mk (Kd.R_below HV_.out hb)
  clear HV_
  have HV_ := HVw
  clear HVw
  have HVw := Aside0.mk (Kd.R_below HV_.out hb)
  clear HV_
  clear HB_ hb
  try clear hd0 hd1 hd2 hd3
  clear HVa
  clear HVw
  obtain ⟨hd0, hd1, hd2, hd3⟩ := HBOX.out _ HB.out
  go_wp2_with fail
  refine (there_call tp true _ ht).mono ?_
  rintro e w11 ⟨rfl, hb⟩
  have HB_ := HB
  clear HB
  have HB := Aside0.mk (below_step HB_.out hb)
  have HV_ := HVb
  clear HVb
  have HVb := Aside0.mk (Kd.R_below HV_.out hb)
  clear HV_
  clear HB_ hb
  try clear hd0 hd1 hd2 hd3
  obtain ⟨hd0, hd1, hd2, hd3⟩ := HBOX.out _ HB.out
  go_wp2_with fail
  refine (hucksterref11_Right.calls A0 c0 l0 true _ (Kd.C_below HR1.out HB.out) hc0 (right_f (by omega) hc)).mono ?_
  rintro e w12 ⟨rfl, hb⟩
  have HB_ := HB
  clear HB
  have HB := Aside0.mk (below_step HB_.out hb)
  have HV_ := HVb
  clear HVb
  have HVb := Aside0.mk (Kd.R_below HV_.out hb)
  clear HV_
  clear HB_ hb
  try clear hd0 hd1 hd2 hd3
  obtain ⟨hd0, hd1, hd2, hd3⟩ := HBOX.out _ HB.out
  go_wp2_with fail
  refine (same_call l0 (by omega) Ab cb A0 c0 _ (Kd.R_reads' HVb.out).2.2 hcb (Kd.C_below HR1.out HB.out) hc0).mono ?_
  rintro e w13 ⟨rfl, hb⟩
  have HB_ := HB
  clear HB
  have HB := Aside0.mk (below_step HB_.out hb)
  have HV_ := HVb
  clear HVb
  have HVb := Aside0.mk (Kd.R_below HV_.out hb)
  clear HV_
  clear HB_ hb
  try clear hd0 hd1 hd2 hd3
  obtain ⟨hd0, hd1, hd2, hd3⟩ := HBOX.out _ HB.out
  go_wp2_with fail
  refine (awake_call _).mono ?_
  rintro e w14 ⟨rfl, hb⟩
  have HB_ := HB
  clear HB
  have HB := Aside0.mk (below_step HB_.out hb)
  have HV_ := HVb
  clear HVb
  have HVb := Aside0.mk (Kd.R_below HV_.out hb)
  clear HV_
  clear HB_ hb
  try clear hd0 hd1 hd2 hd3
  obtain ⟨hd0, hd1, hd2, hd3⟩ := HBOX.out _ HB.out
  go_wp2_with fail
  go_ret
  exact ⟨rfl, below_step HB0.out HB.out⟩

set_option maxHeartbeats 16000000 in
set_option maxRecDepth 100000 in
theorem turns_full_mfull (A0 : Option Addr) (c0 : Nat) (l0 : List Ac) (key : ByteArray) (rep tp n : Int) (w : World) (hr0 : Kd.C k94 w A0 l0.length l0) (hc0 : l0.length ≤ c0) (kl : Nat) (hL : hucksterlaw11_Light.f kl l0 = some true) (hl : l0.length ≤ 60) (hs : (key.size : Int) ≤ 100) (hc : chkA l0 = true) (hk : (key.toList == ([] : List UInt8)) = false) (h32 : (key.size : Int) ≤ 32) (hr : repOk rep = true) (hn0 : n ≤ 1000) (hlo : -1000 ≤ n) (hfull : chkA (setA l0 key (upR (getA l0 key) rep n)) = false) (hn1 : 1 ≤ n) (ht : repOk tp = true) (hrt : tp ≠ rep) (hm : chkA (setA l0 key (mvR (getA l0 key) rep tp n)) = false) : TurnsIs A0 c0 l0 key rep tp n w := by
  have HR := Aside0.mk hr0
  clear hr0
  have hsz : decide ((100 : Int) < (key.size : Int)) = false := by simp; omega
  have hk1 : (key.toList == ([] : List UInt8)) = false := hk
  have hk2 : key.toList.isEmpty = false := by simpa using hk1
  have hk3 : (key.toList != ([] : List UInt8)) = true := by rw [bne, hk1]; rfl
  have hz : decide ((key.size : Int) ≤ 32) = true := by simp; omega
  have hn : decide (n ≤ (1000 : Int)) = true := by simp; omega
  have hq : decide (n < (-1000 : Int)) = false := by simp; omega
  have hub : upB l0 key rep n = true := by unfold upB keyR; simp [hc, hk, h32, hr, hn0, hlo]
  have hlW : (setA l0 key (upR (getA l0 key) rep n)).length ≤ 61 := by have := setA_len l0 key (upR (getA l0 key) rep n); omega
  have hAdd := add_f (key := key) hl hc hr hlo hn0
  have hU := up_full hub hfull
  have hq2 : decide (n < (1 : Int)) = false := by simp; omega
  have hw3 : (tp == rep) = false := by simp [hrt]
  have hw4 : (tp != rep) = true := by simp [hrt]
  have hw5 : (rep == tp) = false := by simp [Ne.symm hrt]
  have hmb : mvB l0 key rep tp n = true := by unfold mvB keyR; simp [hc, hk, h32, hr, ht, hn0, hn1]
  have hM := mv_full hmb hm
  have hAdd3 := add_f (key := key) (n := -n) hl hc hr (by omega) (by omega)
  have hAdd2 := add_f2 (key := key) hl hc hr ht hn1 hn0
  have hl2 : (setA l0 key (mvR (getA l0 key) rep tp n)).length ≤ 61 := by have := setA_len l0 key (mvR (getA l0 key) rep tp n); omega
  generalize setA l0 key (upR (getA l0 key) rep (-n)) = W3 at *
  generalize setA l0 key (mvR (getA l0 key) rep tp n) = W2 at *
  have hng : wrap64 (-n) = -n := wrapIdA (by omega) (by omega)
  rw [← hng] at hAdd3
  have HAdd3 := Aside0.mk hAdd3
  clear hub hmb hng hAdd3
  generalize hW1 : setA l0 key (upR (getA l0 key) rep n) = W1 at *
  have HW1 := Aside0.mk hW1
  clear hW1

  unfold TurnsIs
  go_enter Try.func10, Try.ntmps10
  go_wp2_with (first | ((with_reducible refine gate_dst (N := 3) rfl ?_); refine box_event ?hg (N := 3) ?hd (cs := #[.string key, .int .i64 rep, .int .i64 tp, .int .i64 n]) (t := 61) ?hr ?_; (case hd => rfl); (case hg => rfl); (case hr => first | (go_simp; done) | (go_simp; rfl)); intro g hg w1 hbox hb; have HB0 := Aside0.mk hb; have BK0 := Aside0.mk hbox; clear hb hbox hg) | fail)
  have hbox : ∀ W : World, Below w1.heap.size w1 W → W.cell? ⟨g, 0, none⟩ = some (.string key) ∧ W.cell? ⟨g, 1, none⟩ = some (.int .i64 rep) ∧ W.cell? ⟨g, 2, none⟩ = some (.int .i64 tp) ∧ W.cell? ⟨g, 3, none⟩ = some (.int .i64 n) := fun W hW => by
    have h := blk_below BK0.out hW
    exact ⟨(blk_cell h 0).trans rfl, (blk_cell h 1).trans rfl, (blk_cell h 2).trans rfl, (blk_cell h 3).trans rfl⟩
  have HBOX := Aside0.mk hbox
  clear hbox
  have HB := Aside0.mk (Below.refl w1.heap.size w1)
  have HR1 := Aside0.mk (Kd.C_below HR.out HB0.out)
  obtain ⟨hd0, hd1, hd2, hd3⟩ := HBOX.out _ HB.out
  go_wp2_with fail
  refine (light_call kl A0 c0 l0 true _ (Kd.C_below HR1.out HB.out) hc0 hL).mono ?_
  rintro e w2 ⟨rfl, hb⟩
  have HB_ := HB
  clear HB
  have HB := Aside0.mk (below_step HB_.out hb)
  clear HB_ hb
  try clear hd0 hd1 hd2 hd3
  obtain ⟨hd0, hd1, hd2, hd3⟩ := HBOX.out _ HB.out
  go_wp2_with fail
  refine (escrow_Up.calls A0 c0 l0 key rep n [] 6 _ (Kd.C_below HR1.out HB.out) hc0 hU).mono ?_
  rintro e w3 ⟨va, rfl, hRr, hb⟩
  have HVn := Aside0.mk (Kd.R_lower hRr (below_size HB.out))
  clear hRr
  have HB_ := HB
  clear HB
  have HB := Aside0.mk (below_step HB_.out hb)
  clear HB_ hb
  try clear hd0 hd1 hd2 hd3
  have HVa := HVn
  clear HVn
  obtain ⟨Aa, ca, rfl, hca, _⟩ := Kd.R_reads HVa.out
  obtain ⟨hd0, hd1, hd2, hd3⟩ := HBOX.out _ HB.out
  go_wp2_with fail
  refine (escrow_Move.calls A0 c0 l0 key rep tp n [] 6 _ (Kd.C_below HR1.out HB.out) hc0 hM).mono ?_
  rintro e w4 ⟨vb, rfl, hRr, hb⟩
  have HVn := Aside0.mk (Kd.R_lower hRr (below_size HB.out))
  clear hRr
  have HB_ := HB
  clear HB
  have HB := Aside0.mk (below_step HB_.out hb)
  have HV_ := HVa
  clear HVa
  have HVa := Aside0.mk (Kd.R_below HV_.out hb)
  clear HV_
  clear HB_ hb
  try clear hd0 hd1 hd2 hd3
  have HVb := HVn
  clear HVn
  obtain ⟨Ab, cb, rfl, hcb, _⟩ := Kd.R_reads HVb.out
  obtain ⟨hd0, hd1, hd2, hd3⟩ := HBOX.out _ HB.out
  go_wp2_with fail
  refine (hucksterref11_Right.calls A0 c0 l0 true _ (Kd.C_below HR1.out HB.out) hc0 (right_f (by omega) hc)).mono ?_
  rintro e w5 ⟨rfl, hb⟩
  have HB_ := HB
  clear HB
  have HB := Aside0.mk (below_step HB_.out hb)
  have HV_ := HVa
  clear HVa
  have HVa := Aside0.mk (Kd.R_below HV_.out hb)
  clear HV_
  have HV_ := HVb
  clear HVb
  have HVb := Aside0.mk (Kd.R_below HV_.out hb)
  clear HV_
  clear HB_ hb
  try clear hd0 hd1 hd2 hd3
  obtain ⟨hd0, hd1, hd2, hd3⟩ := HBOX.out _ HB.out
  go_wp2_with fail
  refine (there_call rep true _ hr).mono ?_
  rintro e w6 ⟨rfl, hb⟩
  have HB_ := HB
  clear HB
  have HB := Aside0.mk (below_step HB_.out hb)
  have HV_ := HVa
  clear HVa
  have HVa := Aside0.mk (Kd.R_below HV_.out hb)
  clear HV_
  have HV_ := HVb
  clear HVb
  have HVb := Aside0.mk (Kd.R_below HV_.out hb)
  clear HV_
  clear HB_ hb
  try clear hd0 hd1 hd2 hd3
  obtain ⟨hd0, hd1, hd2, hd3⟩ := HBOX.out _ HB.out
  go_wp2_with fail
  refine (chkA_call A0 c0 l0 _ (Kd.C_below HR1.out HB.out) hc0 0 (by rw [hc]; rfl)).mono ?_
  rintro e w7 ⟨rfl, hb⟩
  have HB_ := HB
  clear HB
  have HB := Aside0.mk (below_step HB_.out hb)
  have HV_ := HVa
  clear HVa
  have HVa := Aside0.mk (Kd.R_below HV_.out hb)
  clear HV_
  have HV_ := HVb
  clear HVb
  have HVb := Aside0.mk (Kd.R_below HV_.out hb)
  clear HV_
  clear HB_ hb
  try clear hd0 hd1 hd2 hd3
  obtain ⟨hd0, hd1, hd2, hd3⟩ := HBOX.out _ HB.out
  go_wp2_with fail
  refine (hucksterref11_Right.calls A0 c0 l0 true _ (Kd.C_below HR1.out HB.out) hc0 (right_f (by omega) hc)).mono ?_
  rintro e w8 ⟨rfl, hb⟩
  have HB_ := HB
  clear HB
  have HB := Aside0.mk (below_step HB_.out hb)
  have HV_ := HVa
  clear HVa
  have HVa := Aside0.mk (Kd.R_below HV_.out hb)
  clear HV_
  have HV_ := HVb
  clear HVb
  have HVb := Aside0.mk (Kd.R_below HV_.out hb)
  clear HV_
  clear HB_ hb
  try clear hd0 hd1 hd2 hd3
  obtain ⟨hd0, hd1, hd2, hd3⟩ := HBOX.out _ HB.out
  go_wp2_with fail
  refine (hucksterref11_Add.calls A0 c0 l0 key rep n W1 _ (Kd.C_below HR1.out HB.out) hc0 hAdd).mono ?_
  rintro e w9 ⟨vw, rfl, hRr, hb⟩
  have HVn := Aside0.mk (Kd.R_lower hRr (below_size HB.out))
  clear hRr
  have HB_ := HB
  clear HB
  have HB := Aside0.mk (below_step HB_.out hb)
  have HV_ := HVa
  clear HVa
  have HVa := Aside0.mk (Kd.R_below HV_.out hb)
  clear HV_
  have HV_ := HVb
  clear HVb
  have HVb := Aside0.mk (Kd.R_below HV_.out hb)
  clear HV_
  clear HB_ hb
  try clear hd0 hd1 hd2 hd3
  have HVw := HVn
  clear HVn
  obtain ⟨Aw, cw, rfl, hcw, _⟩ := Kd.R_reads HVw.out
  obtain ⟨hd0, hd1, hd2, hd3⟩ := HBOX.out _ HB.out
  go_wp2_with fail
  refine (hucksterref11_Right.calls Aw cw W1 false _ (Kd.R_reads' HVw.out).2.2 hcw (right_f (by omega) hfull)).mono ?_
  rintro e w10 ⟨rfl, hb⟩
  have HB_ := HB
  clear HB
  have HB := Aside0.mk (below_step HB_.out hb)
  have HV_ := HVa
  clear HVa
  have HVa := Aside0.mk (Kd.R_below HV_.out hb)
  clear HV_
  have HV_ := HVb
  clear HVb
  have HVb := Aside0.mk (Kd.R_below HV_.out hb)
  clear HV_
  have HV_ := HVw
  clear HVw
  have HVw := Aside0.mk (Kd.R_below HV_.out hb)
  clear HV_
  clear HB_ hb
  try clear hd0 hd1 hd2 hd3
  clear HVa
  clear HVw
  obtain ⟨hd0, hd1, hd2, hd3⟩ := HBOX.out _ HB.out
  go_wp2_with fail
  refine (there_call tp true _ ht).mono ?_
  rintro e w11 ⟨rfl, hb⟩
  have HB_ := HB
  clear HB
  have HB := Aside0.mk (below_step HB_.out hb)
  have HV_ := HVb
  clear HVb
  have HVb := Aside0.mk (Kd.R_below HV_.out hb)
  clear HV_
  clear HB_ hb
  try clear hd0 hd1 hd2 hd3
  obtain ⟨hd0, hd1, hd2, hd3⟩ := HBOX.out _ HB.out
  go_wp2_with fail
  refine start_ (n := 17) (S := fun w' => w'.cell? ⟨g, 0, none⟩ = some (.string key) ∧ w'.cell? ⟨g, 1, none⟩ = some (.int .i64 rep) ∧ w'.cell? ⟨g, 2, none⟩ = some (.int .i64 tp) ∧ w'.cell? ⟨g, 3, none⟩ = some (.int .i64 n)) (ds := []) #[false, false, false, false, false, false, false, false, false, false, false, false, false, false, false, false, false] (by kernel_rfl) rfl rfl ⟨hd0, hd1, hd2, hd3⟩ (fun hHeld => ?_)
  refine pure_ (i := 0) (N := some 154) (v := ?_) (a' := ?_) #[true, false, false, false, false, false, false, false, false, false, false, false, false, false, false, false, false] rfl rfl (by kernel_rfl) (fun _ _ _ h => h) (Or.inl ⟨by rfl, ?_⟩) ?_ ?_
  rotate_left
  · intro w'
    go_simp
    with_reducible rfl
  rotate_left
  · simp only [Act.put, List.setIfInBounds_toArray, List.set_cons_zero, List.set_cons_succ, i64_w, i32_w]
    rfl
  refine pure_ (i := 1) (N := some 155) (v := ?_) (a' := ?_) #[true, true, false, false, false, false, false, false, false, false, false, false, false, false, false, false, false] rfl rfl (by kernel_rfl) (fun _ _ _ h => h) (Or.inl ⟨by rfl, ?_⟩) ?_ ?_
  rotate_left
  · intro w'
    go_simp
    with_reducible rfl
  rotate_left
  · simp only [Act.put, List.setIfInBounds_toArray, List.set_cons_zero, List.set_cons_succ, i64_w, i32_w]
    rfl
  refine pure_ (i := 3) (N := some 157) (v := ?_) (a' := ?_) #[true, true, false, true, false, false, false, false, false, false, false, false, false, false, false, false, false] rfl rfl (by kernel_rfl) (fun _ _ _ h => h) (Or.inl ⟨by rfl, ?_⟩) ?_ ?_
  rotate_left
  · intro w'
    go_simp
    with_reducible rfl
  rotate_left
  · simp only [Act.put, List.setIfInBounds_toArray, List.set_cons_zero, List.set_cons_succ, i64_w, i32_w]
    rfl
  refine pure_ (i := 5) (N := some 159) (v := ?_) (a' := ?_) #[true, true, false, true, false, true, false, false, false, false, false, false, false, false, false, false, false] rfl rfl (by kernel_rfl) (fun _ _ _ h => h) (Or.inl ⟨by rfl, ?_⟩) ?_ ?_
  rotate_left
  · intro w'
    go_simp
    with_reducible rfl
  rotate_left
  · simp only [Act.put, List.setIfInBounds_toArray, List.set_cons_zero, List.set_cons_succ, i64_w, i32_w]
    rfl
  refine pure_ (i := 9) (N := some 163) (v := ?_) (a' := ?_) #[true, true, false, true, false, true, false, false, false, true, false, false, false, false, false, false, false] rfl rfl (by kernel_rfl) (fun _ _ _ h => h) (Or.inl ⟨by rfl, ?_⟩) ?_ ?_
  rotate_left
  · intro w'
    go_simp
    with_reducible rfl
  rotate_left
  · simp only [Act.put, List.setIfInBounds_toArray, List.set_cons_zero, List.set_cons_succ, i64_w, i32_w]
    rfl
  refine pure_ (i := 11) (N := some 165) (v := ?_) (a' := ?_) #[true, true, false, true, false, true, false, false, false, true, false, true, false, false, false, false, false] rfl rfl (by kernel_rfl) (fun _ _ _ h => h) (Or.inl ⟨by rfl, ?_⟩) ?_ ?_
  rotate_left
  · intro w'
    go_simp
    with_reducible rfl
  rotate_left
  · simp only [Act.put, List.setIfInBounds_toArray, List.set_cons_zero, List.set_cons_succ, i64_w, i32_w]
    rfl
  refine pure_ (i := 13) (N := some 167) (v := ?_) (a' := ?_) #[true, true, false, true, false, true, false, false, false, true, false, true, false, true, false, false, false] rfl rfl (by kernel_rfl) (fun _ _ _ h => h) (Or.inl ⟨by rfl, ?_⟩) ?_ ?_
  rotate_left
  · intro w'
    go_simp
    with_reducible rfl
  rotate_left
  · simp only [Act.put, List.setIfInBounds_toArray, List.set_cons_zero, List.set_cons_succ, i64_w, i32_w]
    rfl
  refine take_ (i := 2) (N := some 156) (v := ?_) (a' := ?_) #[true, true, true, true, false, true, false, false, false, true, false, true, false, true, false, false, false] rfl rfl (by kernel_rfl) (fun _ _ _ h => h) (Or.inl ⟨by rfl, ?_⟩) hHeld ?_ ?_
  rotate_left
  · rintro w' ⟨s0, s1, s2, s3⟩
    go_simp
    with_reducible rfl
  rotate_left
  · simp only [Act.put, List.setIfInBounds_toArray, List.set_cons_zero, List.set_cons_succ, i64_w, i32_w]
    rfl
  refine take_ (i := 4) (N := some 158) (v := ?_) (a' := ?_) #[true, true, true, true, true, true, false, false, false, true, false, true, false, true, false, false, false] rfl rfl (by kernel_rfl) (fun _ _ _ h => h) (Or.inl ⟨by rfl, ?_⟩) hHeld ?_ ?_
  rotate_left
  · rintro w' ⟨s0, s1, s2, s3⟩
    go_simp
    with_reducible rfl
  rotate_left
  · simp only [Act.put, List.setIfInBounds_toArray, List.set_cons_zero, List.set_cons_succ, i64_w, i32_w]
    rfl
  refine take_ (i := 6) (N := some 160) (v := ?_) (a' := ?_) #[true, true, true, true, true, true, true, false, false, true, false, true, false, true, false, false, false] rfl rfl (by kernel_rfl) (fun _ _ _ h => h) (Or.inl ⟨by rfl, ?_⟩) hHeld ?_ ?_
  rotate_left
  · rintro w' ⟨s0, s1, s2, s3⟩
    go_simp
    with_reducible rfl
  rotate_left
  · simp only [Act.put, List.setIfInBounds_toArray, List.set_cons_zero, List.set_cons_succ, i64_w, i32_w]
    rfl
  refine pure_ (i := 7) (N := some 161) (v := ?_) (a' := ?_) #[true, true, true, true, true, true, true, true, false, true, false, true, false, true, false, false, false] rfl rfl (by kernel_rfl) (fun _ _ _ h => h) (Or.inl ⟨by rfl, ?_⟩) ?_ ?_
  rotate_left
  · intro w'
    go_simp
    with_reducible rfl
  rotate_left
  · simp only [Act.put, List.setIfInBounds_toArray, List.set_cons_zero, List.set_cons_succ, i64_w, i32_w]
    rfl
  refine take_ (i := 10) (N := some 164) (v := ?_) (a' := ?_) #[true, true, true, true, true, true, true, true, false, true, true, true, false, true, false, false, false] rfl rfl (by kernel_rfl) (fun _ _ _ h => h) (Or.inl ⟨by rfl, ?_⟩) hHeld ?_ ?_
  rotate_left
  · rintro w' ⟨s0, s1, s2, s3⟩
    go_simp
    with_reducible rfl
  rotate_left
  · simp only [Act.put, List.setIfInBounds_toArray, List.set_cons_zero, List.set_cons_succ, i64_w, i32_w]
    rfl
  refine take_ (i := 12) (N := some 166) (v := ?_) (a' := ?_) #[true, true, true, true, true, true, true, true, false, true, true, true, true, true, false, false, false] rfl rfl (by kernel_rfl) (fun _ _ _ h => h) (Or.inl ⟨by rfl, ?_⟩) hHeld ?_ ?_
  rotate_left
  · rintro w' ⟨s0, s1, s2, s3⟩
    go_simp
    with_reducible rfl
  rotate_left
  · simp only [Act.put, List.setIfInBounds_toArray, List.set_cons_zero, List.set_cons_succ, i64_w, i32_w]
    rfl
  refine take_ (i := 14) (N := some 168) (v := ?_) (a' := ?_) #[true, true, true, true, true, true, true, true, false, true, true, true, true, true, true, false, false] rfl rfl (by kernel_rfl) (fun _ _ _ h => h) (Or.inl ⟨by rfl, ?_⟩) hHeld ?_ ?_
  rotate_left
  · rintro w' ⟨s0, s1, s2, s3⟩
    go_simp
    with_reducible rfl
  rotate_left
  · simp only [Act.put, List.setIfInBounds_toArray, List.set_cons_zero, List.set_cons_succ, i64_w, i32_w]
    rfl
  refine one_ (i := 8) (N := some 162) #[true, true, true, true, true, true, true, true, true, true, true, true, true, true, true, false, false] rfl rfl (by kernel_rfl) (by decide) (fun K hK => ?_)
  refine goes_ Try.func46 (by kernel_rfl) rfl #[.slice A0 l0.length c0, .string key, .int .i64 rep, .int .i64 (wrap64 (-n))] (by rfl) rfl rfl (by simp only [List.map_toArray, List.map_cons, List.map_nil]; rfl) ?_
  with_reducible refine (hucksterref11_Add.calls A0 c0 l0 key rep (wrap64 (-n)) W3 _ (Kd.C_drew (Kd.C_below HR1.out HB.out)) hc0 HAdd3.out).mono ?_
  rintro e wx ⟨vx, rfl, hRx, hbx⟩
  refine ⟨_, rfl, ?_⟩
  have HBx := Aside0.mk (below_step (below_drew HB.out) hbx)
  have HVx := Aside0.mk (Kd.R_lower hRx (below_size (below_drew HB.out)))
  have HVbx := Aside0.mk (Kd.R_below (Kd.R_drew HVb.out) hbx)
  obtain ⟨Ax, cx, rfl, hcx, _⟩ := Kd.R_reads HVx.out
  obtain ⟨he0, he1, he2, he3⟩ := HBOX.out _ HBx.out
  refine hK.out _ _ ⟨he0, he1, he2, he3⟩ (fun hHeld => ?_)
  clear hK K
  refine norm_ (a' := ?_) ?_ ?_
  rotate_left
  · show Act.put _ (some 162) _ = _
    simp only [Act.put, List.setIfInBounds_toArray, List.set_cons_zero, List.set_cons_succ, i64_w, i32_w]
    rfl
  refine one_ (i := 15) (N := some 169) #[true, true, true, true, true, true, true, true, true, true, true, true, true, true, true, true, false] rfl rfl (by kernel_rfl) (by decide) (fun K hK => ?_)
  refine goes_ Try.func46 (by kernel_rfl) rfl #[.slice Ax W3.length cx, .string key, .int .i64 tp, .int .i64 n] (by rfl) rfl rfl (by simp only [List.map_toArray, List.map_cons, List.map_nil]; rfl) ?_
  with_reducible refine (hucksterref11_Add.calls Ax cx W3 key tp n W2 _ (Kd.R_reads' HVx.out).2.2 hcx hAdd2).mono ?_
  rintro e wy ⟨vy, rfl, hRy, hby⟩
  refine ⟨_, rfl, ?_⟩
  have HBy := Aside0.mk (below_step HBx.out hby)
  have HVy := Aside0.mk (Kd.R_lower hRy (below_size HBx.out))
  have HVby := Aside0.mk (Kd.R_below HVbx.out hby)
  obtain ⟨Ay, cy, rfl, hcy, _⟩ := Kd.R_reads HVy.out
  obtain ⟨hf0, hf1, hf2, hf3⟩ := HBOX.out _ HBy.out
  refine hK.out _ _ ⟨hf0, hf1, hf2, hf3⟩ (fun hHeld => ?_)
  clear hK K
  refine norm_ (a' := ?_) ?_ ?_
  rotate_left
  · show Act.put _ (some 169) _ = _
    simp only [Act.put, List.setIfInBounds_toArray, List.set_cons_zero, List.set_cons_succ, i64_w, i32_w]
    rfl
  refine pure_ (i := 16) (N := some 12) (v := ?_) (a' := ?_) #[true, true, true, true, true, true, true, true, true, true, true, true, true, true, true, true, true] rfl rfl (by kernel_rfl) (fun _ _ _ h => h) (Or.inl ⟨by rfl, ?_⟩) ?_ ?_
  rotate_left
  · intro w'
    go_simp
    with_reducible rfl
  rotate_left
  · simp only [Act.put, List.setIfInBounds_toArray, List.set_cons_zero, List.set_cons_succ, i64_w, i32_w]
    rfl
  refine done_ (by kernel_rfl) ?_
  clear HB HVb hd0 hd1 hd2 hd3
  have HB := HBy
  have HVb := HVby
  clear HBy HVby
  obtain ⟨hd0, hd1, hd2, hd3⟩ := HBOX.out _ HB.out
  go_wp2_with fail
  refine (hucksterref11_Right.calls Ay cy W2 false _ (Kd.R_reads' HVy.out).2.2 hcy (right_f (by omega) hm)).mono ?_
  rintro e w12 ⟨rfl, hb⟩
  have HB_ := HB
  clear HB
  have HB := Aside0.mk (below_step HB_.out hb)
  have HV_ := HVb
  clear HVb
  have HVb := Aside0.mk (Kd.R_below HV_.out hb)
  clear HV_
  have HV_ := HVy
  clear HVy
  have HVy := Aside0.mk (Kd.R_below HV_.out hb)
  clear HV_
  clear HB_ hb
  try clear hd0 hd1 hd2 hd3
  obtain ⟨hd0, hd1, hd2, hd3⟩ := HBOX.out _ HB.out
  go_wp2_with fail
  refine (awake_call _).mono ?_
  rintro e w13 ⟨rfl, hb⟩
  have HB_ := HB
  clear HB
  have HB := Aside0.mk (below_step HB_.out hb)
  have HV_ := HVb
  clear HVb
  have HVb := Aside0.mk (Kd.R_below HV_.out hb)
  clear HV_
  have HV_ := HVy
  clear HVy
  have HVy := Aside0.mk (Kd.R_below HV_.out hb)
  clear HV_
  clear HB_ hb
  try clear hd0 hd1 hd2 hd3
  obtain ⟨hd0, hd1, hd2, hd3⟩ := HBOX.out _ HB.out
  go_wp2_with fail
  go_ret
  exact ⟨rfl, below_step HB0.out HB.out⟩

set_option maxHeartbeats 16000000 in
set_option maxRecDepth 100000 in
theorem turns_full_mok (A0 : Option Addr) (c0 : Nat) (l0 : List Ac) (key : ByteArray) (rep tp n : Int) (w : World) (hr0 : Kd.C k94 w A0 l0.length l0) (hc0 : l0.length ≤ c0) (kl : Nat) (hL : hucksterlaw11_Light.f kl l0 = some true) (hl : l0.length ≤ 60) (hs : (key.size : Int) ≤ 100) (hc : chkA l0 = true) (hk : (key.toList == ([] : List UInt8)) = false) (h32 : (key.size : Int) ≤ 32) (hr : repOk rep = true) (hn0 : n ≤ 1000) (hlo : -1000 ≤ n) (hfull : chkA (setA l0 key (upR (getA l0 key) rep n)) = false) (hn1 : 1 ≤ n) (ht : repOk tp = true) (hrt : tp ≠ rep) (hm : chkA (setA l0 key (mvR (getA l0 key) rep tp n)) = true) : TurnsIs A0 c0 l0 key rep tp n w := by
  have HR := Aside0.mk hr0
  clear hr0
  have hsz : decide ((100 : Int) < (key.size : Int)) = false := by simp; omega
  have hk1 : (key.toList == ([] : List UInt8)) = false := hk
  have hk2 : key.toList.isEmpty = false := by simpa using hk1
  have hk3 : (key.toList != ([] : List UInt8)) = true := by rw [bne, hk1]; rfl
  have hz : decide ((key.size : Int) ≤ 32) = true := by simp; omega
  have hn : decide (n ≤ (1000 : Int)) = true := by simp; omega
  have hq : decide (n < (-1000 : Int)) = false := by simp; omega
  have hub : upB l0 key rep n = true := by unfold upB keyR; simp [hc, hk, h32, hr, hn0, hlo]
  have hlW : (setA l0 key (upR (getA l0 key) rep n)).length ≤ 61 := by have := setA_len l0 key (upR (getA l0 key) rep n); omega
  have hAdd := add_f (key := key) hl hc hr hlo hn0
  have hU := up_full hub hfull
  have hq2 : decide (n < (1 : Int)) = false := by simp; omega
  have hw3 : (tp == rep) = false := by simp [hrt]
  have hw4 : (tp != rep) = true := by simp [hrt]
  have hw5 : (rep == tp) = false := by simp [Ne.symm hrt]
  have hmb : mvB l0 key rep tp n = true := by unfold mvB keyR; simp [hc, hk, h32, hr, ht, hn0, hn1]
  have hM := mv_ok hmb hm
  have hAdd3 := add_f (key := key) (n := -n) hl hc hr (by omega) (by omega)
  have hAdd2 := add_f2 (key := key) hl hc hr ht hn1 hn0
  have hl2 : (setA l0 key (mvR (getA l0 key) rep tp n)).length ≤ 61 := by have := setA_len l0 key (mvR (getA l0 key) rep tp n); omega
  generalize setA l0 key (upR (getA l0 key) rep (-n)) = W3 at *
  generalize setA l0 key (mvR (getA l0 key) rep tp n) = W2 at *
  have hng : wrap64 (-n) = -n := wrapIdA (by omega) (by omega)
  rw [← hng] at hAdd3
  have HAdd3 := Aside0.mk hAdd3
  clear hub hmb hng hAdd3
  generalize hW1 : setA l0 key (upR (getA l0 key) rep n) = W1 at *
  have HW1 := Aside0.mk hW1
  clear hW1

  unfold TurnsIs
  go_enter Try.func10, Try.ntmps10
  go_wp2_with (first | ((with_reducible refine gate_dst (N := 3) rfl ?_); refine box_event ?hg (N := 3) ?hd (cs := #[.string key, .int .i64 rep, .int .i64 tp, .int .i64 n]) (t := 61) ?hr ?_; (case hd => rfl); (case hg => rfl); (case hr => first | (go_simp; done) | (go_simp; rfl)); intro g hg w1 hbox hb; have HB0 := Aside0.mk hb; have BK0 := Aside0.mk hbox; clear hb hbox hg) | fail)
  have hbox : ∀ W : World, Below w1.heap.size w1 W → W.cell? ⟨g, 0, none⟩ = some (.string key) ∧ W.cell? ⟨g, 1, none⟩ = some (.int .i64 rep) ∧ W.cell? ⟨g, 2, none⟩ = some (.int .i64 tp) ∧ W.cell? ⟨g, 3, none⟩ = some (.int .i64 n) := fun W hW => by
    have h := blk_below BK0.out hW
    exact ⟨(blk_cell h 0).trans rfl, (blk_cell h 1).trans rfl, (blk_cell h 2).trans rfl, (blk_cell h 3).trans rfl⟩
  have HBOX := Aside0.mk hbox
  clear hbox
  have HB := Aside0.mk (Below.refl w1.heap.size w1)
  have HR1 := Aside0.mk (Kd.C_below HR.out HB0.out)
  obtain ⟨hd0, hd1, hd2, hd3⟩ := HBOX.out _ HB.out
  go_wp2_with fail
  refine (light_call kl A0 c0 l0 true _ (Kd.C_below HR1.out HB.out) hc0 hL).mono ?_
  rintro e w2 ⟨rfl, hb⟩
  have HB_ := HB
  clear HB
  have HB := Aside0.mk (below_step HB_.out hb)
  clear HB_ hb
  try clear hd0 hd1 hd2 hd3
  obtain ⟨hd0, hd1, hd2, hd3⟩ := HBOX.out _ HB.out
  go_wp2_with fail
  refine (escrow_Up.calls A0 c0 l0 key rep n [] 6 _ (Kd.C_below HR1.out HB.out) hc0 hU).mono ?_
  rintro e w3 ⟨va, rfl, hRr, hb⟩
  have HVn := Aside0.mk (Kd.R_lower hRr (below_size HB.out))
  clear hRr
  have HB_ := HB
  clear HB
  have HB := Aside0.mk (below_step HB_.out hb)
  clear HB_ hb
  try clear hd0 hd1 hd2 hd3
  have HVa := HVn
  clear HVn
  obtain ⟨Aa, ca, rfl, hca, _⟩ := Kd.R_reads HVa.out
  obtain ⟨hd0, hd1, hd2, hd3⟩ := HBOX.out _ HB.out
  go_wp2_with fail
  refine (escrow_Move.calls A0 c0 l0 key rep tp n W2 0 _ (Kd.C_below HR1.out HB.out) hc0 hM).mono ?_
  rintro e w4 ⟨vb, rfl, hRr, hb⟩
  have HVn := Aside0.mk (Kd.R_lower hRr (below_size HB.out))
  clear hRr
  have HB_ := HB
  clear HB
  have HB := Aside0.mk (below_step HB_.out hb)
  have HV_ := HVa
  clear HVa
  have HVa := Aside0.mk (Kd.R_below HV_.out hb)
  clear HV_
  clear HB_ hb
  try clear hd0 hd1 hd2 hd3
  have HVb := HVn
  clear HVn
  obtain ⟨Ab, cb, rfl, hcb, _⟩ := Kd.R_reads HVb.out
  obtain ⟨hd0, hd1, hd2, hd3⟩ := HBOX.out _ HB.out
  go_wp2_with fail
  refine (hucksterref11_Right.calls A0 c0 l0 true _ (Kd.C_below HR1.out HB.out) hc0 (right_f (by omega) hc)).mono ?_
  rintro e w5 ⟨rfl, hb⟩
  have HB_ := HB
  clear HB
  have HB := Aside0.mk (below_step HB_.out hb)
  have HV_ := HVa
  clear HVa
  have HVa := Aside0.mk (Kd.R_below HV_.out hb)
  clear HV_
  have HV_ := HVb
  clear HVb
  have HVb := Aside0.mk (Kd.R_below HV_.out hb)
  clear HV_
  clear HB_ hb
  try clear hd0 hd1 hd2 hd3
  obtain ⟨hd0, hd1, hd2, hd3⟩ := HBOX.out _ HB.out
  go_wp2_with fail
  refine (there_call rep true _ hr).mono ?_
  rintro e w6 ⟨rfl, hb⟩
  have HB_ := HB
  clear HB
  have HB := Aside0.mk (below_step HB_.out hb)
  have HV_ := HVa
  clear HVa
  have HVa := Aside0.mk (Kd.R_below HV_.out hb)
  clear HV_
  have HV_ := HVb
  clear HVb
  have HVb := Aside0.mk (Kd.R_below HV_.out hb)
  clear HV_
  clear HB_ hb
  try clear hd0 hd1 hd2 hd3
  obtain ⟨hd0, hd1, hd2, hd3⟩ := HBOX.out _ HB.out
  go_wp2_with fail
  refine (chkA_call A0 c0 l0 _ (Kd.C_below HR1.out HB.out) hc0 0 (by rw [hc]; rfl)).mono ?_
  rintro e w7 ⟨rfl, hb⟩
  have HB_ := HB
  clear HB
  have HB := Aside0.mk (below_step HB_.out hb)
  have HV_ := HVa
  clear HVa
  have HVa := Aside0.mk (Kd.R_below HV_.out hb)
  clear HV_
  have HV_ := HVb
  clear HVb
  have HVb := Aside0.mk (Kd.R_below HV_.out hb)
  clear HV_
  clear HB_ hb
  try clear hd0 hd1 hd2 hd3
  obtain ⟨hd0, hd1, hd2, hd3⟩ := HBOX.out _ HB.out
  go_wp2_with fail
  refine (hucksterref11_Right.calls A0 c0 l0 true _ (Kd.C_below HR1.out HB.out) hc0 (right_f (by omega) hc)).mono ?_
  rintro e w8 ⟨rfl, hb⟩
  have HB_ := HB
  clear HB
  have HB := Aside0.mk (below_step HB_.out hb)
  have HV_ := HVa
  clear HVa
  have HVa := Aside0.mk (Kd.R_below HV_.out hb)
  clear HV_
  have HV_ := HVb
  clear HVb
  have HVb := Aside0.mk (Kd.R_below HV_.out hb)
  clear HV_
  clear HB_ hb
  try clear hd0 hd1 hd2 hd3
  obtain ⟨hd0, hd1, hd2, hd3⟩ := HBOX.out _ HB.out
  go_wp2_with fail
  refine (hucksterref11_Add.calls A0 c0 l0 key rep n W1 _ (Kd.C_below HR1.out HB.out) hc0 hAdd).mono ?_
  rintro e w9 ⟨vw, rfl, hRr, hb⟩
  have HVn := Aside0.mk (Kd.R_lower hRr (below_size HB.out))
  clear hRr
  have HB_ := HB
  clear HB
  have HB := Aside0.mk (below_step HB_.out hb)
  have HV_ := HVa
  clear HVa
  have HVa := Aside0.mk (Kd.R_below HV_.out hb)
  clear HV_
  have HV_ := HVb
  clear HVb
  have HVb := Aside0.mk (Kd.R_below HV_.out hb)
  clear HV_
  clear HB_ hb
  try clear hd0 hd1 hd2 hd3
  have HVw := HVn
  clear HVn
  obtain ⟨Aw, cw, rfl, hcw, _⟩ := Kd.R_reads HVw.out
  obtain ⟨hd0, hd1, hd2, hd3⟩ := HBOX.out _ HB.out
  go_wp2_with fail
  refine (hucksterref11_Right.calls Aw cw W1 false _ (Kd.R_reads' HVw.out).2.2 hcw (right_f (by omega) hfull)).mono ?_
  rintro e w10 ⟨rfl, hb⟩
  have HB_ := HB
  clear HB
  have HB := Aside0.mk (below_step HB_.out hb)
  have HV_ := HVa
  clear HVa
  have HVa := Aside0.mk (Kd.R_below HV_.out hb)
  clear HV_
  have HV_ := HVb
  clear HVb
  have HVb := Aside0.mk (Kd.R_below HV_.out hb)
  clear HV_
  have HV_ := HVw
  clear HVw
  have HVw := Aside0.mk (Kd.R_below HV_.out hb)
  clear HV_
  clear HB_ hb
  try clear hd0 hd1 hd2 hd3
  clear HVa
  clear HVw
  obtain ⟨hd0, hd1, hd2, hd3⟩ := HBOX.out _ HB.out
  go_wp2_with fail
  refine (there_call tp true _ ht).mono ?_
  rintro e w11 ⟨rfl, hb⟩
  have HB_ := HB
  clear HB
  have HB := Aside0.mk (below_step HB_.out hb)
  have HV_ := HVb
  clear HVb
  have HVb := Aside0.mk (Kd.R_below HV_.out hb)
  clear HV_
  clear HB_ hb
  try clear hd0 hd1 hd2 hd3
  obtain ⟨hd0, hd1, hd2, hd3⟩ := HBOX.out _ HB.out
  go_wp2_with fail
  refine start_ (n := 17) (S := fun w' => w'.cell? ⟨g, 0, none⟩ = some (.string key) ∧ w'.cell? ⟨g, 1, none⟩ = some (.int .i64 rep) ∧ w'.cell? ⟨g, 2, none⟩ = some (.int .i64 tp) ∧ w'.cell? ⟨g, 3, none⟩ = some (.int .i64 n)) (ds := []) #[false, false, false, false, false, false, false, false, false, false, false, false, false, false, false, false, false] (by kernel_rfl) rfl rfl ⟨hd0, hd1, hd2, hd3⟩ (fun hHeld => ?_)
  refine pure_ (i := 0) (N := some 154) (v := ?_) (a' := ?_) #[true, false, false, false, false, false, false, false, false, false, false, false, false, false, false, false, false] rfl rfl (by kernel_rfl) (fun _ _ _ h => h) (Or.inl ⟨by rfl, ?_⟩) ?_ ?_
  rotate_left
  · intro w'
    go_simp
    with_reducible rfl
  rotate_left
  · simp only [Act.put, List.setIfInBounds_toArray, List.set_cons_zero, List.set_cons_succ, i64_w, i32_w]
    rfl
  refine pure_ (i := 1) (N := some 155) (v := ?_) (a' := ?_) #[true, true, false, false, false, false, false, false, false, false, false, false, false, false, false, false, false] rfl rfl (by kernel_rfl) (fun _ _ _ h => h) (Or.inl ⟨by rfl, ?_⟩) ?_ ?_
  rotate_left
  · intro w'
    go_simp
    with_reducible rfl
  rotate_left
  · simp only [Act.put, List.setIfInBounds_toArray, List.set_cons_zero, List.set_cons_succ, i64_w, i32_w]
    rfl
  refine pure_ (i := 3) (N := some 157) (v := ?_) (a' := ?_) #[true, true, false, true, false, false, false, false, false, false, false, false, false, false, false, false, false] rfl rfl (by kernel_rfl) (fun _ _ _ h => h) (Or.inl ⟨by rfl, ?_⟩) ?_ ?_
  rotate_left
  · intro w'
    go_simp
    with_reducible rfl
  rotate_left
  · simp only [Act.put, List.setIfInBounds_toArray, List.set_cons_zero, List.set_cons_succ, i64_w, i32_w]
    rfl
  refine pure_ (i := 5) (N := some 159) (v := ?_) (a' := ?_) #[true, true, false, true, false, true, false, false, false, false, false, false, false, false, false, false, false] rfl rfl (by kernel_rfl) (fun _ _ _ h => h) (Or.inl ⟨by rfl, ?_⟩) ?_ ?_
  rotate_left
  · intro w'
    go_simp
    with_reducible rfl
  rotate_left
  · simp only [Act.put, List.setIfInBounds_toArray, List.set_cons_zero, List.set_cons_succ, i64_w, i32_w]
    rfl
  refine pure_ (i := 9) (N := some 163) (v := ?_) (a' := ?_) #[true, true, false, true, false, true, false, false, false, true, false, false, false, false, false, false, false] rfl rfl (by kernel_rfl) (fun _ _ _ h => h) (Or.inl ⟨by rfl, ?_⟩) ?_ ?_
  rotate_left
  · intro w'
    go_simp
    with_reducible rfl
  rotate_left
  · simp only [Act.put, List.setIfInBounds_toArray, List.set_cons_zero, List.set_cons_succ, i64_w, i32_w]
    rfl
  refine pure_ (i := 11) (N := some 165) (v := ?_) (a' := ?_) #[true, true, false, true, false, true, false, false, false, true, false, true, false, false, false, false, false] rfl rfl (by kernel_rfl) (fun _ _ _ h => h) (Or.inl ⟨by rfl, ?_⟩) ?_ ?_
  rotate_left
  · intro w'
    go_simp
    with_reducible rfl
  rotate_left
  · simp only [Act.put, List.setIfInBounds_toArray, List.set_cons_zero, List.set_cons_succ, i64_w, i32_w]
    rfl
  refine pure_ (i := 13) (N := some 167) (v := ?_) (a' := ?_) #[true, true, false, true, false, true, false, false, false, true, false, true, false, true, false, false, false] rfl rfl (by kernel_rfl) (fun _ _ _ h => h) (Or.inl ⟨by rfl, ?_⟩) ?_ ?_
  rotate_left
  · intro w'
    go_simp
    with_reducible rfl
  rotate_left
  · simp only [Act.put, List.setIfInBounds_toArray, List.set_cons_zero, List.set_cons_succ, i64_w, i32_w]
    rfl
  refine take_ (i := 2) (N := some 156) (v := ?_) (a' := ?_) #[true, true, true, true, false, true, false, false, false, true, false, true, false, true, false, false, false] rfl rfl (by kernel_rfl) (fun _ _ _ h => h) (Or.inl ⟨by rfl, ?_⟩) hHeld ?_ ?_
  rotate_left
  · rintro w' ⟨s0, s1, s2, s3⟩
    go_simp
    with_reducible rfl
  rotate_left
  · simp only [Act.put, List.setIfInBounds_toArray, List.set_cons_zero, List.set_cons_succ, i64_w, i32_w]
    rfl
  refine take_ (i := 4) (N := some 158) (v := ?_) (a' := ?_) #[true, true, true, true, true, true, false, false, false, true, false, true, false, true, false, false, false] rfl rfl (by kernel_rfl) (fun _ _ _ h => h) (Or.inl ⟨by rfl, ?_⟩) hHeld ?_ ?_
  rotate_left
  · rintro w' ⟨s0, s1, s2, s3⟩
    go_simp
    with_reducible rfl
  rotate_left
  · simp only [Act.put, List.setIfInBounds_toArray, List.set_cons_zero, List.set_cons_succ, i64_w, i32_w]
    rfl
  refine take_ (i := 6) (N := some 160) (v := ?_) (a' := ?_) #[true, true, true, true, true, true, true, false, false, true, false, true, false, true, false, false, false] rfl rfl (by kernel_rfl) (fun _ _ _ h => h) (Or.inl ⟨by rfl, ?_⟩) hHeld ?_ ?_
  rotate_left
  · rintro w' ⟨s0, s1, s2, s3⟩
    go_simp
    with_reducible rfl
  rotate_left
  · simp only [Act.put, List.setIfInBounds_toArray, List.set_cons_zero, List.set_cons_succ, i64_w, i32_w]
    rfl
  refine pure_ (i := 7) (N := some 161) (v := ?_) (a' := ?_) #[true, true, true, true, true, true, true, true, false, true, false, true, false, true, false, false, false] rfl rfl (by kernel_rfl) (fun _ _ _ h => h) (Or.inl ⟨by rfl, ?_⟩) ?_ ?_
  rotate_left
  · intro w'
    go_simp
    with_reducible rfl
  rotate_left
  · simp only [Act.put, List.setIfInBounds_toArray, List.set_cons_zero, List.set_cons_succ, i64_w, i32_w]
    rfl
  refine take_ (i := 10) (N := some 164) (v := ?_) (a' := ?_) #[true, true, true, true, true, true, true, true, false, true, true, true, false, true, false, false, false] rfl rfl (by kernel_rfl) (fun _ _ _ h => h) (Or.inl ⟨by rfl, ?_⟩) hHeld ?_ ?_
  rotate_left
  · rintro w' ⟨s0, s1, s2, s3⟩
    go_simp
    with_reducible rfl
  rotate_left
  · simp only [Act.put, List.setIfInBounds_toArray, List.set_cons_zero, List.set_cons_succ, i64_w, i32_w]
    rfl
  refine take_ (i := 12) (N := some 166) (v := ?_) (a' := ?_) #[true, true, true, true, true, true, true, true, false, true, true, true, true, true, false, false, false] rfl rfl (by kernel_rfl) (fun _ _ _ h => h) (Or.inl ⟨by rfl, ?_⟩) hHeld ?_ ?_
  rotate_left
  · rintro w' ⟨s0, s1, s2, s3⟩
    go_simp
    with_reducible rfl
  rotate_left
  · simp only [Act.put, List.setIfInBounds_toArray, List.set_cons_zero, List.set_cons_succ, i64_w, i32_w]
    rfl
  refine take_ (i := 14) (N := some 168) (v := ?_) (a' := ?_) #[true, true, true, true, true, true, true, true, false, true, true, true, true, true, true, false, false] rfl rfl (by kernel_rfl) (fun _ _ _ h => h) (Or.inl ⟨by rfl, ?_⟩) hHeld ?_ ?_
  rotate_left
  · rintro w' ⟨s0, s1, s2, s3⟩
    go_simp
    with_reducible rfl
  rotate_left
  · simp only [Act.put, List.setIfInBounds_toArray, List.set_cons_zero, List.set_cons_succ, i64_w, i32_w]
    rfl
  refine one_ (i := 8) (N := some 162) #[true, true, true, true, true, true, true, true, true, true, true, true, true, true, true, false, false] rfl rfl (by kernel_rfl) (by decide) (fun K hK => ?_)
  refine goes_ Try.func46 (by kernel_rfl) rfl #[.slice A0 l0.length c0, .string key, .int .i64 rep, .int .i64 (wrap64 (-n))] (by rfl) rfl rfl (by simp only [List.map_toArray, List.map_cons, List.map_nil]; rfl) ?_
  with_reducible refine (hucksterref11_Add.calls A0 c0 l0 key rep (wrap64 (-n)) W3 _ (Kd.C_drew (Kd.C_below HR1.out HB.out)) hc0 HAdd3.out).mono ?_
  rintro e wx ⟨vx, rfl, hRx, hbx⟩
  refine ⟨_, rfl, ?_⟩
  have HBx := Aside0.mk (below_step (below_drew HB.out) hbx)
  have HVx := Aside0.mk (Kd.R_lower hRx (below_size (below_drew HB.out)))
  have HVbx := Aside0.mk (Kd.R_below (Kd.R_drew HVb.out) hbx)
  obtain ⟨Ax, cx, rfl, hcx, _⟩ := Kd.R_reads HVx.out
  obtain ⟨he0, he1, he2, he3⟩ := HBOX.out _ HBx.out
  refine hK.out _ _ ⟨he0, he1, he2, he3⟩ (fun hHeld => ?_)
  clear hK K
  refine norm_ (a' := ?_) ?_ ?_
  rotate_left
  · show Act.put _ (some 162) _ = _
    simp only [Act.put, List.setIfInBounds_toArray, List.set_cons_zero, List.set_cons_succ, i64_w, i32_w]
    rfl
  refine one_ (i := 15) (N := some 169) #[true, true, true, true, true, true, true, true, true, true, true, true, true, true, true, true, false] rfl rfl (by kernel_rfl) (by decide) (fun K hK => ?_)
  refine goes_ Try.func46 (by kernel_rfl) rfl #[.slice Ax W3.length cx, .string key, .int .i64 tp, .int .i64 n] (by rfl) rfl rfl (by simp only [List.map_toArray, List.map_cons, List.map_nil]; rfl) ?_
  with_reducible refine (hucksterref11_Add.calls Ax cx W3 key tp n W2 _ (Kd.R_reads' HVx.out).2.2 hcx hAdd2).mono ?_
  rintro e wy ⟨vy, rfl, hRy, hby⟩
  refine ⟨_, rfl, ?_⟩
  have HBy := Aside0.mk (below_step HBx.out hby)
  have HVy := Aside0.mk (Kd.R_lower hRy (below_size HBx.out))
  have HVby := Aside0.mk (Kd.R_below HVbx.out hby)
  obtain ⟨Ay, cy, rfl, hcy, _⟩ := Kd.R_reads HVy.out
  obtain ⟨hf0, hf1, hf2, hf3⟩ := HBOX.out _ HBy.out
  refine hK.out _ _ ⟨hf0, hf1, hf2, hf3⟩ (fun hHeld => ?_)
  clear hK K
  refine norm_ (a' := ?_) ?_ ?_
  rotate_left
  · show Act.put _ (some 169) _ = _
    simp only [Act.put, List.setIfInBounds_toArray, List.set_cons_zero, List.set_cons_succ, i64_w, i32_w]
    rfl
  refine pure_ (i := 16) (N := some 12) (v := ?_) (a' := ?_) #[true, true, true, true, true, true, true, true, true, true, true, true, true, true, true, true, true] rfl rfl (by kernel_rfl) (fun _ _ _ h => h) (Or.inl ⟨by rfl, ?_⟩) ?_ ?_
  rotate_left
  · intro w'
    go_simp
    with_reducible rfl
  rotate_left
  · simp only [Act.put, List.setIfInBounds_toArray, List.set_cons_zero, List.set_cons_succ, i64_w, i32_w]
    rfl
  refine done_ (by kernel_rfl) ?_
  clear HB HVb hd0 hd1 hd2 hd3
  have HB := HBy
  have HVb := HVby
  clear HBy HVby
  obtain ⟨hd0, hd1, hd2, hd3⟩ := HBOX.out _ HB.out
  go_wp2_with fail
  refine (hucksterref11_Right.calls Ay cy W2 true _ (Kd.R_reads' HVy.out).2.2 hcy (right_f (by omega) hm)).mono ?_
  rintro e w12 ⟨rfl, hb⟩
  have HB_ := HB
  clear HB
  have HB := Aside0.mk (below_step HB_.out hb)
  have HV_ := HVb
  clear HVb
  have HVb := Aside0.mk (Kd.R_below HV_.out hb)
  clear HV_
  have HV_ := HVy
  clear HVy
  have HVy := Aside0.mk (Kd.R_below HV_.out hb)
  clear HV_
  clear HB_ hb
  try clear hd0 hd1 hd2 hd3
  obtain ⟨hd0, hd1, hd2, hd3⟩ := HBOX.out _ HB.out
  go_wp2_with fail
  refine (same_call W2 (by omega) Ab cb Ay cy _ (Kd.R_reads' HVb.out).2.2 hcb (Kd.R_reads' HVy.out).2.2 hcy).mono ?_
  rintro e w13 ⟨rfl, hb⟩
  have HB_ := HB
  clear HB
  have HB := Aside0.mk (below_step HB_.out hb)
  have HV_ := HVb
  clear HVb
  have HVb := Aside0.mk (Kd.R_below HV_.out hb)
  clear HV_
  have HV_ := HVy
  clear HVy
  have HVy := Aside0.mk (Kd.R_below HV_.out hb)
  clear HV_
  clear HB_ hb
  try clear hd0 hd1 hd2 hd3
  obtain ⟨hd0, hd1, hd2, hd3⟩ := HBOX.out _ HB.out
  go_wp2_with fail
  refine (awake_call _).mono ?_
  rintro e w14 ⟨rfl, hb⟩
  have HB_ := HB
  clear HB
  have HB := Aside0.mk (below_step HB_.out hb)
  have HV_ := HVb
  clear HVb
  have HVb := Aside0.mk (Kd.R_below HV_.out hb)
  clear HV_
  have HV_ := HVy
  clear HVy
  have HVy := Aside0.mk (Kd.R_below HV_.out hb)
  clear HV_
  clear HB_ hb
  try clear hd0 hd1 hd2 hd3
  obtain ⟨hd0, hd1, hd2, hd3⟩ := HBOX.out _ HB.out
  go_wp2_with fail
  go_ret
  exact ⟨rfl, below_step HB0.out HB.out⟩

set_option maxHeartbeats 16000000 in
set_option maxRecDepth 100000 in
theorem turns_ok_few (A0 : Option Addr) (c0 : Nat) (l0 : List Ac) (key : ByteArray) (rep tp n : Int) (w : World) (hr0 : Kd.C k94 w A0 l0.length l0) (hc0 : l0.length ≤ c0) (kl : Nat) (hL : hucksterlaw11_Light.f kl l0 = some true) (hl : l0.length ≤ 60) (hs : (key.size : Int) ≤ 100) (hc : chkA l0 = true) (hk : (key.toList == ([] : List UInt8)) = false) (h32 : (key.size : Int) ≤ 32) (hr : repOk rep = true) (hn0 : n ≤ 1000) (hlo : -1000 ≤ n) (hfull : chkA (setA l0 key (upR (getA l0 key) rep n)) = true) (hn1 : n < 1) : TurnsIs A0 c0 l0 key rep tp n w := by
  have HR := Aside0.mk hr0
  clear hr0
  have hsz : decide ((100 : Int) < (key.size : Int)) = false := by simp; omega
  have hk1 : (key.toList == ([] : List UInt8)) = false := hk
  have hk2 : key.toList.isEmpty = false := by simpa using hk1
  have hk3 : (key.toList != ([] : List UInt8)) = true := by rw [bne, hk1]; rfl
  have hz : decide ((key.size : Int) ≤ 32) = true := by simp; omega
  have hn : decide (n ≤ (1000 : Int)) = true := by simp; omega
  have hq : decide (n < (-1000 : Int)) = false := by simp; omega
  have hub : upB l0 key rep n = true := by unfold upB keyR; simp [hc, hk, h32, hr, hn0, hlo]
  have hlW : (setA l0 key (upR (getA l0 key) rep n)).length ≤ 61 := by have := setA_len l0 key (upR (getA l0 key) rep n); omega
  have hAdd := add_f (key := key) hl hc hr hlo hn0
  have hU := up_ok hub hfull
  have hq2 : decide (n < (1 : Int)) = true := by simp; omega
  have hmb : mvB l0 key rep tp n = false := by unfold mvB; simp; omega
  have hM := mv_no hmb
  clear hub hmb
  generalize hW1 : setA l0 key (upR (getA l0 key) rep n) = W1 at *
  have HW1 := Aside0.mk hW1
  clear hW1

  unfold TurnsIs
  go_enter Try.func10, Try.ntmps10
  go_wp2_with (first | ((with_reducible refine gate_dst (N := 3) rfl ?_); refine box_event ?hg (N := 3) ?hd (cs := #[.string key, .int .i64 rep, .int .i64 tp, .int .i64 n]) (t := 61) ?hr ?_; (case hd => rfl); (case hg => rfl); (case hr => first | (go_simp; done) | (go_simp; rfl)); intro g hg w1 hbox hb; have HB0 := Aside0.mk hb; have BK0 := Aside0.mk hbox; clear hb hbox hg) | fail)
  have hbox : ∀ W : World, Below w1.heap.size w1 W → W.cell? ⟨g, 0, none⟩ = some (.string key) ∧ W.cell? ⟨g, 1, none⟩ = some (.int .i64 rep) ∧ W.cell? ⟨g, 2, none⟩ = some (.int .i64 tp) ∧ W.cell? ⟨g, 3, none⟩ = some (.int .i64 n) := fun W hW => by
    have h := blk_below BK0.out hW
    exact ⟨(blk_cell h 0).trans rfl, (blk_cell h 1).trans rfl, (blk_cell h 2).trans rfl, (blk_cell h 3).trans rfl⟩
  have HBOX := Aside0.mk hbox
  clear hbox
  have HB := Aside0.mk (Below.refl w1.heap.size w1)
  have HR1 := Aside0.mk (Kd.C_below HR.out HB0.out)
  obtain ⟨hd0, hd1, hd2, hd3⟩ := HBOX.out _ HB.out
  go_wp2_with fail
  refine (light_call kl A0 c0 l0 true _ (Kd.C_below HR1.out HB.out) hc0 hL).mono ?_
  rintro e w2 ⟨rfl, hb⟩
  have HB_ := HB
  clear HB
  have HB := Aside0.mk (below_step HB_.out hb)
  clear HB_ hb
  try clear hd0 hd1 hd2 hd3
  obtain ⟨hd0, hd1, hd2, hd3⟩ := HBOX.out _ HB.out
  go_wp2_with fail
  refine (escrow_Up.calls A0 c0 l0 key rep n W1 0 _ (Kd.C_below HR1.out HB.out) hc0 hU).mono ?_
  rintro e w3 ⟨va, rfl, hRr, hb⟩
  have HVn := Aside0.mk (Kd.R_lower hRr (below_size HB.out))
  clear hRr
  have HB_ := HB
  clear HB
  have HB := Aside0.mk (below_step HB_.out hb)
  clear HB_ hb
  try clear hd0 hd1 hd2 hd3
  have HVa := HVn
  clear HVn
  obtain ⟨Aa, ca, rfl, hca, _⟩ := Kd.R_reads HVa.out
  obtain ⟨hd0, hd1, hd2, hd3⟩ := HBOX.out _ HB.out
  go_wp2_with fail
  refine (escrow_Move.calls A0 c0 l0 key rep tp n [] 1 _ (Kd.C_below HR1.out HB.out) hc0 hM).mono ?_
  rintro e w4 ⟨vb, rfl, hRr, hb⟩
  have HVn := Aside0.mk (Kd.R_lower hRr (below_size HB.out))
  clear hRr
  have HB_ := HB
  clear HB
  have HB := Aside0.mk (below_step HB_.out hb)
  have HV_ := HVa
  clear HVa
  have HVa := Aside0.mk (Kd.R_below HV_.out hb)
  clear HV_
  clear HB_ hb
  try clear hd0 hd1 hd2 hd3
  have HVb := HVn
  clear HVn
  obtain ⟨Ab, cb, rfl, hcb, _⟩ := Kd.R_reads HVb.out
  obtain ⟨hd0, hd1, hd2, hd3⟩ := HBOX.out _ HB.out
  go_wp2_with fail
  refine (hucksterref11_Right.calls A0 c0 l0 true _ (Kd.C_below HR1.out HB.out) hc0 (right_f (by omega) hc)).mono ?_
  rintro e w5 ⟨rfl, hb⟩
  have HB_ := HB
  clear HB
  have HB := Aside0.mk (below_step HB_.out hb)
  have HV_ := HVa
  clear HVa
  have HVa := Aside0.mk (Kd.R_below HV_.out hb)
  clear HV_
  have HV_ := HVb
  clear HVb
  have HVb := Aside0.mk (Kd.R_below HV_.out hb)
  clear HV_
  clear HB_ hb
  try clear hd0 hd1 hd2 hd3
  obtain ⟨hd0, hd1, hd2, hd3⟩ := HBOX.out _ HB.out
  go_wp2_with fail
  refine (there_call rep true _ hr).mono ?_
  rintro e w6 ⟨rfl, hb⟩
  have HB_ := HB
  clear HB
  have HB := Aside0.mk (below_step HB_.out hb)
  have HV_ := HVa
  clear HVa
  have HVa := Aside0.mk (Kd.R_below HV_.out hb)
  clear HV_
  have HV_ := HVb
  clear HVb
  have HVb := Aside0.mk (Kd.R_below HV_.out hb)
  clear HV_
  clear HB_ hb
  try clear hd0 hd1 hd2 hd3
  obtain ⟨hd0, hd1, hd2, hd3⟩ := HBOX.out _ HB.out
  go_wp2_with fail
  refine (chkA_call A0 c0 l0 _ (Kd.C_below HR1.out HB.out) hc0 0 (by rw [hc]; rfl)).mono ?_
  rintro e w7 ⟨rfl, hb⟩
  have HB_ := HB
  clear HB
  have HB := Aside0.mk (below_step HB_.out hb)
  have HV_ := HVa
  clear HVa
  have HVa := Aside0.mk (Kd.R_below HV_.out hb)
  clear HV_
  have HV_ := HVb
  clear HVb
  have HVb := Aside0.mk (Kd.R_below HV_.out hb)
  clear HV_
  clear HB_ hb
  try clear hd0 hd1 hd2 hd3
  obtain ⟨hd0, hd1, hd2, hd3⟩ := HBOX.out _ HB.out
  go_wp2_with fail
  refine (hucksterref11_Right.calls A0 c0 l0 true _ (Kd.C_below HR1.out HB.out) hc0 (right_f (by omega) hc)).mono ?_
  rintro e w8 ⟨rfl, hb⟩
  have HB_ := HB
  clear HB
  have HB := Aside0.mk (below_step HB_.out hb)
  have HV_ := HVa
  clear HVa
  have HVa := Aside0.mk (Kd.R_below HV_.out hb)
  clear HV_
  have HV_ := HVb
  clear HVb
  have HVb := Aside0.mk (Kd.R_below HV_.out hb)
  clear HV_
  clear HB_ hb
  try clear hd0 hd1 hd2 hd3
  obtain ⟨hd0, hd1, hd2, hd3⟩ := HBOX.out _ HB.out
  go_wp2_with fail
  refine (hucksterref11_Add.calls A0 c0 l0 key rep n W1 _ (Kd.C_below HR1.out HB.out) hc0 hAdd).mono ?_
  rintro e w9 ⟨vw, rfl, hRr, hb⟩
  have HVn := Aside0.mk (Kd.R_lower hRr (below_size HB.out))
  clear hRr
  have HB_ := HB
  clear HB
  have HB := Aside0.mk (below_step HB_.out hb)
  have HV_ := HVa
  clear HVa
  have HVa := Aside0.mk (Kd.R_below HV_.out hb)
  clear HV_
  have HV_ := HVb
  clear HVb
  have HVb := Aside0.mk (Kd.R_below HV_.out hb)
  clear HV_
  clear HB_ hb
  try clear hd0 hd1 hd2 hd3
  have HVw := HVn
  clear HVn
  obtain ⟨Aw, cw, rfl, hcw, _⟩ := Kd.R_reads HVw.out
  obtain ⟨hd0, hd1, hd2, hd3⟩ := HBOX.out _ HB.out
  go_wp2_with fail
  refine (hucksterref11_Right.calls Aw cw W1 true _ (Kd.R_reads' HVw.out).2.2 hcw (right_f (by omega) hfull)).mono ?_
  rintro e w10 ⟨rfl, hb⟩
  have HB_ := HB
  clear HB
  have HB := Aside0.mk (below_step HB_.out hb)
  have HV_ := HVa
  clear HVa
  have HVa := Aside0.mk (Kd.R_below HV_.out hb)
  clear HV_
  have HV_ := HVb
  clear HVb
  have HVb := Aside0.mk (Kd.R_below HV_.out hb)
  clear HV_
  have HV_ := HVw
  clear HVw
  have HVw := Aside0.mk (Kd.R_below HV_.out hb)
  clear HV_
  clear HB_ hb
  try clear hd0 hd1 hd2 hd3
  obtain ⟨hd0, hd1, hd2, hd3⟩ := HBOX.out _ HB.out
  go_wp2_with fail
  refine (same_call W1 (by omega) Aa ca Aw cw _ (Kd.R_reads' HVa.out).2.2 hca (Kd.R_reads' HVw.out).2.2 hcw).mono ?_
  rintro e w11 ⟨rfl, hb⟩
  have HB_ := HB
  clear HB
  have HB := Aside0.mk (below_step HB_.out hb)
  have HV_ := HVa
  clear HVa
  have HVa := Aside0.mk (Kd.R_below HV_.out hb)
  clear HV_
  have HV_ := HVb
  clear HVb
  have HVb := Aside0.mk (Kd.R_below HV_.out hb)
  clear HV_
  have HV_ := HVw
  clear HVw
  have HVw := Aside0.mk (Kd.R_below HV_.out hb)
  clear HV_
  clear HB_ hb
  try clear hd0 hd1 hd2 hd3
  clear HVa
  clear HVw
  obtain ⟨hd0, hd1, hd2, hd3⟩ := HBOX.out _ HB.out
  go_wp2_with fail
  refine (awake_call _).mono ?_
  rintro e w12 ⟨rfl, hb⟩
  have HB_ := HB
  clear HB
  have HB := Aside0.mk (below_step HB_.out hb)
  have HV_ := HVb
  clear HVb
  have HVb := Aside0.mk (Kd.R_below HV_.out hb)
  clear HV_
  clear HB_ hb
  try clear hd0 hd1 hd2 hd3
  obtain ⟨hd0, hd1, hd2, hd3⟩ := HBOX.out _ HB.out
  go_wp2_with fail
  go_ret
  exact ⟨rfl, below_step HB0.out HB.out⟩

set_option maxHeartbeats 16000000 in
set_option maxRecDepth 100000 in
theorem turns_ok_to (A0 : Option Addr) (c0 : Nat) (l0 : List Ac) (key : ByteArray) (rep tp n : Int) (w : World) (hr0 : Kd.C k94 w A0 l0.length l0) (hc0 : l0.length ≤ c0) (kl : Nat) (hL : hucksterlaw11_Light.f kl l0 = some true) (hl : l0.length ≤ 60) (hs : (key.size : Int) ≤ 100) (hc : chkA l0 = true) (hk : (key.toList == ([] : List UInt8)) = false) (h32 : (key.size : Int) ≤ 32) (hr : repOk rep = true) (hn0 : n ≤ 1000) (hlo : -1000 ≤ n) (hfull : chkA (setA l0 key (upR (getA l0 key) rep n)) = true) (hn1 : 1 ≤ n) (ht : repOk tp = false) : TurnsIs A0 c0 l0 key rep tp n w := by
  have HR := Aside0.mk hr0
  clear hr0
  have hsz : decide ((100 : Int) < (key.size : Int)) = false := by simp; omega
  have hk1 : (key.toList == ([] : List UInt8)) = false := hk
  have hk2 : key.toList.isEmpty = false := by simpa using hk1
  have hk3 : (key.toList != ([] : List UInt8)) = true := by rw [bne, hk1]; rfl
  have hz : decide ((key.size : Int) ≤ 32) = true := by simp; omega
  have hn : decide (n ≤ (1000 : Int)) = true := by simp; omega
  have hq : decide (n < (-1000 : Int)) = false := by simp; omega
  have hub : upB l0 key rep n = true := by unfold upB keyR; simp [hc, hk, h32, hr, hn0, hlo]
  have hlW : (setA l0 key (upR (getA l0 key) rep n)).length ≤ 61 := by have := setA_len l0 key (upR (getA l0 key) rep n); omega
  have hAdd := add_f (key := key) hl hc hr hlo hn0
  have hU := up_ok hub hfull
  have hq2 : decide (n < (1 : Int)) = false := by simp; omega
  have hmb : mvB l0 key rep tp n = false := by unfold mvB; simp [ht]
  have hM := mv_no hmb
  clear hub hmb
  generalize hW1 : setA l0 key (upR (getA l0 key) rep n) = W1 at *
  have HW1 := Aside0.mk hW1
  clear hW1

  unfold TurnsIs
  go_enter Try.func10, Try.ntmps10
  go_wp2_with (first | ((with_reducible refine gate_dst (N := 3) rfl ?_); refine box_event ?hg (N := 3) ?hd (cs := #[.string key, .int .i64 rep, .int .i64 tp, .int .i64 n]) (t := 61) ?hr ?_; (case hd => rfl); (case hg => rfl); (case hr => first | (go_simp; done) | (go_simp; rfl)); intro g hg w1 hbox hb; have HB0 := Aside0.mk hb; have BK0 := Aside0.mk hbox; clear hb hbox hg) | fail)
  have hbox : ∀ W : World, Below w1.heap.size w1 W → W.cell? ⟨g, 0, none⟩ = some (.string key) ∧ W.cell? ⟨g, 1, none⟩ = some (.int .i64 rep) ∧ W.cell? ⟨g, 2, none⟩ = some (.int .i64 tp) ∧ W.cell? ⟨g, 3, none⟩ = some (.int .i64 n) := fun W hW => by
    have h := blk_below BK0.out hW
    exact ⟨(blk_cell h 0).trans rfl, (blk_cell h 1).trans rfl, (blk_cell h 2).trans rfl, (blk_cell h 3).trans rfl⟩
  have HBOX := Aside0.mk hbox
  clear hbox
  have HB := Aside0.mk (Below.refl w1.heap.size w1)
  have HR1 := Aside0.mk (Kd.C_below HR.out HB0.out)
  obtain ⟨hd0, hd1, hd2, hd3⟩ := HBOX.out _ HB.out
  go_wp2_with fail
  refine (light_call kl A0 c0 l0 true _ (Kd.C_below HR1.out HB.out) hc0 hL).mono ?_
  rintro e w2 ⟨rfl, hb⟩
  have HB_ := HB
  clear HB
  have HB := Aside0.mk (below_step HB_.out hb)
  clear HB_ hb
  try clear hd0 hd1 hd2 hd3
  obtain ⟨hd0, hd1, hd2, hd3⟩ := HBOX.out _ HB.out
  go_wp2_with fail
  refine (escrow_Up.calls A0 c0 l0 key rep n W1 0 _ (Kd.C_below HR1.out HB.out) hc0 hU).mono ?_
  rintro e w3 ⟨va, rfl, hRr, hb⟩
  have HVn := Aside0.mk (Kd.R_lower hRr (below_size HB.out))
  clear hRr
  have HB_ := HB
  clear HB
  have HB := Aside0.mk (below_step HB_.out hb)
  clear HB_ hb
  try clear hd0 hd1 hd2 hd3
  have HVa := HVn
  clear HVn
  obtain ⟨Aa, ca, rfl, hca, _⟩ := Kd.R_reads HVa.out
  obtain ⟨hd0, hd1, hd2, hd3⟩ := HBOX.out _ HB.out
  go_wp2_with fail
  refine (escrow_Move.calls A0 c0 l0 key rep tp n [] 1 _ (Kd.C_below HR1.out HB.out) hc0 hM).mono ?_
  rintro e w4 ⟨vb, rfl, hRr, hb⟩
  have HVn := Aside0.mk (Kd.R_lower hRr (below_size HB.out))
  clear hRr
  have HB_ := HB
  clear HB
  have HB := Aside0.mk (below_step HB_.out hb)
  have HV_ := HVa
  clear HVa
  have HVa := Aside0.mk (Kd.R_below HV_.out hb)
  clear HV_
  clear HB_ hb
  try clear hd0 hd1 hd2 hd3
  have HVb := HVn
  clear HVn
  obtain ⟨Ab, cb, rfl, hcb, _⟩ := Kd.R_reads HVb.out
  obtain ⟨hd0, hd1, hd2, hd3⟩ := HBOX.out _ HB.out
  go_wp2_with fail
  refine (hucksterref11_Right.calls A0 c0 l0 true _ (Kd.C_below HR1.out HB.out) hc0 (right_f (by omega) hc)).mono ?_
  rintro e w5 ⟨rfl, hb⟩
  have HB_ := HB
  clear HB
  have HB := Aside0.mk (below_step HB_.out hb)
  have HV_ := HVa
  clear HVa
  have HVa := Aside0.mk (Kd.R_below HV_.out hb)
  clear HV_
  have HV_ := HVb
  clear HVb
  have HVb := Aside0.mk (Kd.R_below HV_.out hb)
  clear HV_
  clear HB_ hb
  try clear hd0 hd1 hd2 hd3
  obtain ⟨hd0, hd1, hd2, hd3⟩ := HBOX.out _ HB.out
  go_wp2_with fail
  refine (there_call rep true _ hr).mono ?_
  rintro e w6 ⟨rfl, hb⟩
  have HB_ := HB
  clear HB
  have HB := Aside0.mk (below_step HB_.out hb)
  have HV_ := HVa
  clear HVa
  have HVa := Aside0.mk (Kd.R_below HV_.out hb)
  clear HV_
  have HV_ := HVb
  clear HVb
  have HVb := Aside0.mk (Kd.R_below HV_.out hb)
  clear HV_
  clear HB_ hb
  try clear hd0 hd1 hd2 hd3
  obtain ⟨hd0, hd1, hd2, hd3⟩ := HBOX.out _ HB.out
  go_wp2_with fail
  refine (chkA_call A0 c0 l0 _ (Kd.C_below HR1.out HB.out) hc0 0 (by rw [hc]; rfl)).mono ?_
  rintro e w7 ⟨rfl, hb⟩
  have HB_ := HB
  clear HB
  have HB := Aside0.mk (below_step HB_.out hb)
  have HV_ := HVa
  clear HVa
  have HVa := Aside0.mk (Kd.R_below HV_.out hb)
  clear HV_
  have HV_ := HVb
  clear HVb
  have HVb := Aside0.mk (Kd.R_below HV_.out hb)
  clear HV_
  clear HB_ hb
  try clear hd0 hd1 hd2 hd3
  obtain ⟨hd0, hd1, hd2, hd3⟩ := HBOX.out _ HB.out
  go_wp2_with fail
  refine (hucksterref11_Right.calls A0 c0 l0 true _ (Kd.C_below HR1.out HB.out) hc0 (right_f (by omega) hc)).mono ?_
  rintro e w8 ⟨rfl, hb⟩
  have HB_ := HB
  clear HB
  have HB := Aside0.mk (below_step HB_.out hb)
  have HV_ := HVa
  clear HVa
  have HVa := Aside0.mk (Kd.R_below HV_.out hb)
  clear HV_
  have HV_ := HVb
  clear HVb
  have HVb := Aside0.mk (Kd.R_below HV_.out hb)
  clear HV_
  clear HB_ hb
  try clear hd0 hd1 hd2 hd3
  obtain ⟨hd0, hd1, hd2, hd3⟩ := HBOX.out _ HB.out
  go_wp2_with fail
  refine (hucksterref11_Add.calls A0 c0 l0 key rep n W1 _ (Kd.C_below HR1.out HB.out) hc0 hAdd).mono ?_
  rintro e w9 ⟨vw, rfl, hRr, hb⟩
  have HVn := Aside0.mk (Kd.R_lower hRr (below_size HB.out))
  clear hRr
  have HB_ := HB
  clear HB
  have HB := Aside0.mk (below_step HB_.out hb)
  have HV_ := HVa
  clear HVa
  have HVa := Aside0.mk (Kd.R_below HV_.out hb)
  clear HV_
  have HV_ := HVb
  clear HVb
  have HVb := Aside0.mk (Kd.R_below HV_.out hb)
  clear HV_
  clear HB_ hb
  try clear hd0 hd1 hd2 hd3
  have HVw := HVn
  clear HVn
  obtain ⟨Aw, cw, rfl, hcw, _⟩ := Kd.R_reads HVw.out
  obtain ⟨hd0, hd1, hd2, hd3⟩ := HBOX.out _ HB.out
  go_wp2_with fail
  refine (hucksterref11_Right.calls Aw cw W1 true _ (Kd.R_reads' HVw.out).2.2 hcw (right_f (by omega) hfull)).mono ?_
  rintro e w10 ⟨rfl, hb⟩
  have HB_ := HB
  clear HB
  have HB := Aside0.mk (below_step HB_.out hb)
  have HV_ := HVa
  clear HVa
  have HVa := Aside0.mk (Kd.R_below HV_.out hb)
  clear HV_
  have HV_ := HVb
  clear HVb
  have HVb := Aside0.mk (Kd.R_below HV_.out hb)
  clear HV_
  have HV_ := HVw
  clear HVw
  have HVw := Aside0.mk (Kd.R_below HV_.out hb)
  clear HV_
  clear HB_ hb
  try clear hd0 hd1 hd2 hd3
  obtain ⟨hd0, hd1, hd2, hd3⟩ := HBOX.out _ HB.out
  go_wp2_with fail
  refine (same_call W1 (by omega) Aa ca Aw cw _ (Kd.R_reads' HVa.out).2.2 hca (Kd.R_reads' HVw.out).2.2 hcw).mono ?_
  rintro e w11 ⟨rfl, hb⟩
  have HB_ := HB
  clear HB
  have HB := Aside0.mk (below_step HB_.out hb)
  have HV_ := HVa
  clear HVa
  have HVa := Aside0.mk (Kd.R_below HV_.out hb)
  clear HV_
  have HV_ := HVb
  clear HVb
  have HVb := Aside0.mk (Kd.R_below HV_.out hb)
  clear HV_
  have HV_ := HVw
  clear HVw
  have HVw := Aside0.mk (Kd.R_below HV_.out hb)
  clear HV_
  clear HB_ hb
  try clear hd0 hd1 hd2 hd3
  clear HVa
  clear HVw
  obtain ⟨hd0, hd1, hd2, hd3⟩ := HBOX.out _ HB.out
  go_wp2_with fail
  refine (there_call tp false _ ht).mono ?_
  rintro e w12 ⟨rfl, hb⟩
  have HB_ := HB
  clear HB
  have HB := Aside0.mk (below_step HB_.out hb)
  have HV_ := HVb
  clear HVb
  have HVb := Aside0.mk (Kd.R_below HV_.out hb)
  clear HV_
  clear HB_ hb
  try clear hd0 hd1 hd2 hd3
  obtain ⟨hd0, hd1, hd2, hd3⟩ := HBOX.out _ HB.out
  go_wp2_with fail
  refine (awake_call _).mono ?_
  rintro e w13 ⟨rfl, hb⟩
  have HB_ := HB
  clear HB
  have HB := Aside0.mk (below_step HB_.out hb)
  have HV_ := HVb
  clear HVb
  have HVb := Aside0.mk (Kd.R_below HV_.out hb)
  clear HV_
  clear HB_ hb
  try clear hd0 hd1 hd2 hd3
  obtain ⟨hd0, hd1, hd2, hd3⟩ := HBOX.out _ HB.out
  go_wp2_with fail
  go_ret
  exact ⟨rfl, below_step HB0.out HB.out⟩

set_option maxHeartbeats 16000000 in
set_option maxRecDepth 100000 in
theorem turns_ok_self (A0 : Option Addr) (c0 : Nat) (l0 : List Ac) (key : ByteArray) (rep tp n : Int) (w : World) (hr0 : Kd.C k94 w A0 l0.length l0) (hc0 : l0.length ≤ c0) (kl : Nat) (hL : hucksterlaw11_Light.f kl l0 = some true) (hl : l0.length ≤ 60) (hs : (key.size : Int) ≤ 100) (hc : chkA l0 = true) (hk : (key.toList == ([] : List UInt8)) = false) (h32 : (key.size : Int) ≤ 32) (hr : repOk rep = true) (hn0 : n ≤ 1000) (hlo : -1000 ≤ n) (hfull : chkA (setA l0 key (upR (getA l0 key) rep n)) = true) (hn1 : 1 ≤ n) (ht : repOk tp = true) (hrt : tp = rep) : TurnsIs A0 c0 l0 key rep tp n w := by
  have HR := Aside0.mk hr0
  clear hr0
  have hsz : decide ((100 : Int) < (key.size : Int)) = false := by simp; omega
  have hk1 : (key.toList == ([] : List UInt8)) = false := hk
  have hk2 : key.toList.isEmpty = false := by simpa using hk1
  have hk3 : (key.toList != ([] : List UInt8)) = true := by rw [bne, hk1]; rfl
  have hz : decide ((key.size : Int) ≤ 32) = true := by simp; omega
  have hn : decide (n ≤ (1000 : Int)) = true := by simp; omega
  have hq : decide (n < (-1000 : Int)) = false := by simp; omega
  have hub : upB l0 key rep n = true := by unfold upB keyR; simp [hc, hk, h32, hr, hn0, hlo]
  have hlW : (setA l0 key (upR (getA l0 key) rep n)).length ≤ 61 := by have := setA_len l0 key (upR (getA l0 key) rep n); omega
  have hAdd := add_f (key := key) hl hc hr hlo hn0
  have hU := up_ok hub hfull
  have hq2 : decide (n < (1 : Int)) = false := by simp; omega
  have hw3 : (tp == rep) = true := by simp [hrt]
  have hw4 : (tp != rep) = false := by simp [hrt]
  have hw5 : (rep == tp) = true := by simp [hrt]
  have hmb : mvB l0 key rep tp n = true := by unfold mvB keyR; simp [hc, hk, h32, hr, ht, hn0, hn1]
  have hM : escrow_Move.f l0 key rep tp n = some (l0, 0) := by
    unfold escrow_Move.f
    rw [hmb, if_pos rfl]
    subst hrt
    rw [mvR_self hr, setA_get hc, hc, if_pos rfl]
  clear hub hmb hrt
  generalize hW1 : setA l0 key (upR (getA l0 key) rep n) = W1 at *
  have HW1 := Aside0.mk hW1
  clear hW1

  unfold TurnsIs
  go_enter Try.func10, Try.ntmps10
  go_wp2_with (first | ((with_reducible refine gate_dst (N := 3) rfl ?_); refine box_event ?hg (N := 3) ?hd (cs := #[.string key, .int .i64 rep, .int .i64 tp, .int .i64 n]) (t := 61) ?hr ?_; (case hd => rfl); (case hg => rfl); (case hr => first | (go_simp; done) | (go_simp; rfl)); intro g hg w1 hbox hb; have HB0 := Aside0.mk hb; have BK0 := Aside0.mk hbox; clear hb hbox hg) | fail)
  have hbox : ∀ W : World, Below w1.heap.size w1 W → W.cell? ⟨g, 0, none⟩ = some (.string key) ∧ W.cell? ⟨g, 1, none⟩ = some (.int .i64 rep) ∧ W.cell? ⟨g, 2, none⟩ = some (.int .i64 tp) ∧ W.cell? ⟨g, 3, none⟩ = some (.int .i64 n) := fun W hW => by
    have h := blk_below BK0.out hW
    exact ⟨(blk_cell h 0).trans rfl, (blk_cell h 1).trans rfl, (blk_cell h 2).trans rfl, (blk_cell h 3).trans rfl⟩
  have HBOX := Aside0.mk hbox
  clear hbox
  have HB := Aside0.mk (Below.refl w1.heap.size w1)
  have HR1 := Aside0.mk (Kd.C_below HR.out HB0.out)
  obtain ⟨hd0, hd1, hd2, hd3⟩ := HBOX.out _ HB.out
  go_wp2_with fail
  refine (light_call kl A0 c0 l0 true _ (Kd.C_below HR1.out HB.out) hc0 hL).mono ?_
  rintro e w2 ⟨rfl, hb⟩
  have HB_ := HB
  clear HB
  have HB := Aside0.mk (below_step HB_.out hb)
  clear HB_ hb
  try clear hd0 hd1 hd2 hd3
  obtain ⟨hd0, hd1, hd2, hd3⟩ := HBOX.out _ HB.out
  go_wp2_with fail
  refine (escrow_Up.calls A0 c0 l0 key rep n W1 0 _ (Kd.C_below HR1.out HB.out) hc0 hU).mono ?_
  rintro e w3 ⟨va, rfl, hRr, hb⟩
  have HVn := Aside0.mk (Kd.R_lower hRr (below_size HB.out))
  clear hRr
  have HB_ := HB
  clear HB
  have HB := Aside0.mk (below_step HB_.out hb)
  clear HB_ hb
  try clear hd0 hd1 hd2 hd3
  have HVa := HVn
  clear HVn
  obtain ⟨Aa, ca, rfl, hca, _⟩ := Kd.R_reads HVa.out
  obtain ⟨hd0, hd1, hd2, hd3⟩ := HBOX.out _ HB.out
  go_wp2_with fail
  refine (escrow_Move.calls A0 c0 l0 key rep tp n l0 0 _ (Kd.C_below HR1.out HB.out) hc0 hM).mono ?_
  rintro e w4 ⟨vb, rfl, hRr, hb⟩
  have HVn := Aside0.mk (Kd.R_lower hRr (below_size HB.out))
  clear hRr
  have HB_ := HB
  clear HB
  have HB := Aside0.mk (below_step HB_.out hb)
  have HV_ := HVa
  clear HVa
  have HVa := Aside0.mk (Kd.R_below HV_.out hb)
  clear HV_
  clear HB_ hb
  try clear hd0 hd1 hd2 hd3
  have HVb := HVn
  clear HVn
  obtain ⟨Ab, cb, rfl, hcb, _⟩ := Kd.R_reads HVb.out
  obtain ⟨hd0, hd1, hd2, hd3⟩ := HBOX.out _ HB.out
  go_wp2_with fail
  refine (hucksterref11_Right.calls A0 c0 l0 true _ (Kd.C_below HR1.out HB.out) hc0 (right_f (by omega) hc)).mono ?_
  rintro e w5 ⟨rfl, hb⟩
  have HB_ := HB
  clear HB
  have HB := Aside0.mk (below_step HB_.out hb)
  have HV_ := HVa
  clear HVa
  have HVa := Aside0.mk (Kd.R_below HV_.out hb)
  clear HV_
  have HV_ := HVb
  clear HVb
  have HVb := Aside0.mk (Kd.R_below HV_.out hb)
  clear HV_
  clear HB_ hb
  try clear hd0 hd1 hd2 hd3
  obtain ⟨hd0, hd1, hd2, hd3⟩ := HBOX.out _ HB.out
  go_wp2_with fail
  refine (there_call rep true _ hr).mono ?_
  rintro e w6 ⟨rfl, hb⟩
  have HB_ := HB
  clear HB
  have HB := Aside0.mk (below_step HB_.out hb)
  have HV_ := HVa
  clear HVa
  have HVa := Aside0.mk (Kd.R_below HV_.out hb)
  clear HV_
  have HV_ := HVb
  clear HVb
  have HVb := Aside0.mk (Kd.R_below HV_.out hb)
  clear HV_
  clear HB_ hb
  try clear hd0 hd1 hd2 hd3
  obtain ⟨hd0, hd1, hd2, hd3⟩ := HBOX.out _ HB.out
  go_wp2_with fail
  refine (chkA_call A0 c0 l0 _ (Kd.C_below HR1.out HB.out) hc0 0 (by rw [hc]; rfl)).mono ?_
  rintro e w7 ⟨rfl, hb⟩
  have HB_ := HB
  clear HB
  have HB := Aside0.mk (below_step HB_.out hb)
  have HV_ := HVa
  clear HVa
  have HVa := Aside0.mk (Kd.R_below HV_.out hb)
  clear HV_
  have HV_ := HVb
  clear HVb
  have HVb := Aside0.mk (Kd.R_below HV_.out hb)
  clear HV_
  clear HB_ hb
  try clear hd0 hd1 hd2 hd3
  obtain ⟨hd0, hd1, hd2, hd3⟩ := HBOX.out _ HB.out
  go_wp2_with fail
  refine (hucksterref11_Right.calls A0 c0 l0 true _ (Kd.C_below HR1.out HB.out) hc0 (right_f (by omega) hc)).mono ?_
  rintro e w8 ⟨rfl, hb⟩
  have HB_ := HB
  clear HB
  have HB := Aside0.mk (below_step HB_.out hb)
  have HV_ := HVa
  clear HVa
  have HVa := Aside0.mk (Kd.R_below HV_.out hb)
  clear HV_
  have HV_ := HVb
  clear HVb
  have HVb := Aside0.mk (Kd.R_below HV_.out hb)
  clear HV_
  clear HB_ hb
  try clear hd0 hd1 hd2 hd3
  obtain ⟨hd0, hd1, hd2, hd3⟩ := HBOX.out _ HB.out
  go_wp2_with fail
  refine (hucksterref11_Add.calls A0 c0 l0 key rep n W1 _ (Kd.C_below HR1.out HB.out) hc0 hAdd).mono ?_
  rintro e w9 ⟨vw, rfl, hRr, hb⟩
  have HVn := Aside0.mk (Kd.R_lower hRr (below_size HB.out))
  clear hRr
  have HB_ := HB
  clear HB
  have HB := Aside0.mk (below_step HB_.out hb)
  have HV_ := HVa
  clear HVa
  have HVa := Aside0.mk (Kd.R_below HV_.out hb)
  clear HV_
  have HV_ := HVb
  clear HVb
  have HVb := Aside0.mk (Kd.R_below HV_.out hb)
  clear HV_
  clear HB_ hb
  try clear hd0 hd1 hd2 hd3
  have HVw := HVn
  clear HVn
  obtain ⟨Aw, cw, rfl, hcw, _⟩ := Kd.R_reads HVw.out
  obtain ⟨hd0, hd1, hd2, hd3⟩ := HBOX.out _ HB.out
  go_wp2_with fail
  refine (hucksterref11_Right.calls Aw cw W1 true _ (Kd.R_reads' HVw.out).2.2 hcw (right_f (by omega) hfull)).mono ?_
  rintro e w10 ⟨rfl, hb⟩
  have HB_ := HB
  clear HB
  have HB := Aside0.mk (below_step HB_.out hb)
  have HV_ := HVa
  clear HVa
  have HVa := Aside0.mk (Kd.R_below HV_.out hb)
  clear HV_
  have HV_ := HVb
  clear HVb
  have HVb := Aside0.mk (Kd.R_below HV_.out hb)
  clear HV_
  have HV_ := HVw
  clear HVw
  have HVw := Aside0.mk (Kd.R_below HV_.out hb)
  clear HV_
  clear HB_ hb
  try clear hd0 hd1 hd2 hd3
  obtain ⟨hd0, hd1, hd2, hd3⟩ := HBOX.out _ HB.out
  go_wp2_with fail
  refine (same_call W1 (by omega) Aa ca Aw cw _ (Kd.R_reads' HVa.out).2.2 hca (Kd.R_reads' HVw.out).2.2 hcw).mono ?_
  rintro e w11 ⟨rfl, hb⟩
  have HB_ := HB
  clear HB
  have HB := Aside0.mk (below_step HB_.out hb)
  have HV_ := HVa
  clear HVa
  have HVa := Aside0.mk (Kd.R_below HV_.out hb)
  clear HV_
  have HV_ := HVb
  clear HVb
  have HVb := Aside0.mk (Kd.R_below HV_.out hb)
  clear HV_
  have HV_ := HVw
  clear HVw
  have HVw := Aside0.mk (Kd.R_below HV_.out hb)
  clear HV_
  clear HB_ hb
  try clear hd0 hd1 hd2 hd3
  clear HVa
  clear HVw
  obtain ⟨hd0, hd1, hd2, hd3⟩ := HBOX.out _ HB.out
  go_wp2_with fail
  refine (there_call tp true _ ht).mono ?_
  rintro e w12 ⟨rfl, hb⟩
  have HB_ := HB
  clear HB
  have HB := Aside0.mk (below_step HB_.out hb)
  have HV_ := HVb
  clear HVb
  have HVb := Aside0.mk (Kd.R_below HV_.out hb)
  clear HV_
  clear HB_ hb
  try clear hd0 hd1 hd2 hd3
  obtain ⟨hd0, hd1, hd2, hd3⟩ := HBOX.out _ HB.out
  go_wp2_with fail
  refine (hucksterref11_Right.calls A0 c0 l0 true _ (Kd.C_below HR1.out HB.out) hc0 (right_f (by omega) hc)).mono ?_
  rintro e w13 ⟨rfl, hb⟩
  have HB_ := HB
  clear HB
  have HB := Aside0.mk (below_step HB_.out hb)
  have HV_ := HVb
  clear HVb
  have HVb := Aside0.mk (Kd.R_below HV_.out hb)
  clear HV_
  clear HB_ hb
  try clear hd0 hd1 hd2 hd3
  obtain ⟨hd0, hd1, hd2, hd3⟩ := HBOX.out _ HB.out
  go_wp2_with fail
  refine (same_call l0 (by omega) Ab cb A0 c0 _ (Kd.R_reads' HVb.out).2.2 hcb (Kd.C_below HR1.out HB.out) hc0).mono ?_
  rintro e w14 ⟨rfl, hb⟩
  have HB_ := HB
  clear HB
  have HB := Aside0.mk (below_step HB_.out hb)
  have HV_ := HVb
  clear HVb
  have HVb := Aside0.mk (Kd.R_below HV_.out hb)
  clear HV_
  clear HB_ hb
  try clear hd0 hd1 hd2 hd3
  obtain ⟨hd0, hd1, hd2, hd3⟩ := HBOX.out _ HB.out
  go_wp2_with fail
  refine (awake_call _).mono ?_
  rintro e w15 ⟨rfl, hb⟩
  have HB_ := HB
  clear HB
  have HB := Aside0.mk (below_step HB_.out hb)
  have HV_ := HVb
  clear HVb
  have HVb := Aside0.mk (Kd.R_below HV_.out hb)
  clear HV_
  clear HB_ hb
  try clear hd0 hd1 hd2 hd3
  obtain ⟨hd0, hd1, hd2, hd3⟩ := HBOX.out _ HB.out
  go_wp2_with fail
  go_ret
  exact ⟨rfl, below_step HB0.out HB.out⟩

set_option maxHeartbeats 16000000 in
set_option maxRecDepth 100000 in
theorem turns_ok_mfull (A0 : Option Addr) (c0 : Nat) (l0 : List Ac) (key : ByteArray) (rep tp n : Int) (w : World) (hr0 : Kd.C k94 w A0 l0.length l0) (hc0 : l0.length ≤ c0) (kl : Nat) (hL : hucksterlaw11_Light.f kl l0 = some true) (hl : l0.length ≤ 60) (hs : (key.size : Int) ≤ 100) (hc : chkA l0 = true) (hk : (key.toList == ([] : List UInt8)) = false) (h32 : (key.size : Int) ≤ 32) (hr : repOk rep = true) (hn0 : n ≤ 1000) (hlo : -1000 ≤ n) (hfull : chkA (setA l0 key (upR (getA l0 key) rep n)) = true) (hn1 : 1 ≤ n) (ht : repOk tp = true) (hrt : tp ≠ rep) (hm : chkA (setA l0 key (mvR (getA l0 key) rep tp n)) = false) : TurnsIs A0 c0 l0 key rep tp n w := by
  have HR := Aside0.mk hr0
  clear hr0
  have hsz : decide ((100 : Int) < (key.size : Int)) = false := by simp; omega
  have hk1 : (key.toList == ([] : List UInt8)) = false := hk
  have hk2 : key.toList.isEmpty = false := by simpa using hk1
  have hk3 : (key.toList != ([] : List UInt8)) = true := by rw [bne, hk1]; rfl
  have hz : decide ((key.size : Int) ≤ 32) = true := by simp; omega
  have hn : decide (n ≤ (1000 : Int)) = true := by simp; omega
  have hq : decide (n < (-1000 : Int)) = false := by simp; omega
  have hub : upB l0 key rep n = true := by unfold upB keyR; simp [hc, hk, h32, hr, hn0, hlo]
  have hlW : (setA l0 key (upR (getA l0 key) rep n)).length ≤ 61 := by have := setA_len l0 key (upR (getA l0 key) rep n); omega
  have hAdd := add_f (key := key) hl hc hr hlo hn0
  have hU := up_ok hub hfull
  have hq2 : decide (n < (1 : Int)) = false := by simp; omega
  have hw3 : (tp == rep) = false := by simp [hrt]
  have hw4 : (tp != rep) = true := by simp [hrt]
  have hw5 : (rep == tp) = false := by simp [Ne.symm hrt]
  have hmb : mvB l0 key rep tp n = true := by unfold mvB keyR; simp [hc, hk, h32, hr, ht, hn0, hn1]
  have hM := mv_full hmb hm
  have hAdd3 := add_f (key := key) (n := -n) hl hc hr (by omega) (by omega)
  have hAdd2 := add_f2 (key := key) hl hc hr ht hn1 hn0
  have hl2 : (setA l0 key (mvR (getA l0 key) rep tp n)).length ≤ 61 := by have := setA_len l0 key (mvR (getA l0 key) rep tp n); omega
  generalize setA l0 key (upR (getA l0 key) rep (-n)) = W3 at *
  generalize setA l0 key (mvR (getA l0 key) rep tp n) = W2 at *
  have hng : wrap64 (-n) = -n := wrapIdA (by omega) (by omega)
  rw [← hng] at hAdd3
  have HAdd3 := Aside0.mk hAdd3
  clear hub hmb hng hAdd3
  generalize hW1 : setA l0 key (upR (getA l0 key) rep n) = W1 at *
  have HW1 := Aside0.mk hW1
  clear hW1

  unfold TurnsIs
  go_enter Try.func10, Try.ntmps10
  go_wp2_with (first | ((with_reducible refine gate_dst (N := 3) rfl ?_); refine box_event ?hg (N := 3) ?hd (cs := #[.string key, .int .i64 rep, .int .i64 tp, .int .i64 n]) (t := 61) ?hr ?_; (case hd => rfl); (case hg => rfl); (case hr => first | (go_simp; done) | (go_simp; rfl)); intro g hg w1 hbox hb; have HB0 := Aside0.mk hb; have BK0 := Aside0.mk hbox; clear hb hbox hg) | fail)
  have hbox : ∀ W : World, Below w1.heap.size w1 W → W.cell? ⟨g, 0, none⟩ = some (.string key) ∧ W.cell? ⟨g, 1, none⟩ = some (.int .i64 rep) ∧ W.cell? ⟨g, 2, none⟩ = some (.int .i64 tp) ∧ W.cell? ⟨g, 3, none⟩ = some (.int .i64 n) := fun W hW => by
    have h := blk_below BK0.out hW
    exact ⟨(blk_cell h 0).trans rfl, (blk_cell h 1).trans rfl, (blk_cell h 2).trans rfl, (blk_cell h 3).trans rfl⟩
  have HBOX := Aside0.mk hbox
  clear hbox
  have HB := Aside0.mk (Below.refl w1.heap.size w1)
  have HR1 := Aside0.mk (Kd.C_below HR.out HB0.out)
  obtain ⟨hd0, hd1, hd2, hd3⟩ := HBOX.out _ HB.out
  go_wp2_with fail
  refine (light_call kl A0 c0 l0 true _ (Kd.C_below HR1.out HB.out) hc0 hL).mono ?_
  rintro e w2 ⟨rfl, hb⟩
  have HB_ := HB
  clear HB
  have HB := Aside0.mk (below_step HB_.out hb)
  clear HB_ hb
  try clear hd0 hd1 hd2 hd3
  obtain ⟨hd0, hd1, hd2, hd3⟩ := HBOX.out _ HB.out
  go_wp2_with fail
  refine (escrow_Up.calls A0 c0 l0 key rep n W1 0 _ (Kd.C_below HR1.out HB.out) hc0 hU).mono ?_
  rintro e w3 ⟨va, rfl, hRr, hb⟩
  have HVn := Aside0.mk (Kd.R_lower hRr (below_size HB.out))
  clear hRr
  have HB_ := HB
  clear HB
  have HB := Aside0.mk (below_step HB_.out hb)
  clear HB_ hb
  try clear hd0 hd1 hd2 hd3
  have HVa := HVn
  clear HVn
  obtain ⟨Aa, ca, rfl, hca, _⟩ := Kd.R_reads HVa.out
  obtain ⟨hd0, hd1, hd2, hd3⟩ := HBOX.out _ HB.out
  go_wp2_with fail
  refine (escrow_Move.calls A0 c0 l0 key rep tp n [] 6 _ (Kd.C_below HR1.out HB.out) hc0 hM).mono ?_
  rintro e w4 ⟨vb, rfl, hRr, hb⟩
  have HVn := Aside0.mk (Kd.R_lower hRr (below_size HB.out))
  clear hRr
  have HB_ := HB
  clear HB
  have HB := Aside0.mk (below_step HB_.out hb)
  have HV_ := HVa
  clear HVa
  have HVa := Aside0.mk (Kd.R_below HV_.out hb)
  clear HV_
  clear HB_ hb
  try clear hd0 hd1 hd2 hd3
  have HVb := HVn
  clear HVn
  obtain ⟨Ab, cb, rfl, hcb, _⟩ := Kd.R_reads HVb.out
  obtain ⟨hd0, hd1, hd2, hd3⟩ := HBOX.out _ HB.out
  go_wp2_with fail
  refine (hucksterref11_Right.calls A0 c0 l0 true _ (Kd.C_below HR1.out HB.out) hc0 (right_f (by omega) hc)).mono ?_
  rintro e w5 ⟨rfl, hb⟩
  have HB_ := HB
  clear HB
  have HB := Aside0.mk (below_step HB_.out hb)
  have HV_ := HVa
  clear HVa
  have HVa := Aside0.mk (Kd.R_below HV_.out hb)
  clear HV_
  have HV_ := HVb
  clear HVb
  have HVb := Aside0.mk (Kd.R_below HV_.out hb)
  clear HV_
  clear HB_ hb
  try clear hd0 hd1 hd2 hd3
  obtain ⟨hd0, hd1, hd2, hd3⟩ := HBOX.out _ HB.out
  go_wp2_with fail
  refine (there_call rep true _ hr).mono ?_
  rintro e w6 ⟨rfl, hb⟩
  have HB_ := HB
  clear HB
  have HB := Aside0.mk (below_step HB_.out hb)
  have HV_ := HVa
  clear HVa
  have HVa := Aside0.mk (Kd.R_below HV_.out hb)
  clear HV_
  have HV_ := HVb
  clear HVb
  have HVb := Aside0.mk (Kd.R_below HV_.out hb)
  clear HV_
  clear HB_ hb
  try clear hd0 hd1 hd2 hd3
  obtain ⟨hd0, hd1, hd2, hd3⟩ := HBOX.out _ HB.out
  go_wp2_with fail
  refine (chkA_call A0 c0 l0 _ (Kd.C_below HR1.out HB.out) hc0 0 (by rw [hc]; rfl)).mono ?_
  rintro e w7 ⟨rfl, hb⟩
  have HB_ := HB
  clear HB
  have HB := Aside0.mk (below_step HB_.out hb)
  have HV_ := HVa
  clear HVa
  have HVa := Aside0.mk (Kd.R_below HV_.out hb)
  clear HV_
  have HV_ := HVb
  clear HVb
  have HVb := Aside0.mk (Kd.R_below HV_.out hb)
  clear HV_
  clear HB_ hb
  try clear hd0 hd1 hd2 hd3
  obtain ⟨hd0, hd1, hd2, hd3⟩ := HBOX.out _ HB.out
  go_wp2_with fail
  refine (hucksterref11_Right.calls A0 c0 l0 true _ (Kd.C_below HR1.out HB.out) hc0 (right_f (by omega) hc)).mono ?_
  rintro e w8 ⟨rfl, hb⟩
  have HB_ := HB
  clear HB
  have HB := Aside0.mk (below_step HB_.out hb)
  have HV_ := HVa
  clear HVa
  have HVa := Aside0.mk (Kd.R_below HV_.out hb)
  clear HV_
  have HV_ := HVb
  clear HVb
  have HVb := Aside0.mk (Kd.R_below HV_.out hb)
  clear HV_
  clear HB_ hb
  try clear hd0 hd1 hd2 hd3
  obtain ⟨hd0, hd1, hd2, hd3⟩ := HBOX.out _ HB.out
  go_wp2_with fail
  refine (hucksterref11_Add.calls A0 c0 l0 key rep n W1 _ (Kd.C_below HR1.out HB.out) hc0 hAdd).mono ?_
  rintro e w9 ⟨vw, rfl, hRr, hb⟩
  have HVn := Aside0.mk (Kd.R_lower hRr (below_size HB.out))
  clear hRr
  have HB_ := HB
  clear HB
  have HB := Aside0.mk (below_step HB_.out hb)
  have HV_ := HVa
  clear HVa
  have HVa := Aside0.mk (Kd.R_below HV_.out hb)
  clear HV_
  have HV_ := HVb
  clear HVb
  have HVb := Aside0.mk (Kd.R_below HV_.out hb)
  clear HV_
  clear HB_ hb
  try clear hd0 hd1 hd2 hd3
  have HVw := HVn
  clear HVn
  obtain ⟨Aw, cw, rfl, hcw, _⟩ := Kd.R_reads HVw.out
  obtain ⟨hd0, hd1, hd2, hd3⟩ := HBOX.out _ HB.out
  go_wp2_with fail
  refine (hucksterref11_Right.calls Aw cw W1 true _ (Kd.R_reads' HVw.out).2.2 hcw (right_f (by omega) hfull)).mono ?_
  rintro e w10 ⟨rfl, hb⟩
  have HB_ := HB
  clear HB
  have HB := Aside0.mk (below_step HB_.out hb)
  have HV_ := HVa
  clear HVa
  have HVa := Aside0.mk (Kd.R_below HV_.out hb)
  clear HV_
  have HV_ := HVb
  clear HVb
  have HVb := Aside0.mk (Kd.R_below HV_.out hb)
  clear HV_
  have HV_ := HVw
  clear HVw
  have HVw := Aside0.mk (Kd.R_below HV_.out hb)
  clear HV_
  clear HB_ hb
  try clear hd0 hd1 hd2 hd3
  obtain ⟨hd0, hd1, hd2, hd3⟩ := HBOX.out _ HB.out
  go_wp2_with fail
  refine (same_call W1 (by omega) Aa ca Aw cw _ (Kd.R_reads' HVa.out).2.2 hca (Kd.R_reads' HVw.out).2.2 hcw).mono ?_
  rintro e w11 ⟨rfl, hb⟩
  have HB_ := HB
  clear HB
  have HB := Aside0.mk (below_step HB_.out hb)
  have HV_ := HVa
  clear HVa
  have HVa := Aside0.mk (Kd.R_below HV_.out hb)
  clear HV_
  have HV_ := HVb
  clear HVb
  have HVb := Aside0.mk (Kd.R_below HV_.out hb)
  clear HV_
  have HV_ := HVw
  clear HVw
  have HVw := Aside0.mk (Kd.R_below HV_.out hb)
  clear HV_
  clear HB_ hb
  try clear hd0 hd1 hd2 hd3
  clear HVa
  clear HVw
  obtain ⟨hd0, hd1, hd2, hd3⟩ := HBOX.out _ HB.out
  go_wp2_with fail
  refine (there_call tp true _ ht).mono ?_
  rintro e w12 ⟨rfl, hb⟩
  have HB_ := HB
  clear HB
  have HB := Aside0.mk (below_step HB_.out hb)
  have HV_ := HVb
  clear HVb
  have HVb := Aside0.mk (Kd.R_below HV_.out hb)
  clear HV_
  clear HB_ hb
  try clear hd0 hd1 hd2 hd3
  obtain ⟨hd0, hd1, hd2, hd3⟩ := HBOX.out _ HB.out
  go_wp2_with fail
  refine start_ (n := 17) (S := fun w' => w'.cell? ⟨g, 0, none⟩ = some (.string key) ∧ w'.cell? ⟨g, 1, none⟩ = some (.int .i64 rep) ∧ w'.cell? ⟨g, 2, none⟩ = some (.int .i64 tp) ∧ w'.cell? ⟨g, 3, none⟩ = some (.int .i64 n)) (ds := []) #[false, false, false, false, false, false, false, false, false, false, false, false, false, false, false, false, false] (by kernel_rfl) rfl rfl ⟨hd0, hd1, hd2, hd3⟩ (fun hHeld => ?_)
  refine pure_ (i := 0) (N := some 154) (v := ?_) (a' := ?_) #[true, false, false, false, false, false, false, false, false, false, false, false, false, false, false, false, false] rfl rfl (by kernel_rfl) (fun _ _ _ h => h) (Or.inl ⟨by rfl, ?_⟩) ?_ ?_
  rotate_left
  · intro w'
    go_simp
    with_reducible rfl
  rotate_left
  · simp only [Act.put, List.setIfInBounds_toArray, List.set_cons_zero, List.set_cons_succ, i64_w, i32_w]
    rfl
  refine pure_ (i := 1) (N := some 155) (v := ?_) (a' := ?_) #[true, true, false, false, false, false, false, false, false, false, false, false, false, false, false, false, false] rfl rfl (by kernel_rfl) (fun _ _ _ h => h) (Or.inl ⟨by rfl, ?_⟩) ?_ ?_
  rotate_left
  · intro w'
    go_simp
    with_reducible rfl
  rotate_left
  · simp only [Act.put, List.setIfInBounds_toArray, List.set_cons_zero, List.set_cons_succ, i64_w, i32_w]
    rfl
  refine pure_ (i := 3) (N := some 157) (v := ?_) (a' := ?_) #[true, true, false, true, false, false, false, false, false, false, false, false, false, false, false, false, false] rfl rfl (by kernel_rfl) (fun _ _ _ h => h) (Or.inl ⟨by rfl, ?_⟩) ?_ ?_
  rotate_left
  · intro w'
    go_simp
    with_reducible rfl
  rotate_left
  · simp only [Act.put, List.setIfInBounds_toArray, List.set_cons_zero, List.set_cons_succ, i64_w, i32_w]
    rfl
  refine pure_ (i := 5) (N := some 159) (v := ?_) (a' := ?_) #[true, true, false, true, false, true, false, false, false, false, false, false, false, false, false, false, false] rfl rfl (by kernel_rfl) (fun _ _ _ h => h) (Or.inl ⟨by rfl, ?_⟩) ?_ ?_
  rotate_left
  · intro w'
    go_simp
    with_reducible rfl
  rotate_left
  · simp only [Act.put, List.setIfInBounds_toArray, List.set_cons_zero, List.set_cons_succ, i64_w, i32_w]
    rfl
  refine pure_ (i := 9) (N := some 163) (v := ?_) (a' := ?_) #[true, true, false, true, false, true, false, false, false, true, false, false, false, false, false, false, false] rfl rfl (by kernel_rfl) (fun _ _ _ h => h) (Or.inl ⟨by rfl, ?_⟩) ?_ ?_
  rotate_left
  · intro w'
    go_simp
    with_reducible rfl
  rotate_left
  · simp only [Act.put, List.setIfInBounds_toArray, List.set_cons_zero, List.set_cons_succ, i64_w, i32_w]
    rfl
  refine pure_ (i := 11) (N := some 165) (v := ?_) (a' := ?_) #[true, true, false, true, false, true, false, false, false, true, false, true, false, false, false, false, false] rfl rfl (by kernel_rfl) (fun _ _ _ h => h) (Or.inl ⟨by rfl, ?_⟩) ?_ ?_
  rotate_left
  · intro w'
    go_simp
    with_reducible rfl
  rotate_left
  · simp only [Act.put, List.setIfInBounds_toArray, List.set_cons_zero, List.set_cons_succ, i64_w, i32_w]
    rfl
  refine pure_ (i := 13) (N := some 167) (v := ?_) (a' := ?_) #[true, true, false, true, false, true, false, false, false, true, false, true, false, true, false, false, false] rfl rfl (by kernel_rfl) (fun _ _ _ h => h) (Or.inl ⟨by rfl, ?_⟩) ?_ ?_
  rotate_left
  · intro w'
    go_simp
    with_reducible rfl
  rotate_left
  · simp only [Act.put, List.setIfInBounds_toArray, List.set_cons_zero, List.set_cons_succ, i64_w, i32_w]
    rfl
  refine take_ (i := 2) (N := some 156) (v := ?_) (a' := ?_) #[true, true, true, true, false, true, false, false, false, true, false, true, false, true, false, false, false] rfl rfl (by kernel_rfl) (fun _ _ _ h => h) (Or.inl ⟨by rfl, ?_⟩) hHeld ?_ ?_
  rotate_left
  · rintro w' ⟨s0, s1, s2, s3⟩
    go_simp
    with_reducible rfl
  rotate_left
  · simp only [Act.put, List.setIfInBounds_toArray, List.set_cons_zero, List.set_cons_succ, i64_w, i32_w]
    rfl
  refine take_ (i := 4) (N := some 158) (v := ?_) (a' := ?_) #[true, true, true, true, true, true, false, false, false, true, false, true, false, true, false, false, false] rfl rfl (by kernel_rfl) (fun _ _ _ h => h) (Or.inl ⟨by rfl, ?_⟩) hHeld ?_ ?_
  rotate_left
  · rintro w' ⟨s0, s1, s2, s3⟩
    go_simp
    with_reducible rfl
  rotate_left
  · simp only [Act.put, List.setIfInBounds_toArray, List.set_cons_zero, List.set_cons_succ, i64_w, i32_w]
    rfl
  refine take_ (i := 6) (N := some 160) (v := ?_) (a' := ?_) #[true, true, true, true, true, true, true, false, false, true, false, true, false, true, false, false, false] rfl rfl (by kernel_rfl) (fun _ _ _ h => h) (Or.inl ⟨by rfl, ?_⟩) hHeld ?_ ?_
  rotate_left
  · rintro w' ⟨s0, s1, s2, s3⟩
    go_simp
    with_reducible rfl
  rotate_left
  · simp only [Act.put, List.setIfInBounds_toArray, List.set_cons_zero, List.set_cons_succ, i64_w, i32_w]
    rfl
  refine pure_ (i := 7) (N := some 161) (v := ?_) (a' := ?_) #[true, true, true, true, true, true, true, true, false, true, false, true, false, true, false, false, false] rfl rfl (by kernel_rfl) (fun _ _ _ h => h) (Or.inl ⟨by rfl, ?_⟩) ?_ ?_
  rotate_left
  · intro w'
    go_simp
    with_reducible rfl
  rotate_left
  · simp only [Act.put, List.setIfInBounds_toArray, List.set_cons_zero, List.set_cons_succ, i64_w, i32_w]
    rfl
  refine take_ (i := 10) (N := some 164) (v := ?_) (a' := ?_) #[true, true, true, true, true, true, true, true, false, true, true, true, false, true, false, false, false] rfl rfl (by kernel_rfl) (fun _ _ _ h => h) (Or.inl ⟨by rfl, ?_⟩) hHeld ?_ ?_
  rotate_left
  · rintro w' ⟨s0, s1, s2, s3⟩
    go_simp
    with_reducible rfl
  rotate_left
  · simp only [Act.put, List.setIfInBounds_toArray, List.set_cons_zero, List.set_cons_succ, i64_w, i32_w]
    rfl
  refine take_ (i := 12) (N := some 166) (v := ?_) (a' := ?_) #[true, true, true, true, true, true, true, true, false, true, true, true, true, true, false, false, false] rfl rfl (by kernel_rfl) (fun _ _ _ h => h) (Or.inl ⟨by rfl, ?_⟩) hHeld ?_ ?_
  rotate_left
  · rintro w' ⟨s0, s1, s2, s3⟩
    go_simp
    with_reducible rfl
  rotate_left
  · simp only [Act.put, List.setIfInBounds_toArray, List.set_cons_zero, List.set_cons_succ, i64_w, i32_w]
    rfl
  refine take_ (i := 14) (N := some 168) (v := ?_) (a' := ?_) #[true, true, true, true, true, true, true, true, false, true, true, true, true, true, true, false, false] rfl rfl (by kernel_rfl) (fun _ _ _ h => h) (Or.inl ⟨by rfl, ?_⟩) hHeld ?_ ?_
  rotate_left
  · rintro w' ⟨s0, s1, s2, s3⟩
    go_simp
    with_reducible rfl
  rotate_left
  · simp only [Act.put, List.setIfInBounds_toArray, List.set_cons_zero, List.set_cons_succ, i64_w, i32_w]
    rfl
  refine one_ (i := 8) (N := some 162) #[true, true, true, true, true, true, true, true, true, true, true, true, true, true, true, false, false] rfl rfl (by kernel_rfl) (by decide) (fun K hK => ?_)
  refine goes_ Try.func46 (by kernel_rfl) rfl #[.slice A0 l0.length c0, .string key, .int .i64 rep, .int .i64 (wrap64 (-n))] (by rfl) rfl rfl (by simp only [List.map_toArray, List.map_cons, List.map_nil]; rfl) ?_
  with_reducible refine (hucksterref11_Add.calls A0 c0 l0 key rep (wrap64 (-n)) W3 _ (Kd.C_drew (Kd.C_below HR1.out HB.out)) hc0 HAdd3.out).mono ?_
  rintro e wx ⟨vx, rfl, hRx, hbx⟩
  refine ⟨_, rfl, ?_⟩
  have HBx := Aside0.mk (below_step (below_drew HB.out) hbx)
  have HVx := Aside0.mk (Kd.R_lower hRx (below_size (below_drew HB.out)))
  have HVbx := Aside0.mk (Kd.R_below (Kd.R_drew HVb.out) hbx)
  obtain ⟨Ax, cx, rfl, hcx, _⟩ := Kd.R_reads HVx.out
  obtain ⟨he0, he1, he2, he3⟩ := HBOX.out _ HBx.out
  refine hK.out _ _ ⟨he0, he1, he2, he3⟩ (fun hHeld => ?_)
  clear hK K
  refine norm_ (a' := ?_) ?_ ?_
  rotate_left
  · show Act.put _ (some 162) _ = _
    simp only [Act.put, List.setIfInBounds_toArray, List.set_cons_zero, List.set_cons_succ, i64_w, i32_w]
    rfl
  refine one_ (i := 15) (N := some 169) #[true, true, true, true, true, true, true, true, true, true, true, true, true, true, true, true, false] rfl rfl (by kernel_rfl) (by decide) (fun K hK => ?_)
  refine goes_ Try.func46 (by kernel_rfl) rfl #[.slice Ax W3.length cx, .string key, .int .i64 tp, .int .i64 n] (by rfl) rfl rfl (by simp only [List.map_toArray, List.map_cons, List.map_nil]; rfl) ?_
  with_reducible refine (hucksterref11_Add.calls Ax cx W3 key tp n W2 _ (Kd.R_reads' HVx.out).2.2 hcx hAdd2).mono ?_
  rintro e wy ⟨vy, rfl, hRy, hby⟩
  refine ⟨_, rfl, ?_⟩
  have HBy := Aside0.mk (below_step HBx.out hby)
  have HVy := Aside0.mk (Kd.R_lower hRy (below_size HBx.out))
  have HVby := Aside0.mk (Kd.R_below HVbx.out hby)
  obtain ⟨Ay, cy, rfl, hcy, _⟩ := Kd.R_reads HVy.out
  obtain ⟨hf0, hf1, hf2, hf3⟩ := HBOX.out _ HBy.out
  refine hK.out _ _ ⟨hf0, hf1, hf2, hf3⟩ (fun hHeld => ?_)
  clear hK K
  refine norm_ (a' := ?_) ?_ ?_
  rotate_left
  · show Act.put _ (some 169) _ = _
    simp only [Act.put, List.setIfInBounds_toArray, List.set_cons_zero, List.set_cons_succ, i64_w, i32_w]
    rfl
  refine pure_ (i := 16) (N := some 12) (v := ?_) (a' := ?_) #[true, true, true, true, true, true, true, true, true, true, true, true, true, true, true, true, true] rfl rfl (by kernel_rfl) (fun _ _ _ h => h) (Or.inl ⟨by rfl, ?_⟩) ?_ ?_
  rotate_left
  · intro w'
    go_simp
    with_reducible rfl
  rotate_left
  · simp only [Act.put, List.setIfInBounds_toArray, List.set_cons_zero, List.set_cons_succ, i64_w, i32_w]
    rfl
  refine done_ (by kernel_rfl) ?_
  clear HB HVb hd0 hd1 hd2 hd3
  have HB := HBy
  have HVb := HVby
  clear HBy HVby
  obtain ⟨hd0, hd1, hd2, hd3⟩ := HBOX.out _ HB.out
  go_wp2_with fail
  refine (hucksterref11_Right.calls Ay cy W2 false _ (Kd.R_reads' HVy.out).2.2 hcy (right_f (by omega) hm)).mono ?_
  rintro e w13 ⟨rfl, hb⟩
  have HB_ := HB
  clear HB
  have HB := Aside0.mk (below_step HB_.out hb)
  have HV_ := HVb
  clear HVb
  have HVb := Aside0.mk (Kd.R_below HV_.out hb)
  clear HV_
  have HV_ := HVy
  clear HVy
  have HVy := Aside0.mk (Kd.R_below HV_.out hb)
  clear HV_
  clear HB_ hb
  try clear hd0 hd1 hd2 hd3
  obtain ⟨hd0, hd1, hd2, hd3⟩ := HBOX.out _ HB.out
  go_wp2_with fail
  refine (awake_call _).mono ?_
  rintro e w14 ⟨rfl, hb⟩
  have HB_ := HB
  clear HB
  have HB := Aside0.mk (below_step HB_.out hb)
  have HV_ := HVb
  clear HVb
  have HVb := Aside0.mk (Kd.R_below HV_.out hb)
  clear HV_
  have HV_ := HVy
  clear HVy
  have HVy := Aside0.mk (Kd.R_below HV_.out hb)
  clear HV_
  clear HB_ hb
  try clear hd0 hd1 hd2 hd3
  obtain ⟨hd0, hd1, hd2, hd3⟩ := HBOX.out _ HB.out
  go_wp2_with fail
  go_ret
  exact ⟨rfl, below_step HB0.out HB.out⟩

set_option maxHeartbeats 16000000 in
set_option maxRecDepth 100000 in
theorem turns_ok_mok (A0 : Option Addr) (c0 : Nat) (l0 : List Ac) (key : ByteArray) (rep tp n : Int) (w : World) (hr0 : Kd.C k94 w A0 l0.length l0) (hc0 : l0.length ≤ c0) (kl : Nat) (hL : hucksterlaw11_Light.f kl l0 = some true) (hl : l0.length ≤ 60) (hs : (key.size : Int) ≤ 100) (hc : chkA l0 = true) (hk : (key.toList == ([] : List UInt8)) = false) (h32 : (key.size : Int) ≤ 32) (hr : repOk rep = true) (hn0 : n ≤ 1000) (hlo : -1000 ≤ n) (hfull : chkA (setA l0 key (upR (getA l0 key) rep n)) = true) (hn1 : 1 ≤ n) (ht : repOk tp = true) (hrt : tp ≠ rep) (hm : chkA (setA l0 key (mvR (getA l0 key) rep tp n)) = true) : TurnsIs A0 c0 l0 key rep tp n w := by
  have HR := Aside0.mk hr0
  clear hr0
  have hsz : decide ((100 : Int) < (key.size : Int)) = false := by simp; omega
  have hk1 : (key.toList == ([] : List UInt8)) = false := hk
  have hk2 : key.toList.isEmpty = false := by simpa using hk1
  have hk3 : (key.toList != ([] : List UInt8)) = true := by rw [bne, hk1]; rfl
  have hz : decide ((key.size : Int) ≤ 32) = true := by simp; omega
  have hn : decide (n ≤ (1000 : Int)) = true := by simp; omega
  have hq : decide (n < (-1000 : Int)) = false := by simp; omega
  have hub : upB l0 key rep n = true := by unfold upB keyR; simp [hc, hk, h32, hr, hn0, hlo]
  have hlW : (setA l0 key (upR (getA l0 key) rep n)).length ≤ 61 := by have := setA_len l0 key (upR (getA l0 key) rep n); omega
  have hAdd := add_f (key := key) hl hc hr hlo hn0
  have hU := up_ok hub hfull
  have hq2 : decide (n < (1 : Int)) = false := by simp; omega
  have hw3 : (tp == rep) = false := by simp [hrt]
  have hw4 : (tp != rep) = true := by simp [hrt]
  have hw5 : (rep == tp) = false := by simp [Ne.symm hrt]
  have hmb : mvB l0 key rep tp n = true := by unfold mvB keyR; simp [hc, hk, h32, hr, ht, hn0, hn1]
  have hM := mv_ok hmb hm
  have hAdd3 := add_f (key := key) (n := -n) hl hc hr (by omega) (by omega)
  have hAdd2 := add_f2 (key := key) hl hc hr ht hn1 hn0
  have hl2 : (setA l0 key (mvR (getA l0 key) rep tp n)).length ≤ 61 := by have := setA_len l0 key (mvR (getA l0 key) rep tp n); omega
  generalize setA l0 key (upR (getA l0 key) rep (-n)) = W3 at *
  generalize setA l0 key (mvR (getA l0 key) rep tp n) = W2 at *
  have hng : wrap64 (-n) = -n := wrapIdA (by omega) (by omega)
  rw [← hng] at hAdd3
  have HAdd3 := Aside0.mk hAdd3
  clear hub hmb hng hAdd3
  generalize hW1 : setA l0 key (upR (getA l0 key) rep n) = W1 at *
  have HW1 := Aside0.mk hW1
  clear hW1

  unfold TurnsIs
  go_enter Try.func10, Try.ntmps10
  go_wp2_with (first | ((with_reducible refine gate_dst (N := 3) rfl ?_); refine box_event ?hg (N := 3) ?hd (cs := #[.string key, .int .i64 rep, .int .i64 tp, .int .i64 n]) (t := 61) ?hr ?_; (case hd => rfl); (case hg => rfl); (case hr => first | (go_simp; done) | (go_simp; rfl)); intro g hg w1 hbox hb; have HB0 := Aside0.mk hb; have BK0 := Aside0.mk hbox; clear hb hbox hg) | fail)
  have hbox : ∀ W : World, Below w1.heap.size w1 W → W.cell? ⟨g, 0, none⟩ = some (.string key) ∧ W.cell? ⟨g, 1, none⟩ = some (.int .i64 rep) ∧ W.cell? ⟨g, 2, none⟩ = some (.int .i64 tp) ∧ W.cell? ⟨g, 3, none⟩ = some (.int .i64 n) := fun W hW => by
    have h := blk_below BK0.out hW
    exact ⟨(blk_cell h 0).trans rfl, (blk_cell h 1).trans rfl, (blk_cell h 2).trans rfl, (blk_cell h 3).trans rfl⟩
  have HBOX := Aside0.mk hbox
  clear hbox
  have HB := Aside0.mk (Below.refl w1.heap.size w1)
  have HR1 := Aside0.mk (Kd.C_below HR.out HB0.out)
  obtain ⟨hd0, hd1, hd2, hd3⟩ := HBOX.out _ HB.out
  go_wp2_with fail
  refine (light_call kl A0 c0 l0 true _ (Kd.C_below HR1.out HB.out) hc0 hL).mono ?_
  rintro e w2 ⟨rfl, hb⟩
  have HB_ := HB
  clear HB
  have HB := Aside0.mk (below_step HB_.out hb)
  clear HB_ hb
  try clear hd0 hd1 hd2 hd3
  obtain ⟨hd0, hd1, hd2, hd3⟩ := HBOX.out _ HB.out
  go_wp2_with fail
  refine (escrow_Up.calls A0 c0 l0 key rep n W1 0 _ (Kd.C_below HR1.out HB.out) hc0 hU).mono ?_
  rintro e w3 ⟨va, rfl, hRr, hb⟩
  have HVn := Aside0.mk (Kd.R_lower hRr (below_size HB.out))
  clear hRr
  have HB_ := HB
  clear HB
  have HB := Aside0.mk (below_step HB_.out hb)
  clear HB_ hb
  try clear hd0 hd1 hd2 hd3
  have HVa := HVn
  clear HVn
  obtain ⟨Aa, ca, rfl, hca, _⟩ := Kd.R_reads HVa.out
  obtain ⟨hd0, hd1, hd2, hd3⟩ := HBOX.out _ HB.out
  go_wp2_with fail
  refine (escrow_Move.calls A0 c0 l0 key rep tp n W2 0 _ (Kd.C_below HR1.out HB.out) hc0 hM).mono ?_
  rintro e w4 ⟨vb, rfl, hRr, hb⟩
  have HVn := Aside0.mk (Kd.R_lower hRr (below_size HB.out))
  clear hRr
  have HB_ := HB
  clear HB
  have HB := Aside0.mk (below_step HB_.out hb)
  have HV_ := HVa
  clear HVa
  have HVa := Aside0.mk (Kd.R_below HV_.out hb)
  clear HV_
  clear HB_ hb
  try clear hd0 hd1 hd2 hd3
  have HVb := HVn
  clear HVn
  obtain ⟨Ab, cb, rfl, hcb, _⟩ := Kd.R_reads HVb.out
  obtain ⟨hd0, hd1, hd2, hd3⟩ := HBOX.out _ HB.out
  go_wp2_with fail
  refine (hucksterref11_Right.calls A0 c0 l0 true _ (Kd.C_below HR1.out HB.out) hc0 (right_f (by omega) hc)).mono ?_
  rintro e w5 ⟨rfl, hb⟩
  have HB_ := HB
  clear HB
  have HB := Aside0.mk (below_step HB_.out hb)
  have HV_ := HVa
  clear HVa
  have HVa := Aside0.mk (Kd.R_below HV_.out hb)
  clear HV_
  have HV_ := HVb
  clear HVb
  have HVb := Aside0.mk (Kd.R_below HV_.out hb)
  clear HV_
  clear HB_ hb
  try clear hd0 hd1 hd2 hd3
  obtain ⟨hd0, hd1, hd2, hd3⟩ := HBOX.out _ HB.out
  go_wp2_with fail
  refine (there_call rep true _ hr).mono ?_
  rintro e w6 ⟨rfl, hb⟩
  have HB_ := HB
  clear HB
  have HB := Aside0.mk (below_step HB_.out hb)
  have HV_ := HVa
  clear HVa
  have HVa := Aside0.mk (Kd.R_below HV_.out hb)
  clear HV_
  have HV_ := HVb
  clear HVb
  have HVb := Aside0.mk (Kd.R_below HV_.out hb)
  clear HV_
  clear HB_ hb
  try clear hd0 hd1 hd2 hd3
  obtain ⟨hd0, hd1, hd2, hd3⟩ := HBOX.out _ HB.out
  go_wp2_with fail
  refine (chkA_call A0 c0 l0 _ (Kd.C_below HR1.out HB.out) hc0 0 (by rw [hc]; rfl)).mono ?_
  rintro e w7 ⟨rfl, hb⟩
  have HB_ := HB
  clear HB
  have HB := Aside0.mk (below_step HB_.out hb)
  have HV_ := HVa
  clear HVa
  have HVa := Aside0.mk (Kd.R_below HV_.out hb)
  clear HV_
  have HV_ := HVb
  clear HVb
  have HVb := Aside0.mk (Kd.R_below HV_.out hb)
  clear HV_
  clear HB_ hb
  try clear hd0 hd1 hd2 hd3
  obtain ⟨hd0, hd1, hd2, hd3⟩ := HBOX.out _ HB.out
  go_wp2_with fail
  refine (hucksterref11_Right.calls A0 c0 l0 true _ (Kd.C_below HR1.out HB.out) hc0 (right_f (by omega) hc)).mono ?_
  rintro e w8 ⟨rfl, hb⟩
  have HB_ := HB
  clear HB
  have HB := Aside0.mk (below_step HB_.out hb)
  have HV_ := HVa
  clear HVa
  have HVa := Aside0.mk (Kd.R_below HV_.out hb)
  clear HV_
  have HV_ := HVb
  clear HVb
  have HVb := Aside0.mk (Kd.R_below HV_.out hb)
  clear HV_
  clear HB_ hb
  try clear hd0 hd1 hd2 hd3
  obtain ⟨hd0, hd1, hd2, hd3⟩ := HBOX.out _ HB.out
  go_wp2_with fail
  refine (hucksterref11_Add.calls A0 c0 l0 key rep n W1 _ (Kd.C_below HR1.out HB.out) hc0 hAdd).mono ?_
  rintro e w9 ⟨vw, rfl, hRr, hb⟩
  have HVn := Aside0.mk (Kd.R_lower hRr (below_size HB.out))
  clear hRr
  have HB_ := HB
  clear HB
  have HB := Aside0.mk (below_step HB_.out hb)
  have HV_ := HVa
  clear HVa
  have HVa := Aside0.mk (Kd.R_below HV_.out hb)
  clear HV_
  have HV_ := HVb
  clear HVb
  have HVb := Aside0.mk (Kd.R_below HV_.out hb)
  clear HV_
  clear HB_ hb
  try clear hd0 hd1 hd2 hd3
  have HVw := HVn
  clear HVn
  obtain ⟨Aw, cw, rfl, hcw, _⟩ := Kd.R_reads HVw.out
  obtain ⟨hd0, hd1, hd2, hd3⟩ := HBOX.out _ HB.out
  go_wp2_with fail
  refine (hucksterref11_Right.calls Aw cw W1 true _ (Kd.R_reads' HVw.out).2.2 hcw (right_f (by omega) hfull)).mono ?_
  rintro e w10 ⟨rfl, hb⟩
  have HB_ := HB
  clear HB
  have HB := Aside0.mk (below_step HB_.out hb)
  have HV_ := HVa
  clear HVa
  have HVa := Aside0.mk (Kd.R_below HV_.out hb)
  clear HV_
  have HV_ := HVb
  clear HVb
  have HVb := Aside0.mk (Kd.R_below HV_.out hb)
  clear HV_
  have HV_ := HVw
  clear HVw
  have HVw := Aside0.mk (Kd.R_below HV_.out hb)
  clear HV_
  clear HB_ hb
  try clear hd0 hd1 hd2 hd3
  obtain ⟨hd0, hd1, hd2, hd3⟩ := HBOX.out _ HB.out
  go_wp2_with fail
  refine (same_call W1 (by omega) Aa ca Aw cw _ (Kd.R_reads' HVa.out).2.2 hca (Kd.R_reads' HVw.out).2.2 hcw).mono ?_
  rintro e w11 ⟨rfl, hb⟩
  have HB_ := HB
  clear HB
  have HB := Aside0.mk (below_step HB_.out hb)
  have HV_ := HVa
  clear HVa
  have HVa := Aside0.mk (Kd.R_below HV_.out hb)
  clear HV_
  have HV_ := HVb
  clear HVb
  have HVb := Aside0.mk (Kd.R_below HV_.out hb)
  clear HV_
  have HV_ := HVw
  clear HVw
  have HVw := Aside0.mk (Kd.R_below HV_.out hb)
  clear HV_
  clear HB_ hb
  try clear hd0 hd1 hd2 hd3
  clear HVa
  clear HVw
  obtain ⟨hd0, hd1, hd2, hd3⟩ := HBOX.out _ HB.out
  go_wp2_with fail
  refine (there_call tp true _ ht).mono ?_
  rintro e w12 ⟨rfl, hb⟩
  have HB_ := HB
  clear HB
  have HB := Aside0.mk (below_step HB_.out hb)
  have HV_ := HVb
  clear HVb
  have HVb := Aside0.mk (Kd.R_below HV_.out hb)
  clear HV_
  clear HB_ hb
  try clear hd0 hd1 hd2 hd3
  obtain ⟨hd0, hd1, hd2, hd3⟩ := HBOX.out _ HB.out
  go_wp2_with fail
  refine start_ (n := 17) (S := fun w' => w'.cell? ⟨g, 0, none⟩ = some (.string key) ∧ w'.cell? ⟨g, 1, none⟩ = some (.int .i64 rep) ∧ w'.cell? ⟨g, 2, none⟩ = some (.int .i64 tp) ∧ w'.cell? ⟨g, 3, none⟩ = some (.int .i64 n)) (ds := []) #[false, false, false, false, false, false, false, false, false, false, false, false, false, false, false, false, false] (by kernel_rfl) rfl rfl ⟨hd0, hd1, hd2, hd3⟩ (fun hHeld => ?_)
  refine pure_ (i := 0) (N := some 154) (v := ?_) (a' := ?_) #[true, false, false, false, false, false, false, false, false, false, false, false, false, false, false, false, false] rfl rfl (by kernel_rfl) (fun _ _ _ h => h) (Or.inl ⟨by rfl, ?_⟩) ?_ ?_
  rotate_left
  · intro w'
    go_simp
    with_reducible rfl
  rotate_left
  · simp only [Act.put, List.setIfInBounds_toArray, List.set_cons_zero, List.set_cons_succ, i64_w, i32_w]
    rfl
  refine pure_ (i := 1) (N := some 155) (v := ?_) (a' := ?_) #[true, true, false, false, false, false, false, false, false, false, false, false, false, false, false, false, false] rfl rfl (by kernel_rfl) (fun _ _ _ h => h) (Or.inl ⟨by rfl, ?_⟩) ?_ ?_
  rotate_left
  · intro w'
    go_simp
    with_reducible rfl
  rotate_left
  · simp only [Act.put, List.setIfInBounds_toArray, List.set_cons_zero, List.set_cons_succ, i64_w, i32_w]
    rfl
  refine pure_ (i := 3) (N := some 157) (v := ?_) (a' := ?_) #[true, true, false, true, false, false, false, false, false, false, false, false, false, false, false, false, false] rfl rfl (by kernel_rfl) (fun _ _ _ h => h) (Or.inl ⟨by rfl, ?_⟩) ?_ ?_
  rotate_left
  · intro w'
    go_simp
    with_reducible rfl
  rotate_left
  · simp only [Act.put, List.setIfInBounds_toArray, List.set_cons_zero, List.set_cons_succ, i64_w, i32_w]
    rfl
  refine pure_ (i := 5) (N := some 159) (v := ?_) (a' := ?_) #[true, true, false, true, false, true, false, false, false, false, false, false, false, false, false, false, false] rfl rfl (by kernel_rfl) (fun _ _ _ h => h) (Or.inl ⟨by rfl, ?_⟩) ?_ ?_
  rotate_left
  · intro w'
    go_simp
    with_reducible rfl
  rotate_left
  · simp only [Act.put, List.setIfInBounds_toArray, List.set_cons_zero, List.set_cons_succ, i64_w, i32_w]
    rfl
  refine pure_ (i := 9) (N := some 163) (v := ?_) (a' := ?_) #[true, true, false, true, false, true, false, false, false, true, false, false, false, false, false, false, false] rfl rfl (by kernel_rfl) (fun _ _ _ h => h) (Or.inl ⟨by rfl, ?_⟩) ?_ ?_
  rotate_left
  · intro w'
    go_simp
    with_reducible rfl
  rotate_left
  · simp only [Act.put, List.setIfInBounds_toArray, List.set_cons_zero, List.set_cons_succ, i64_w, i32_w]
    rfl
  refine pure_ (i := 11) (N := some 165) (v := ?_) (a' := ?_) #[true, true, false, true, false, true, false, false, false, true, false, true, false, false, false, false, false] rfl rfl (by kernel_rfl) (fun _ _ _ h => h) (Or.inl ⟨by rfl, ?_⟩) ?_ ?_
  rotate_left
  · intro w'
    go_simp
    with_reducible rfl
  rotate_left
  · simp only [Act.put, List.setIfInBounds_toArray, List.set_cons_zero, List.set_cons_succ, i64_w, i32_w]
    rfl
  refine pure_ (i := 13) (N := some 167) (v := ?_) (a' := ?_) #[true, true, false, true, false, true, false, false, false, true, false, true, false, true, false, false, false] rfl rfl (by kernel_rfl) (fun _ _ _ h => h) (Or.inl ⟨by rfl, ?_⟩) ?_ ?_
  rotate_left
  · intro w'
    go_simp
    with_reducible rfl
  rotate_left
  · simp only [Act.put, List.setIfInBounds_toArray, List.set_cons_zero, List.set_cons_succ, i64_w, i32_w]
    rfl
  refine take_ (i := 2) (N := some 156) (v := ?_) (a' := ?_) #[true, true, true, true, false, true, false, false, false, true, false, true, false, true, false, false, false] rfl rfl (by kernel_rfl) (fun _ _ _ h => h) (Or.inl ⟨by rfl, ?_⟩) hHeld ?_ ?_
  rotate_left
  · rintro w' ⟨s0, s1, s2, s3⟩
    go_simp
    with_reducible rfl
  rotate_left
  · simp only [Act.put, List.setIfInBounds_toArray, List.set_cons_zero, List.set_cons_succ, i64_w, i32_w]
    rfl
  refine take_ (i := 4) (N := some 158) (v := ?_) (a' := ?_) #[true, true, true, true, true, true, false, false, false, true, false, true, false, true, false, false, false] rfl rfl (by kernel_rfl) (fun _ _ _ h => h) (Or.inl ⟨by rfl, ?_⟩) hHeld ?_ ?_
  rotate_left
  · rintro w' ⟨s0, s1, s2, s3⟩
    go_simp
    with_reducible rfl
  rotate_left
  · simp only [Act.put, List.setIfInBounds_toArray, List.set_cons_zero, List.set_cons_succ, i64_w, i32_w]
    rfl
  refine take_ (i := 6) (N := some 160) (v := ?_) (a' := ?_) #[true, true, true, true, true, true, true, false, false, true, false, true, false, true, false, false, false] rfl rfl (by kernel_rfl) (fun _ _ _ h => h) (Or.inl ⟨by rfl, ?_⟩) hHeld ?_ ?_
  rotate_left
  · rintro w' ⟨s0, s1, s2, s3⟩
    go_simp
    with_reducible rfl
  rotate_left
  · simp only [Act.put, List.setIfInBounds_toArray, List.set_cons_zero, List.set_cons_succ, i64_w, i32_w]
    rfl
  refine pure_ (i := 7) (N := some 161) (v := ?_) (a' := ?_) #[true, true, true, true, true, true, true, true, false, true, false, true, false, true, false, false, false] rfl rfl (by kernel_rfl) (fun _ _ _ h => h) (Or.inl ⟨by rfl, ?_⟩) ?_ ?_
  rotate_left
  · intro w'
    go_simp
    with_reducible rfl
  rotate_left
  · simp only [Act.put, List.setIfInBounds_toArray, List.set_cons_zero, List.set_cons_succ, i64_w, i32_w]
    rfl
  refine take_ (i := 10) (N := some 164) (v := ?_) (a' := ?_) #[true, true, true, true, true, true, true, true, false, true, true, true, false, true, false, false, false] rfl rfl (by kernel_rfl) (fun _ _ _ h => h) (Or.inl ⟨by rfl, ?_⟩) hHeld ?_ ?_
  rotate_left
  · rintro w' ⟨s0, s1, s2, s3⟩
    go_simp
    with_reducible rfl
  rotate_left
  · simp only [Act.put, List.setIfInBounds_toArray, List.set_cons_zero, List.set_cons_succ, i64_w, i32_w]
    rfl
  refine take_ (i := 12) (N := some 166) (v := ?_) (a' := ?_) #[true, true, true, true, true, true, true, true, false, true, true, true, true, true, false, false, false] rfl rfl (by kernel_rfl) (fun _ _ _ h => h) (Or.inl ⟨by rfl, ?_⟩) hHeld ?_ ?_
  rotate_left
  · rintro w' ⟨s0, s1, s2, s3⟩
    go_simp
    with_reducible rfl
  rotate_left
  · simp only [Act.put, List.setIfInBounds_toArray, List.set_cons_zero, List.set_cons_succ, i64_w, i32_w]
    rfl
  refine take_ (i := 14) (N := some 168) (v := ?_) (a' := ?_) #[true, true, true, true, true, true, true, true, false, true, true, true, true, true, true, false, false] rfl rfl (by kernel_rfl) (fun _ _ _ h => h) (Or.inl ⟨by rfl, ?_⟩) hHeld ?_ ?_
  rotate_left
  · rintro w' ⟨s0, s1, s2, s3⟩
    go_simp
    with_reducible rfl
  rotate_left
  · simp only [Act.put, List.setIfInBounds_toArray, List.set_cons_zero, List.set_cons_succ, i64_w, i32_w]
    rfl
  refine one_ (i := 8) (N := some 162) #[true, true, true, true, true, true, true, true, true, true, true, true, true, true, true, false, false] rfl rfl (by kernel_rfl) (by decide) (fun K hK => ?_)
  refine goes_ Try.func46 (by kernel_rfl) rfl #[.slice A0 l0.length c0, .string key, .int .i64 rep, .int .i64 (wrap64 (-n))] (by rfl) rfl rfl (by simp only [List.map_toArray, List.map_cons, List.map_nil]; rfl) ?_
  with_reducible refine (hucksterref11_Add.calls A0 c0 l0 key rep (wrap64 (-n)) W3 _ (Kd.C_drew (Kd.C_below HR1.out HB.out)) hc0 HAdd3.out).mono ?_
  rintro e wx ⟨vx, rfl, hRx, hbx⟩
  refine ⟨_, rfl, ?_⟩
  have HBx := Aside0.mk (below_step (below_drew HB.out) hbx)
  have HVx := Aside0.mk (Kd.R_lower hRx (below_size (below_drew HB.out)))
  have HVbx := Aside0.mk (Kd.R_below (Kd.R_drew HVb.out) hbx)
  obtain ⟨Ax, cx, rfl, hcx, _⟩ := Kd.R_reads HVx.out
  obtain ⟨he0, he1, he2, he3⟩ := HBOX.out _ HBx.out
  refine hK.out _ _ ⟨he0, he1, he2, he3⟩ (fun hHeld => ?_)
  clear hK K
  refine norm_ (a' := ?_) ?_ ?_
  rotate_left
  · show Act.put _ (some 162) _ = _
    simp only [Act.put, List.setIfInBounds_toArray, List.set_cons_zero, List.set_cons_succ, i64_w, i32_w]
    rfl
  refine one_ (i := 15) (N := some 169) #[true, true, true, true, true, true, true, true, true, true, true, true, true, true, true, true, false] rfl rfl (by kernel_rfl) (by decide) (fun K hK => ?_)
  refine goes_ Try.func46 (by kernel_rfl) rfl #[.slice Ax W3.length cx, .string key, .int .i64 tp, .int .i64 n] (by rfl) rfl rfl (by simp only [List.map_toArray, List.map_cons, List.map_nil]; rfl) ?_
  with_reducible refine (hucksterref11_Add.calls Ax cx W3 key tp n W2 _ (Kd.R_reads' HVx.out).2.2 hcx hAdd2).mono ?_
  rintro e wy ⟨vy, rfl, hRy, hby⟩
  refine ⟨_, rfl, ?_⟩
  have HBy := Aside0.mk (below_step HBx.out hby)
  have HVy := Aside0.mk (Kd.R_lower hRy (below_size HBx.out))
  have HVby := Aside0.mk (Kd.R_below HVbx.out hby)
  obtain ⟨Ay, cy, rfl, hcy, _⟩ := Kd.R_reads HVy.out
  obtain ⟨hf0, hf1, hf2, hf3⟩ := HBOX.out _ HBy.out
  refine hK.out _ _ ⟨hf0, hf1, hf2, hf3⟩ (fun hHeld => ?_)
  clear hK K
  refine norm_ (a' := ?_) ?_ ?_
  rotate_left
  · show Act.put _ (some 169) _ = _
    simp only [Act.put, List.setIfInBounds_toArray, List.set_cons_zero, List.set_cons_succ, i64_w, i32_w]
    rfl
  refine pure_ (i := 16) (N := some 12) (v := ?_) (a' := ?_) #[true, true, true, true, true, true, true, true, true, true, true, true, true, true, true, true, true] rfl rfl (by kernel_rfl) (fun _ _ _ h => h) (Or.inl ⟨by rfl, ?_⟩) ?_ ?_
  rotate_left
  · intro w'
    go_simp
    with_reducible rfl
  rotate_left
  · simp only [Act.put, List.setIfInBounds_toArray, List.set_cons_zero, List.set_cons_succ, i64_w, i32_w]
    rfl
  refine done_ (by kernel_rfl) ?_
  clear HB HVb hd0 hd1 hd2 hd3
  have HB := HBy
  have HVb := HVby
  clear HBy HVby
  obtain ⟨hd0, hd1, hd2, hd3⟩ := HBOX.out _ HB.out
  go_wp2_with fail
  refine (hucksterref11_Right.calls Ay cy W2 true _ (Kd.R_reads' HVy.out).2.2 hcy (right_f (by omega) hm)).mono ?_
  rintro e w13 ⟨rfl, hb⟩
  have HB_ := HB
  clear HB
  have HB := Aside0.mk (below_step HB_.out hb)
  have HV_ := HVb
  clear HVb
  have HVb := Aside0.mk (Kd.R_below HV_.out hb)
  clear HV_
  have HV_ := HVy
  clear HVy
  have HVy := Aside0.mk (Kd.R_below HV_.out hb)
  clear HV_
  clear HB_ hb
  try clear hd0 hd1 hd2 hd3
  obtain ⟨hd0, hd1, hd2, hd3⟩ := HBOX.out _ HB.out
  go_wp2_with fail
  refine (same_call W2 (by omega) Ab cb Ay cy _ (Kd.R_reads' HVb.out).2.2 hcb (Kd.R_reads' HVy.out).2.2 hcy).mono ?_
  rintro e w14 ⟨rfl, hb⟩
  have HB_ := HB
  clear HB
  have HB := Aside0.mk (below_step HB_.out hb)
  have HV_ := HVb
  clear HVb
  have HVb := Aside0.mk (Kd.R_below HV_.out hb)
  clear HV_
  have HV_ := HVy
  clear HVy
  have HVy := Aside0.mk (Kd.R_below HV_.out hb)
  clear HV_
  clear HB_ hb
  try clear hd0 hd1 hd2 hd3
  obtain ⟨hd0, hd1, hd2, hd3⟩ := HBOX.out _ HB.out
  go_wp2_with fail
  refine (awake_call _).mono ?_
  rintro e w15 ⟨rfl, hb⟩
  have HB_ := HB
  clear HB
  have HB := Aside0.mk (below_step HB_.out hb)
  have HV_ := HVb
  clear HVb
  have HVb := Aside0.mk (Kd.R_below HV_.out hb)
  clear HV_
  have HV_ := HVy
  clear HVy
  have HVy := Aside0.mk (Kd.R_below HV_.out hb)
  clear HV_
  clear HB_ hb
  try clear hd0 hd1 hd2 hd3
  obtain ⟨hd0, hd1, hd2, hd3⟩ := HBOX.out _ HB.out
  go_wp2_with fail
  go_ret
  exact ⟨rfl, below_step HB0.out HB.out⟩

theorem turns_is (A0 : Option Addr) (c0 : Nat) (l0 : List Ac) (key : ByteArray) (rep tp n : Int) (w : World) (hr0 : Kd.C k94 w A0 l0.length l0) (hc0 : l0.length ≤ c0) : TurnsIs A0 c0 l0 key rep tp n w := by
  obtain ⟨b, hb, hlb⟩ := light11 l0
  obtain ⟨kl, hL⟩ := hb.rounds
  cases b with
  | false => exact turns_dark1 A0 c0 l0 key rep tp n w hr0 hc0 kl hL
  | true =>
    have hl := hlb rfl
    by_cases hs : 100 < (key.size : Int)
    · exact turns_dark2 A0 c0 l0 key rep tp n w hr0 hc0 kl hL hs
    have hs : (key.size : Int) ≤ 100 := by omega
    cases hc : chkA l0 with
    | false => exact turns_chk A0 c0 l0 key rep tp n w hr0 hc0 kl hL hl hs hc
    | true =>
    cases hk : (key.toList == ([] : List UInt8)) with
    | true => exact turns_key A0 c0 l0 key rep tp n w hr0 hc0 kl hL hl hs hc hk
    | false =>
    by_cases h32 : (key.size : Int) ≤ 32
    rotate_left
    · exact turns_size A0 c0 l0 key rep tp n w hr0 hc0 kl hL hl hs hc hk h32
    cases hr : repOk rep with
    | false => exact turns_rep A0 c0 l0 key rep tp n w hr0 hc0 kl hL hl hs hc hk h32 hr
    | true =>
    by_cases hn0 : n ≤ 1000
    rotate_left
    · exact turns_many A0 c0 l0 key rep tp n w hr0 hc0 kl hL hl hs hc hk h32 hr hn0
    by_cases hlo : -1000 ≤ n
    rotate_left
    · exact turns_low A0 c0 l0 key rep tp n w hr0 hc0 kl hL hl hs hc hk h32 hr hn0 (by omega)
    by_cases hn1 : 1 ≤ n
    rotate_left
    · cases hf : chkA (setA l0 key (upR (getA l0 key) rep n)) with
      | false => exact turns_full_few A0 c0 l0 key rep tp n w hr0 hc0 kl hL hl hs hc hk h32 hr hn0 hlo hf (by omega)
      | true => exact turns_ok_few A0 c0 l0 key rep tp n w hr0 hc0 kl hL hl hs hc hk h32 hr hn0 hlo hf (by omega)
    cases ht : repOk tp with
    | false =>
      cases hf : chkA (setA l0 key (upR (getA l0 key) rep n)) with
      | false => exact turns_full_to A0 c0 l0 key rep tp n w hr0 hc0 kl hL hl hs hc hk h32 hr hn0 hlo hf hn1 ht
      | true => exact turns_ok_to A0 c0 l0 key rep tp n w hr0 hc0 kl hL hl hs hc hk h32 hr hn0 hlo hf hn1 ht
    | true =>
    by_cases hrt : tp = rep
    · cases hf : chkA (setA l0 key (upR (getA l0 key) rep n)) with
      | false => exact turns_full_self A0 c0 l0 key rep tp n w hr0 hc0 kl hL hl hs hc hk h32 hr hn0 hlo hf hn1 ht hrt
      | true => exact turns_ok_self A0 c0 l0 key rep tp n w hr0 hc0 kl hL hl hs hc hk h32 hr hn0 hlo hf hn1 ht hrt
    cases hf : chkA (setA l0 key (upR (getA l0 key) rep n)) with
    | false =>
      cases hm : chkA (setA l0 key (mvR (getA l0 key) rep tp n)) with
      | false => exact turns_full_mfull A0 c0 l0 key rep tp n w hr0 hc0 kl hL hl hs hc hk h32 hr hn0 hlo hf hn1 ht hrt hm
      | true => exact turns_full_mok A0 c0 l0 key rep tp n w hr0 hc0 kl hL hl hs hc hk h32 hr hn0 hlo hf hn1 ht hrt hm
    | true =>
      cases hm : chkA (setA l0 key (mvR (getA l0 key) rep tp n)) with
      | false => exact turns_ok_mfull A0 c0 l0 key rep tp n w hr0 hc0 kl hL hl hs hc hk h32 hr hn0 hlo hf hn1 ht hrt hm
      | true => exact turns_ok_mok A0 c0 l0 key rep tp n w hr0 hc0 kl hL hl hs hc hk h32 hr hn0 hlo hf hn1 ht hrt hm

end Go.Proofs.Ytfnpiclioikjpaa.X

/- The row of the law EscrowTurns, out of its Pure and the walk. -/
namespace Go.Proofs.Ytfnpiclioikjpaa.escrowTurns
open Go.ChangeShapes Go.WideShapes Go.ChangeAt Go.RowKit Go.Proofs.YtfnpiclioikjpaaW.PrintWords
open Go.ChangeMaps (open_string shut_string)
set_option linter.unusedVariables false
theorem own : ownKnob Try.prog.godebug = none := by kernel_rfl
theorem laidOut : laidOutB Try.prog = true := by kernel_rfl
set_option maxRecDepth 100000 in
theorem lifted (os : Os) (started : os.Started) (H : Type) (enc : TypeId × Value → H) :
    ReturnsInHanded {} Try.checked os 10 .any (Rows.escrowTurnsSpec.pre6 enc Try.prog Try.f10 Rows.escrowTurnsRow.domain false) (Rows.escrowTurnsSpec.post enc Try.prog Try.f10 false true false false) := by
  refine returnsInHanded_of_change_sized (C := Try.checked) own started (by kernel_rfl) Try.func10
    (ChangeSpec.witness6 (enc := enc) (C := Try.checked) false ⟨#[], #[.slice none 0 0, .agg #[.string ByteArray.empty, .int .i64 0, .int .i64 0, .int .i64 0]], []⟩ 8 (by kernel_rfl) (by kernel_rfl) (by kernel_rfl) (by kernel_rfl)) ?_
  intro W base args ds gs before hval0 hW hcnd hsz0 _
  have hsz : (DataW.weightsEach Try.prog (Try.f10.params.toList ++ Rows.escrowTurnsSpec.plain.varTypes Try.prog) (ds ++ gs)).all (· ≤ reachBytes) = true := hsz0
  have hval : ∀ (j : Nat) t v, Try.f10.params[j]? = some t → args[j]? = some v → Value.okWide Try.prog W .any base t v := hval0
  have hW' := hW
  obtain ⟨p, q, hA0, hV, rfl, hfz, hnd⟩ := hW
  have hA : DataW.TrodAll enc Try.prog W 0 (fun _ => true) true Try.f10.params.toList args.toList ds p := hA0
  rw [Try.params10] at hA hval hsz
  obtain ⟨v0, vs0, d0, ds0, p0, q0, hargs, rfl, rfl, h0, r0⟩ := trodAll_cons hA
  obtain ⟨v1, vs1, d1, ds1, p1, q1, rfl, rfl, rfl, h1, r1⟩ := trodAll_cons r0
  obtain ⟨rfl, rfl, rfl⟩ := trodAll_nil r1
  obtain rfl : args = #[v0, v1] := by cases args; simp_all
  obtain ⟨rfl, rfl⟩ := trodVars_none hV
  obtain ⟨a0, len0, cap0, rfl⟩ := okWide_slice Try.underlying59 (hval 0 59 v0 rfl rfl)
  have k0 := h0
  have lt0 : ∀ x ∈ p0, x.block < W.heap.size := by obtain ⟨m, hm⟩ := k0; exact DataW.trod_lt m _ _ _ hm
  obtain ⟨z0, w0⟩ := X.open_rowOf X.cellAcc (fun _ => True) 6 (by kernel_rfl) Try.underlying59 X.openAcc a0 len0 cap0 rfl h0
  obtain rfl : z0.length = len0 := w0.2.2.1
  have C0 : Kd.C X.k94 W a0 z0.length z0 := X.CAcc w0
  have k1 := h1
  have lt1 : ∀ x ∈ p1, x.block < W.heap.size := by obtain ⟨m, hm⟩ := k1; exact DataW.trod_lt m _ _ _ hm
  obtain ⟨cs1, rfl, _⟩ := okWide_struct Try.underlying61 (hval 1 61 v1 rfl rfl)
  obtain ⟨a1_0, a1_1, a1_2, a1_3, g1⟩ : ∃ a1_0 a1_1 a1_2 a1_3, cs1.toList = X.cellDeed a1_0 a1_1 a1_2 a1_3 := by
    obtain ⟨fuel, hf⟩ := h1
    obtain ⟨q0, q1, q2, q3, hz⟩ := X.openDeed fuel _ _ hf
    exact ⟨q0, q1, q2, q3, by simpa [Value.cells] using hz⟩
  obtain rfl : cs1 = (X.cellDeed a1_0 a1_1 a1_2 a1_3).toArray := by rw [← g1, Array.toArray_toList]
  clear hA0 hval0 hsz0 hsz
  refine (X.turns_is a0 cap0 z0 a1_0 a1_1 a1_2 a1_3 W C0 w0.1).mono fun e W' ⟨he, bel⟩ => ?_
  subst he
  exact ⟨_, rfl, _, _, _, [], _, [], hW', trodAll_mk1 (shut_bool Try.underlying4 _), (trodAll_cons_mk (Below.trod laidOut (by kernel_rfl) (of_decide_eq_true (by kernel_rfl)) k0 bel lt0) (trodAll_cons_mk (Below.trod laidOut (by kernel_rfl) (of_decide_eq_true (by kernel_rfl)) k1 bel lt1) trodAll_mk0)), rfl, bel.frame _, fun h => by cases h⟩
theorem over : Rows.escrowTurnsRow.holds Try.pinned (OpenSpec.ofChange Rows.escrowTurnsSpec) :=
  OpenClaim.holds_of_wide 10 Try.f10 rfl rfl rfl rfl rfl rfl rfl ⟨rfl, rfl, rfl, rfl, rfl⟩ rfl rfl rfl rfl rfl (by kernel_rfl) Try.func10 (by kernel_rfl)
    (of_decide_eq_true (by kernel_rfl)) (by unfold Func.isWrapper; first | (rw [if_pos (by decide +kernel)]; kernel_rfl) | (rw [if_neg (by decide +kernel)]; exact ⟨rfl, rfl⟩))
    (fun os started H enc _ => lifted os started H enc)
theorem proved : Rows.EscrowTurnsSaid := over
#print axioms proved
end Go.Proofs.Ytfnpiclioikjpaa.escrowTurns
namespace Go.Proofs.Ytfnpiclioikjpaa
/-- The row, under a short name, for the claim. -/
theorem escrowTurns_holds : Rows.EscrowTurnsSaid := escrowTurns.proved
end Go.Proofs.Ytfnpiclioikjpaa

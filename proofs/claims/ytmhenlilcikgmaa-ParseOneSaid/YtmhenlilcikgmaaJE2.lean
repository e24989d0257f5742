/- Joined texts of this session: PaD, PaE, PaF. -/
import Derived.Deep.LoopGhost
import Derived.Test.YtmhenlilcikgmaaJE1
/- The parser's deed, walked. -/
set_option linter.unusedSimpArgs false
set_option linter.unusedVariables false
namespace Go.Proofs.Ytmhenlilcikgmaa.X
open Go.RowKit Go.Proofs.YtmhenlilcikgmaaW.PrintWords Go.Proofs.YtmhenlilcikgmaaW.PrintLast Go.Proofs.YtmhenlilcikgmaaW.PrintMore

theorem pWordT_t {s : ByteArray} {ts : List Tk} (h : pWordB s ts = true) : pWordT s ts = ts.tail := by unfold pWordT; rw [h]; rfl
theorem pWordT_f {s : ByteArray} {ts : List Tk} (h : pWordB s ts = false) : pWordT s ts = ts := by unfold pWordT; rw [h]; rfl
def deV (x : De) : Value := .agg #[.int .i64 x.f0, .string x.f1, .int .i64 x.f2]
theorem de_build (k : Int) (s : ByteArray) (w : World) : (Instr.build 60 #[(0, .int .i64 k), (1, .string s)]).run Try.prog w = .ok (deV ⟨k, s, 0⟩) w := by kernel_rfl
def pDeed1 (k : Int) (ts : List Tk) : PR De := pBind (pName ts) fun s ts => .ok (⟨k, s, 0⟩, ts)
def pDeed2 (k : Int) (ts : List Tk) : PR De := pBind (pName ts) fun s ts => pBind (pNumber ts) fun n ts => .ok (⟨k, s, n⟩, ts)
def pDeed (ts : List Tk) : PR De := if pWordB (⟨#[97, 100, 100]⟩ : ByteArray) ts then pDeed1 1 ts.tail else if pWordB (⟨#[100, 114, 111, 112]⟩ : ByteArray) ts then pDeed1 2 ts.tail else if pWordB (⟨#[112, 117, 116]⟩ : ByteArray) ts then pDeed1 6 ts.tail else if pWordB (⟨#[117, 112]⟩ : ByteArray) ts then pDeed2 3 ts.tail else if pWordB (⟨#[100, 111, 119, 110]⟩ : ByteArray) ts then pDeed2 4 ts.tail else pFail 2 ts

set_option maxHeartbeats 4000000 in
set_option maxRecDepth 100000 in
theorem deed_call (w0 w : World) (p : Nat) (ts : List Tk) (h : PS w0 w p ts) :
    Calls Try.prog 39 #[.pointer (some ⟨p, 0, none⟩)] w fun e w' => PPost w0 w p (pDeed ts) (fun _ v x => v = deV x) e w' := by
  have H := Aside0.mk h
  clear h
  cases hw0 : pWordB (⟨#[97, 100, 100]⟩ : ByteArray) ts with
  | true =>
    have HW0 : Aside0 (pWordB (⟨#[97, 100, 100]⟩ : ByteArray) ts = true) := ⟨hw0⟩
    clear hw0
    have HX0 : Aside0 (pDeed ts = pBind (pName ts.tail) fun s ts => .ok (⟨1, s, 0⟩, ts)) := ⟨by unfold pDeed; rw [HW0.out]; rfl⟩
    go_enter Try.func39, Try.ntmps39
    go_upto_region 1 with (((with_reducible refine gate_dst (N := 2) rfl ?_); refine box_event ?hg (N := 2) ?hd (cs := #[.int .i64 0, .string ⟨#[]⟩, .int .i64 0]) (t := 60) ?hr ?_; (case hd => rfl); (case hg => rfl); (case hr => first | (go_simp; done) | (go_simp; rfl)); intro g1 hg_ w1 hbox hb; have HB1 := Aside0.mk hb; have BK1 := Aside0.mk hbox; have HG1 := Aside0.mk hg_; clear hb hbox hg_))
    have H1 := Aside0.mk (H.out.step HB1.out)
    have K1 := Aside0.mk (KeepBut.of_below HB1.out p none)
    have Ng1 : Aside0 (p ≠ g1 ∧ w.heap.size ≤ g1) := ⟨by have l0 := H.out.lt; rw [HG1.out]; omega⟩
    go_upto_region 3 with (((with_reducible refine gate_dst (N := 3) rfl ?_); refine box_event ?hg (N := 3) ?hd (cs := #[.int .i64 0, .string ⟨#[]⟩, .int .i64 0]) (t := 60) ?hr ?_; (case hd => rfl); (case hg => rfl); (case hr => first | (go_simp; done) | (go_simp; rfl)); intro g2 hg_ w2 hbox hb; have HB2 := Aside0.mk hb; have BK2 := Aside0.mk hbox; have HG2 := Aside0.mk hg_; clear hb hbox hg_))
    have H2 := Aside0.mk (H1.out.step HB2.out)
    have K2 := Aside0.mk (K1.out.trans (KeepBut.of_below HB2.out p none) (.inl rfl))
    have Bg1_2 := Aside0.mk (blk_below BK1.out HB2.out)
    have Ng2 : Aside0 (p ≠ g2 ∧ w.heap.size ≤ g2 ∧ g1 ≠ g2) := ⟨by have l0 := H1.out.lt; have l_g1 := blk_lt BK1.out; have lk := K1.out.1; rw [HG2.out]; omega⟩
    go_wp2_with fail
    refine (pword_call w0 _ p (ts) (⟨#[97, 100, 100]⟩ : ByteArray) H2.out).mono ?_
    rintro e w3 ⟨rfl, h1, h2⟩
    rw [HW0.out]
    rw [pWordT_t HW0.out] at h1
    have H3 := Aside0.mk h1
    have Bg1_3 : Aside0 (w3.heap[g1]? = _) := ⟨h2.blk Bg1_2.out Ng1.out.1.symm (by simp)⟩
    have Bg2_3 : Aside0 (w3.heap[g2]? = _) := ⟨h2.blk BK2.out Ng2.out.1.symm (by simp)⟩
    have K3 := Aside0.mk (K2.out.trans h2 (.inl rfl))
    clear h1 h2
    go_wp2_with fail
    refine (name_call w0 _ p ((ts).tail) H3.out).mono ?_
    rintro e w4 hq
    cases hx4 : pName ts.tail with
    | error x =>
      rw [hx4] at hq
      obtain ⟨rfl, h1, h2⟩ := hq
      have HX' : Aside0 (pDeed ts = .error x) := ⟨by rw [HX0.out, hx4]; rfl⟩
      refine ⟨rfl, ?_⟩
      show PPost w0 w p (pDeed ts) _ _ _
      rw [HX'.out]
      exact ⟨rfl, h1, K3.out.trans h2 (.inl rfl)⟩
    | ok x =>
      obtain ⟨s, ts1⟩ := x
      rw [hx4] at hq
      obtain ⟨v, rfl, rfl, h1, h2⟩ := hq
      have HX4 : Aside0 (pDeed ts = .ok (⟨1, s, 0⟩, ts1)) := ⟨by rw [HX0.out, hx4]; rfl⟩
      clear hx4
      have H4 := Aside0.mk h1
      have Bg1_4 : Aside0 (w4.heap[g1]? = _) := ⟨h2.blk Bg1_3.out Ng1.out.1.symm (by simp)⟩
      have Bg2_4 : Aside0 (w4.heap[g2]? = _) := ⟨h2.blk Bg2_3.out Ng2.out.1.symm (by simp)⟩
      have K4 := Aside0.mk (K3.out.trans h2 (.inl rfl))
      clear h1 h2
      have hc0 : w4.cell? ⟨g2, 0, none⟩ = some (.int .i64 0) := (blk_cell Bg2_4.out 0).trans rfl
      have fhc0 := blk_frozen Bg2_4.out 0
      have hc1 : w4.cell? ⟨g2, 1, none⟩ = some (.string ⟨#[]⟩) := (blk_cell Bg2_4.out 1).trans rfl
      have fhc1 := blk_frozen Bg2_4.out 1
      have hc2 : w4.cell? ⟨g2, 2, none⟩ = some (.int .i64 0) := (blk_cell Bg2_4.out 2).trans rfl
      have fhc2 := blk_frozen Bg2_4.out 2
      have hbl := de_build 1 s
      go_upto_region 15 with (fail)
      have HO5 := Aside0.mk (onto3_ w4 g2 (.int .i64 1) (.string s) (.int .i64 0))
      have C5 := Aside0.mk (put3_ (b0 := .int .i64 1) (b1 := .string s) (b2 := .int .i64 0) Bg2_4.out)
      clear hc0 hc1 hc2 fhc0 fhc1 fhc2 hbl
      have H5 := Aside0.mk (H4.out.onto HO5.out (Nat.le_trans H.out.size Ng2.out.2.1) Ng2.out.1)
      have K5 := Aside0.mk (HO5.out.keep K4.out (.inl Ng2.out.2.1))
      have Bg1_5 := Aside0.mk (HO5.out.blk Bg1_4.out Ng2.out.2.2)
      generalize (((w4.setCell ⟨g2, 0, none⟩ (.int .i64 1)).setCell ⟨g2, 1, none⟩ (.string s)).setCell ⟨g2, 2, none⟩ (.int .i64 0)) = w5 at *
      have hy0 : w5.cell? ⟨g2, 0, none⟩ = some (.int .i64 1) := (blk_cell C5.out 0).trans rfl
      have hy1 : w5.cell? ⟨g2, 1, none⟩ = some (.string s) := (blk_cell C5.out 1).trans rfl
      have hy2 : w5.cell? ⟨g2, 2, none⟩ = some (.int .i64 0) := (blk_cell C5.out 2).trans rfl
      have hc0 : w5.cell? ⟨g1, 0, none⟩ = some (.int .i64 0) := (blk_cell Bg1_5.out 0).trans rfl
      have fhc0 := blk_frozen Bg1_5.out 0
      have hc1 : w5.cell? ⟨g1, 1, none⟩ = some (.string ⟨#[]⟩) := (blk_cell Bg1_5.out 1).trans rfl
      have fhc1 := blk_frozen Bg1_5.out 1
      have hc2 : w5.cell? ⟨g1, 2, none⟩ = some (.int .i64 0) := (blk_cell Bg1_5.out 2).trans rfl
      have fhc2 := blk_frozen Bg1_5.out 2
      go_wp2_with fail
      have HO6 := Aside0.mk (onto3_ w5 g1 (.int .i64 1) (.string s) (.int .i64 0))
      have C6 := Aside0.mk (put3_ (b0 := .int .i64 1) (b1 := .string s) (b2 := .int .i64 0) Bg1_5.out)
      clear hy0 hy1 hy2 hc0 hc1 hc2 fhc0 fhc1 fhc2
      have H6 := Aside0.mk (H5.out.onto HO6.out (Nat.le_trans H.out.size Ng1.out.2) Ng1.out.1)
      have K6 := Aside0.mk (HO6.out.keep K5.out (.inl Ng1.out.2))
      have Bg2_6 := Aside0.mk (HO6.out.blk C5.out Ng2.out.2.2.symm)
      generalize (((w5.setCell ⟨g1, 0, none⟩ (.int .i64 1)).setCell ⟨g1, 1, none⟩ (.string s)).setCell ⟨g1, 2, none⟩ (.int .i64 0)) = w6 at *
      have hz0 : w6.cell? ⟨g1, 0, none⟩ = some (.int .i64 1) := (blk_cell C6.out 0).trans rfl
      have hz1 : w6.cell? ⟨g1, 1, none⟩ = some (.string s) := (blk_cell C6.out 1).trans rfl
      have hz2 : w6.cell? ⟨g1, 2, none⟩ = some (.int .i64 0) := (blk_cell C6.out 2).trans rfl
      refine bodyPost_ret (v := deV ⟨1, s, 0⟩) (by simp [results, Try.results39, go_sem, hz0, hz1, hz2, dlV, deV]) rfl ?_
      show PPost w0 w p (pDeed ts) _ _ _
      rw [HX4.out]
      exact ⟨_, rfl, rfl, H6.out, K6.out⟩
  | false =>
    cases hw1 : pWordB (⟨#[100, 114, 111, 112]⟩ : ByteArray) ts with
    | true =>
      have HW0 : Aside0 (pWordB (⟨#[97, 100, 100]⟩ : ByteArray) ts = false) := ⟨hw0⟩
      have HW1 : Aside0 (pWordB (⟨#[100, 114, 111, 112]⟩ : ByteArray) ts = true) := ⟨hw1⟩
      clear hw0 hw1
      have HX0 : Aside0 (pDeed ts = pBind (pName ts.tail) fun s ts => .ok (⟨2, s, 0⟩, ts)) := ⟨by unfold pDeed; rw [HW0.out, HW1.out]; rfl⟩
      go_enter Try.func39, Try.ntmps39
      go_upto_region 1 with (((with_reducible refine gate_dst (N := 2) rfl ?_); refine box_event ?hg (N := 2) ?hd (cs := #[.int .i64 0, .string ⟨#[]⟩, .int .i64 0]) (t := 60) ?hr ?_; (case hd => rfl); (case hg => rfl); (case hr => first | (go_simp; done) | (go_simp; rfl)); intro g1 hg_ w1 hbox hb; have HB1 := Aside0.mk hb; have BK1 := Aside0.mk hbox; have HG1 := Aside0.mk hg_; clear hb hbox hg_))
      have H1 := Aside0.mk (H.out.step HB1.out)
      have K1 := Aside0.mk (KeepBut.of_below HB1.out p none)
      have Ng1 : Aside0 (p ≠ g1 ∧ w.heap.size ≤ g1) := ⟨by have l0 := H.out.lt; rw [HG1.out]; omega⟩
      go_upto_region 3 with (((with_reducible refine gate_dst (N := 3) rfl ?_); refine box_event ?hg (N := 3) ?hd (cs := #[.int .i64 0, .string ⟨#[]⟩, .int .i64 0]) (t := 60) ?hr ?_; (case hd => rfl); (case hg => rfl); (case hr => first | (go_simp; done) | (go_simp; rfl)); intro g2 hg_ w2 hbox hb; have HB2 := Aside0.mk hb; have BK2 := Aside0.mk hbox; have HG2 := Aside0.mk hg_; clear hb hbox hg_))
      have H2 := Aside0.mk (H1.out.step HB2.out)
      have K2 := Aside0.mk (K1.out.trans (KeepBut.of_below HB2.out p none) (.inl rfl))
      have Bg1_2 := Aside0.mk (blk_below BK1.out HB2.out)
      have Ng2 : Aside0 (p ≠ g2 ∧ w.heap.size ≤ g2 ∧ g1 ≠ g2) := ⟨by have l0 := H1.out.lt; have l_g1 := blk_lt BK1.out; have lk := K1.out.1; rw [HG2.out]; omega⟩
      go_wp2_with fail
      refine (pword_call w0 _ p (ts) (⟨#[97, 100, 100]⟩ : ByteArray) H2.out).mono ?_
      rintro e w3 ⟨rfl, h1, h2⟩
      rw [HW0.out]
      rw [pWordT_f HW0.out] at h1
      have H3 := Aside0.mk h1
      have Bg1_3 : Aside0 (w3.heap[g1]? = _) := ⟨h2.blk Bg1_2.out Ng1.out.1.symm (by simp)⟩
      have Bg2_3 : Aside0 (w3.heap[g2]? = _) := ⟨h2.blk BK2.out Ng2.out.1.symm (by simp)⟩
      have K3 := Aside0.mk (K2.out.trans h2 (.inl rfl))
      clear h1 h2
      go_wp2_with fail
      refine (pword_call w0 _ p (ts) (⟨#[100, 114, 111, 112]⟩ : ByteArray) H3.out).mono ?_
      rintro e w4 ⟨rfl, h1, h2⟩
      rw [HW1.out]
      rw [pWordT_t HW1.out] at h1
      have H4 := Aside0.mk h1
      have Bg1_4 : Aside0 (w4.heap[g1]? = _) := ⟨h2.blk Bg1_3.out Ng1.out.1.symm (by simp)⟩
      have Bg2_4 : Aside0 (w4.heap[g2]? = _) := ⟨h2.blk Bg2_3.out Ng2.out.1.symm (by simp)⟩
      have K4 := Aside0.mk (K3.out.trans h2 (.inl rfl))
      clear h1 h2
      go_wp2_with fail
      refine (name_call w0 _ p ((ts).tail) H4.out).mono ?_
      rintro e w5 hq
      cases hx5 : pName ts.tail with
      | error x =>
        rw [hx5] at hq
        obtain ⟨rfl, h1, h2⟩ := hq
        have HX' : Aside0 (pDeed ts = .error x) := ⟨by rw [HX0.out, hx5]; rfl⟩
        refine ⟨rfl, ?_⟩
        show PPost w0 w p (pDeed ts) _ _ _
        rw [HX'.out]
        exact ⟨rfl, h1, K4.out.trans h2 (.inl rfl)⟩
      | ok x =>
        obtain ⟨s, ts1⟩ := x
        rw [hx5] at hq
        obtain ⟨v, rfl, rfl, h1, h2⟩ := hq
        have HX5 : Aside0 (pDeed ts = .ok (⟨2, s, 0⟩, ts1)) := ⟨by rw [HX0.out, hx5]; rfl⟩
        clear hx5
        have H5 := Aside0.mk h1
        have Bg1_5 : Aside0 (w5.heap[g1]? = _) := ⟨h2.blk Bg1_4.out Ng1.out.1.symm (by simp)⟩
        have Bg2_5 : Aside0 (w5.heap[g2]? = _) := ⟨h2.blk Bg2_4.out Ng2.out.1.symm (by simp)⟩
        have K5 := Aside0.mk (K4.out.trans h2 (.inl rfl))
        clear h1 h2
        have hc0 : w5.cell? ⟨g2, 0, none⟩ = some (.int .i64 0) := (blk_cell Bg2_5.out 0).trans rfl
        have fhc0 := blk_frozen Bg2_5.out 0
        have hc1 : w5.cell? ⟨g2, 1, none⟩ = some (.string ⟨#[]⟩) := (blk_cell Bg2_5.out 1).trans rfl
        have fhc1 := blk_frozen Bg2_5.out 1
        have hc2 : w5.cell? ⟨g2, 2, none⟩ = some (.int .i64 0) := (blk_cell Bg2_5.out 2).trans rfl
        have fhc2 := blk_frozen Bg2_5.out 2
        have hbl := de_build 2 s
        go_upto_region 15 with (fail)
        have HO6 := Aside0.mk (onto3_ w5 g2 (.int .i64 2) (.string s) (.int .i64 0))
        have C6 := Aside0.mk (put3_ (b0 := .int .i64 2) (b1 := .string s) (b2 := .int .i64 0) Bg2_5.out)
        clear hc0 hc1 hc2 fhc0 fhc1 fhc2 hbl
        have H6 := Aside0.mk (H5.out.onto HO6.out (Nat.le_trans H.out.size Ng2.out.2.1) Ng2.out.1)
        have K6 := Aside0.mk (HO6.out.keep K5.out (.inl Ng2.out.2.1))
        have Bg1_6 := Aside0.mk (HO6.out.blk Bg1_5.out Ng2.out.2.2)
        generalize (((w5.setCell ⟨g2, 0, none⟩ (.int .i64 2)).setCell ⟨g2, 1, none⟩ (.string s)).setCell ⟨g2, 2, none⟩ (.int .i64 0)) = w6 at *
        have hy0 : w6.cell? ⟨g2, 0, none⟩ = some (.int .i64 2) := (blk_cell C6.out 0).trans rfl
        have hy1 : w6.cell? ⟨g2, 1, none⟩ = some (.string s) := (blk_cell C6.out 1).trans rfl
        have hy2 : w6.cell? ⟨g2, 2, none⟩ = some (.int .i64 0) := (blk_cell C6.out 2).trans rfl
        have hc0 : w6.cell? ⟨g1, 0, none⟩ = some (.int .i64 0) := (blk_cell Bg1_6.out 0).trans rfl
        have fhc0 := blk_frozen Bg1_6.out 0
        have hc1 : w6.cell? ⟨g1, 1, none⟩ = some (.string ⟨#[]⟩) := (blk_cell Bg1_6.out 1).trans rfl
        have fhc1 := blk_frozen Bg1_6.out 1
        have hc2 : w6.cell? ⟨g1, 2, none⟩ = some (.int .i64 0) := (blk_cell Bg1_6.out 2).trans rfl
        have fhc2 := blk_frozen Bg1_6.out 2
        go_wp2_with fail
        have HO7 := Aside0.mk (onto3_ w6 g1 (.int .i64 2) (.string s) (.int .i64 0))
        have C7 := Aside0.mk (put3_ (b0 := .int .i64 2) (b1 := .string s) (b2 := .int .i64 0) Bg1_6.out)
        clear hy0 hy1 hy2 hc0 hc1 hc2 fhc0 fhc1 fhc2
        have H7 := Aside0.mk (H6.out.onto HO7.out (Nat.le_trans H.out.size Ng1.out.2) Ng1.out.1)
        have K7 := Aside0.mk (HO7.out.keep K6.out (.inl Ng1.out.2))
        have Bg2_7 := Aside0.mk (HO7.out.blk C6.out Ng2.out.2.2.symm)
        generalize (((w6.setCell ⟨g1, 0, none⟩ (.int .i64 2)).setCell ⟨g1, 1, none⟩ (.string s)).setCell ⟨g1, 2, none⟩ (.int .i64 0)) = w7 at *
        have hz0 : w7.cell? ⟨g1, 0, none⟩ = some (.int .i64 2) := (blk_cell C7.out 0).trans rfl
        have hz1 : w7.cell? ⟨g1, 1, none⟩ = some (.string s) := (blk_cell C7.out 1).trans rfl
        have hz2 : w7.cell? ⟨g1, 2, none⟩ = some (.int .i64 0) := (blk_cell C7.out 2).trans rfl
        refine bodyPost_ret (v := deV ⟨2, s, 0⟩) (by simp [results, Try.results39, go_sem, hz0, hz1, hz2, dlV, deV]) rfl ?_
        show PPost w0 w p (pDeed ts) _ _ _
        rw [HX5.out]
        exact ⟨_, rfl, rfl, H7.out, K7.out⟩
    | false =>
      cases hw2 : pWordB (⟨#[112, 117, 116]⟩ : ByteArray) ts with
      | true =>
        have HW0 : Aside0 (pWordB (⟨#[97, 100, 100]⟩ : ByteArray) ts = false) := ⟨hw0⟩
        have HW1 : Aside0 (pWordB (⟨#[100, 114, 111, 112]⟩ : ByteArray) ts = false) := ⟨hw1⟩
        have HW2 : Aside0 (pWordB (⟨#[112, 117, 116]⟩ : ByteArray) ts = true) := ⟨hw2⟩
        clear hw0 hw1 hw2
        have HX0 : Aside0 (pDeed ts = pBind (pName ts.tail) fun s ts => .ok (⟨6, s, 0⟩, ts)) := ⟨by unfold pDeed; rw [HW0.out, HW1.out, HW2.out]; rfl⟩
        go_enter Try.func39, Try.ntmps39
        go_upto_region 1 with (((with_reducible refine gate_dst (N := 2) rfl ?_); refine box_event ?hg (N := 2) ?hd (cs := #[.int .i64 0, .string ⟨#[]⟩, .int .i64 0]) (t := 60) ?hr ?_; (case hd => rfl); (case hg => rfl); (case hr => first | (go_simp; done) | (go_simp; rfl)); intro g1 hg_ w1 hbox hb; have HB1 := Aside0.mk hb; have BK1 := Aside0.mk hbox; have HG1 := Aside0.mk hg_; clear hb hbox hg_))
        have H1 := Aside0.mk (H.out.step HB1.out)
        have K1 := Aside0.mk (KeepBut.of_below HB1.out p none)
        have Ng1 : Aside0 (p ≠ g1 ∧ w.heap.size ≤ g1) := ⟨by have l0 := H.out.lt; rw [HG1.out]; omega⟩
        go_upto_region 3 with (((with_reducible refine gate_dst (N := 3) rfl ?_); refine box_event ?hg (N := 3) ?hd (cs := #[.int .i64 0, .string ⟨#[]⟩, .int .i64 0]) (t := 60) ?hr ?_; (case hd => rfl); (case hg => rfl); (case hr => first | (go_simp; done) | (go_simp; rfl)); intro g2 hg_ w2 hbox hb; have HB2 := Aside0.mk hb; have BK2 := Aside0.mk hbox; have HG2 := Aside0.mk hg_; clear hb hbox hg_))
        have H2 := Aside0.mk (H1.out.step HB2.out)
        have K2 := Aside0.mk (K1.out.trans (KeepBut.of_below HB2.out p none) (.inl rfl))
        have Bg1_2 := Aside0.mk (blk_below BK1.out HB2.out)
        have Ng2 : Aside0 (p ≠ g2 ∧ w.heap.size ≤ g2 ∧ g1 ≠ g2) := ⟨by have l0 := H1.out.lt; have l_g1 := blk_lt BK1.out; have lk := K1.out.1; rw [HG2.out]; omega⟩
        go_wp2_with fail
        refine (pword_call w0 _ p (ts) (⟨#[97, 100, 100]⟩ : ByteArray) H2.out).mono ?_
        rintro e w3 ⟨rfl, h1, h2⟩
        rw [HW0.out]
        rw [pWordT_f HW0.out] at h1
        have H3 := Aside0.mk h1
        have Bg1_3 : Aside0 (w3.heap[g1]? = _) := ⟨h2.blk Bg1_2.out Ng1.out.1.symm (by simp)⟩
        have Bg2_3 : Aside0 (w3.heap[g2]? = _) := ⟨h2.blk BK2.out Ng2.out.1.symm (by simp)⟩
        have K3 := Aside0.mk (K2.out.trans h2 (.inl rfl))
        clear h1 h2
        go_wp2_with fail
        refine (pword_call w0 _ p (ts) (⟨#[100, 114, 111, 112]⟩ : ByteArray) H3.out).mono ?_
        rintro e w4 ⟨rfl, h1, h2⟩
        rw [HW1.out]
        rw [pWordT_f HW1.out] at h1
        have H4 := Aside0.mk h1
        have Bg1_4 : Aside0 (w4.heap[g1]? = _) := ⟨h2.blk Bg1_3.out Ng1.out.1.symm (by simp)⟩
        have Bg2_4 : Aside0 (w4.heap[g2]? = _) := ⟨h2.blk Bg2_3.out Ng2.out.1.symm (by simp)⟩
        have K4 := Aside0.mk (K3.out.trans h2 (.inl rfl))
        clear h1 h2
        go_wp2_with fail
        refine (pword_call w0 _ p (ts) (⟨#[112, 117, 116]⟩ : ByteArray) H4.out).mono ?_
        rintro e w5 ⟨rfl, h1, h2⟩
        rw [HW2.out]
        rw [pWordT_t HW2.out] at h1
        have H5 := Aside0.mk h1
        have Bg1_5 : Aside0 (w5.heap[g1]? = _) := ⟨h2.blk Bg1_4.out Ng1.out.1.symm (by simp)⟩
        have Bg2_5 : Aside0 (w5.heap[g2]? = _) := ⟨h2.blk Bg2_4.out Ng2.out.1.symm (by simp)⟩
        have K5 := Aside0.mk (K4.out.trans h2 (.inl rfl))
        clear h1 h2
        go_wp2_with fail
        refine (name_call w0 _ p ((ts).tail) H5.out).mono ?_
        rintro e w6 hq
        cases hx6 : pName ts.tail with
        | error x =>
          rw [hx6] at hq
          obtain ⟨rfl, h1, h2⟩ := hq
          have HX' : Aside0 (pDeed ts = .error x) := ⟨by rw [HX0.out, hx6]; rfl⟩
          refine ⟨rfl, ?_⟩
          show PPost w0 w p (pDeed ts) _ _ _
          rw [HX'.out]
          exact ⟨rfl, h1, K5.out.trans h2 (.inl rfl)⟩
        | ok x =>
          obtain ⟨s, ts1⟩ := x
          rw [hx6] at hq
          obtain ⟨v, rfl, rfl, h1, h2⟩ := hq
          have HX6 : Aside0 (pDeed ts = .ok (⟨6, s, 0⟩, ts1)) := ⟨by rw [HX0.out, hx6]; rfl⟩
          clear hx6
          have H6 := Aside0.mk h1
          have Bg1_6 : Aside0 (w6.heap[g1]? = _) := ⟨h2.blk Bg1_5.out Ng1.out.1.symm (by simp)⟩
          have Bg2_6 : Aside0 (w6.heap[g2]? = _) := ⟨h2.blk Bg2_5.out Ng2.out.1.symm (by simp)⟩
          have K6 := Aside0.mk (K5.out.trans h2 (.inl rfl))
          clear h1 h2
          have hc0 : w6.cell? ⟨g2, 0, none⟩ = some (.int .i64 0) := (blk_cell Bg2_6.out 0).trans rfl
          have fhc0 := blk_frozen Bg2_6.out 0
          have hc1 : w6.cell? ⟨g2, 1, none⟩ = some (.string ⟨#[]⟩) := (blk_cell Bg2_6.out 1).trans rfl
          have fhc1 := blk_frozen Bg2_6.out 1
          have hc2 : w6.cell? ⟨g2, 2, none⟩ = some (.int .i64 0) := (blk_cell Bg2_6.out 2).trans rfl
          have fhc2 := blk_frozen Bg2_6.out 2
          have hbl := de_build 6 s
          go_upto_region 15 with (fail)
          have HO7 := Aside0.mk (onto3_ w6 g2 (.int .i64 6) (.string s) (.int .i64 0))
          have C7 := Aside0.mk (put3_ (b0 := .int .i64 6) (b1 := .string s) (b2 := .int .i64 0) Bg2_6.out)
          clear hc0 hc1 hc2 fhc0 fhc1 fhc2 hbl
          have H7 := Aside0.mk (H6.out.onto HO7.out (Nat.le_trans H.out.size Ng2.out.2.1) Ng2.out.1)
          have K7 := Aside0.mk (HO7.out.keep K6.out (.inl Ng2.out.2.1))
          have Bg1_7 := Aside0.mk (HO7.out.blk Bg1_6.out Ng2.out.2.2)
          generalize (((w6.setCell ⟨g2, 0, none⟩ (.int .i64 6)).setCell ⟨g2, 1, none⟩ (.string s)).setCell ⟨g2, 2, none⟩ (.int .i64 0)) = w7 at *
          have hy0 : w7.cell? ⟨g2, 0, none⟩ = some (.int .i64 6) := (blk_cell C7.out 0).trans rfl
          have hy1 : w7.cell? ⟨g2, 1, none⟩ = some (.string s) := (blk_cell C7.out 1).trans rfl
          have hy2 : w7.cell? ⟨g2, 2, none⟩ = some (.int .i64 0) := (blk_cell C7.out 2).trans rfl
          have hc0 : w7.cell? ⟨g1, 0, none⟩ = some (.int .i64 0) := (blk_cell Bg1_7.out 0).trans rfl
          have fhc0 := blk_frozen Bg1_7.out 0
          have hc1 : w7.cell? ⟨g1, 1, none⟩ = some (.string ⟨#[]⟩) := (blk_cell Bg1_7.out 1).trans rfl
          have fhc1 := blk_frozen Bg1_7.out 1
          have hc2 : w7.cell? ⟨g1, 2, none⟩ = some (.int .i64 0) := (blk_cell Bg1_7.out 2).trans rfl
          have fhc2 := blk_frozen Bg1_7.out 2
          go_wp2_with fail
          have HO8 := Aside0.mk (onto3_ w7 g1 (.int .i64 6) (.string s) (.int .i64 0))
          have C8 := Aside0.mk (put3_ (b0 := .int .i64 6) (b1 := .string s) (b2 := .int .i64 0) Bg1_7.out)
          clear hy0 hy1 hy2 hc0 hc1 hc2 fhc0 fhc1 fhc2
          have H8 := Aside0.mk (H7.out.onto HO8.out (Nat.le_trans H.out.size Ng1.out.2) Ng1.out.1)
          have K8 := Aside0.mk (HO8.out.keep K7.out (.inl Ng1.out.2))
          have Bg2_8 := Aside0.mk (HO8.out.blk C7.out Ng2.out.2.2.symm)
          generalize (((w7.setCell ⟨g1, 0, none⟩ (.int .i64 6)).setCell ⟨g1, 1, none⟩ (.string s)).setCell ⟨g1, 2, none⟩ (.int .i64 0)) = w8 at *
          have hz0 : w8.cell? ⟨g1, 0, none⟩ = some (.int .i64 6) := (blk_cell C8.out 0).trans rfl
          have hz1 : w8.cell? ⟨g1, 1, none⟩ = some (.string s) := (blk_cell C8.out 1).trans rfl
          have hz2 : w8.cell? ⟨g1, 2, none⟩ = some (.int .i64 0) := (blk_cell C8.out 2).trans rfl
          refine bodyPost_ret (v := deV ⟨6, s, 0⟩) (by simp [results, Try.results39, go_sem, hz0, hz1, hz2, dlV, deV]) rfl ?_
          show PPost w0 w p (pDeed ts) _ _ _
          rw [HX6.out]
          exact ⟨_, rfl, rfl, H8.out, K8.out⟩
      | false =>
        cases hw3 : pWordB (⟨#[117, 112]⟩ : ByteArray) ts with
        | true =>
          have HW0 : Aside0 (pWordB (⟨#[97, 100, 100]⟩ : ByteArray) ts = false) := ⟨hw0⟩
          have HW1 : Aside0 (pWordB (⟨#[100, 114, 111, 112]⟩ : ByteArray) ts = false) := ⟨hw1⟩
          have HW2 : Aside0 (pWordB (⟨#[112, 117, 116]⟩ : ByteArray) ts = false) := ⟨hw2⟩
          have HW3 : Aside0 (pWordB (⟨#[117, 112]⟩ : ByteArray) ts = true) := ⟨hw3⟩
          clear hw0 hw1 hw2 hw3
          have HX0 : Aside0 (pDeed ts = pBind (pName ts.tail) fun s ts => pBind (pNumber ts) fun n ts => .ok (⟨3, s, n⟩, ts)) := ⟨by unfold pDeed; rw [HW0.out, HW1.out, HW2.out, HW3.out]; rfl⟩
          go_enter Try.func39, Try.ntmps39
          go_upto_region 1 with (((with_reducible refine gate_dst (N := 2) rfl ?_); refine box_event ?hg (N := 2) ?hd (cs := #[.int .i64 0, .string ⟨#[]⟩, .int .i64 0]) (t := 60) ?hr ?_; (case hd => rfl); (case hg => rfl); (case hr => first | (go_simp; done) | (go_simp; rfl)); intro g1 hg_ w1 hbox hb; have HB1 := Aside0.mk hb; have BK1 := Aside0.mk hbox; have HG1 := Aside0.mk hg_; clear hb hbox hg_))
          have H1 := Aside0.mk (H.out.step HB1.out)
          have K1 := Aside0.mk (KeepBut.of_below HB1.out p none)
          have Ng1 : Aside0 (p ≠ g1 ∧ w.heap.size ≤ g1) := ⟨by have l0 := H.out.lt; rw [HG1.out]; omega⟩
          go_upto_region 3 with (((with_reducible refine gate_dst (N := 3) rfl ?_); refine box_event ?hg (N := 3) ?hd (cs := #[.int .i64 0, .string ⟨#[]⟩, .int .i64 0]) (t := 60) ?hr ?_; (case hd => rfl); (case hg => rfl); (case hr => first | (go_simp; done) | (go_simp; rfl)); intro g2 hg_ w2 hbox hb; have HB2 := Aside0.mk hb; have BK2 := Aside0.mk hbox; have HG2 := Aside0.mk hg_; clear hb hbox hg_))
          have H2 := Aside0.mk (H1.out.step HB2.out)
          have K2 := Aside0.mk (K1.out.trans (KeepBut.of_below HB2.out p none) (.inl rfl))
          have Bg1_2 := Aside0.mk (blk_below BK1.out HB2.out)
          have Ng2 : Aside0 (p ≠ g2 ∧ w.heap.size ≤ g2 ∧ g1 ≠ g2) := ⟨by have l0 := H1.out.lt; have l_g1 := blk_lt BK1.out; have lk := K1.out.1; rw [HG2.out]; omega⟩
          go_wp2_with fail
          refine (pword_call w0 _ p (ts) (⟨#[97, 100, 100]⟩ : ByteArray) H2.out).mono ?_
          rintro e w3 ⟨rfl, h1, h2⟩
          rw [HW0.out]
          rw [pWordT_f HW0.out] at h1
          have H3 := Aside0.mk h1
          have Bg1_3 : Aside0 (w3.heap[g1]? = _) := ⟨h2.blk Bg1_2.out Ng1.out.1.symm (by simp)⟩
          have Bg2_3 : Aside0 (w3.heap[g2]? = _) := ⟨h2.blk BK2.out Ng2.out.1.symm (by simp)⟩
          have K3 := Aside0.mk (K2.out.trans h2 (.inl rfl))
          clear h1 h2
          go_wp2_with fail
          refine (pword_call w0 _ p (ts) (⟨#[100, 114, 111, 112]⟩ : ByteArray) H3.out).mono ?_
          rintro e w4 ⟨rfl, h1, h2⟩
          rw [HW1.out]
          rw [pWordT_f HW1.out] at h1
          have H4 := Aside0.mk h1
          have Bg1_4 : Aside0 (w4.heap[g1]? = _) := ⟨h2.blk Bg1_3.out Ng1.out.1.symm (by simp)⟩
          have Bg2_4 : Aside0 (w4.heap[g2]? = _) := ⟨h2.blk Bg2_3.out Ng2.out.1.symm (by simp)⟩
          have K4 := Aside0.mk (K3.out.trans h2 (.inl rfl))
          clear h1 h2
          go_wp2_with fail
          refine (pword_call w0 _ p (ts) (⟨#[112, 117, 116]⟩ : ByteArray) H4.out).mono ?_
          rintro e w5 ⟨rfl, h1, h2⟩
          rw [HW2.out]
          rw [pWordT_f HW2.out] at h1
          have H5 := Aside0.mk h1
          have Bg1_5 : Aside0 (w5.heap[g1]? = _) := ⟨h2.blk Bg1_4.out Ng1.out.1.symm (by simp)⟩
          have Bg2_5 : Aside0 (w5.heap[g2]? = _) := ⟨h2.blk Bg2_4.out Ng2.out.1.symm (by simp)⟩
          have K5 := Aside0.mk (K4.out.trans h2 (.inl rfl))
          clear h1 h2
          go_wp2_with fail
          refine (pword_call w0 _ p (ts) (⟨#[117, 112]⟩ : ByteArray) H5.out).mono ?_
          rintro e w6 ⟨rfl, h1, h2⟩
          rw [HW3.out]
          rw [pWordT_t HW3.out] at h1
          have H6 := Aside0.mk h1
          have Bg1_6 : Aside0 (w6.heap[g1]? = _) := ⟨h2.blk Bg1_5.out Ng1.out.1.symm (by simp)⟩
          have Bg2_6 : Aside0 (w6.heap[g2]? = _) := ⟨h2.blk Bg2_5.out Ng2.out.1.symm (by simp)⟩
          have K6 := Aside0.mk (K5.out.trans h2 (.inl rfl))
          clear h1 h2
          go_wp2_with fail
          refine (name_call w0 _ p ((ts).tail) H6.out).mono ?_
          rintro e w7 hq
          cases hx7 : pName ts.tail with
          | error x =>
            rw [hx7] at hq
            obtain ⟨rfl, h1, h2⟩ := hq
            have HX' : Aside0 (pDeed ts = .error x) := ⟨by rw [HX0.out, hx7]; rfl⟩
            refine ⟨rfl, ?_⟩
            show PPost w0 w p (pDeed ts) _ _ _
            rw [HX'.out]
            exact ⟨rfl, h1, K6.out.trans h2 (.inl rfl)⟩
          | ok x =>
            obtain ⟨s, ts1⟩ := x
            rw [hx7] at hq
            obtain ⟨v, rfl, rfl, h1, h2⟩ := hq
            have HX7 : Aside0 (pDeed ts = pBind (pNumber ts1) fun n ts => .ok (⟨3, s, n⟩, ts)) := ⟨by rw [HX0.out, hx7]; rfl⟩
            clear hx7
            have H7 := Aside0.mk h1
            have Bg1_7 : Aside0 (w7.heap[g1]? = _) := ⟨h2.blk Bg1_6.out Ng1.out.1.symm (by simp)⟩
            have Bg2_7 : Aside0 (w7.heap[g2]? = _) := ⟨h2.blk Bg2_6.out Ng2.out.1.symm (by simp)⟩
            have K7 := Aside0.mk (K6.out.trans h2 (.inl rfl))
            clear h1 h2
            have hc0 : w7.cell? ⟨g2, 0, none⟩ = some (.int .i64 0) := (blk_cell Bg2_7.out 0).trans rfl
            have fhc0 := blk_frozen Bg2_7.out 0
            have hc1 : w7.cell? ⟨g2, 1, none⟩ = some (.string ⟨#[]⟩) := (blk_cell Bg2_7.out 1).trans rfl
            have fhc1 := blk_frozen Bg2_7.out 1
            have hc2 : w7.cell? ⟨g2, 2, none⟩ = some (.int .i64 0) := (blk_cell Bg2_7.out 2).trans rfl
            have fhc2 := blk_frozen Bg2_7.out 2
            have hbl := de_build 3 s
            go_upto_region 11 with (fail)
            have HO8 := Aside0.mk (onto3_ w7 g2 (.int .i64 3) (.string s) (.int .i64 0))
            have C8 := Aside0.mk (put3_ (b0 := .int .i64 3) (b1 := .string s) (b2 := .int .i64 0) Bg2_7.out)
            clear hc0 hc1 hc2 fhc0 fhc1 fhc2 hbl
            have H8 := Aside0.mk (H7.out.onto HO8.out (Nat.le_trans H.out.size Ng2.out.2.1) Ng2.out.1)
            have K8 := Aside0.mk (HO8.out.keep K7.out (.inl Ng2.out.2.1))
            have Bg1_8 := Aside0.mk (HO8.out.blk Bg1_7.out Ng2.out.2.2)
            generalize (((w7.setCell ⟨g2, 0, none⟩ (.int .i64 3)).setCell ⟨g2, 1, none⟩ (.string s)).setCell ⟨g2, 2, none⟩ (.int .i64 0)) = w8 at *
            go_wp2_with fail
            refine (number_call w0 _ p (ts1) H8.out).mono ?_
            rintro e w9 hq
            cases hx9 : pNumber ts1 with
            | error x =>
              rw [hx9] at hq
              obtain ⟨rfl, h1, h2⟩ := hq
              have HX' : Aside0 (pDeed ts = .error x) := ⟨by rw [HX7.out, hx9]; rfl⟩
              refine ⟨rfl, ?_⟩
              show PPost w0 w p (pDeed ts) _ _ _
              rw [HX'.out]
              exact ⟨rfl, h1, K8.out.trans h2 (.inl rfl)⟩
            | ok x =>
              obtain ⟨n, ts2⟩ := x
              rw [hx9] at hq
              obtain ⟨v, rfl, rfl, h1, h2⟩ := hq
              have HX9 : Aside0 (pDeed ts = .ok (⟨3, s, n⟩, ts2)) := ⟨by rw [HX7.out, hx9]; rfl⟩
              clear hx9
              have H9 := Aside0.mk h1
              have Bg1_9 : Aside0 (w9.heap[g1]? = _) := ⟨h2.blk Bg1_8.out Ng1.out.1.symm (by simp)⟩
              have Bg2_9 : Aside0 (w9.heap[g2]? = _) := ⟨h2.blk C8.out Ng2.out.1.symm (by simp)⟩
              have K9 := Aside0.mk (K8.out.trans h2 (.inl rfl))
              clear h1 h2
              have hc0 : w9.cell? ⟨g2, 0, none⟩ = some (.int .i64 3) := (blk_cell Bg2_9.out 0).trans rfl
              have fhc0 := blk_frozen Bg2_9.out 0
              have hc1 : w9.cell? ⟨g2, 1, none⟩ = some (.string s) := (blk_cell Bg2_9.out 1).trans rfl
              have fhc1 := blk_frozen Bg2_9.out 1
              have hc2 : w9.cell? ⟨g2, 2, none⟩ = some (.int .i64 0) := (blk_cell Bg2_9.out 2).trans rfl
              have fhc2 := blk_frozen Bg2_9.out 2
              go_upto_region 15 with (fail)
              have HO10 := Aside0.mk ((Onto.refl w9 g2).set 2 (.int .i64 n))
              have C10 : Aside0 ((w9.setCell ⟨g2, 2, none⟩ (.int .i64 n)).heap[g2]? = some (.cells #[.int .i64 3, .string s, .int .i64 n] 60 (0, 0))) := ⟨blk_put Bg2_9.out 2 _ rfl⟩
              clear hc0 hc1 hc2 fhc0 fhc1 fhc2
              have H10 := Aside0.mk (H9.out.onto HO10.out (Nat.le_trans H.out.size Ng2.out.2.1) Ng2.out.1)
              have K10 := Aside0.mk (HO10.out.keep K9.out (.inl Ng2.out.2.1))
              have Bg1_10 := Aside0.mk (HO10.out.blk Bg1_9.out Ng2.out.2.2)
              generalize (w9.setCell ⟨g2, 2, none⟩ (.int .i64 n)) = w10 at *
              have hy0 : w10.cell? ⟨g2, 0, none⟩ = some (.int .i64 3) := (blk_cell C10.out 0).trans rfl
              have hy1 : w10.cell? ⟨g2, 1, none⟩ = some (.string s) := (blk_cell C10.out 1).trans rfl
              have hy2 : w10.cell? ⟨g2, 2, none⟩ = some (.int .i64 n) := (blk_cell C10.out 2).trans rfl
              have hc0 : w10.cell? ⟨g1, 0, none⟩ = some (.int .i64 0) := (blk_cell Bg1_10.out 0).trans rfl
              have fhc0 := blk_frozen Bg1_10.out 0
              have hc1 : w10.cell? ⟨g1, 1, none⟩ = some (.string ⟨#[]⟩) := (blk_cell Bg1_10.out 1).trans rfl
              have fhc1 := blk_frozen Bg1_10.out 1
              have hc2 : w10.cell? ⟨g1, 2, none⟩ = some (.int .i64 0) := (blk_cell Bg1_10.out 2).trans rfl
              have fhc2 := blk_frozen Bg1_10.out 2
              go_wp2_with fail
              have HO11 := Aside0.mk (onto3_ w10 g1 (.int .i64 3) (.string s) (.int .i64 n))
              have C11 := Aside0.mk (put3_ (b0 := .int .i64 3) (b1 := .string s) (b2 := .int .i64 n) Bg1_10.out)
              clear hy0 hy1 hy2 hc0 hc1 hc2 fhc0 fhc1 fhc2
              have H11 := Aside0.mk (H10.out.onto HO11.out (Nat.le_trans H.out.size Ng1.out.2) Ng1.out.1)
              have K11 := Aside0.mk (HO11.out.keep K10.out (.inl Ng1.out.2))
              have Bg2_11 := Aside0.mk (HO11.out.blk C10.out Ng2.out.2.2.symm)
              generalize (((w10.setCell ⟨g1, 0, none⟩ (.int .i64 3)).setCell ⟨g1, 1, none⟩ (.string s)).setCell ⟨g1, 2, none⟩ (.int .i64 n)) = w11 at *
              have hz0 : w11.cell? ⟨g1, 0, none⟩ = some (.int .i64 3) := (blk_cell C11.out 0).trans rfl
              have hz1 : w11.cell? ⟨g1, 1, none⟩ = some (.string s) := (blk_cell C11.out 1).trans rfl
              have hz2 : w11.cell? ⟨g1, 2, none⟩ = some (.int .i64 n) := (blk_cell C11.out 2).trans rfl
              refine bodyPost_ret (v := deV ⟨3, s, n⟩) (by simp [results, Try.results39, go_sem, hz0, hz1, hz2, dlV, deV]) rfl ?_
              show PPost w0 w p (pDeed ts) _ _ _
              rw [HX9.out]
              exact ⟨_, rfl, rfl, H11.out, K11.out⟩
        | false =>
          cases hw4 : pWordB (⟨#[100, 111, 119, 110]⟩ : ByteArray) ts with
          | true =>
            have HW0 : Aside0 (pWordB (⟨#[97, 100, 100]⟩ : ByteArray) ts = false) := ⟨hw0⟩
            have HW1 : Aside0 (pWordB (⟨#[100, 114, 111, 112]⟩ : ByteArray) ts = false) := ⟨hw1⟩
            have HW2 : Aside0 (pWordB (⟨#[112, 117, 116]⟩ : ByteArray) ts = false) := ⟨hw2⟩
            have HW3 : Aside0 (pWordB (⟨#[117, 112]⟩ : ByteArray) ts = false) := ⟨hw3⟩
            have HW4 : Aside0 (pWordB (⟨#[100, 111, 119, 110]⟩ : ByteArray) ts = true) := ⟨hw4⟩
            clear hw0 hw1 hw2 hw3 hw4
            have HX0 : Aside0 (pDeed ts = pBind (pName ts.tail) fun s ts => pBind (pNumber ts) fun n ts => .ok (⟨4, s, n⟩, ts)) := ⟨by unfold pDeed; rw [HW0.out, HW1.out, HW2.out, HW3.out, HW4.out]; rfl⟩
            go_enter Try.func39, Try.ntmps39
            go_upto_region 1 with (((with_reducible refine gate_dst (N := 2) rfl ?_); refine box_event ?hg (N := 2) ?hd (cs := #[.int .i64 0, .string ⟨#[]⟩, .int .i64 0]) (t := 60) ?hr ?_; (case hd => rfl); (case hg => rfl); (case hr => first | (go_simp; done) | (go_simp; rfl)); intro g1 hg_ w1 hbox hb; have HB1 := Aside0.mk hb; have BK1 := Aside0.mk hbox; have HG1 := Aside0.mk hg_; clear hb hbox hg_))
            have H1 := Aside0.mk (H.out.step HB1.out)
            have K1 := Aside0.mk (KeepBut.of_below HB1.out p none)
            have Ng1 : Aside0 (p ≠ g1 ∧ w.heap.size ≤ g1) := ⟨by have l0 := H.out.lt; rw [HG1.out]; omega⟩
            go_upto_region 3 with (((with_reducible refine gate_dst (N := 3) rfl ?_); refine box_event ?hg (N := 3) ?hd (cs := #[.int .i64 0, .string ⟨#[]⟩, .int .i64 0]) (t := 60) ?hr ?_; (case hd => rfl); (case hg => rfl); (case hr => first | (go_simp; done) | (go_simp; rfl)); intro g2 hg_ w2 hbox hb; have HB2 := Aside0.mk hb; have BK2 := Aside0.mk hbox; have HG2 := Aside0.mk hg_; clear hb hbox hg_))
            have H2 := Aside0.mk (H1.out.step HB2.out)
            have K2 := Aside0.mk (K1.out.trans (KeepBut.of_below HB2.out p none) (.inl rfl))
            have Bg1_2 := Aside0.mk (blk_below BK1.out HB2.out)
            have Ng2 : Aside0 (p ≠ g2 ∧ w.heap.size ≤ g2 ∧ g1 ≠ g2) := ⟨by have l0 := H1.out.lt; have l_g1 := blk_lt BK1.out; have lk := K1.out.1; rw [HG2.out]; omega⟩
            go_wp2_with fail
            refine (pword_call w0 _ p (ts) (⟨#[97, 100, 100]⟩ : ByteArray) H2.out).mono ?_
            rintro e w3 ⟨rfl, h1, h2⟩
            rw [HW0.out]
            rw [pWordT_f HW0.out] at h1
            have H3 := Aside0.mk h1
            have Bg1_3 : Aside0 (w3.heap[g1]? = _) := ⟨h2.blk Bg1_2.out Ng1.out.1.symm (by simp)⟩
            have Bg2_3 : Aside0 (w3.heap[g2]? = _) := ⟨h2.blk BK2.out Ng2.out.1.symm (by simp)⟩
            have K3 := Aside0.mk (K2.out.trans h2 (.inl rfl))
            clear h1 h2
            go_wp2_with fail
            refine (pword_call w0 _ p (ts) (⟨#[100, 114, 111, 112]⟩ : ByteArray) H3.out).mono ?_
            rintro e w4 ⟨rfl, h1, h2⟩
            rw [HW1.out]
            rw [pWordT_f HW1.out] at h1
            have H4 := Aside0.mk h1
            have Bg1_4 : Aside0 (w4.heap[g1]? = _) := ⟨h2.blk Bg1_3.out Ng1.out.1.symm (by simp)⟩
            have Bg2_4 : Aside0 (w4.heap[g2]? = _) := ⟨h2.blk Bg2_3.out Ng2.out.1.symm (by simp)⟩
            have K4 := Aside0.mk (K3.out.trans h2 (.inl rfl))
            clear h1 h2
            go_wp2_with fail
            refine (pword_call w0 _ p (ts) (⟨#[112, 117, 116]⟩ : ByteArray) H4.out).mono ?_
            rintro e w5 ⟨rfl, h1, h2⟩
            rw [HW2.out]
            rw [pWordT_f HW2.out] at h1
            have H5 := Aside0.mk h1
            have Bg1_5 : Aside0 (w5.heap[g1]? = _) := ⟨h2.blk Bg1_4.out Ng1.out.1.symm (by simp)⟩
            have Bg2_5 : Aside0 (w5.heap[g2]? = _) := ⟨h2.blk Bg2_4.out Ng2.out.1.symm (by simp)⟩
            have K5 := Aside0.mk (K4.out.trans h2 (.inl rfl))
            clear h1 h2
            go_wp2_with fail
            refine (pword_call w0 _ p (ts) (⟨#[117, 112]⟩ : ByteArray) H5.out).mono ?_
            rintro e w6 ⟨rfl, h1, h2⟩
            rw [HW3.out]
            rw [pWordT_f HW3.out] at h1
            have H6 := Aside0.mk h1
            have Bg1_6 : Aside0 (w6.heap[g1]? = _) := ⟨h2.blk Bg1_5.out Ng1.out.1.symm (by simp)⟩
            have Bg2_6 : Aside0 (w6.heap[g2]? = _) := ⟨h2.blk Bg2_5.out Ng2.out.1.symm (by simp)⟩
            have K6 := Aside0.mk (K5.out.trans h2 (.inl rfl))
            clear h1 h2
            go_wp2_with fail
            refine (pword_call w0 _ p (ts) (⟨#[100, 111, 119, 110]⟩ : ByteArray) H6.out).mono ?_
            rintro e w7 ⟨rfl, h1, h2⟩
            rw [HW4.out]
            rw [pWordT_t HW4.out] at h1
            have H7 := Aside0.mk h1
            have Bg1_7 : Aside0 (w7.heap[g1]? = _) := ⟨h2.blk Bg1_6.out Ng1.out.1.symm (by simp)⟩
            have Bg2_7 : Aside0 (w7.heap[g2]? = _) := ⟨h2.blk Bg2_6.out Ng2.out.1.symm (by simp)⟩
            have K7 := Aside0.mk (K6.out.trans h2 (.inl rfl))
            clear h1 h2
            go_wp2_with fail
            refine (name_call w0 _ p ((ts).tail) H7.out).mono ?_
            rintro e w8 hq
            cases hx8 : pName ts.tail with
            | error x =>
              rw [hx8] at hq
              obtain ⟨rfl, h1, h2⟩ := hq
              have HX' : Aside0 (pDeed ts = .error x) := ⟨by rw [HX0.out, hx8]; rfl⟩
              refine ⟨rfl, ?_⟩
              show PPost w0 w p (pDeed ts) _ _ _
              rw [HX'.out]
              exact ⟨rfl, h1, K7.out.trans h2 (.inl rfl)⟩
            | ok x =>
              obtain ⟨s, ts1⟩ := x
              rw [hx8] at hq
              obtain ⟨v, rfl, rfl, h1, h2⟩ := hq
              have HX8 : Aside0 (pDeed ts = pBind (pNumber ts1) fun n ts => .ok (⟨4, s, n⟩, ts)) := ⟨by rw [HX0.out, hx8]; rfl⟩
              clear hx8
              have H8 := Aside0.mk h1
              have Bg1_8 : Aside0 (w8.heap[g1]? = _) := ⟨h2.blk Bg1_7.out Ng1.out.1.symm (by simp)⟩
              have Bg2_8 : Aside0 (w8.heap[g2]? = _) := ⟨h2.blk Bg2_7.out Ng2.out.1.symm (by simp)⟩
              have K8 := Aside0.mk (K7.out.trans h2 (.inl rfl))
              clear h1 h2
              have hc0 : w8.cell? ⟨g2, 0, none⟩ = some (.int .i64 0) := (blk_cell Bg2_8.out 0).trans rfl
              have fhc0 := blk_frozen Bg2_8.out 0
              have hc1 : w8.cell? ⟨g2, 1, none⟩ = some (.string ⟨#[]⟩) := (blk_cell Bg2_8.out 1).trans rfl
              have fhc1 := blk_frozen Bg2_8.out 1
              have hc2 : w8.cell? ⟨g2, 2, none⟩ = some (.int .i64 0) := (blk_cell Bg2_8.out 2).trans rfl
              have fhc2 := blk_frozen Bg2_8.out 2
              have hbl := de_build 4 s
              go_upto_region 14 with (fail)
              have HO9 := Aside0.mk (onto3_ w8 g2 (.int .i64 4) (.string s) (.int .i64 0))
              have C9 := Aside0.mk (put3_ (b0 := .int .i64 4) (b1 := .string s) (b2 := .int .i64 0) Bg2_8.out)
              clear hc0 hc1 hc2 fhc0 fhc1 fhc2 hbl
              have H9 := Aside0.mk (H8.out.onto HO9.out (Nat.le_trans H.out.size Ng2.out.2.1) Ng2.out.1)
              have K9 := Aside0.mk (HO9.out.keep K8.out (.inl Ng2.out.2.1))
              have Bg1_9 := Aside0.mk (HO9.out.blk Bg1_8.out Ng2.out.2.2)
              generalize (((w8.setCell ⟨g2, 0, none⟩ (.int .i64 4)).setCell ⟨g2, 1, none⟩ (.string s)).setCell ⟨g2, 2, none⟩ (.int .i64 0)) = w9 at *
              go_wp2_with fail
              refine (number_call w0 _ p (ts1) H9.out).mono ?_
              rintro e w10 hq
              cases hx10 : pNumber ts1 with
              | error x =>
                rw [hx10] at hq
                obtain ⟨rfl, h1, h2⟩ := hq
                have HX' : Aside0 (pDeed ts = .error x) := ⟨by rw [HX8.out, hx10]; rfl⟩
                refine ⟨rfl, ?_⟩
                show PPost w0 w p (pDeed ts) _ _ _
                rw [HX'.out]
                exact ⟨rfl, h1, K9.out.trans h2 (.inl rfl)⟩
              | ok x =>
                obtain ⟨n, ts2⟩ := x
                rw [hx10] at hq
                obtain ⟨v, rfl, rfl, h1, h2⟩ := hq
                have HX10 : Aside0 (pDeed ts = .ok (⟨4, s, n⟩, ts2)) := ⟨by rw [HX8.out, hx10]; rfl⟩
                clear hx10
                have H10 := Aside0.mk h1
                have Bg1_10 : Aside0 (w10.heap[g1]? = _) := ⟨h2.blk Bg1_9.out Ng1.out.1.symm (by simp)⟩
                have Bg2_10 : Aside0 (w10.heap[g2]? = _) := ⟨h2.blk C9.out Ng2.out.1.symm (by simp)⟩
                have K10 := Aside0.mk (K9.out.trans h2 (.inl rfl))
                clear h1 h2
                have hc0 : w10.cell? ⟨g2, 0, none⟩ = some (.int .i64 4) := (blk_cell Bg2_10.out 0).trans rfl
                have fhc0 := blk_frozen Bg2_10.out 0
                have hc1 : w10.cell? ⟨g2, 1, none⟩ = some (.string s) := (blk_cell Bg2_10.out 1).trans rfl
                have fhc1 := blk_frozen Bg2_10.out 1
                have hc2 : w10.cell? ⟨g2, 2, none⟩ = some (.int .i64 0) := (blk_cell Bg2_10.out 2).trans rfl
                have fhc2 := blk_frozen Bg2_10.out 2
                go_upto_region 15 with (fail)
                have HO11 := Aside0.mk ((Onto.refl w10 g2).set 2 (.int .i64 n))
                have C11 : Aside0 ((w10.setCell ⟨g2, 2, none⟩ (.int .i64 n)).heap[g2]? = some (.cells #[.int .i64 4, .string s, .int .i64 n] 60 (0, 0))) := ⟨blk_put Bg2_10.out 2 _ rfl⟩
                clear hc0 hc1 hc2 fhc0 fhc1 fhc2
                have H11 := Aside0.mk (H10.out.onto HO11.out (Nat.le_trans H.out.size Ng2.out.2.1) Ng2.out.1)
                have K11 := Aside0.mk (HO11.out.keep K10.out (.inl Ng2.out.2.1))
                have Bg1_11 := Aside0.mk (HO11.out.blk Bg1_10.out Ng2.out.2.2)
                generalize (w10.setCell ⟨g2, 2, none⟩ (.int .i64 n)) = w11 at *
                have hy0 : w11.cell? ⟨g2, 0, none⟩ = some (.int .i64 4) := (blk_cell C11.out 0).trans rfl
                have hy1 : w11.cell? ⟨g2, 1, none⟩ = some (.string s) := (blk_cell C11.out 1).trans rfl
                have hy2 : w11.cell? ⟨g2, 2, none⟩ = some (.int .i64 n) := (blk_cell C11.out 2).trans rfl
                have hc0 : w11.cell? ⟨g1, 0, none⟩ = some (.int .i64 0) := (blk_cell Bg1_11.out 0).trans rfl
                have fhc0 := blk_frozen Bg1_11.out 0
                have hc1 : w11.cell? ⟨g1, 1, none⟩ = some (.string ⟨#[]⟩) := (blk_cell Bg1_11.out 1).trans rfl
                have fhc1 := blk_frozen Bg1_11.out 1
                have hc2 : w11.cell? ⟨g1, 2, none⟩ = some (.int .i64 0) := (blk_cell Bg1_11.out 2).trans rfl
                have fhc2 := blk_frozen Bg1_11.out 2
                go_wp2_with fail
                have HO12 := Aside0.mk (onto3_ w11 g1 (.int .i64 4) (.string s) (.int .i64 n))
                have C12 := Aside0.mk (put3_ (b0 := .int .i64 4) (b1 := .string s) (b2 := .int .i64 n) Bg1_11.out)
                clear hy0 hy1 hy2 hc0 hc1 hc2 fhc0 fhc1 fhc2
                have H12 := Aside0.mk (H11.out.onto HO12.out (Nat.le_trans H.out.size Ng1.out.2) Ng1.out.1)
                have K12 := Aside0.mk (HO12.out.keep K11.out (.inl Ng1.out.2))
                have Bg2_12 := Aside0.mk (HO12.out.blk C11.out Ng2.out.2.2.symm)
                generalize (((w11.setCell ⟨g1, 0, none⟩ (.int .i64 4)).setCell ⟨g1, 1, none⟩ (.string s)).setCell ⟨g1, 2, none⟩ (.int .i64 n)) = w12 at *
                have hz0 : w12.cell? ⟨g1, 0, none⟩ = some (.int .i64 4) := (blk_cell C12.out 0).trans rfl
                have hz1 : w12.cell? ⟨g1, 1, none⟩ = some (.string s) := (blk_cell C12.out 1).trans rfl
                have hz2 : w12.cell? ⟨g1, 2, none⟩ = some (.int .i64 n) := (blk_cell C12.out 2).trans rfl
                refine bodyPost_ret (v := deV ⟨4, s, n⟩) (by simp [results, Try.results39, go_sem, hz0, hz1, hz2, dlV, deV]) rfl ?_
                show PPost w0 w p (pDeed ts) _ _ _
                rw [HX10.out]
                exact ⟨_, rfl, rfl, H12.out, K12.out⟩
          | false =>
            have HW0 : Aside0 (pWordB (⟨#[97, 100, 100]⟩ : ByteArray) ts = false) := ⟨hw0⟩
            have HW1 : Aside0 (pWordB (⟨#[100, 114, 111, 112]⟩ : ByteArray) ts = false) := ⟨hw1⟩
            have HW2 : Aside0 (pWordB (⟨#[112, 117, 116]⟩ : ByteArray) ts = false) := ⟨hw2⟩
            have HW3 : Aside0 (pWordB (⟨#[117, 112]⟩ : ByteArray) ts = false) := ⟨hw3⟩
            have HW4 : Aside0 (pWordB (⟨#[100, 111, 119, 110]⟩ : ByteArray) ts = false) := ⟨hw4⟩
            clear hw0 hw1 hw2 hw3 hw4
            have HX0 : Aside0 (pDeed ts = .error ((hdT ts).f3, 2)) := ⟨by unfold pDeed; rw [HW0.out, HW1.out, HW2.out, HW3.out, HW4.out]; rfl⟩
            go_enter Try.func39, Try.ntmps39
            go_upto_region 1 with (((with_reducible refine gate_dst (N := 2) rfl ?_); refine box_event ?hg (N := 2) ?hd (cs := #[.int .i64 0, .string ⟨#[]⟩, .int .i64 0]) (t := 60) ?hr ?_; (case hd => rfl); (case hg => rfl); (case hr => first | (go_simp; done) | (go_simp; rfl)); intro g1 hg_ w1 hbox hb; have HB1 := Aside0.mk hb; have BK1 := Aside0.mk hbox; have HG1 := Aside0.mk hg_; clear hb hbox hg_))
            have H1 := Aside0.mk (H.out.step HB1.out)
            have K1 := Aside0.mk (KeepBut.of_below HB1.out p none)
            have Ng1 : Aside0 (p ≠ g1 ∧ w.heap.size ≤ g1) := ⟨by have l0 := H.out.lt; rw [HG1.out]; omega⟩
            go_upto_region 3 with (((with_reducible refine gate_dst (N := 3) rfl ?_); refine box_event ?hg (N := 3) ?hd (cs := #[.int .i64 0, .string ⟨#[]⟩, .int .i64 0]) (t := 60) ?hr ?_; (case hd => rfl); (case hg => rfl); (case hr => first | (go_simp; done) | (go_simp; rfl)); intro g2 hg_ w2 hbox hb; have HB2 := Aside0.mk hb; have BK2 := Aside0.mk hbox; have HG2 := Aside0.mk hg_; clear hb hbox hg_))
            have H2 := Aside0.mk (H1.out.step HB2.out)
            have K2 := Aside0.mk (K1.out.trans (KeepBut.of_below HB2.out p none) (.inl rfl))
            have Bg1_2 := Aside0.mk (blk_below BK1.out HB2.out)
            have Ng2 : Aside0 (p ≠ g2 ∧ w.heap.size ≤ g2 ∧ g1 ≠ g2) := ⟨by have l0 := H1.out.lt; have l_g1 := blk_lt BK1.out; have lk := K1.out.1; rw [HG2.out]; omega⟩
            go_wp2_with fail
            refine (pword_call w0 _ p (ts) (⟨#[97, 100, 100]⟩ : ByteArray) H2.out).mono ?_
            rintro e w3 ⟨rfl, h1, h2⟩
            rw [HW0.out]
            rw [pWordT_f HW0.out] at h1
            have H3 := Aside0.mk h1
            have Bg1_3 : Aside0 (w3.heap[g1]? = _) := ⟨h2.blk Bg1_2.out Ng1.out.1.symm (by simp)⟩
            have Bg2_3 : Aside0 (w3.heap[g2]? = _) := ⟨h2.blk BK2.out Ng2.out.1.symm (by simp)⟩
            have K3 := Aside0.mk (K2.out.trans h2 (.inl rfl))
            clear h1 h2
            go_wp2_with fail
            refine (pword_call w0 _ p (ts) (⟨#[100, 114, 111, 112]⟩ : ByteArray) H3.out).mono ?_
            rintro e w4 ⟨rfl, h1, h2⟩
            rw [HW1.out]
            rw [pWordT_f HW1.out] at h1
            have H4 := Aside0.mk h1
            have Bg1_4 : Aside0 (w4.heap[g1]? = _) := ⟨h2.blk Bg1_3.out Ng1.out.1.symm (by simp)⟩
            have Bg2_4 : Aside0 (w4.heap[g2]? = _) := ⟨h2.blk Bg2_3.out Ng2.out.1.symm (by simp)⟩
            have K4 := Aside0.mk (K3.out.trans h2 (.inl rfl))
            clear h1 h2
            go_wp2_with fail
            refine (pword_call w0 _ p (ts) (⟨#[112, 117, 116]⟩ : ByteArray) H4.out).mono ?_
            rintro e w5 ⟨rfl, h1, h2⟩
            rw [HW2.out]
            rw [pWordT_f HW2.out] at h1
            have H5 := Aside0.mk h1
            have Bg1_5 : Aside0 (w5.heap[g1]? = _) := ⟨h2.blk Bg1_4.out Ng1.out.1.symm (by simp)⟩
            have Bg2_5 : Aside0 (w5.heap[g2]? = _) := ⟨h2.blk Bg2_4.out Ng2.out.1.symm (by simp)⟩
            have K5 := Aside0.mk (K4.out.trans h2 (.inl rfl))
            clear h1 h2
            go_wp2_with fail
            refine (pword_call w0 _ p (ts) (⟨#[117, 112]⟩ : ByteArray) H5.out).mono ?_
            rintro e w6 ⟨rfl, h1, h2⟩
            rw [HW3.out]
            rw [pWordT_f HW3.out] at h1
            have H6 := Aside0.mk h1
            have Bg1_6 : Aside0 (w6.heap[g1]? = _) := ⟨h2.blk Bg1_5.out Ng1.out.1.symm (by simp)⟩
            have Bg2_6 : Aside0 (w6.heap[g2]? = _) := ⟨h2.blk Bg2_5.out Ng2.out.1.symm (by simp)⟩
            have K6 := Aside0.mk (K5.out.trans h2 (.inl rfl))
            clear h1 h2
            go_wp2_with fail
            refine (pword_call w0 _ p (ts) (⟨#[100, 111, 119, 110]⟩ : ByteArray) H6.out).mono ?_
            rintro e w7 ⟨rfl, h1, h2⟩
            rw [HW4.out]
            rw [pWordT_f HW4.out] at h1
            have H7 := Aside0.mk h1
            have Bg1_7 : Aside0 (w7.heap[g1]? = _) := ⟨h2.blk Bg1_6.out Ng1.out.1.symm (by simp)⟩
            have Bg2_7 : Aside0 (w7.heap[g2]? = _) := ⟨h2.blk Bg2_6.out Ng2.out.1.symm (by simp)⟩
            have K7 := Aside0.mk (K6.out.trans h2 (.inl rfl))
            clear h1 h2
            go_wp2_with fail
            refine (fail_call w0 _ p (ts) 2 H7.out).mono ?_
            rintro e w' ⟨rfl, rfl⟩
            refine ⟨rfl, ?_⟩
            show PPost w0 w p (pDeed ts) _ _ _
            rw [HX0.out]
            exact ⟨rfl, H7.out.2.1, K7.out⟩
end Go.Proofs.Ytmhenlilcikgmaa.X

/- The parser's rule, walked. -/
set_option linter.unusedSimpArgs false
set_option linter.unusedVariables false
namespace Go.Proofs.Ytmhenlilcikgmaa.X
open Go.RowKit Go.Proofs.YtmhenlilcikgmaaW.PrintWords Go.Proofs.YtmhenlilcikgmaaW.PrintLast Go.Proofs.YtmhenlilcikgmaaW.PrintMore

def bS (ts : List Tk) : Bool := pWordB (⟨#[115, 116, 114, 105, 99, 116]⟩ : ByteArray) ts
def tS (ts : List Tk) : List Tk := pWordT (⟨#[115, 116, 114, 105, 99, 116]⟩ : ByteArray) ts
def pRule1 (b : Bool) (ts : List Tk) : PR Dl := if pWordB (⟨#[114, 101, 102]⟩ : ByteArray) ts then pBind (pPair 4 ts.tail) (fun d ts => .ok ({ d with f1 := b }, ts)) else if pWordB (⟨#[98, 111, 116, 104]⟩ : ByteArray) ts then pBind (pPair 5 ts.tail) (fun d ts => .ok ({ d with f1 := b }, ts)) else if pWordB (⟨#[110, 101, 101, 100, 115]⟩ : ByteArray) ts then pBind (pPair 9 ts.tail) (fun d ts => .ok ({ d with f1 := b }, ts)) else if pWordB (⟨#[108, 105, 109, 105, 116]⟩ : ByteArray) ts then pBind (pBound 6 ts.tail) (fun d ts => .ok ({ d with f1 := b }, ts)) else if pWordB (⟨#[109, 111, 115, 116]⟩ : ByteArray) ts then pBind (pBound 7 ts.tail) (fun d ts => .ok ({ d with f1 := b }, ts)) else if pWordB (⟨#[108, 101, 97, 115, 116]⟩ : ByteArray) ts then pBind (pBound 8 ts.tail) (fun d ts => .ok ({ d with f1 := b }, ts)) else pFail 2 ts
def pRule (ts : List Tk) : PR Dl := pRule1 (bS ts) (tS ts)
theorem strict_call (w0 w : World) (p : Nat) (ts : List Tk) (h : PS w0 w p ts) :
    Calls Try.prog 24 #[.pointer (some ⟨p, 0, none⟩), .string (⟨#[115, 116, 114, 105, 99, 116]⟩ : ByteArray)] w fun e w' => e = .returned (.bool (bS ts)) ∧ PS w0 w' p (tS ts) ∧ KeepBut w w' p none := pword_call w0 w p ts _ h
set_option maxHeartbeats 8000000 in
set_option maxRecDepth 100000 in
theorem rule_call (w0 w : World) (p : Nat) (ts : List Tk) (h : PS w0 w p ts) :
    Calls Try.prog 26 #[.pointer (some ⟨p, 0, none⟩)] w fun e w' => PPost w0 w p (pRule ts) EncD0 e w' := by
  have H := Aside0.mk h
  clear h
  cases hw0 : pWordB (⟨#[114, 101, 102]⟩ : ByteArray) (tS ts) with
  | true =>
    have HW0 : Aside0 (pWordB (⟨#[114, 101, 102]⟩ : ByteArray) (tS ts) = true) := ⟨hw0⟩
    clear hw0
    have HX0 : Aside0 (pRule ts = pBind (pPair 4 (tS ts).tail) fun d ts1 => .ok ({ d with f1 := bS ts }, ts1)) := ⟨by unfold pRule pRule1; rw [HW0.out]; rfl⟩
    go_enter Try.func26, Try.ntmps26
    go_upto_region 1 with (((with_reducible refine gate_dst (N := 2) rfl ?_); refine box_event ?hg (N := 2) ?hd (cs := #[.int .i64 0, .bool false, .string ⟨#[]⟩, .string ⟨#[]⟩, .int .i64 0, .slice none 0 0, .int .i64 0]) (t := 29) ?hr ?_; (case hd => rfl); (case hg => rfl); (case hr => first | (go_simp; done) | (go_simp; rfl)); intro g1 hg_ w1 hbox hb; have HB1 := Aside0.mk hb; have BK1 := Aside0.mk hbox; have HG1 := Aside0.mk hg_; clear hb hbox hg_))
    have H1 := Aside0.mk (H.out.step HB1.out)
    have K1 := Aside0.mk (KeepBut.of_below HB1.out p none)
    have Ng1 : Aside0 (p ≠ g1 ∧ w.heap.size ≤ g1) := ⟨by have l0 := H.out.lt; rw [HG1.out]; omega⟩
    go_wp2_with fail
    refine (strict_call w0 _ p ts H1.out).mono ?_
    rintro e w2 ⟨rfl, h1, h2⟩
    have H2 := Aside0.mk h1
    have Bg1_2 : Aside0 (w2.heap[g1]? = _) := ⟨h2.blk BK1.out Ng1.out.1.symm (by simp)⟩
    have K2 := Aside0.mk (K1.out.trans h2 (.inl rfl))
    clear h1 h2
    go_upto_region 4 with (((with_reducible refine gate_dst (N := 4) rfl ?_); refine box_event ?hg (N := 4) ?hd (cs := #[.int .i64 0, .bool false, .string ⟨#[]⟩, .string ⟨#[]⟩, .int .i64 0, .slice none 0 0, .int .i64 0]) (t := 29) ?hr ?_; (case hd => rfl); (case hg => rfl); (case hr => first | (go_simp; done) | (go_simp; rfl)); intro g2 hg_ w3 hbox hb; have HB3 := Aside0.mk hb; have BK3 := Aside0.mk hbox; have HG3 := Aside0.mk hg_; clear hb hbox hg_))
    have H3 := Aside0.mk (H2.out.step HB3.out)
    have K3 := Aside0.mk (K2.out.trans (KeepBut.of_below HB3.out p none) (.inl rfl))
    have Bg1_3 := Aside0.mk (blk_below Bg1_2.out HB3.out)
    have Ng2 : Aside0 (p ≠ g2 ∧ w.heap.size ≤ g2 ∧ g1 ≠ g2) := ⟨by have l0 := H2.out.lt; have l_g1 := blk_lt Bg1_2.out; have lk := K2.out.1; rw [HG3.out]; omega⟩
    go_wp2_with fail
    refine (pword_call w0 _ p ((tS ts)) (⟨#[114, 101, 102]⟩ : ByteArray) H3.out).mono ?_
    rintro e w4 ⟨rfl, h1, h2⟩
    rw [HW0.out]
    rw [pWordT_t HW0.out] at h1
    have H4 := Aside0.mk h1
    have Bg1_4 : Aside0 (w4.heap[g1]? = _) := ⟨h2.blk Bg1_3.out Ng1.out.1.symm (by simp)⟩
    have Bg2_4 : Aside0 (w4.heap[g2]? = _) := ⟨h2.blk BK3.out Ng2.out.1.symm (by simp)⟩
    have K4 := Aside0.mk (K3.out.trans h2 (.inl rfl))
    clear h1 h2
    go_wp2_with fail
    refine (pair_call w0 _ p (((tS ts)).tail) 4 H4.out).mono ?_
    rintro e w5 hq
    cases hx5 : pPair 4 (tS ts).tail with
    | error x =>
      rw [hx5] at hq
      obtain ⟨rfl, h1, h2⟩ := hq
      have HX' : Aside0 (pRule ts = .error x) := ⟨by rw [HX0.out, hx5]; rfl⟩
      refine ⟨rfl, ?_⟩
      show PPost w0 w p (pRule ts) _ _ _
      rw [HX'.out]
      exact ⟨rfl, h1, K4.out.trans h2 (.inl rfl)⟩
    | ok x =>
      obtain ⟨d, ts1⟩ := x
      rw [hx5] at hq
      obtain ⟨v, rfl, ⟨hd5, hv⟩, h1, h2⟩ := hq
      have HX5 : Aside0 (pRule ts = .ok ({ d with f1 := bS ts }, ts1)) := ⟨by rw [HX0.out, hx5]; rfl⟩
      clear hx5
      replace hv : v = .agg #[.int .i64 d.f0, .bool d.f1, .string d.f2, .string d.f3, .int .i64 d.f4, .slice none 0 0, .int .i64 d.f6] := hv
      subst hv
      have HD5 := Aside0.mk hd5
      clear hd5
      have H5 := Aside0.mk h1
      have Bg1_5 : Aside0 (w5.heap[g1]? = _) := ⟨h2.blk Bg1_4.out Ng1.out.1.symm (by simp)⟩
      have Bg2_5 : Aside0 (w5.heap[g2]? = _) := ⟨h2.blk Bg2_4.out Ng2.out.1.symm (by simp)⟩
      have K5 := Aside0.mk (K4.out.trans h2 (.inl rfl))
      clear h1 h2
      have hc0 : w5.cell? ⟨g2, 0, none⟩ = some (.int .i64 0) := (blk_cell Bg2_5.out 0).trans rfl
      have fhc0 := blk_frozen Bg2_5.out 0
      have hc1 : w5.cell? ⟨g2, 1, none⟩ = some (.bool false) := (blk_cell Bg2_5.out 1).trans rfl
      have fhc1 := blk_frozen Bg2_5.out 1
      have hc2 : w5.cell? ⟨g2, 2, none⟩ = some (.string ⟨#[]⟩) := (blk_cell Bg2_5.out 2).trans rfl
      have fhc2 := blk_frozen Bg2_5.out 2
      have hc3 : w5.cell? ⟨g2, 3, none⟩ = some (.string ⟨#[]⟩) := (blk_cell Bg2_5.out 3).trans rfl
      have fhc3 := blk_frozen Bg2_5.out 3
      have hc4 : w5.cell? ⟨g2, 4, none⟩ = some (.int .i64 0) := (blk_cell Bg2_5.out 4).trans rfl
      have fhc4 := blk_frozen Bg2_5.out 4
      have hc5 : w5.cell? ⟨g2, 5, none⟩ = some (.slice none 0 0) := (blk_cell Bg2_5.out 5).trans rfl
      have fhc5 := blk_frozen Bg2_5.out 5
      have hc6 : w5.cell? ⟨g2, 6, none⟩ = some (.int .i64 0) := (blk_cell Bg2_5.out 6).trans rfl
      have fhc6 := blk_frozen Bg2_5.out 6
      go_upto_region 16 with (fail)
      have HO6 := Aside0.mk (onto7_ w5 g2 (.int .i64 d.f0) (.bool d.f1) (.string d.f2) (.string d.f3) (.int .i64 d.f4) (.slice none 0 0) (.int .i64 d.f6))
      have C6 := Aside0.mk (put7_ (b0 := .int .i64 d.f0) (b1 := .bool d.f1) (b2 := .string d.f2) (b3 := .string d.f3) (b4 := .int .i64 d.f4) (b5 := .slice none 0 0) (b6 := .int .i64 d.f6) Bg2_5.out)
      clear hc0 hc1 hc2 hc3 hc4 hc5 hc6 fhc0 fhc1 fhc2 fhc3 fhc4 fhc5 fhc6
      have H6 := Aside0.mk (H5.out.onto HO6.out (Nat.le_trans H.out.size Ng2.out.2.1) Ng2.out.1)
      have K6 := Aside0.mk (HO6.out.keep K5.out (.inl Ng2.out.2.1))
      have Bg1_6 := Aside0.mk (HO6.out.blk Bg1_5.out Ng2.out.2.2)
      generalize (((((((w5.setCell ⟨g2, 0, none⟩ (.int .i64 d.f0)).setCell ⟨g2, 1, none⟩ (.bool d.f1)).setCell ⟨g2, 2, none⟩ (.string d.f2)).setCell ⟨g2, 3, none⟩ (.string d.f3)).setCell ⟨g2, 4, none⟩ (.int .i64 d.f4)).setCell ⟨g2, 5, none⟩ (.slice none 0 0)).setCell ⟨g2, 6, none⟩ (.int .i64 d.f6)) = w6 at *
      have hc0 : w6.cell? ⟨g2, 0, none⟩ = some (.int .i64 d.f0) := (blk_cell C6.out 0).trans rfl
      have fhc0 := blk_frozen C6.out 0
      have hc1 : w6.cell? ⟨g2, 1, none⟩ = some (.bool d.f1) := (blk_cell C6.out 1).trans rfl
      have fhc1 := blk_frozen C6.out 1
      have hc2 : w6.cell? ⟨g2, 2, none⟩ = some (.string d.f2) := (blk_cell C6.out 2).trans rfl
      have fhc2 := blk_frozen C6.out 2
      have hc3 : w6.cell? ⟨g2, 3, none⟩ = some (.string d.f3) := (blk_cell C6.out 3).trans rfl
      have fhc3 := blk_frozen C6.out 3
      have hc4 : w6.cell? ⟨g2, 4, none⟩ = some (.int .i64 d.f4) := (blk_cell C6.out 4).trans rfl
      have fhc4 := blk_frozen C6.out 4
      have hc5 : w6.cell? ⟨g2, 5, none⟩ = some (.slice none 0 0) := (blk_cell C6.out 5).trans rfl
      have fhc5 := blk_frozen C6.out 5
      have hc6 : w6.cell? ⟨g2, 6, none⟩ = some (.int .i64 d.f6) := (blk_cell C6.out 6).trans rfl
      have fhc6 := blk_frozen C6.out 6
      go_upto_region 17 with (fail)
      have HO7 := Aside0.mk ((Onto.refl w6 g2).set 1 (.bool (bS ts)))
      have C7 : Aside0 ((w6.setCell ⟨g2, 1, none⟩ (.bool (bS ts))).heap[g2]? = some (.cells #[.int .i64 d.f0, .bool (bS ts), .string d.f2, .string d.f3, .int .i64 d.f4, .slice none 0 0, .int .i64 d.f6] 29 (0, 0))) := ⟨blk_put C6.out 1 _ rfl⟩
      clear hc0 hc1 hc2 hc3 hc4 hc5 hc6 fhc0 fhc1 fhc2 fhc3 fhc4 fhc5 fhc6
      have H7 := Aside0.mk (H6.out.onto HO7.out (Nat.le_trans H.out.size Ng2.out.2.1) Ng2.out.1)
      have K7 := Aside0.mk (HO7.out.keep K6.out (.inl Ng2.out.2.1))
      have Bg1_7 := Aside0.mk (HO7.out.blk Bg1_6.out Ng2.out.2.2)
      generalize (w6.setCell ⟨g2, 1, none⟩ (.bool (bS ts))) = w7 at *
      have hy0 : w7.cell? ⟨g2, 0, none⟩ = some (.int .i64 d.f0) := (blk_cell C7.out 0).trans rfl
      have hy1 : w7.cell? ⟨g2, 1, none⟩ = some (.bool (bS ts)) := (blk_cell C7.out 1).trans rfl
      have hy2 : w7.cell? ⟨g2, 2, none⟩ = some (.string d.f2) := (blk_cell C7.out 2).trans rfl
      have hy3 : w7.cell? ⟨g2, 3, none⟩ = some (.string d.f3) := (blk_cell C7.out 3).trans rfl
      have hy4 : w7.cell? ⟨g2, 4, none⟩ = some (.int .i64 d.f4) := (blk_cell C7.out 4).trans rfl
      have hy5 : w7.cell? ⟨g2, 5, none⟩ = some (.slice none 0 0) := (blk_cell C7.out 5).trans rfl
      have hy6 : w7.cell? ⟨g2, 6, none⟩ = some (.int .i64 d.f6) := (blk_cell C7.out 6).trans rfl
      have hc0 : w7.cell? ⟨g1, 0, none⟩ = some (.int .i64 0) := (blk_cell Bg1_7.out 0).trans rfl
      have fhc0 := blk_frozen Bg1_7.out 0
      have hc1 : w7.cell? ⟨g1, 1, none⟩ = some (.bool false) := (blk_cell Bg1_7.out 1).trans rfl
      have fhc1 := blk_frozen Bg1_7.out 1
      have hc2 : w7.cell? ⟨g1, 2, none⟩ = some (.string ⟨#[]⟩) := (blk_cell Bg1_7.out 2).trans rfl
      have fhc2 := blk_frozen Bg1_7.out 2
      have hc3 : w7.cell? ⟨g1, 3, none⟩ = some (.string ⟨#[]⟩) := (blk_cell Bg1_7.out 3).trans rfl
      have fhc3 := blk_frozen Bg1_7.out 3
      have hc4 : w7.cell? ⟨g1, 4, none⟩ = some (.int .i64 0) := (blk_cell Bg1_7.out 4).trans rfl
      have fhc4 := blk_frozen Bg1_7.out 4
      have hc5 : w7.cell? ⟨g1, 5, none⟩ = some (.slice none 0 0) := (blk_cell Bg1_7.out 5).trans rfl
      have fhc5 := blk_frozen Bg1_7.out 5
      have hc6 : w7.cell? ⟨g1, 6, none⟩ = some (.int .i64 0) := (blk_cell Bg1_7.out 6).trans rfl
      have fhc6 := blk_frozen Bg1_7.out 6
      go_wp2_with fail
      have HO8 := Aside0.mk (onto7_ w7 g1 (.int .i64 d.f0) (.bool (bS ts)) (.string d.f2) (.string d.f3) (.int .i64 d.f4) (.slice none 0 0) (.int .i64 d.f6))
      have C8 := Aside0.mk (put7_ (b0 := .int .i64 d.f0) (b1 := .bool (bS ts)) (b2 := .string d.f2) (b3 := .string d.f3) (b4 := .int .i64 d.f4) (b5 := .slice none 0 0) (b6 := .int .i64 d.f6) Bg1_7.out)
      clear hy0 hy1 hy2 hy3 hy4 hy5 hy6 hc0 hc1 hc2 hc3 hc4 hc5 hc6 fhc0 fhc1 fhc2 fhc3 fhc4 fhc5 fhc6
      have H8 := Aside0.mk (H7.out.onto HO8.out (Nat.le_trans H.out.size Ng1.out.2) Ng1.out.1)
      have K8 := Aside0.mk (HO8.out.keep K7.out (.inl Ng1.out.2))
      have Bg2_8 := Aside0.mk (HO8.out.blk C7.out Ng2.out.2.2.symm)
      generalize (((((((w7.setCell ⟨g1, 0, none⟩ (.int .i64 d.f0)).setCell ⟨g1, 1, none⟩ (.bool (bS ts))).setCell ⟨g1, 2, none⟩ (.string d.f2)).setCell ⟨g1, 3, none⟩ (.string d.f3)).setCell ⟨g1, 4, none⟩ (.int .i64 d.f4)).setCell ⟨g1, 5, none⟩ (.slice none 0 0)).setCell ⟨g1, 6, none⟩ (.int .i64 d.f6)) = w8 at *
      have hz0 : w8.cell? ⟨g1, 0, none⟩ = some (.int .i64 d.f0) := (blk_cell C8.out 0).trans rfl
      have hz1 : w8.cell? ⟨g1, 1, none⟩ = some (.bool (bS ts)) := (blk_cell C8.out 1).trans rfl
      have hz2 : w8.cell? ⟨g1, 2, none⟩ = some (.string d.f2) := (blk_cell C8.out 2).trans rfl
      have hz3 : w8.cell? ⟨g1, 3, none⟩ = some (.string d.f3) := (blk_cell C8.out 3).trans rfl
      have hz4 : w8.cell? ⟨g1, 4, none⟩ = some (.int .i64 d.f4) := (blk_cell C8.out 4).trans rfl
      have hz5 : w8.cell? ⟨g1, 5, none⟩ = some (.slice none 0 0) := (blk_cell C8.out 5).trans rfl
      have hz6 : w8.cell? ⟨g1, 6, none⟩ = some (.int .i64 d.f6) := (blk_cell C8.out 6).trans rfl
      refine bodyPost_ret (v := dlV { d with f1 := bS ts } (.slice none 0 0)) (by simp [results, Try.results26, go_sem, hz0, hz1, hz2, hz3, hz4, hz5, hz6, dlV, deV]) rfl ?_
      show PPost w0 w p (pRule ts) _ _ _
      rw [HX5.out]
      exact ⟨_, rfl, ⟨HD5.out, rfl⟩, H8.out, K8.out⟩
  | false =>
    cases hw1 : pWordB (⟨#[98, 111, 116, 104]⟩ : ByteArray) (tS ts) with
    | true =>
      have HW0 : Aside0 (pWordB (⟨#[114, 101, 102]⟩ : ByteArray) (tS ts) = false) := ⟨hw0⟩
      have HW1 : Aside0 (pWordB (⟨#[98, 111, 116, 104]⟩ : ByteArray) (tS ts) = true) := ⟨hw1⟩
      clear hw0 hw1
      have HX0 : Aside0 (pRule ts = pBind (pPair 5 (tS ts).tail) fun d ts1 => .ok ({ d with f1 := bS ts }, ts1)) := ⟨by unfold pRule pRule1; rw [HW0.out, HW1.out]; rfl⟩
      go_enter Try.func26, Try.ntmps26
      go_upto_region 1 with (((with_reducible refine gate_dst (N := 2) rfl ?_); refine box_event ?hg (N := 2) ?hd (cs := #[.int .i64 0, .bool false, .string ⟨#[]⟩, .string ⟨#[]⟩, .int .i64 0, .slice none 0 0, .int .i64 0]) (t := 29) ?hr ?_; (case hd => rfl); (case hg => rfl); (case hr => first | (go_simp; done) | (go_simp; rfl)); intro g1 hg_ w1 hbox hb; have HB1 := Aside0.mk hb; have BK1 := Aside0.mk hbox; have HG1 := Aside0.mk hg_; clear hb hbox hg_))
      have H1 := Aside0.mk (H.out.step HB1.out)
      have K1 := Aside0.mk (KeepBut.of_below HB1.out p none)
      have Ng1 : Aside0 (p ≠ g1 ∧ w.heap.size ≤ g1) := ⟨by have l0 := H.out.lt; rw [HG1.out]; omega⟩
      go_wp2_with fail
      refine (strict_call w0 _ p ts H1.out).mono ?_
      rintro e w2 ⟨rfl, h1, h2⟩
      have H2 := Aside0.mk h1
      have Bg1_2 : Aside0 (w2.heap[g1]? = _) := ⟨h2.blk BK1.out Ng1.out.1.symm (by simp)⟩
      have K2 := Aside0.mk (K1.out.trans h2 (.inl rfl))
      clear h1 h2
      go_upto_region 4 with (((with_reducible refine gate_dst (N := 4) rfl ?_); refine box_event ?hg (N := 4) ?hd (cs := #[.int .i64 0, .bool false, .string ⟨#[]⟩, .string ⟨#[]⟩, .int .i64 0, .slice none 0 0, .int .i64 0]) (t := 29) ?hr ?_; (case hd => rfl); (case hg => rfl); (case hr => first | (go_simp; done) | (go_simp; rfl)); intro g2 hg_ w3 hbox hb; have HB3 := Aside0.mk hb; have BK3 := Aside0.mk hbox; have HG3 := Aside0.mk hg_; clear hb hbox hg_))
      have H3 := Aside0.mk (H2.out.step HB3.out)
      have K3 := Aside0.mk (K2.out.trans (KeepBut.of_below HB3.out p none) (.inl rfl))
      have Bg1_3 := Aside0.mk (blk_below Bg1_2.out HB3.out)
      have Ng2 : Aside0 (p ≠ g2 ∧ w.heap.size ≤ g2 ∧ g1 ≠ g2) := ⟨by have l0 := H2.out.lt; have l_g1 := blk_lt Bg1_2.out; have lk := K2.out.1; rw [HG3.out]; omega⟩
      go_wp2_with fail
      refine (pword_call w0 _ p ((tS ts)) (⟨#[114, 101, 102]⟩ : ByteArray) H3.out).mono ?_
      rintro e w4 ⟨rfl, h1, h2⟩
      rw [HW0.out]
      rw [pWordT_f HW0.out] at h1
      have H4 := Aside0.mk h1
      have Bg1_4 : Aside0 (w4.heap[g1]? = _) := ⟨h2.blk Bg1_3.out Ng1.out.1.symm (by simp)⟩
      have Bg2_4 : Aside0 (w4.heap[g2]? = _) := ⟨h2.blk BK3.out Ng2.out.1.symm (by simp)⟩
      have K4 := Aside0.mk (K3.out.trans h2 (.inl rfl))
      clear h1 h2
      go_wp2_with fail
      refine (pword_call w0 _ p ((tS ts)) (⟨#[98, 111, 116, 104]⟩ : ByteArray) H4.out).mono ?_
      rintro e w5 ⟨rfl, h1, h2⟩
      rw [HW1.out]
      rw [pWordT_t HW1.out] at h1
      have H5 := Aside0.mk h1
      have Bg1_5 : Aside0 (w5.heap[g1]? = _) := ⟨h2.blk Bg1_4.out Ng1.out.1.symm (by simp)⟩
      have Bg2_5 : Aside0 (w5.heap[g2]? = _) := ⟨h2.blk Bg2_4.out Ng2.out.1.symm (by simp)⟩
      have K5 := Aside0.mk (K4.out.trans h2 (.inl rfl))
      clear h1 h2
      go_wp2_with fail
      refine (pair_call w0 _ p (((tS ts)).tail) 5 H5.out).mono ?_
      rintro e w6 hq
      cases hx6 : pPair 5 (tS ts).tail with
      | error x =>
        rw [hx6] at hq
        obtain ⟨rfl, h1, h2⟩ := hq
        have HX' : Aside0 (pRule ts = .error x) := ⟨by rw [HX0.out, hx6]; rfl⟩
        refine ⟨rfl, ?_⟩
        show PPost w0 w p (pRule ts) _ _ _
        rw [HX'.out]
        exact ⟨rfl, h1, K5.out.trans h2 (.inl rfl)⟩
      | ok x =>
        obtain ⟨d, ts1⟩ := x
        rw [hx6] at hq
        obtain ⟨v, rfl, ⟨hd5, hv⟩, h1, h2⟩ := hq
        have HX6 : Aside0 (pRule ts = .ok ({ d with f1 := bS ts }, ts1)) := ⟨by rw [HX0.out, hx6]; rfl⟩
        clear hx6
        replace hv : v = .agg #[.int .i64 d.f0, .bool d.f1, .string d.f2, .string d.f3, .int .i64 d.f4, .slice none 0 0, .int .i64 d.f6] := hv
        subst hv
        have HD5 := Aside0.mk hd5
        clear hd5
        have H6 := Aside0.mk h1
        have Bg1_6 : Aside0 (w6.heap[g1]? = _) := ⟨h2.blk Bg1_5.out Ng1.out.1.symm (by simp)⟩
        have Bg2_6 : Aside0 (w6.heap[g2]? = _) := ⟨h2.blk Bg2_5.out Ng2.out.1.symm (by simp)⟩
        have K6 := Aside0.mk (K5.out.trans h2 (.inl rfl))
        clear h1 h2
        have hc0 : w6.cell? ⟨g2, 0, none⟩ = some (.int .i64 0) := (blk_cell Bg2_6.out 0).trans rfl
        have fhc0 := blk_frozen Bg2_6.out 0
        have hc1 : w6.cell? ⟨g2, 1, none⟩ = some (.bool false) := (blk_cell Bg2_6.out 1).trans rfl
        have fhc1 := blk_frozen Bg2_6.out 1
        have hc2 : w6.cell? ⟨g2, 2, none⟩ = some (.string ⟨#[]⟩) := (blk_cell Bg2_6.out 2).trans rfl
        have fhc2 := blk_frozen Bg2_6.out 2
        have hc3 : w6.cell? ⟨g2, 3, none⟩ = some (.string ⟨#[]⟩) := (blk_cell Bg2_6.out 3).trans rfl
        have fhc3 := blk_frozen Bg2_6.out 3
        have hc4 : w6.cell? ⟨g2, 4, none⟩ = some (.int .i64 0) := (blk_cell Bg2_6.out 4).trans rfl
        have fhc4 := blk_frozen Bg2_6.out 4
        have hc5 : w6.cell? ⟨g2, 5, none⟩ = some (.slice none 0 0) := (blk_cell Bg2_6.out 5).trans rfl
        have fhc5 := blk_frozen Bg2_6.out 5
        have hc6 : w6.cell? ⟨g2, 6, none⟩ = some (.int .i64 0) := (blk_cell Bg2_6.out 6).trans rfl
        have fhc6 := blk_frozen Bg2_6.out 6
        go_upto_region 16 with (fail)
        have HO7 := Aside0.mk (onto7_ w6 g2 (.int .i64 d.f0) (.bool d.f1) (.string d.f2) (.string d.f3) (.int .i64 d.f4) (.slice none 0 0) (.int .i64 d.f6))
        have C7 := Aside0.mk (put7_ (b0 := .int .i64 d.f0) (b1 := .bool d.f1) (b2 := .string d.f2) (b3 := .string d.f3) (b4 := .int .i64 d.f4) (b5 := .slice none 0 0) (b6 := .int .i64 d.f6) Bg2_6.out)
        clear hc0 hc1 hc2 hc3 hc4 hc5 hc6 fhc0 fhc1 fhc2 fhc3 fhc4 fhc5 fhc6
        have H7 := Aside0.mk (H6.out.onto HO7.out (Nat.le_trans H.out.size Ng2.out.2.1) Ng2.out.1)
        have K7 := Aside0.mk (HO7.out.keep K6.out (.inl Ng2.out.2.1))
        have Bg1_7 := Aside0.mk (HO7.out.blk Bg1_6.out Ng2.out.2.2)
        generalize (((((((w6.setCell ⟨g2, 0, none⟩ (.int .i64 d.f0)).setCell ⟨g2, 1, none⟩ (.bool d.f1)).setCell ⟨g2, 2, none⟩ (.string d.f2)).setCell ⟨g2, 3, none⟩ (.string d.f3)).setCell ⟨g2, 4, none⟩ (.int .i64 d.f4)).setCell ⟨g2, 5, none⟩ (.slice none 0 0)).setCell ⟨g2, 6, none⟩ (.int .i64 d.f6)) = w7 at *
        have hc0 : w7.cell? ⟨g2, 0, none⟩ = some (.int .i64 d.f0) := (blk_cell C7.out 0).trans rfl
        have fhc0 := blk_frozen C7.out 0
        have hc1 : w7.cell? ⟨g2, 1, none⟩ = some (.bool d.f1) := (blk_cell C7.out 1).trans rfl
        have fhc1 := blk_frozen C7.out 1
        have hc2 : w7.cell? ⟨g2, 2, none⟩ = some (.string d.f2) := (blk_cell C7.out 2).trans rfl
        have fhc2 := blk_frozen C7.out 2
        have hc3 : w7.cell? ⟨g2, 3, none⟩ = some (.string d.f3) := (blk_cell C7.out 3).trans rfl
        have fhc3 := blk_frozen C7.out 3
        have hc4 : w7.cell? ⟨g2, 4, none⟩ = some (.int .i64 d.f4) := (blk_cell C7.out 4).trans rfl
        have fhc4 := blk_frozen C7.out 4
        have hc5 : w7.cell? ⟨g2, 5, none⟩ = some (.slice none 0 0) := (blk_cell C7.out 5).trans rfl
        have fhc5 := blk_frozen C7.out 5
        have hc6 : w7.cell? ⟨g2, 6, none⟩ = some (.int .i64 d.f6) := (blk_cell C7.out 6).trans rfl
        have fhc6 := blk_frozen C7.out 6
        go_upto_region 17 with (fail)
        have HO8 := Aside0.mk ((Onto.refl w7 g2).set 1 (.bool (bS ts)))
        have C8 : Aside0 ((w7.setCell ⟨g2, 1, none⟩ (.bool (bS ts))).heap[g2]? = some (.cells #[.int .i64 d.f0, .bool (bS ts), .string d.f2, .string d.f3, .int .i64 d.f4, .slice none 0 0, .int .i64 d.f6] 29 (0, 0))) := ⟨blk_put C7.out 1 _ rfl⟩
        clear hc0 hc1 hc2 hc3 hc4 hc5 hc6 fhc0 fhc1 fhc2 fhc3 fhc4 fhc5 fhc6
        have H8 := Aside0.mk (H7.out.onto HO8.out (Nat.le_trans H.out.size Ng2.out.2.1) Ng2.out.1)
        have K8 := Aside0.mk (HO8.out.keep K7.out (.inl Ng2.out.2.1))
        have Bg1_8 := Aside0.mk (HO8.out.blk Bg1_7.out Ng2.out.2.2)
        generalize (w7.setCell ⟨g2, 1, none⟩ (.bool (bS ts))) = w8 at *
        have hy0 : w8.cell? ⟨g2, 0, none⟩ = some (.int .i64 d.f0) := (blk_cell C8.out 0).trans rfl
        have hy1 : w8.cell? ⟨g2, 1, none⟩ = some (.bool (bS ts)) := (blk_cell C8.out 1).trans rfl
        have hy2 : w8.cell? ⟨g2, 2, none⟩ = some (.string d.f2) := (blk_cell C8.out 2).trans rfl
        have hy3 : w8.cell? ⟨g2, 3, none⟩ = some (.string d.f3) := (blk_cell C8.out 3).trans rfl
        have hy4 : w8.cell? ⟨g2, 4, none⟩ = some (.int .i64 d.f4) := (blk_cell C8.out 4).trans rfl
        have hy5 : w8.cell? ⟨g2, 5, none⟩ = some (.slice none 0 0) := (blk_cell C8.out 5).trans rfl
        have hy6 : w8.cell? ⟨g2, 6, none⟩ = some (.int .i64 d.f6) := (blk_cell C8.out 6).trans rfl
        have hc0 : w8.cell? ⟨g1, 0, none⟩ = some (.int .i64 0) := (blk_cell Bg1_8.out 0).trans rfl
        have fhc0 := blk_frozen Bg1_8.out 0
        have hc1 : w8.cell? ⟨g1, 1, none⟩ = some (.bool false) := (blk_cell Bg1_8.out 1).trans rfl
        have fhc1 := blk_frozen Bg1_8.out 1
        have hc2 : w8.cell? ⟨g1, 2, none⟩ = some (.string ⟨#[]⟩) := (blk_cell Bg1_8.out 2).trans rfl
        have fhc2 := blk_frozen Bg1_8.out 2
        have hc3 : w8.cell? ⟨g1, 3, none⟩ = some (.string ⟨#[]⟩) := (blk_cell Bg1_8.out 3).trans rfl
        have fhc3 := blk_frozen Bg1_8.out 3
        have hc4 : w8.cell? ⟨g1, 4, none⟩ = some (.int .i64 0) := (blk_cell Bg1_8.out 4).trans rfl
        have fhc4 := blk_frozen Bg1_8.out 4
        have hc5 : w8.cell? ⟨g1, 5, none⟩ = some (.slice none 0 0) := (blk_cell Bg1_8.out 5).trans rfl
        have fhc5 := blk_frozen Bg1_8.out 5
        have hc6 : w8.cell? ⟨g1, 6, none⟩ = some (.int .i64 0) := (blk_cell Bg1_8.out 6).trans rfl
        have fhc6 := blk_frozen Bg1_8.out 6
        go_wp2_with fail
        have HO9 := Aside0.mk (onto7_ w8 g1 (.int .i64 d.f0) (.bool (bS ts)) (.string d.f2) (.string d.f3) (.int .i64 d.f4) (.slice none 0 0) (.int .i64 d.f6))
        have C9 := Aside0.mk (put7_ (b0 := .int .i64 d.f0) (b1 := .bool (bS ts)) (b2 := .string d.f2) (b3 := .string d.f3) (b4 := .int .i64 d.f4) (b5 := .slice none 0 0) (b6 := .int .i64 d.f6) Bg1_8.out)
        clear hy0 hy1 hy2 hy3 hy4 hy5 hy6 hc0 hc1 hc2 hc3 hc4 hc5 hc6 fhc0 fhc1 fhc2 fhc3 fhc4 fhc5 fhc6
        have H9 := Aside0.mk (H8.out.onto HO9.out (Nat.le_trans H.out.size Ng1.out.2) Ng1.out.1)
        have K9 := Aside0.mk (HO9.out.keep K8.out (.inl Ng1.out.2))
        have Bg2_9 := Aside0.mk (HO9.out.blk C8.out Ng2.out.2.2.symm)
        generalize (((((((w8.setCell ⟨g1, 0, none⟩ (.int .i64 d.f0)).setCell ⟨g1, 1, none⟩ (.bool (bS ts))).setCell ⟨g1, 2, none⟩ (.string d.f2)).setCell ⟨g1, 3, none⟩ (.string d.f3)).setCell ⟨g1, 4, none⟩ (.int .i64 d.f4)).setCell ⟨g1, 5, none⟩ (.slice none 0 0)).setCell ⟨g1, 6, none⟩ (.int .i64 d.f6)) = w9 at *
        have hz0 : w9.cell? ⟨g1, 0, none⟩ = some (.int .i64 d.f0) := (blk_cell C9.out 0).trans rfl
        have hz1 : w9.cell? ⟨g1, 1, none⟩ = some (.bool (bS ts)) := (blk_cell C9.out 1).trans rfl
        have hz2 : w9.cell? ⟨g1, 2, none⟩ = some (.string d.f2) := (blk_cell C9.out 2).trans rfl
        have hz3 : w9.cell? ⟨g1, 3, none⟩ = some (.string d.f3) := (blk_cell C9.out 3).trans rfl
        have hz4 : w9.cell? ⟨g1, 4, none⟩ = some (.int .i64 d.f4) := (blk_cell C9.out 4).trans rfl
        have hz5 : w9.cell? ⟨g1, 5, none⟩ = some (.slice none 0 0) := (blk_cell C9.out 5).trans rfl
        have hz6 : w9.cell? ⟨g1, 6, none⟩ = some (.int .i64 d.f6) := (blk_cell C9.out 6).trans rfl
        refine bodyPost_ret (v := dlV { d with f1 := bS ts } (.slice none 0 0)) (by simp [results, Try.results26, go_sem, hz0, hz1, hz2, hz3, hz4, hz5, hz6, dlV, deV]) rfl ?_
        show PPost w0 w p (pRule ts) _ _ _
        rw [HX6.out]
        exact ⟨_, rfl, ⟨HD5.out, rfl⟩, H9.out, K9.out⟩
    | false =>
      cases hw2 : pWordB (⟨#[110, 101, 101, 100, 115]⟩ : ByteArray) (tS ts) with
      | true =>
        have HW0 : Aside0 (pWordB (⟨#[114, 101, 102]⟩ : ByteArray) (tS ts) = false) := ⟨hw0⟩
        have HW1 : Aside0 (pWordB (⟨#[98, 111, 116, 104]⟩ : ByteArray) (tS ts) = false) := ⟨hw1⟩
        have HW2 : Aside0 (pWordB (⟨#[110, 101, 101, 100, 115]⟩ : ByteArray) (tS ts) = true) := ⟨hw2⟩
        clear hw0 hw1 hw2
        have HX0 : Aside0 (pRule ts = pBind (pPair 9 (tS ts).tail) fun d ts1 => .ok ({ d with f1 := bS ts }, ts1)) := ⟨by unfold pRule pRule1; rw [HW0.out, HW1.out, HW2.out]; rfl⟩
        go_enter Try.func26, Try.ntmps26
        go_upto_region 1 with (((with_reducible refine gate_dst (N := 2) rfl ?_); refine box_event ?hg (N := 2) ?hd (cs := #[.int .i64 0, .bool false, .string ⟨#[]⟩, .string ⟨#[]⟩, .int .i64 0, .slice none 0 0, .int .i64 0]) (t := 29) ?hr ?_; (case hd => rfl); (case hg => rfl); (case hr => first | (go_simp; done) | (go_simp; rfl)); intro g1 hg_ w1 hbox hb; have HB1 := Aside0.mk hb; have BK1 := Aside0.mk hbox; have HG1 := Aside0.mk hg_; clear hb hbox hg_))
        have H1 := Aside0.mk (H.out.step HB1.out)
        have K1 := Aside0.mk (KeepBut.of_below HB1.out p none)
        have Ng1 : Aside0 (p ≠ g1 ∧ w.heap.size ≤ g1) := ⟨by have l0 := H.out.lt; rw [HG1.out]; omega⟩
        go_wp2_with fail
        refine (strict_call w0 _ p ts H1.out).mono ?_
        rintro e w2 ⟨rfl, h1, h2⟩
        have H2 := Aside0.mk h1
        have Bg1_2 : Aside0 (w2.heap[g1]? = _) := ⟨h2.blk BK1.out Ng1.out.1.symm (by simp)⟩
        have K2 := Aside0.mk (K1.out.trans h2 (.inl rfl))
        clear h1 h2
        go_upto_region 4 with (((with_reducible refine gate_dst (N := 4) rfl ?_); refine box_event ?hg (N := 4) ?hd (cs := #[.int .i64 0, .bool false, .string ⟨#[]⟩, .string ⟨#[]⟩, .int .i64 0, .slice none 0 0, .int .i64 0]) (t := 29) ?hr ?_; (case hd => rfl); (case hg => rfl); (case hr => first | (go_simp; done) | (go_simp; rfl)); intro g2 hg_ w3 hbox hb; have HB3 := Aside0.mk hb; have BK3 := Aside0.mk hbox; have HG3 := Aside0.mk hg_; clear hb hbox hg_))
        have H3 := Aside0.mk (H2.out.step HB3.out)
        have K3 := Aside0.mk (K2.out.trans (KeepBut.of_below HB3.out p none) (.inl rfl))
        have Bg1_3 := Aside0.mk (blk_below Bg1_2.out HB3.out)
        have Ng2 : Aside0 (p ≠ g2 ∧ w.heap.size ≤ g2 ∧ g1 ≠ g2) := ⟨by have l0 := H2.out.lt; have l_g1 := blk_lt Bg1_2.out; have lk := K2.out.1; rw [HG3.out]; omega⟩
        go_wp2_with fail
        refine (pword_call w0 _ p ((tS ts)) (⟨#[114, 101, 102]⟩ : ByteArray) H3.out).mono ?_
        rintro e w4 ⟨rfl, h1, h2⟩
        rw [HW0.out]
        rw [pWordT_f HW0.out] at h1
        have H4 := Aside0.mk h1
        have Bg1_4 : Aside0 (w4.heap[g1]? = _) := ⟨h2.blk Bg1_3.out Ng1.out.1.symm (by simp)⟩
        have Bg2_4 : Aside0 (w4.heap[g2]? = _) := ⟨h2.blk BK3.out Ng2.out.1.symm (by simp)⟩
        have K4 := Aside0.mk (K3.out.trans h2 (.inl rfl))
        clear h1 h2
        go_wp2_with fail
        refine (pword_call w0 _ p ((tS ts)) (⟨#[98, 111, 116, 104]⟩ : ByteArray) H4.out).mono ?_
        rintro e w5 ⟨rfl, h1, h2⟩
        rw [HW1.out]
        rw [pWordT_f HW1.out] at h1
        have H5 := Aside0.mk h1
        have Bg1_5 : Aside0 (w5.heap[g1]? = _) := ⟨h2.blk Bg1_4.out Ng1.out.1.symm (by simp)⟩
        have Bg2_5 : Aside0 (w5.heap[g2]? = _) := ⟨h2.blk Bg2_4.out Ng2.out.1.symm (by simp)⟩
        have K5 := Aside0.mk (K4.out.trans h2 (.inl rfl))
        clear h1 h2
        go_wp2_with fail
        refine (pword_call w0 _ p ((tS ts)) (⟨#[110, 101, 101, 100, 115]⟩ : ByteArray) H5.out).mono ?_
        rintro e w6 ⟨rfl, h1, h2⟩
        rw [HW2.out]
        rw [pWordT_t HW2.out] at h1
        have H6 := Aside0.mk h1
        have Bg1_6 : Aside0 (w6.heap[g1]? = _) := ⟨h2.blk Bg1_5.out Ng1.out.1.symm (by simp)⟩
        have Bg2_6 : Aside0 (w6.heap[g2]? = _) := ⟨h2.blk Bg2_5.out Ng2.out.1.symm (by simp)⟩
        have K6 := Aside0.mk (K5.out.trans h2 (.inl rfl))
        clear h1 h2
        go_wp2_with fail
        refine (pair_call w0 _ p (((tS ts)).tail) 9 H6.out).mono ?_
        rintro e w7 hq
        cases hx7 : pPair 9 (tS ts).tail with
        | error x =>
          rw [hx7] at hq
          obtain ⟨rfl, h1, h2⟩ := hq
          have HX' : Aside0 (pRule ts = .error x) := ⟨by rw [HX0.out, hx7]; rfl⟩
          refine ⟨rfl, ?_⟩
          show PPost w0 w p (pRule ts) _ _ _
          rw [HX'.out]
          exact ⟨rfl, h1, K6.out.trans h2 (.inl rfl)⟩
        | ok x =>
          obtain ⟨d, ts1⟩ := x
          rw [hx7] at hq
          obtain ⟨v, rfl, ⟨hd5, hv⟩, h1, h2⟩ := hq
          have HX7 : Aside0 (pRule ts = .ok ({ d with f1 := bS ts }, ts1)) := ⟨by rw [HX0.out, hx7]; rfl⟩
          clear hx7
          replace hv : v = .agg #[.int .i64 d.f0, .bool d.f1, .string d.f2, .string d.f3, .int .i64 d.f4, .slice none 0 0, .int .i64 d.f6] := hv
          subst hv
          have HD5 := Aside0.mk hd5
          clear hd5
          have H7 := Aside0.mk h1
          have Bg1_7 : Aside0 (w7.heap[g1]? = _) := ⟨h2.blk Bg1_6.out Ng1.out.1.symm (by simp)⟩
          have Bg2_7 : Aside0 (w7.heap[g2]? = _) := ⟨h2.blk Bg2_6.out Ng2.out.1.symm (by simp)⟩
          have K7 := Aside0.mk (K6.out.trans h2 (.inl rfl))
          clear h1 h2
          have hc0 : w7.cell? ⟨g2, 0, none⟩ = some (.int .i64 0) := (blk_cell Bg2_7.out 0).trans rfl
          have fhc0 := blk_frozen Bg2_7.out 0
          have hc1 : w7.cell? ⟨g2, 1, none⟩ = some (.bool false) := (blk_cell Bg2_7.out 1).trans rfl
          have fhc1 := blk_frozen Bg2_7.out 1
          have hc2 : w7.cell? ⟨g2, 2, none⟩ = some (.string ⟨#[]⟩) := (blk_cell Bg2_7.out 2).trans rfl
          have fhc2 := blk_frozen Bg2_7.out 2
          have hc3 : w7.cell? ⟨g2, 3, none⟩ = some (.string ⟨#[]⟩) := (blk_cell Bg2_7.out 3).trans rfl
          have fhc3 := blk_frozen Bg2_7.out 3
          have hc4 : w7.cell? ⟨g2, 4, none⟩ = some (.int .i64 0) := (blk_cell Bg2_7.out 4).trans rfl
          have fhc4 := blk_frozen Bg2_7.out 4
          have hc5 : w7.cell? ⟨g2, 5, none⟩ = some (.slice none 0 0) := (blk_cell Bg2_7.out 5).trans rfl
          have fhc5 := blk_frozen Bg2_7.out 5
          have hc6 : w7.cell? ⟨g2, 6, none⟩ = some (.int .i64 0) := (blk_cell Bg2_7.out 6).trans rfl
          have fhc6 := blk_frozen Bg2_7.out 6
          go_upto_region 16 with (fail)
          have HO8 := Aside0.mk (onto7_ w7 g2 (.int .i64 d.f0) (.bool d.f1) (.string d.f2) (.string d.f3) (.int .i64 d.f4) (.slice none 0 0) (.int .i64 d.f6))
          have C8 := Aside0.mk (put7_ (b0 := .int .i64 d.f0) (b1 := .bool d.f1) (b2 := .string d.f2) (b3 := .string d.f3) (b4 := .int .i64 d.f4) (b5 := .slice none 0 0) (b6 := .int .i64 d.f6) Bg2_7.out)
          clear hc0 hc1 hc2 hc3 hc4 hc5 hc6 fhc0 fhc1 fhc2 fhc3 fhc4 fhc5 fhc6
          have H8 := Aside0.mk (H7.out.onto HO8.out (Nat.le_trans H.out.size Ng2.out.2.1) Ng2.out.1)
          have K8 := Aside0.mk (HO8.out.keep K7.out (.inl Ng2.out.2.1))
          have Bg1_8 := Aside0.mk (HO8.out.blk Bg1_7.out Ng2.out.2.2)
          generalize (((((((w7.setCell ⟨g2, 0, none⟩ (.int .i64 d.f0)).setCell ⟨g2, 1, none⟩ (.bool d.f1)).setCell ⟨g2, 2, none⟩ (.string d.f2)).setCell ⟨g2, 3, none⟩ (.string d.f3)).setCell ⟨g2, 4, none⟩ (.int .i64 d.f4)).setCell ⟨g2, 5, none⟩ (.slice none 0 0)).setCell ⟨g2, 6, none⟩ (.int .i64 d.f6)) = w8 at *
          have hc0 : w8.cell? ⟨g2, 0, none⟩ = some (.int .i64 d.f0) := (blk_cell C8.out 0).trans rfl
          have fhc0 := blk_frozen C8.out 0
          have hc1 : w8.cell? ⟨g2, 1, none⟩ = some (.bool d.f1) := (blk_cell C8.out 1).trans rfl
          have fhc1 := blk_frozen C8.out 1
          have hc2 : w8.cell? ⟨g2, 2, none⟩ = some (.string d.f2) := (blk_cell C8.out 2).trans rfl
          have fhc2 := blk_frozen C8.out 2
          have hc3 : w8.cell? ⟨g2, 3, none⟩ = some (.string d.f3) := (blk_cell C8.out 3).trans rfl
          have fhc3 := blk_frozen C8.out 3
          have hc4 : w8.cell? ⟨g2, 4, none⟩ = some (.int .i64 d.f4) := (blk_cell C8.out 4).trans rfl
          have fhc4 := blk_frozen C8.out 4
          have hc5 : w8.cell? ⟨g2, 5, none⟩ = some (.slice none 0 0) := (blk_cell C8.out 5).trans rfl
          have fhc5 := blk_frozen C8.out 5
          have hc6 : w8.cell? ⟨g2, 6, none⟩ = some (.int .i64 d.f6) := (blk_cell C8.out 6).trans rfl
          have fhc6 := blk_frozen C8.out 6
          go_upto_region 17 with (fail)
          have HO9 := Aside0.mk ((Onto.refl w8 g2).set 1 (.bool (bS ts)))
          have C9 : Aside0 ((w8.setCell ⟨g2, 1, none⟩ (.bool (bS ts))).heap[g2]? = some (.cells #[.int .i64 d.f0, .bool (bS ts), .string d.f2, .string d.f3, .int .i64 d.f4, .slice none 0 0, .int .i64 d.f6] 29 (0, 0))) := ⟨blk_put C8.out 1 _ rfl⟩
          clear hc0 hc1 hc2 hc3 hc4 hc5 hc6 fhc0 fhc1 fhc2 fhc3 fhc4 fhc5 fhc6
          have H9 := Aside0.mk (H8.out.onto HO9.out (Nat.le_trans H.out.size Ng2.out.2.1) Ng2.out.1)
          have K9 := Aside0.mk (HO9.out.keep K8.out (.inl Ng2.out.2.1))
          have Bg1_9 := Aside0.mk (HO9.out.blk Bg1_8.out Ng2.out.2.2)
          generalize (w8.setCell ⟨g2, 1, none⟩ (.bool (bS ts))) = w9 at *
          have hy0 : w9.cell? ⟨g2, 0, none⟩ = some (.int .i64 d.f0) := (blk_cell C9.out 0).trans rfl
          have hy1 : w9.cell? ⟨g2, 1, none⟩ = some (.bool (bS ts)) := (blk_cell C9.out 1).trans rfl
          have hy2 : w9.cell? ⟨g2, 2, none⟩ = some (.string d.f2) := (blk_cell C9.out 2).trans rfl
          have hy3 : w9.cell? ⟨g2, 3, none⟩ = some (.string d.f3) := (blk_cell C9.out 3).trans rfl
          have hy4 : w9.cell? ⟨g2, 4, none⟩ = some (.int .i64 d.f4) := (blk_cell C9.out 4).trans rfl
          have hy5 : w9.cell? ⟨g2, 5, none⟩ = some (.slice none 0 0) := (blk_cell C9.out 5).trans rfl
          have hy6 : w9.cell? ⟨g2, 6, none⟩ = some (.int .i64 d.f6) := (blk_cell C9.out 6).trans rfl
          have hc0 : w9.cell? ⟨g1, 0, none⟩ = some (.int .i64 0) := (blk_cell Bg1_9.out 0).trans rfl
          have fhc0 := blk_frozen Bg1_9.out 0
          have hc1 : w9.cell? ⟨g1, 1, none⟩ = some (.bool false) := (blk_cell Bg1_9.out 1).trans rfl
          have fhc1 := blk_frozen Bg1_9.out 1
          have hc2 : w9.cell? ⟨g1, 2, none⟩ = some (.string ⟨#[]⟩) := (blk_cell Bg1_9.out 2).trans rfl
          have fhc2 := blk_frozen Bg1_9.out 2
          have hc3 : w9.cell? ⟨g1, 3, none⟩ = some (.string ⟨#[]⟩) := (blk_cell Bg1_9.out 3).trans rfl
          have fhc3 := blk_frozen Bg1_9.out 3
          have hc4 : w9.cell? ⟨g1, 4, none⟩ = some (.int .i64 0) := (blk_cell Bg1_9.out 4).trans rfl
          have fhc4 := blk_frozen Bg1_9.out 4
          have hc5 : w9.cell? ⟨g1, 5, none⟩ = some (.slice none 0 0) := (blk_cell Bg1_9.out 5).trans rfl
          have fhc5 := blk_frozen Bg1_9.out 5
          have hc6 : w9.cell? ⟨g1, 6, none⟩ = some (.int .i64 0) := (blk_cell Bg1_9.out 6).trans rfl
          have fhc6 := blk_frozen Bg1_9.out 6
          go_wp2_with fail
          have HO10 := Aside0.mk (onto7_ w9 g1 (.int .i64 d.f0) (.bool (bS ts)) (.string d.f2) (.string d.f3) (.int .i64 d.f4) (.slice none 0 0) (.int .i64 d.f6))
          have C10 := Aside0.mk (put7_ (b0 := .int .i64 d.f0) (b1 := .bool (bS ts)) (b2 := .string d.f2) (b3 := .string d.f3) (b4 := .int .i64 d.f4) (b5 := .slice none 0 0) (b6 := .int .i64 d.f6) Bg1_9.out)
          clear hy0 hy1 hy2 hy3 hy4 hy5 hy6 hc0 hc1 hc2 hc3 hc4 hc5 hc6 fhc0 fhc1 fhc2 fhc3 fhc4 fhc5 fhc6
          have H10 := Aside0.mk (H9.out.onto HO10.out (Nat.le_trans H.out.size Ng1.out.2) Ng1.out.1)
          have K10 := Aside0.mk (HO10.out.keep K9.out (.inl Ng1.out.2))
          have Bg2_10 := Aside0.mk (HO10.out.blk C9.out Ng2.out.2.2.symm)
          generalize (((((((w9.setCell ⟨g1, 0, none⟩ (.int .i64 d.f0)).setCell ⟨g1, 1, none⟩ (.bool (bS ts))).setCell ⟨g1, 2, none⟩ (.string d.f2)).setCell ⟨g1, 3, none⟩ (.string d.f3)).setCell ⟨g1, 4, none⟩ (.int .i64 d.f4)).setCell ⟨g1, 5, none⟩ (.slice none 0 0)).setCell ⟨g1, 6, none⟩ (.int .i64 d.f6)) = w10 at *
          have hz0 : w10.cell? ⟨g1, 0, none⟩ = some (.int .i64 d.f0) := (blk_cell C10.out 0).trans rfl
          have hz1 : w10.cell? ⟨g1, 1, none⟩ = some (.bool (bS ts)) := (blk_cell C10.out 1).trans rfl
          have hz2 : w10.cell? ⟨g1, 2, none⟩ = some (.string d.f2) := (blk_cell C10.out 2).trans rfl
          have hz3 : w10.cell? ⟨g1, 3, none⟩ = some (.string d.f3) := (blk_cell C10.out 3).trans rfl
          have hz4 : w10.cell? ⟨g1, 4, none⟩ = some (.int .i64 d.f4) := (blk_cell C10.out 4).trans rfl
          have hz5 : w10.cell? ⟨g1, 5, none⟩ = some (.slice none 0 0) := (blk_cell C10.out 5).trans rfl
          have hz6 : w10.cell? ⟨g1, 6, none⟩ = some (.int .i64 d.f6) := (blk_cell C10.out 6).trans rfl
          refine bodyPost_ret (v := dlV { d with f1 := bS ts } (.slice none 0 0)) (by simp [results, Try.results26, go_sem, hz0, hz1, hz2, hz3, hz4, hz5, hz6, dlV, deV]) rfl ?_
          show PPost w0 w p (pRule ts) _ _ _
          rw [HX7.out]
          exact ⟨_, rfl, ⟨HD5.out, rfl⟩, H10.out, K10.out⟩
      | false =>
        cases hw3 : pWordB (⟨#[108, 105, 109, 105, 116]⟩ : ByteArray) (tS ts) with
        | true =>
          have HW0 : Aside0 (pWordB (⟨#[114, 101, 102]⟩ : ByteArray) (tS ts) = false) := ⟨hw0⟩
          have HW1 : Aside0 (pWordB (⟨#[98, 111, 116, 104]⟩ : ByteArray) (tS ts) = false) := ⟨hw1⟩
          have HW2 : Aside0 (pWordB (⟨#[110, 101, 101, 100, 115]⟩ : ByteArray) (tS ts) = false) := ⟨hw2⟩
          have HW3 : Aside0 (pWordB (⟨#[108, 105, 109, 105, 116]⟩ : ByteArray) (tS ts) = true) := ⟨hw3⟩
          clear hw0 hw1 hw2 hw3
          have HX0 : Aside0 (pRule ts = pBind (pBound 6 (tS ts).tail) fun d ts1 => .ok ({ d with f1 := bS ts }, ts1)) := ⟨by unfold pRule pRule1; rw [HW0.out, HW1.out, HW2.out, HW3.out]; rfl⟩
          go_enter Try.func26, Try.ntmps26
          go_upto_region 1 with (((with_reducible refine gate_dst (N := 2) rfl ?_); refine box_event ?hg (N := 2) ?hd (cs := #[.int .i64 0, .bool false, .string ⟨#[]⟩, .string ⟨#[]⟩, .int .i64 0, .slice none 0 0, .int .i64 0]) (t := 29) ?hr ?_; (case hd => rfl); (case hg => rfl); (case hr => first | (go_simp; done) | (go_simp; rfl)); intro g1 hg_ w1 hbox hb; have HB1 := Aside0.mk hb; have BK1 := Aside0.mk hbox; have HG1 := Aside0.mk hg_; clear hb hbox hg_))
          have H1 := Aside0.mk (H.out.step HB1.out)
          have K1 := Aside0.mk (KeepBut.of_below HB1.out p none)
          have Ng1 : Aside0 (p ≠ g1 ∧ w.heap.size ≤ g1) := ⟨by have l0 := H.out.lt; rw [HG1.out]; omega⟩
          go_wp2_with fail
          refine (strict_call w0 _ p ts H1.out).mono ?_
          rintro e w2 ⟨rfl, h1, h2⟩
          have H2 := Aside0.mk h1
          have Bg1_2 : Aside0 (w2.heap[g1]? = _) := ⟨h2.blk BK1.out Ng1.out.1.symm (by simp)⟩
          have K2 := Aside0.mk (K1.out.trans h2 (.inl rfl))
          clear h1 h2
          go_upto_region 4 with (((with_reducible refine gate_dst (N := 4) rfl ?_); refine box_event ?hg (N := 4) ?hd (cs := #[.int .i64 0, .bool false, .string ⟨#[]⟩, .string ⟨#[]⟩, .int .i64 0, .slice none 0 0, .int .i64 0]) (t := 29) ?hr ?_; (case hd => rfl); (case hg => rfl); (case hr => first | (go_simp; done) | (go_simp; rfl)); intro g2 hg_ w3 hbox hb; have HB3 := Aside0.mk hb; have BK3 := Aside0.mk hbox; have HG3 := Aside0.mk hg_; clear hb hbox hg_))
          have H3 := Aside0.mk (H2.out.step HB3.out)
          have K3 := Aside0.mk (K2.out.trans (KeepBut.of_below HB3.out p none) (.inl rfl))
          have Bg1_3 := Aside0.mk (blk_below Bg1_2.out HB3.out)
          have Ng2 : Aside0 (p ≠ g2 ∧ w.heap.size ≤ g2 ∧ g1 ≠ g2) := ⟨by have l0 := H2.out.lt; have l_g1 := blk_lt Bg1_2.out; have lk := K2.out.1; rw [HG3.out]; omega⟩
          go_wp2_with fail
          refine (pword_call w0 _ p ((tS ts)) (⟨#[114, 101, 102]⟩ : ByteArray) H3.out).mono ?_
          rintro e w4 ⟨rfl, h1, h2⟩
          rw [HW0.out]
          rw [pWordT_f HW0.out] at h1
          have H4 := Aside0.mk h1
          have Bg1_4 : Aside0 (w4.heap[g1]? = _) := ⟨h2.blk Bg1_3.out Ng1.out.1.symm (by simp)⟩
          have Bg2_4 : Aside0 (w4.heap[g2]? = _) := ⟨h2.blk BK3.out Ng2.out.1.symm (by simp)⟩
          have K4 := Aside0.mk (K3.out.trans h2 (.inl rfl))
          clear h1 h2
          go_wp2_with fail
          refine (pword_call w0 _ p ((tS ts)) (⟨#[98, 111, 116, 104]⟩ : ByteArray) H4.out).mono ?_
          rintro e w5 ⟨rfl, h1, h2⟩
          rw [HW1.out]
          rw [pWordT_f HW1.out] at h1
          have H5 := Aside0.mk h1
          have Bg1_5 : Aside0 (w5.heap[g1]? = _) := ⟨h2.blk Bg1_4.out Ng1.out.1.symm (by simp)⟩
          have Bg2_5 : Aside0 (w5.heap[g2]? = _) := ⟨h2.blk Bg2_4.out Ng2.out.1.symm (by simp)⟩
          have K5 := Aside0.mk (K4.out.trans h2 (.inl rfl))
          clear h1 h2
          go_wp2_with fail
          refine (pword_call w0 _ p ((tS ts)) (⟨#[110, 101, 101, 100, 115]⟩ : ByteArray) H5.out).mono ?_
          rintro e w6 ⟨rfl, h1, h2⟩
          rw [HW2.out]
          rw [pWordT_f HW2.out] at h1
          have H6 := Aside0.mk h1
          have Bg1_6 : Aside0 (w6.heap[g1]? = _) := ⟨h2.blk Bg1_5.out Ng1.out.1.symm (by simp)⟩
          have Bg2_6 : Aside0 (w6.heap[g2]? = _) := ⟨h2.blk Bg2_5.out Ng2.out.1.symm (by simp)⟩
          have K6 := Aside0.mk (K5.out.trans h2 (.inl rfl))
          clear h1 h2
          go_wp2_with fail
          refine (pword_call w0 _ p ((tS ts)) (⟨#[108, 105, 109, 105, 116]⟩ : ByteArray) H6.out).mono ?_
          rintro e w7 ⟨rfl, h1, h2⟩
          rw [HW3.out]
          rw [pWordT_t HW3.out] at h1
          have H7 := Aside0.mk h1
          have Bg1_7 : Aside0 (w7.heap[g1]? = _) := ⟨h2.blk Bg1_6.out Ng1.out.1.symm (by simp)⟩
          have Bg2_7 : Aside0 (w7.heap[g2]? = _) := ⟨h2.blk Bg2_6.out Ng2.out.1.symm (by simp)⟩
          have K7 := Aside0.mk (K6.out.trans h2 (.inl rfl))
          clear h1 h2
          go_wp2_with fail
          refine (bound_call w0 _ p (((tS ts)).tail) 6 H7.out).mono ?_
          rintro e w8 hq
          cases hx8 : pBound 6 (tS ts).tail with
          | error x =>
            rw [hx8] at hq
            obtain ⟨rfl, h1, h2⟩ := hq
            have HX' : Aside0 (pRule ts = .error x) := ⟨by rw [HX0.out, hx8]; rfl⟩
            refine ⟨rfl, ?_⟩
            show PPost w0 w p (pRule ts) _ _ _
            rw [HX'.out]
            exact ⟨rfl, h1, K7.out.trans h2 (.inl rfl)⟩
          | ok x =>
            obtain ⟨d, ts1⟩ := x
            rw [hx8] at hq
            obtain ⟨v, rfl, ⟨hd5, hv⟩, h1, h2⟩ := hq
            have HX8 : Aside0 (pRule ts = .ok ({ d with f1 := bS ts }, ts1)) := ⟨by rw [HX0.out, hx8]; rfl⟩
            clear hx8
            replace hv : v = .agg #[.int .i64 d.f0, .bool d.f1, .string d.f2, .string d.f3, .int .i64 d.f4, .slice none 0 0, .int .i64 d.f6] := hv
            subst hv
            have HD5 := Aside0.mk hd5
            clear hd5
            have H8 := Aside0.mk h1
            have Bg1_8 : Aside0 (w8.heap[g1]? = _) := ⟨h2.blk Bg1_7.out Ng1.out.1.symm (by simp)⟩
            have Bg2_8 : Aside0 (w8.heap[g2]? = _) := ⟨h2.blk Bg2_7.out Ng2.out.1.symm (by simp)⟩
            have K8 := Aside0.mk (K7.out.trans h2 (.inl rfl))
            clear h1 h2
            have hc0 : w8.cell? ⟨g2, 0, none⟩ = some (.int .i64 0) := (blk_cell Bg2_8.out 0).trans rfl
            have fhc0 := blk_frozen Bg2_8.out 0
            have hc1 : w8.cell? ⟨g2, 1, none⟩ = some (.bool false) := (blk_cell Bg2_8.out 1).trans rfl
            have fhc1 := blk_frozen Bg2_8.out 1
            have hc2 : w8.cell? ⟨g2, 2, none⟩ = some (.string ⟨#[]⟩) := (blk_cell Bg2_8.out 2).trans rfl
            have fhc2 := blk_frozen Bg2_8.out 2
            have hc3 : w8.cell? ⟨g2, 3, none⟩ = some (.string ⟨#[]⟩) := (blk_cell Bg2_8.out 3).trans rfl
            have fhc3 := blk_frozen Bg2_8.out 3
            have hc4 : w8.cell? ⟨g2, 4, none⟩ = some (.int .i64 0) := (blk_cell Bg2_8.out 4).trans rfl
            have fhc4 := blk_frozen Bg2_8.out 4
            have hc5 : w8.cell? ⟨g2, 5, none⟩ = some (.slice none 0 0) := (blk_cell Bg2_8.out 5).trans rfl
            have fhc5 := blk_frozen Bg2_8.out 5
            have hc6 : w8.cell? ⟨g2, 6, none⟩ = some (.int .i64 0) := (blk_cell Bg2_8.out 6).trans rfl
            have fhc6 := blk_frozen Bg2_8.out 6
            go_upto_region 16 with (fail)
            have HO9 := Aside0.mk (onto7_ w8 g2 (.int .i64 d.f0) (.bool d.f1) (.string d.f2) (.string d.f3) (.int .i64 d.f4) (.slice none 0 0) (.int .i64 d.f6))
            have C9 := Aside0.mk (put7_ (b0 := .int .i64 d.f0) (b1 := .bool d.f1) (b2 := .string d.f2) (b3 := .string d.f3) (b4 := .int .i64 d.f4) (b5 := .slice none 0 0) (b6 := .int .i64 d.f6) Bg2_8.out)
            clear hc0 hc1 hc2 hc3 hc4 hc5 hc6 fhc0 fhc1 fhc2 fhc3 fhc4 fhc5 fhc6
            have H9 := Aside0.mk (H8.out.onto HO9.out (Nat.le_trans H.out.size Ng2.out.2.1) Ng2.out.1)
            have K9 := Aside0.mk (HO9.out.keep K8.out (.inl Ng2.out.2.1))
            have Bg1_9 := Aside0.mk (HO9.out.blk Bg1_8.out Ng2.out.2.2)
            generalize (((((((w8.setCell ⟨g2, 0, none⟩ (.int .i64 d.f0)).setCell ⟨g2, 1, none⟩ (.bool d.f1)).setCell ⟨g2, 2, none⟩ (.string d.f2)).setCell ⟨g2, 3, none⟩ (.string d.f3)).setCell ⟨g2, 4, none⟩ (.int .i64 d.f4)).setCell ⟨g2, 5, none⟩ (.slice none 0 0)).setCell ⟨g2, 6, none⟩ (.int .i64 d.f6)) = w9 at *
            have hc0 : w9.cell? ⟨g2, 0, none⟩ = some (.int .i64 d.f0) := (blk_cell C9.out 0).trans rfl
            have fhc0 := blk_frozen C9.out 0
            have hc1 : w9.cell? ⟨g2, 1, none⟩ = some (.bool d.f1) := (blk_cell C9.out 1).trans rfl
            have fhc1 := blk_frozen C9.out 1
            have hc2 : w9.cell? ⟨g2, 2, none⟩ = some (.string d.f2) := (blk_cell C9.out 2).trans rfl
            have fhc2 := blk_frozen C9.out 2
            have hc3 : w9.cell? ⟨g2, 3, none⟩ = some (.string d.f3) := (blk_cell C9.out 3).trans rfl
            have fhc3 := blk_frozen C9.out 3
            have hc4 : w9.cell? ⟨g2, 4, none⟩ = some (.int .i64 d.f4) := (blk_cell C9.out 4).trans rfl
            have fhc4 := blk_frozen C9.out 4
            have hc5 : w9.cell? ⟨g2, 5, none⟩ = some (.slice none 0 0) := (blk_cell C9.out 5).trans rfl
            have fhc5 := blk_frozen C9.out 5
            have hc6 : w9.cell? ⟨g2, 6, none⟩ = some (.int .i64 d.f6) := (blk_cell C9.out 6).trans rfl
            have fhc6 := blk_frozen C9.out 6
            go_upto_region 17 with (fail)
            have HO10 := Aside0.mk ((Onto.refl w9 g2).set 1 (.bool (bS ts)))
            have C10 : Aside0 ((w9.setCell ⟨g2, 1, none⟩ (.bool (bS ts))).heap[g2]? = some (.cells #[.int .i64 d.f0, .bool (bS ts), .string d.f2, .string d.f3, .int .i64 d.f4, .slice none 0 0, .int .i64 d.f6] 29 (0, 0))) := ⟨blk_put C9.out 1 _ rfl⟩
            clear hc0 hc1 hc2 hc3 hc4 hc5 hc6 fhc0 fhc1 fhc2 fhc3 fhc4 fhc5 fhc6
            have H10 := Aside0.mk (H9.out.onto HO10.out (Nat.le_trans H.out.size Ng2.out.2.1) Ng2.out.1)
            have K10 := Aside0.mk (HO10.out.keep K9.out (.inl Ng2.out.2.1))
            have Bg1_10 := Aside0.mk (HO10.out.blk Bg1_9.out Ng2.out.2.2)
            generalize (w9.setCell ⟨g2, 1, none⟩ (.bool (bS ts))) = w10 at *
            have hy0 : w10.cell? ⟨g2, 0, none⟩ = some (.int .i64 d.f0) := (blk_cell C10.out 0).trans rfl
            have hy1 : w10.cell? ⟨g2, 1, none⟩ = some (.bool (bS ts)) := (blk_cell C10.out 1).trans rfl
            have hy2 : w10.cell? ⟨g2, 2, none⟩ = some (.string d.f2) := (blk_cell C10.out 2).trans rfl
            have hy3 : w10.cell? ⟨g2, 3, none⟩ = some (.string d.f3) := (blk_cell C10.out 3).trans rfl
            have hy4 : w10.cell? ⟨g2, 4, none⟩ = some (.int .i64 d.f4) := (blk_cell C10.out 4).trans rfl
            have hy5 : w10.cell? ⟨g2, 5, none⟩ = some (.slice none 0 0) := (blk_cell C10.out 5).trans rfl
            have hy6 : w10.cell? ⟨g2, 6, none⟩ = some (.int .i64 d.f6) := (blk_cell C10.out 6).trans rfl
            have hc0 : w10.cell? ⟨g1, 0, none⟩ = some (.int .i64 0) := (blk_cell Bg1_10.out 0).trans rfl
            have fhc0 := blk_frozen Bg1_10.out 0
            have hc1 : w10.cell? ⟨g1, 1, none⟩ = some (.bool false) := (blk_cell Bg1_10.out 1).trans rfl
            have fhc1 := blk_frozen Bg1_10.out 1
            have hc2 : w10.cell? ⟨g1, 2, none⟩ = some (.string ⟨#[]⟩) := (blk_cell Bg1_10.out 2).trans rfl
            have fhc2 := blk_frozen Bg1_10.out 2
            have hc3 : w10.cell? ⟨g1, 3, none⟩ = some (.string ⟨#[]⟩) := (blk_cell Bg1_10.out 3).trans rfl
            have fhc3 := blk_frozen Bg1_10.out 3
            have hc4 : w10.cell? ⟨g1, 4, none⟩ = some (.int .i64 0) := (blk_cell Bg1_10.out 4).trans rfl
            have fhc4 := blk_frozen Bg1_10.out 4
            have hc5 : w10.cell? ⟨g1, 5, none⟩ = some (.slice none 0 0) := (blk_cell Bg1_10.out 5).trans rfl
            have fhc5 := blk_frozen Bg1_10.out 5
            have hc6 : w10.cell? ⟨g1, 6, none⟩ = some (.int .i64 0) := (blk_cell Bg1_10.out 6).trans rfl
            have fhc6 := blk_frozen Bg1_10.out 6
            go_wp2_with fail
            have HO11 := Aside0.mk (onto7_ w10 g1 (.int .i64 d.f0) (.bool (bS ts)) (.string d.f2) (.string d.f3) (.int .i64 d.f4) (.slice none 0 0) (.int .i64 d.f6))
            have C11 := Aside0.mk (put7_ (b0 := .int .i64 d.f0) (b1 := .bool (bS ts)) (b2 := .string d.f2) (b3 := .string d.f3) (b4 := .int .i64 d.f4) (b5 := .slice none 0 0) (b6 := .int .i64 d.f6) Bg1_10.out)
            clear hy0 hy1 hy2 hy3 hy4 hy5 hy6 hc0 hc1 hc2 hc3 hc4 hc5 hc6 fhc0 fhc1 fhc2 fhc3 fhc4 fhc5 fhc6
            have H11 := Aside0.mk (H10.out.onto HO11.out (Nat.le_trans H.out.size Ng1.out.2) Ng1.out.1)
            have K11 := Aside0.mk (HO11.out.keep K10.out (.inl Ng1.out.2))
            have Bg2_11 := Aside0.mk (HO11.out.blk C10.out Ng2.out.2.2.symm)
            generalize (((((((w10.setCell ⟨g1, 0, none⟩ (.int .i64 d.f0)).setCell ⟨g1, 1, none⟩ (.bool (bS ts))).setCell ⟨g1, 2, none⟩ (.string d.f2)).setCell ⟨g1, 3, none⟩ (.string d.f3)).setCell ⟨g1, 4, none⟩ (.int .i64 d.f4)).setCell ⟨g1, 5, none⟩ (.slice none 0 0)).setCell ⟨g1, 6, none⟩ (.int .i64 d.f6)) = w11 at *
            have hz0 : w11.cell? ⟨g1, 0, none⟩ = some (.int .i64 d.f0) := (blk_cell C11.out 0).trans rfl
            have hz1 : w11.cell? ⟨g1, 1, none⟩ = some (.bool (bS ts)) := (blk_cell C11.out 1).trans rfl
            have hz2 : w11.cell? ⟨g1, 2, none⟩ = some (.string d.f2) := (blk_cell C11.out 2).trans rfl
            have hz3 : w11.cell? ⟨g1, 3, none⟩ = some (.string d.f3) := (blk_cell C11.out 3).trans rfl
            have hz4 : w11.cell? ⟨g1, 4, none⟩ = some (.int .i64 d.f4) := (blk_cell C11.out 4).trans rfl
            have hz5 : w11.cell? ⟨g1, 5, none⟩ = some (.slice none 0 0) := (blk_cell C11.out 5).trans rfl
            have hz6 : w11.cell? ⟨g1, 6, none⟩ = some (.int .i64 d.f6) := (blk_cell C11.out 6).trans rfl
            refine bodyPost_ret (v := dlV { d with f1 := bS ts } (.slice none 0 0)) (by simp [results, Try.results26, go_sem, hz0, hz1, hz2, hz3, hz4, hz5, hz6, dlV, deV]) rfl ?_
            show PPost w0 w p (pRule ts) _ _ _
            rw [HX8.out]
            exact ⟨_, rfl, ⟨HD5.out, rfl⟩, H11.out, K11.out⟩
        | false =>
          cases hw4 : pWordB (⟨#[109, 111, 115, 116]⟩ : ByteArray) (tS ts) with
          | true =>
            have HW0 : Aside0 (pWordB (⟨#[114, 101, 102]⟩ : ByteArray) (tS ts) = false) := ⟨hw0⟩
            have HW1 : Aside0 (pWordB (⟨#[98, 111, 116, 104]⟩ : ByteArray) (tS ts) = false) := ⟨hw1⟩
            have HW2 : Aside0 (pWordB (⟨#[110, 101, 101, 100, 115]⟩ : ByteArray) (tS ts) = false) := ⟨hw2⟩
            have HW3 : Aside0 (pWordB (⟨#[108, 105, 109, 105, 116]⟩ : ByteArray) (tS ts) = false) := ⟨hw3⟩
            have HW4 : Aside0 (pWordB (⟨#[109, 111, 115, 116]⟩ : ByteArray) (tS ts) = true) := ⟨hw4⟩
            clear hw0 hw1 hw2 hw3 hw4
            have HX0 : Aside0 (pRule ts = pBind (pBound 7 (tS ts).tail) fun d ts1 => .ok ({ d with f1 := bS ts }, ts1)) := ⟨by unfold pRule pRule1; rw [HW0.out, HW1.out, HW2.out, HW3.out, HW4.out]; rfl⟩
            go_enter Try.func26, Try.ntmps26
            go_upto_region 1 with (((with_reducible refine gate_dst (N := 2) rfl ?_); refine box_event ?hg (N := 2) ?hd (cs := #[.int .i64 0, .bool false, .string ⟨#[]⟩, .string ⟨#[]⟩, .int .i64 0, .slice none 0 0, .int .i64 0]) (t := 29) ?hr ?_; (case hd => rfl); (case hg => rfl); (case hr => first | (go_simp; done) | (go_simp; rfl)); intro g1 hg_ w1 hbox hb; have HB1 := Aside0.mk hb; have BK1 := Aside0.mk hbox; have HG1 := Aside0.mk hg_; clear hb hbox hg_))
            have H1 := Aside0.mk (H.out.step HB1.out)
            have K1 := Aside0.mk (KeepBut.of_below HB1.out p none)
            have Ng1 : Aside0 (p ≠ g1 ∧ w.heap.size ≤ g1) := ⟨by have l0 := H.out.lt; rw [HG1.out]; omega⟩
            go_wp2_with fail
            refine (strict_call w0 _ p ts H1.out).mono ?_
            rintro e w2 ⟨rfl, h1, h2⟩
            have H2 := Aside0.mk h1
            have Bg1_2 : Aside0 (w2.heap[g1]? = _) := ⟨h2.blk BK1.out Ng1.out.1.symm (by simp)⟩
            have K2 := Aside0.mk (K1.out.trans h2 (.inl rfl))
            clear h1 h2
            go_upto_region 4 with (((with_reducible refine gate_dst (N := 4) rfl ?_); refine box_event ?hg (N := 4) ?hd (cs := #[.int .i64 0, .bool false, .string ⟨#[]⟩, .string ⟨#[]⟩, .int .i64 0, .slice none 0 0, .int .i64 0]) (t := 29) ?hr ?_; (case hd => rfl); (case hg => rfl); (case hr => first | (go_simp; done) | (go_simp; rfl)); intro g2 hg_ w3 hbox hb; have HB3 := Aside0.mk hb; have BK3 := Aside0.mk hbox; have HG3 := Aside0.mk hg_; clear hb hbox hg_))
            have H3 := Aside0.mk (H2.out.step HB3.out)
            have K3 := Aside0.mk (K2.out.trans (KeepBut.of_below HB3.out p none) (.inl rfl))
            have Bg1_3 := Aside0.mk (blk_below Bg1_2.out HB3.out)
            have Ng2 : Aside0 (p ≠ g2 ∧ w.heap.size ≤ g2 ∧ g1 ≠ g2) := ⟨by have l0 := H2.out.lt; have l_g1 := blk_lt Bg1_2.out; have lk := K2.out.1; rw [HG3.out]; omega⟩
            go_wp2_with fail
            refine (pword_call w0 _ p ((tS ts)) (⟨#[114, 101, 102]⟩ : ByteArray) H3.out).mono ?_
            rintro e w4 ⟨rfl, h1, h2⟩
            rw [HW0.out]
            rw [pWordT_f HW0.out] at h1
            have H4 := Aside0.mk h1
            have Bg1_4 : Aside0 (w4.heap[g1]? = _) := ⟨h2.blk Bg1_3.out Ng1.out.1.symm (by simp)⟩
            have Bg2_4 : Aside0 (w4.heap[g2]? = _) := ⟨h2.blk BK3.out Ng2.out.1.symm (by simp)⟩
            have K4 := Aside0.mk (K3.out.trans h2 (.inl rfl))
            clear h1 h2
            go_wp2_with fail
            refine (pword_call w0 _ p ((tS ts)) (⟨#[98, 111, 116, 104]⟩ : ByteArray) H4.out).mono ?_
            rintro e w5 ⟨rfl, h1, h2⟩
            rw [HW1.out]
            rw [pWordT_f HW1.out] at h1
            have H5 := Aside0.mk h1
            have Bg1_5 : Aside0 (w5.heap[g1]? = _) := ⟨h2.blk Bg1_4.out Ng1.out.1.symm (by simp)⟩
            have Bg2_5 : Aside0 (w5.heap[g2]? = _) := ⟨h2.blk Bg2_4.out Ng2.out.1.symm (by simp)⟩
            have K5 := Aside0.mk (K4.out.trans h2 (.inl rfl))
            clear h1 h2
            go_wp2_with fail
            refine (pword_call w0 _ p ((tS ts)) (⟨#[110, 101, 101, 100, 115]⟩ : ByteArray) H5.out).mono ?_
            rintro e w6 ⟨rfl, h1, h2⟩
            rw [HW2.out]
            rw [pWordT_f HW2.out] at h1
            have H6 := Aside0.mk h1
            have Bg1_6 : Aside0 (w6.heap[g1]? = _) := ⟨h2.blk Bg1_5.out Ng1.out.1.symm (by simp)⟩
            have Bg2_6 : Aside0 (w6.heap[g2]? = _) := ⟨h2.blk Bg2_5.out Ng2.out.1.symm (by simp)⟩
            have K6 := Aside0.mk (K5.out.trans h2 (.inl rfl))
            clear h1 h2
            go_wp2_with fail
            refine (pword_call w0 _ p ((tS ts)) (⟨#[108, 105, 109, 105, 116]⟩ : ByteArray) H6.out).mono ?_
            rintro e w7 ⟨rfl, h1, h2⟩
            rw [HW3.out]
            rw [pWordT_f HW3.out] at h1
            have H7 := Aside0.mk h1
            have Bg1_7 : Aside0 (w7.heap[g1]? = _) := ⟨h2.blk Bg1_6.out Ng1.out.1.symm (by simp)⟩
            have Bg2_7 : Aside0 (w7.heap[g2]? = _) := ⟨h2.blk Bg2_6.out Ng2.out.1.symm (by simp)⟩
            have K7 := Aside0.mk (K6.out.trans h2 (.inl rfl))
            clear h1 h2
            go_wp2_with fail
            refine (pword_call w0 _ p ((tS ts)) (⟨#[109, 111, 115, 116]⟩ : ByteArray) H7.out).mono ?_
            rintro e w8 ⟨rfl, h1, h2⟩
            rw [HW4.out]
            rw [pWordT_t HW4.out] at h1
            have H8 := Aside0.mk h1
            have Bg1_8 : Aside0 (w8.heap[g1]? = _) := ⟨h2.blk Bg1_7.out Ng1.out.1.symm (by simp)⟩
            have Bg2_8 : Aside0 (w8.heap[g2]? = _) := ⟨h2.blk Bg2_7.out Ng2.out.1.symm (by simp)⟩
            have K8 := Aside0.mk (K7.out.trans h2 (.inl rfl))
            clear h1 h2
            go_wp2_with fail
            refine (bound_call w0 _ p (((tS ts)).tail) 7 H8.out).mono ?_
            rintro e w9 hq
            cases hx9 : pBound 7 (tS ts).tail with
            | error x =>
              rw [hx9] at hq
              obtain ⟨rfl, h1, h2⟩ := hq
              have HX' : Aside0 (pRule ts = .error x) := ⟨by rw [HX0.out, hx9]; rfl⟩
              refine ⟨rfl, ?_⟩
              show PPost w0 w p (pRule ts) _ _ _
              rw [HX'.out]
              exact ⟨rfl, h1, K8.out.trans h2 (.inl rfl)⟩
            | ok x =>
              obtain ⟨d, ts1⟩ := x
              rw [hx9] at hq
              obtain ⟨v, rfl, ⟨hd5, hv⟩, h1, h2⟩ := hq
              have HX9 : Aside0 (pRule ts = .ok ({ d with f1 := bS ts }, ts1)) := ⟨by rw [HX0.out, hx9]; rfl⟩
              clear hx9
              replace hv : v = .agg #[.int .i64 d.f0, .bool d.f1, .string d.f2, .string d.f3, .int .i64 d.f4, .slice none 0 0, .int .i64 d.f6] := hv
              subst hv
              have HD5 := Aside0.mk hd5
              clear hd5
              have H9 := Aside0.mk h1
              have Bg1_9 : Aside0 (w9.heap[g1]? = _) := ⟨h2.blk Bg1_8.out Ng1.out.1.symm (by simp)⟩
              have Bg2_9 : Aside0 (w9.heap[g2]? = _) := ⟨h2.blk Bg2_8.out Ng2.out.1.symm (by simp)⟩
              have K9 := Aside0.mk (K8.out.trans h2 (.inl rfl))
              clear h1 h2
              have hc0 : w9.cell? ⟨g2, 0, none⟩ = some (.int .i64 0) := (blk_cell Bg2_9.out 0).trans rfl
              have fhc0 := blk_frozen Bg2_9.out 0
              have hc1 : w9.cell? ⟨g2, 1, none⟩ = some (.bool false) := (blk_cell Bg2_9.out 1).trans rfl
              have fhc1 := blk_frozen Bg2_9.out 1
              have hc2 : w9.cell? ⟨g2, 2, none⟩ = some (.string ⟨#[]⟩) := (blk_cell Bg2_9.out 2).trans rfl
              have fhc2 := blk_frozen Bg2_9.out 2
              have hc3 : w9.cell? ⟨g2, 3, none⟩ = some (.string ⟨#[]⟩) := (blk_cell Bg2_9.out 3).trans rfl
              have fhc3 := blk_frozen Bg2_9.out 3
              have hc4 : w9.cell? ⟨g2, 4, none⟩ = some (.int .i64 0) := (blk_cell Bg2_9.out 4).trans rfl
              have fhc4 := blk_frozen Bg2_9.out 4
              have hc5 : w9.cell? ⟨g2, 5, none⟩ = some (.slice none 0 0) := (blk_cell Bg2_9.out 5).trans rfl
              have fhc5 := blk_frozen Bg2_9.out 5
              have hc6 : w9.cell? ⟨g2, 6, none⟩ = some (.int .i64 0) := (blk_cell Bg2_9.out 6).trans rfl
              have fhc6 := blk_frozen Bg2_9.out 6
              go_upto_region 16 with (fail)
              have HO10 := Aside0.mk (onto7_ w9 g2 (.int .i64 d.f0) (.bool d.f1) (.string d.f2) (.string d.f3) (.int .i64 d.f4) (.slice none 0 0) (.int .i64 d.f6))
              have C10 := Aside0.mk (put7_ (b0 := .int .i64 d.f0) (b1 := .bool d.f1) (b2 := .string d.f2) (b3 := .string d.f3) (b4 := .int .i64 d.f4) (b5 := .slice none 0 0) (b6 := .int .i64 d.f6) Bg2_9.out)
              clear hc0 hc1 hc2 hc3 hc4 hc5 hc6 fhc0 fhc1 fhc2 fhc3 fhc4 fhc5 fhc6
              have H10 := Aside0.mk (H9.out.onto HO10.out (Nat.le_trans H.out.size Ng2.out.2.1) Ng2.out.1)
              have K10 := Aside0.mk (HO10.out.keep K9.out (.inl Ng2.out.2.1))
              have Bg1_10 := Aside0.mk (HO10.out.blk Bg1_9.out Ng2.out.2.2)
              generalize (((((((w9.setCell ⟨g2, 0, none⟩ (.int .i64 d.f0)).setCell ⟨g2, 1, none⟩ (.bool d.f1)).setCell ⟨g2, 2, none⟩ (.string d.f2)).setCell ⟨g2, 3, none⟩ (.string d.f3)).setCell ⟨g2, 4, none⟩ (.int .i64 d.f4)).setCell ⟨g2, 5, none⟩ (.slice none 0 0)).setCell ⟨g2, 6, none⟩ (.int .i64 d.f6)) = w10 at *
              have hc0 : w10.cell? ⟨g2, 0, none⟩ = some (.int .i64 d.f0) := (blk_cell C10.out 0).trans rfl
              have fhc0 := blk_frozen C10.out 0
              have hc1 : w10.cell? ⟨g2, 1, none⟩ = some (.bool d.f1) := (blk_cell C10.out 1).trans rfl
              have fhc1 := blk_frozen C10.out 1
              have hc2 : w10.cell? ⟨g2, 2, none⟩ = some (.string d.f2) := (blk_cell C10.out 2).trans rfl
              have fhc2 := blk_frozen C10.out 2
              have hc3 : w10.cell? ⟨g2, 3, none⟩ = some (.string d.f3) := (blk_cell C10.out 3).trans rfl
              have fhc3 := blk_frozen C10.out 3
              have hc4 : w10.cell? ⟨g2, 4, none⟩ = some (.int .i64 d.f4) := (blk_cell C10.out 4).trans rfl
              have fhc4 := blk_frozen C10.out 4
              have hc5 : w10.cell? ⟨g2, 5, none⟩ = some (.slice none 0 0) := (blk_cell C10.out 5).trans rfl
              have fhc5 := blk_frozen C10.out 5
              have hc6 : w10.cell? ⟨g2, 6, none⟩ = some (.int .i64 d.f6) := (blk_cell C10.out 6).trans rfl
              have fhc6 := blk_frozen C10.out 6
              go_upto_region 17 with (fail)
              have HO11 := Aside0.mk ((Onto.refl w10 g2).set 1 (.bool (bS ts)))
              have C11 : Aside0 ((w10.setCell ⟨g2, 1, none⟩ (.bool (bS ts))).heap[g2]? = some (.cells #[.int .i64 d.f0, .bool (bS ts), .string d.f2, .string d.f3, .int .i64 d.f4, .slice none 0 0, .int .i64 d.f6] 29 (0, 0))) := ⟨blk_put C10.out 1 _ rfl⟩
              clear hc0 hc1 hc2 hc3 hc4 hc5 hc6 fhc0 fhc1 fhc2 fhc3 fhc4 fhc5 fhc6
              have H11 := Aside0.mk (H10.out.onto HO11.out (Nat.le_trans H.out.size Ng2.out.2.1) Ng2.out.1)
              have K11 := Aside0.mk (HO11.out.keep K10.out (.inl Ng2.out.2.1))
              have Bg1_11 := Aside0.mk (HO11.out.blk Bg1_10.out Ng2.out.2.2)
              generalize (w10.setCell ⟨g2, 1, none⟩ (.bool (bS ts))) = w11 at *
              have hy0 : w11.cell? ⟨g2, 0, none⟩ = some (.int .i64 d.f0) := (blk_cell C11.out 0).trans rfl
              have hy1 : w11.cell? ⟨g2, 1, none⟩ = some (.bool (bS ts)) := (blk_cell C11.out 1).trans rfl
              have hy2 : w11.cell? ⟨g2, 2, none⟩ = some (.string d.f2) := (blk_cell C11.out 2).trans rfl
              have hy3 : w11.cell? ⟨g2, 3, none⟩ = some (.string d.f3) := (blk_cell C11.out 3).trans rfl
              have hy4 : w11.cell? ⟨g2, 4, none⟩ = some (.int .i64 d.f4) := (blk_cell C11.out 4).trans rfl
              have hy5 : w11.cell? ⟨g2, 5, none⟩ = some (.slice none 0 0) := (blk_cell C11.out 5).trans rfl
              have hy6 : w11.cell? ⟨g2, 6, none⟩ = some (.int .i64 d.f6) := (blk_cell C11.out 6).trans rfl
              have hc0 : w11.cell? ⟨g1, 0, none⟩ = some (.int .i64 0) := (blk_cell Bg1_11.out 0).trans rfl
              have fhc0 := blk_frozen Bg1_11.out 0
              have hc1 : w11.cell? ⟨g1, 1, none⟩ = some (.bool false) := (blk_cell Bg1_11.out 1).trans rfl
              have fhc1 := blk_frozen Bg1_11.out 1
              have hc2 : w11.cell? ⟨g1, 2, none⟩ = some (.string ⟨#[]⟩) := (blk_cell Bg1_11.out 2).trans rfl
              have fhc2 := blk_frozen Bg1_11.out 2
              have hc3 : w11.cell? ⟨g1, 3, none⟩ = some (.string ⟨#[]⟩) := (blk_cell Bg1_11.out 3).trans rfl
              have fhc3 := blk_frozen Bg1_11.out 3
              have hc4 : w11.cell? ⟨g1, 4, none⟩ = some (.int .i64 0) := (blk_cell Bg1_11.out 4).trans rfl
              have fhc4 := blk_frozen Bg1_11.out 4
              have hc5 : w11.cell? ⟨g1, 5, none⟩ = some (.slice none 0 0) := (blk_cell Bg1_11.out 5).trans rfl
              have fhc5 := blk_frozen Bg1_11.out 5
              have hc6 : w11.cell? ⟨g1, 6, none⟩ = some (.int .i64 0) := (blk_cell Bg1_11.out 6).trans rfl
              have fhc6 := blk_frozen Bg1_11.out 6
              go_wp2_with fail
              have HO12 := Aside0.mk (onto7_ w11 g1 (.int .i64 d.f0) (.bool (bS ts)) (.string d.f2) (.string d.f3) (.int .i64 d.f4) (.slice none 0 0) (.int .i64 d.f6))
              have C12 := Aside0.mk (put7_ (b0 := .int .i64 d.f0) (b1 := .bool (bS ts)) (b2 := .string d.f2) (b3 := .string d.f3) (b4 := .int .i64 d.f4) (b5 := .slice none 0 0) (b6 := .int .i64 d.f6) Bg1_11.out)
              clear hy0 hy1 hy2 hy3 hy4 hy5 hy6 hc0 hc1 hc2 hc3 hc4 hc5 hc6 fhc0 fhc1 fhc2 fhc3 fhc4 fhc5 fhc6
              have H12 := Aside0.mk (H11.out.onto HO12.out (Nat.le_trans H.out.size Ng1.out.2) Ng1.out.1)
              have K12 := Aside0.mk (HO12.out.keep K11.out (.inl Ng1.out.2))
              have Bg2_12 := Aside0.mk (HO12.out.blk C11.out Ng2.out.2.2.symm)
              generalize (((((((w11.setCell ⟨g1, 0, none⟩ (.int .i64 d.f0)).setCell ⟨g1, 1, none⟩ (.bool (bS ts))).setCell ⟨g1, 2, none⟩ (.string d.f2)).setCell ⟨g1, 3, none⟩ (.string d.f3)).setCell ⟨g1, 4, none⟩ (.int .i64 d.f4)).setCell ⟨g1, 5, none⟩ (.slice none 0 0)).setCell ⟨g1, 6, none⟩ (.int .i64 d.f6)) = w12 at *
              have hz0 : w12.cell? ⟨g1, 0, none⟩ = some (.int .i64 d.f0) := (blk_cell C12.out 0).trans rfl
              have hz1 : w12.cell? ⟨g1, 1, none⟩ = some (.bool (bS ts)) := (blk_cell C12.out 1).trans rfl
              have hz2 : w12.cell? ⟨g1, 2, none⟩ = some (.string d.f2) := (blk_cell C12.out 2).trans rfl
              have hz3 : w12.cell? ⟨g1, 3, none⟩ = some (.string d.f3) := (blk_cell C12.out 3).trans rfl
              have hz4 : w12.cell? ⟨g1, 4, none⟩ = some (.int .i64 d.f4) := (blk_cell C12.out 4).trans rfl
              have hz5 : w12.cell? ⟨g1, 5, none⟩ = some (.slice none 0 0) := (blk_cell C12.out 5).trans rfl
              have hz6 : w12.cell? ⟨g1, 6, none⟩ = some (.int .i64 d.f6) := (blk_cell C12.out 6).trans rfl
              refine bodyPost_ret (v := dlV { d with f1 := bS ts } (.slice none 0 0)) (by simp [results, Try.results26, go_sem, hz0, hz1, hz2, hz3, hz4, hz5, hz6, dlV, deV]) rfl ?_
              show PPost w0 w p (pRule ts) _ _ _
              rw [HX9.out]
              exact ⟨_, rfl, ⟨HD5.out, rfl⟩, H12.out, K12.out⟩
          | false =>
            cases hw5 : pWordB (⟨#[108, 101, 97, 115, 116]⟩ : ByteArray) (tS ts) with
            | true =>
              have HW0 : Aside0 (pWordB (⟨#[114, 101, 102]⟩ : ByteArray) (tS ts) = false) := ⟨hw0⟩
              have HW1 : Aside0 (pWordB (⟨#[98, 111, 116, 104]⟩ : ByteArray) (tS ts) = false) := ⟨hw1⟩
              have HW2 : Aside0 (pWordB (⟨#[110, 101, 101, 100, 115]⟩ : ByteArray) (tS ts) = false) := ⟨hw2⟩
              have HW3 : Aside0 (pWordB (⟨#[108, 105, 109, 105, 116]⟩ : ByteArray) (tS ts) = false) := ⟨hw3⟩
              have HW4 : Aside0 (pWordB (⟨#[109, 111, 115, 116]⟩ : ByteArray) (tS ts) = false) := ⟨hw4⟩
              have HW5 : Aside0 (pWordB (⟨#[108, 101, 97, 115, 116]⟩ : ByteArray) (tS ts) = true) := ⟨hw5⟩
              clear hw0 hw1 hw2 hw3 hw4 hw5
              have HX0 : Aside0 (pRule ts = pBind (pBound 8 (tS ts).tail) fun d ts1 => .ok ({ d with f1 := bS ts }, ts1)) := ⟨by unfold pRule pRule1; rw [HW0.out, HW1.out, HW2.out, HW3.out, HW4.out, HW5.out]; rfl⟩
              go_enter Try.func26, Try.ntmps26
              go_upto_region 1 with (((with_reducible refine gate_dst (N := 2) rfl ?_); refine box_event ?hg (N := 2) ?hd (cs := #[.int .i64 0, .bool false, .string ⟨#[]⟩, .string ⟨#[]⟩, .int .i64 0, .slice none 0 0, .int .i64 0]) (t := 29) ?hr ?_; (case hd => rfl); (case hg => rfl); (case hr => first | (go_simp; done) | (go_simp; rfl)); intro g1 hg_ w1 hbox hb; have HB1 := Aside0.mk hb; have BK1 := Aside0.mk hbox; have HG1 := Aside0.mk hg_; clear hb hbox hg_))
              have H1 := Aside0.mk (H.out.step HB1.out)
              have K1 := Aside0.mk (KeepBut.of_below HB1.out p none)
              have Ng1 : Aside0 (p ≠ g1 ∧ w.heap.size ≤ g1) := ⟨by have l0 := H.out.lt; rw [HG1.out]; omega⟩
              go_wp2_with fail
              refine (strict_call w0 _ p ts H1.out).mono ?_
              rintro e w2 ⟨rfl, h1, h2⟩
              have H2 := Aside0.mk h1
              have Bg1_2 : Aside0 (w2.heap[g1]? = _) := ⟨h2.blk BK1.out Ng1.out.1.symm (by simp)⟩
              have K2 := Aside0.mk (K1.out.trans h2 (.inl rfl))
              clear h1 h2
              go_upto_region 4 with (((with_reducible refine gate_dst (N := 4) rfl ?_); refine box_event ?hg (N := 4) ?hd (cs := #[.int .i64 0, .bool false, .string ⟨#[]⟩, .string ⟨#[]⟩, .int .i64 0, .slice none 0 0, .int .i64 0]) (t := 29) ?hr ?_; (case hd => rfl); (case hg => rfl); (case hr => first | (go_simp; done) | (go_simp; rfl)); intro g2 hg_ w3 hbox hb; have HB3 := Aside0.mk hb; have BK3 := Aside0.mk hbox; have HG3 := Aside0.mk hg_; clear hb hbox hg_))
              have H3 := Aside0.mk (H2.out.step HB3.out)
              have K3 := Aside0.mk (K2.out.trans (KeepBut.of_below HB3.out p none) (.inl rfl))
              have Bg1_3 := Aside0.mk (blk_below Bg1_2.out HB3.out)
              have Ng2 : Aside0 (p ≠ g2 ∧ w.heap.size ≤ g2 ∧ g1 ≠ g2) := ⟨by have l0 := H2.out.lt; have l_g1 := blk_lt Bg1_2.out; have lk := K2.out.1; rw [HG3.out]; omega⟩
              go_wp2_with fail
              refine (pword_call w0 _ p ((tS ts)) (⟨#[114, 101, 102]⟩ : ByteArray) H3.out).mono ?_
              rintro e w4 ⟨rfl, h1, h2⟩
              rw [HW0.out]
              rw [pWordT_f HW0.out] at h1
              have H4 := Aside0.mk h1
              have Bg1_4 : Aside0 (w4.heap[g1]? = _) := ⟨h2.blk Bg1_3.out Ng1.out.1.symm (by simp)⟩
              have Bg2_4 : Aside0 (w4.heap[g2]? = _) := ⟨h2.blk BK3.out Ng2.out.1.symm (by simp)⟩
              have K4 := Aside0.mk (K3.out.trans h2 (.inl rfl))
              clear h1 h2
              go_wp2_with fail
              refine (pword_call w0 _ p ((tS ts)) (⟨#[98, 111, 116, 104]⟩ : ByteArray) H4.out).mono ?_
              rintro e w5 ⟨rfl, h1, h2⟩
              rw [HW1.out]
              rw [pWordT_f HW1.out] at h1
              have H5 := Aside0.mk h1
              have Bg1_5 : Aside0 (w5.heap[g1]? = _) := ⟨h2.blk Bg1_4.out Ng1.out.1.symm (by simp)⟩
              have Bg2_5 : Aside0 (w5.heap[g2]? = _) := ⟨h2.blk Bg2_4.out Ng2.out.1.symm (by simp)⟩
              have K5 := Aside0.mk (K4.out.trans h2 (.inl rfl))
              clear h1 h2
              go_wp2_with fail
              refine (pword_call w0 _ p ((tS ts)) (⟨#[110, 101, 101, 100, 115]⟩ : ByteArray) H5.out).mono ?_
              rintro e w6 ⟨rfl, h1, h2⟩
              rw [HW2.out]
              rw [pWordT_f HW2.out] at h1
              have H6 := Aside0.mk h1
              have Bg1_6 : Aside0 (w6.heap[g1]? = _) := ⟨h2.blk Bg1_5.out Ng1.out.1.symm (by simp)⟩
              have Bg2_6 : Aside0 (w6.heap[g2]? = _) := ⟨h2.blk Bg2_5.out Ng2.out.1.symm (by simp)⟩
              have K6 := Aside0.mk (K5.out.trans h2 (.inl rfl))
              clear h1 h2
              go_wp2_with fail
              refine (pword_call w0 _ p ((tS ts)) (⟨#[108, 105, 109, 105, 116]⟩ : ByteArray) H6.out).mono ?_
              rintro e w7 ⟨rfl, h1, h2⟩
              rw [HW3.out]
              rw [pWordT_f HW3.out] at h1
              have H7 := Aside0.mk h1
              have Bg1_7 : Aside0 (w7.heap[g1]? = _) := ⟨h2.blk Bg1_6.out Ng1.out.1.symm (by simp)⟩
              have Bg2_7 : Aside0 (w7.heap[g2]? = _) := ⟨h2.blk Bg2_6.out Ng2.out.1.symm (by simp)⟩
              have K7 := Aside0.mk (K6.out.trans h2 (.inl rfl))
              clear h1 h2
              go_wp2_with fail
              refine (pword_call w0 _ p ((tS ts)) (⟨#[109, 111, 115, 116]⟩ : ByteArray) H7.out).mono ?_
              rintro e w8 ⟨rfl, h1, h2⟩
              rw [HW4.out]
              rw [pWordT_f HW4.out] at h1
              have H8 := Aside0.mk h1
              have Bg1_8 : Aside0 (w8.heap[g1]? = _) := ⟨h2.blk Bg1_7.out Ng1.out.1.symm (by simp)⟩
              have Bg2_8 : Aside0 (w8.heap[g2]? = _) := ⟨h2.blk Bg2_7.out Ng2.out.1.symm (by simp)⟩
              have K8 := Aside0.mk (K7.out.trans h2 (.inl rfl))
              clear h1 h2
              go_wp2_with fail
              refine (pword_call w0 _ p ((tS ts)) (⟨#[108, 101, 97, 115, 116]⟩ : ByteArray) H8.out).mono ?_
              rintro e w9 ⟨rfl, h1, h2⟩
              rw [HW5.out]
              rw [pWordT_t HW5.out] at h1
              have H9 := Aside0.mk h1
              have Bg1_9 : Aside0 (w9.heap[g1]? = _) := ⟨h2.blk Bg1_8.out Ng1.out.1.symm (by simp)⟩
              have Bg2_9 : Aside0 (w9.heap[g2]? = _) := ⟨h2.blk Bg2_8.out Ng2.out.1.symm (by simp)⟩
              have K9 := Aside0.mk (K8.out.trans h2 (.inl rfl))
              clear h1 h2
              go_wp2_with fail
              refine (bound_call w0 _ p (((tS ts)).tail) 8 H9.out).mono ?_
              rintro e w10 hq
              cases hx10 : pBound 8 (tS ts).tail with
              | error x =>
                rw [hx10] at hq
                obtain ⟨rfl, h1, h2⟩ := hq
                have HX' : Aside0 (pRule ts = .error x) := ⟨by rw [HX0.out, hx10]; rfl⟩
                refine ⟨rfl, ?_⟩
                show PPost w0 w p (pRule ts) _ _ _
                rw [HX'.out]
                exact ⟨rfl, h1, K9.out.trans h2 (.inl rfl)⟩
              | ok x =>
                obtain ⟨d, ts1⟩ := x
                rw [hx10] at hq
                obtain ⟨v, rfl, ⟨hd5, hv⟩, h1, h2⟩ := hq
                have HX10 : Aside0 (pRule ts = .ok ({ d with f1 := bS ts }, ts1)) := ⟨by rw [HX0.out, hx10]; rfl⟩
                clear hx10
                replace hv : v = .agg #[.int .i64 d.f0, .bool d.f1, .string d.f2, .string d.f3, .int .i64 d.f4, .slice none 0 0, .int .i64 d.f6] := hv
                subst hv
                have HD5 := Aside0.mk hd5
                clear hd5
                have H10 := Aside0.mk h1
                have Bg1_10 : Aside0 (w10.heap[g1]? = _) := ⟨h2.blk Bg1_9.out Ng1.out.1.symm (by simp)⟩
                have Bg2_10 : Aside0 (w10.heap[g2]? = _) := ⟨h2.blk Bg2_9.out Ng2.out.1.symm (by simp)⟩
                have K10 := Aside0.mk (K9.out.trans h2 (.inl rfl))
                clear h1 h2
                have hc0 : w10.cell? ⟨g2, 0, none⟩ = some (.int .i64 0) := (blk_cell Bg2_10.out 0).trans rfl
                have fhc0 := blk_frozen Bg2_10.out 0
                have hc1 : w10.cell? ⟨g2, 1, none⟩ = some (.bool false) := (blk_cell Bg2_10.out 1).trans rfl
                have fhc1 := blk_frozen Bg2_10.out 1
                have hc2 : w10.cell? ⟨g2, 2, none⟩ = some (.string ⟨#[]⟩) := (blk_cell Bg2_10.out 2).trans rfl
                have fhc2 := blk_frozen Bg2_10.out 2
                have hc3 : w10.cell? ⟨g2, 3, none⟩ = some (.string ⟨#[]⟩) := (blk_cell Bg2_10.out 3).trans rfl
                have fhc3 := blk_frozen Bg2_10.out 3
                have hc4 : w10.cell? ⟨g2, 4, none⟩ = some (.int .i64 0) := (blk_cell Bg2_10.out 4).trans rfl
                have fhc4 := blk_frozen Bg2_10.out 4
                have hc5 : w10.cell? ⟨g2, 5, none⟩ = some (.slice none 0 0) := (blk_cell Bg2_10.out 5).trans rfl
                have fhc5 := blk_frozen Bg2_10.out 5
                have hc6 : w10.cell? ⟨g2, 6, none⟩ = some (.int .i64 0) := (blk_cell Bg2_10.out 6).trans rfl
                have fhc6 := blk_frozen Bg2_10.out 6
                go_upto_region 16 with (fail)
                have HO11 := Aside0.mk (onto7_ w10 g2 (.int .i64 d.f0) (.bool d.f1) (.string d.f2) (.string d.f3) (.int .i64 d.f4) (.slice none 0 0) (.int .i64 d.f6))
                have C11 := Aside0.mk (put7_ (b0 := .int .i64 d.f0) (b1 := .bool d.f1) (b2 := .string d.f2) (b3 := .string d.f3) (b4 := .int .i64 d.f4) (b5 := .slice none 0 0) (b6 := .int .i64 d.f6) Bg2_10.out)
                clear hc0 hc1 hc2 hc3 hc4 hc5 hc6 fhc0 fhc1 fhc2 fhc3 fhc4 fhc5 fhc6
                have H11 := Aside0.mk (H10.out.onto HO11.out (Nat.le_trans H.out.size Ng2.out.2.1) Ng2.out.1)
                have K11 := Aside0.mk (HO11.out.keep K10.out (.inl Ng2.out.2.1))
                have Bg1_11 := Aside0.mk (HO11.out.blk Bg1_10.out Ng2.out.2.2)
                generalize (((((((w10.setCell ⟨g2, 0, none⟩ (.int .i64 d.f0)).setCell ⟨g2, 1, none⟩ (.bool d.f1)).setCell ⟨g2, 2, none⟩ (.string d.f2)).setCell ⟨g2, 3, none⟩ (.string d.f3)).setCell ⟨g2, 4, none⟩ (.int .i64 d.f4)).setCell ⟨g2, 5, none⟩ (.slice none 0 0)).setCell ⟨g2, 6, none⟩ (.int .i64 d.f6)) = w11 at *
                have hc0 : w11.cell? ⟨g2, 0, none⟩ = some (.int .i64 d.f0) := (blk_cell C11.out 0).trans rfl
                have fhc0 := blk_frozen C11.out 0
                have hc1 : w11.cell? ⟨g2, 1, none⟩ = some (.bool d.f1) := (blk_cell C11.out 1).trans rfl
                have fhc1 := blk_frozen C11.out 1
                have hc2 : w11.cell? ⟨g2, 2, none⟩ = some (.string d.f2) := (blk_cell C11.out 2).trans rfl
                have fhc2 := blk_frozen C11.out 2
                have hc3 : w11.cell? ⟨g2, 3, none⟩ = some (.string d.f3) := (blk_cell C11.out 3).trans rfl
                have fhc3 := blk_frozen C11.out 3
                have hc4 : w11.cell? ⟨g2, 4, none⟩ = some (.int .i64 d.f4) := (blk_cell C11.out 4).trans rfl
                have fhc4 := blk_frozen C11.out 4
                have hc5 : w11.cell? ⟨g2, 5, none⟩ = some (.slice none 0 0) := (blk_cell C11.out 5).trans rfl
                have fhc5 := blk_frozen C11.out 5
                have hc6 : w11.cell? ⟨g2, 6, none⟩ = some (.int .i64 d.f6) := (blk_cell C11.out 6).trans rfl
                have fhc6 := blk_frozen C11.out 6
                go_upto_region 17 with (fail)
                have HO12 := Aside0.mk ((Onto.refl w11 g2).set 1 (.bool (bS ts)))
                have C12 : Aside0 ((w11.setCell ⟨g2, 1, none⟩ (.bool (bS ts))).heap[g2]? = some (.cells #[.int .i64 d.f0, .bool (bS ts), .string d.f2, .string d.f3, .int .i64 d.f4, .slice none 0 0, .int .i64 d.f6] 29 (0, 0))) := ⟨blk_put C11.out 1 _ rfl⟩
                clear hc0 hc1 hc2 hc3 hc4 hc5 hc6 fhc0 fhc1 fhc2 fhc3 fhc4 fhc5 fhc6
                have H12 := Aside0.mk (H11.out.onto HO12.out (Nat.le_trans H.out.size Ng2.out.2.1) Ng2.out.1)
                have K12 := Aside0.mk (HO12.out.keep K11.out (.inl Ng2.out.2.1))
                have Bg1_12 := Aside0.mk (HO12.out.blk Bg1_11.out Ng2.out.2.2)
                generalize (w11.setCell ⟨g2, 1, none⟩ (.bool (bS ts))) = w12 at *
                have hy0 : w12.cell? ⟨g2, 0, none⟩ = some (.int .i64 d.f0) := (blk_cell C12.out 0).trans rfl
                have hy1 : w12.cell? ⟨g2, 1, none⟩ = some (.bool (bS ts)) := (blk_cell C12.out 1).trans rfl
                have hy2 : w12.cell? ⟨g2, 2, none⟩ = some (.string d.f2) := (blk_cell C12.out 2).trans rfl
                have hy3 : w12.cell? ⟨g2, 3, none⟩ = some (.string d.f3) := (blk_cell C12.out 3).trans rfl
                have hy4 : w12.cell? ⟨g2, 4, none⟩ = some (.int .i64 d.f4) := (blk_cell C12.out 4).trans rfl
                have hy5 : w12.cell? ⟨g2, 5, none⟩ = some (.slice none 0 0) := (blk_cell C12.out 5).trans rfl
                have hy6 : w12.cell? ⟨g2, 6, none⟩ = some (.int .i64 d.f6) := (blk_cell C12.out 6).trans rfl
                have hc0 : w12.cell? ⟨g1, 0, none⟩ = some (.int .i64 0) := (blk_cell Bg1_12.out 0).trans rfl
                have fhc0 := blk_frozen Bg1_12.out 0
                have hc1 : w12.cell? ⟨g1, 1, none⟩ = some (.bool false) := (blk_cell Bg1_12.out 1).trans rfl
                have fhc1 := blk_frozen Bg1_12.out 1
                have hc2 : w12.cell? ⟨g1, 2, none⟩ = some (.string ⟨#[]⟩) := (blk_cell Bg1_12.out 2).trans rfl
                have fhc2 := blk_frozen Bg1_12.out 2
                have hc3 : w12.cell? ⟨g1, 3, none⟩ = some (.string ⟨#[]⟩) := (blk_cell Bg1_12.out 3).trans rfl
                have fhc3 := blk_frozen Bg1_12.out 3
                have hc4 : w12.cell? ⟨g1, 4, none⟩ = some (.int .i64 0) := (blk_cell Bg1_12.out 4).trans rfl
                have fhc4 := blk_frozen Bg1_12.out 4
                have hc5 : w12.cell? ⟨g1, 5, none⟩ = some (.slice none 0 0) := (blk_cell Bg1_12.out 5).trans rfl
                have fhc5 := blk_frozen Bg1_12.out 5
                have hc6 : w12.cell? ⟨g1, 6, none⟩ = some (.int .i64 0) := (blk_cell Bg1_12.out 6).trans rfl
                have fhc6 := blk_frozen Bg1_12.out 6
                go_wp2_with fail
                have HO13 := Aside0.mk (onto7_ w12 g1 (.int .i64 d.f0) (.bool (bS ts)) (.string d.f2) (.string d.f3) (.int .i64 d.f4) (.slice none 0 0) (.int .i64 d.f6))
                have C13 := Aside0.mk (put7_ (b0 := .int .i64 d.f0) (b1 := .bool (bS ts)) (b2 := .string d.f2) (b3 := .string d.f3) (b4 := .int .i64 d.f4) (b5 := .slice none 0 0) (b6 := .int .i64 d.f6) Bg1_12.out)
                clear hy0 hy1 hy2 hy3 hy4 hy5 hy6 hc0 hc1 hc2 hc3 hc4 hc5 hc6 fhc0 fhc1 fhc2 fhc3 fhc4 fhc5 fhc6
                have H13 := Aside0.mk (H12.out.onto HO13.out (Nat.le_trans H.out.size Ng1.out.2) Ng1.out.1)
                have K13 := Aside0.mk (HO13.out.keep K12.out (.inl Ng1.out.2))
                have Bg2_13 := Aside0.mk (HO13.out.blk C12.out Ng2.out.2.2.symm)
                generalize (((((((w12.setCell ⟨g1, 0, none⟩ (.int .i64 d.f0)).setCell ⟨g1, 1, none⟩ (.bool (bS ts))).setCell ⟨g1, 2, none⟩ (.string d.f2)).setCell ⟨g1, 3, none⟩ (.string d.f3)).setCell ⟨g1, 4, none⟩ (.int .i64 d.f4)).setCell ⟨g1, 5, none⟩ (.slice none 0 0)).setCell ⟨g1, 6, none⟩ (.int .i64 d.f6)) = w13 at *
                have hz0 : w13.cell? ⟨g1, 0, none⟩ = some (.int .i64 d.f0) := (blk_cell C13.out 0).trans rfl
                have hz1 : w13.cell? ⟨g1, 1, none⟩ = some (.bool (bS ts)) := (blk_cell C13.out 1).trans rfl
                have hz2 : w13.cell? ⟨g1, 2, none⟩ = some (.string d.f2) := (blk_cell C13.out 2).trans rfl
                have hz3 : w13.cell? ⟨g1, 3, none⟩ = some (.string d.f3) := (blk_cell C13.out 3).trans rfl
                have hz4 : w13.cell? ⟨g1, 4, none⟩ = some (.int .i64 d.f4) := (blk_cell C13.out 4).trans rfl
                have hz5 : w13.cell? ⟨g1, 5, none⟩ = some (.slice none 0 0) := (blk_cell C13.out 5).trans rfl
                have hz6 : w13.cell? ⟨g1, 6, none⟩ = some (.int .i64 d.f6) := (blk_cell C13.out 6).trans rfl
                refine bodyPost_ret (v := dlV { d with f1 := bS ts } (.slice none 0 0)) (by simp [results, Try.results26, go_sem, hz0, hz1, hz2, hz3, hz4, hz5, hz6, dlV, deV]) rfl ?_
                show PPost w0 w p (pRule ts) _ _ _
                rw [HX10.out]
                exact ⟨_, rfl, ⟨HD5.out, rfl⟩, H13.out, K13.out⟩
            | false =>
              have HW0 : Aside0 (pWordB (⟨#[114, 101, 102]⟩ : ByteArray) (tS ts) = false) := ⟨hw0⟩
              have HW1 : Aside0 (pWordB (⟨#[98, 111, 116, 104]⟩ : ByteArray) (tS ts) = false) := ⟨hw1⟩
              have HW2 : Aside0 (pWordB (⟨#[110, 101, 101, 100, 115]⟩ : ByteArray) (tS ts) = false) := ⟨hw2⟩
              have HW3 : Aside0 (pWordB (⟨#[108, 105, 109, 105, 116]⟩ : ByteArray) (tS ts) = false) := ⟨hw3⟩
              have HW4 : Aside0 (pWordB (⟨#[109, 111, 115, 116]⟩ : ByteArray) (tS ts) = false) := ⟨hw4⟩
              have HW5 : Aside0 (pWordB (⟨#[108, 101, 97, 115, 116]⟩ : ByteArray) (tS ts) = false) := ⟨hw5⟩
              clear hw0 hw1 hw2 hw3 hw4 hw5
              have HX0 : Aside0 (pRule ts = .error ((hdT (tS ts)).f3, 2)) := ⟨by unfold pRule pRule1; rw [HW0.out, HW1.out, HW2.out, HW3.out, HW4.out, HW5.out]; rfl⟩
              go_enter Try.func26, Try.ntmps26
              go_upto_region 1 with (((with_reducible refine gate_dst (N := 2) rfl ?_); refine box_event ?hg (N := 2) ?hd (cs := #[.int .i64 0, .bool false, .string ⟨#[]⟩, .string ⟨#[]⟩, .int .i64 0, .slice none 0 0, .int .i64 0]) (t := 29) ?hr ?_; (case hd => rfl); (case hg => rfl); (case hr => first | (go_simp; done) | (go_simp; rfl)); intro g1 hg_ w1 hbox hb; have HB1 := Aside0.mk hb; have BK1 := Aside0.mk hbox; have HG1 := Aside0.mk hg_; clear hb hbox hg_))
              have H1 := Aside0.mk (H.out.step HB1.out)
              have K1 := Aside0.mk (KeepBut.of_below HB1.out p none)
              have Ng1 : Aside0 (p ≠ g1 ∧ w.heap.size ≤ g1) := ⟨by have l0 := H.out.lt; rw [HG1.out]; omega⟩
              go_wp2_with fail
              refine (strict_call w0 _ p ts H1.out).mono ?_
              rintro e w2 ⟨rfl, h1, h2⟩
              have H2 := Aside0.mk h1
              have Bg1_2 : Aside0 (w2.heap[g1]? = _) := ⟨h2.blk BK1.out Ng1.out.1.symm (by simp)⟩
              have K2 := Aside0.mk (K1.out.trans h2 (.inl rfl))
              clear h1 h2
              go_upto_region 4 with (((with_reducible refine gate_dst (N := 4) rfl ?_); refine box_event ?hg (N := 4) ?hd (cs := #[.int .i64 0, .bool false, .string ⟨#[]⟩, .string ⟨#[]⟩, .int .i64 0, .slice none 0 0, .int .i64 0]) (t := 29) ?hr ?_; (case hd => rfl); (case hg => rfl); (case hr => first | (go_simp; done) | (go_simp; rfl)); intro g2 hg_ w3 hbox hb; have HB3 := Aside0.mk hb; have BK3 := Aside0.mk hbox; have HG3 := Aside0.mk hg_; clear hb hbox hg_))
              have H3 := Aside0.mk (H2.out.step HB3.out)
              have K3 := Aside0.mk (K2.out.trans (KeepBut.of_below HB3.out p none) (.inl rfl))
              have Bg1_3 := Aside0.mk (blk_below Bg1_2.out HB3.out)
              have Ng2 : Aside0 (p ≠ g2 ∧ w.heap.size ≤ g2 ∧ g1 ≠ g2) := ⟨by have l0 := H2.out.lt; have l_g1 := blk_lt Bg1_2.out; have lk := K2.out.1; rw [HG3.out]; omega⟩
              go_wp2_with fail
              refine (pword_call w0 _ p ((tS ts)) (⟨#[114, 101, 102]⟩ : ByteArray) H3.out).mono ?_
              rintro e w4 ⟨rfl, h1, h2⟩
              rw [HW0.out]
              rw [pWordT_f HW0.out] at h1
              have H4 := Aside0.mk h1
              have Bg1_4 : Aside0 (w4.heap[g1]? = _) := ⟨h2.blk Bg1_3.out Ng1.out.1.symm (by simp)⟩
              have Bg2_4 : Aside0 (w4.heap[g2]? = _) := ⟨h2.blk BK3.out Ng2.out.1.symm (by simp)⟩
              have K4 := Aside0.mk (K3.out.trans h2 (.inl rfl))
              clear h1 h2
              go_wp2_with fail
              refine (pword_call w0 _ p ((tS ts)) (⟨#[98, 111, 116, 104]⟩ : ByteArray) H4.out).mono ?_
              rintro e w5 ⟨rfl, h1, h2⟩
              rw [HW1.out]
              rw [pWordT_f HW1.out] at h1
              have H5 := Aside0.mk h1
              have Bg1_5 : Aside0 (w5.heap[g1]? = _) := ⟨h2.blk Bg1_4.out Ng1.out.1.symm (by simp)⟩
              have Bg2_5 : Aside0 (w5.heap[g2]? = _) := ⟨h2.blk Bg2_4.out Ng2.out.1.symm (by simp)⟩
              have K5 := Aside0.mk (K4.out.trans h2 (.inl rfl))
              clear h1 h2
              go_wp2_with fail
              refine (pword_call w0 _ p ((tS ts)) (⟨#[110, 101, 101, 100, 115]⟩ : ByteArray) H5.out).mono ?_
              rintro e w6 ⟨rfl, h1, h2⟩
              rw [HW2.out]
              rw [pWordT_f HW2.out] at h1
              have H6 := Aside0.mk h1
              have Bg1_6 : Aside0 (w6.heap[g1]? = _) := ⟨h2.blk Bg1_5.out Ng1.out.1.symm (by simp)⟩
              have Bg2_6 : Aside0 (w6.heap[g2]? = _) := ⟨h2.blk Bg2_5.out Ng2.out.1.symm (by simp)⟩
              have K6 := Aside0.mk (K5.out.trans h2 (.inl rfl))
              clear h1 h2
              go_wp2_with fail
              refine (pword_call w0 _ p ((tS ts)) (⟨#[108, 105, 109, 105, 116]⟩ : ByteArray) H6.out).mono ?_
              rintro e w7 ⟨rfl, h1, h2⟩
              rw [HW3.out]
              rw [pWordT_f HW3.out] at h1
              have H7 := Aside0.mk h1
              have Bg1_7 : Aside0 (w7.heap[g1]? = _) := ⟨h2.blk Bg1_6.out Ng1.out.1.symm (by simp)⟩
              have Bg2_7 : Aside0 (w7.heap[g2]? = _) := ⟨h2.blk Bg2_6.out Ng2.out.1.symm (by simp)⟩
              have K7 := Aside0.mk (K6.out.trans h2 (.inl rfl))
              clear h1 h2
              go_wp2_with fail
              refine (pword_call w0 _ p ((tS ts)) (⟨#[109, 111, 115, 116]⟩ : ByteArray) H7.out).mono ?_
              rintro e w8 ⟨rfl, h1, h2⟩
              rw [HW4.out]
              rw [pWordT_f HW4.out] at h1
              have H8 := Aside0.mk h1
              have Bg1_8 : Aside0 (w8.heap[g1]? = _) := ⟨h2.blk Bg1_7.out Ng1.out.1.symm (by simp)⟩
              have Bg2_8 : Aside0 (w8.heap[g2]? = _) := ⟨h2.blk Bg2_7.out Ng2.out.1.symm (by simp)⟩
              have K8 := Aside0.mk (K7.out.trans h2 (.inl rfl))
              clear h1 h2
              go_wp2_with fail
              refine (pword_call w0 _ p ((tS ts)) (⟨#[108, 101, 97, 115, 116]⟩ : ByteArray) H8.out).mono ?_
              rintro e w9 ⟨rfl, h1, h2⟩
              rw [HW5.out]
              rw [pWordT_f HW5.out] at h1
              have H9 := Aside0.mk h1
              have Bg1_9 : Aside0 (w9.heap[g1]? = _) := ⟨h2.blk Bg1_8.out Ng1.out.1.symm (by simp)⟩
              have Bg2_9 : Aside0 (w9.heap[g2]? = _) := ⟨h2.blk Bg2_8.out Ng2.out.1.symm (by simp)⟩
              have K9 := Aside0.mk (K8.out.trans h2 (.inl rfl))
              clear h1 h2
              go_wp2_with fail
              refine (fail_call w0 _ p ((tS ts)) 2 H9.out).mono ?_
              rintro e w' ⟨rfl, rfl⟩
              refine ⟨rfl, ?_⟩
              show PPost w0 w p (pRule ts) _ _ _
              rw [HX0.out]
              exact ⟨rfl, H9.out.2.1, K9.out⟩
end Go.Proofs.Ytmhenlilcikgmaa.X

/- The parser's oper, walked. -/
set_option linter.unusedSimpArgs false
set_option linter.unusedVariables false
namespace Go.Proofs.Ytmhenlilcikgmaa.X
open Go.RowKit Go.Proofs.YtmhenlilcikgmaaW.PrintWords Go.Proofs.YtmhenlilcikgmaaW.PrintLast Go.Proofs.YtmhenlilcikgmaaW.PrintMore

/-- A call in a region, by its contract: it hands something back, or panics. -/
theorem goesP_ {P : Program} {ops : Array Oper} {Q : Exit → Act → World → Prop} {oi : Oper} {N : Option Tmp} {a : Act} {w : World} {K : Act → World → Prop} {f : FuncId} {fn : Func} {os : Array Operand} {ts : Array TypeId} (hf : P.funcs[f]? = some fn) (hname : (fn.name == "runtime.NumGoroutine") = false) (hb : fn.body.isSome = true) (args : Array Value)
    (hw : Region.wanted oi (yielded ops a.tmps) = true) (hN : oi.dst = N) (hop : oi.op = .call { callee := .value (.func f), args := os, argTypes := ts }) (hargs : os.map a.eval = args)
    (h : Calls P f args w fun e w' => (∃ v, e = .returned v ∧ K (a.put N v) w') ∨ ∃ c, e = .panicked c ∧ Q (.panic c) a w') : if Region.wanted oi (yielded ops a.tmps) = true then Oper.wp P oi a w K Q else K (a.put N undef) w := by
  rw [if_pos hw]
  subst hN
  have he := enters_ hf hname hb args w
  have hrun : (execOp a.eval oi).run P w = .ok (.enter f args) w := by
    unfold execOp
    simp [hop, resolve, Deferred.ofValue, invoke, Act.eval, hargs, he]
  unfold Oper.wp
  rw [hrun, Oper.upon_enter]
  refine h.mono ?_
  rintro e w' (⟨v, rfl, hk⟩ | ⟨c, rfl, hq⟩)
  · exact hk
  · exact hq
theorem R_keep_ {w w1 : World} {p base : Nat} {cs : Array Value} {v : Value} {xs : List De} (h : Kd.R k60 60 w base (fun _ => True) v xs) (hb : w.heap[p]? = some (.cells cs 40 (0, 0))) (hk : KeepBut w w1 p none) : Kd.R k60 60 w1 base (fun _ => True) v xs :=
  Kd.R_mono (Kd.R_keep (Kd.R_types h hb (by decide)) hk (fun _ hk => hk.2)) (fun _ _ => trivial)
theorem R_onto_ {w w1 : World} {g base t : Nat} {cs : Array Value} {v : Value} {xs : List De} (h : Kd.R k60 60 w base (fun _ => True) v xs) (hb : w.heap[g]? = some (.cells cs t (0, 0))) (ht : ∀ q, q ∈ 60 :: k60.E → q ≠ t) (ho : Onto w w1 g) : Kd.R k60 60 w1 base (fun _ => True) v xs :=
  Kd.R_mono (Kd.R_step (Kd.R_types h hb ht) (fun k ho2 _ => ho.2.1 k ho2.2)) (fun _ _ => trivial)
theorem PS.pblk {w0 w : World} {p : Nat} {ts : List Tk} (h : PS w0 w p ts) : ∃ cs, w.heap[p]? = some (.cells cs 40 (0, 0)) := by
  obtain ⟨_, _, _, _, A, c, h4, _, _⟩ := h
  exact ⟨_, h4⟩
theorem R_psk {w0 w w1 : World} {p base : Nat} {ts : List Tk} {v : Value} {xs : List De} (h : Kd.R k60 60 w base (fun _ => True) v xs) (hp : PS w0 w p ts) (hk : KeepBut w w1 p none) : Kd.R k60 60 w1 base (fun _ => True) v xs := by
  obtain ⟨cs, hb⟩ := hp.pblk
  exact R_keep_ h hb hk

theorem infoDeed : (Try.prog.info? 60).map (fun i => (i.zero, i.size, i.bytes)) = some (some (.agg #[(.int .i64 0), (.string ⟨#[]⟩), (.int .i64 0)]), 3, 32) := by kernel_rfl
def pOperL (d : Dl) : Nat → List De → List Tk → PR Dl
  | 0, xs, ts => .ok ({ d with f5 := xs }, ts)
  | n + 1, xs, ts => if (hdT ts).f0 = 4 then pBind (pNext 4 ts) fun _ ts => pBind (pDeed ts) fun x ts => pOperL d n (xs ++ [x]) ts else .ok ({ d with f5 := xs }, ts)
def pOper (ts : List Tk) : PR Dl := pBind (pThing 10 ts) fun d ts => pBind (pNext 3 ts) fun _ ts => pBind (pDeed ts) fun x ts => pOperL d 15 [x] ts

set_option maxHeartbeats 16000000 in
set_option maxRecDepth 1000000 in
theorem oper_pcall (w0 w : World) (p : Nat) (ts : List Tk) (h : PS w0 w p ts) :
    Calls Try.prog 27 #[.pointer (some ⟨p, 0, none⟩)] w fun e w' => PPost w0 w p (pOper ts) (EncD w.heap.size) e w' := by
  have H := Aside0.mk h
  clear h
  have HX0 : Aside0 (pOper ts = pBind (pThing 10 ts) fun d ts => pBind (pNext 3 ts) fun _ ts => pBind (pDeed ts) fun x ts => pOperL d 15 [x] ts) := ⟨rfl⟩
  go_enter Try.func27, Try.ntmps27
  go_upto_region 1 with (((with_reducible refine gate_dst (N := 2) rfl ?_); refine box_event ?hg (N := 2) ?hd (cs := #[.int .i64 0, .bool false, .string ⟨#[]⟩, .string ⟨#[]⟩, .int .i64 0, .slice none 0 0, .int .i64 0]) (t := 29) ?hr ?_; (case hd => rfl); (case hg => rfl); (case hr => first | (go_simp; done) | (go_simp; rfl)); intro g1 hg_ w1 hbox hb; have HB1 := Aside0.mk hb; have BK1 := Aside0.mk hbox; have HG1 := Aside0.mk hg_; clear hb hbox hg_))
  have H1 := Aside0.mk (H.out.step HB1.out)
  have K1 := Aside0.mk (KeepBut.of_below HB1.out p none)
  have Ng1 : Aside0 (p ≠ g1 ∧ w.heap.size ≤ g1) := ⟨by have l0 := H.out.lt; rw [HG1.out]; omega⟩
  go_wp2_with fail
  refine (thing_call w0 _ p (ts) 10 H1.out).mono ?_
  rintro e w2 hq
  cases hx2 : pThing 10 ts with
  | error x =>
    rw [hx2] at hq
    obtain ⟨rfl, h1, h2⟩ := hq
    have HX' : Aside0 (pOper ts = .error x) := ⟨by rw [HX0.out, hx2]; rfl⟩
    refine ⟨rfl, ?_⟩
    show PPost w0 w p (pOper ts) _ _ _
    rw [HX'.out]
    exact ⟨rfl, h1, K1.out.trans h2 (.inl rfl)⟩
  | ok x =>
    obtain ⟨d, ts1⟩ := x
    rw [hx2] at hq
    obtain ⟨v, rfl, ⟨hd5, hv⟩, h1, h2⟩ := hq
    have HX2 : Aside0 (pOper ts = pBind (pNext 3 ts1) fun _ ts => pBind (pDeed ts) fun x ts => pOperL d 15 [x] ts) := ⟨by rw [HX0.out, hx2]; rfl⟩
    clear hx2
    replace hv : v = .agg #[.int .i64 d.f0, .bool d.f1, .string d.f2, .string d.f3, .int .i64 d.f4, .slice none 0 0, .int .i64 d.f6] := hv
    subst hv
    have HD5 := Aside0.mk hd5
    clear hd5
    have H2 := Aside0.mk h1
    have Bg1_2 : Aside0 (w2.heap[g1]? = _) := ⟨h2.blk BK1.out Ng1.out.1.symm (by simp)⟩
    have K2 := Aside0.mk (K1.out.trans h2 (.inl rfl))
    clear h1 h2
    go_upto_region 2 with (((with_reducible refine gate_dst (N := 3) rfl ?_); refine box_event ?hg (N := 3) ?hd (cs := #[.int .i64 0, .bool false, .string ⟨#[]⟩, .string ⟨#[]⟩, .int .i64 0, .slice none 0 0, .int .i64 0]) (t := 29) ?hr ?_; (case hd => rfl); (case hg => rfl); (case hr => first | (go_simp; done) | (go_simp; rfl)); intro g2 hg_ w3 hbox hb; have HB3 := Aside0.mk hb; have BK3 := Aside0.mk hbox; have HG3 := Aside0.mk hg_; clear hb hbox hg_); have hc0 : w3.cell? ⟨g2, 0, none⟩ = some (.int .i64 0) := (blk_cell BK3.out 0).trans rfl; have fhc0 := blk_frozen BK3.out 0; have hc1 : w3.cell? ⟨g2, 1, none⟩ = some (.bool false) := (blk_cell BK3.out 1).trans rfl; have fhc1 := blk_frozen BK3.out 1; have hc2 : w3.cell? ⟨g2, 2, none⟩ = some (.string ⟨#[]⟩) := (blk_cell BK3.out 2).trans rfl; have fhc2 := blk_frozen BK3.out 2; have hc3 : w3.cell? ⟨g2, 3, none⟩ = some (.string ⟨#[]⟩) := (blk_cell BK3.out 3).trans rfl; have fhc3 := blk_frozen BK3.out 3; have hc4 : w3.cell? ⟨g2, 4, none⟩ = some (.int .i64 0) := (blk_cell BK3.out 4).trans rfl; have fhc4 := blk_frozen BK3.out 4; have hc5 : w3.cell? ⟨g2, 5, none⟩ = some (.slice none 0 0) := (blk_cell BK3.out 5).trans rfl; have fhc5 := blk_frozen BK3.out 5; have hc6 : w3.cell? ⟨g2, 6, none⟩ = some (.int .i64 0) := (blk_cell BK3.out 6).trans rfl; have fhc6 := blk_frozen BK3.out 6)
    have H3 := Aside0.mk (H2.out.step HB3.out)
    have K3 := Aside0.mk (K2.out.trans (KeepBut.of_below HB3.out p none) (.inl rfl))
    have Bg1_3 := Aside0.mk (blk_below Bg1_2.out HB3.out)
    have Ng2 : Aside0 (p ≠ g2 ∧ w.heap.size ≤ g2 ∧ g1 ≠ g2) := ⟨by have l0 := H2.out.lt; have l_g1 := blk_lt Bg1_2.out; have lk := K2.out.1; rw [HG3.out]; omega⟩
    have HO4 := Aside0.mk (onto7_ w3 g2 (.int .i64 d.f0) (.bool d.f1) (.string d.f2) (.string d.f3) (.int .i64 d.f4) (.slice none 0 0) (.int .i64 d.f6))
    have C4 := Aside0.mk (put7_ (b0 := .int .i64 d.f0) (b1 := .bool d.f1) (b2 := .string d.f2) (b3 := .string d.f3) (b4 := .int .i64 d.f4) (b5 := .slice none 0 0) (b6 := .int .i64 d.f6) BK3.out)
    clear hc0 hc1 hc2 hc3 hc4 hc5 hc6 fhc0 fhc1 fhc2 fhc3 fhc4 fhc5 fhc6
    have H4 := Aside0.mk (H3.out.onto HO4.out (Nat.le_trans H.out.size Ng2.out.2.1) Ng2.out.1)
    have K4 := Aside0.mk (HO4.out.keep K3.out (.inl Ng2.out.2.1))
    have Bg1_4 := Aside0.mk (HO4.out.blk Bg1_3.out Ng2.out.2.2)
    generalize (((((((w3.setCell ⟨g2, 0, none⟩ (.int .i64 d.f0)).setCell ⟨g2, 1, none⟩ (.bool d.f1)).setCell ⟨g2, 2, none⟩ (.string d.f2)).setCell ⟨g2, 3, none⟩ (.string d.f3)).setCell ⟨g2, 4, none⟩ (.int .i64 d.f4)).setCell ⟨g2, 5, none⟩ (.slice none 0 0)).setCell ⟨g2, 6, none⟩ (.int .i64 d.f6)) = w4 at *
    go_wp2_with fail
    refine (next_call w0 _ p (ts1) 3 (by decide) H4.out).mono ?_
    rintro e w5 hq
    cases hx5 : pNext 3 ts1 with
    | error x =>
      rw [hx5] at hq
      obtain ⟨rfl, h1, h2⟩ := hq
      have HX' : Aside0 (pOper ts = .error x) := ⟨by rw [HX2.out, hx5]; rfl⟩
      refine ⟨rfl, ?_⟩
      show PPost w0 w p (pOper ts) _ _ _
      rw [HX'.out]
      exact ⟨rfl, h1, K4.out.trans h2 (.inl rfl)⟩
    | ok x =>
      obtain ⟨t3, ts2⟩ := x
      rw [hx5] at hq
      obtain ⟨v, rfl, rfl, h1, h2⟩ := hq
      have HX5 : Aside0 (pOper ts = pBind (pDeed ts2) fun x ts => pOperL d 15 [x] ts) := ⟨by rw [HX2.out, hx5]; rfl⟩
      clear hx5
      have H5 := Aside0.mk h1
      have Bg1_5 : Aside0 (w5.heap[g1]? = _) := ⟨h2.blk Bg1_4.out Ng1.out.1.symm (by simp)⟩
      have Bg2_5 : Aside0 (w5.heap[g2]? = _) := ⟨h2.blk C4.out Ng2.out.1.symm (by simp)⟩
      have K5 := Aside0.mk (K4.out.trans h2 (.inl rfl))
      clear h1 h2
      go_wp2_with fail
      have HPd : Aside0 (PS w0 w5.drew p (ts2)) := ⟨H5.out.step (below_drew1 (Below.refl _ _))⟩
      have B2d : Aside0 (w5.drew.heap[g2]? = _) := ⟨blk_drew Bg2_5.out⟩
      have HRd : Aside0 (Kd.R k60 60 w5.drew w.heap.size (fun _ => True) (.slice none 0 0) ([])) := ⟨Kd.R_drew (Kd.R_nil _ _ _ _ _)⟩
      have Kd_ : Aside0 (KeepBut w w5.drew p none) := ⟨K5.out⟩
      have B1d : Aside0 (w5.drew.heap[g1]? = _) := ⟨blk_drew Bg1_5.out⟩
      have b5 : w5.drew.cell? ⟨g2, 5, none⟩ = some (.slice none 0 0) := (blk_cell B2d.out 5).trans rfl
      have huT := Try.underlying27
      refine start_ (n := 8) (S := fun w' => w'.cell? ⟨g2, 5, none⟩ = some (.slice none 0 0)) (ds := [5, 7]) #[false, false, false, false, false, false, false, false] (by kernel_rfl) rfl rfl (b5) (fun hHeld => ?_)
      refine pure_ (i := 0) (N := some 8) (v := ?_) (a' := ?_) #[true, false, false, false, false, false, false, false] rfl rfl (by kernel_rfl) (fun _ _ _ h => h) (Or.inl ⟨by rfl, ?_⟩) ?_ ?_
      rotate_left
      · intro w'
        go_simp
        with_reducible rfl
      rotate_left
      · simp only [Act.put, List.setIfInBounds_toArray, List.set_cons_zero, List.set_cons_succ, i64_w, i32_w]
        rfl
      refine pure_ (i := 2) (N := some 10) (v := ?_) (a' := ?_) #[true, false, true, false, false, false, false, false] rfl rfl (by kernel_rfl) (fun _ _ _ h => h) (Or.inl ⟨by rfl, ?_⟩) ?_ ?_
      rotate_left
      · intro w'
        go_simp
        with_reducible rfl
      rotate_left
      · simp only [Act.put, List.setIfInBounds_toArray, List.set_cons_zero, List.set_cons_succ, i64_w, i32_w]
        rfl
      refine take_ (i := 1) (N := some 9) (v := ?_) (a' := ?_) #[true, true, true, false, false, false, false, false] rfl rfl (by kernel_rfl) (fun _ _ _ h => h) (Or.inl ⟨by rfl, ?_⟩) hHeld ?_ ?_
      rotate_left
      · intro w' s0
        go_simp
        with_reducible rfl
      rotate_left
      · simp only [Act.put, List.setIfInBounds_toArray, List.set_cons_zero, List.set_cons_succ, i64_w, i32_w]
        rfl
      refine one_ (i := 3) (N := some 11) #[true, true, true, true, false, false, false, false] rfl rfl (by kernel_rfl) (by decide) (fun K hK => ?_)
      refine goesP_ Try.func39 (by kernel_rfl) rfl #[.pointer (some ⟨p, 0, none⟩)] (by rfl) rfl rfl (by simp only [List.map_toArray, List.map_cons, List.map_nil]; rfl) ?_
      refine (deed_call w0 _ p (ts2) HPd.out).mono ?_
      rintro e w6 hq
      rcases hx : pDeed (ts2) with x | ⟨x, ts9⟩
      · rw [hx] at hq
        obtain ⟨rfl, h1, h2⟩ := hq
        have HX' : Aside0 (pOper ts = .error x) := ⟨by rw [HX5.out, hx]; rfl⟩
        refine Or.inr ⟨_, rfl, ?_⟩
        refine ⟨rfl, ?_⟩
        show PPost w0 w p (pOper ts) _ _ _
        rw [HX'.out]
        exact ⟨rfl, h1, Kd_.out.trans h2 (.inl rfl)⟩
      rw [hx] at hq
      obtain ⟨v, rfl, hv, h1, h2⟩ := hq
      replace hv : v = .agg #[.int .i64 x.f0, .string x.f1, .int .i64 x.f2] := hv
      subst hv
      have HX6 : Aside0 (pOper ts = pOperL d 15 [x] ts9) := ⟨by rw [HX5.out, hx]; rfl⟩
      clear hx
      have HR6 : Aside0 (Kd.R k60 60 w6 w.heap.size (fun _ => True) (.slice none 0 0) ([])) := ⟨R_psk HRd.out HPd.out h2⟩
      have B26 : Aside0 (w6.heap[g2]? = _) := ⟨h2.blk B2d.out Ng2.out.1.symm (by simp)⟩
      have B16 : Aside0 (w6.heap[g1]? = _) := ⟨h2.blk B1d.out Ng1.out.1.symm (by simp)⟩
      have H6 := Aside0.mk h1
      have K6 := Aside0.mk (Kd_.out.trans h2 (.inl rfl))
      clear h1 h2
      clear b5
      have b5 : w6.cell? ⟨g2, 5, none⟩ = some (.slice none 0 0) := (blk_cell B26.out 5).trans rfl
      have bw : (w6.alloc (.cells #[.int .i64 x.f0, .string x.f1, .int .i64 x.f2] 60)).cell? ⟨g2, 5, none⟩ = some (.slice none 0 0) := pw_cell_below (below_alloc (Below.refl _ _) _) b5
      refine Or.inl ⟨_, rfl, ?_⟩
      refine hK.out _ _ (b5) (fun hHeld => ?_)
      clear hK K
      refine norm_ (a' := ?_) ?_ ?_
      rotate_left
      · show Act.put _ (some 11) _ = _
        simp only [Act.put, List.setIfInBounds_toArray, List.set_cons_zero, List.set_cons_succ, i64_w, i32_w]
        rfl
      refine one_ (i := 4) (N := some 12) #[true, true, true, true, true, false, false, false] rfl rfl (by kernel_rfl) (by decide) (fun K hK => ?_)
      refine value_ (w1 := ?_) (v := ?_) (by rfl) rfl ?_ ?_
      rotate_left 2
      · go_simp
        constructor
        · rfl
        · rfl
      refine hK.out _ _ (bw) (fun hHeld => ?_)
      clear hK K
      refine norm_ (a' := ?_) ?_ ?_
      rotate_left
      · show Act.put _ (some 12) _ = _
        simp only [Act.put, List.setIfInBounds_toArray, List.set_cons_zero, List.set_cons_succ, i64_w, i32_w]
        rfl
      refine last_ (i := 5) (N := some 13) #[true, true, true, true, true, true, false, false] rfl rfl (by kernel_rfl) (by decide) (fun K hK => ?_)
      refine Kd.R_append_step k60 (w0 := w6) w.heap.size (by rfl) (.tmp 9) (.tmp 12) 27 60 (.agg #[(.int .i64 0), (.string ⟨#[]⟩), (.int .i64 0)]) 32 rfl huT infoDeed rfl (by decide) (by decide) (.slice none 0 0) ([]) x [.int .i64 x.f0, .string x.f1, .int .i64 x.f2] (fun _ => True) (fun _ => False) rfl (by simp [Act.eval]) (k60_mkM _ _ _ x) (fun _ h => h.elim) (fun _ _ => trivial) HR6.out (Below.refl _ _) K6.out.1 (by decide) ?_
      intro v1 wa hO1 hB1 hG1 hA1
      refine hK.out _ _ ?_
      clear hK K
      refine norm_ (a' := ?_) ?_ ?_
      rotate_left
      · show Act.put _ (some 13) _ = _
        simp only [Act.put, List.setIfInBounds_toArray, List.set_cons_zero, List.set_cons_succ, i64_w, i32_w]
        rfl
      refine pure_ (i := 6) (N := some 14) (v := ?_) (a' := ?_) #[true, true, true, true, true, true, true, false] rfl rfl (by kernel_rfl) (fun _ _ _ h => h) (Or.inl ⟨by rfl, ?_⟩) ?_ ?_
      rotate_left
      · intro w'
        go_simp
        with_reducible rfl
      rotate_left
      · simp only [Act.put, List.setIfInBounds_toArray, List.set_cons_zero, List.set_cons_succ, i64_w, i32_w]
        rfl
      refine last_ (i := 7) (N := none) #[true, true, true, true, true, true, true, true] rfl rfl (by kernel_rfl) (by decide) (fun K hK => ?_)
      have BA : Aside0 (wa.heap[g2]? = _) := ⟨blk_grown B26.out hG1 (Kd.R_ne HR6.out B26.out (by decide))⟩
      obtain ⟨A1, p1, ev1⟩ := Kd.R_slice hO1
      obtain ⟨L1, hL1⟩ : ∃ L1, L1 = ([] ++ [x]).length := ⟨_, rfl⟩
      rw [← hL1] at ev1
      subst ev1
      have HL6 := Aside0.mk hL1
      clear hL1
      have f1 := blk_frozen BA.out 5
      have e1 := blk_cell BA.out 5
      refine skip_ (w1 := ?_) (by rfl) rfl ?_ ?_
      rotate_left
      · go_simp
        rfl
      refine hK.out _ _ ?_
      clear hK K
      refine done_ (by kernel_rfl) ?_
      have HO7 := Aside0.mk ((Onto.refl wa g2).set 5 (.slice A1 L1 p1))
      have C7 : Aside0 ((wa.setCell ⟨g2, 5, none⟩ (.slice A1 L1 p1)).heap[g2]? = some (.cells #[.int .i64 d.f0, .bool d.f1, .string d.f2, .string d.f3, .int .i64 d.f4, .slice A1 L1 p1, .int .i64 d.f6] 29 (0, 0))) := ⟨blk_put BA.out 5 _ rfl⟩
      have HPa : Aside0 (PS w0 wa p ts9) := ⟨H6.out.grown hG1 (fun k hk => Nat.le_trans H.out.size (Kd.R_base HR6.out k hk)) (by obtain ⟨cs, hb⟩ := H6.out.pblk; exact Kd.R_ne HR6.out hb (by decide))⟩
      have H7 := Aside0.mk (HPa.out.onto HO7.out (Nat.le_trans H.out.size Ng2.out.2.1) Ng2.out.1)
      have Ka : Aside0 (KeepBut w wa p none) := ⟨K6.out.trans (KeepBut.of_grown hG1 p) (Kd.R_base2 HR6.out)⟩
      have K7 := Aside0.mk (HO7.out.keep Ka.out (.inl Ng2.out.2.1))
      have B1a : Aside0 (wa.heap[g1]? = _) := ⟨blk_grown B16.out hG1 (Kd.R_ne HR6.out B16.out (by decide))⟩
      have Bg1_7 := Aside0.mk (HO7.out.blk B1a.out Ng2.out.2.2)
      have HR7 := Aside0.mk (R_onto_ hO1 BA.out (by decide) HO7.out)
      clear b5 bw e1 f1 huT hO1 hB1 hG1 hA1 HPa Ka B1a BA HPd B2d B1d HRd Kd_ HO7
      generalize (wa.setCell ⟨g2, 5, none⟩ (.slice A1 L1 p1)) = w7 at *
      have HL1 : Aside0 (L1 = 1) := ⟨HL6.out⟩
      go_wp2_with fail
      go_loopg [] 15 (fun k wr => ∃ (tz : List Tk) (xs : List De) (A : Option Addr) (L c : Nat), Aside0 (xs.length + k = 16 ∧ L = xs.length ∧ pOper ts = pOperL d k xs tz) ∧ Aside0 (PS w0 wr p tz) ∧ Aside0 (KeepBut w wr p none) ∧ Aside0 (wr.heap[g1]? = some (.cells #[.int .i64 0, .bool false, .string ⟨#[]⟩, .string ⟨#[]⟩, .int .i64 0, .slice none 0 0, .int .i64 0] 29 (0, 0))) ∧ Aside0 (wr.heap[g2]? = some (.cells #[.int .i64 d.f0, .bool d.f1, .string d.f2, .string d.f3, .int .i64 d.f4, .slice A L c, .int .i64 d.f6] 29 (0, 0))) ∧ Aside0 (Kd.R k60 60 wr w.heap.size (fun _ => True) (.slice A L c) xs))
      case atStart => exact ⟨ts9, [x], A1, L1, p1, ⟨rfl, HL1.out, HX6.out⟩, H7, K7, Bg1_7, C7, HR7⟩
      case round =>
        obtain ⟨tz, xs, A, L, c, HQ, Hr, Kr, Br1, Br2, HRr⟩ := hrel
        obtain ⟨ad, n, cc, hnl, hn, hnc, hn4, hb, hx0, hx1, hx2, hx3⟩ := Hr.out.head
        have hp0 : wr.cell? ⟨p, 0, none⟩ = some (.slice (some ad) n cc) := (blk_cell hb 0).trans rfl
        have q0 : (0 : Int) < (n : Int) := by omega
        have hd5 : wr.cell? ⟨g2, 5, none⟩ = some (.slice A L c) := (blk_cell Br2.out 5).trans rfl
        clear hnl hb hx1 hx2 hx3
        cases hk4 : ((hdT tz).f0 == 4) with
        | false =>
          have HX9 : Aside0 (pOper ts = .ok ({ d with f5 := xs }, tz)) := ⟨by rw [HQ.out.2.2]; cases gk with | zero => rfl | succ k => rw [pOperL, if_neg (by simpa using hk4)]⟩
          have hy0 : wr.cell? ⟨g2, 0, none⟩ = some (.int .i64 d.f0) := (blk_cell Br2.out 0).trans rfl
          have hy1 : wr.cell? ⟨g2, 1, none⟩ = some (.bool d.f1) := (blk_cell Br2.out 1).trans rfl
          have hy2 : wr.cell? ⟨g2, 2, none⟩ = some (.string d.f2) := (blk_cell Br2.out 2).trans rfl
          have hy3 : wr.cell? ⟨g2, 3, none⟩ = some (.string d.f3) := (blk_cell Br2.out 3).trans rfl
          have hy4 : wr.cell? ⟨g2, 4, none⟩ = some (.int .i64 d.f4) := (blk_cell Br2.out 4).trans rfl
          have hy5 : wr.cell? ⟨g2, 5, none⟩ = some (.slice A L c) := (blk_cell Br2.out 5).trans rfl
          have hy6 : wr.cell? ⟨g2, 6, none⟩ = some (.int .i64 d.f6) := (blk_cell Br2.out 6).trans rfl
          have hc0 : wr.cell? ⟨g1, 0, none⟩ = some (.int .i64 0) := (blk_cell Br1.out 0).trans rfl
          have fhc0 := blk_frozen Br1.out 0
          have hc1 : wr.cell? ⟨g1, 1, none⟩ = some (.bool false) := (blk_cell Br1.out 1).trans rfl
          have fhc1 := blk_frozen Br1.out 1
          have hc2 : wr.cell? ⟨g1, 2, none⟩ = some (.string ⟨#[]⟩) := (blk_cell Br1.out 2).trans rfl
          have fhc2 := blk_frozen Br1.out 2
          have hc3 : wr.cell? ⟨g1, 3, none⟩ = some (.string ⟨#[]⟩) := (blk_cell Br1.out 3).trans rfl
          have fhc3 := blk_frozen Br1.out 3
          have hc4 : wr.cell? ⟨g1, 4, none⟩ = some (.int .i64 0) := (blk_cell Br1.out 4).trans rfl
          have fhc4 := blk_frozen Br1.out 4
          have hc5 : wr.cell? ⟨g1, 5, none⟩ = some (.slice none 0 0) := (blk_cell Br1.out 5).trans rfl
          have fhc5 := blk_frozen Br1.out 5
          have hc6 : wr.cell? ⟨g1, 6, none⟩ = some (.int .i64 0) := (blk_cell Br1.out 6).trans rfl
          have fhc6 := blk_frozen Br1.out 6
          go_wp2_with fail
          have HO51 := Aside0.mk (onto7_ wr g1 (.int .i64 d.f0) (.bool d.f1) (.string d.f2) (.string d.f3) (.int .i64 d.f4) (.slice A L c) (.int .i64 d.f6))
          have C51 := Aside0.mk (put7_ (b0 := .int .i64 d.f0) (b1 := .bool d.f1) (b2 := .string d.f2) (b3 := .string d.f3) (b4 := .int .i64 d.f4) (b5 := .slice A L c) (b6 := .int .i64 d.f6) Br1.out)
          clear hy0 hy1 hy2 hy3 hy4 hy5 hy6 hc0 hc1 hc2 hc3 hc4 hc5 hc6 fhc0 fhc1 fhc2 fhc3 fhc4 fhc5 fhc6
          have H51 := Aside0.mk (Hr.out.onto HO51.out (Nat.le_trans H.out.size Ng1.out.2) Ng1.out.1)
          have K51 := Aside0.mk (HO51.out.keep Kr.out (.inl Ng1.out.2))
          have Bg2_51 := Aside0.mk (HO51.out.blk Br2.out Ng2.out.2.2.symm)
          generalize (((((((wr.setCell ⟨g1, 0, none⟩ (.int .i64 d.f0)).setCell ⟨g1, 1, none⟩ (.bool d.f1)).setCell ⟨g1, 2, none⟩ (.string d.f2)).setCell ⟨g1, 3, none⟩ (.string d.f3)).setCell ⟨g1, 4, none⟩ (.int .i64 d.f4)).setCell ⟨g1, 5, none⟩ (.slice A L c)).setCell ⟨g1, 6, none⟩ (.int .i64 d.f6)) = w51 at *
          have HRz := Aside0.mk (R_onto_ HRr.out Br1.out (by decide) HO51.out)
          have hz0 : w51.cell? ⟨g1, 0, none⟩ = some (.int .i64 d.f0) := (blk_cell C51.out 0).trans rfl
          have hz1 : w51.cell? ⟨g1, 1, none⟩ = some (.bool d.f1) := (blk_cell C51.out 1).trans rfl
          have hz2 : w51.cell? ⟨g1, 2, none⟩ = some (.string d.f2) := (blk_cell C51.out 2).trans rfl
          have hz3 : w51.cell? ⟨g1, 3, none⟩ = some (.string d.f3) := (blk_cell C51.out 3).trans rfl
          have hz4 : w51.cell? ⟨g1, 4, none⟩ = some (.int .i64 d.f4) := (blk_cell C51.out 4).trans rfl
          have hz5 : w51.cell? ⟨g1, 5, none⟩ = some (.slice A L c) := (blk_cell C51.out 5).trans rfl
          have hz6 : w51.cell? ⟨g1, 6, none⟩ = some (.int .i64 d.f6) := (blk_cell C51.out 6).trans rfl
          refine bodyPost_ret (v := dlV { d with f5 := xs } (.slice A L c)) (by simp [results, Try.results27, go_sem, hz0, hz1, hz2, hz3, hz4, hz5, hz6, dlV, deV]) rfl ?_
          show PPost w0 w p (pOper ts) _ _ _
          rw [HX9.out]
          exact ⟨_, rfl, ⟨_, rfl, HRz.out⟩, H51.out, K51.out⟩
        | true =>
          have HK4 : Aside0 ((hdT tz).f0 = 4) := ⟨by simpa using hk4⟩
          cases gk with
          | zero =>
            have HX9 : Aside0 (pOper ts = .ok ({ d with f5 := xs }, tz)) := ⟨by rw [HQ.out.2.2]; rfl⟩
            have hL : decide ((L : Int) < 16) = false := by have := HQ.out.1; have := HQ.out.2.1; simp; omega
            have hy0 : wr.cell? ⟨g2, 0, none⟩ = some (.int .i64 d.f0) := (blk_cell Br2.out 0).trans rfl
            have hy1 : wr.cell? ⟨g2, 1, none⟩ = some (.bool d.f1) := (blk_cell Br2.out 1).trans rfl
            have hy2 : wr.cell? ⟨g2, 2, none⟩ = some (.string d.f2) := (blk_cell Br2.out 2).trans rfl
            have hy3 : wr.cell? ⟨g2, 3, none⟩ = some (.string d.f3) := (blk_cell Br2.out 3).trans rfl
            have hy4 : wr.cell? ⟨g2, 4, none⟩ = some (.int .i64 d.f4) := (blk_cell Br2.out 4).trans rfl
            have hy5 : wr.cell? ⟨g2, 5, none⟩ = some (.slice A L c) := (blk_cell Br2.out 5).trans rfl
            have hy6 : wr.cell? ⟨g2, 6, none⟩ = some (.int .i64 d.f6) := (blk_cell Br2.out 6).trans rfl
            have hc0 : wr.cell? ⟨g1, 0, none⟩ = some (.int .i64 0) := (blk_cell Br1.out 0).trans rfl
            have fhc0 := blk_frozen Br1.out 0
            have hc1 : wr.cell? ⟨g1, 1, none⟩ = some (.bool false) := (blk_cell Br1.out 1).trans rfl
            have fhc1 := blk_frozen Br1.out 1
            have hc2 : wr.cell? ⟨g1, 2, none⟩ = some (.string ⟨#[]⟩) := (blk_cell Br1.out 2).trans rfl
            have fhc2 := blk_frozen Br1.out 2
            have hc3 : wr.cell? ⟨g1, 3, none⟩ = some (.string ⟨#[]⟩) := (blk_cell Br1.out 3).trans rfl
            have fhc3 := blk_frozen Br1.out 3
            have hc4 : wr.cell? ⟨g1, 4, none⟩ = some (.int .i64 0) := (blk_cell Br1.out 4).trans rfl
            have fhc4 := blk_frozen Br1.out 4
            have hc5 : wr.cell? ⟨g1, 5, none⟩ = some (.slice none 0 0) := (blk_cell Br1.out 5).trans rfl
            have fhc5 := blk_frozen Br1.out 5
            have hc6 : wr.cell? ⟨g1, 6, none⟩ = some (.int .i64 0) := (blk_cell Br1.out 6).trans rfl
            have fhc6 := blk_frozen Br1.out 6
            go_wp2_with fail
            have HO51 := Aside0.mk (onto7_ wr g1 (.int .i64 d.f0) (.bool d.f1) (.string d.f2) (.string d.f3) (.int .i64 d.f4) (.slice A L c) (.int .i64 d.f6))
            have C51 := Aside0.mk (put7_ (b0 := .int .i64 d.f0) (b1 := .bool d.f1) (b2 := .string d.f2) (b3 := .string d.f3) (b4 := .int .i64 d.f4) (b5 := .slice A L c) (b6 := .int .i64 d.f6) Br1.out)
            clear hy0 hy1 hy2 hy3 hy4 hy5 hy6 hc0 hc1 hc2 hc3 hc4 hc5 hc6 fhc0 fhc1 fhc2 fhc3 fhc4 fhc5 fhc6
            have H51 := Aside0.mk (Hr.out.onto HO51.out (Nat.le_trans H.out.size Ng1.out.2) Ng1.out.1)
            have K51 := Aside0.mk (HO51.out.keep Kr.out (.inl Ng1.out.2))
            have Bg2_51 := Aside0.mk (HO51.out.blk Br2.out Ng2.out.2.2.symm)
            generalize (((((((wr.setCell ⟨g1, 0, none⟩ (.int .i64 d.f0)).setCell ⟨g1, 1, none⟩ (.bool d.f1)).setCell ⟨g1, 2, none⟩ (.string d.f2)).setCell ⟨g1, 3, none⟩ (.string d.f3)).setCell ⟨g1, 4, none⟩ (.int .i64 d.f4)).setCell ⟨g1, 5, none⟩ (.slice A L c)).setCell ⟨g1, 6, none⟩ (.int .i64 d.f6)) = w51 at *
            have HRz := Aside0.mk (R_onto_ HRr.out Br1.out (by decide) HO51.out)
            have hz0 : w51.cell? ⟨g1, 0, none⟩ = some (.int .i64 d.f0) := (blk_cell C51.out 0).trans rfl
            have hz1 : w51.cell? ⟨g1, 1, none⟩ = some (.bool d.f1) := (blk_cell C51.out 1).trans rfl
            have hz2 : w51.cell? ⟨g1, 2, none⟩ = some (.string d.f2) := (blk_cell C51.out 2).trans rfl
            have hz3 : w51.cell? ⟨g1, 3, none⟩ = some (.string d.f3) := (blk_cell C51.out 3).trans rfl
            have hz4 : w51.cell? ⟨g1, 4, none⟩ = some (.int .i64 d.f4) := (blk_cell C51.out 4).trans rfl
            have hz5 : w51.cell? ⟨g1, 5, none⟩ = some (.slice A L c) := (blk_cell C51.out 5).trans rfl
            have hz6 : w51.cell? ⟨g1, 6, none⟩ = some (.int .i64 d.f6) := (blk_cell C51.out 6).trans rfl
            refine bodyPost_ret (v := dlV { d with f5 := xs } (.slice A L c)) (by simp [results, Try.results27, go_sem, hz0, hz1, hz2, hz3, hz4, hz5, hz6, dlV, deV]) rfl ?_
            show PPost w0 w p (pOper ts) _ _ _
            rw [HX9.out]
            exact ⟨_, rfl, ⟨_, rfl, HRz.out⟩, H51.out, K51.out⟩
          | succ k =>
            have hL : decide ((L : Int) < 16) = true := by have := HQ.out.1; have := HQ.out.2.1; simp; omega
            have HX9 : Aside0 (pOper ts = pBind (pNext 4 tz) fun _ ts => pBind (pDeed ts) fun x ts => pOperL d k (xs ++ [x]) ts) := ⟨by rw [HQ.out.2.2, pOperL, if_pos HK4.out]⟩
            go_wp2_with fail
            clear hd5 hp0 hx0
            refine (next_call w0 _ p (tz) 4 (by decide) Hr.out).mono ?_
            rintro e w51 hq
            cases hx51 : pNext 4 tz with
            | error x =>
              rw [hx51] at hq
              obtain ⟨rfl, h1, h2⟩ := hq
              have HX' : Aside0 (pOper ts = .error x) := ⟨by rw [HX9.out, hx51]; rfl⟩
              refine ⟨rfl, ?_⟩
              show PPost w0 w p (pOper ts) _ _ _
              rw [HX'.out]
              exact ⟨rfl, h1, Kr.out.trans h2 (.inl rfl)⟩
            | ok x =>
              obtain ⟨t4, ts2⟩ := x
              rw [hx51] at hq
              obtain ⟨v, rfl, rfl, h1, h2⟩ := hq
              have HX51 : Aside0 (pOper ts = pBind (pDeed ts2) fun x ts => pOperL d k (xs ++ [x]) ts) := ⟨by rw [HX9.out, hx51]; rfl⟩
              clear hx51
              have H51 := Aside0.mk h1
              have HKn := Aside0.mk h2
              have Bg1_51 : Aside0 (w51.heap[g1]? = _) := ⟨h2.blk Br1.out Ng1.out.1.symm (by simp)⟩
              have Bg2_51 : Aside0 (w51.heap[g2]? = _) := ⟨h2.blk Br2.out Ng2.out.1.symm (by simp)⟩
              have K51 := Aside0.mk (Kr.out.trans h2 (.inl rfl))
              clear h1 h2
              have HRn := Aside0.mk (R_psk HRr.out Hr.out (show KeepBut wr w51 p none from HKn.out))
              go_wp2_with fail
              have HPd : Aside0 (PS w0 w51.drew p (ts2)) := ⟨H51.out.step (below_drew1 (Below.refl _ _))⟩
              have B2d : Aside0 (w51.drew.heap[g2]? = _) := ⟨blk_drew Bg2_51.out⟩
              have HRd : Aside0 (Kd.R k60 60 w51.drew w.heap.size (fun _ => True) (.slice A L c) (xs)) := ⟨Kd.R_drew HRn.out⟩
              have Kd_ : Aside0 (KeepBut w w51.drew p none) := ⟨K51.out⟩
              have B1d : Aside0 (w51.drew.heap[g1]? = _) := ⟨blk_drew Bg1_51.out⟩
              have b5 : w51.drew.cell? ⟨g2, 5, none⟩ = some (.slice A L c) := (blk_cell B2d.out 5).trans rfl
              have huT := Try.underlying27
              refine start_ (n := 8) (S := fun w' => w'.cell? ⟨g2, 5, none⟩ = some (.slice A L c)) (ds := [5, 7]) #[false, false, false, false, false, false, false, false] (by kernel_rfl) rfl rfl (b5) (fun hHeld => ?_)
              refine pure_ (i := 0) (N := some 31) (v := ?_) (a' := ?_) #[true, false, false, false, false, false, false, false] rfl rfl (by kernel_rfl) (fun _ _ _ h => h) (Or.inl ⟨by rfl, ?_⟩) ?_ ?_
              rotate_left
              · intro w'
                go_simp
                with_reducible rfl
              rotate_left
              · simp only [Act.put, List.setIfInBounds_toArray, List.set_cons_zero, List.set_cons_succ, i64_w, i32_w]
                rfl
              refine pure_ (i := 2) (N := some 33) (v := ?_) (a' := ?_) #[true, false, true, false, false, false, false, false] rfl rfl (by kernel_rfl) (fun _ _ _ h => h) (Or.inl ⟨by rfl, ?_⟩) ?_ ?_
              rotate_left
              · intro w'
                go_simp
                with_reducible rfl
              rotate_left
              · simp only [Act.put, List.setIfInBounds_toArray, List.set_cons_zero, List.set_cons_succ, i64_w, i32_w]
                rfl
              refine take_ (i := 1) (N := some 32) (v := ?_) (a' := ?_) #[true, true, true, false, false, false, false, false] rfl rfl (by kernel_rfl) (fun _ _ _ h => h) (Or.inl ⟨by rfl, ?_⟩) hHeld ?_ ?_
              rotate_left
              · intro w' s0
                go_simp
                with_reducible rfl
              rotate_left
              · simp only [Act.put, List.setIfInBounds_toArray, List.set_cons_zero, List.set_cons_succ, i64_w, i32_w]
                rfl
              refine one_ (i := 3) (N := some 34) #[true, true, true, true, false, false, false, false] rfl rfl (by kernel_rfl) (by decide) (fun K hK => ?_)
              refine goesP_ Try.func39 (by kernel_rfl) rfl #[.pointer (some ⟨p, 0, none⟩)] (by rfl) rfl rfl (by simp only [List.map_toArray, List.map_cons, List.map_nil]; rfl) ?_
              refine (deed_call w0 _ p (ts2) HPd.out).mono ?_
              rintro e w52 hq
              rcases hx : pDeed (ts2) with x | ⟨x, ts9⟩
              · rw [hx] at hq
                obtain ⟨rfl, h1, h2⟩ := hq
                have HX' : Aside0 (pOper ts = .error x) := ⟨by rw [HX51.out, hx]; rfl⟩
                refine Or.inr ⟨_, rfl, ?_⟩
                refine ⟨rfl, ?_⟩
                show PPost w0 w p (pOper ts) _ _ _
                rw [HX'.out]
                exact ⟨rfl, h1, Kd_.out.trans h2 (.inl rfl)⟩
              rw [hx] at hq
              obtain ⟨v, rfl, hv, h1, h2⟩ := hq
              replace hv : v = .agg #[.int .i64 x.f0, .string x.f1, .int .i64 x.f2] := hv
              subst hv
              have HX52 : Aside0 (pOper ts = pOperL d k (xs ++ [x]) ts9) := ⟨by rw [HX51.out, hx]; rfl⟩
              clear hx
              have HR52 : Aside0 (Kd.R k60 60 w52 w.heap.size (fun _ => True) (.slice A L c) (xs)) := ⟨R_psk HRd.out HPd.out h2⟩
              have B252 : Aside0 (w52.heap[g2]? = _) := ⟨h2.blk B2d.out Ng2.out.1.symm (by simp)⟩
              have B152 : Aside0 (w52.heap[g1]? = _) := ⟨h2.blk B1d.out Ng1.out.1.symm (by simp)⟩
              have H52 := Aside0.mk h1
              have K52 := Aside0.mk (Kd_.out.trans h2 (.inl rfl))
              clear h1 h2
              clear b5
              have b5 : w52.cell? ⟨g2, 5, none⟩ = some (.slice A L c) := (blk_cell B252.out 5).trans rfl
              have bw : (w52.alloc (.cells #[.int .i64 x.f0, .string x.f1, .int .i64 x.f2] 60)).cell? ⟨g2, 5, none⟩ = some (.slice A L c) := pw_cell_below (below_alloc (Below.refl _ _) _) b5
              refine Or.inl ⟨_, rfl, ?_⟩
              refine hK.out _ _ (b5) (fun hHeld => ?_)
              clear hK K
              refine norm_ (a' := ?_) ?_ ?_
              rotate_left
              · show Act.put _ (some 34) _ = _
                simp only [Act.put, List.setIfInBounds_toArray, List.set_cons_zero, List.set_cons_succ, i64_w, i32_w]
                rfl
              refine one_ (i := 4) (N := some 35) #[true, true, true, true, true, false, false, false] rfl rfl (by kernel_rfl) (by decide) (fun K hK => ?_)
              refine value_ (w1 := ?_) (v := ?_) (by rfl) rfl ?_ ?_
              rotate_left 2
              · go_simp
                constructor
                · rfl
                · rfl
              refine hK.out _ _ (bw) (fun hHeld => ?_)
              clear hK K
              refine norm_ (a' := ?_) ?_ ?_
              rotate_left
              · show Act.put _ (some 35) _ = _
                simp only [Act.put, List.setIfInBounds_toArray, List.set_cons_zero, List.set_cons_succ, i64_w, i32_w]
                rfl
              refine last_ (i := 5) (N := some 36) #[true, true, true, true, true, true, false, false] rfl rfl (by kernel_rfl) (by decide) (fun K hK => ?_)
              refine Kd.R_append_step k60 (w0 := w52) w.heap.size (by rfl) (.tmp 32) (.tmp 35) 27 60 (.agg #[(.int .i64 0), (.string ⟨#[]⟩), (.int .i64 0)]) 32 rfl huT infoDeed rfl (by decide) (by decide) (.slice A L c) (xs) x [.int .i64 x.f0, .string x.f1, .int .i64 x.f2] (fun _ => True) (fun _ => False) rfl (by simp [Act.eval]) (k60_mkM _ _ _ x) (fun _ h => h.elim) (fun _ _ => trivial) HR52.out (Below.refl _ _) K52.out.1 (by have := HQ.out.1; omega) ?_
              intro v1 wa hO1 hB1 hG1 hA1
              refine hK.out _ _ ?_
              clear hK K
              refine norm_ (a' := ?_) ?_ ?_
              rotate_left
              · show Act.put _ (some 36) _ = _
                simp only [Act.put, List.setIfInBounds_toArray, List.set_cons_zero, List.set_cons_succ, i64_w, i32_w]
                rfl
              refine pure_ (i := 6) (N := some 37) (v := ?_) (a' := ?_) #[true, true, true, true, true, true, true, false] rfl rfl (by kernel_rfl) (fun _ _ _ h => h) (Or.inl ⟨by rfl, ?_⟩) ?_ ?_
              rotate_left
              · intro w'
                go_simp
                with_reducible rfl
              rotate_left
              · simp only [Act.put, List.setIfInBounds_toArray, List.set_cons_zero, List.set_cons_succ, i64_w, i32_w]
                rfl
              refine last_ (i := 7) (N := none) #[true, true, true, true, true, true, true, true] rfl rfl (by kernel_rfl) (by decide) (fun K hK => ?_)
              have BA : Aside0 (wa.heap[g2]? = _) := ⟨blk_grown B252.out hG1 (Kd.R_ne HR52.out B252.out (by decide))⟩
              obtain ⟨A1, p1, ev1⟩ := Kd.R_slice hO1
              obtain ⟨L1, hL1⟩ : ∃ L1, L1 = (xs ++ [x]).length := ⟨_, rfl⟩
              rw [← hL1] at ev1
              subst ev1
              have HL52 := Aside0.mk hL1
              clear hL1
              have f1 := blk_frozen BA.out 5
              have e1 := blk_cell BA.out 5
              refine skip_ (w1 := ?_) (by rfl) rfl ?_ ?_
              rotate_left
              · go_simp
                rfl
              refine hK.out _ _ ?_
              clear hK K
              refine done_ (by kernel_rfl) ?_
              have HO53 := Aside0.mk ((Onto.refl wa g2).set 5 (.slice A1 L1 p1))
              have C53 : Aside0 ((wa.setCell ⟨g2, 5, none⟩ (.slice A1 L1 p1)).heap[g2]? = some (.cells #[.int .i64 d.f0, .bool d.f1, .string d.f2, .string d.f3, .int .i64 d.f4, .slice A1 L1 p1, .int .i64 d.f6] 29 (0, 0))) := ⟨blk_put BA.out 5 _ rfl⟩
              have HPa : Aside0 (PS w0 wa p ts9) := ⟨H52.out.grown hG1 (fun k hk => Nat.le_trans H.out.size (Kd.R_base HR52.out k hk)) (by obtain ⟨cs, hb⟩ := H52.out.pblk; exact Kd.R_ne HR52.out hb (by decide))⟩
              have H53 := Aside0.mk (HPa.out.onto HO53.out (Nat.le_trans H.out.size Ng2.out.2.1) Ng2.out.1)
              have Ka : Aside0 (KeepBut w wa p none) := ⟨K52.out.trans (KeepBut.of_grown hG1 p) (Kd.R_base2 HR52.out)⟩
              have K53 := Aside0.mk (HO53.out.keep Ka.out (.inl Ng2.out.2.1))
              have B1a : Aside0 (wa.heap[g1]? = _) := ⟨blk_grown B152.out hG1 (Kd.R_ne HR52.out B152.out (by decide))⟩
              have Bg1_53 := Aside0.mk (HO53.out.blk B1a.out Ng2.out.2.2)
              have HR53 := Aside0.mk (R_onto_ hO1 BA.out (by decide) HO53.out)
              clear b5 bw e1 f1 huT hO1 hB1 hG1 hA1 HPa Ka B1a BA HPd B2d B1d HRd Kd_ HO53
              generalize (wa.setCell ⟨g2, 5, none⟩ (.slice A1 L1 p1)) = w53 at *
              go_wp2_with fail
              go_roundg k
              case measure => omega
              case rel => exact ⟨ts9, xs ++ [x], A1, L1, p1, ⟨⟨by have := HQ.out.1; simp; omega, HL52.out, HX52.out⟩⟩, H53, K53, Bg1_53, C53, HR53⟩
end Go.Proofs.Ytmhenlilcikgmaa.X

/- Joined texts of this session: PaG, PaI, LexT, PaT, PaU, PaH. -/
import Derived.Defers
import Derived.Recover
import Derived.Test.YtmhenlilcikgmaaJE1
import Derived.Test.YtmhenlilcikgmaaJE2
/- The parser's decl, walked. -/
set_option linter.unusedSimpArgs false
set_option linter.unusedVariables false
namespace Go.Proofs.Ytmhenlilcikgmaa.X
open Go.RowKit Go.Proofs.YtmhenlilcikgmaaW.PrintWords Go.Proofs.YtmhenlilcikgmaaW.PrintLast Go.Proofs.YtmhenlilcikgmaaW.PrintMore

def pDecl0 (ts : List Tk) : PR Dl := if pWordB (⟨#[115, 101, 116]⟩ : ByteArray) ts then pThing 1 ts.tail else if pWordB (⟨#[99, 111, 117, 110, 116]⟩ : ByteArray) ts then pThing 2 ts.tail else if pWordB (⟨#[110, 111, 116, 101]⟩ : ByteArray) ts then pThing 3 ts.tail else if pWordB (⟨#[114, 117, 108, 101]⟩ : ByteArray) ts then pRule ts.tail else if pWordB (⟨#[111, 112]⟩ : ByteArray) ts then pOper ts.tail else pFail 2 ts
def pEnd (ln : Int) (d : Dl) (ts : List Tk) : PR Dl := if (hdT ts).f0 = 0 then .ok ({ d with f6 := ln }, ts) else pBind (pNext 5 ts) fun _ ts => .ok ({ d with f6 := ln }, ts)
def pDecl (ts : List Tk) : PR Dl := pBind (pDecl0 ts) (pEnd (hdT ts).f3)
theorem PPost.enc {α : Type} {w0 w : World} {p : Nat} {x : PR α} {enc enc' : World → Value → α → Prop} (hi : ∀ w v a, enc w v a → enc' w v a) {e : Ending} {w' : World} (h : PPost w0 w p x enc e w') : PPost w0 w p x enc' e w' := by
  unfold PPost at h ⊢
  split at h
  · obtain ⟨v, h1, h2, h3⟩ := h
    exact ⟨v, h1, hi _ _ _ h2, h3⟩
  · exact h
theorem enc_of0 (base : Nat) (w : World) (v : Value) (d : Dl) (h : EncD0 w v d) : EncD base w v d := by
  obtain ⟨h5, rfl⟩ := h
  exact ⟨_, rfl, by rw [h5]; exact Kd.R_nil _ _ _ _ _⟩
theorem thing_callD (w0 w : World) (p : Nat) (ts : List Tk) (k : Int) (h : PS w0 w p ts) :
    Calls Try.prog 25 #[.pointer (some ⟨p, 0, none⟩), .int .i64 k] w fun e w' => PPost w0 w p (pThing k ts) (EncD w.heap.size) e w' :=
  (thing_call w0 w p ts k h).mono fun _ _ h => h.enc (enc_of0 _)
theorem rule_callD (w0 w : World) (p : Nat) (ts : List Tk) (h : PS w0 w p ts) :
    Calls Try.prog 26 #[.pointer (some ⟨p, 0, none⟩)] w fun e w' => PPost w0 w p (pRule ts) (EncD w.heap.size) e w' :=
  (rule_call w0 w p ts h).mono fun _ _ h => h.enc (enc_of0 _)

set_option maxHeartbeats 16000000 in
set_option maxRecDepth 1000000 in
theorem decl_call (w0 w : World) (p : Nat) (ts : List Tk) (h : PS w0 w p ts) :
    Calls Try.prog 15 #[.pointer (some ⟨p, 0, none⟩)] w fun e w' => PPost w0 w p (pDecl ts) (EncD w.heap.size) e w' := by
  have H := Aside0.mk h
  clear h
  cases hw0 : pWordB (⟨#[115, 101, 116]⟩ : ByteArray) ts with
  | true =>
    have HW0 : Aside0 (pWordB (⟨#[115, 101, 116]⟩ : ByteArray) ts = true) := ⟨hw0⟩
    clear hw0
    have HX0 : Aside0 (pDecl ts = pBind (pThing 1 ts.tail) (pEnd (hdT ts).f3)) := ⟨by unfold pDecl pDecl0; rw [HW0.out]; rfl⟩
    go_enter Try.func15, Try.ntmps15
    go_upto_region 1 with (((with_reducible refine gate_dst (N := 2) rfl ?_); refine box_event ?hg (N := 2) ?hd (cs := #[.int .i64 0, .bool false, .string ⟨#[]⟩, .string ⟨#[]⟩, .int .i64 0, .slice none 0 0, .int .i64 0]) (t := 29) ?hr ?_; (case hd => rfl); (case hg => rfl); (case hr => first | (go_simp; done) | (go_simp; rfl)); intro g1 hg_ w1 hbox hb; have HB1 := Aside0.mk hb; have BK1 := Aside0.mk hbox; have HG1 := Aside0.mk hg_; clear hb hbox hg_))
    have H1 := Aside0.mk (H.out.step HB1.out)
    have K1 := Aside0.mk (KeepBut.of_below HB1.out p none)
    have Ng1 : Aside0 (p ≠ g1 ∧ w.heap.size ≤ g1) := ⟨by have l0 := H.out.lt; rw [HG1.out]; omega⟩
    obtain ⟨ada, na, cca, hnl, hna, hnca, hn4a, hb, hx0, hx1, hx2, hx3⟩ := H1.out.head
    have hp0 : w1.cell? ⟨p, 0, none⟩ = some (.slice (some ada) na cca) := (blk_cell hb 0).trans rfl
    have q0 : (0 : Int) < (na : Int) := by omega
    clear hnl hb
    go_upto_region 2 with (fail)
    clear hp0 hx0 hx1 hx2 hx3 q0
    go_upto_region 4 with (((with_reducible refine gate_dst (N := 4) rfl ?_); refine box_event ?hg (N := 4) ?hd (cs := #[.int .i64 0, .bool false, .string ⟨#[]⟩, .string ⟨#[]⟩, .int .i64 0, .slice none 0 0, .int .i64 0]) (t := 29) ?hr ?_; (case hd => rfl); (case hg => rfl); (case hr => first | (go_simp; done) | (go_simp; rfl)); intro g2 hg_ w2 hbox hb; have HB2 := Aside0.mk hb; have BK2 := Aside0.mk hbox; have HG2 := Aside0.mk hg_; clear hb hbox hg_))
    have H2 := Aside0.mk (H1.out.step HB2.out)
    have K2 := Aside0.mk (K1.out.trans (KeepBut.of_below HB2.out p none) (.inl rfl))
    have Bg1_2 := Aside0.mk (blk_below BK1.out HB2.out)
    have Ng2 : Aside0 (p ≠ g2 ∧ w.heap.size ≤ g2 ∧ g1 ≠ g2) := ⟨by have l0 := H1.out.lt; have l_g1 := blk_lt BK1.out; have lk := K1.out.1; rw [HG2.out]; omega⟩
    go_wp2_with fail
    refine (pword_call w0 _ p (ts) (⟨#[115, 101, 116]⟩ : ByteArray) H2.out).mono ?_
    rintro e w3 ⟨rfl, h1, h2⟩
    rw [HW0.out]
    rw [pWordT_t HW0.out] at h1
    have H3 := Aside0.mk h1
    have Bg1_3 : Aside0 (w3.heap[g1]? = _) := ⟨h2.blk Bg1_2.out Ng1.out.1.symm (by simp)⟩
    have Bg2_3 : Aside0 (w3.heap[g2]? = _) := ⟨h2.blk BK2.out Ng2.out.1.symm (by simp)⟩
    have K3 := Aside0.mk (K2.out.trans h2 (.inl rfl))
    clear h1 h2
    go_wp2_with fail
    refine (thing_callD w0 _ p ((ts).tail) 1 H3.out).mono ?_
    rintro e w4 hq
    cases hx4 : pThing 1 ts.tail with
    | error x =>
      rw [hx4] at hq
      obtain ⟨rfl, h1, h2⟩ := hq
      have HX' : Aside0 (pDecl ts = .error x) := ⟨by rw [HX0.out, hx4]; rfl⟩
      refine ⟨rfl, ?_⟩
      show PPost w0 w p (pDecl ts) _ _ _
      rw [HX'.out]
      exact ⟨rfl, h1, K3.out.trans h2 (.inl rfl)⟩
    | ok x =>
      obtain ⟨d, ts1⟩ := x
      rw [hx4] at hq
      obtain ⟨v, rfl, ⟨vd, hv, hR⟩, h1, h2⟩ := hq
      have HX4 : Aside0 (pDecl ts = pEnd (hdT ts).f3 d ts1) := ⟨by rw [HX0.out, hx4]; rfl⟩
      clear hx4
      obtain ⟨A, cv, hvd⟩ := Kd.R_slice hR
      subst hvd
      replace hv : v = .agg #[.int .i64 d.f0, .bool d.f1, .string d.f2, .string d.f3, .int .i64 d.f4, .slice A d.f5.length cv, .int .i64 d.f6] := hv
      subst hv
      have HR4 : Aside0 (Kd.R k60 60 w4 w.heap.size (fun _ => True) (.slice A d.f5.length cv) d.f5) := ⟨Kd.R_lower hR K3.out.1⟩
      clear hR
      have H4 := Aside0.mk h1
      have Bg1_4 : Aside0 (w4.heap[g1]? = _) := ⟨h2.blk Bg1_3.out Ng1.out.1.symm (by simp)⟩
      have Bg2_4 : Aside0 (w4.heap[g2]? = _) := ⟨h2.blk Bg2_3.out Ng2.out.1.symm (by simp)⟩
      have K4 := Aside0.mk (K3.out.trans h2 (.inl rfl))
      clear h1 h2
      have hc0 : w4.cell? ⟨g2, 0, none⟩ = some (.int .i64 0) := (blk_cell Bg2_4.out 0).trans rfl
      have fhc0 := blk_frozen Bg2_4.out 0
      have hc1 : w4.cell? ⟨g2, 1, none⟩ = some (.bool false) := (blk_cell Bg2_4.out 1).trans rfl
      have fhc1 := blk_frozen Bg2_4.out 1
      have hc2 : w4.cell? ⟨g2, 2, none⟩ = some (.string ⟨#[]⟩) := (blk_cell Bg2_4.out 2).trans rfl
      have fhc2 := blk_frozen Bg2_4.out 2
      have hc3 : w4.cell? ⟨g2, 3, none⟩ = some (.string ⟨#[]⟩) := (blk_cell Bg2_4.out 3).trans rfl
      have fhc3 := blk_frozen Bg2_4.out 3
      have hc4 : w4.cell? ⟨g2, 4, none⟩ = some (.int .i64 0) := (blk_cell Bg2_4.out 4).trans rfl
      have fhc4 := blk_frozen Bg2_4.out 4
      have hc5 : w4.cell? ⟨g2, 5, none⟩ = some (.slice none 0 0) := (blk_cell Bg2_4.out 5).trans rfl
      have fhc5 := blk_frozen Bg2_4.out 5
      have hc6 : w4.cell? ⟨g2, 6, none⟩ = some (.int .i64 0) := (blk_cell Bg2_4.out 6).trans rfl
      have fhc6 := blk_frozen Bg2_4.out 6
      go_upto_region 14 with (fail)
      have HO5 := Aside0.mk (onto7_ w4 g2 (.int .i64 d.f0) (.bool d.f1) (.string d.f2) (.string d.f3) (.int .i64 d.f4) (.slice A d.f5.length cv) (.int .i64 d.f6))
      have C5 := Aside0.mk (put7_ (b0 := .int .i64 d.f0) (b1 := .bool d.f1) (b2 := .string d.f2) (b3 := .string d.f3) (b4 := .int .i64 d.f4) (b5 := .slice A d.f5.length cv) (b6 := .int .i64 d.f6) Bg2_4.out)
      clear hc0 hc1 hc2 hc3 hc4 hc5 hc6 fhc0 fhc1 fhc2 fhc3 fhc4 fhc5 fhc6
      have H5 := Aside0.mk (H4.out.onto HO5.out (Nat.le_trans H.out.size Ng2.out.2.1) Ng2.out.1)
      have K5 := Aside0.mk (HO5.out.keep K4.out (.inl Ng2.out.2.1))
      have Bg1_5 := Aside0.mk (HO5.out.blk Bg1_4.out Ng2.out.2.2)
      generalize (((((((w4.setCell ⟨g2, 0, none⟩ (.int .i64 d.f0)).setCell ⟨g2, 1, none⟩ (.bool d.f1)).setCell ⟨g2, 2, none⟩ (.string d.f2)).setCell ⟨g2, 3, none⟩ (.string d.f3)).setCell ⟨g2, 4, none⟩ (.int .i64 d.f4)).setCell ⟨g2, 5, none⟩ (.slice A d.f5.length cv)).setCell ⟨g2, 6, none⟩ (.int .i64 d.f6)) = w5 at *
      have HR5 := Aside0.mk (R_onto_ HR4.out Bg2_4.out (by decide) HO5.out)
      have hc0 : w5.cell? ⟨g2, 0, none⟩ = some (.int .i64 d.f0) := (blk_cell C5.out 0).trans rfl
      have fhc0 := blk_frozen C5.out 0
      have hc1 : w5.cell? ⟨g2, 1, none⟩ = some (.bool d.f1) := (blk_cell C5.out 1).trans rfl
      have fhc1 := blk_frozen C5.out 1
      have hc2 : w5.cell? ⟨g2, 2, none⟩ = some (.string d.f2) := (blk_cell C5.out 2).trans rfl
      have fhc2 := blk_frozen C5.out 2
      have hc3 : w5.cell? ⟨g2, 3, none⟩ = some (.string d.f3) := (blk_cell C5.out 3).trans rfl
      have fhc3 := blk_frozen C5.out 3
      have hc4 : w5.cell? ⟨g2, 4, none⟩ = some (.int .i64 d.f4) := (blk_cell C5.out 4).trans rfl
      have fhc4 := blk_frozen C5.out 4
      have hc5 : w5.cell? ⟨g2, 5, none⟩ = some (.slice A d.f5.length cv) := (blk_cell C5.out 5).trans rfl
      have fhc5 := blk_frozen C5.out 5
      have hc6 : w5.cell? ⟨g2, 6, none⟩ = some (.int .i64 d.f6) := (blk_cell C5.out 6).trans rfl
      have fhc6 := blk_frozen C5.out 6
      go_upto_region 15 with (fail)
      have HO6 := Aside0.mk ((Onto.refl w5 g2).set 6 (.int .i64 (hdT ts).f3))
      have C6 : Aside0 ((w5.setCell ⟨g2, 6, none⟩ (.int .i64 (hdT ts).f3)).heap[g2]? = some (.cells #[.int .i64 d.f0, .bool d.f1, .string d.f2, .string d.f3, .int .i64 d.f4, .slice A d.f5.length cv, .int .i64 (hdT ts).f3] 29 (0, 0))) := ⟨blk_put C5.out 6 _ rfl⟩
      clear hc0 hc1 hc2 hc3 hc4 hc5 hc6 fhc0 fhc1 fhc2 fhc3 fhc4 fhc5 fhc6
      have H6 := Aside0.mk (H5.out.onto HO6.out (Nat.le_trans H.out.size Ng2.out.2.1) Ng2.out.1)
      have K6 := Aside0.mk (HO6.out.keep K5.out (.inl Ng2.out.2.1))
      have Bg1_6 := Aside0.mk (HO6.out.blk Bg1_5.out Ng2.out.2.2)
      generalize (w5.setCell ⟨g2, 6, none⟩ (.int .i64 (hdT ts).f3)) = w6 at *
      have HR6 := Aside0.mk (R_onto_ HR5.out C5.out (by decide) HO6.out)
      obtain ⟨adb, nb, ccb, hnl, hnb, hncb, hn4b, hb, hx0, hx1, hx2, hx3⟩ := H6.out.head
      have hp0 : w6.cell? ⟨p, 0, none⟩ = some (.slice (some adb) nb ccb) := (blk_cell hb 0).trans rfl
      have q0 : (0 : Int) < (nb : Int) := by omega
      clear hnl hb
      cases hk0 : ((hdT ts1).f0 == 0) with
      | true =>
        have hk1 : ((hdT ts1).f0 != 0) = false := by rw [bne, hk0]; rfl
        have HX9 : Aside0 (pDecl ts = .ok ({ d with f6 := (hdT ts).f3 }, ts1)) := ⟨by rw [HX4.out, pEnd, if_pos (by simpa using hk0)]⟩
        have hy0 : w6.cell? ⟨g2, 0, none⟩ = some (.int .i64 d.f0) := (blk_cell C6.out 0).trans rfl
        have hy1 : w6.cell? ⟨g2, 1, none⟩ = some (.bool d.f1) := (blk_cell C6.out 1).trans rfl
        have hy2 : w6.cell? ⟨g2, 2, none⟩ = some (.string d.f2) := (blk_cell C6.out 2).trans rfl
        have hy3 : w6.cell? ⟨g2, 3, none⟩ = some (.string d.f3) := (blk_cell C6.out 3).trans rfl
        have hy4 : w6.cell? ⟨g2, 4, none⟩ = some (.int .i64 d.f4) := (blk_cell C6.out 4).trans rfl
        have hy5 : w6.cell? ⟨g2, 5, none⟩ = some (.slice A d.f5.length cv) := (blk_cell C6.out 5).trans rfl
        have hy6 : w6.cell? ⟨g2, 6, none⟩ = some (.int .i64 (hdT ts).f3) := (blk_cell C6.out 6).trans rfl
        have hc0 : w6.cell? ⟨g1, 0, none⟩ = some (.int .i64 0) := (blk_cell Bg1_6.out 0).trans rfl
        have fhc0 := blk_frozen Bg1_6.out 0
        have hc1 : w6.cell? ⟨g1, 1, none⟩ = some (.bool false) := (blk_cell Bg1_6.out 1).trans rfl
        have fhc1 := blk_frozen Bg1_6.out 1
        have hc2 : w6.cell? ⟨g1, 2, none⟩ = some (.string ⟨#[]⟩) := (blk_cell Bg1_6.out 2).trans rfl
        have fhc2 := blk_frozen Bg1_6.out 2
        have hc3 : w6.cell? ⟨g1, 3, none⟩ = some (.string ⟨#[]⟩) := (blk_cell Bg1_6.out 3).trans rfl
        have fhc3 := blk_frozen Bg1_6.out 3
        have hc4 : w6.cell? ⟨g1, 4, none⟩ = some (.int .i64 0) := (blk_cell Bg1_6.out 4).trans rfl
        have fhc4 := blk_frozen Bg1_6.out 4
        have hc5 : w6.cell? ⟨g1, 5, none⟩ = some (.slice none 0 0) := (blk_cell Bg1_6.out 5).trans rfl
        have fhc5 := blk_frozen Bg1_6.out 5
        have hc6 : w6.cell? ⟨g1, 6, none⟩ = some (.int .i64 0) := (blk_cell Bg1_6.out 6).trans rfl
        have fhc6 := blk_frozen Bg1_6.out 6
        go_wp2_with fail
        have HO7 := Aside0.mk (onto7_ w6 g1 (.int .i64 d.f0) (.bool d.f1) (.string d.f2) (.string d.f3) (.int .i64 d.f4) (.slice A d.f5.length cv) (.int .i64 (hdT ts).f3))
        have C7 := Aside0.mk (put7_ (b0 := .int .i64 d.f0) (b1 := .bool d.f1) (b2 := .string d.f2) (b3 := .string d.f3) (b4 := .int .i64 d.f4) (b5 := .slice A d.f5.length cv) (b6 := .int .i64 (hdT ts).f3) Bg1_6.out)
        clear hp0 hx0 hx1 hx2 hx3 q0 hy0 hy1 hy2 hy3 hy4 hy5 hy6 hc0 hc1 hc2 hc3 hc4 hc5 hc6 fhc0 fhc1 fhc2 fhc3 fhc4 fhc5 fhc6
        have H7 := Aside0.mk (H6.out.onto HO7.out (Nat.le_trans H.out.size Ng1.out.2) Ng1.out.1)
        have K7 := Aside0.mk (HO7.out.keep K6.out (.inl Ng1.out.2))
        have Bg2_7 := Aside0.mk (HO7.out.blk C6.out Ng2.out.2.2.symm)
        generalize (((((((w6.setCell ⟨g1, 0, none⟩ (.int .i64 d.f0)).setCell ⟨g1, 1, none⟩ (.bool d.f1)).setCell ⟨g1, 2, none⟩ (.string d.f2)).setCell ⟨g1, 3, none⟩ (.string d.f3)).setCell ⟨g1, 4, none⟩ (.int .i64 d.f4)).setCell ⟨g1, 5, none⟩ (.slice A d.f5.length cv)).setCell ⟨g1, 6, none⟩ (.int .i64 (hdT ts).f3)) = w7 at *
        have HRz := Aside0.mk (R_onto_ HR6.out Bg1_6.out (by decide) HO7.out)
        have hz0 : w7.cell? ⟨g1, 0, none⟩ = some (.int .i64 d.f0) := (blk_cell C7.out 0).trans rfl
        have hz1 : w7.cell? ⟨g1, 1, none⟩ = some (.bool d.f1) := (blk_cell C7.out 1).trans rfl
        have hz2 : w7.cell? ⟨g1, 2, none⟩ = some (.string d.f2) := (blk_cell C7.out 2).trans rfl
        have hz3 : w7.cell? ⟨g1, 3, none⟩ = some (.string d.f3) := (blk_cell C7.out 3).trans rfl
        have hz4 : w7.cell? ⟨g1, 4, none⟩ = some (.int .i64 d.f4) := (blk_cell C7.out 4).trans rfl
        have hz5 : w7.cell? ⟨g1, 5, none⟩ = some (.slice A d.f5.length cv) := (blk_cell C7.out 5).trans rfl
        have hz6 : w7.cell? ⟨g1, 6, none⟩ = some (.int .i64 (hdT ts).f3) := (blk_cell C7.out 6).trans rfl
        refine bodyPost_ret (v := dlV { d with f6 := (hdT ts).f3 } (.slice A d.f5.length cv)) (by simp [results, Try.results15, go_sem, hz0, hz1, hz2, hz3, hz4, hz5, hz6, dlV, deV]) rfl ?_
        show PPost w0 w p (pDecl ts) _ _ _
        rw [HX9.out]
        exact ⟨_, rfl, ⟨_, rfl, HRz.out⟩, H7.out, K7.out⟩
      | false =>
        have hk1 : ((hdT ts1).f0 != 0) = true := by rw [bne, hk0]; rfl
        have HX9 : Aside0 (pDecl ts = pBind (pNext 5 ts1) fun _ ts2 => .ok ({ d with f6 := (hdT ts).f3 }, ts2)) := ⟨by rw [HX4.out, pEnd, if_neg (by simpa using hk0)]⟩
        go_wp2_with fail
        clear hp0 hx0 hx1 hx2 hx3 q0
        refine (next_call w0 _ p (ts1) 5 (by decide) H6.out).mono ?_
        rintro e w7 hq
        cases hx7 : pNext 5 ts1 with
        | error x =>
          rw [hx7] at hq
          obtain ⟨rfl, h1, h2⟩ := hq
          have HX' : Aside0 (pDecl ts = .error x) := ⟨by rw [HX9.out, hx7]; rfl⟩
          refine ⟨rfl, ?_⟩
          show PPost w0 w p (pDecl ts) _ _ _
          rw [HX'.out]
          exact ⟨rfl, h1, K6.out.trans h2 (.inl rfl)⟩
        | ok x =>
          obtain ⟨t5, ts2⟩ := x
          rw [hx7] at hq
          obtain ⟨v, rfl, rfl, h1, h2⟩ := hq
          have HX7 : Aside0 (pDecl ts = .ok ({ d with f6 := (hdT ts).f3 }, ts2)) := ⟨by rw [HX9.out, hx7]; rfl⟩
          clear hx7
          have H7 := Aside0.mk h1
          have HKn := Aside0.mk h2
          have Bg1_7 : Aside0 (w7.heap[g1]? = _) := ⟨h2.blk Bg1_6.out Ng1.out.1.symm (by simp)⟩
          have Bg2_7 : Aside0 (w7.heap[g2]? = _) := ⟨h2.blk C6.out Ng2.out.1.symm (by simp)⟩
          have K7 := Aside0.mk (K6.out.trans h2 (.inl rfl))
          clear h1 h2
          have HR7 := Aside0.mk (R_psk HR6.out H6.out HKn.out)
          have hy0 : w7.cell? ⟨g2, 0, none⟩ = some (.int .i64 d.f0) := (blk_cell Bg2_7.out 0).trans rfl
          have hy1 : w7.cell? ⟨g2, 1, none⟩ = some (.bool d.f1) := (blk_cell Bg2_7.out 1).trans rfl
          have hy2 : w7.cell? ⟨g2, 2, none⟩ = some (.string d.f2) := (blk_cell Bg2_7.out 2).trans rfl
          have hy3 : w7.cell? ⟨g2, 3, none⟩ = some (.string d.f3) := (blk_cell Bg2_7.out 3).trans rfl
          have hy4 : w7.cell? ⟨g2, 4, none⟩ = some (.int .i64 d.f4) := (blk_cell Bg2_7.out 4).trans rfl
          have hy5 : w7.cell? ⟨g2, 5, none⟩ = some (.slice A d.f5.length cv) := (blk_cell Bg2_7.out 5).trans rfl
          have hy6 : w7.cell? ⟨g2, 6, none⟩ = some (.int .i64 (hdT ts).f3) := (blk_cell Bg2_7.out 6).trans rfl
          have hc0 : w7.cell? ⟨g1, 0, none⟩ = some (.int .i64 0) := (blk_cell Bg1_7.out 0).trans rfl
          have fhc0 := blk_frozen Bg1_7.out 0
          have hc1 : w7.cell? ⟨g1, 1, none⟩ = some (.bool false) := (blk_cell Bg1_7.out 1).trans rfl
          have fhc1 := blk_frozen Bg1_7.out 1
          have hc2 : w7.cell? ⟨g1, 2, none⟩ = some (.string ⟨#[]⟩) := (blk_cell Bg1_7.out 2).trans rfl
          have fhc2 := blk_frozen Bg1_7.out 2
          have hc3 : w7.cell? ⟨g1, 3, none⟩ = some (.string ⟨#[]⟩) := (blk_cell Bg1_7.out 3).trans rfl
          have fhc3 := blk_frozen Bg1_7.out 3
          have hc4 : w7.cell? ⟨g1, 4, none⟩ = some (.int .i64 0) := (blk_cell Bg1_7.out 4).trans rfl
          have fhc4 := blk_frozen Bg1_7.out 4
          have hc5 : w7.cell? ⟨g1, 5, none⟩ = some (.slice none 0 0) := (blk_cell Bg1_7.out 5).trans rfl
          have fhc5 := blk_frozen Bg1_7.out 5
          have hc6 : w7.cell? ⟨g1, 6, none⟩ = some (.int .i64 0) := (blk_cell Bg1_7.out 6).trans rfl
          have fhc6 := blk_frozen Bg1_7.out 6
          go_wp2_with fail
          have HO8 := Aside0.mk (onto7_ w7 g1 (.int .i64 d.f0) (.bool d.f1) (.string d.f2) (.string d.f3) (.int .i64 d.f4) (.slice A d.f5.length cv) (.int .i64 (hdT ts).f3))
          have C8 := Aside0.mk (put7_ (b0 := .int .i64 d.f0) (b1 := .bool d.f1) (b2 := .string d.f2) (b3 := .string d.f3) (b4 := .int .i64 d.f4) (b5 := .slice A d.f5.length cv) (b6 := .int .i64 (hdT ts).f3) Bg1_7.out)
          clear hy0 hy1 hy2 hy3 hy4 hy5 hy6 hc0 hc1 hc2 hc3 hc4 hc5 hc6 fhc0 fhc1 fhc2 fhc3 fhc4 fhc5 fhc6
          have H8 := Aside0.mk (H7.out.onto HO8.out (Nat.le_trans H.out.size Ng1.out.2) Ng1.out.1)
          have K8 := Aside0.mk (HO8.out.keep K7.out (.inl Ng1.out.2))
          have Bg2_8 := Aside0.mk (HO8.out.blk Bg2_7.out Ng2.out.2.2.symm)
          generalize (((((((w7.setCell ⟨g1, 0, none⟩ (.int .i64 d.f0)).setCell ⟨g1, 1, none⟩ (.bool d.f1)).setCell ⟨g1, 2, none⟩ (.string d.f2)).setCell ⟨g1, 3, none⟩ (.string d.f3)).setCell ⟨g1, 4, none⟩ (.int .i64 d.f4)).setCell ⟨g1, 5, none⟩ (.slice A d.f5.length cv)).setCell ⟨g1, 6, none⟩ (.int .i64 (hdT ts).f3)) = w8 at *
          have HRz := Aside0.mk (R_onto_ HR7.out Bg1_7.out (by decide) HO8.out)
          have hz0 : w8.cell? ⟨g1, 0, none⟩ = some (.int .i64 d.f0) := (blk_cell C8.out 0).trans rfl
          have hz1 : w8.cell? ⟨g1, 1, none⟩ = some (.bool d.f1) := (blk_cell C8.out 1).trans rfl
          have hz2 : w8.cell? ⟨g1, 2, none⟩ = some (.string d.f2) := (blk_cell C8.out 2).trans rfl
          have hz3 : w8.cell? ⟨g1, 3, none⟩ = some (.string d.f3) := (blk_cell C8.out 3).trans rfl
          have hz4 : w8.cell? ⟨g1, 4, none⟩ = some (.int .i64 d.f4) := (blk_cell C8.out 4).trans rfl
          have hz5 : w8.cell? ⟨g1, 5, none⟩ = some (.slice A d.f5.length cv) := (blk_cell C8.out 5).trans rfl
          have hz6 : w8.cell? ⟨g1, 6, none⟩ = some (.int .i64 (hdT ts).f3) := (blk_cell C8.out 6).trans rfl
          refine bodyPost_ret (v := dlV { d with f6 := (hdT ts).f3 } (.slice A d.f5.length cv)) (by simp [results, Try.results15, go_sem, hz0, hz1, hz2, hz3, hz4, hz5, hz6, dlV, deV]) rfl ?_
          show PPost w0 w p (pDecl ts) _ _ _
          rw [HX7.out]
          exact ⟨_, rfl, ⟨_, rfl, HRz.out⟩, H8.out, K8.out⟩
  | false =>
    cases hw1 : pWordB (⟨#[99, 111, 117, 110, 116]⟩ : ByteArray) ts with
    | true =>
      have HW0 : Aside0 (pWordB (⟨#[115, 101, 116]⟩ : ByteArray) ts = false) := ⟨hw0⟩
      have HW1 : Aside0 (pWordB (⟨#[99, 111, 117, 110, 116]⟩ : ByteArray) ts = true) := ⟨hw1⟩
      clear hw0 hw1
      have HX0 : Aside0 (pDecl ts = pBind (pThing 2 ts.tail) (pEnd (hdT ts).f3)) := ⟨by unfold pDecl pDecl0; rw [HW0.out, HW1.out]; rfl⟩
      go_enter Try.func15, Try.ntmps15
      go_upto_region 1 with (((with_reducible refine gate_dst (N := 2) rfl ?_); refine box_event ?hg (N := 2) ?hd (cs := #[.int .i64 0, .bool false, .string ⟨#[]⟩, .string ⟨#[]⟩, .int .i64 0, .slice none 0 0, .int .i64 0]) (t := 29) ?hr ?_; (case hd => rfl); (case hg => rfl); (case hr => first | (go_simp; done) | (go_simp; rfl)); intro g1 hg_ w1 hbox hb; have HB1 := Aside0.mk hb; have BK1 := Aside0.mk hbox; have HG1 := Aside0.mk hg_; clear hb hbox hg_))
      have H1 := Aside0.mk (H.out.step HB1.out)
      have K1 := Aside0.mk (KeepBut.of_below HB1.out p none)
      have Ng1 : Aside0 (p ≠ g1 ∧ w.heap.size ≤ g1) := ⟨by have l0 := H.out.lt; rw [HG1.out]; omega⟩
      obtain ⟨ada, na, cca, hnl, hna, hnca, hn4a, hb, hx0, hx1, hx2, hx3⟩ := H1.out.head
      have hp0 : w1.cell? ⟨p, 0, none⟩ = some (.slice (some ada) na cca) := (blk_cell hb 0).trans rfl
      have q0 : (0 : Int) < (na : Int) := by omega
      clear hnl hb
      go_upto_region 2 with (fail)
      clear hp0 hx0 hx1 hx2 hx3 q0
      go_upto_region 4 with (((with_reducible refine gate_dst (N := 4) rfl ?_); refine box_event ?hg (N := 4) ?hd (cs := #[.int .i64 0, .bool false, .string ⟨#[]⟩, .string ⟨#[]⟩, .int .i64 0, .slice none 0 0, .int .i64 0]) (t := 29) ?hr ?_; (case hd => rfl); (case hg => rfl); (case hr => first | (go_simp; done) | (go_simp; rfl)); intro g2 hg_ w2 hbox hb; have HB2 := Aside0.mk hb; have BK2 := Aside0.mk hbox; have HG2 := Aside0.mk hg_; clear hb hbox hg_))
      have H2 := Aside0.mk (H1.out.step HB2.out)
      have K2 := Aside0.mk (K1.out.trans (KeepBut.of_below HB2.out p none) (.inl rfl))
      have Bg1_2 := Aside0.mk (blk_below BK1.out HB2.out)
      have Ng2 : Aside0 (p ≠ g2 ∧ w.heap.size ≤ g2 ∧ g1 ≠ g2) := ⟨by have l0 := H1.out.lt; have l_g1 := blk_lt BK1.out; have lk := K1.out.1; rw [HG2.out]; omega⟩
      go_wp2_with fail
      refine (pword_call w0 _ p (ts) (⟨#[115, 101, 116]⟩ : ByteArray) H2.out).mono ?_
      rintro e w3 ⟨rfl, h1, h2⟩
      rw [HW0.out]
      rw [pWordT_f HW0.out] at h1
      have H3 := Aside0.mk h1
      have Bg1_3 : Aside0 (w3.heap[g1]? = _) := ⟨h2.blk Bg1_2.out Ng1.out.1.symm (by simp)⟩
      have Bg2_3 : Aside0 (w3.heap[g2]? = _) := ⟨h2.blk BK2.out Ng2.out.1.symm (by simp)⟩
      have K3 := Aside0.mk (K2.out.trans h2 (.inl rfl))
      clear h1 h2
      go_wp2_with fail
      refine (pword_call w0 _ p (ts) (⟨#[99, 111, 117, 110, 116]⟩ : ByteArray) H3.out).mono ?_
      rintro e w4 ⟨rfl, h1, h2⟩
      rw [HW1.out]
      rw [pWordT_t HW1.out] at h1
      have H4 := Aside0.mk h1
      have Bg1_4 : Aside0 (w4.heap[g1]? = _) := ⟨h2.blk Bg1_3.out Ng1.out.1.symm (by simp)⟩
      have Bg2_4 : Aside0 (w4.heap[g2]? = _) := ⟨h2.blk Bg2_3.out Ng2.out.1.symm (by simp)⟩
      have K4 := Aside0.mk (K3.out.trans h2 (.inl rfl))
      clear h1 h2
      go_wp2_with fail
      refine (thing_callD w0 _ p ((ts).tail) 2 H4.out).mono ?_
      rintro e w5 hq
      cases hx5 : pThing 2 ts.tail with
      | error x =>
        rw [hx5] at hq
        obtain ⟨rfl, h1, h2⟩ := hq
        have HX' : Aside0 (pDecl ts = .error x) := ⟨by rw [HX0.out, hx5]; rfl⟩
        refine ⟨rfl, ?_⟩
        show PPost w0 w p (pDecl ts) _ _ _
        rw [HX'.out]
        exact ⟨rfl, h1, K4.out.trans h2 (.inl rfl)⟩
      | ok x =>
        obtain ⟨d, ts1⟩ := x
        rw [hx5] at hq
        obtain ⟨v, rfl, ⟨vd, hv, hR⟩, h1, h2⟩ := hq
        have HX5 : Aside0 (pDecl ts = pEnd (hdT ts).f3 d ts1) := ⟨by rw [HX0.out, hx5]; rfl⟩
        clear hx5
        obtain ⟨A, cv, hvd⟩ := Kd.R_slice hR
        subst hvd
        replace hv : v = .agg #[.int .i64 d.f0, .bool d.f1, .string d.f2, .string d.f3, .int .i64 d.f4, .slice A d.f5.length cv, .int .i64 d.f6] := hv
        subst hv
        have HR5 : Aside0 (Kd.R k60 60 w5 w.heap.size (fun _ => True) (.slice A d.f5.length cv) d.f5) := ⟨Kd.R_lower hR K4.out.1⟩
        clear hR
        have H5 := Aside0.mk h1
        have Bg1_5 : Aside0 (w5.heap[g1]? = _) := ⟨h2.blk Bg1_4.out Ng1.out.1.symm (by simp)⟩
        have Bg2_5 : Aside0 (w5.heap[g2]? = _) := ⟨h2.blk Bg2_4.out Ng2.out.1.symm (by simp)⟩
        have K5 := Aside0.mk (K4.out.trans h2 (.inl rfl))
        clear h1 h2
        have hc0 : w5.cell? ⟨g2, 0, none⟩ = some (.int .i64 0) := (blk_cell Bg2_5.out 0).trans rfl
        have fhc0 := blk_frozen Bg2_5.out 0
        have hc1 : w5.cell? ⟨g2, 1, none⟩ = some (.bool false) := (blk_cell Bg2_5.out 1).trans rfl
        have fhc1 := blk_frozen Bg2_5.out 1
        have hc2 : w5.cell? ⟨g2, 2, none⟩ = some (.string ⟨#[]⟩) := (blk_cell Bg2_5.out 2).trans rfl
        have fhc2 := blk_frozen Bg2_5.out 2
        have hc3 : w5.cell? ⟨g2, 3, none⟩ = some (.string ⟨#[]⟩) := (blk_cell Bg2_5.out 3).trans rfl
        have fhc3 := blk_frozen Bg2_5.out 3
        have hc4 : w5.cell? ⟨g2, 4, none⟩ = some (.int .i64 0) := (blk_cell Bg2_5.out 4).trans rfl
        have fhc4 := blk_frozen Bg2_5.out 4
        have hc5 : w5.cell? ⟨g2, 5, none⟩ = some (.slice none 0 0) := (blk_cell Bg2_5.out 5).trans rfl
        have fhc5 := blk_frozen Bg2_5.out 5
        have hc6 : w5.cell? ⟨g2, 6, none⟩ = some (.int .i64 0) := (blk_cell Bg2_5.out 6).trans rfl
        have fhc6 := blk_frozen Bg2_5.out 6
        go_upto_region 14 with (fail)
        have HO6 := Aside0.mk (onto7_ w5 g2 (.int .i64 d.f0) (.bool d.f1) (.string d.f2) (.string d.f3) (.int .i64 d.f4) (.slice A d.f5.length cv) (.int .i64 d.f6))
        have C6 := Aside0.mk (put7_ (b0 := .int .i64 d.f0) (b1 := .bool d.f1) (b2 := .string d.f2) (b3 := .string d.f3) (b4 := .int .i64 d.f4) (b5 := .slice A d.f5.length cv) (b6 := .int .i64 d.f6) Bg2_5.out)
        clear hc0 hc1 hc2 hc3 hc4 hc5 hc6 fhc0 fhc1 fhc2 fhc3 fhc4 fhc5 fhc6
        have H6 := Aside0.mk (H5.out.onto HO6.out (Nat.le_trans H.out.size Ng2.out.2.1) Ng2.out.1)
        have K6 := Aside0.mk (HO6.out.keep K5.out (.inl Ng2.out.2.1))
        have Bg1_6 := Aside0.mk (HO6.out.blk Bg1_5.out Ng2.out.2.2)
        generalize (((((((w5.setCell ⟨g2, 0, none⟩ (.int .i64 d.f0)).setCell ⟨g2, 1, none⟩ (.bool d.f1)).setCell ⟨g2, 2, none⟩ (.string d.f2)).setCell ⟨g2, 3, none⟩ (.string d.f3)).setCell ⟨g2, 4, none⟩ (.int .i64 d.f4)).setCell ⟨g2, 5, none⟩ (.slice A d.f5.length cv)).setCell ⟨g2, 6, none⟩ (.int .i64 d.f6)) = w6 at *
        have HR6 := Aside0.mk (R_onto_ HR5.out Bg2_5.out (by decide) HO6.out)
        have hc0 : w6.cell? ⟨g2, 0, none⟩ = some (.int .i64 d.f0) := (blk_cell C6.out 0).trans rfl
        have fhc0 := blk_frozen C6.out 0
        have hc1 : w6.cell? ⟨g2, 1, none⟩ = some (.bool d.f1) := (blk_cell C6.out 1).trans rfl
        have fhc1 := blk_frozen C6.out 1
        have hc2 : w6.cell? ⟨g2, 2, none⟩ = some (.string d.f2) := (blk_cell C6.out 2).trans rfl
        have fhc2 := blk_frozen C6.out 2
        have hc3 : w6.cell? ⟨g2, 3, none⟩ = some (.string d.f3) := (blk_cell C6.out 3).trans rfl
        have fhc3 := blk_frozen C6.out 3
        have hc4 : w6.cell? ⟨g2, 4, none⟩ = some (.int .i64 d.f4) := (blk_cell C6.out 4).trans rfl
        have fhc4 := blk_frozen C6.out 4
        have hc5 : w6.cell? ⟨g2, 5, none⟩ = some (.slice A d.f5.length cv) := (blk_cell C6.out 5).trans rfl
        have fhc5 := blk_frozen C6.out 5
        have hc6 : w6.cell? ⟨g2, 6, none⟩ = some (.int .i64 d.f6) := (blk_cell C6.out 6).trans rfl
        have fhc6 := blk_frozen C6.out 6
        go_upto_region 15 with (fail)
        have HO7 := Aside0.mk ((Onto.refl w6 g2).set 6 (.int .i64 (hdT ts).f3))
        have C7 : Aside0 ((w6.setCell ⟨g2, 6, none⟩ (.int .i64 (hdT ts).f3)).heap[g2]? = some (.cells #[.int .i64 d.f0, .bool d.f1, .string d.f2, .string d.f3, .int .i64 d.f4, .slice A d.f5.length cv, .int .i64 (hdT ts).f3] 29 (0, 0))) := ⟨blk_put C6.out 6 _ rfl⟩
        clear hc0 hc1 hc2 hc3 hc4 hc5 hc6 fhc0 fhc1 fhc2 fhc3 fhc4 fhc5 fhc6
        have H7 := Aside0.mk (H6.out.onto HO7.out (Nat.le_trans H.out.size Ng2.out.2.1) Ng2.out.1)
        have K7 := Aside0.mk (HO7.out.keep K6.out (.inl Ng2.out.2.1))
        have Bg1_7 := Aside0.mk (HO7.out.blk Bg1_6.out Ng2.out.2.2)
        generalize (w6.setCell ⟨g2, 6, none⟩ (.int .i64 (hdT ts).f3)) = w7 at *
        have HR7 := Aside0.mk (R_onto_ HR6.out C6.out (by decide) HO7.out)
        obtain ⟨adb, nb, ccb, hnl, hnb, hncb, hn4b, hb, hx0, hx1, hx2, hx3⟩ := H7.out.head
        have hp0 : w7.cell? ⟨p, 0, none⟩ = some (.slice (some adb) nb ccb) := (blk_cell hb 0).trans rfl
        have q0 : (0 : Int) < (nb : Int) := by omega
        clear hnl hb
        cases hk0 : ((hdT ts1).f0 == 0) with
        | true =>
          have hk1 : ((hdT ts1).f0 != 0) = false := by rw [bne, hk0]; rfl
          have HX9 : Aside0 (pDecl ts = .ok ({ d with f6 := (hdT ts).f3 }, ts1)) := ⟨by rw [HX5.out, pEnd, if_pos (by simpa using hk0)]⟩
          have hy0 : w7.cell? ⟨g2, 0, none⟩ = some (.int .i64 d.f0) := (blk_cell C7.out 0).trans rfl
          have hy1 : w7.cell? ⟨g2, 1, none⟩ = some (.bool d.f1) := (blk_cell C7.out 1).trans rfl
          have hy2 : w7.cell? ⟨g2, 2, none⟩ = some (.string d.f2) := (blk_cell C7.out 2).trans rfl
          have hy3 : w7.cell? ⟨g2, 3, none⟩ = some (.string d.f3) := (blk_cell C7.out 3).trans rfl
          have hy4 : w7.cell? ⟨g2, 4, none⟩ = some (.int .i64 d.f4) := (blk_cell C7.out 4).trans rfl
          have hy5 : w7.cell? ⟨g2, 5, none⟩ = some (.slice A d.f5.length cv) := (blk_cell C7.out 5).trans rfl
          have hy6 : w7.cell? ⟨g2, 6, none⟩ = some (.int .i64 (hdT ts).f3) := (blk_cell C7.out 6).trans rfl
          have hc0 : w7.cell? ⟨g1, 0, none⟩ = some (.int .i64 0) := (blk_cell Bg1_7.out 0).trans rfl
          have fhc0 := blk_frozen Bg1_7.out 0
          have hc1 : w7.cell? ⟨g1, 1, none⟩ = some (.bool false) := (blk_cell Bg1_7.out 1).trans rfl
          have fhc1 := blk_frozen Bg1_7.out 1
          have hc2 : w7.cell? ⟨g1, 2, none⟩ = some (.string ⟨#[]⟩) := (blk_cell Bg1_7.out 2).trans rfl
          have fhc2 := blk_frozen Bg1_7.out 2
          have hc3 : w7.cell? ⟨g1, 3, none⟩ = some (.string ⟨#[]⟩) := (blk_cell Bg1_7.out 3).trans rfl
          have fhc3 := blk_frozen Bg1_7.out 3
          have hc4 : w7.cell? ⟨g1, 4, none⟩ = some (.int .i64 0) := (blk_cell Bg1_7.out 4).trans rfl
          have fhc4 := blk_frozen Bg1_7.out 4
          have hc5 : w7.cell? ⟨g1, 5, none⟩ = some (.slice none 0 0) := (blk_cell Bg1_7.out 5).trans rfl
          have fhc5 := blk_frozen Bg1_7.out 5
          have hc6 : w7.cell? ⟨g1, 6, none⟩ = some (.int .i64 0) := (blk_cell Bg1_7.out 6).trans rfl
          have fhc6 := blk_frozen Bg1_7.out 6
          go_wp2_with fail
          have HO8 := Aside0.mk (onto7_ w7 g1 (.int .i64 d.f0) (.bool d.f1) (.string d.f2) (.string d.f3) (.int .i64 d.f4) (.slice A d.f5.length cv) (.int .i64 (hdT ts).f3))
          have C8 := Aside0.mk (put7_ (b0 := .int .i64 d.f0) (b1 := .bool d.f1) (b2 := .string d.f2) (b3 := .string d.f3) (b4 := .int .i64 d.f4) (b5 := .slice A d.f5.length cv) (b6 := .int .i64 (hdT ts).f3) Bg1_7.out)
          clear hp0 hx0 hx1 hx2 hx3 q0 hy0 hy1 hy2 hy3 hy4 hy5 hy6 hc0 hc1 hc2 hc3 hc4 hc5 hc6 fhc0 fhc1 fhc2 fhc3 fhc4 fhc5 fhc6
          have H8 := Aside0.mk (H7.out.onto HO8.out (Nat.le_trans H.out.size Ng1.out.2) Ng1.out.1)
          have K8 := Aside0.mk (HO8.out.keep K7.out (.inl Ng1.out.2))
          have Bg2_8 := Aside0.mk (HO8.out.blk C7.out Ng2.out.2.2.symm)
          generalize (((((((w7.setCell ⟨g1, 0, none⟩ (.int .i64 d.f0)).setCell ⟨g1, 1, none⟩ (.bool d.f1)).setCell ⟨g1, 2, none⟩ (.string d.f2)).setCell ⟨g1, 3, none⟩ (.string d.f3)).setCell ⟨g1, 4, none⟩ (.int .i64 d.f4)).setCell ⟨g1, 5, none⟩ (.slice A d.f5.length cv)).setCell ⟨g1, 6, none⟩ (.int .i64 (hdT ts).f3)) = w8 at *
          have HRz := Aside0.mk (R_onto_ HR7.out Bg1_7.out (by decide) HO8.out)
          have hz0 : w8.cell? ⟨g1, 0, none⟩ = some (.int .i64 d.f0) := (blk_cell C8.out 0).trans rfl
          have hz1 : w8.cell? ⟨g1, 1, none⟩ = some (.bool d.f1) := (blk_cell C8.out 1).trans rfl
          have hz2 : w8.cell? ⟨g1, 2, none⟩ = some (.string d.f2) := (blk_cell C8.out 2).trans rfl
          have hz3 : w8.cell? ⟨g1, 3, none⟩ = some (.string d.f3) := (blk_cell C8.out 3).trans rfl
          have hz4 : w8.cell? ⟨g1, 4, none⟩ = some (.int .i64 d.f4) := (blk_cell C8.out 4).trans rfl
          have hz5 : w8.cell? ⟨g1, 5, none⟩ = some (.slice A d.f5.length cv) := (blk_cell C8.out 5).trans rfl
          have hz6 : w8.cell? ⟨g1, 6, none⟩ = some (.int .i64 (hdT ts).f3) := (blk_cell C8.out 6).trans rfl
          refine bodyPost_ret (v := dlV { d with f6 := (hdT ts).f3 } (.slice A d.f5.length cv)) (by simp [results, Try.results15, go_sem, hz0, hz1, hz2, hz3, hz4, hz5, hz6, dlV, deV]) rfl ?_
          show PPost w0 w p (pDecl ts) _ _ _
          rw [HX9.out]
          exact ⟨_, rfl, ⟨_, rfl, HRz.out⟩, H8.out, K8.out⟩
        | false =>
          have hk1 : ((hdT ts1).f0 != 0) = true := by rw [bne, hk0]; rfl
          have HX9 : Aside0 (pDecl ts = pBind (pNext 5 ts1) fun _ ts2 => .ok ({ d with f6 := (hdT ts).f3 }, ts2)) := ⟨by rw [HX5.out, pEnd, if_neg (by simpa using hk0)]⟩
          go_wp2_with fail
          clear hp0 hx0 hx1 hx2 hx3 q0
          refine (next_call w0 _ p (ts1) 5 (by decide) H7.out).mono ?_
          rintro e w8 hq
          cases hx8 : pNext 5 ts1 with
          | error x =>
            rw [hx8] at hq
            obtain ⟨rfl, h1, h2⟩ := hq
            have HX' : Aside0 (pDecl ts = .error x) := ⟨by rw [HX9.out, hx8]; rfl⟩
            refine ⟨rfl, ?_⟩
            show PPost w0 w p (pDecl ts) _ _ _
            rw [HX'.out]
            exact ⟨rfl, h1, K7.out.trans h2 (.inl rfl)⟩
          | ok x =>
            obtain ⟨t5, ts2⟩ := x
            rw [hx8] at hq
            obtain ⟨v, rfl, rfl, h1, h2⟩ := hq
            have HX8 : Aside0 (pDecl ts = .ok ({ d with f6 := (hdT ts).f3 }, ts2)) := ⟨by rw [HX9.out, hx8]; rfl⟩
            clear hx8
            have H8 := Aside0.mk h1
            have HKn := Aside0.mk h2
            have Bg1_8 : Aside0 (w8.heap[g1]? = _) := ⟨h2.blk Bg1_7.out Ng1.out.1.symm (by simp)⟩
            have Bg2_8 : Aside0 (w8.heap[g2]? = _) := ⟨h2.blk C7.out Ng2.out.1.symm (by simp)⟩
            have K8 := Aside0.mk (K7.out.trans h2 (.inl rfl))
            clear h1 h2
            have HR8 := Aside0.mk (R_psk HR7.out H7.out HKn.out)
            have hy0 : w8.cell? ⟨g2, 0, none⟩ = some (.int .i64 d.f0) := (blk_cell Bg2_8.out 0).trans rfl
            have hy1 : w8.cell? ⟨g2, 1, none⟩ = some (.bool d.f1) := (blk_cell Bg2_8.out 1).trans rfl
            have hy2 : w8.cell? ⟨g2, 2, none⟩ = some (.string d.f2) := (blk_cell Bg2_8.out 2).trans rfl
            have hy3 : w8.cell? ⟨g2, 3, none⟩ = some (.string d.f3) := (blk_cell Bg2_8.out 3).trans rfl
            have hy4 : w8.cell? ⟨g2, 4, none⟩ = some (.int .i64 d.f4) := (blk_cell Bg2_8.out 4).trans rfl
            have hy5 : w8.cell? ⟨g2, 5, none⟩ = some (.slice A d.f5.length cv) := (blk_cell Bg2_8.out 5).trans rfl
            have hy6 : w8.cell? ⟨g2, 6, none⟩ = some (.int .i64 (hdT ts).f3) := (blk_cell Bg2_8.out 6).trans rfl
            have hc0 : w8.cell? ⟨g1, 0, none⟩ = some (.int .i64 0) := (blk_cell Bg1_8.out 0).trans rfl
            have fhc0 := blk_frozen Bg1_8.out 0
            have hc1 : w8.cell? ⟨g1, 1, none⟩ = some (.bool false) := (blk_cell Bg1_8.out 1).trans rfl
            have fhc1 := blk_frozen Bg1_8.out 1
            have hc2 : w8.cell? ⟨g1, 2, none⟩ = some (.string ⟨#[]⟩) := (blk_cell Bg1_8.out 2).trans rfl
            have fhc2 := blk_frozen Bg1_8.out 2
            have hc3 : w8.cell? ⟨g1, 3, none⟩ = some (.string ⟨#[]⟩) := (blk_cell Bg1_8.out 3).trans rfl
            have fhc3 := blk_frozen Bg1_8.out 3
            have hc4 : w8.cell? ⟨g1, 4, none⟩ = some (.int .i64 0) := (blk_cell Bg1_8.out 4).trans rfl
            have fhc4 := blk_frozen Bg1_8.out 4
            have hc5 : w8.cell? ⟨g1, 5, none⟩ = some (.slice none 0 0) := (blk_cell Bg1_8.out 5).trans rfl
            have fhc5 := blk_frozen Bg1_8.out 5
            have hc6 : w8.cell? ⟨g1, 6, none⟩ = some (.int .i64 0) := (blk_cell Bg1_8.out 6).trans rfl
            have fhc6 := blk_frozen Bg1_8.out 6
            go_wp2_with fail
            have HO9 := Aside0.mk (onto7_ w8 g1 (.int .i64 d.f0) (.bool d.f1) (.string d.f2) (.string d.f3) (.int .i64 d.f4) (.slice A d.f5.length cv) (.int .i64 (hdT ts).f3))
            have C9 := Aside0.mk (put7_ (b0 := .int .i64 d.f0) (b1 := .bool d.f1) (b2 := .string d.f2) (b3 := .string d.f3) (b4 := .int .i64 d.f4) (b5 := .slice A d.f5.length cv) (b6 := .int .i64 (hdT ts).f3) Bg1_8.out)
            clear hy0 hy1 hy2 hy3 hy4 hy5 hy6 hc0 hc1 hc2 hc3 hc4 hc5 hc6 fhc0 fhc1 fhc2 fhc3 fhc4 fhc5 fhc6
            have H9 := Aside0.mk (H8.out.onto HO9.out (Nat.le_trans H.out.size Ng1.out.2) Ng1.out.1)
            have K9 := Aside0.mk (HO9.out.keep K8.out (.inl Ng1.out.2))
            have Bg2_9 := Aside0.mk (HO9.out.blk Bg2_8.out Ng2.out.2.2.symm)
            generalize (((((((w8.setCell ⟨g1, 0, none⟩ (.int .i64 d.f0)).setCell ⟨g1, 1, none⟩ (.bool d.f1)).setCell ⟨g1, 2, none⟩ (.string d.f2)).setCell ⟨g1, 3, none⟩ (.string d.f3)).setCell ⟨g1, 4, none⟩ (.int .i64 d.f4)).setCell ⟨g1, 5, none⟩ (.slice A d.f5.length cv)).setCell ⟨g1, 6, none⟩ (.int .i64 (hdT ts).f3)) = w9 at *
            have HRz := Aside0.mk (R_onto_ HR8.out Bg1_8.out (by decide) HO9.out)
            have hz0 : w9.cell? ⟨g1, 0, none⟩ = some (.int .i64 d.f0) := (blk_cell C9.out 0).trans rfl
            have hz1 : w9.cell? ⟨g1, 1, none⟩ = some (.bool d.f1) := (blk_cell C9.out 1).trans rfl
            have hz2 : w9.cell? ⟨g1, 2, none⟩ = some (.string d.f2) := (blk_cell C9.out 2).trans rfl
            have hz3 : w9.cell? ⟨g1, 3, none⟩ = some (.string d.f3) := (blk_cell C9.out 3).trans rfl
            have hz4 : w9.cell? ⟨g1, 4, none⟩ = some (.int .i64 d.f4) := (blk_cell C9.out 4).trans rfl
            have hz5 : w9.cell? ⟨g1, 5, none⟩ = some (.slice A d.f5.length cv) := (blk_cell C9.out 5).trans rfl
            have hz6 : w9.cell? ⟨g1, 6, none⟩ = some (.int .i64 (hdT ts).f3) := (blk_cell C9.out 6).trans rfl
            refine bodyPost_ret (v := dlV { d with f6 := (hdT ts).f3 } (.slice A d.f5.length cv)) (by simp [results, Try.results15, go_sem, hz0, hz1, hz2, hz3, hz4, hz5, hz6, dlV, deV]) rfl ?_
            show PPost w0 w p (pDecl ts) _ _ _
            rw [HX8.out]
            exact ⟨_, rfl, ⟨_, rfl, HRz.out⟩, H9.out, K9.out⟩
    | false =>
      cases hw2 : pWordB (⟨#[110, 111, 116, 101]⟩ : ByteArray) ts with
      | true =>
        have HW0 : Aside0 (pWordB (⟨#[115, 101, 116]⟩ : ByteArray) ts = false) := ⟨hw0⟩
        have HW1 : Aside0 (pWordB (⟨#[99, 111, 117, 110, 116]⟩ : ByteArray) ts = false) := ⟨hw1⟩
        have HW2 : Aside0 (pWordB (⟨#[110, 111, 116, 101]⟩ : ByteArray) ts = true) := ⟨hw2⟩
        clear hw0 hw1 hw2
        have HX0 : Aside0 (pDecl ts = pBind (pThing 3 ts.tail) (pEnd (hdT ts).f3)) := ⟨by unfold pDecl pDecl0; rw [HW0.out, HW1.out, HW2.out]; rfl⟩
        go_enter Try.func15, Try.ntmps15
        go_upto_region 1 with (((with_reducible refine gate_dst (N := 2) rfl ?_); refine box_event ?hg (N := 2) ?hd (cs := #[.int .i64 0, .bool false, .string ⟨#[]⟩, .string ⟨#[]⟩, .int .i64 0, .slice none 0 0, .int .i64 0]) (t := 29) ?hr ?_; (case hd => rfl); (case hg => rfl); (case hr => first | (go_simp; done) | (go_simp; rfl)); intro g1 hg_ w1 hbox hb; have HB1 := Aside0.mk hb; have BK1 := Aside0.mk hbox; have HG1 := Aside0.mk hg_; clear hb hbox hg_))
        have H1 := Aside0.mk (H.out.step HB1.out)
        have K1 := Aside0.mk (KeepBut.of_below HB1.out p none)
        have Ng1 : Aside0 (p ≠ g1 ∧ w.heap.size ≤ g1) := ⟨by have l0 := H.out.lt; rw [HG1.out]; omega⟩
        obtain ⟨ada, na, cca, hnl, hna, hnca, hn4a, hb, hx0, hx1, hx2, hx3⟩ := H1.out.head
        have hp0 : w1.cell? ⟨p, 0, none⟩ = some (.slice (some ada) na cca) := (blk_cell hb 0).trans rfl
        have q0 : (0 : Int) < (na : Int) := by omega
        clear hnl hb
        go_upto_region 2 with (fail)
        clear hp0 hx0 hx1 hx2 hx3 q0
        go_upto_region 4 with (((with_reducible refine gate_dst (N := 4) rfl ?_); refine box_event ?hg (N := 4) ?hd (cs := #[.int .i64 0, .bool false, .string ⟨#[]⟩, .string ⟨#[]⟩, .int .i64 0, .slice none 0 0, .int .i64 0]) (t := 29) ?hr ?_; (case hd => rfl); (case hg => rfl); (case hr => first | (go_simp; done) | (go_simp; rfl)); intro g2 hg_ w2 hbox hb; have HB2 := Aside0.mk hb; have BK2 := Aside0.mk hbox; have HG2 := Aside0.mk hg_; clear hb hbox hg_))
        have H2 := Aside0.mk (H1.out.step HB2.out)
        have K2 := Aside0.mk (K1.out.trans (KeepBut.of_below HB2.out p none) (.inl rfl))
        have Bg1_2 := Aside0.mk (blk_below BK1.out HB2.out)
        have Ng2 : Aside0 (p ≠ g2 ∧ w.heap.size ≤ g2 ∧ g1 ≠ g2) := ⟨by have l0 := H1.out.lt; have l_g1 := blk_lt BK1.out; have lk := K1.out.1; rw [HG2.out]; omega⟩
        go_wp2_with fail
        refine (pword_call w0 _ p (ts) (⟨#[115, 101, 116]⟩ : ByteArray) H2.out).mono ?_
        rintro e w3 ⟨rfl, h1, h2⟩
        rw [HW0.out]
        rw [pWordT_f HW0.out] at h1
        have H3 := Aside0.mk h1
        have Bg1_3 : Aside0 (w3.heap[g1]? = _) := ⟨h2.blk Bg1_2.out Ng1.out.1.symm (by simp)⟩
        have Bg2_3 : Aside0 (w3.heap[g2]? = _) := ⟨h2.blk BK2.out Ng2.out.1.symm (by simp)⟩
        have K3 := Aside0.mk (K2.out.trans h2 (.inl rfl))
        clear h1 h2
        go_wp2_with fail
        refine (pword_call w0 _ p (ts) (⟨#[99, 111, 117, 110, 116]⟩ : ByteArray) H3.out).mono ?_
        rintro e w4 ⟨rfl, h1, h2⟩
        rw [HW1.out]
        rw [pWordT_f HW1.out] at h1
        have H4 := Aside0.mk h1
        have Bg1_4 : Aside0 (w4.heap[g1]? = _) := ⟨h2.blk Bg1_3.out Ng1.out.1.symm (by simp)⟩
        have Bg2_4 : Aside0 (w4.heap[g2]? = _) := ⟨h2.blk Bg2_3.out Ng2.out.1.symm (by simp)⟩
        have K4 := Aside0.mk (K3.out.trans h2 (.inl rfl))
        clear h1 h2
        go_wp2_with fail
        refine (pword_call w0 _ p (ts) (⟨#[110, 111, 116, 101]⟩ : ByteArray) H4.out).mono ?_
        rintro e w5 ⟨rfl, h1, h2⟩
        rw [HW2.out]
        rw [pWordT_t HW2.out] at h1
        have H5 := Aside0.mk h1
        have Bg1_5 : Aside0 (w5.heap[g1]? = _) := ⟨h2.blk Bg1_4.out Ng1.out.1.symm (by simp)⟩
        have Bg2_5 : Aside0 (w5.heap[g2]? = _) := ⟨h2.blk Bg2_4.out Ng2.out.1.symm (by simp)⟩
        have K5 := Aside0.mk (K4.out.trans h2 (.inl rfl))
        clear h1 h2
        go_wp2_with fail
        refine (thing_callD w0 _ p ((ts).tail) 3 H5.out).mono ?_
        rintro e w6 hq
        cases hx6 : pThing 3 ts.tail with
        | error x =>
          rw [hx6] at hq
          obtain ⟨rfl, h1, h2⟩ := hq
          have HX' : Aside0 (pDecl ts = .error x) := ⟨by rw [HX0.out, hx6]; rfl⟩
          refine ⟨rfl, ?_⟩
          show PPost w0 w p (pDecl ts) _ _ _
          rw [HX'.out]
          exact ⟨rfl, h1, K5.out.trans h2 (.inl rfl)⟩
        | ok x =>
          obtain ⟨d, ts1⟩ := x
          rw [hx6] at hq
          obtain ⟨v, rfl, ⟨vd, hv, hR⟩, h1, h2⟩ := hq
          have HX6 : Aside0 (pDecl ts = pEnd (hdT ts).f3 d ts1) := ⟨by rw [HX0.out, hx6]; rfl⟩
          clear hx6
          obtain ⟨A, cv, hvd⟩ := Kd.R_slice hR
          subst hvd
          replace hv : v = .agg #[.int .i64 d.f0, .bool d.f1, .string d.f2, .string d.f3, .int .i64 d.f4, .slice A d.f5.length cv, .int .i64 d.f6] := hv
          subst hv
          have HR6 : Aside0 (Kd.R k60 60 w6 w.heap.size (fun _ => True) (.slice A d.f5.length cv) d.f5) := ⟨Kd.R_lower hR K5.out.1⟩
          clear hR
          have H6 := Aside0.mk h1
          have Bg1_6 : Aside0 (w6.heap[g1]? = _) := ⟨h2.blk Bg1_5.out Ng1.out.1.symm (by simp)⟩
          have Bg2_6 : Aside0 (w6.heap[g2]? = _) := ⟨h2.blk Bg2_5.out Ng2.out.1.symm (by simp)⟩
          have K6 := Aside0.mk (K5.out.trans h2 (.inl rfl))
          clear h1 h2
          have hc0 : w6.cell? ⟨g2, 0, none⟩ = some (.int .i64 0) := (blk_cell Bg2_6.out 0).trans rfl
          have fhc0 := blk_frozen Bg2_6.out 0
          have hc1 : w6.cell? ⟨g2, 1, none⟩ = some (.bool false) := (blk_cell Bg2_6.out 1).trans rfl
          have fhc1 := blk_frozen Bg2_6.out 1
          have hc2 : w6.cell? ⟨g2, 2, none⟩ = some (.string ⟨#[]⟩) := (blk_cell Bg2_6.out 2).trans rfl
          have fhc2 := blk_frozen Bg2_6.out 2
          have hc3 : w6.cell? ⟨g2, 3, none⟩ = some (.string ⟨#[]⟩) := (blk_cell Bg2_6.out 3).trans rfl
          have fhc3 := blk_frozen Bg2_6.out 3
          have hc4 : w6.cell? ⟨g2, 4, none⟩ = some (.int .i64 0) := (blk_cell Bg2_6.out 4).trans rfl
          have fhc4 := blk_frozen Bg2_6.out 4
          have hc5 : w6.cell? ⟨g2, 5, none⟩ = some (.slice none 0 0) := (blk_cell Bg2_6.out 5).trans rfl
          have fhc5 := blk_frozen Bg2_6.out 5
          have hc6 : w6.cell? ⟨g2, 6, none⟩ = some (.int .i64 0) := (blk_cell Bg2_6.out 6).trans rfl
          have fhc6 := blk_frozen Bg2_6.out 6
          go_upto_region 14 with (fail)
          have HO7 := Aside0.mk (onto7_ w6 g2 (.int .i64 d.f0) (.bool d.f1) (.string d.f2) (.string d.f3) (.int .i64 d.f4) (.slice A d.f5.length cv) (.int .i64 d.f6))
          have C7 := Aside0.mk (put7_ (b0 := .int .i64 d.f0) (b1 := .bool d.f1) (b2 := .string d.f2) (b3 := .string d.f3) (b4 := .int .i64 d.f4) (b5 := .slice A d.f5.length cv) (b6 := .int .i64 d.f6) Bg2_6.out)
          clear hc0 hc1 hc2 hc3 hc4 hc5 hc6 fhc0 fhc1 fhc2 fhc3 fhc4 fhc5 fhc6
          have H7 := Aside0.mk (H6.out.onto HO7.out (Nat.le_trans H.out.size Ng2.out.2.1) Ng2.out.1)
          have K7 := Aside0.mk (HO7.out.keep K6.out (.inl Ng2.out.2.1))
          have Bg1_7 := Aside0.mk (HO7.out.blk Bg1_6.out Ng2.out.2.2)
          generalize (((((((w6.setCell ⟨g2, 0, none⟩ (.int .i64 d.f0)).setCell ⟨g2, 1, none⟩ (.bool d.f1)).setCell ⟨g2, 2, none⟩ (.string d.f2)).setCell ⟨g2, 3, none⟩ (.string d.f3)).setCell ⟨g2, 4, none⟩ (.int .i64 d.f4)).setCell ⟨g2, 5, none⟩ (.slice A d.f5.length cv)).setCell ⟨g2, 6, none⟩ (.int .i64 d.f6)) = w7 at *
          have HR7 := Aside0.mk (R_onto_ HR6.out Bg2_6.out (by decide) HO7.out)
          have hc0 : w7.cell? ⟨g2, 0, none⟩ = some (.int .i64 d.f0) := (blk_cell C7.out 0).trans rfl
          have fhc0 := blk_frozen C7.out 0
          have hc1 : w7.cell? ⟨g2, 1, none⟩ = some (.bool d.f1) := (blk_cell C7.out 1).trans rfl
          have fhc1 := blk_frozen C7.out 1
          have hc2 : w7.cell? ⟨g2, 2, none⟩ = some (.string d.f2) := (blk_cell C7.out 2).trans rfl
          have fhc2 := blk_frozen C7.out 2
          have hc3 : w7.cell? ⟨g2, 3, none⟩ = some (.string d.f3) := (blk_cell C7.out 3).trans rfl
          have fhc3 := blk_frozen C7.out 3
          have hc4 : w7.cell? ⟨g2, 4, none⟩ = some (.int .i64 d.f4) := (blk_cell C7.out 4).trans rfl
          have fhc4 := blk_frozen C7.out 4
          have hc5 : w7.cell? ⟨g2, 5, none⟩ = some (.slice A d.f5.length cv) := (blk_cell C7.out 5).trans rfl
          have fhc5 := blk_frozen C7.out 5
          have hc6 : w7.cell? ⟨g2, 6, none⟩ = some (.int .i64 d.f6) := (blk_cell C7.out 6).trans rfl
          have fhc6 := blk_frozen C7.out 6
          go_upto_region 15 with (fail)
          have HO8 := Aside0.mk ((Onto.refl w7 g2).set 6 (.int .i64 (hdT ts).f3))
          have C8 : Aside0 ((w7.setCell ⟨g2, 6, none⟩ (.int .i64 (hdT ts).f3)).heap[g2]? = some (.cells #[.int .i64 d.f0, .bool d.f1, .string d.f2, .string d.f3, .int .i64 d.f4, .slice A d.f5.length cv, .int .i64 (hdT ts).f3] 29 (0, 0))) := ⟨blk_put C7.out 6 _ rfl⟩
          clear hc0 hc1 hc2 hc3 hc4 hc5 hc6 fhc0 fhc1 fhc2 fhc3 fhc4 fhc5 fhc6
          have H8 := Aside0.mk (H7.out.onto HO8.out (Nat.le_trans H.out.size Ng2.out.2.1) Ng2.out.1)
          have K8 := Aside0.mk (HO8.out.keep K7.out (.inl Ng2.out.2.1))
          have Bg1_8 := Aside0.mk (HO8.out.blk Bg1_7.out Ng2.out.2.2)
          generalize (w7.setCell ⟨g2, 6, none⟩ (.int .i64 (hdT ts).f3)) = w8 at *
          have HR8 := Aside0.mk (R_onto_ HR7.out C7.out (by decide) HO8.out)
          obtain ⟨adb, nb, ccb, hnl, hnb, hncb, hn4b, hb, hx0, hx1, hx2, hx3⟩ := H8.out.head
          have hp0 : w8.cell? ⟨p, 0, none⟩ = some (.slice (some adb) nb ccb) := (blk_cell hb 0).trans rfl
          have q0 : (0 : Int) < (nb : Int) := by omega
          clear hnl hb
          cases hk0 : ((hdT ts1).f0 == 0) with
          | true =>
            have hk1 : ((hdT ts1).f0 != 0) = false := by rw [bne, hk0]; rfl
            have HX9 : Aside0 (pDecl ts = .ok ({ d with f6 := (hdT ts).f3 }, ts1)) := ⟨by rw [HX6.out, pEnd, if_pos (by simpa using hk0)]⟩
            have hy0 : w8.cell? ⟨g2, 0, none⟩ = some (.int .i64 d.f0) := (blk_cell C8.out 0).trans rfl
            have hy1 : w8.cell? ⟨g2, 1, none⟩ = some (.bool d.f1) := (blk_cell C8.out 1).trans rfl
            have hy2 : w8.cell? ⟨g2, 2, none⟩ = some (.string d.f2) := (blk_cell C8.out 2).trans rfl
            have hy3 : w8.cell? ⟨g2, 3, none⟩ = some (.string d.f3) := (blk_cell C8.out 3).trans rfl
            have hy4 : w8.cell? ⟨g2, 4, none⟩ = some (.int .i64 d.f4) := (blk_cell C8.out 4).trans rfl
            have hy5 : w8.cell? ⟨g2, 5, none⟩ = some (.slice A d.f5.length cv) := (blk_cell C8.out 5).trans rfl
            have hy6 : w8.cell? ⟨g2, 6, none⟩ = some (.int .i64 (hdT ts).f3) := (blk_cell C8.out 6).trans rfl
            have hc0 : w8.cell? ⟨g1, 0, none⟩ = some (.int .i64 0) := (blk_cell Bg1_8.out 0).trans rfl
            have fhc0 := blk_frozen Bg1_8.out 0
            have hc1 : w8.cell? ⟨g1, 1, none⟩ = some (.bool false) := (blk_cell Bg1_8.out 1).trans rfl
            have fhc1 := blk_frozen Bg1_8.out 1
            have hc2 : w8.cell? ⟨g1, 2, none⟩ = some (.string ⟨#[]⟩) := (blk_cell Bg1_8.out 2).trans rfl
            have fhc2 := blk_frozen Bg1_8.out 2
            have hc3 : w8.cell? ⟨g1, 3, none⟩ = some (.string ⟨#[]⟩) := (blk_cell Bg1_8.out 3).trans rfl
            have fhc3 := blk_frozen Bg1_8.out 3
            have hc4 : w8.cell? ⟨g1, 4, none⟩ = some (.int .i64 0) := (blk_cell Bg1_8.out 4).trans rfl
            have fhc4 := blk_frozen Bg1_8.out 4
            have hc5 : w8.cell? ⟨g1, 5, none⟩ = some (.slice none 0 0) := (blk_cell Bg1_8.out 5).trans rfl
            have fhc5 := blk_frozen Bg1_8.out 5
            have hc6 : w8.cell? ⟨g1, 6, none⟩ = some (.int .i64 0) := (blk_cell Bg1_8.out 6).trans rfl
            have fhc6 := blk_frozen Bg1_8.out 6
            go_wp2_with fail
            have HO9 := Aside0.mk (onto7_ w8 g1 (.int .i64 d.f0) (.bool d.f1) (.string d.f2) (.string d.f3) (.int .i64 d.f4) (.slice A d.f5.length cv) (.int .i64 (hdT ts).f3))
            have C9 := Aside0.mk (put7_ (b0 := .int .i64 d.f0) (b1 := .bool d.f1) (b2 := .string d.f2) (b3 := .string d.f3) (b4 := .int .i64 d.f4) (b5 := .slice A d.f5.length cv) (b6 := .int .i64 (hdT ts).f3) Bg1_8.out)
            clear hp0 hx0 hx1 hx2 hx3 q0 hy0 hy1 hy2 hy3 hy4 hy5 hy6 hc0 hc1 hc2 hc3 hc4 hc5 hc6 fhc0 fhc1 fhc2 fhc3 fhc4 fhc5 fhc6
            have H9 := Aside0.mk (H8.out.onto HO9.out (Nat.le_trans H.out.size Ng1.out.2) Ng1.out.1)
            have K9 := Aside0.mk (HO9.out.keep K8.out (.inl Ng1.out.2))
            have Bg2_9 := Aside0.mk (HO9.out.blk C8.out Ng2.out.2.2.symm)
            generalize (((((((w8.setCell ⟨g1, 0, none⟩ (.int .i64 d.f0)).setCell ⟨g1, 1, none⟩ (.bool d.f1)).setCell ⟨g1, 2, none⟩ (.string d.f2)).setCell ⟨g1, 3, none⟩ (.string d.f3)).setCell ⟨g1, 4, none⟩ (.int .i64 d.f4)).setCell ⟨g1, 5, none⟩ (.slice A d.f5.length cv)).setCell ⟨g1, 6, none⟩ (.int .i64 (hdT ts).f3)) = w9 at *
            have HRz := Aside0.mk (R_onto_ HR8.out Bg1_8.out (by decide) HO9.out)
            have hz0 : w9.cell? ⟨g1, 0, none⟩ = some (.int .i64 d.f0) := (blk_cell C9.out 0).trans rfl
            have hz1 : w9.cell? ⟨g1, 1, none⟩ = some (.bool d.f1) := (blk_cell C9.out 1).trans rfl
            have hz2 : w9.cell? ⟨g1, 2, none⟩ = some (.string d.f2) := (blk_cell C9.out 2).trans rfl
            have hz3 : w9.cell? ⟨g1, 3, none⟩ = some (.string d.f3) := (blk_cell C9.out 3).trans rfl
            have hz4 : w9.cell? ⟨g1, 4, none⟩ = some (.int .i64 d.f4) := (blk_cell C9.out 4).trans rfl
            have hz5 : w9.cell? ⟨g1, 5, none⟩ = some (.slice A d.f5.length cv) := (blk_cell C9.out 5).trans rfl
            have hz6 : w9.cell? ⟨g1, 6, none⟩ = some (.int .i64 (hdT ts).f3) := (blk_cell C9.out 6).trans rfl
            refine bodyPost_ret (v := dlV { d with f6 := (hdT ts).f3 } (.slice A d.f5.length cv)) (by simp [results, Try.results15, go_sem, hz0, hz1, hz2, hz3, hz4, hz5, hz6, dlV, deV]) rfl ?_
            show PPost w0 w p (pDecl ts) _ _ _
            rw [HX9.out]
            exact ⟨_, rfl, ⟨_, rfl, HRz.out⟩, H9.out, K9.out⟩
          | false =>
            have hk1 : ((hdT ts1).f0 != 0) = true := by rw [bne, hk0]; rfl
            have HX9 : Aside0 (pDecl ts = pBind (pNext 5 ts1) fun _ ts2 => .ok ({ d with f6 := (hdT ts).f3 }, ts2)) := ⟨by rw [HX6.out, pEnd, if_neg (by simpa using hk0)]⟩
            go_wp2_with fail
            clear hp0 hx0 hx1 hx2 hx3 q0
            refine (next_call w0 _ p (ts1) 5 (by decide) H8.out).mono ?_
            rintro e w9 hq
            cases hx9 : pNext 5 ts1 with
            | error x =>
              rw [hx9] at hq
              obtain ⟨rfl, h1, h2⟩ := hq
              have HX' : Aside0 (pDecl ts = .error x) := ⟨by rw [HX9.out, hx9]; rfl⟩
              refine ⟨rfl, ?_⟩
              show PPost w0 w p (pDecl ts) _ _ _
              rw [HX'.out]
              exact ⟨rfl, h1, K8.out.trans h2 (.inl rfl)⟩
            | ok x =>
              obtain ⟨t5, ts2⟩ := x
              rw [hx9] at hq
              obtain ⟨v, rfl, rfl, h1, h2⟩ := hq
              have HX9 : Aside0 (pDecl ts = .ok ({ d with f6 := (hdT ts).f3 }, ts2)) := ⟨by rw [HX9.out, hx9]; rfl⟩
              clear hx9
              have H9 := Aside0.mk h1
              have HKn := Aside0.mk h2
              have Bg1_9 : Aside0 (w9.heap[g1]? = _) := ⟨h2.blk Bg1_8.out Ng1.out.1.symm (by simp)⟩
              have Bg2_9 : Aside0 (w9.heap[g2]? = _) := ⟨h2.blk C8.out Ng2.out.1.symm (by simp)⟩
              have K9 := Aside0.mk (K8.out.trans h2 (.inl rfl))
              clear h1 h2
              have HR9 := Aside0.mk (R_psk HR8.out H8.out HKn.out)
              have hy0 : w9.cell? ⟨g2, 0, none⟩ = some (.int .i64 d.f0) := (blk_cell Bg2_9.out 0).trans rfl
              have hy1 : w9.cell? ⟨g2, 1, none⟩ = some (.bool d.f1) := (blk_cell Bg2_9.out 1).trans rfl
              have hy2 : w9.cell? ⟨g2, 2, none⟩ = some (.string d.f2) := (blk_cell Bg2_9.out 2).trans rfl
              have hy3 : w9.cell? ⟨g2, 3, none⟩ = some (.string d.f3) := (blk_cell Bg2_9.out 3).trans rfl
              have hy4 : w9.cell? ⟨g2, 4, none⟩ = some (.int .i64 d.f4) := (blk_cell Bg2_9.out 4).trans rfl
              have hy5 : w9.cell? ⟨g2, 5, none⟩ = some (.slice A d.f5.length cv) := (blk_cell Bg2_9.out 5).trans rfl
              have hy6 : w9.cell? ⟨g2, 6, none⟩ = some (.int .i64 (hdT ts).f3) := (blk_cell Bg2_9.out 6).trans rfl
              have hc0 : w9.cell? ⟨g1, 0, none⟩ = some (.int .i64 0) := (blk_cell Bg1_9.out 0).trans rfl
              have fhc0 := blk_frozen Bg1_9.out 0
              have hc1 : w9.cell? ⟨g1, 1, none⟩ = some (.bool false) := (blk_cell Bg1_9.out 1).trans rfl
              have fhc1 := blk_frozen Bg1_9.out 1
              have hc2 : w9.cell? ⟨g1, 2, none⟩ = some (.string ⟨#[]⟩) := (blk_cell Bg1_9.out 2).trans rfl
              have fhc2 := blk_frozen Bg1_9.out 2
              have hc3 : w9.cell? ⟨g1, 3, none⟩ = some (.string ⟨#[]⟩) := (blk_cell Bg1_9.out 3).trans rfl
              have fhc3 := blk_frozen Bg1_9.out 3
              have hc4 : w9.cell? ⟨g1, 4, none⟩ = some (.int .i64 0) := (blk_cell Bg1_9.out 4).trans rfl
              have fhc4 := blk_frozen Bg1_9.out 4
              have hc5 : w9.cell? ⟨g1, 5, none⟩ = some (.slice none 0 0) := (blk_cell Bg1_9.out 5).trans rfl
              have fhc5 := blk_frozen Bg1_9.out 5
              have hc6 : w9.cell? ⟨g1, 6, none⟩ = some (.int .i64 0) := (blk_cell Bg1_9.out 6).trans rfl
              have fhc6 := blk_frozen Bg1_9.out 6
              go_wp2_with fail
              have HO10 := Aside0.mk (onto7_ w9 g1 (.int .i64 d.f0) (.bool d.f1) (.string d.f2) (.string d.f3) (.int .i64 d.f4) (.slice A d.f5.length cv) (.int .i64 (hdT ts).f3))
              have C10 := Aside0.mk (put7_ (b0 := .int .i64 d.f0) (b1 := .bool d.f1) (b2 := .string d.f2) (b3 := .string d.f3) (b4 := .int .i64 d.f4) (b5 := .slice A d.f5.length cv) (b6 := .int .i64 (hdT ts).f3) Bg1_9.out)
              clear hy0 hy1 hy2 hy3 hy4 hy5 hy6 hc0 hc1 hc2 hc3 hc4 hc5 hc6 fhc0 fhc1 fhc2 fhc3 fhc4 fhc5 fhc6
              have H10 := Aside0.mk (H9.out.onto HO10.out (Nat.le_trans H.out.size Ng1.out.2) Ng1.out.1)
              have K10 := Aside0.mk (HO10.out.keep K9.out (.inl Ng1.out.2))
              have Bg2_10 := Aside0.mk (HO10.out.blk Bg2_9.out Ng2.out.2.2.symm)
              generalize (((((((w9.setCell ⟨g1, 0, none⟩ (.int .i64 d.f0)).setCell ⟨g1, 1, none⟩ (.bool d.f1)).setCell ⟨g1, 2, none⟩ (.string d.f2)).setCell ⟨g1, 3, none⟩ (.string d.f3)).setCell ⟨g1, 4, none⟩ (.int .i64 d.f4)).setCell ⟨g1, 5, none⟩ (.slice A d.f5.length cv)).setCell ⟨g1, 6, none⟩ (.int .i64 (hdT ts).f3)) = w10 at *
              have HRz := Aside0.mk (R_onto_ HR9.out Bg1_9.out (by decide) HO10.out)
              have hz0 : w10.cell? ⟨g1, 0, none⟩ = some (.int .i64 d.f0) := (blk_cell C10.out 0).trans rfl
              have hz1 : w10.cell? ⟨g1, 1, none⟩ = some (.bool d.f1) := (blk_cell C10.out 1).trans rfl
              have hz2 : w10.cell? ⟨g1, 2, none⟩ = some (.string d.f2) := (blk_cell C10.out 2).trans rfl
              have hz3 : w10.cell? ⟨g1, 3, none⟩ = some (.string d.f3) := (blk_cell C10.out 3).trans rfl
              have hz4 : w10.cell? ⟨g1, 4, none⟩ = some (.int .i64 d.f4) := (blk_cell C10.out 4).trans rfl
              have hz5 : w10.cell? ⟨g1, 5, none⟩ = some (.slice A d.f5.length cv) := (blk_cell C10.out 5).trans rfl
              have hz6 : w10.cell? ⟨g1, 6, none⟩ = some (.int .i64 (hdT ts).f3) := (blk_cell C10.out 6).trans rfl
              refine bodyPost_ret (v := dlV { d with f6 := (hdT ts).f3 } (.slice A d.f5.length cv)) (by simp [results, Try.results15, go_sem, hz0, hz1, hz2, hz3, hz4, hz5, hz6, dlV, deV]) rfl ?_
              show PPost w0 w p (pDecl ts) _ _ _
              rw [HX9.out]
              exact ⟨_, rfl, ⟨_, rfl, HRz.out⟩, H10.out, K10.out⟩
      | false =>
        cases hw3 : pWordB (⟨#[114, 117, 108, 101]⟩ : ByteArray) ts with
        | true =>
          have HW0 : Aside0 (pWordB (⟨#[115, 101, 116]⟩ : ByteArray) ts = false) := ⟨hw0⟩
          have HW1 : Aside0 (pWordB (⟨#[99, 111, 117, 110, 116]⟩ : ByteArray) ts = false) := ⟨hw1⟩
          have HW2 : Aside0 (pWordB (⟨#[110, 111, 116, 101]⟩ : ByteArray) ts = false) := ⟨hw2⟩
          have HW3 : Aside0 (pWordB (⟨#[114, 117, 108, 101]⟩ : ByteArray) ts = true) := ⟨hw3⟩
          clear hw0 hw1 hw2 hw3
          have HX0 : Aside0 (pDecl ts = pBind (pRule ts.tail) (pEnd (hdT ts).f3)) := ⟨by unfold pDecl pDecl0; rw [HW0.out, HW1.out, HW2.out, HW3.out]; rfl⟩
          go_enter Try.func15, Try.ntmps15
          go_upto_region 1 with (((with_reducible refine gate_dst (N := 2) rfl ?_); refine box_event ?hg (N := 2) ?hd (cs := #[.int .i64 0, .bool false, .string ⟨#[]⟩, .string ⟨#[]⟩, .int .i64 0, .slice none 0 0, .int .i64 0]) (t := 29) ?hr ?_; (case hd => rfl); (case hg => rfl); (case hr => first | (go_simp; done) | (go_simp; rfl)); intro g1 hg_ w1 hbox hb; have HB1 := Aside0.mk hb; have BK1 := Aside0.mk hbox; have HG1 := Aside0.mk hg_; clear hb hbox hg_))
          have H1 := Aside0.mk (H.out.step HB1.out)
          have K1 := Aside0.mk (KeepBut.of_below HB1.out p none)
          have Ng1 : Aside0 (p ≠ g1 ∧ w.heap.size ≤ g1) := ⟨by have l0 := H.out.lt; rw [HG1.out]; omega⟩
          obtain ⟨ada, na, cca, hnl, hna, hnca, hn4a, hb, hx0, hx1, hx2, hx3⟩ := H1.out.head
          have hp0 : w1.cell? ⟨p, 0, none⟩ = some (.slice (some ada) na cca) := (blk_cell hb 0).trans rfl
          have q0 : (0 : Int) < (na : Int) := by omega
          clear hnl hb
          go_upto_region 2 with (fail)
          clear hp0 hx0 hx1 hx2 hx3 q0
          go_upto_region 4 with (((with_reducible refine gate_dst (N := 4) rfl ?_); refine box_event ?hg (N := 4) ?hd (cs := #[.int .i64 0, .bool false, .string ⟨#[]⟩, .string ⟨#[]⟩, .int .i64 0, .slice none 0 0, .int .i64 0]) (t := 29) ?hr ?_; (case hd => rfl); (case hg => rfl); (case hr => first | (go_simp; done) | (go_simp; rfl)); intro g2 hg_ w2 hbox hb; have HB2 := Aside0.mk hb; have BK2 := Aside0.mk hbox; have HG2 := Aside0.mk hg_; clear hb hbox hg_))
          have H2 := Aside0.mk (H1.out.step HB2.out)
          have K2 := Aside0.mk (K1.out.trans (KeepBut.of_below HB2.out p none) (.inl rfl))
          have Bg1_2 := Aside0.mk (blk_below BK1.out HB2.out)
          have Ng2 : Aside0 (p ≠ g2 ∧ w.heap.size ≤ g2 ∧ g1 ≠ g2) := ⟨by have l0 := H1.out.lt; have l_g1 := blk_lt BK1.out; have lk := K1.out.1; rw [HG2.out]; omega⟩
          go_wp2_with fail
          refine (pword_call w0 _ p (ts) (⟨#[115, 101, 116]⟩ : ByteArray) H2.out).mono ?_
          rintro e w3 ⟨rfl, h1, h2⟩
          rw [HW0.out]
          rw [pWordT_f HW0.out] at h1
          have H3 := Aside0.mk h1
          have Bg1_3 : Aside0 (w3.heap[g1]? = _) := ⟨h2.blk Bg1_2.out Ng1.out.1.symm (by simp)⟩
          have Bg2_3 : Aside0 (w3.heap[g2]? = _) := ⟨h2.blk BK2.out Ng2.out.1.symm (by simp)⟩
          have K3 := Aside0.mk (K2.out.trans h2 (.inl rfl))
          clear h1 h2
          go_wp2_with fail
          refine (pword_call w0 _ p (ts) (⟨#[99, 111, 117, 110, 116]⟩ : ByteArray) H3.out).mono ?_
          rintro e w4 ⟨rfl, h1, h2⟩
          rw [HW1.out]
          rw [pWordT_f HW1.out] at h1
          have H4 := Aside0.mk h1
          have Bg1_4 : Aside0 (w4.heap[g1]? = _) := ⟨h2.blk Bg1_3.out Ng1.out.1.symm (by simp)⟩
          have Bg2_4 : Aside0 (w4.heap[g2]? = _) := ⟨h2.blk Bg2_3.out Ng2.out.1.symm (by simp)⟩
          have K4 := Aside0.mk (K3.out.trans h2 (.inl rfl))
          clear h1 h2
          go_wp2_with fail
          refine (pword_call w0 _ p (ts) (⟨#[110, 111, 116, 101]⟩ : ByteArray) H4.out).mono ?_
          rintro e w5 ⟨rfl, h1, h2⟩
          rw [HW2.out]
          rw [pWordT_f HW2.out] at h1
          have H5 := Aside0.mk h1
          have Bg1_5 : Aside0 (w5.heap[g1]? = _) := ⟨h2.blk Bg1_4.out Ng1.out.1.symm (by simp)⟩
          have Bg2_5 : Aside0 (w5.heap[g2]? = _) := ⟨h2.blk Bg2_4.out Ng2.out.1.symm (by simp)⟩
          have K5 := Aside0.mk (K4.out.trans h2 (.inl rfl))
          clear h1 h2
          go_wp2_with fail
          refine (pword_call w0 _ p (ts) (⟨#[114, 117, 108, 101]⟩ : ByteArray) H5.out).mono ?_
          rintro e w6 ⟨rfl, h1, h2⟩
          rw [HW3.out]
          rw [pWordT_t HW3.out] at h1
          have H6 := Aside0.mk h1
          have Bg1_6 : Aside0 (w6.heap[g1]? = _) := ⟨h2.blk Bg1_5.out Ng1.out.1.symm (by simp)⟩
          have Bg2_6 : Aside0 (w6.heap[g2]? = _) := ⟨h2.blk Bg2_5.out Ng2.out.1.symm (by simp)⟩
          have K6 := Aside0.mk (K5.out.trans h2 (.inl rfl))
          clear h1 h2
          go_wp2_with fail
          refine (rule_callD w0 _ p ((ts).tail) H6.out).mono ?_
          rintro e w7 hq
          cases hx7 : pRule ts.tail with
          | error x =>
            rw [hx7] at hq
            obtain ⟨rfl, h1, h2⟩ := hq
            have HX' : Aside0 (pDecl ts = .error x) := ⟨by rw [HX0.out, hx7]; rfl⟩
            refine ⟨rfl, ?_⟩
            show PPost w0 w p (pDecl ts) _ _ _
            rw [HX'.out]
            exact ⟨rfl, h1, K6.out.trans h2 (.inl rfl)⟩
          | ok x =>
            obtain ⟨d, ts1⟩ := x
            rw [hx7] at hq
            obtain ⟨v, rfl, ⟨vd, hv, hR⟩, h1, h2⟩ := hq
            have HX7 : Aside0 (pDecl ts = pEnd (hdT ts).f3 d ts1) := ⟨by rw [HX0.out, hx7]; rfl⟩
            clear hx7
            obtain ⟨A, cv, hvd⟩ := Kd.R_slice hR
            subst hvd
            replace hv : v = .agg #[.int .i64 d.f0, .bool d.f1, .string d.f2, .string d.f3, .int .i64 d.f4, .slice A d.f5.length cv, .int .i64 d.f6] := hv
            subst hv
            have HR7 : Aside0 (Kd.R k60 60 w7 w.heap.size (fun _ => True) (.slice A d.f5.length cv) d.f5) := ⟨Kd.R_lower hR K6.out.1⟩
            clear hR
            have H7 := Aside0.mk h1
            have Bg1_7 : Aside0 (w7.heap[g1]? = _) := ⟨h2.blk Bg1_6.out Ng1.out.1.symm (by simp)⟩
            have Bg2_7 : Aside0 (w7.heap[g2]? = _) := ⟨h2.blk Bg2_6.out Ng2.out.1.symm (by simp)⟩
            have K7 := Aside0.mk (K6.out.trans h2 (.inl rfl))
            clear h1 h2
            have hc0 : w7.cell? ⟨g2, 0, none⟩ = some (.int .i64 0) := (blk_cell Bg2_7.out 0).trans rfl
            have fhc0 := blk_frozen Bg2_7.out 0
            have hc1 : w7.cell? ⟨g2, 1, none⟩ = some (.bool false) := (blk_cell Bg2_7.out 1).trans rfl
            have fhc1 := blk_frozen Bg2_7.out 1
            have hc2 : w7.cell? ⟨g2, 2, none⟩ = some (.string ⟨#[]⟩) := (blk_cell Bg2_7.out 2).trans rfl
            have fhc2 := blk_frozen Bg2_7.out 2
            have hc3 : w7.cell? ⟨g2, 3, none⟩ = some (.string ⟨#[]⟩) := (blk_cell Bg2_7.out 3).trans rfl
            have fhc3 := blk_frozen Bg2_7.out 3
            have hc4 : w7.cell? ⟨g2, 4, none⟩ = some (.int .i64 0) := (blk_cell Bg2_7.out 4).trans rfl
            have fhc4 := blk_frozen Bg2_7.out 4
            have hc5 : w7.cell? ⟨g2, 5, none⟩ = some (.slice none 0 0) := (blk_cell Bg2_7.out 5).trans rfl
            have fhc5 := blk_frozen Bg2_7.out 5
            have hc6 : w7.cell? ⟨g2, 6, none⟩ = some (.int .i64 0) := (blk_cell Bg2_7.out 6).trans rfl
            have fhc6 := blk_frozen Bg2_7.out 6
            go_upto_region 14 with (fail)
            have HO8 := Aside0.mk (onto7_ w7 g2 (.int .i64 d.f0) (.bool d.f1) (.string d.f2) (.string d.f3) (.int .i64 d.f4) (.slice A d.f5.length cv) (.int .i64 d.f6))
            have C8 := Aside0.mk (put7_ (b0 := .int .i64 d.f0) (b1 := .bool d.f1) (b2 := .string d.f2) (b3 := .string d.f3) (b4 := .int .i64 d.f4) (b5 := .slice A d.f5.length cv) (b6 := .int .i64 d.f6) Bg2_7.out)
            clear hc0 hc1 hc2 hc3 hc4 hc5 hc6 fhc0 fhc1 fhc2 fhc3 fhc4 fhc5 fhc6
            have H8 := Aside0.mk (H7.out.onto HO8.out (Nat.le_trans H.out.size Ng2.out.2.1) Ng2.out.1)
            have K8 := Aside0.mk (HO8.out.keep K7.out (.inl Ng2.out.2.1))
            have Bg1_8 := Aside0.mk (HO8.out.blk Bg1_7.out Ng2.out.2.2)
            generalize (((((((w7.setCell ⟨g2, 0, none⟩ (.int .i64 d.f0)).setCell ⟨g2, 1, none⟩ (.bool d.f1)).setCell ⟨g2, 2, none⟩ (.string d.f2)).setCell ⟨g2, 3, none⟩ (.string d.f3)).setCell ⟨g2, 4, none⟩ (.int .i64 d.f4)).setCell ⟨g2, 5, none⟩ (.slice A d.f5.length cv)).setCell ⟨g2, 6, none⟩ (.int .i64 d.f6)) = w8 at *
            have HR8 := Aside0.mk (R_onto_ HR7.out Bg2_7.out (by decide) HO8.out)
            have hc0 : w8.cell? ⟨g2, 0, none⟩ = some (.int .i64 d.f0) := (blk_cell C8.out 0).trans rfl
            have fhc0 := blk_frozen C8.out 0
            have hc1 : w8.cell? ⟨g2, 1, none⟩ = some (.bool d.f1) := (blk_cell C8.out 1).trans rfl
            have fhc1 := blk_frozen C8.out 1
            have hc2 : w8.cell? ⟨g2, 2, none⟩ = some (.string d.f2) := (blk_cell C8.out 2).trans rfl
            have fhc2 := blk_frozen C8.out 2
            have hc3 : w8.cell? ⟨g2, 3, none⟩ = some (.string d.f3) := (blk_cell C8.out 3).trans rfl
            have fhc3 := blk_frozen C8.out 3
            have hc4 : w8.cell? ⟨g2, 4, none⟩ = some (.int .i64 d.f4) := (blk_cell C8.out 4).trans rfl
            have fhc4 := blk_frozen C8.out 4
            have hc5 : w8.cell? ⟨g2, 5, none⟩ = some (.slice A d.f5.length cv) := (blk_cell C8.out 5).trans rfl
            have fhc5 := blk_frozen C8.out 5
            have hc6 : w8.cell? ⟨g2, 6, none⟩ = some (.int .i64 d.f6) := (blk_cell C8.out 6).trans rfl
            have fhc6 := blk_frozen C8.out 6
            go_upto_region 15 with (fail)
            have HO9 := Aside0.mk ((Onto.refl w8 g2).set 6 (.int .i64 (hdT ts).f3))
            have C9 : Aside0 ((w8.setCell ⟨g2, 6, none⟩ (.int .i64 (hdT ts).f3)).heap[g2]? = some (.cells #[.int .i64 d.f0, .bool d.f1, .string d.f2, .string d.f3, .int .i64 d.f4, .slice A d.f5.length cv, .int .i64 (hdT ts).f3] 29 (0, 0))) := ⟨blk_put C8.out 6 _ rfl⟩
            clear hc0 hc1 hc2 hc3 hc4 hc5 hc6 fhc0 fhc1 fhc2 fhc3 fhc4 fhc5 fhc6
            have H9 := Aside0.mk (H8.out.onto HO9.out (Nat.le_trans H.out.size Ng2.out.2.1) Ng2.out.1)
            have K9 := Aside0.mk (HO9.out.keep K8.out (.inl Ng2.out.2.1))
            have Bg1_9 := Aside0.mk (HO9.out.blk Bg1_8.out Ng2.out.2.2)
            generalize (w8.setCell ⟨g2, 6, none⟩ (.int .i64 (hdT ts).f3)) = w9 at *
            have HR9 := Aside0.mk (R_onto_ HR8.out C8.out (by decide) HO9.out)
            obtain ⟨adb, nb, ccb, hnl, hnb, hncb, hn4b, hb, hx0, hx1, hx2, hx3⟩ := H9.out.head
            have hp0 : w9.cell? ⟨p, 0, none⟩ = some (.slice (some adb) nb ccb) := (blk_cell hb 0).trans rfl
            have q0 : (0 : Int) < (nb : Int) := by omega
            clear hnl hb
            cases hk0 : ((hdT ts1).f0 == 0) with
            | true =>
              have hk1 : ((hdT ts1).f0 != 0) = false := by rw [bne, hk0]; rfl
              have HX9 : Aside0 (pDecl ts = .ok ({ d with f6 := (hdT ts).f3 }, ts1)) := ⟨by rw [HX7.out, pEnd, if_pos (by simpa using hk0)]⟩
              have hy0 : w9.cell? ⟨g2, 0, none⟩ = some (.int .i64 d.f0) := (blk_cell C9.out 0).trans rfl
              have hy1 : w9.cell? ⟨g2, 1, none⟩ = some (.bool d.f1) := (blk_cell C9.out 1).trans rfl
              have hy2 : w9.cell? ⟨g2, 2, none⟩ = some (.string d.f2) := (blk_cell C9.out 2).trans rfl
              have hy3 : w9.cell? ⟨g2, 3, none⟩ = some (.string d.f3) := (blk_cell C9.out 3).trans rfl
              have hy4 : w9.cell? ⟨g2, 4, none⟩ = some (.int .i64 d.f4) := (blk_cell C9.out 4).trans rfl
              have hy5 : w9.cell? ⟨g2, 5, none⟩ = some (.slice A d.f5.length cv) := (blk_cell C9.out 5).trans rfl
              have hy6 : w9.cell? ⟨g2, 6, none⟩ = some (.int .i64 (hdT ts).f3) := (blk_cell C9.out 6).trans rfl
              have hc0 : w9.cell? ⟨g1, 0, none⟩ = some (.int .i64 0) := (blk_cell Bg1_9.out 0).trans rfl
              have fhc0 := blk_frozen Bg1_9.out 0
              have hc1 : w9.cell? ⟨g1, 1, none⟩ = some (.bool false) := (blk_cell Bg1_9.out 1).trans rfl
              have fhc1 := blk_frozen Bg1_9.out 1
              have hc2 : w9.cell? ⟨g1, 2, none⟩ = some (.string ⟨#[]⟩) := (blk_cell Bg1_9.out 2).trans rfl
              have fhc2 := blk_frozen Bg1_9.out 2
              have hc3 : w9.cell? ⟨g1, 3, none⟩ = some (.string ⟨#[]⟩) := (blk_cell Bg1_9.out 3).trans rfl
              have fhc3 := blk_frozen Bg1_9.out 3
              have hc4 : w9.cell? ⟨g1, 4, none⟩ = some (.int .i64 0) := (blk_cell Bg1_9.out 4).trans rfl
              have fhc4 := blk_frozen Bg1_9.out 4
              have hc5 : w9.cell? ⟨g1, 5, none⟩ = some (.slice none 0 0) := (blk_cell Bg1_9.out 5).trans rfl
              have fhc5 := blk_frozen Bg1_9.out 5
              have hc6 : w9.cell? ⟨g1, 6, none⟩ = some (.int .i64 0) := (blk_cell Bg1_9.out 6).trans rfl
              have fhc6 := blk_frozen Bg1_9.out 6
              go_wp2_with fail
              have HO10 := Aside0.mk (onto7_ w9 g1 (.int .i64 d.f0) (.bool d.f1) (.string d.f2) (.string d.f3) (.int .i64 d.f4) (.slice A d.f5.length cv) (.int .i64 (hdT ts).f3))
              have C10 := Aside0.mk (put7_ (b0 := .int .i64 d.f0) (b1 := .bool d.f1) (b2 := .string d.f2) (b3 := .string d.f3) (b4 := .int .i64 d.f4) (b5 := .slice A d.f5.length cv) (b6 := .int .i64 (hdT ts).f3) Bg1_9.out)
              clear hp0 hx0 hx1 hx2 hx3 q0 hy0 hy1 hy2 hy3 hy4 hy5 hy6 hc0 hc1 hc2 hc3 hc4 hc5 hc6 fhc0 fhc1 fhc2 fhc3 fhc4 fhc5 fhc6
              have H10 := Aside0.mk (H9.out.onto HO10.out (Nat.le_trans H.out.size Ng1.out.2) Ng1.out.1)
              have K10 := Aside0.mk (HO10.out.keep K9.out (.inl Ng1.out.2))
              have Bg2_10 := Aside0.mk (HO10.out.blk C9.out Ng2.out.2.2.symm)
              generalize (((((((w9.setCell ⟨g1, 0, none⟩ (.int .i64 d.f0)).setCell ⟨g1, 1, none⟩ (.bool d.f1)).setCell ⟨g1, 2, none⟩ (.string d.f2)).setCell ⟨g1, 3, none⟩ (.string d.f3)).setCell ⟨g1, 4, none⟩ (.int .i64 d.f4)).setCell ⟨g1, 5, none⟩ (.slice A d.f5.length cv)).setCell ⟨g1, 6, none⟩ (.int .i64 (hdT ts).f3)) = w10 at *
              have HRz := Aside0.mk (R_onto_ HR9.out Bg1_9.out (by decide) HO10.out)
              have hz0 : w10.cell? ⟨g1, 0, none⟩ = some (.int .i64 d.f0) := (blk_cell C10.out 0).trans rfl
              have hz1 : w10.cell? ⟨g1, 1, none⟩ = some (.bool d.f1) := (blk_cell C10.out 1).trans rfl
              have hz2 : w10.cell? ⟨g1, 2, none⟩ = some (.string d.f2) := (blk_cell C10.out 2).trans rfl
              have hz3 : w10.cell? ⟨g1, 3, none⟩ = some (.string d.f3) := (blk_cell C10.out 3).trans rfl
              have hz4 : w10.cell? ⟨g1, 4, none⟩ = some (.int .i64 d.f4) := (blk_cell C10.out 4).trans rfl
              have hz5 : w10.cell? ⟨g1, 5, none⟩ = some (.slice A d.f5.length cv) := (blk_cell C10.out 5).trans rfl
              have hz6 : w10.cell? ⟨g1, 6, none⟩ = some (.int .i64 (hdT ts).f3) := (blk_cell C10.out 6).trans rfl
              refine bodyPost_ret (v := dlV { d with f6 := (hdT ts).f3 } (.slice A d.f5.length cv)) (by simp [results, Try.results15, go_sem, hz0, hz1, hz2, hz3, hz4, hz5, hz6, dlV, deV]) rfl ?_
              show PPost w0 w p (pDecl ts) _ _ _
              rw [HX9.out]
              exact ⟨_, rfl, ⟨_, rfl, HRz.out⟩, H10.out, K10.out⟩
            | false =>
              have hk1 : ((hdT ts1).f0 != 0) = true := by rw [bne, hk0]; rfl
              have HX9 : Aside0 (pDecl ts = pBind (pNext 5 ts1) fun _ ts2 => .ok ({ d with f6 := (hdT ts).f3 }, ts2)) := ⟨by rw [HX7.out, pEnd, if_neg (by simpa using hk0)]⟩
              go_wp2_with fail
              clear hp0 hx0 hx1 hx2 hx3 q0
              refine (next_call w0 _ p (ts1) 5 (by decide) H9.out).mono ?_
              rintro e w10 hq
              cases hx10 : pNext 5 ts1 with
              | error x =>
                rw [hx10] at hq
                obtain ⟨rfl, h1, h2⟩ := hq
                have HX' : Aside0 (pDecl ts = .error x) := ⟨by rw [HX9.out, hx10]; rfl⟩
                refine ⟨rfl, ?_⟩
                show PPost w0 w p (pDecl ts) _ _ _
                rw [HX'.out]
                exact ⟨rfl, h1, K9.out.trans h2 (.inl rfl)⟩
              | ok x =>
                obtain ⟨t5, ts2⟩ := x
                rw [hx10] at hq
                obtain ⟨v, rfl, rfl, h1, h2⟩ := hq
                have HX10 : Aside0 (pDecl ts = .ok ({ d with f6 := (hdT ts).f3 }, ts2)) := ⟨by rw [HX9.out, hx10]; rfl⟩
                clear hx10
                have H10 := Aside0.mk h1
                have HKn := Aside0.mk h2
                have Bg1_10 : Aside0 (w10.heap[g1]? = _) := ⟨h2.blk Bg1_9.out Ng1.out.1.symm (by simp)⟩
                have Bg2_10 : Aside0 (w10.heap[g2]? = _) := ⟨h2.blk C9.out Ng2.out.1.symm (by simp)⟩
                have K10 := Aside0.mk (K9.out.trans h2 (.inl rfl))
                clear h1 h2
                have HR10 := Aside0.mk (R_psk HR9.out H9.out HKn.out)
                have hy0 : w10.cell? ⟨g2, 0, none⟩ = some (.int .i64 d.f0) := (blk_cell Bg2_10.out 0).trans rfl
                have hy1 : w10.cell? ⟨g2, 1, none⟩ = some (.bool d.f1) := (blk_cell Bg2_10.out 1).trans rfl
                have hy2 : w10.cell? ⟨g2, 2, none⟩ = some (.string d.f2) := (blk_cell Bg2_10.out 2).trans rfl
                have hy3 : w10.cell? ⟨g2, 3, none⟩ = some (.string d.f3) := (blk_cell Bg2_10.out 3).trans rfl
                have hy4 : w10.cell? ⟨g2, 4, none⟩ = some (.int .i64 d.f4) := (blk_cell Bg2_10.out 4).trans rfl
                have hy5 : w10.cell? ⟨g2, 5, none⟩ = some (.slice A d.f5.length cv) := (blk_cell Bg2_10.out 5).trans rfl
                have hy6 : w10.cell? ⟨g2, 6, none⟩ = some (.int .i64 (hdT ts).f3) := (blk_cell Bg2_10.out 6).trans rfl
                have hc0 : w10.cell? ⟨g1, 0, none⟩ = some (.int .i64 0) := (blk_cell Bg1_10.out 0).trans rfl
                have fhc0 := blk_frozen Bg1_10.out 0
                have hc1 : w10.cell? ⟨g1, 1, none⟩ = some (.bool false) := (blk_cell Bg1_10.out 1).trans rfl
                have fhc1 := blk_frozen Bg1_10.out 1
                have hc2 : w10.cell? ⟨g1, 2, none⟩ = some (.string ⟨#[]⟩) := (blk_cell Bg1_10.out 2).trans rfl
                have fhc2 := blk_frozen Bg1_10.out 2
                have hc3 : w10.cell? ⟨g1, 3, none⟩ = some (.string ⟨#[]⟩) := (blk_cell Bg1_10.out 3).trans rfl
                have fhc3 := blk_frozen Bg1_10.out 3
                have hc4 : w10.cell? ⟨g1, 4, none⟩ = some (.int .i64 0) := (blk_cell Bg1_10.out 4).trans rfl
                have fhc4 := blk_frozen Bg1_10.out 4
                have hc5 : w10.cell? ⟨g1, 5, none⟩ = some (.slice none 0 0) := (blk_cell Bg1_10.out 5).trans rfl
                have fhc5 := blk_frozen Bg1_10.out 5
                have hc6 : w10.cell? ⟨g1, 6, none⟩ = some (.int .i64 0) := (blk_cell Bg1_10.out 6).trans rfl
                have fhc6 := blk_frozen Bg1_10.out 6
                go_wp2_with fail
                have HO11 := Aside0.mk (onto7_ w10 g1 (.int .i64 d.f0) (.bool d.f1) (.string d.f2) (.string d.f3) (.int .i64 d.f4) (.slice A d.f5.length cv) (.int .i64 (hdT ts).f3))
                have C11 := Aside0.mk (put7_ (b0 := .int .i64 d.f0) (b1 := .bool d.f1) (b2 := .string d.f2) (b3 := .string d.f3) (b4 := .int .i64 d.f4) (b5 := .slice A d.f5.length cv) (b6 := .int .i64 (hdT ts).f3) Bg1_10.out)
                clear hy0 hy1 hy2 hy3 hy4 hy5 hy6 hc0 hc1 hc2 hc3 hc4 hc5 hc6 fhc0 fhc1 fhc2 fhc3 fhc4 fhc5 fhc6
                have H11 := Aside0.mk (H10.out.onto HO11.out (Nat.le_trans H.out.size Ng1.out.2) Ng1.out.1)
                have K11 := Aside0.mk (HO11.out.keep K10.out (.inl Ng1.out.2))
                have Bg2_11 := Aside0.mk (HO11.out.blk Bg2_10.out Ng2.out.2.2.symm)
                generalize (((((((w10.setCell ⟨g1, 0, none⟩ (.int .i64 d.f0)).setCell ⟨g1, 1, none⟩ (.bool d.f1)).setCell ⟨g1, 2, none⟩ (.string d.f2)).setCell ⟨g1, 3, none⟩ (.string d.f3)).setCell ⟨g1, 4, none⟩ (.int .i64 d.f4)).setCell ⟨g1, 5, none⟩ (.slice A d.f5.length cv)).setCell ⟨g1, 6, none⟩ (.int .i64 (hdT ts).f3)) = w11 at *
                have HRz := Aside0.mk (R_onto_ HR10.out Bg1_10.out (by decide) HO11.out)
                have hz0 : w11.cell? ⟨g1, 0, none⟩ = some (.int .i64 d.f0) := (blk_cell C11.out 0).trans rfl
                have hz1 : w11.cell? ⟨g1, 1, none⟩ = some (.bool d.f1) := (blk_cell C11.out 1).trans rfl
                have hz2 : w11.cell? ⟨g1, 2, none⟩ = some (.string d.f2) := (blk_cell C11.out 2).trans rfl
                have hz3 : w11.cell? ⟨g1, 3, none⟩ = some (.string d.f3) := (blk_cell C11.out 3).trans rfl
                have hz4 : w11.cell? ⟨g1, 4, none⟩ = some (.int .i64 d.f4) := (blk_cell C11.out 4).trans rfl
                have hz5 : w11.cell? ⟨g1, 5, none⟩ = some (.slice A d.f5.length cv) := (blk_cell C11.out 5).trans rfl
                have hz6 : w11.cell? ⟨g1, 6, none⟩ = some (.int .i64 (hdT ts).f3) := (blk_cell C11.out 6).trans rfl
                refine bodyPost_ret (v := dlV { d with f6 := (hdT ts).f3 } (.slice A d.f5.length cv)) (by simp [results, Try.results15, go_sem, hz0, hz1, hz2, hz3, hz4, hz5, hz6, dlV, deV]) rfl ?_
                show PPost w0 w p (pDecl ts) _ _ _
                rw [HX10.out]
                exact ⟨_, rfl, ⟨_, rfl, HRz.out⟩, H11.out, K11.out⟩
        | false =>
          cases hw4 : pWordB (⟨#[111, 112]⟩ : ByteArray) ts with
          | true =>
            have HW0 : Aside0 (pWordB (⟨#[115, 101, 116]⟩ : ByteArray) ts = false) := ⟨hw0⟩
            have HW1 : Aside0 (pWordB (⟨#[99, 111, 117, 110, 116]⟩ : ByteArray) ts = false) := ⟨hw1⟩
            have HW2 : Aside0 (pWordB (⟨#[110, 111, 116, 101]⟩ : ByteArray) ts = false) := ⟨hw2⟩
            have HW3 : Aside0 (pWordB (⟨#[114, 117, 108, 101]⟩ : ByteArray) ts = false) := ⟨hw3⟩
            have HW4 : Aside0 (pWordB (⟨#[111, 112]⟩ : ByteArray) ts = true) := ⟨hw4⟩
            clear hw0 hw1 hw2 hw3 hw4
            have HX0 : Aside0 (pDecl ts = pBind (pOper ts.tail) (pEnd (hdT ts).f3)) := ⟨by unfold pDecl pDecl0; rw [HW0.out, HW1.out, HW2.out, HW3.out, HW4.out]; rfl⟩
            go_enter Try.func15, Try.ntmps15
            go_upto_region 1 with (((with_reducible refine gate_dst (N := 2) rfl ?_); refine box_event ?hg (N := 2) ?hd (cs := #[.int .i64 0, .bool false, .string ⟨#[]⟩, .string ⟨#[]⟩, .int .i64 0, .slice none 0 0, .int .i64 0]) (t := 29) ?hr ?_; (case hd => rfl); (case hg => rfl); (case hr => first | (go_simp; done) | (go_simp; rfl)); intro g1 hg_ w1 hbox hb; have HB1 := Aside0.mk hb; have BK1 := Aside0.mk hbox; have HG1 := Aside0.mk hg_; clear hb hbox hg_))
            have H1 := Aside0.mk (H.out.step HB1.out)
            have K1 := Aside0.mk (KeepBut.of_below HB1.out p none)
            have Ng1 : Aside0 (p ≠ g1 ∧ w.heap.size ≤ g1) := ⟨by have l0 := H.out.lt; rw [HG1.out]; omega⟩
            obtain ⟨ada, na, cca, hnl, hna, hnca, hn4a, hb, hx0, hx1, hx2, hx3⟩ := H1.out.head
            have hp0 : w1.cell? ⟨p, 0, none⟩ = some (.slice (some ada) na cca) := (blk_cell hb 0).trans rfl
            have q0 : (0 : Int) < (na : Int) := by omega
            clear hnl hb
            go_upto_region 2 with (fail)
            clear hp0 hx0 hx1 hx2 hx3 q0
            go_upto_region 4 with (((with_reducible refine gate_dst (N := 4) rfl ?_); refine box_event ?hg (N := 4) ?hd (cs := #[.int .i64 0, .bool false, .string ⟨#[]⟩, .string ⟨#[]⟩, .int .i64 0, .slice none 0 0, .int .i64 0]) (t := 29) ?hr ?_; (case hd => rfl); (case hg => rfl); (case hr => first | (go_simp; done) | (go_simp; rfl)); intro g2 hg_ w2 hbox hb; have HB2 := Aside0.mk hb; have BK2 := Aside0.mk hbox; have HG2 := Aside0.mk hg_; clear hb hbox hg_))
            have H2 := Aside0.mk (H1.out.step HB2.out)
            have K2 := Aside0.mk (K1.out.trans (KeepBut.of_below HB2.out p none) (.inl rfl))
            have Bg1_2 := Aside0.mk (blk_below BK1.out HB2.out)
            have Ng2 : Aside0 (p ≠ g2 ∧ w.heap.size ≤ g2 ∧ g1 ≠ g2) := ⟨by have l0 := H1.out.lt; have l_g1 := blk_lt BK1.out; have lk := K1.out.1; rw [HG2.out]; omega⟩
            go_wp2_with fail
            refine (pword_call w0 _ p (ts) (⟨#[115, 101, 116]⟩ : ByteArray) H2.out).mono ?_
            rintro e w3 ⟨rfl, h1, h2⟩
            rw [HW0.out]
            rw [pWordT_f HW0.out] at h1
            have H3 := Aside0.mk h1
            have Bg1_3 : Aside0 (w3.heap[g1]? = _) := ⟨h2.blk Bg1_2.out Ng1.out.1.symm (by simp)⟩
            have Bg2_3 : Aside0 (w3.heap[g2]? = _) := ⟨h2.blk BK2.out Ng2.out.1.symm (by simp)⟩
            have K3 := Aside0.mk (K2.out.trans h2 (.inl rfl))
            clear h1 h2
            go_wp2_with fail
            refine (pword_call w0 _ p (ts) (⟨#[99, 111, 117, 110, 116]⟩ : ByteArray) H3.out).mono ?_
            rintro e w4 ⟨rfl, h1, h2⟩
            rw [HW1.out]
            rw [pWordT_f HW1.out] at h1
            have H4 := Aside0.mk h1
            have Bg1_4 : Aside0 (w4.heap[g1]? = _) := ⟨h2.blk Bg1_3.out Ng1.out.1.symm (by simp)⟩
            have Bg2_4 : Aside0 (w4.heap[g2]? = _) := ⟨h2.blk Bg2_3.out Ng2.out.1.symm (by simp)⟩
            have K4 := Aside0.mk (K3.out.trans h2 (.inl rfl))
            clear h1 h2
            go_wp2_with fail
            refine (pword_call w0 _ p (ts) (⟨#[110, 111, 116, 101]⟩ : ByteArray) H4.out).mono ?_
            rintro e w5 ⟨rfl, h1, h2⟩
            rw [HW2.out]
            rw [pWordT_f HW2.out] at h1
            have H5 := Aside0.mk h1
            have Bg1_5 : Aside0 (w5.heap[g1]? = _) := ⟨h2.blk Bg1_4.out Ng1.out.1.symm (by simp)⟩
            have Bg2_5 : Aside0 (w5.heap[g2]? = _) := ⟨h2.blk Bg2_4.out Ng2.out.1.symm (by simp)⟩
            have K5 := Aside0.mk (K4.out.trans h2 (.inl rfl))
            clear h1 h2
            go_wp2_with fail
            refine (pword_call w0 _ p (ts) (⟨#[114, 117, 108, 101]⟩ : ByteArray) H5.out).mono ?_
            rintro e w6 ⟨rfl, h1, h2⟩
            rw [HW3.out]
            rw [pWordT_f HW3.out] at h1
            have H6 := Aside0.mk h1
            have Bg1_6 : Aside0 (w6.heap[g1]? = _) := ⟨h2.blk Bg1_5.out Ng1.out.1.symm (by simp)⟩
            have Bg2_6 : Aside0 (w6.heap[g2]? = _) := ⟨h2.blk Bg2_5.out Ng2.out.1.symm (by simp)⟩
            have K6 := Aside0.mk (K5.out.trans h2 (.inl rfl))
            clear h1 h2
            go_wp2_with fail
            refine (pword_call w0 _ p (ts) (⟨#[111, 112]⟩ : ByteArray) H6.out).mono ?_
            rintro e w7 ⟨rfl, h1, h2⟩
            rw [HW4.out]
            rw [pWordT_t HW4.out] at h1
            have H7 := Aside0.mk h1
            have Bg1_7 : Aside0 (w7.heap[g1]? = _) := ⟨h2.blk Bg1_6.out Ng1.out.1.symm (by simp)⟩
            have Bg2_7 : Aside0 (w7.heap[g2]? = _) := ⟨h2.blk Bg2_6.out Ng2.out.1.symm (by simp)⟩
            have K7 := Aside0.mk (K6.out.trans h2 (.inl rfl))
            clear h1 h2
            go_wp2_with fail
            refine (oper_pcall w0 _ p ((ts).tail) H7.out).mono ?_
            rintro e w8 hq
            cases hx8 : pOper ts.tail with
            | error x =>
              rw [hx8] at hq
              obtain ⟨rfl, h1, h2⟩ := hq
              have HX' : Aside0 (pDecl ts = .error x) := ⟨by rw [HX0.out, hx8]; rfl⟩
              refine ⟨rfl, ?_⟩
              show PPost w0 w p (pDecl ts) _ _ _
              rw [HX'.out]
              exact ⟨rfl, h1, K7.out.trans h2 (.inl rfl)⟩
            | ok x =>
              obtain ⟨d, ts1⟩ := x
              rw [hx8] at hq
              obtain ⟨v, rfl, ⟨vd, hv, hR⟩, h1, h2⟩ := hq
              have HX8 : Aside0 (pDecl ts = pEnd (hdT ts).f3 d ts1) := ⟨by rw [HX0.out, hx8]; rfl⟩
              clear hx8
              obtain ⟨A, cv, hvd⟩ := Kd.R_slice hR
              subst hvd
              replace hv : v = .agg #[.int .i64 d.f0, .bool d.f1, .string d.f2, .string d.f3, .int .i64 d.f4, .slice A d.f5.length cv, .int .i64 d.f6] := hv
              subst hv
              have HR8 : Aside0 (Kd.R k60 60 w8 w.heap.size (fun _ => True) (.slice A d.f5.length cv) d.f5) := ⟨Kd.R_lower hR K7.out.1⟩
              clear hR
              have H8 := Aside0.mk h1
              have Bg1_8 : Aside0 (w8.heap[g1]? = _) := ⟨h2.blk Bg1_7.out Ng1.out.1.symm (by simp)⟩
              have Bg2_8 : Aside0 (w8.heap[g2]? = _) := ⟨h2.blk Bg2_7.out Ng2.out.1.symm (by simp)⟩
              have K8 := Aside0.mk (K7.out.trans h2 (.inl rfl))
              clear h1 h2
              have hc0 : w8.cell? ⟨g2, 0, none⟩ = some (.int .i64 0) := (blk_cell Bg2_8.out 0).trans rfl
              have fhc0 := blk_frozen Bg2_8.out 0
              have hc1 : w8.cell? ⟨g2, 1, none⟩ = some (.bool false) := (blk_cell Bg2_8.out 1).trans rfl
              have fhc1 := blk_frozen Bg2_8.out 1
              have hc2 : w8.cell? ⟨g2, 2, none⟩ = some (.string ⟨#[]⟩) := (blk_cell Bg2_8.out 2).trans rfl
              have fhc2 := blk_frozen Bg2_8.out 2
              have hc3 : w8.cell? ⟨g2, 3, none⟩ = some (.string ⟨#[]⟩) := (blk_cell Bg2_8.out 3).trans rfl
              have fhc3 := blk_frozen Bg2_8.out 3
              have hc4 : w8.cell? ⟨g2, 4, none⟩ = some (.int .i64 0) := (blk_cell Bg2_8.out 4).trans rfl
              have fhc4 := blk_frozen Bg2_8.out 4
              have hc5 : w8.cell? ⟨g2, 5, none⟩ = some (.slice none 0 0) := (blk_cell Bg2_8.out 5).trans rfl
              have fhc5 := blk_frozen Bg2_8.out 5
              have hc6 : w8.cell? ⟨g2, 6, none⟩ = some (.int .i64 0) := (blk_cell Bg2_8.out 6).trans rfl
              have fhc6 := blk_frozen Bg2_8.out 6
              go_upto_region 14 with (fail)
              have HO9 := Aside0.mk (onto7_ w8 g2 (.int .i64 d.f0) (.bool d.f1) (.string d.f2) (.string d.f3) (.int .i64 d.f4) (.slice A d.f5.length cv) (.int .i64 d.f6))
              have C9 := Aside0.mk (put7_ (b0 := .int .i64 d.f0) (b1 := .bool d.f1) (b2 := .string d.f2) (b3 := .string d.f3) (b4 := .int .i64 d.f4) (b5 := .slice A d.f5.length cv) (b6 := .int .i64 d.f6) Bg2_8.out)
              clear hc0 hc1 hc2 hc3 hc4 hc5 hc6 fhc0 fhc1 fhc2 fhc3 fhc4 fhc5 fhc6
              have H9 := Aside0.mk (H8.out.onto HO9.out (Nat.le_trans H.out.size Ng2.out.2.1) Ng2.out.1)
              have K9 := Aside0.mk (HO9.out.keep K8.out (.inl Ng2.out.2.1))
              have Bg1_9 := Aside0.mk (HO9.out.blk Bg1_8.out Ng2.out.2.2)
              generalize (((((((w8.setCell ⟨g2, 0, none⟩ (.int .i64 d.f0)).setCell ⟨g2, 1, none⟩ (.bool d.f1)).setCell ⟨g2, 2, none⟩ (.string d.f2)).setCell ⟨g2, 3, none⟩ (.string d.f3)).setCell ⟨g2, 4, none⟩ (.int .i64 d.f4)).setCell ⟨g2, 5, none⟩ (.slice A d.f5.length cv)).setCell ⟨g2, 6, none⟩ (.int .i64 d.f6)) = w9 at *
              have HR9 := Aside0.mk (R_onto_ HR8.out Bg2_8.out (by decide) HO9.out)
              have hc0 : w9.cell? ⟨g2, 0, none⟩ = some (.int .i64 d.f0) := (blk_cell C9.out 0).trans rfl
              have fhc0 := blk_frozen C9.out 0
              have hc1 : w9.cell? ⟨g2, 1, none⟩ = some (.bool d.f1) := (blk_cell C9.out 1).trans rfl
              have fhc1 := blk_frozen C9.out 1
              have hc2 : w9.cell? ⟨g2, 2, none⟩ = some (.string d.f2) := (blk_cell C9.out 2).trans rfl
              have fhc2 := blk_frozen C9.out 2
              have hc3 : w9.cell? ⟨g2, 3, none⟩ = some (.string d.f3) := (blk_cell C9.out 3).trans rfl
              have fhc3 := blk_frozen C9.out 3
              have hc4 : w9.cell? ⟨g2, 4, none⟩ = some (.int .i64 d.f4) := (blk_cell C9.out 4).trans rfl
              have fhc4 := blk_frozen C9.out 4
              have hc5 : w9.cell? ⟨g2, 5, none⟩ = some (.slice A d.f5.length cv) := (blk_cell C9.out 5).trans rfl
              have fhc5 := blk_frozen C9.out 5
              have hc6 : w9.cell? ⟨g2, 6, none⟩ = some (.int .i64 d.f6) := (blk_cell C9.out 6).trans rfl
              have fhc6 := blk_frozen C9.out 6
              go_upto_region 15 with (fail)
              have HO10 := Aside0.mk ((Onto.refl w9 g2).set 6 (.int .i64 (hdT ts).f3))
              have C10 : Aside0 ((w9.setCell ⟨g2, 6, none⟩ (.int .i64 (hdT ts).f3)).heap[g2]? = some (.cells #[.int .i64 d.f0, .bool d.f1, .string d.f2, .string d.f3, .int .i64 d.f4, .slice A d.f5.length cv, .int .i64 (hdT ts).f3] 29 (0, 0))) := ⟨blk_put C9.out 6 _ rfl⟩
              clear hc0 hc1 hc2 hc3 hc4 hc5 hc6 fhc0 fhc1 fhc2 fhc3 fhc4 fhc5 fhc6
              have H10 := Aside0.mk (H9.out.onto HO10.out (Nat.le_trans H.out.size Ng2.out.2.1) Ng2.out.1)
              have K10 := Aside0.mk (HO10.out.keep K9.out (.inl Ng2.out.2.1))
              have Bg1_10 := Aside0.mk (HO10.out.blk Bg1_9.out Ng2.out.2.2)
              generalize (w9.setCell ⟨g2, 6, none⟩ (.int .i64 (hdT ts).f3)) = w10 at *
              have HR10 := Aside0.mk (R_onto_ HR9.out C9.out (by decide) HO10.out)
              obtain ⟨adb, nb, ccb, hnl, hnb, hncb, hn4b, hb, hx0, hx1, hx2, hx3⟩ := H10.out.head
              have hp0 : w10.cell? ⟨p, 0, none⟩ = some (.slice (some adb) nb ccb) := (blk_cell hb 0).trans rfl
              have q0 : (0 : Int) < (nb : Int) := by omega
              clear hnl hb
              cases hk0 : ((hdT ts1).f0 == 0) with
              | true =>
                have hk1 : ((hdT ts1).f0 != 0) = false := by rw [bne, hk0]; rfl
                have HX9 : Aside0 (pDecl ts = .ok ({ d with f6 := (hdT ts).f3 }, ts1)) := ⟨by rw [HX8.out, pEnd, if_pos (by simpa using hk0)]⟩
                have hy0 : w10.cell? ⟨g2, 0, none⟩ = some (.int .i64 d.f0) := (blk_cell C10.out 0).trans rfl
                have hy1 : w10.cell? ⟨g2, 1, none⟩ = some (.bool d.f1) := (blk_cell C10.out 1).trans rfl
                have hy2 : w10.cell? ⟨g2, 2, none⟩ = some (.string d.f2) := (blk_cell C10.out 2).trans rfl
                have hy3 : w10.cell? ⟨g2, 3, none⟩ = some (.string d.f3) := (blk_cell C10.out 3).trans rfl
                have hy4 : w10.cell? ⟨g2, 4, none⟩ = some (.int .i64 d.f4) := (blk_cell C10.out 4).trans rfl
                have hy5 : w10.cell? ⟨g2, 5, none⟩ = some (.slice A d.f5.length cv) := (blk_cell C10.out 5).trans rfl
                have hy6 : w10.cell? ⟨g2, 6, none⟩ = some (.int .i64 (hdT ts).f3) := (blk_cell C10.out 6).trans rfl
                have hc0 : w10.cell? ⟨g1, 0, none⟩ = some (.int .i64 0) := (blk_cell Bg1_10.out 0).trans rfl
                have fhc0 := blk_frozen Bg1_10.out 0
                have hc1 : w10.cell? ⟨g1, 1, none⟩ = some (.bool false) := (blk_cell Bg1_10.out 1).trans rfl
                have fhc1 := blk_frozen Bg1_10.out 1
                have hc2 : w10.cell? ⟨g1, 2, none⟩ = some (.string ⟨#[]⟩) := (blk_cell Bg1_10.out 2).trans rfl
                have fhc2 := blk_frozen Bg1_10.out 2
                have hc3 : w10.cell? ⟨g1, 3, none⟩ = some (.string ⟨#[]⟩) := (blk_cell Bg1_10.out 3).trans rfl
                have fhc3 := blk_frozen Bg1_10.out 3
                have hc4 : w10.cell? ⟨g1, 4, none⟩ = some (.int .i64 0) := (blk_cell Bg1_10.out 4).trans rfl
                have fhc4 := blk_frozen Bg1_10.out 4
                have hc5 : w10.cell? ⟨g1, 5, none⟩ = some (.slice none 0 0) := (blk_cell Bg1_10.out 5).trans rfl
                have fhc5 := blk_frozen Bg1_10.out 5
                have hc6 : w10.cell? ⟨g1, 6, none⟩ = some (.int .i64 0) := (blk_cell Bg1_10.out 6).trans rfl
                have fhc6 := blk_frozen Bg1_10.out 6
                go_wp2_with fail
                have HO11 := Aside0.mk (onto7_ w10 g1 (.int .i64 d.f0) (.bool d.f1) (.string d.f2) (.string d.f3) (.int .i64 d.f4) (.slice A d.f5.length cv) (.int .i64 (hdT ts).f3))
                have C11 := Aside0.mk (put7_ (b0 := .int .i64 d.f0) (b1 := .bool d.f1) (b2 := .string d.f2) (b3 := .string d.f3) (b4 := .int .i64 d.f4) (b5 := .slice A d.f5.length cv) (b6 := .int .i64 (hdT ts).f3) Bg1_10.out)
                clear hp0 hx0 hx1 hx2 hx3 q0 hy0 hy1 hy2 hy3 hy4 hy5 hy6 hc0 hc1 hc2 hc3 hc4 hc5 hc6 fhc0 fhc1 fhc2 fhc3 fhc4 fhc5 fhc6
                have H11 := Aside0.mk (H10.out.onto HO11.out (Nat.le_trans H.out.size Ng1.out.2) Ng1.out.1)
                have K11 := Aside0.mk (HO11.out.keep K10.out (.inl Ng1.out.2))
                have Bg2_11 := Aside0.mk (HO11.out.blk C10.out Ng2.out.2.2.symm)
                generalize (((((((w10.setCell ⟨g1, 0, none⟩ (.int .i64 d.f0)).setCell ⟨g1, 1, none⟩ (.bool d.f1)).setCell ⟨g1, 2, none⟩ (.string d.f2)).setCell ⟨g1, 3, none⟩ (.string d.f3)).setCell ⟨g1, 4, none⟩ (.int .i64 d.f4)).setCell ⟨g1, 5, none⟩ (.slice A d.f5.length cv)).setCell ⟨g1, 6, none⟩ (.int .i64 (hdT ts).f3)) = w11 at *
                have HRz := Aside0.mk (R_onto_ HR10.out Bg1_10.out (by decide) HO11.out)
                have hz0 : w11.cell? ⟨g1, 0, none⟩ = some (.int .i64 d.f0) := (blk_cell C11.out 0).trans rfl
                have hz1 : w11.cell? ⟨g1, 1, none⟩ = some (.bool d.f1) := (blk_cell C11.out 1).trans rfl
                have hz2 : w11.cell? ⟨g1, 2, none⟩ = some (.string d.f2) := (blk_cell C11.out 2).trans rfl
                have hz3 : w11.cell? ⟨g1, 3, none⟩ = some (.string d.f3) := (blk_cell C11.out 3).trans rfl
                have hz4 : w11.cell? ⟨g1, 4, none⟩ = some (.int .i64 d.f4) := (blk_cell C11.out 4).trans rfl
                have hz5 : w11.cell? ⟨g1, 5, none⟩ = some (.slice A d.f5.length cv) := (blk_cell C11.out 5).trans rfl
                have hz6 : w11.cell? ⟨g1, 6, none⟩ = some (.int .i64 (hdT ts).f3) := (blk_cell C11.out 6).trans rfl
                refine bodyPost_ret (v := dlV { d with f6 := (hdT ts).f3 } (.slice A d.f5.length cv)) (by simp [results, Try.results15, go_sem, hz0, hz1, hz2, hz3, hz4, hz5, hz6, dlV, deV]) rfl ?_
                show PPost w0 w p (pDecl ts) _ _ _
                rw [HX9.out]
                exact ⟨_, rfl, ⟨_, rfl, HRz.out⟩, H11.out, K11.out⟩
              | false =>
                have hk1 : ((hdT ts1).f0 != 0) = true := by rw [bne, hk0]; rfl
                have HX9 : Aside0 (pDecl ts = pBind (pNext 5 ts1) fun _ ts2 => .ok ({ d with f6 := (hdT ts).f3 }, ts2)) := ⟨by rw [HX8.out, pEnd, if_neg (by simpa using hk0)]⟩
                go_wp2_with fail
                clear hp0 hx0 hx1 hx2 hx3 q0
                refine (next_call w0 _ p (ts1) 5 (by decide) H10.out).mono ?_
                rintro e w11 hq
                cases hx11 : pNext 5 ts1 with
                | error x =>
                  rw [hx11] at hq
                  obtain ⟨rfl, h1, h2⟩ := hq
                  have HX' : Aside0 (pDecl ts = .error x) := ⟨by rw [HX9.out, hx11]; rfl⟩
                  refine ⟨rfl, ?_⟩
                  show PPost w0 w p (pDecl ts) _ _ _
                  rw [HX'.out]
                  exact ⟨rfl, h1, K10.out.trans h2 (.inl rfl)⟩
                | ok x =>
                  obtain ⟨t5, ts2⟩ := x
                  rw [hx11] at hq
                  obtain ⟨v, rfl, rfl, h1, h2⟩ := hq
                  have HX11 : Aside0 (pDecl ts = .ok ({ d with f6 := (hdT ts).f3 }, ts2)) := ⟨by rw [HX9.out, hx11]; rfl⟩
                  clear hx11
                  have H11 := Aside0.mk h1
                  have HKn := Aside0.mk h2
                  have Bg1_11 : Aside0 (w11.heap[g1]? = _) := ⟨h2.blk Bg1_10.out Ng1.out.1.symm (by simp)⟩
                  have Bg2_11 : Aside0 (w11.heap[g2]? = _) := ⟨h2.blk C10.out Ng2.out.1.symm (by simp)⟩
                  have K11 := Aside0.mk (K10.out.trans h2 (.inl rfl))
                  clear h1 h2
                  have HR11 := Aside0.mk (R_psk HR10.out H10.out HKn.out)
                  have hy0 : w11.cell? ⟨g2, 0, none⟩ = some (.int .i64 d.f0) := (blk_cell Bg2_11.out 0).trans rfl
                  have hy1 : w11.cell? ⟨g2, 1, none⟩ = some (.bool d.f1) := (blk_cell Bg2_11.out 1).trans rfl
                  have hy2 : w11.cell? ⟨g2, 2, none⟩ = some (.string d.f2) := (blk_cell Bg2_11.out 2).trans rfl
                  have hy3 : w11.cell? ⟨g2, 3, none⟩ = some (.string d.f3) := (blk_cell Bg2_11.out 3).trans rfl
                  have hy4 : w11.cell? ⟨g2, 4, none⟩ = some (.int .i64 d.f4) := (blk_cell Bg2_11.out 4).trans rfl
                  have hy5 : w11.cell? ⟨g2, 5, none⟩ = some (.slice A d.f5.length cv) := (blk_cell Bg2_11.out 5).trans rfl
                  have hy6 : w11.cell? ⟨g2, 6, none⟩ = some (.int .i64 (hdT ts).f3) := (blk_cell Bg2_11.out 6).trans rfl
                  have hc0 : w11.cell? ⟨g1, 0, none⟩ = some (.int .i64 0) := (blk_cell Bg1_11.out 0).trans rfl
                  have fhc0 := blk_frozen Bg1_11.out 0
                  have hc1 : w11.cell? ⟨g1, 1, none⟩ = some (.bool false) := (blk_cell Bg1_11.out 1).trans rfl
                  have fhc1 := blk_frozen Bg1_11.out 1
                  have hc2 : w11.cell? ⟨g1, 2, none⟩ = some (.string ⟨#[]⟩) := (blk_cell Bg1_11.out 2).trans rfl
                  have fhc2 := blk_frozen Bg1_11.out 2
                  have hc3 : w11.cell? ⟨g1, 3, none⟩ = some (.string ⟨#[]⟩) := (blk_cell Bg1_11.out 3).trans rfl
                  have fhc3 := blk_frozen Bg1_11.out 3
                  have hc4 : w11.cell? ⟨g1, 4, none⟩ = some (.int .i64 0) := (blk_cell Bg1_11.out 4).trans rfl
                  have fhc4 := blk_frozen Bg1_11.out 4
                  have hc5 : w11.cell? ⟨g1, 5, none⟩ = some (.slice none 0 0) := (blk_cell Bg1_11.out 5).trans rfl
                  have fhc5 := blk_frozen Bg1_11.out 5
                  have hc6 : w11.cell? ⟨g1, 6, none⟩ = some (.int .i64 0) := (blk_cell Bg1_11.out 6).trans rfl
                  have fhc6 := blk_frozen Bg1_11.out 6
                  go_wp2_with fail
                  have HO12 := Aside0.mk (onto7_ w11 g1 (.int .i64 d.f0) (.bool d.f1) (.string d.f2) (.string d.f3) (.int .i64 d.f4) (.slice A d.f5.length cv) (.int .i64 (hdT ts).f3))
                  have C12 := Aside0.mk (put7_ (b0 := .int .i64 d.f0) (b1 := .bool d.f1) (b2 := .string d.f2) (b3 := .string d.f3) (b4 := .int .i64 d.f4) (b5 := .slice A d.f5.length cv) (b6 := .int .i64 (hdT ts).f3) Bg1_11.out)
                  clear hy0 hy1 hy2 hy3 hy4 hy5 hy6 hc0 hc1 hc2 hc3 hc4 hc5 hc6 fhc0 fhc1 fhc2 fhc3 fhc4 fhc5 fhc6
                  have H12 := Aside0.mk (H11.out.onto HO12.out (Nat.le_trans H.out.size Ng1.out.2) Ng1.out.1)
                  have K12 := Aside0.mk (HO12.out.keep K11.out (.inl Ng1.out.2))
                  have Bg2_12 := Aside0.mk (HO12.out.blk Bg2_11.out Ng2.out.2.2.symm)
                  generalize (((((((w11.setCell ⟨g1, 0, none⟩ (.int .i64 d.f0)).setCell ⟨g1, 1, none⟩ (.bool d.f1)).setCell ⟨g1, 2, none⟩ (.string d.f2)).setCell ⟨g1, 3, none⟩ (.string d.f3)).setCell ⟨g1, 4, none⟩ (.int .i64 d.f4)).setCell ⟨g1, 5, none⟩ (.slice A d.f5.length cv)).setCell ⟨g1, 6, none⟩ (.int .i64 (hdT ts).f3)) = w12 at *
                  have HRz := Aside0.mk (R_onto_ HR11.out Bg1_11.out (by decide) HO12.out)
                  have hz0 : w12.cell? ⟨g1, 0, none⟩ = some (.int .i64 d.f0) := (blk_cell C12.out 0).trans rfl
                  have hz1 : w12.cell? ⟨g1, 1, none⟩ = some (.bool d.f1) := (blk_cell C12.out 1).trans rfl
                  have hz2 : w12.cell? ⟨g1, 2, none⟩ = some (.string d.f2) := (blk_cell C12.out 2).trans rfl
                  have hz3 : w12.cell? ⟨g1, 3, none⟩ = some (.string d.f3) := (blk_cell C12.out 3).trans rfl
                  have hz4 : w12.cell? ⟨g1, 4, none⟩ = some (.int .i64 d.f4) := (blk_cell C12.out 4).trans rfl
                  have hz5 : w12.cell? ⟨g1, 5, none⟩ = some (.slice A d.f5.length cv) := (blk_cell C12.out 5).trans rfl
                  have hz6 : w12.cell? ⟨g1, 6, none⟩ = some (.int .i64 (hdT ts).f3) := (blk_cell C12.out 6).trans rfl
                  refine bodyPost_ret (v := dlV { d with f6 := (hdT ts).f3 } (.slice A d.f5.length cv)) (by simp [results, Try.results15, go_sem, hz0, hz1, hz2, hz3, hz4, hz5, hz6, dlV, deV]) rfl ?_
                  show PPost w0 w p (pDecl ts) _ _ _
                  rw [HX11.out]
                  exact ⟨_, rfl, ⟨_, rfl, HRz.out⟩, H12.out, K12.out⟩
          | false =>
            have HW0 : Aside0 (pWordB (⟨#[115, 101, 116]⟩ : ByteArray) ts = false) := ⟨hw0⟩
            have HW1 : Aside0 (pWordB (⟨#[99, 111, 117, 110, 116]⟩ : ByteArray) ts = false) := ⟨hw1⟩
            have HW2 : Aside0 (pWordB (⟨#[110, 111, 116, 101]⟩ : ByteArray) ts = false) := ⟨hw2⟩
            have HW3 : Aside0 (pWordB (⟨#[114, 117, 108, 101]⟩ : ByteArray) ts = false) := ⟨hw3⟩
            have HW4 : Aside0 (pWordB (⟨#[111, 112]⟩ : ByteArray) ts = false) := ⟨hw4⟩
            clear hw0 hw1 hw2 hw3 hw4
            have HX0 : Aside0 (pDecl ts = .error ((hdT ts).f3, 2)) := ⟨by unfold pDecl pDecl0; rw [HW0.out, HW1.out, HW2.out, HW3.out, HW4.out]; rfl⟩
            go_enter Try.func15, Try.ntmps15
            go_upto_region 1 with (((with_reducible refine gate_dst (N := 2) rfl ?_); refine box_event ?hg (N := 2) ?hd (cs := #[.int .i64 0, .bool false, .string ⟨#[]⟩, .string ⟨#[]⟩, .int .i64 0, .slice none 0 0, .int .i64 0]) (t := 29) ?hr ?_; (case hd => rfl); (case hg => rfl); (case hr => first | (go_simp; done) | (go_simp; rfl)); intro g1 hg_ w1 hbox hb; have HB1 := Aside0.mk hb; have BK1 := Aside0.mk hbox; have HG1 := Aside0.mk hg_; clear hb hbox hg_))
            have H1 := Aside0.mk (H.out.step HB1.out)
            have K1 := Aside0.mk (KeepBut.of_below HB1.out p none)
            have Ng1 : Aside0 (p ≠ g1 ∧ w.heap.size ≤ g1) := ⟨by have l0 := H.out.lt; rw [HG1.out]; omega⟩
            obtain ⟨ada, na, cca, hnl, hna, hnca, hn4a, hb, hx0, hx1, hx2, hx3⟩ := H1.out.head
            have hp0 : w1.cell? ⟨p, 0, none⟩ = some (.slice (some ada) na cca) := (blk_cell hb 0).trans rfl
            have q0 : (0 : Int) < (na : Int) := by omega
            clear hnl hb
            go_upto_region 2 with (fail)
            clear hp0 hx0 hx1 hx2 hx3 q0
            go_upto_region 4 with (((with_reducible refine gate_dst (N := 4) rfl ?_); refine box_event ?hg (N := 4) ?hd (cs := #[.int .i64 0, .bool false, .string ⟨#[]⟩, .string ⟨#[]⟩, .int .i64 0, .slice none 0 0, .int .i64 0]) (t := 29) ?hr ?_; (case hd => rfl); (case hg => rfl); (case hr => first | (go_simp; done) | (go_simp; rfl)); intro g2 hg_ w2 hbox hb; have HB2 := Aside0.mk hb; have BK2 := Aside0.mk hbox; have HG2 := Aside0.mk hg_; clear hb hbox hg_))
            have H2 := Aside0.mk (H1.out.step HB2.out)
            have K2 := Aside0.mk (K1.out.trans (KeepBut.of_below HB2.out p none) (.inl rfl))
            have Bg1_2 := Aside0.mk (blk_below BK1.out HB2.out)
            have Ng2 : Aside0 (p ≠ g2 ∧ w.heap.size ≤ g2 ∧ g1 ≠ g2) := ⟨by have l0 := H1.out.lt; have l_g1 := blk_lt BK1.out; have lk := K1.out.1; rw [HG2.out]; omega⟩
            go_wp2_with fail
            refine (pword_call w0 _ p (ts) (⟨#[115, 101, 116]⟩ : ByteArray) H2.out).mono ?_
            rintro e w3 ⟨rfl, h1, h2⟩
            rw [HW0.out]
            rw [pWordT_f HW0.out] at h1
            have H3 := Aside0.mk h1
            have Bg1_3 : Aside0 (w3.heap[g1]? = _) := ⟨h2.blk Bg1_2.out Ng1.out.1.symm (by simp)⟩
            have Bg2_3 : Aside0 (w3.heap[g2]? = _) := ⟨h2.blk BK2.out Ng2.out.1.symm (by simp)⟩
            have K3 := Aside0.mk (K2.out.trans h2 (.inl rfl))
            clear h1 h2
            go_wp2_with fail
            refine (pword_call w0 _ p (ts) (⟨#[99, 111, 117, 110, 116]⟩ : ByteArray) H3.out).mono ?_
            rintro e w4 ⟨rfl, h1, h2⟩
            rw [HW1.out]
            rw [pWordT_f HW1.out] at h1
            have H4 := Aside0.mk h1
            have Bg1_4 : Aside0 (w4.heap[g1]? = _) := ⟨h2.blk Bg1_3.out Ng1.out.1.symm (by simp)⟩
            have Bg2_4 : Aside0 (w4.heap[g2]? = _) := ⟨h2.blk Bg2_3.out Ng2.out.1.symm (by simp)⟩
            have K4 := Aside0.mk (K3.out.trans h2 (.inl rfl))
            clear h1 h2
            go_wp2_with fail
            refine (pword_call w0 _ p (ts) (⟨#[110, 111, 116, 101]⟩ : ByteArray) H4.out).mono ?_
            rintro e w5 ⟨rfl, h1, h2⟩
            rw [HW2.out]
            rw [pWordT_f HW2.out] at h1
            have H5 := Aside0.mk h1
            have Bg1_5 : Aside0 (w5.heap[g1]? = _) := ⟨h2.blk Bg1_4.out Ng1.out.1.symm (by simp)⟩
            have Bg2_5 : Aside0 (w5.heap[g2]? = _) := ⟨h2.blk Bg2_4.out Ng2.out.1.symm (by simp)⟩
            have K5 := Aside0.mk (K4.out.trans h2 (.inl rfl))
            clear h1 h2
            go_wp2_with fail
            refine (pword_call w0 _ p (ts) (⟨#[114, 117, 108, 101]⟩ : ByteArray) H5.out).mono ?_
            rintro e w6 ⟨rfl, h1, h2⟩
            rw [HW3.out]
            rw [pWordT_f HW3.out] at h1
            have H6 := Aside0.mk h1
            have Bg1_6 : Aside0 (w6.heap[g1]? = _) := ⟨h2.blk Bg1_5.out Ng1.out.1.symm (by simp)⟩
            have Bg2_6 : Aside0 (w6.heap[g2]? = _) := ⟨h2.blk Bg2_5.out Ng2.out.1.symm (by simp)⟩
            have K6 := Aside0.mk (K5.out.trans h2 (.inl rfl))
            clear h1 h2
            go_wp2_with fail
            refine (pword_call w0 _ p (ts) (⟨#[111, 112]⟩ : ByteArray) H6.out).mono ?_
            rintro e w7 ⟨rfl, h1, h2⟩
            rw [HW4.out]
            rw [pWordT_f HW4.out] at h1
            have H7 := Aside0.mk h1
            have Bg1_7 : Aside0 (w7.heap[g1]? = _) := ⟨h2.blk Bg1_6.out Ng1.out.1.symm (by simp)⟩
            have Bg2_7 : Aside0 (w7.heap[g2]? = _) := ⟨h2.blk Bg2_6.out Ng2.out.1.symm (by simp)⟩
            have K7 := Aside0.mk (K6.out.trans h2 (.inl rfl))
            clear h1 h2
            go_wp2_with fail
            refine (fail_call w0 _ p (ts) 2 H7.out).mono ?_
            rintro e w' ⟨rfl, rfl⟩
            refine ⟨rfl, ?_⟩
            show PPost w0 w p (pDecl ts) _ _ _
            rw [HX0.out]
            exact ⟨rfl, H7.out.2.1, K7.out⟩
end Go.Proofs.Ytmhenlilcikgmaa.X

/- Tokens: how many, and the last one. The lines of a text, plainly. -/
set_option linter.unusedSimpArgs false
set_option linter.unusedVariables false
namespace Go.Proofs.Ytmhenlilcikgmaa.X
open Go.RowKit Go.Proofs.YtmhenlilcikgmaaW.PrintWords Go.Proofs.YtmhenlilcikgmaaW.PrintLast Go.Proofs.YtmhenlilcikgmaaW.PrintMore

theorem rf_len (s : ByteArray) : ∀ (n : Nat) (r : RS), RI r (s.size - n) → n ≤ s.size → (rf s n r).1.length ≤ 801 := by
  intro n
  induction n with
  | zero =>
    intro r hr _
    rw [rf]
    unfold RS.fin
    split
    · rename_i h
      unfold RS.last at *
      have h1 := close_len (r := r) s s.size
      have := hr.len
      split
      · rename_i h2
        rw [if_pos h2] at h
        have := (errOver_zero h).1
        simp only [RS.put, List.length_append, List.length_singleton]
        omega
      · rename_i h2
        rw [if_neg h2] at h
        exact absurd h h2
    · simp
  | succ n ih =>
    intro r hr hn
    rw [rf]
    have hs : s.size - n = s.size - (n + 1) + 1 := by omega
    split
    · exact ih _ (by rw [hs]; exact hr.later (by omega)) (by omega)
    split
    · exact ih _ (by rw [hs]; exact hr.from_.later (by omega)) (by omega)
    split
    · rename_i h
      exact ih _ (by rw [hs]; exact hr.step h) (by omega)
    · simp
theorem lexR_len (s : ByteArray) : (lexR s).1.length ≤ 801 := by
  unfold lexR
  split
  · simp
  · exact rf_len s s.size _ (by rw [Nat.sub_self]; exact RI.start 0) (Nat.le_refl _)
theorem GoodT_snoc : ∀ (l : List Tk) (t : Tk), t.f0 = 0 → GoodT (l ++ [t])
  | [], t, h => h
  | x :: l, t, h => by
    have ih := GoodT_snoc l t h
    cases l with
    | nil => exact h
    | cons y l => exact ih
theorem rf_good (s : ByteArray) : ∀ (n : Nat) (r : RS), (rf s n r).2.2 = 0 → GoodT (rf s n r).1 := by
  intro n
  induction n with
  | zero =>
    intro r h
    rw [rf] at h ⊢
    unfold RS.fin at *
    split at h
    · rename_i h1
      rw [if_pos h1]
      unfold RS.last at *
      split
      · exact GoodT_snoc _ _ rfl
      · rename_i h2
        rw [if_neg h2] at h1
        exact absurd h1 h2
    · rename_i h1
      exact absurd h h1
  | succ n ih =>
    intro r h
    rw [rf] at h ⊢
    split at h
    · rename_i h1; rw [if_pos h1]; exact ih _ h
    · rename_i h1
      rw [if_neg h1]
      split at h
      · rename_i h2; rw [if_pos h2]; exact ih _ h
      · rename_i h2
        rw [if_neg h2]
        split at h
        · rename_i h3; rw [if_pos h3]; exact ih _ h
        · rename_i h3; exact absurd h h3
theorem lexR_good (s : ByteArray) (h : (lexR s).2.2 = 0) : GoodT (lexR s).1 := by
  unfold lexR at *
  split at h
  · cases h
  · rename_i h1; rw [if_neg h1]; exact rf_good _ _ _ h

/-- What a step leaves is less than what there was. -/
theorem pNext_len {k : Int} {ts : List Tk} {t : Tk} {ts' : List Tk} (h : pNext k ts = .ok (t, ts')) : ts' = ts.tail := by
  unfold pNext at h
  split at h
  · cases h; rfl
  · cases h
theorem pBind_ok {α β : Type} {x : PR α} {f : α → List Tk → PR β} {b : β} {ts : List Tk} (h : pBind x f = .ok (b, ts)) : ∃ a t1, x = .ok (a, t1) ∧ f a t1 = .ok (b, ts) := by
  cases x with
  | error e => cases h
  | ok y => exact ⟨y.1, y.2, rfl, h⟩
theorem pName_len {ts : List Tk} {s : ByteArray} {ts' : List Tk} (h : pName ts = .ok (s, ts')) : ts' = ts.tail := by
  unfold pName at h
  split at h
  · cases h
  · obtain ⟨a, t1, h1, h2⟩ := pBind_ok h
    cases h2
    exact pNext_len h1
theorem pNumber_len {ts : List Tk} {n : Int} {ts' : List Tk} (h : pNumber ts = .ok (n, ts')) : ts' = ts.tail := by
  obtain ⟨a, t1, h1, h2⟩ := pBind_ok h
  cases h2
  exact pNext_len h1
theorem tail_le {α : Type} (l : List α) : l.tail.length ≤ l.length := by simp
theorem pThing_len {k : Int} {ts : List Tk} {d : Dl} {ts' : List Tk} (h : pThing k ts = .ok (d, ts')) : ts'.length ≤ ts.length := by
  obtain ⟨a, t1, h1, h2⟩ := pBind_ok h
  cases h2
  rw [pName_len h1]; exact tail_le _
theorem pPair_len {k : Int} {ts : List Tk} {d : Dl} {ts' : List Tk} (h : pPair k ts = .ok (d, ts')) : ts'.length ≤ ts.length := by
  obtain ⟨a, t1, h1, h2⟩ := pBind_ok h
  obtain ⟨b, t2, h3, h4⟩ := pBind_ok h2
  cases h4
  rw [pName_len h3]; exact Nat.le_trans (tail_le _) (pThing_len h1)
theorem pBound_len {k : Int} {ts : List Tk} {d : Dl} {ts' : List Tk} (h : pBound k ts = .ok (d, ts')) : ts'.length ≤ ts.length := by
  obtain ⟨a, t1, h1, h2⟩ := pBind_ok h
  obtain ⟨b, t2, h3, h4⟩ := pBind_ok h2
  cases h4
  rw [pNumber_len h3]; exact Nat.le_trans (tail_le _) (pThing_len h1)
theorem tS_len (ts : List Tk) : (tS ts).length ≤ ts.length := by
  unfold tS pWordT
  split
  · exact tail_le _
  · exact Nat.le_refl _
theorem pRuleB_len {b : Bool} {x : PR Dl} {ts : List Tk} {n : Nat} (hx : ∀ d t, x = .ok (d, t) → t.length ≤ n) {d : Dl} (h : pBind x (fun d ts => .ok ({ d with f1 := b }, ts)) = .ok (d, ts)) : ts.length ≤ n := by
  obtain ⟨a, t1, h1, h2⟩ := pBind_ok h
  cases h2
  exact hx _ _ h1
theorem pRule_len {ts : List Tk} {d : Dl} {ts' : List Tk} (h : pRule ts = .ok (d, ts')) : ts'.length ≤ ts.length := by
  have ht : (tS ts).tail.length ≤ ts.length := Nat.le_trans (tail_le _) (tS_len ts)
  unfold pRule pRule1 at h
  repeat (split at h; first | exact pRuleB_len (fun d t hx => Nat.le_trans (pPair_len hx) ht) h | exact pRuleB_len (fun d t hx => Nat.le_trans (pBound_len hx) ht) h)
  cases h
theorem pDeed_len {ts : List Tk} {x : De} {ts' : List Tk} (h : pDeed ts = .ok (x, ts')) : ts'.length ≤ ts.length := by
  have h1 : ∀ k, pDeed1 k ts.tail = .ok (x, ts') → ts'.length ≤ ts.length := fun k h => by
    obtain ⟨a, t1, h1, h2⟩ := pBind_ok h
    cases h2
    rw [pName_len h1]; exact Nat.le_trans (tail_le _) (tail_le _)
  have h2 : ∀ k, pDeed2 k ts.tail = .ok (x, ts') → ts'.length ≤ ts.length := fun k h => by
    obtain ⟨a, t1, g1, g2⟩ := pBind_ok h
    obtain ⟨b, t2, g3, g4⟩ := pBind_ok g2
    cases g4
    rw [pNumber_len g3, pName_len g1]; exact Nat.le_trans (tail_le _) (Nat.le_trans (tail_le _) (tail_le _))
  unfold pDeed at h
  repeat (split at h; first | exact h1 _ h | exact h2 _ h)
  cases h
theorem pOperL_len (d : Dl) : ∀ (n : Nat) (xs : List De) (ts : List Tk) (d' : Dl) (ts' : List Tk), pOperL d n xs ts = .ok (d', ts') → ts'.length ≤ ts.length := by
  intro n
  induction n with
  | zero => intro xs ts d' ts' h; cases h; exact Nat.le_refl _
  | succ n ih =>
    intro xs ts d' ts' h
    rw [pOperL] at h
    split at h
    · obtain ⟨a, t1, h1, h2⟩ := pBind_ok h
      obtain ⟨b, t2, h3, h4⟩ := pBind_ok h2
      have := ih _ _ _ _ h4
      have := pDeed_len h3
      rw [pNext_len h1] at this
      have := tail_le ts
      omega
    · cases h; exact Nat.le_refl _
theorem pOper_len {ts : List Tk} {d : Dl} {ts' : List Tk} (h : pOper ts = .ok (d, ts')) : ts'.length ≤ ts.length := by
  obtain ⟨a, t1, h1, h2⟩ := pBind_ok h
  obtain ⟨b, t2, h3, h4⟩ := pBind_ok h2
  obtain ⟨c, t3, h5, h6⟩ := pBind_ok h4
  have e1 := pThing_len h1
  have e2 := pDeed_len h5
  have e3 := pOperL_len _ _ _ _ _ _ h6
  rw [pNext_len h3] at e2
  have := tail_le t1
  omega
theorem pDecl_len {ts : List Tk} {d : Dl} {ts' : List Tk} (hg : ts ≠ []) (h : pDecl ts = .ok (d, ts')) : ts'.length < ts.length := by
  obtain ⟨a, t1, h1, h2⟩ := pBind_ok h
  have hl : ts.tail.length < ts.length := by
    cases ts with
    | nil => exact absurd rfl hg
    | cons x l => simp
  have e1 : t1.length ≤ ts.tail.length := by
    unfold pDecl0 at h1
    repeat (split at h1; first | exact pThing_len h1 | exact pRule_len h1 | exact pOper_len h1)
    cases h1
  have e2 : ts'.length ≤ t1.length := by
    unfold pEnd at h2
    split at h2
    · cases h2; exact Nat.le_refl _
    · obtain ⟨b, t2, h3, h4⟩ := pBind_ok h2
      cases h4
      rw [pNext_len h3]; exact tail_le _
  omega

/-- The lines that tokens are, behind some. -/
def pLinesL : Nat → List Dl → List Tk → Except (Int × Int) (List Dl)
  | 0, ds, _ => .ok ds
  | n + 1, ds, ts => if (hdT ts).f0 = 0 then .ok ds else if (hdT ts).f0 = 5 then pLinesL n ds ts.tail else if ds.length = 60 then .error ((hdT ts).f3, 7) else match pDecl ts with
    | .error x => .error x
    | .ok x => pLinesL n (ds ++ [x.1]) x.2
def linesT (ts : List Tk) : Except (Int × Int) (List Dl) := pLinesL ts.length [] ts
def parseLines (s : ByteArray) : List Dl × Int × Int := if (lexR s).2.2 = 0 then (match linesT (lexR s).1 with
    | .error x => ([], x.1, x.2)
    | .ok ds => (ds, 0, 0)) else ([], (lexR s).2.1, (lexR s).2.2)
end Go.Proofs.Ytmhenlilcikgmaa.X

/- Two texts, one behind the other: the tokens of both. -/
set_option linter.unusedSimpArgs false
set_option linter.unusedVariables false
set_option linter.unusedSectionVars false
namespace Go.Proofs.Ytmhenlilcikgmaa.X
open Go.RowKit Go.Proofs.YtmhenlilcikgmaaW.PrintWords Go.Proofs.YtmhenlilcikgmaaW.PrintLast Go.Proofs.YtmhenlilcikgmaaW.PrintMore

abbrev TkL := S45
def e0 : ByteArray := ⟨#[]⟩
/-- How many line feeds there are from a place on. -/
def feedsFrom (s : ByteArray) : Nat → Nat
  | 0 => 0
  | n + 1 => (if byt s (s.size - (n + 1)) = 10 then 1 else 0) + feedsFrom s n
theorem over_zero {n : Nat} {er : Int} (h : errOver n er = 0) : n < 800 ∧ er = 0 := errOver_zero h
theorem over_ok {n : Nat} (h : n < 800) : errOver n 0 = 0 := by unfold errOver; rw [if_neg (by omega)]
theorem over_bad {n : Nat} (h : 800 ≤ n) : errOver n 0 = 7 := by unfold errOver; rw [if_pos ⟨h, rfl⟩]

/-- Tokens on the way are not the last one. -/
def Mid (xs : List TkL) : Prop := ∀ t ∈ xs, t.f0 ≠ 0
theorem Mid.snoc {xs : List TkL} (h : Mid xs) {t : TkL} (ht : t.f0 ≠ 0) : Mid (xs ++ [t]) := by
  intro u hu
  rcases List.mem_append.1 hu with h1 | h1
  · exact h u h1
  · rw [List.mem_singleton.1 h1]; exact ht
theorem Mid.close {r : RS} (h : Mid r.xs) (s : ByteArray) (q : Nat) : Mid (r.close s q).xs := by
  unfold RS.close
  split
  · exact h
  split
  · exact h.snoc (by simp)
  split
  · exact h.snoc (by simp)
  · exact h
theorem Mid.one {r : RS} (h : Mid r.xs) (c : Int) : Mid (r.one c).xs := by
  unfold RS.one
  split
  · exact h
  split
  · exact h.snoc (by simp)
  split
  · exact h.snoc (by simp)
  split
  · exact h.snoc (by simp)
  split
  · exact h
  · exact h
theorem Mid.step {r : RS} (h : Mid r.xs) (s : ByteArray) (q : Nat) (c : Int) : Mid (r.step s q c).xs := by
  have h1 : Mid (({ r with nt := false } : RS).close s q).xs := Mid.close (r := { r with nt := false }) h s q
  unfold RS.step
  split
  · exact h1.one c
  · exact h1
/-- As many tokens as bytes, at most. -/
def Few (r : RS) (pos : Nat) : Prop := r.xs.length ≤ pos ∧ (0 ≤ r.fr → r.xs.length + 1 ≤ pos)
theorem Few.close {r : RS} {p : Nat} (h : Few r p) (s : ByteArray) (q : Nat) : (r.close s q).xs.length ≤ p ∧ Few (r.close s q) p := by
  have h1 := h.1
  have h2 := h.2
  unfold RS.close
  split
  · exact ⟨h1, h⟩
  · rename_i h3
    have h4 := h2 (by omega)
    split
    · refine ⟨by simp [RS.put]; omega, by simp [RS.put]; omega, fun h => by simp [RS.put] at h⟩
    split
    · refine ⟨by simp [RS.put]; omega, by simp [RS.put]; omega, fun h => by simp [RS.put] at h⟩
    · exact ⟨h1, h1, fun h => by simp at h⟩
theorem Few.put {r : RS} {p : Nat} (h : Few r p) (k : Int) (t : ByteArray) (n : Int) : Few (r.put k t n) (p + 1) := ⟨by have := h.1; simp [RS.put]; omega, fun hf => by have := h.2 hf; simp [RS.put]; omega⟩
theorem Few.later {r : RS} {p q : Nat} (h : Few r p) (hq : p ≤ q) : Few r q := ⟨Nat.le_trans h.1 hq, fun hf => Nat.le_trans (h.2 hf) hq⟩
theorem Few.one {r : RS} {p : Nat} (h : Few r p) (c : Int) : Few (r.one c) (p + 1) := by
  unfold RS.one
  split
  · exact h.later (by omega)
  split
  · exact h.put _ _ _
  split
  · exact h.put _ _ _
  split
  · exact h.put 5 _ _
  split
  · exact h.later (by omega)
  · exact h.later (by omega)
theorem Few.step {r : RS} {p : Nat} (h : Few r p) (s : ByteArray) (q : Nat) (c : Int) : Few (r.step s q c) (p + 1) := by
  have h1 : Few (({ r with nt := false } : RS).close s q) p := (Few.close (r := { r with nt := false }) h s q).2
  unfold RS.step
  split
  · exact h1.one c
  · exact h1.later (by omega)
theorem Few.from_ {r : RS} {p : Nat} (h : Few r p) (q : Nat) : Few (r.from_ q) (p + 1) := by
  have h1 := h.1
  unfold RS.from_
  split
  · exact ⟨by simp; omega, fun _ => by simp; omega⟩
  · exact h.later (by omega)

theorem one_line (r : RS) (c : Int) (he : (r.one c).er = 0) : (r.one c).line = r.line + (if c = 10 then 1 else 0) ∧ (r.one c).fr = r.fr := by
  by_cases h10 : c = 10
  · subst h10
    rw [if_pos rfl]
    exact ⟨rfl, rfl⟩
  · rw [if_neg h10]
    unfold RS.one at he ⊢
    split
    · exact ⟨(Int.add_zero _).symm, rfl⟩
    split
    · exact ⟨(Int.add_zero _).symm, rfl⟩
    split
    · exact ⟨(Int.add_zero _).symm, rfl⟩
    split
    · exact ⟨(Int.add_zero _).symm, rfl⟩
    · exact ⟨(Int.add_zero _).symm, rfl⟩

section
variable (a t : ByteArray) (hby : ∀ i, i < a.size → byt t i = byt a i) (hex : ∀ i j, j ≤ a.size → t.extract i j = a.extract i j)
include hby hex
theorem close_ahead (r : RS) (q : Nat) (hq : q ≤ a.size) : r.close t q = r.close a q := by
  unfold RS.close
  rw [hex _ _ hq]
theorem step_ahead (r : RS) (q : Nat) (hq : q ≤ a.size) (c : Int) : r.step t q c = r.step a q c := by
  unfold RS.step
  rw [close_ahead a t hby hex _ q hq]
/-- A text that is read whole, with a line feed behind it: its tokens stand, and a reader at which no word goes on is left. -/
theorem ahead (h10 : byt t a.size = 10) (m : Nat) (hm : a.size + 1 + m = t.size) : ∀ (n : Nat) (r : RS), n ≤ a.size → RI r (a.size - n) → Mid r.xs → Few r (a.size - n) → (r.fr < 0 → r.fr = -1) → ∀ ts, rf a n r = (ts, 0, 0) →
    ∃ xs line, ts = xs ++ [⟨0, e0, 0, line⟩] ∧ Mid xs ∧ line = r.line + feedsFrom a n ∧ xs.length ≤ a.size ∧ xs.length < 800 ∧
      rf t (n + 1 + m) r = rf t m ⟨xs ++ [⟨5, e0, 0, line⟩], line + 1, -1, false, 0⟩ := by
  intro n
  induction n with
  | zero =>
    intro r _ hr hM hF hfr ts h
    rw [Nat.sub_zero] at hr hF
    rw [rf] at h
    unfold RS.fin at h
    have hcl := close_line (r := r) a a.size
    have hcM := hM.close a a.size
    have hcF := (hF.close a a.size).1
    have hcf : (r.close a a.size).fr = -1 := by
      unfold RS.close
      split
      · rename_i h1; exact hfr h1
      split
      · rfl
      split <;> rfl
    have hce := close_good (r := r) a a.size hr.len
    split at h
    · rename_i h1
      by_cases h2 : (r.close a a.size).er = 0
      · have hl : r.last a = (r.close a a.size).put 0 ⟨#[]⟩ 0 := by unfold RS.last; rw [if_pos h2]
        rw [hl] at h h1
        have h3 := over_zero h1
        have hx := congrArg Prod.fst h
        simp only [RS.put] at hx
        refine ⟨(r.close a a.size).xs, r.line, ?_, hcM, by simp [feedsFrom], hcF, h3.1, ?_⟩
        · rw [← hx, hcl]; rfl
        · have hnt : ¬ (r.nt = true ∧ ¬ byt t a.size = 10) := fun h => h.2 h10
          have r2 := rf_step (s := t) (n := 0 + 1 + m) (pos := a.size) (r := r) (by omega) (by omega) hnt (by rw [h10]; rfl)
          rw [h10] at r2
          have hst : r.step t a.size 10 = ⟨(r.close a a.size).xs ++ [⟨5, e0, 0, r.line⟩], r.line + 1, -1, false, 0⟩ := by
            unfold RS.step
            rw [close_ahead a t hby hex _ _ (Nat.le_refl _)]
            have e : (({ r with nt := false } : RS).close a a.size) = { r.close a a.size with nt := false } := by
              unfold RS.close
              simp only
              split
              · rfl
              split
              · rfl
              split <;> rfl
            rw [e]
            rw [if_pos h2]
            unfold RS.one
            rw [if_neg (by decide), if_neg (by decide), if_neg (by decide), if_pos rfl]
            simp only [RS.put, hcl, hcf, h2, over_ok h3.1]
            rfl
          rw [r2, hst, if_pos rfl]
          congr 1
          omega
      · have hl : r.last a = r.close a a.size := by unfold RS.last; rw [if_neg h2]
        rw [hl] at h1
        exact absurd h1 h2
    · rename_i h1
      have h4 := congrArg (fun x => x.2.2) h
      simp only at h4
      exact absurd h4 h1
  | succ n ih =>
    intro r hn hr hM hF hfr ts h
    obtain ⟨q, hq⟩ : ∃ q, q = a.size - (n + 1) := ⟨_, rfl⟩
    rw [← hq] at hr hF
    have hs : a.size - n = q + 1 := by omega
    have hfe : feedsFrom a (n + 1) = (if byt a q = 10 then 1 else 0) + feedsFrom a n := by rw [feedsFrom, ← hq]
    by_cases hA : r.nt = true ∧ ¬ byt a q = 10
    · have r1 : rf a (n + 1) r = rf a n r := by rw [rf, ← hq, if_pos hA]
      have r2 : rf t (n + 1 + 1 + m) r = rf t (n + 1 + m) r := by
        rw [show n + 1 + 1 + m = (n + 1 + m) + 1 by omega, rf, show t.size - (n + 1 + m + 1) = q by omega, if_pos (by rw [hby q (by omega)]; exact hA)]
      rw [r1] at h
      rw [r2, hfe, if_neg hA.2, Nat.zero_add]
      exact ih r (by omega) (by rw [hs]; exact hr.later (by omega)) hM (by rw [hs]; exact hF.later (by omega)) hfr ts h
    by_cases hp : partB (byt a q) = true
    · have r1 := rf_part (s := a) (n := n + 1) (pos := q) (r := r) (by omega) (by omega) hA hp
      have r2 := rf_part (s := t) (n := n + 1 + 1 + m) (pos := q) (r := r) (by omega) (by omega) (by rw [hby q (by omega)]; exact hA) (by rw [hby q (by omega)]; exact hp)
      have h10' : ¬ byt a q = 10 := by
        intro h'
        rw [h'] at hp
        revert hp; decide
      rw [r1, Nat.add_sub_cancel] at h
      rw [r2, show n + 1 + 1 + m - 1 = n + 1 + m by omega, hfe, if_neg h10', Nat.zero_add]
      have hx : (r.from_ q).xs = r.xs ∧ (r.from_ q).line = r.line := by unfold RS.from_; split <;> exact ⟨rfl, rfl⟩
      have := ih (r.from_ q) (by omega) (by rw [hs]; exact hr.from_.later (by omega)) (by rw [hx.1]; exact hM) (by rw [hs]; exact hF.from_ q) (by
        unfold RS.from_
        split
        · intro h'; simp at h'; omega
        · rename_i h1; intro h'; exact absurd h' h1) ts h
      rw [hx.2] at this
      exact this
    · have hp' : partB (byt a q) = false := by simpa using hp
      have r1 := rf_step (s := a) (n := n + 1) (pos := q) (r := r) (by omega) (by omega) hA hp'
      have r2 := rf_step (s := t) (n := n + 1 + 1 + m) (pos := q) (r := r) (by omega) (by omega) (by rw [hby q (by omega)]; exact hA) (by rw [hby q (by omega)]; exact hp')
      rw [hby q (by omega), step_ahead a t hby hex r q (by omega)] at r2
      by_cases he : (r.step a q (byt a q)).er = 0
      · rw [r1, if_pos he, Nat.add_sub_cancel] at h
        rw [r2, if_pos he, show n + 1 + 1 + m - 1 = n + 1 + m by omega, hfe]
        have hln : (r.step a q (byt a q)).line = r.line + (if byt a q = 10 then 1 else 0) ∧ (r.step a q (byt a q)).fr = -1 := by
          have hcl := close_line (r := { r with nt := false }) a q
          have hcf : (({ r with nt := false } : RS).close a q).fr = -1 := by
            unfold RS.close
            split
            · rename_i h1; exact hfr h1
            split
            · rfl
            split <;> rfl
          unfold RS.step at he ⊢
          by_cases h2 : (({ r with nt := false } : RS).close a q).er = 0
          · rw [if_pos h2] at he ⊢
            have h3 := one_line _ (byt a q) he
            exact ⟨by rw [h3.1, hcl], by rw [h3.2, hcf]⟩
          · rw [if_neg h2] at he
            exact absurd he h2
        obtain ⟨xs, line, h1, h2, h3, h4, h5, h6⟩ := ih _ (by omega) (by rw [hs]; exact hr.step he) (hM.step a q _) (by rw [hs]; exact hF.step a q _) (fun _ => hln.2) ts h
        refine ⟨xs, line, h1, h2, ?_, h4, h5, h6⟩
        rw [h3, hln.1]
        split <;> simp <;> omega
      · rw [r1, if_neg he] at h
        have h4 := congrArg (fun x => x.2.2) h
        exact absurd h4 he
end

def shT (d : Int) (t : TkL) : TkL := ⟨t.f0, t.f1, t.f2, t.f3 + d⟩
/-- The same reader, with tokens ahead, later. -/
def RS.sh (r : RS) (A : List TkL) (d : Int) (o : Nat) : RS := ⟨A ++ r.xs.map (shT d), r.line + d, if r.fr < 0 then r.fr else r.fr + o, r.nt, r.er⟩
theorem sh_put (r : RS) (A : List TkL) (d : Int) (o : Nat) (k : Int) (t : ByteArray) (n : Int) (h : (r.put k t n).er = 0) : ((r.sh A d o).put k t n = (r.put k t n).sh A d o) ∨ (((r.sh A d o).put k t n).er = 7 ∧ 800 ≤ A.length + r.xs.length) := by
  have h1 := over_zero h
  unfold RS.sh RS.put errOver
  by_cases h2 : 800 ≤ A.length + r.xs.length
  · right
    refine ⟨?_, h2⟩
    simp only [List.length_append, List.length_map]
    rw [if_pos ⟨h2, h1.2⟩]
  · left
    simp only [List.length_append, List.length_map, List.map_append, List.map_cons, List.map_nil]
    rw [if_neg (show ¬ (800 ≤ A.length + r.xs.length ∧ r.er = 0) from fun h => h2 h.1), if_neg (show ¬ (800 ≤ r.xs.length ∧ r.er = 0) from fun h => by have := h.1; omega)]
    simp [shT]
section
variable (b t : ByteArray) (o : Nat) (ho : o + b.size = t.size) (hby : ∀ i, i < b.size → byt t (o + i) = byt b i) (hex : ∀ i j, j ≤ b.size → t.extract (o + i) (o + j) = b.extract i j)
include ho hby hex
theorem close_behind (r : RS) (A : List TkL) (d : Int) (q : Nat) (hq : q ≤ b.size) (h : (r.close b q).er = 0) : ((r.sh A d o).close t (o + q) = (r.close b q).sh A d o) ∨ (((r.sh A d o).close t (o + q)).er = 7 ∧ 800 ≤ A.length + r.xs.length) := by
  by_cases hf : r.fr < 0
  · left
    unfold RS.close
    rw [if_pos hf, if_pos (by unfold RS.sh; simp only; rw [if_pos hf]; exact hf)]
  · have e1 : (r.sh A d o).fr = r.fr + o := by unfold RS.sh; simp only; rw [if_neg hf]
    have e2 : (r.sh A d o).fr.toNat = o + r.fr.toNat := by rw [e1]; omega
    have e3 : ({ (r.sh A d o) with fr := -1 } : RS) = ({ r with fr := -1 } : RS).sh A d o := by
      unfold RS.sh
      simp only
      rw [if_pos (by decide)]
    unfold RS.close at h ⊢
    rw [if_neg hf] at h
    rw [if_neg hf, if_neg (by rw [e1]; omega), e2, hex _ _ hq, e3]
    by_cases hw : wordB (b.extract r.fr.toNat q) = true
    · rw [if_pos hw] at h ⊢
      rw [if_pos hw]
      exact sh_put _ A d o _ _ _ h
    · rw [if_neg hw] at h ⊢
      rw [if_neg hw]
      by_cases hn : (numO (b.extract r.fr.toNat q)).isSome = true
      · rw [if_pos hn] at h ⊢
        rw [if_pos hn]
        exact sh_put _ A d o _ _ _ h
      · rw [if_neg hn] at h
        exact absurd h (by simp)
omit ho hby hex in
theorem one_behind (r : RS) (A : List TkL) (d : Int) (c : Int) (h : (r.one c).er = 0) : ((r.sh A d o).one c = (r.one c).sh A d o) ∨ (((r.sh A d o).one c).er = 7 ∧ 800 ≤ A.length + r.xs.length) := by
  unfold RS.one at h ⊢
  by_cases h1 : c = 32 ∨ c = 9
  · rw [if_pos h1, if_pos h1]; exact .inl rfl
  rw [if_neg h1] at h ⊢
  rw [if_neg h1]
  by_cases h2 : c = 58
  · rw [if_pos h2] at h ⊢
    rw [if_pos h2]; exact sh_put _ A d o _ _ _ h
  rw [if_neg h2] at h ⊢
  rw [if_neg h2]
  by_cases h3 : c = 44
  · rw [if_pos h3] at h ⊢
    rw [if_pos h3]; exact sh_put _ A d o _ _ _ h
  rw [if_neg h3] at h ⊢
  rw [if_neg h3]
  by_cases h4 : c = 10
  · rw [if_pos h4] at h ⊢
    rw [if_pos h4]
    rcases sh_put r A d o 5 ⟨#[]⟩ 0 h with h5 | h5
    · left
      rw [h5]
      unfold RS.sh RS.put
      simp only
      congr 1
      omega
    · exact .inr h5
  rw [if_neg h4] at h ⊢
  rw [if_neg h4]
  by_cases h5 : c = 35
  · rw [if_pos h5, if_pos h5]; exact .inl rfl
  · rw [if_neg h5] at h
    exact absurd h (by simp)
theorem step_behind (r : RS) (A : List TkL) (d : Int) (q : Nat) (hq : q ≤ b.size) (c : Int) (h : (r.step b q c).er = 0) : ((r.sh A d o).step t (o + q) c = (r.step b q c).sh A d o) ∨ (((r.sh A d o).step t (o + q) c).er = 7 ∧ 799 ≤ A.length + r.xs.length) := by
  have e0 : ({ (r.sh A d o) with nt := false } : RS) = ({ r with nt := false } : RS).sh A d o := rfl
  have hl := close_len (r := { r with nt := false }) b q
  unfold RS.step at h ⊢
  rw [e0]
  by_cases h1 : (({ r with nt := false } : RS).close b q).er = 0
  · rw [if_pos h1] at h ⊢
    rcases close_behind b t o ho hby hex { r with nt := false } A d q hq h1 with h2 | h2
    · rw [h2, if_pos (show ((({ r with nt := false } : RS).close b q).sh A d o).er = 0 from h1)]
      rcases one_behind o _ A d c h with h3 | h3
      · exact .inl h3
      · exact .inr ⟨h3.1, by simp only at hl; omega⟩
    · right
      rw [if_neg (by rw [h2.1]; decide)]
      exact ⟨h2.1, by have := h2.2; simp only at this; omega⟩
  · rw [if_neg h1] at h
    exact absurd h h1
/-- A text that is read whole, behind another: its tokens, later; or there are too many. -/
theorem behind (A : List TkL) (d : Int) (hA8 : A.length ≤ 800) : ∀ (n : Nat) (r : RS), n ≤ b.size → RI r (b.size - n) → Few r (b.size - n) → ∀ ts, rf b n r = (ts, 0, 0) →
    rf t n (r.sh A d o) = (A ++ ts.map (shT d), 0, 0) ∨ ∃ line, rf t n (r.sh A d o) = ([], line, 7) ∧ 799 ≤ A.length + b.size := by
  intro n
  induction n with
  | zero =>
    intro r _ hr hF ts h
    rw [Nat.sub_zero] at hF
    rw [rf] at h ⊢
    have e7 : ∀ R : RS, (R.last t).er = 7 → ∃ line, R.fin t = ([], line, 7) := fun R h7 => ⟨(R.last t).line, by unfold RS.fin; rw [if_neg (by rw [h7]; decide), h7]⟩
    unfold RS.fin at h
    by_cases h1 : (r.last b).er = 0
    · rw [if_pos h1] at h
      by_cases h2 : (r.close b b.size).er = 0
      · have hl : r.last b = (r.close b b.size).put 0 ⟨#[]⟩ 0 := by unfold RS.last; rw [if_pos h2]
        rw [hl] at h h1
        have hF1 := hF.1
        have hcF := (hF.close b b.size).1
        have hx := congrArg Prod.fst h
        simp only at hx
        rcases close_behind b t o ho hby hex r A d b.size (Nat.le_refl _) h2 with h3 | h3
        · rw [ho] at h3
          have hl2 : (r.sh A d o).last t = ((r.close b b.size).sh A d o).put 0 ⟨#[]⟩ 0 := by
            unfold RS.last
            rw [h3, if_pos (show ((r.close b b.size).sh A d o).er = 0 from h2)]
          rcases sh_put (r.close b b.size) A d o 0 ⟨#[]⟩ 0 h1 with h4 | h4
          · left
            unfold RS.fin
            rw [hl2, h4, if_pos (show (((r.close b b.size).put 0 ⟨#[]⟩ 0).sh A d o).er = 0 from h1), ← hx]
            rfl
          · right
            obtain ⟨line, h5⟩ := e7 (r.sh A d o) (by rw [hl2]; exact h4.1)
            exact ⟨line, h5, by omega⟩
        · right
          rw [ho] at h3
          have hl2 : (r.sh A d o).last t = (r.sh A d o).close t t.size := by
            unfold RS.last
            rw [if_neg (by rw [h3.1]; decide)]
          obtain ⟨line, h5⟩ := e7 (r.sh A d o) (by rw [hl2]; exact h3.1)
          exact ⟨line, h5, by omega⟩
      · have hl : r.last b = r.close b b.size := by unfold RS.last; rw [if_neg h2]
        rw [hl] at h1
        exact absurd h1 h2
    · rw [if_neg h1] at h
      have h4 := congrArg (fun x => x.2.2) h
      exact absurd h4 h1
  | succ n ih =>
    intro r hn hr hF ts h
    obtain ⟨q, hq⟩ : ∃ q, q = b.size - (n + 1) := ⟨_, rfl⟩
    rw [← hq] at hr hF
    have hs : b.size - n = q + 1 := by omega
    have hb := hby q (by omega)
    by_cases hA : r.nt = true ∧ ¬ byt b q = 10
    · have r1 : rf b (n + 1) r = rf b n r := by rw [rf, ← hq, if_pos hA]
      have r2 : rf t (n + 1) (r.sh A d o) = rf t n (r.sh A d o) := by
        rw [rf, show t.size - (n + 1) = o + q by omega, if_pos (by rw [hb]; exact hA)]
      rw [r1] at h
      rw [r2]
      exact ih r (by omega) (by rw [hs]; exact hr.later (by omega)) (by rw [hs]; exact hF.later (by omega)) ts h
    by_cases hp : partB (byt b q) = true
    · have r1 := rf_part (s := b) (n := n + 1) (pos := q) (r := r) (by omega) (by omega) hA hp
      have r2 := rf_part (s := t) (n := n + 1) (pos := o + q) (r := r.sh A d o) (by omega) (by omega) (by rw [hb]; exact hA) (by rw [hb]; exact hp)
      rw [r1, Nat.add_sub_cancel] at h
      have e : (r.sh A d o).from_ (o + q) = (r.from_ q).sh A d o := by
        unfold RS.from_
        by_cases hf : r.fr < 0
        · rw [if_pos hf, if_pos (by unfold RS.sh; simp only; rw [if_pos hf]; exact hf)]
          unfold RS.sh
          simp only
          rw [if_neg (by omega)]
          congr 1
          simp; omega
        · rw [if_neg hf, if_neg (by unfold RS.sh; simp only; rw [if_neg hf]; omega)]
      rw [r2, Nat.add_sub_cancel, e]
      exact ih _ (by omega) (by rw [hs]; exact hr.from_.later (by omega)) (by rw [hs]; exact hF.from_ q) ts h
    · have hp' : partB (byt b q) = false := by simpa using hp
      have r1 := rf_step (s := b) (n := n + 1) (pos := q) (r := r) (by omega) (by omega) hA hp'
      have r2 := rf_step (s := t) (n := n + 1) (pos := o + q) (r := r.sh A d o) (by omega) (by omega) (by rw [hb]; exact hA) (by rw [hb]; exact hp')
      rw [hb] at r2
      by_cases he : (r.step b q (byt b q)).er = 0
      · rw [r1, if_pos he, Nat.add_sub_cancel] at h
        rcases step_behind b t o ho hby hex r A d q (by omega) (byt b q) he with h3 | h3
        · rw [h3, if_pos (show ((r.step b q (byt b q)).sh A d o).er = 0 from he), Nat.add_sub_cancel] at r2
          rw [r2]
          exact ih _ (by omega) (by rw [hs]; exact hr.step he) (by rw [hs]; exact hF.step b q _) ts h
        · right
          rw [if_neg (by rw [h3.1]; decide), h3.1] at r2
          exact ⟨_, r2, by have := hF.1; omega⟩
      · rw [r1, if_neg he] at h
        have h4 := congrArg (fun x => x.2.2) h
        exact absurd h4 he
end
end Go.Proofs.Ytmhenlilcikgmaa.X

/- Two texts, one behind the other: the lines of both. -/
set_option linter.unusedSimpArgs false
set_option linter.unusedVariables false
set_option linter.unusedSectionVars false
namespace Go.Proofs.Ytmhenlilcikgmaa.X
open Go.RowKit Go.Proofs.YtmhenlilcikgmaaW.PrintWords Go.Proofs.YtmhenlilcikgmaaW.PrintLast Go.Proofs.YtmhenlilcikgmaaW.PrintMore

def shD (d : Int) (x : Dl) : Dl := { x with f6 := x.f6 + d }
/-- Tokens that are like others, later, and go on with F behind. -/
inductive Lk (d : Int) (F : List Tk) : List Tk → List Tk → Prop
  | fin (e : Tk) : e.f0 = 0 → Lk d F [e] F
  | cons (t : Tk) (l l' : List Tk) : t.f0 ≠ 0 → Lk d F l l' → Lk d F (t :: l) (shT d t :: l')
section
variable {d : Int} {F : List Tk} (hF : (hdT F).f0 = 0 ∨ (hdT F).f0 = 5)
include hF
theorem Lk.head {t1 t2 : List Tk} (h : Lk d F t1 t2) : ((hdT t1).f0 ≠ 0 ∧ hdT t2 = shT d (hdT t1) ∧ Lk d F t1.tail t2.tail) ∨ ((hdT t1).f0 = 0 ∧ t2 = F) := by
  cases h with
  | fin e he => exact .inr ⟨he, rfl⟩
  | cons t l l' ht hl => exact .inl ⟨ht, rfl, hl⟩
theorem Lk.kind {t1 t2 : List Tk} (h : Lk d F t1 t2) (k : Int) (h0 : k ≠ 0) (h5 : k ≠ 5) : (hdT t2).f0 = k ↔ (hdT t1).f0 = k := by
  rcases h.head hF with ⟨h1, h2, h3⟩ | ⟨h1, h2⟩
  · rw [h2]; rfl
  · rw [h2, h1]
    constructor
    · intro h; rcases hF with h7 | h7 <;> omega
    · intro h; omega
theorem Lk.next {t1 t2 : List Tk} (h : Lk d F t1 t2) {k : Int} (hk : (hdT t1).f0 = k) (h0 : k ≠ 0) : hdT t2 = shT d (hdT t1) ∧ Lk d F t1.tail t2.tail := by
  rcases h.head hF with ⟨h1, h2, h3⟩ | ⟨h1, h2⟩
  · exact ⟨h2, h3⟩
  · omega
theorem Lk.word {t1 t2 : List Tk} (h : Lk d F t1 t2) (s : ByteArray) : pWordB s t2 = pWordB s t1 := by
  unfold pWordB
  by_cases h1 : (hdT t1).f0 = 1
  · rw [(h.next hF h1 (by decide)).1]; rfl
  · have h2 : ¬ (hdT t2).f0 = 1 := fun h3 => h1 ((h.kind hF 1 (by decide) (by decide)).1 h3)
    rw [decide_eq_false h1, decide_eq_false h2]; rfl
/-- What goes well goes well behind, too. -/
def Sm (d : Int) (F : List Tk) {α β : Type} (x : PR α) (y : PR β) (g : α → β → Prop) : Prop := ∀ a t1, x = .ok (a, t1) → ∃ b t2, y = .ok (b, t2) ∧ g a b ∧ Lk d F t1 t2
omit hF in
theorem Sm.bind {α β γ δ : Type} {x : PR α} {y : PR β} {g : α → β → Prop} {f : α → List Tk → PR γ} {f' : β → List Tk → PR δ} {g' : γ → δ → Prop} (h : Sm d F x y g) (hf : ∀ a b t1 t2, g a b → Lk d F t1 t2 → Sm d F (f a t1) (f' b t2) g') : Sm d F (pBind x f) (pBind y f') g' := by
  intro c t1 hc
  obtain ⟨a, u, h1, h2⟩ := pBind_ok hc
  obtain ⟨b, u2, h3, h4, h5⟩ := h a u h1
  obtain ⟨b2, t2, h6, h7, h8⟩ := hf a b u u2 h4 h5 c t1 h2
  exact ⟨b2, t2, by rw [h3]; exact h6, h7, h8⟩
omit hF in
theorem Sm.ok {α β : Type} {a : α} {b : β} {t1 t2 : List Tk} {g : α → β → Prop} (h : g a b) (hl : Lk d F t1 t2) : Sm d F (.ok (a, t1)) (.ok (b, t2)) g := by
  intro a' u h1
  cases h1
  exact ⟨b, t2, rfl, h, hl⟩
omit hF in
theorem Sm.err {α β : Type} {e : Int × Int} {y : PR β} {g : α → β → Prop} : Sm d F (.error e : PR α) y g := by
  intro a u h; cases h
omit hF in
theorem Sm.ite {α β : Type} {c c' : Prop} [Decidable c] [Decidable c'] (hc : c' ↔ c) {x x' : PR α} {y y' : PR β} {g : α → β → Prop} (h : c → Sm d F x y g) (h' : ¬ c → Sm d F x' y' g) : Sm d F (if c then x else x') (if c' then y else y') g := by
  by_cases h1 : c
  · rw [if_pos h1, if_pos (hc.2 h1)]; exact h h1
  · rw [if_neg h1, if_neg (fun h2 => h1 (hc.1 h2))]; exact h' h1
theorem next_sm {k : Int} (h0 : k ≠ 0) (h5 : k ≠ 5) {t1 t2 : List Tk} (h : Lk d F t1 t2) : Sm d F (pNext k t1) (pNext k t2) (fun a b => b = shT d a) := by
  unfold pNext
  refine Sm.ite (h.kind hF k h0 h5) (fun hk => ?_) (fun _ => Sm.err)
  have := h.next hF hk h0
  exact Sm.ok this.1 this.2
theorem name_sm {t1 t2 : List Tk} (h : Lk d F t1 t2) : Sm d F (pName t1) (pName t2) (fun a b => b = a) := by
  unfold pName
  refine Sm.ite ?_ (fun _ => Sm.err) (fun _ => (next_sm hF (by decide) (by decide) h).bind fun a b u1 u2 hab hu => Sm.ok (by rw [hab]; rfl) hu)
  have hk := h.kind hF 1 (by decide) (by decide)
  constructor
  · intro ⟨h1, h2⟩
    have h3 := hk.1 h1
    rw [(h.next hF h3 (by decide)).1] at h2
    exact ⟨h3, h2⟩
  · intro ⟨h1, h2⟩
    refine ⟨hk.2 h1, ?_⟩
    rw [(h.next hF h1 (by decide)).1]
    exact h2
theorem number_sm {t1 t2 : List Tk} (h : Lk d F t1 t2) : Sm d F (pNumber t1) (pNumber t2) (fun a b => b = a) :=
  (next_sm hF (by decide) (by decide) h).bind fun a b u1 u2 hab hu => Sm.ok (by rw [hab]; rfl) hu
theorem thing_sm (k : Int) {t1 t2 : List Tk} (h : Lk d F t1 t2) : Sm d F (pThing k t1) (pThing k t2) (fun a b => b = a) :=
  (name_sm hF h).bind fun a b u1 u2 hab hu => Sm.ok (by rw [hab]) hu
theorem pair_sm (k : Int) {t1 t2 : List Tk} (h : Lk d F t1 t2) : Sm d F (pPair k t1) (pPair k t2) (fun a b => b = a) :=
  (thing_sm hF k h).bind fun a b u1 u2 hab hu => (name_sm hF hu).bind fun a' b' v1 v2 h' hv => Sm.ok (by rw [hab, h']) hv
theorem bound_sm (k : Int) {t1 t2 : List Tk} (h : Lk d F t1 t2) : Sm d F (pBound k t1) (pBound k t2) (fun a b => b = a) :=
  (thing_sm hF k h).bind fun a b u1 u2 hab hu => (number_sm hF hu).bind fun a' b' v1 v2 h' hv => Sm.ok (by rw [hab, h']) hv
theorem deed1_sm (k : Int) {t1 t2 : List Tk} (h : Lk d F t1 t2) : Sm d F (pDeed1 k t1) (pDeed1 k t2) (fun a b => b = a) :=
  (name_sm hF h).bind fun a b u1 u2 hab hu => Sm.ok (by rw [hab]) hu
theorem deed2_sm (k : Int) {t1 t2 : List Tk} (h : Lk d F t1 t2) : Sm d F (pDeed2 k t1) (pDeed2 k t2) (fun a b => b = a) :=
  (name_sm hF h).bind fun a b u1 u2 hab hu => (number_sm hF hu).bind fun a' b' v1 v2 h' hv => Sm.ok (by rw [hab, h']) hv
theorem Lk.behind {t1 t2 : List Tk} (h : Lk d F t1 t2) {s : ByteArray} (hs : pWordB s t1 = true) : Lk d F t1.tail t2.tail := by
  unfold pWordB at hs
  rw [Bool.and_eq_true, decide_eq_true_eq] at hs
  exact (h.next hF hs.1 (by decide)).2
theorem word_sm {α β : Type} (s : ByteArray) {t1 t2 : List Tk} (h : Lk d F t1 t2) {x x' : PR α} {y y' : PR β} {g : α → β → Prop} (h1 : Lk d F t1.tail t2.tail → Sm d F x y g) (h2 : Sm d F x' y' g) : Sm d F (if pWordB s t1 then x else x') (if pWordB s t2 then y else y') g :=
  Sm.ite (by rw [h.word hF]) (fun hs => h1 (h.behind hF hs)) (fun _ => h2)
theorem deed_sm {t1 t2 : List Tk} (h : Lk d F t1 t2) : Sm d F (pDeed t1) (pDeed t2) (fun a b => b = a) := by
  unfold pDeed
  exact word_sm hF _ h (deed1_sm hF 1) (word_sm hF _ h (deed1_sm hF 2) (word_sm hF _ h (deed1_sm hF 6) (word_sm hF _ h (deed2_sm hF 3) (word_sm hF _ h (deed2_sm hF 4) Sm.err))))
theorem operL_sm (x : Dl) : ∀ (n : Nat) (xs : List De) (t1 t2 : List Tk), Lk d F t1 t2 → Sm d F (pOperL x n xs t1) (pOperL x n xs t2) (fun a b => b = a) := by
  intro n
  induction n with
  | zero => intro xs t1 t2 h; exact Sm.ok rfl h
  | succ n ih =>
    intro xs t1 t2 h
    rw [pOperL, pOperL]
    exact Sm.ite (h.kind hF 4 (by decide) (by decide)) (fun _ => (next_sm hF (by decide) (by decide) h).bind fun _ _ u1 u2 _ hu => (deed_sm hF hu).bind fun a b v1 v2 hab hv => by rw [hab]; exact ih _ _ _ hv) (fun _ => Sm.ok rfl h)
theorem oper_sm {t1 t2 : List Tk} (h : Lk d F t1 t2) : Sm d F (pOper t1) (pOper t2) (fun a b => b = a) :=
  (thing_sm hF 10 h).bind fun a b u1 u2 hab hu => (next_sm hF (by decide) (by decide) hu).bind fun _ _ v1 v2 _ hv => (deed_sm hF hv).bind fun a' b' w1 w2 h' hw => by rw [hab, h']; exact operL_sm hF _ _ _ _ _ hw
theorem strict_sm {t1 t2 : List Tk} (h : Lk d F t1 t2) : bS t2 = bS t1 ∧ Lk d F (tS t1) (tS t2) := by
  have hw := h.word hF (⟨#[115, 116, 114, 105, 99, 116]⟩ : ByteArray)
  refine ⟨hw, ?_⟩
  unfold tS pWordT
  rw [hw]
  split
  · rename_i h1; exact h.behind hF h1
  · exact h
theorem ruleB_sm (b : Bool) {x y : PR Dl} (h : Sm d F x y (fun a b => b = a)) : Sm d F (pBind x fun z ts => .ok ({ z with f1 := b }, ts)) (pBind y fun z ts => .ok ({ z with f1 := b }, ts)) (fun a b => b = a) :=
  h.bind fun a b u1 u2 hab hu => Sm.ok (by rw [hab]) hu
theorem rule_sm {t1 t2 : List Tk} (h : Lk d F t1 t2) : Sm d F (pRule t1) (pRule t2) (fun a b => b = a) := by
  have hs := strict_sm hF h
  unfold pRule pRule1
  rw [hs.1]
  exact word_sm hF _ hs.2 (fun h => ruleB_sm hF _ (pair_sm hF 4 h)) (word_sm hF _ hs.2 (fun h => ruleB_sm hF _ (pair_sm hF 5 h)) (word_sm hF _ hs.2 (fun h => ruleB_sm hF _ (pair_sm hF 9 h)) (word_sm hF _ hs.2 (fun h => ruleB_sm hF _ (bound_sm hF 6 h)) (word_sm hF _ hs.2 (fun h => ruleB_sm hF _ (bound_sm hF 7 h)) (word_sm hF _ hs.2 (fun h => ruleB_sm hF _ (bound_sm hF 8 h)) Sm.err)))))
theorem decl0_sm {t1 t2 : List Tk} (h : Lk d F t1 t2) : Sm d F (pDecl0 t1) (pDecl0 t2) (fun a b => b = a) := by
  unfold pDecl0
  exact word_sm hF _ h (thing_sm hF 1) (word_sm hF _ h (thing_sm hF 2) (word_sm hF _ h (thing_sm hF 3) (word_sm hF _ h (rule_sm hF) (word_sm hF _ h (oper_sm hF) Sm.err))))
/-- What is left behind the last line. -/
def leftF (F : List Tk) : List Tk := if (hdT F).f0 = 5 then F.tail else F
omit hF in
theorem decl0_head {ts : List Tk} {x : Dl × List Tk} (h : pDecl0 ts = .ok x) : (hdT ts).f0 = 1 := by
  by_cases h1 : (hdT ts).f0 = 1
  · exact h1
  · have hn : ∀ s, pWordB s ts = false := fun s => by unfold pWordB; rw [decide_eq_false h1]; rfl
    unfold pDecl0 at h
    simp only [hn] at h
    cases h
theorem decl_like {t1 t2 : List Tk} (h : Lk d F t1 t2) {x : Dl} {u1 : List Tk} (hx : pDecl t1 = .ok (x, u1)) : ∃ u2, pDecl t2 = .ok (shD d x, u2) ∧ (Lk d F u1 u2 ∨ ((hdT u1).f0 = 0 ∧ u2 = leftF F)) := by
  obtain ⟨a, v1, h1, h2⟩ := pBind_ok hx
  obtain ⟨b, v2, h3, h4, h5⟩ := decl0_sm hF h a v1 h1
  have hl : (hdT t2).f3 = (hdT t1).f3 + d := by rw [(h.next hF (decl0_head h1) (by decide)).1]; rfl
  unfold pDecl
  rw [h3]
  subst h4
  show ∃ u2, pEnd (hdT t2).f3 b v2 = _ ∧ _
  rw [hl]
  unfold pEnd at h2 ⊢
  rcases h5.head hF with ⟨h6, h7, h8⟩ | ⟨h6, h7⟩
  · rw [if_neg h6] at h2
    rw [if_neg (by rw [h7]; exact h6)]
    obtain ⟨c, w1, h9, h10⟩ := pBind_ok h2
    cases h10
    have hk : (hdT v1).f0 = 5 := by
      unfold pNext at h9
      split at h9
      · rename_i h; exact h
      · cases h9
    refine ⟨v2.tail, ?_, .inl ?_⟩
    · unfold pNext
      rw [if_pos (by rw [h7]; exact hk)]
      rfl
    · rw [pNext_len h9]; exact h8
  · rw [if_pos h6] at h2
    cases h2
    subst h7
    refine ⟨leftF v2, ?_, .inr ⟨h6, rfl⟩⟩
    unfold leftF
    rcases hF with h8 | h8
    · rw [if_pos h8, if_neg (by omega)]; rfl
    · rw [if_neg (by omega), if_pos h8]
      unfold pNext
      rw [if_pos h8]
      rfl
end
theorem decl_head {ts : List Tk} {x : Dl × List Tk} (h : pDecl ts = .ok x) : (hdT ts).f0 = 1 := by
  obtain ⟨a, v1, h1, h2⟩ := pBind_ok (b := x.1) (ts := x.2) h
  exact decl0_head h1
theorem hd_nil : (hdT []).f0 = 0 := rfl
/-- How many rounds there are, if enough, is one. -/
theorem lines_fuel : ∀ (n m : Nat) (ds : List Dl) (ts : List Tk), ts.length ≤ n → ts.length ≤ m → pLinesL n ds ts = pLinesL m ds ts := by
  intro n
  induction n with
  | zero =>
    intro m ds ts h1 h2
    obtain rfl : ts = [] := List.eq_nil_of_length_eq_zero (by omega)
    cases m with
    | zero => rfl
    | succ m => rw [pLinesL, pLinesL, if_pos hd_nil]
  | succ n ih =>
    intro m ds ts h1 h2
    cases m with
    | zero =>
      obtain rfl : ts = [] := List.eq_nil_of_length_eq_zero (by omega)
      rw [pLinesL, pLinesL, if_pos hd_nil]
    | succ m =>
      rw [pLinesL, pLinesL]
      by_cases h0 : (hdT ts).f0 = 0
      · rw [if_pos h0, if_pos h0]
      have hne : ts ≠ [] := by rintro rfl; exact h0 hd_nil
      have hl : ts.tail.length < ts.length := by
        cases ts with
        | nil => exact absurd rfl hne
        | cons x l => simp
      rw [if_neg h0, if_neg h0]
      by_cases h5 : (hdT ts).f0 = 5
      · rw [if_pos h5, if_pos h5]
        exact ih m ds ts.tail (by omega) (by omega)
      rw [if_neg h5, if_neg h5]
      by_cases h6 : ds.length = 60
      · rw [if_pos h6, if_pos h6]
      rw [if_neg h6, if_neg h6]
      cases hx : pDecl ts with
      | error e => rfl
      | ok x =>
        have := pDecl_len hne (d := x.1) (ts' := x.2) hx
        exact ih m _ _ (by omega) (by omega)
theorem lines_grow : ∀ (n : Nat) (ds : List Dl) (ts : List Tk) (out : List Dl), pLinesL n ds ts = .ok out → ds.length ≤ out.length := by
  intro n
  induction n with
  | zero => intro ds ts out h; cases h; exact Nat.le_refl _
  | succ n ih =>
    intro ds ts out h
    rw [pLinesL] at h
    split at h
    · cases h; exact Nat.le_refl _
    split at h
    · exact ih _ _ _ h
    split at h
    · cases h
    split at h
    · cases h
    · have := ih _ _ _ h
      simp at this
      omega
theorem lines_end {n : Nat} {ds : List Dl} {ts : List Tk} (h : (hdT ts).f0 = 0) : pLinesL n ds ts = .ok ds := by
  cases n with
  | zero => rfl
  | succ n => rw [pLinesL, if_pos h]
section
variable {d : Int} {F : List Tk} (hF : (hdT F).f0 = 0 ∨ (hdT F).f0 = 5) (pre : List Dl)
include hF
theorem lines_F (ds : List Dl) : pLinesL F.length ds F = pLinesL (leftF F).length ds (leftF F) := by
  unfold leftF
  rcases hF with h | h
  · rw [if_neg (by omega)]
  · rw [if_pos h]
    cases F with
    | nil => exact absurd h (by decide)
    | cons t l =>
      show pLinesL (l.length + 1) ds (t :: l) = _
      rw [pLinesL, if_neg (by rw [h]; decide), if_pos h]
      rfl
theorem lines_like : ∀ (n : Nat) (ds : List Dl) (t1 t2 : List Tk) (out : List Dl), t1.length ≤ n → Lk d F t1 t2 → pLinesL n ds t1 = .ok out → pre.length + out.length ≤ 60 →
    pLinesL t2.length (pre ++ ds.map (shD d)) t2 = pLinesL (leftF F).length (pre ++ out.map (shD d)) (leftF F) := by
  intro n
  induction n with
  | zero =>
    intro ds t1 t2 out hn hl
    cases hl with
    | fin e he => simp at hn
    | cons t l l' ht h => simp at hn
  | succ n ih =>
    intro ds t1 t2 out hn hl ho h6
    rcases hl.head hF with ⟨h1, h2, h3⟩ | ⟨h1, h2⟩
    · rw [pLinesL, if_neg h1] at ho
      have hne1 : t1 ≠ [] := by rintro rfl; exact h1 hd_nil
      have hl1 : t1.tail.length < t1.length := by
        cases t1 with
        | nil => exact absurd rfl hne1
        | cons x l => simp
      have h12 : (hdT t2).f0 = (hdT t1).f0 := by rw [h2]; rfl
      have hne2 : t2 ≠ [] := by rintro rfl; rw [← h12] at h1; exact h1 hd_nil
      obtain ⟨u, l2, rfl⟩ : ∃ u l2, t2 = u :: l2 := by
        cases t2 with
        | nil => exact absurd rfl hne2
        | cons x l => exact ⟨x, l, rfl⟩
      have hstep : pLinesL (l2.length + 1) (pre ++ ds.map (shD d)) (u :: l2) = pLinesL (l2.length + 1) (pre ++ ds.map (shD d)) (u :: l2) := rfl
      show pLinesL (l2.length + 1) (pre ++ ds.map (shD d)) (u :: l2) = _
      rw [pLinesL, if_neg (by rw [h12]; exact h1), h12]
      by_cases h5 : (hdT t1).f0 = 5
      · rw [if_pos h5] at ho ⊢
        exact ih ds t1.tail l2 out (by omega) h3 ho h6
      rw [if_neg h5] at ho ⊢
      by_cases h60 : ds.length = 60
      · rw [if_pos h60] at ho
        cases ho
      rw [if_neg h60] at ho
      cases hx : pDecl t1 with
      | error e => rw [hx] at ho; cases ho
      | ok x =>
        rw [hx] at ho
        obtain ⟨x, u1⟩ := x
        simp only at ho
        have hg := lines_grow _ _ _ _ ho
        simp only [List.length_append, List.length_singleton] at hg
        obtain ⟨u2, h7, h8⟩ := decl_like hF hl hx
        have hlen := pDecl_len hne1 hx
        have hlen2 := pDecl_len hne2 h7
        rw [if_neg (by simp; omega), h7]
        show pLinesL l2.length (pre ++ ds.map (shD d) ++ [shD d x]) u2 = _
        have e : pre ++ ds.map (shD d) ++ [shD d x] = pre ++ (ds ++ [x]).map (shD d) := by simp
        rw [e, lines_fuel _ u2.length _ _ (by simp at hlen2; omega) (Nat.le_refl _)]
        rcases h8 with h8 | ⟨h8, h9⟩
        · exact ih (ds ++ [x]) u1 u2 out (by omega) h8 ho h6
        · rw [lines_end h8] at ho
          cases ho
          rw [h9]
    · subst h2
      rw [lines_end h1] at ho
      cases ho
      exact lines_F hF _
end
theorem Lk_of (d : Int) (F : List Tk) (e : Tk) (he : e.f0 = 0) : ∀ (A : List Tk), Mid A → Lk d F (A ++ [e]) (A.map (shT d) ++ F) := by
  intro A
  induction A with
  | nil => intro _; exact .fin e he
  | cons t l ih => intro h; exact .cons t _ _ (h t (List.mem_cons_self ..)) (ih fun u hu => h u (List.mem_cons_of_mem _ hu))
end Go.Proofs.Ytmhenlilcikgmaa.X

/- The lines of two texts, one behind the other; how long a line's deeds are. -/
set_option linter.unusedSimpArgs false
set_option linter.unusedVariables false
namespace Go.Proofs.Ytmhenlilcikgmaa.X
open Go.RowKit Go.Proofs.YtmhenlilcikgmaaW.PrintWords Go.Proofs.YtmhenlilcikgmaaW.PrintLast Go.Proofs.YtmhenlilcikgmaaW.PrintMore

/-! A line's deeds are sixteen, at most. -/
def Few16 (x : Dl) : Prop := x.f5.length ≤ 16
theorem thing_few {k : Int} {ts : List Tk} {x : Dl} {u : List Tk} (h : pThing k ts = .ok (x, u)) : x.f5 = [] := by
  obtain ⟨a, t1, h1, h2⟩ := pBind_ok h
  cases h2; rfl
theorem pair_few {k : Int} {ts : List Tk} {x : Dl} {u : List Tk} (h : pPair k ts = .ok (x, u)) : x.f5 = [] := by
  obtain ⟨a, t1, h1, h2⟩ := pBind_ok h
  obtain ⟨b, t2, h3, h4⟩ := pBind_ok h2
  cases h4; show a.f5 = []; exact thing_few h1
theorem bound_few {k : Int} {ts : List Tk} {x : Dl} {u : List Tk} (h : pBound k ts = .ok (x, u)) : x.f5 = [] := by
  obtain ⟨a, t1, h1, h2⟩ := pBind_ok h
  obtain ⟨b, t2, h3, h4⟩ := pBind_ok h2
  cases h4; show a.f5 = []; exact thing_few h1
theorem ruleB_few {b : Bool} {x : PR Dl} (hx : ∀ d t, x = .ok (d, t) → d.f5 = []) {d : Dl} {ts : List Tk} (h : pBind x (fun d ts => .ok ({ d with f1 := b }, ts)) = .ok (d, ts)) : d.f5 = [] := by
  obtain ⟨a, t1, h1, h2⟩ := pBind_ok h
  cases h2
  show a.f5 = []
  exact hx _ _ h1
theorem rule_few {ts : List Tk} {x : Dl} {u : List Tk} (h : pRule ts = .ok (x, u)) : x.f5 = [] := by
  unfold pRule pRule1 at h
  repeat (split at h; first | exact ruleB_few (fun d t hx => pair_few hx) h | exact ruleB_few (fun d t hx => bound_few hx) h)
  cases h
theorem operL_few (d : Dl) : ∀ (n : Nat) (xs : List De) (ts : List Tk) (x : Dl) (u : List Tk), pOperL d n xs ts = .ok (x, u) → x.f5.length ≤ xs.length + n := by
  intro n
  induction n with
  | zero => intro xs ts x u h; cases h; exact Nat.le_refl _
  | succ n ih =>
    intro xs ts x u h
    rw [pOperL] at h
    split at h
    · obtain ⟨a, t1, h1, h2⟩ := pBind_ok h
      obtain ⟨b, t2, h3, h4⟩ := pBind_ok h2
      have := ih _ _ _ _ h4
      simp at this
      omega
    · cases h; simp
theorem oper_few {ts : List Tk} {x : Dl} {u : List Tk} (h : pOper ts = .ok (x, u)) : Few16 x := by
  obtain ⟨a, t1, h1, h2⟩ := pBind_ok h
  obtain ⟨b, t2, h3, h4⟩ := pBind_ok h2
  obtain ⟨c, t3, h5, h6⟩ := pBind_ok h4
  have := operL_few _ _ _ _ _ _ h6
  unfold Few16
  simpa using this
theorem decl_few {ts : List Tk} {x : Dl} {u : List Tk} (h : pDecl ts = .ok (x, u)) : Few16 x := by
  obtain ⟨a, t1, h1, h2⟩ := pBind_ok h
  have ha : Few16 a := by
    unfold pDecl0 at h1
    have nil : ∀ {d : Dl}, d.f5 = [] → Few16 d := fun h => by unfold Few16; rw [h]; simp
    repeat (split at h1; first | exact nil (thing_few h1) | exact nil (rule_few h1) | exact oper_few h1)
    cases h1
  unfold pEnd at h2
  split at h2
  · cases h2; exact ha
  · obtain ⟨b, t2, h3, h4⟩ := pBind_ok h2
    cases h4
    exact ha
theorem lines_few : ∀ (n : Nat) (ds : List Dl) (ts : List Tk) (out : List Dl), pLinesL n ds ts = .ok out → (∀ x ∈ ds, Few16 x) → ds.length ≤ 60 → (∀ x ∈ out, Few16 x) ∧ out.length ≤ 60 := by
  intro n
  induction n with
  | zero => intro ds ts out h hd hl; cases h; exact ⟨hd, hl⟩
  | succ n ih =>
    intro ds ts out h hd hl
    rw [pLinesL] at h
    split at h
    · cases h; exact ⟨hd, hl⟩
    split at h
    · exact ih _ _ _ h hd hl
    split at h
    · cases h
    rename_i h60
    cases hx : pDecl ts with
    | error e => rw [hx] at h; cases h
    | ok x =>
      rw [hx] at h
      refine ih _ _ _ h ?_ (by simp; omega)
      intro y hy
      rcases List.mem_append.1 hy with h1 | h1
      · exact hd y h1
      · rw [List.mem_singleton.1 h1]
        exact decl_few (x := x.1) (u := x.2) hx
theorem parse_few (s : ByteArray) : (∀ x ∈ (parseLines s).1, Few16 x) ∧ (parseLines s).1.length ≤ 60 := by
  unfold parseLines
  split
  · split
    · exact ⟨fun x h => by simp at h, by simp⟩
    · rename_i ds h
      exact lines_few _ _ _ _ h (fun x h => by simp at h) (by simp)
  · exact ⟨fun x h => by simp at h, by simp⟩

/-! An error is 2, or 7. -/
def E2 {α : Type} (x : PR α) : Prop := ∀ e, x = .error e → e.2 = 2
theorem E2.ok {α : Type} (x : α × List Tk) : E2 (.ok x : PR α) := fun e h => by cases h
theorem E2.fail {α : Type} (ts : List Tk) : E2 (pFail 2 ts : PR α) := fun e h => by cases h; rfl
theorem E2.bind {α β : Type} {x : PR α} {f : α → List Tk → PR β} (h : E2 x) (k : ∀ a t, E2 (f a t)) : E2 (pBind x f) := by
  intro e he
  cases x with
  | error y => cases he; exact h _ rfl
  | ok y => exact k y.1 y.2 e he
theorem E2.ite {α : Type} {c : Prop} [Decidable c] {x y : PR α} (h : E2 x) (k : E2 y) : E2 (if c then x else y) := by
  split
  · exact h
  · exact k
theorem E2.next (k : Int) (ts : List Tk) : E2 (pNext k ts) := .ite (.ok _) (.fail _)
theorem E2.name (ts : List Tk) : E2 (pName ts) := .ite (.fail _) (.bind (.next _ _) fun _ _ => .ok _)
theorem E2.number (ts : List Tk) : E2 (pNumber ts) := .bind (.next _ _) fun _ _ => .ok _
theorem E2.thing (k : Int) (ts : List Tk) : E2 (pThing k ts) := .bind (.name _) fun _ _ => .ok _
theorem E2.pair (k : Int) (ts : List Tk) : E2 (pPair k ts) := .bind (.thing _ _) fun _ _ => .bind (.name _) fun _ _ => .ok _
theorem E2.bound (k : Int) (ts : List Tk) : E2 (pBound k ts) := .bind (.thing _ _) fun _ _ => .bind (.number _) fun _ _ => .ok _
theorem E2.deed1 (k : Int) (ts : List Tk) : E2 (pDeed1 k ts) := .bind (.name _) fun _ _ => .ok _
theorem E2.deed2 (k : Int) (ts : List Tk) : E2 (pDeed2 k ts) := .bind (.name _) fun _ _ => .bind (.number _) fun _ _ => .ok _
theorem E2.deed (ts : List Tk) : E2 (pDeed ts) := .ite (.deed1 _ _) (.ite (.deed1 _ _) (.ite (.deed1 _ _) (.ite (.deed2 _ _) (.ite (.deed2 _ _) (.fail _)))))
theorem E2.operL (d : Dl) : ∀ (n : Nat) (xs : List De) (ts : List Tk), E2 (pOperL d n xs ts)
  | 0, _, _ => .ok _
  | n + 1, xs, ts => by
    rw [pOperL]
    exact .ite (.bind (.next _ _) fun _ _ => .bind (.deed _) fun _ _ => E2.operL d n _ _) (.ok _)
theorem E2.oper (ts : List Tk) : E2 (pOper ts) := .bind (.thing _ _) fun _ _ => .bind (.next _ _) fun _ _ => .bind (.deed _) fun _ _ => .operL _ _ _ _
theorem E2.ruleB {b : Bool} {x : PR Dl} (h : E2 x) : E2 (pBind x fun d ts => .ok ({ d with f1 := b }, ts)) := h.bind fun _ _ => .ok _
theorem E2.rule (ts : List Tk) : E2 (pRule ts) := .ite (.ruleB (.pair _ _)) (.ite (.ruleB (.pair _ _)) (.ite (.ruleB (.pair _ _)) (.ite (.ruleB (.bound _ _)) (.ite (.ruleB (.bound _ _)) (.ite (.ruleB (.bound _ _)) (.fail _))))))
theorem E2.decl0 (ts : List Tk) : E2 (pDecl0 ts) := .ite (.thing _ _) (.ite (.thing _ _) (.ite (.thing _ _) (.ite (.rule _) (.ite (.oper _) (.fail _)))))
theorem E2.decl (ts : List Tk) : E2 (pDecl ts) := .bind (.decl0 _) fun _ _ => .ite (.ok _) (.bind (.next _ _) fun _ _ => .ok _)
theorem lines_err : ∀ (n : Nat) (ds : List Dl) (ts : List Tk) (e : Int × Int), pLinesL n ds ts = .error e → e.2 = 2 ∨ e.2 = 7 := by
  intro n
  induction n with
  | zero => intro ds ts e h; cases h
  | succ n ih =>
    intro ds ts e h
    rw [pLinesL] at h
    split at h
    · cases h
    split at h
    · exact ih _ _ _ h
    split at h
    · cases h; exact .inr rfl
    cases hx : pDecl ts with
    | error y =>
      rw [hx] at h
      cases h
      exact .inl (E2.decl ts _ hx)
    | ok x =>
      rw [hx] at h
      exact ih _ _ _ h
theorem lines_err_nz {ts : List Tk} {e : Int × Int} (h : linesT ts = .error e) : e.2 ≠ 0 := by
  rcases lines_err _ _ _ _ h with h | h <;> omega
theorem bytes_eq_of {a b : ByteArray} (hs : a.size = b.size) (h : ∀ i, i < a.size → byt a i = byt b i) : a = b := by
  have : a.data = b.data := by
    apply Array.ext
    · exact hs
    · intro i h1 h2
      have h3 := h i h1
      have h4 : i < a.size := h1
      have h5 : i < b.size := h2
      rw [byt_get a i h4, byt_get b i h5] at h3
      have h6 : (a[i]'h4).toNat = (b[i]'h5).toNat := by omega
      exact UInt8.toNat_inj.1 h6
  cases a; cases b
  simp only at this
  rw [this]
theorem byt_append_left (a b : ByteArray) (i : Nat) (h : i < a.size) : byt (a ++ b) i = byt a i := by
  have hs : i < (a ++ b).size := by rw [ByteArray.size_append]; omega
  rw [byt_get _ i hs, byt_get a i h]
  congr 2
  exact ByteArray.getElem_append_left h
theorem byt_append_right (a b : ByteArray) (i : Nat) (h : i < b.size) : byt (a ++ b) (a.size + i) = byt b i := by
  have hs : a.size + i < (a ++ b).size := by rw [ByteArray.size_append]; omega
  rw [byt_get _ _ hs, byt_get b i h]
  congr 2
  rw [ByteArray.getElem_append_right (by omega)]
  congr 1
  omega
theorem byt_extract (a : ByteArray) (i j k : Nat) (h : k < min j a.size - i) : byt (a.extract i j) k = byt a (i + k) := by
  have hs : k < (a.extract i j).size := by rw [ByteArray.size_extract]; omega
  rw [byt_get _ _ hs, byt_get a (i + k) (by omega)]
  simp only [ByteArray.getElem_extract]
/-- Two texts' tokens, one behind the other. -/
theorem join_tokens (a b : ByteArray) (ha : a.size ≤ 1000) (hb : b.size ≤ 1000) (h1 : (lexR a).2.2 = 0) (h2 : (lexR b).2.2 = 0) :
    ∃ (xs : List Tk) (line : Int), (lexR a).1 = xs ++ [⟨0, e0, 0, line⟩] ∧ Mid xs ∧ line = 1 + (feedsFrom a a.size : Int) ∧
      ((lexR ((a ++ (⟨#[10]⟩ : ByteArray)) ++ b)).2.2 = 0 ∧ (lexR ((a ++ (⟨#[10]⟩ : ByteArray)) ++ b)).1 = xs ++ (⟨5, e0, 0, line⟩ :: (lexR b).1.map (shT line)) ∨
       (lexR ((a ++ (⟨#[10]⟩ : ByteArray)) ++ b)).2.2 = 7 ∧ 798 ≤ a.size + b.size) := by
  have e1 : (⟨#[10]⟩ : ByteArray).size = 1 := rfl
  have s1 : (a ++ (⟨#[10]⟩ : ByteArray)).size = a.size + 1 := by rw [ByteArray.size_append, e1]
  have s2 : ((a ++ (⟨#[10]⟩ : ByteArray)) ++ b).size = a.size + 1 + b.size := by rw [ByteArray.size_append, s1]
  have c1 : ∀ i, i < a.size → byt ((a ++ (⟨#[10]⟩ : ByteArray)) ++ b) i = byt a i := fun i h => by
    rw [byt_append_left _ _ _ (by omega), byt_append_left _ _ _ h]
  have c2 : byt ((a ++ (⟨#[10]⟩ : ByteArray)) ++ b) a.size = 10 := by
    rw [byt_append_left _ _ _ (by omega)]
    have := byt_append_right a (⟨#[10]⟩ : ByteArray) 0 (by decide)
    rw [Nat.add_zero] at this
    rw [this]; rfl
  have c3 : ∀ i, i < b.size → byt ((a ++ (⟨#[10]⟩ : ByteArray)) ++ b) (a.size + 1 + i) = byt b i := fun i h => by
    have := byt_append_right (a ++ (⟨#[10]⟩ : ByteArray)) b i h
    rwa [s1] at this
  have x1 : ∀ i j, j ≤ a.size → ((a ++ (⟨#[10]⟩ : ByteArray)) ++ b).extract i j = a.extract i j := by
    intro i j hj
    apply bytes_eq_of
    · rw [ByteArray.size_extract, ByteArray.size_extract]; omega
    · intro k hk
      rw [ByteArray.size_extract] at hk
      rw [byt_extract _ _ _ _ (by omega), byt_extract _ _ _ _ (by omega), c1 _ (by omega)]
  have x2 : ∀ i j, j ≤ b.size → ((a ++ (⟨#[10]⟩ : ByteArray)) ++ b).extract (a.size + 1 + i) (a.size + 1 + j) = b.extract i j := by
    intro i j hj
    apply bytes_eq_of
    · rw [ByteArray.size_extract, ByteArray.size_extract]; omega
    · intro k hk
      rw [ByteArray.size_extract] at hk
      rw [byt_extract _ _ _ _ (by omega), byt_extract _ _ _ _ (by omega), Nat.add_assoc, c3 _ (by omega)]
  generalize ((a ++ (⟨#[10]⟩ : ByteArray)) ++ b) = t at *
  have r1 : lexR a = rf a a.size ⟨[], 1, -1, false, 0⟩ := by unfold lexR; rw [if_neg (by omega)]
  have r2 : lexR b = rf b b.size ⟨[], 1, -1, false, 0⟩ := by unfold lexR; rw [if_neg (by omega)]
  have r3 : lexR t = rf t t.size ⟨[], 1, -1, false, 0⟩ := by unfold lexR; rw [if_neg (by omega)]
  have z : ∀ s : ByteArray, s.size ≤ 4096 → (lexR s).2.2 = 0 → lexR s = ((lexR s).1, 0, 0) := by
    intro s hs h
    have h3 : ∀ (n : Nat) (r : RS), (rf s n r).2.2 = 0 → (rf s n r).2.1 = 0 := by
      intro n
      induction n with
      | zero =>
        intro r h
        rw [rf] at h ⊢
        unfold RS.fin at *
        split
        · rfl
        · rename_i h1; rw [if_neg h1] at h; exact absurd h h1
      | succ n ih =>
        intro r h
        rw [rf] at h ⊢
        split
        · rename_i h1; rw [if_pos h1] at h; exact ih _ h
        · rename_i h1
          rw [if_neg h1] at h
          split
          · rename_i h2; rw [if_pos h2] at h; exact ih _ h
          · rename_i h2
            rw [if_neg h2] at h
            split
            · rename_i h3; rw [if_pos h3] at h; exact ih _ h
            · rename_i h3; rw [if_neg h3] at h; exact absurd h h3
    have h4 : lexR s = rf s s.size ⟨[], 1, -1, false, 0⟩ := by unfold lexR; rw [if_neg (by omega)]
    have h5 := h3 s.size ⟨[], 1, -1, false, 0⟩ (by rw [← h4]; exact h)
    rw [← h4] at h5
    exact Prod.ext rfl (Prod.ext h5 h)
  obtain ⟨xs, line, g1, g2, g3, g4, g5, g6⟩ := ahead a t c1 x1 c2 b.size (by omega) a.size ⟨[], 1, -1, false, 0⟩ (Nat.le_refl _) (RI.start _) (fun t h => by simp at h) ⟨by simp, fun h => by simp at h⟩ (fun _ => rfl) (lexR a).1 (by rw [← r1]; exact z a (by omega) h1)
  refine ⟨xs, line, g1, g2, by simpa using g3, ?_⟩
  have hbh := behind b t (a.size + 1) (by omega) c3 x2 (xs ++ [⟨5, e0, 0, line⟩]) line (by simp; omega) b.size ⟨[], 1, -1, false, 0⟩ (Nat.le_refl _) (RI.start _) ⟨by simp, fun h => by simp at h⟩ (lexR b).1 (by rw [← r2]; exact z b (by omega) h2)
  have hsh : (⟨[], 1, -1, false, 0⟩ : RS).sh (xs ++ [⟨5, e0, 0, line⟩]) line (a.size + 1) = ⟨xs ++ [⟨5, e0, 0, line⟩], line + 1, -1, false, 0⟩ := by
    unfold RS.sh
    simp [Int.add_comm]
  rw [hsh] at hbh
  rw [show a.size + 1 + b.size = t.size by omega] at g6
  rw [r3, g6]
  rcases hbh with h | ⟨l, h, h'⟩
  · left
    rw [h]
    exact ⟨rfl, by simp⟩
  · right
    rw [h]
    refine ⟨rfl, ?_⟩
    simp only [List.length_append, List.length_singleton] at h'
    omega
theorem shift_lines (ts : List Tk) (d : Int) (xs : List Tk) (e : Tk) (he : e.f0 = 0) (hm : Mid xs) (hts : ts = xs ++ [e]) (pre out : List Dl) (h : linesT ts = .ok out) (h6 : pre.length + out.length ≤ 60) :
    pLinesL (ts.map (shT d)).length pre (ts.map (shT d)) = .ok (pre ++ out.map (shD d)) := by
  subst hts
  have hF : (hdT [shT d e]).f0 = 0 ∨ (hdT [shT d e]).f0 = 5 := .inl he
  have hl := Lk_of d [shT d e] e he xs hm
  have := lines_like hF pre (xs ++ [e]).length [] (xs ++ [e]) (xs.map (shT d) ++ [shT d e]) out (Nat.le_refl _) hl h h6
  have e2 : (xs ++ [e]).map (shT d) = xs.map (shT d) ++ [shT d e] := by simp
  rw [e2]
  simp only [List.map_nil, List.append_nil] at this
  rw [this]
  have e3 : leftF [shT d e] = [shT d e] := by
    unfold leftF
    rw [if_neg (by show ¬ e.f0 = 5; omega)]
  rw [e3]
  exact lines_end he
theorem shT_zero (xs : List Tk) : xs.map (shT 0) = xs := by
  induction xs with
  | nil => rfl
  | cons t l ih =>
    rw [List.map_cons, ih]
    unfold shT
    rw [Int.add_zero]
theorem shD_zero (xs : List Dl) : xs.map (shD 0) = xs := by
  induction xs with
  | nil => rfl
  | cons t l ih =>
    rw [List.map_cons, ih]
    unfold shD
    rw [Int.add_zero]
theorem parse_ok {s : ByteArray} (h : (parseLines s).2.2 = 0) : (lexR s).2.2 = 0 ∧ ∃ ds, linesT (lexR s).1 = .ok ds ∧ (parseLines s).1 = ds := by
  unfold parseLines at *
  by_cases h1 : (lexR s).2.2 = 0
  · rw [if_pos h1] at h ⊢
    refine ⟨h1, ?_⟩
    cases hx : linesT (lexR s).1 with
    | ok ds => exact ⟨ds, rfl, rfl⟩
    | error x =>
      rw [hx] at h
      exfalso
      exact lines_err_nz hx h
  · rw [if_neg h1] at h
    exact absurd h h1
/-- The lines of both, if there are no more tokens than there may be. -/
theorem join_lines (a b : ByteArray) (ha : a.size ≤ 1000) (hb : b.size ≤ 1000) (h1 : (parseLines a).2.2 = 0) (h2 : (parseLines b).2.2 = 0) (h6 : (parseLines a).1.length + (parseLines b).1.length ≤ 60) :
    ((parseLines ((a ++ (⟨#[10]⟩ : ByteArray)) ++ b)).2.2 = 0 ∧ (parseLines ((a ++ (⟨#[10]⟩ : ByteArray)) ++ b)).1 = (parseLines a).1 ++ (parseLines b).1.map (shD (1 + (feedsFrom a a.size : Int)))) ∨
     (parseLines ((a ++ (⟨#[10]⟩ : ByteArray)) ++ b)).2.2 = 7 ∧ 798 ≤ a.size + b.size := by
  obtain ⟨l1, da, p1, q1⟩ := parse_ok h1
  obtain ⟨l2, db, p2, q2⟩ := parse_ok h2
  rw [q1, q2] at h6 ⊢
  obtain ⟨xs, line, g1, g2, g3, g4⟩ := join_tokens a b ha hb l1 l2
  have hgb := lexR_good b l2
  rw [← g3]
  rcases g4 with ⟨g5, g6⟩ | ⟨g5, g6⟩
  · left
    obtain ⟨ys, lineb, k1, k2, _⟩ : ∃ (ys : List Tk) (e : Tk), (lexR b).1 = ys ++ [e] ∧ e.f0 = 0 ∧ True := by
      obtain ⟨ys, line', g1', _⟩ := join_tokens b b hb hb l2 l2
      exact ⟨ys, _, g1', rfl, trivial⟩
    have hmid : Mid ys := by
      obtain ⟨ys', line', g1', g2', _⟩ := join_tokens b b hb hb l2 l2
      rw [k1] at g1'
      have := List.append_inj_left' g1' rfl
      rw [this]; exact g2'
    have hF : (hdT (⟨5, e0, 0, line⟩ :: (lexR b).1.map (shT line))).f0 = 0 ∨ (hdT (⟨5, e0, 0, line⟩ :: (lexR b).1.map (shT line))).f0 = 5 := .inr rfl
    have hl := Lk_of 0 (⟨5, e0, 0, line⟩ :: (lexR b).1.map (shT line)) ⟨0, e0, 0, line⟩ rfl xs g2
    rw [shT_zero, ← g1, ← g6] at hl
    have e1 := lines_like hF [] (lexR a).1.length [] (lexR a).1 _ da (Nat.le_refl _) hl p1 (by simp; omega)
    have e2 : leftF (⟨5, e0, 0, line⟩ :: (lexR b).1.map (shT line)) = (lexR b).1.map (shT line) := by
      unfold leftF
      rw [if_pos (show (hdT (⟨5, e0, 0, line⟩ :: (lexR b).1.map (shT line))).f0 = 5 from rfl)]
      rfl
    rw [e2, List.nil_append, List.nil_append, shD_zero da, List.map_nil] at e1
    rw [shift_lines (lexR b).1 line ys lineb k2 hmid k1 da db p2 h6] at e1
    have e3 : linesT (lexR ((a ++ (⟨#[10]⟩ : ByteArray)) ++ b)).1 = .ok (da ++ db.map (shD line)) := e1
    unfold parseLines
    rw [if_pos g5, e3]
    exact ⟨rfl, rfl⟩
  · right
    refine ⟨?_, g6⟩
    unfold parseLines
    rw [if_neg (by rw [g5]; decide)]
    exact g5
/-! What is left of tokens are some of them; a line's number is a token's. -/
def Sf {α : Type} (ts : List Tk) (x : PR α) : Prop := ∀ a u, x = .ok (a, u) → ∀ t ∈ u, t ∈ ts
theorem Sf.ok {α : Type} {ts u : List Tk} {a : α} (h : ∀ t ∈ u, t ∈ ts) : Sf ts (.ok (a, u) : PR α) := fun b v e => by cases e; exact h
theorem Sf.err {α : Type} {ts : List Tk} {e : Int × Int} : Sf ts (.error e : PR α) := fun b v e => by cases e
theorem Sf.bind {α β : Type} {ts : List Tk} {x : PR α} {f : α → List Tk → PR β} (h : Sf ts x) (k : ∀ a u, (∀ t ∈ u, t ∈ ts) → Sf ts (f a u)) : Sf ts (pBind x f) := by
  intro b v e
  obtain ⟨a, u, h1, h2⟩ := pBind_ok e
  exact k a u (h a u h1) b v h2
theorem Sf.ite {α : Type} {c : Prop} [Decidable c] {ts : List Tk} {x y : PR α} (h : Sf ts x) (k : Sf ts y) : Sf ts (if c then x else y) := by
  split
  · exact h
  · exact k
theorem sub_tail {ts u : List Tk} (h : ∀ t ∈ u, t ∈ ts) : ∀ t ∈ u.tail, t ∈ ts := fun t ht => h t (List.mem_of_mem_tail ht)
section
variable {ts : List Tk}
theorem Sf.next (k : Int) {u : List Tk} (h : ∀ t ∈ u, t ∈ ts) : Sf ts (pNext k u) := .ite (.ok (sub_tail h)) .err
theorem Sf.name {u : List Tk} (h : ∀ t ∈ u, t ∈ ts) : Sf ts (pName u) := .ite .err ((Sf.next 1 h).bind fun _ _ h => .ok h)
theorem Sf.number {u : List Tk} (h : ∀ t ∈ u, t ∈ ts) : Sf ts (pNumber u) := (Sf.next 2 h).bind fun _ _ h => .ok h
theorem Sf.thing (k : Int) {u : List Tk} (h : ∀ t ∈ u, t ∈ ts) : Sf ts (pThing k u) := (Sf.name h).bind fun _ _ h => .ok h
theorem Sf.pair (k : Int) {u : List Tk} (h : ∀ t ∈ u, t ∈ ts) : Sf ts (pPair k u) := (Sf.thing k h).bind fun _ _ h => (Sf.name h).bind fun _ _ h => .ok h
theorem Sf.bound (k : Int) {u : List Tk} (h : ∀ t ∈ u, t ∈ ts) : Sf ts (pBound k u) := (Sf.thing k h).bind fun _ _ h => (Sf.number h).bind fun _ _ h => .ok h
theorem Sf.deed1 (k : Int) {u : List Tk} (h : ∀ t ∈ u, t ∈ ts) : Sf ts (pDeed1 k u) := (Sf.name h).bind fun _ _ h => .ok h
theorem Sf.deed2 (k : Int) {u : List Tk} (h : ∀ t ∈ u, t ∈ ts) : Sf ts (pDeed2 k u) := (Sf.name h).bind fun _ _ h => (Sf.number h).bind fun _ _ h => .ok h
theorem Sf.deed {u : List Tk} (h : ∀ t ∈ u, t ∈ ts) : Sf ts (pDeed u) := .ite (.deed1 _ (sub_tail h)) (.ite (.deed1 _ (sub_tail h)) (.ite (.deed1 _ (sub_tail h)) (.ite (.deed2 _ (sub_tail h)) (.ite (.deed2 _ (sub_tail h)) .err))))
theorem Sf.operL (d : Dl) : ∀ (n : Nat) (xs : List De) (u : List Tk), (∀ t ∈ u, t ∈ ts) → Sf ts (pOperL d n xs u)
  | 0, _, _, h => .ok h
  | n + 1, xs, u, h => by
    rw [pOperL]
    exact .ite ((Sf.next 4 h).bind fun _ _ h => (Sf.deed h).bind fun _ _ h => Sf.operL d n _ _ h) (.ok h)
theorem Sf.oper {u : List Tk} (h : ∀ t ∈ u, t ∈ ts) : Sf ts (pOper u) := (Sf.thing 10 h).bind fun _ _ h => (Sf.next 3 h).bind fun _ _ h => (Sf.deed h).bind fun _ _ h => .operL _ _ _ _ h
theorem Sf.ruleB {b : Bool} {x : PR Dl} (h : Sf ts x) : Sf ts (pBind x fun d ts => .ok ({ d with f1 := b }, ts)) := h.bind fun _ _ h => .ok h
theorem sub_tS {u : List Tk} (h : ∀ t ∈ u, t ∈ ts) : ∀ t ∈ tS u, t ∈ ts := by
  unfold tS pWordT
  split
  · exact sub_tail h
  · exact h
theorem Sf.rule {u : List Tk} (h : ∀ t ∈ u, t ∈ ts) : Sf ts (pRule u) := .ite (.ruleB (.pair _ (sub_tail (sub_tS h)))) (.ite (.ruleB (.pair _ (sub_tail (sub_tS h)))) (.ite (.ruleB (.pair _ (sub_tail (sub_tS h)))) (.ite (.ruleB (.bound _ (sub_tail (sub_tS h)))) (.ite (.ruleB (.bound _ (sub_tail (sub_tS h)))) (.ite (.ruleB (.bound _ (sub_tail (sub_tS h)))) .err)))))
theorem Sf.decl0 {u : List Tk} (h : ∀ t ∈ u, t ∈ ts) : Sf ts (pDecl0 u) := .ite (.thing _ (sub_tail h)) (.ite (.thing _ (sub_tail h)) (.ite (.thing _ (sub_tail h)) (.ite (.rule (sub_tail h)) (.ite (.oper (sub_tail h)) .err))))
theorem Sf.decl {u : List Tk} (h : ∀ t ∈ u, t ∈ ts) : Sf ts (pDecl u) := (Sf.decl0 h).bind fun _ _ h => .ite (.ok h) ((Sf.next 5 h).bind fun _ _ h => .ok h)
end
theorem decl_line {ts : List Tk} {x : Dl} {u : List Tk} (h : pDecl ts = .ok (x, u)) : x.f6 = (hdT ts).f3 := by
  obtain ⟨a, t1, h1, h2⟩ := pBind_ok h
  unfold pEnd at h2
  split at h2
  · cases h2; rfl
  · obtain ⟨b, t2, h3, h4⟩ := pBind_ok h2
    cases h4
    rfl
theorem lines_line (P : Int → Prop) : ∀ (n : Nat) (ds : List Dl) (ts : List Tk) (out : List Dl), pLinesL n ds ts = .ok out → (∀ t ∈ ts, P t.f3) → (∀ x ∈ ds, P x.f6) → ∀ x ∈ out, P x.f6 := by
  intro n
  induction n with
  | zero => intro ds ts out h _ hd; cases h; exact hd
  | succ n ih =>
    intro ds ts out h ht hd
    rw [pLinesL] at h
    split at h
    · cases h; exact hd
    split at h
    · exact ih _ _ _ h (fun t hm => ht t (List.mem_of_mem_tail hm)) hd
    split at h
    · cases h
    rename_i h0 _ _
    cases hx : pDecl ts with
    | error e => rw [hx] at h; cases h
    | ok x =>
      rw [hx] at h
      have hsub := Sf.decl (ts := ts) (fun t h => h) x.1 x.2 hx
      refine ih _ _ _ h (fun t hm => ht t (hsub t hm)) ?_
      intro y hy
      rcases List.mem_append.1 hy with h1 | h1
      · exact hd y h1
      · rw [List.mem_singleton.1 h1, decl_line (x := x.1) (u := x.2) hx]
        cases ts with
        | nil => exact absurd hd_nil h0
        | cons t l => exact ht t (List.mem_cons_self ..)
/-- Tokens' lines are small. -/
def Ln (xs : List Tk) (b : Int) : Prop := ∀ t ∈ xs, 0 ≤ t.f3 ∧ t.f3 ≤ b
theorem Ln.put {r : RS} {b : Int} (h : Ln r.xs b) (hl : 0 ≤ r.line ∧ r.line ≤ b) (k : Int) (t : ByteArray) (n : Int) : Ln (r.put k t n).xs b := by
  intro u hu
  rcases List.mem_append.1 hu with h1 | h1
  · exact h u h1
  · rw [List.mem_singleton.1 h1]; exact hl
theorem Ln.close {r : RS} {b : Int} (h : Ln r.xs b) (hl : 0 ≤ r.line ∧ r.line ≤ b) (s : ByteArray) (q : Nat) : Ln (r.close s q).xs b := by
  unfold RS.close
  split
  · exact h
  split
  · exact Ln.put (r := { r with fr := -1 }) h hl _ _ _
  split
  · exact Ln.put (r := { r with fr := -1 }) h hl _ _ _
  · exact h
theorem Ln.one {r : RS} {b : Int} (h : Ln r.xs b) (hl : 0 ≤ r.line ∧ r.line ≤ b) (c : Int) : Ln (r.one c).xs b := by
  unfold RS.one
  split
  · exact h
  split
  · exact h.put hl _ _ _
  split
  · exact h.put hl _ _ _
  split
  · exact h.put hl 5 _ _
  split
  · exact h
  · exact h
theorem Ln.step {r : RS} {b : Int} (h : Ln r.xs b) (hl : 0 ≤ r.line ∧ r.line ≤ b) (s : ByteArray) (q : Nat) (c : Int) : Ln (r.step s q c).xs b := by
  have h1 : Ln (({ r with nt := false } : RS).close s q).xs b := Ln.close (r := { r with nt := false }) h hl s q
  have h2 := close_line (r := { r with nt := false }) s q
  unfold RS.step
  split
  · exact h1.one (by rw [h2]; exact hl) c
  · exact h1
theorem rf_line (s : ByteArray) : ∀ (n : Nat) (r : RS), n ≤ s.size → RI r (s.size - n) → Ln r.xs (s.size + 1) → Ln (rf s n r).1 (s.size + 1) := by
  intro n
  induction n with
  | zero =>
    intro r _ hr h
    have hl : 0 ≤ r.line ∧ r.line ≤ (s.size : Int) + 1 := by have := hr.line; omega
    rw [rf]
    unfold RS.fin
    split
    · unfold RS.last
      split
      · exact (h.close hl s s.size).put (by rw [close_line]; exact hl) _ _ _
      · exact h.close hl s s.size
    · intro t ht; simp at ht
  | succ n ih =>
    intro r hn hr h
    have hs : s.size - n = s.size - (n + 1) + 1 := by omega
    have hl : 0 ≤ r.line ∧ r.line ≤ (s.size : Int) + 1 := by have := hr.line; omega
    rw [rf]
    split
    · exact ih _ (by omega) (by rw [hs]; exact hr.later (by omega)) h
    split
    · exact ih _ (by omega) (by rw [hs]; exact hr.from_.later (by omega)) (by unfold RS.from_; split <;> exact h)
    split
    · rename_i he
      exact ih _ (by omega) (by rw [hs]; exact hr.step he) (h.step hl s _ _)
    · intro t ht; simp at ht
theorem lexR_line (s : ByteArray) : Ln (lexR s).1 4097 := by
  unfold lexR
  split
  · intro t ht; simp at ht
  · rename_i h
    intro t ht
    have := rf_line s s.size _ (Nat.le_refl _) (by rw [Nat.sub_self]; exact RI.start 0) (fun t h => by simp at h) t ht
    omega
theorem parse_line (s : ByteArray) : ∀ x ∈ (parseLines s).1, 0 ≤ x.f6 ∧ x.f6 ≤ 4097 := by
  unfold parseLines
  split
  · split
    · intro x h; simp at h
    · rename_i ds h
      exact lines_line (fun i => 0 ≤ i ∧ i ≤ 4097) _ _ _ _ h (lexR_line s) (fun x h => by simp at h)
  · intro x h; simp at h
end Go.Proofs.Ytmhenlilcikgmaa.X

/- What parse.Lines defers, walked: a fault is told, nothing else happens. -/
set_option linter.unusedSimpArgs false
set_option linter.unusedVariables false
namespace Go.Proofs.Ytmhenlilcikgmaa.X
open Go.RowKit Go.Proofs.YtmhenlilcikgmaaW.PrintWords Go.Proofs.YtmhenlilcikgmaaW.PrintLast Go.Proofs.YtmhenlilcikgmaaW.PrintMore

theorem ta_nil (w : World) : (Instr.typeAssert .nilIface 20 42 true).run Try.prog w = .ok (.tuple #[.agg #[.int .i64 0, .int .i64 0], .bool false]) w := by kernel_rfl
theorem ta_fault (a b : Value) (w : World) : (Instr.typeAssert (.iface 42 (.agg #[a, b])) 20 42 true).run Try.prog w = .ok (.tuple #[.agg #[a, b], .bool true]) w := by kernel_rfl
theorem nil_nil (w : World) : (binOp .neq 20 .nilIface .nilIface).run Try.prog w = .ok (.bool false) w := by kernel_rfl
set_option maxHeartbeats 4000000 in
set_option maxRecDepth 100000 in
theorem catch_idle (gl gn ge : Nat) (w : World) :
    CallsD Try.prog 12 #[.pointer (some ⟨gl, 0, none⟩), .pointer (some ⟨gn, 0, none⟩), .pointer (some ⟨ge, 0, none⟩)] .returning w fun e u' w' => e = .returned (.tuple #[]) ∧ u' = .returning ∧ Below w.heap.size w w' := by
  refine callsD_of_wpS Try.func12 rfl fun c₀ cs hu => ?_
  apply wpS_seq
  apply wpS_region
  simp [wpOpsS, go_sem, recoverD, hu, Try.ntmps12, Exit.thenS]
  refine wpS_of_wp ?_
  rw [show (#[Value.pointer (some { block := gl, off := 0 }), Value.pointer (some { block := gn, off := 0 }), Value.pointer (some { block := ge, off := 0 })] ++ ((Array.replicate 17 undef).setIfInBounds 3 Value.nilIface).setIfInBounds 0 Value.nilIface) = #[Value.pointer (some { block := gl, off := 0 }), Value.pointer (some { block := gn, off := 0 }), Value.pointer (some { block := ge, off := 0 }), .nilIface, undef, undef, .nilIface, undef, undef, undef, undef, undef, undef, undef, undef, undef, undef, undef, undef, undef] from rfl]
  have h1 := ta_nil
  have h2 := nil_nil
  go_upto_region 2 with (((with_reducible refine gate_dst (N := 4) rfl ?_); refine box_event ?hg (N := 4) ?hd (cs := #[.int .i64 0, .int .i64 0]) (t := 42) ?hr ?_; (case hd => rfl); (case hg => rfl); (case hr => first | (go_simp; done) | (go_simp; rfl)); intro g1 hg_ w1 hbox hb; have HB1 := Aside0.mk hb; have BK1 := Aside0.mk hbox; have HG1 := Aside0.mk hg_; clear hb hbox hg_; have hc0 : w1.cell? ⟨g1, 0, none⟩ = some (.int .i64 0) := (blk_cell BK1.out 0).trans rfl; have hc1 : w1.cell? ⟨g1, 1, none⟩ = some (.int .i64 0) := (blk_cell BK1.out 1).trans rfl; have fc0 := blk_frozen BK1.out 0; have fc1 := blk_frozen BK1.out 1))
  have HO := Aside0.mk (onto2_ w1 g1 (.int .i64 0) (.int .i64 0))
  clear hc0 hc1 fc0 fc1
  generalize ((w1.setCell ⟨g1, 0, none⟩ (.int .i64 0)).setCell ⟨g1, 1, none⟩ (.int .i64 0)) = w2 at *
  have HB2 : Aside0 (Below w.heap.size w w2) := ⟨HO.out.below HB1.out (by rw [HG1.out]; exact Nat.le_refl _)⟩
  go_wp2_with fail
  have hb := HB2.out
  clear HB1 BK1 HG1 HO HB2 h1 h2
  cases c₀
  simp_all [bodyPostS, results, Try.results12]

set_option maxHeartbeats 4000000 in
set_option maxRecDepth 100000 in
theorem catch_fault (gl gn ge : Nat) (vl : Value) (n0 e0 : Int) (x : Int × Int) (w : World) (hl : w.heap[gl]? = some (.cells #[vl] 23 (0, 0))) (hn : w.heap[gn]? = some (.cells #[.int .i64 n0] 3 (0, 0))) (he : w.heap[ge]? = some (.cells #[.int .i64 e0] 24 (0, 0))) :
    CallsD Try.prog 12 #[.pointer (some ⟨gl, 0, none⟩), .pointer (some ⟨gn, 0, none⟩), .pointer (some ⟨ge, 0, none⟩)] (.panicking [{ v := faultV x, recovered := false }]) w fun e u' w' => e = .returned (.tuple #[]) ∧ u' = .panicking [{ v := faultV x, recovered := true }] ∧
      w'.heap[gl]? = some (.cells #[.slice none 0 0] 23 (0, 0)) ∧ w'.heap[gn]? = some (.cells #[.int .i64 x.1] 3 (0, 0)) ∧ w'.heap[ge]? = some (.cells #[.int .i64 x.2] 24 (0, 0)) ∧ ∀ w0 : World, Below w0.heap.size w0 w → w0.heap.size ≤ gl → w0.heap.size ≤ gn → w0.heap.size ≤ ge → Below w0.heap.size w0 w' := by
  have HL := Aside0.mk hl
  have HN := Aside0.mk hn
  have HE := Aside0.mk he
  have HNE : Aside0 (gl ≠ gn ∧ gl ≠ ge ∧ gn ≠ ge) := ⟨blk_ne hl hn (by decide), blk_ne hl he (by decide), blk_ne hn he (by decide)⟩
  clear hl hn he
  obtain ⟨xa, xb⟩ := x
  refine callsD_of_wpS Try.func12 rfl fun c₀ cs hu => ?_
  apply wpS_seq
  apply wpS_region
  simp [wpOpsS, go_sem, recoverD, hu, Try.ntmps12, Exit.thenS, faultV]
  refine wpS_of_wp ?_
  rw [show (#[Value.pointer (some { block := gl, off := 0 }), Value.pointer (some { block := gn, off := 0 }), Value.pointer (some { block := ge, off := 0 })] ++ ((Array.replicate 17 undef).setIfInBounds 3 (Value.iface 42 (Value.agg #[Value.int IntKind.i64 xa, Value.int IntKind.i64 xb]))).setIfInBounds 0 (Value.iface 42 (Value.agg #[Value.int IntKind.i64 xa, Value.int IntKind.i64 xb]))) = #[Value.pointer (some { block := gl, off := 0 }), Value.pointer (some { block := gn, off := 0 }), Value.pointer (some { block := ge, off := 0 }), (Value.iface 42 (Value.agg #[Value.int IntKind.i64 xa, Value.int IntKind.i64 xb])), undef, undef, (Value.iface 42 (Value.agg #[Value.int IntKind.i64 xa, Value.int IntKind.i64 xb])), undef, undef, undef, undef, undef, undef, undef, undef, undef, undef, undef, undef, undef] from rfl]
  have h1 := ta_fault
  go_upto_region 2 with (((with_reducible refine gate_dst (N := 4) rfl ?_); refine box_event ?hg (N := 4) ?hd (cs := #[.int .i64 0, .int .i64 0]) (t := 42) ?hr ?_; (case hd => rfl); (case hg => rfl); (case hr => first | (go_simp; done) | (go_simp; rfl)); intro g1 hg_ w1 hbox hb; have HB1 := Aside0.mk hb; have BK1 := Aside0.mk hbox; have HG1 := Aside0.mk hg_; clear hb hbox hg_; have hc0 : w1.cell? ⟨g1, 0, none⟩ = some (.int .i64 0) := (blk_cell BK1.out 0).trans rfl; have hc1 : w1.cell? ⟨g1, 1, none⟩ = some (.int .i64 0) := (blk_cell BK1.out 1).trans rfl; have fc0 := blk_frozen BK1.out 0; have fc1 := blk_frozen BK1.out 1))
  have HO := Aside0.mk (onto2_ w1 g1 (.int .i64 xa) (.int .i64 xb))
  have BK2 := Aside0.mk (put2_ (b0 := .int .i64 xa) (b1 := .int .i64 xb) BK1.out)
  have HGN : Aside0 (gl ≠ g1 ∧ gn ≠ g1 ∧ ge ≠ g1) := ⟨by have a := blk_lt HL.out; have b := blk_lt HN.out; have c := blk_lt HE.out; rw [HG1.out]; omega⟩
  have HL2 := Aside0.mk (HO.out.blk (blk_below HL.out HB1.out) HGN.out.1)
  have HN2 := Aside0.mk (HO.out.blk (blk_below HN.out HB1.out) HGN.out.2.1)
  have HE2 := Aside0.mk (HO.out.blk (blk_below HE.out HB1.out) HGN.out.2.2)
  clear hc0 hc1 fc0 fc1
  have HB2 : Aside0 (∀ w0 : World, Below w0.heap.size w0 w → Below w0.heap.size w0 ((w1.setCell ⟨g1, 0, none⟩ (.int .i64 xa)).setCell ⟨g1, 1, none⟩ (.int .i64 xb))) := ⟨fun w0 hb => HO.out.below (below_step hb HB1.out) (by rw [HG1.out]; exact below_size hb)⟩
  generalize ((w1.setCell ⟨g1, 0, none⟩ (.int .i64 xa)).setCell ⟨g1, 1, none⟩ (.int .i64 xb)) = w2 at *
  clear HO BK1 HB1
  have hx0 : w2.cell? ⟨g1, 0, none⟩ = some (.int .i64 xa) := (blk_cell BK2.out 0).trans rfl
  have hx1 : w2.cell? ⟨g1, 1, none⟩ = some (.int .i64 xb) := (blk_cell BK2.out 1).trans rfl
  have hl0 : w2.cell? ⟨gl, 0, none⟩ = some vl := (blk_cell HL2.out 0).trans rfl
  have hn0 : w2.cell? ⟨gn, 0, none⟩ = some (.int .i64 n0) := (blk_cell HN2.out 0).trans rfl
  have he0 : w2.cell? ⟨ge, 0, none⟩ = some (.int .i64 e0) := (blk_cell HE2.out 0).trans rfl
  have fl0 := blk_frozen HL2.out 0
  have fn0 := blk_frozen HN2.out 0
  have fe0 := blk_frozen HE2.out 0
  go_wp2_with fail
  --REGION--
  have HL3 := Aside0.mk (blk_drew HL2.out)
  have HN3 := Aside0.mk (blk_drew HN2.out)
  have HE3 := Aside0.mk (blk_drew HE2.out)
  have HB3 : Aside0 (∀ w0 : World, Below w0.heap.size w0 w → Below w0.heap.size w0 w2.drew) := ⟨fun w0 hb => below_drew1 (HB2.out w0 hb)⟩
  have hz0 : w2.drew.cell? ⟨g1, 0, none⟩ = some (.int .i64 xa) := hx0
  have hz1 : w2.drew.cell? ⟨g1, 1, none⟩ = some (.int .i64 xb) := hx1
  clear HL2 HN2 HE2 HB2 hx0 hx1 hl0 hn0 he0 fl0 fn0 fe0
  refine start_ (n := 7) (S := fun w' => w'.cell? ⟨g1, 0, none⟩ = some (.int .i64 xa) ∧ w'.cell? ⟨g1, 1, none⟩ = some (.int .i64 xb)) (ds := [6]) #[false, false, false, false, false, false, false] (by kernel_rfl) rfl rfl ⟨hz0, hz1⟩ (fun hHeld => ?_)
  generalize w2.drew = w3 at HL3 HN3 HE3 HB3 hz0 hz1 hHeld ⊢
  refine pure_ (i := 0) (N := some 13) (v := ?_) (a' := ?_) #[true, false, false, false, false, false, false] rfl rfl (by kernel_rfl) (fun _ _ _ h => h) (Or.inl ⟨by rfl, ?_⟩) ?_ ?_
  rotate_left
  · intro w'
    go_simp
    with_reducible rfl
  rotate_left
  · simp only [Act.put, List.setIfInBounds_toArray, List.set_cons_zero, List.set_cons_succ, i64_w, i32_w]
    rfl
  refine pure_ (i := 2) (N := some 15) (v := ?_) (a' := ?_) #[true, false, true, false, false, false, false] rfl rfl (by kernel_rfl) (fun _ _ _ h => h) (Or.inl ⟨by rfl, ?_⟩) ?_ ?_
  rotate_left
  · intro w'
    go_simp
    with_reducible rfl
  rotate_left
  · simp only [Act.put, List.setIfInBounds_toArray, List.set_cons_zero, List.set_cons_succ, i64_w, i32_w]
    rfl
  refine take_ (i := 1) (N := some 14) (v := ?_) (a' := ?_) #[true, true, true, false, false, false, false] rfl rfl (by kernel_rfl) (fun _ _ _ h => h) (Or.inl ⟨by rfl, ?_⟩) hHeld ?_ ?_
  rotate_left
  · rintro w' ⟨s0, s1⟩
    go_simp
    with_reducible rfl
  rotate_left
  · simp only [Act.put, List.setIfInBounds_toArray, List.set_cons_zero, List.set_cons_succ, i64_w, i32_w]
    rfl
  refine take_ (i := 3) (N := some 16) (v := ?_) (a' := ?_) #[true, true, true, true, false, false, false] rfl rfl (by kernel_rfl) (fun _ _ _ h => h) (Or.inl ⟨by rfl, ?_⟩) hHeld ?_ ?_
  rotate_left
  · rintro w' ⟨s0, s1⟩
    go_simp
    with_reducible rfl
  rotate_left
  · simp only [Act.put, List.setIfInBounds_toArray, List.set_cons_zero, List.set_cons_succ, i64_w, i32_w]
    rfl
  refine one_ (i := 4) (N := none) #[true, true, true, true, true, false, false] rfl rfl (by kernel_rfl) (by decide) (fun K hK => ?_)
  have hl0 : w3.cell? ⟨gl, 0, none⟩ = some vl := (blk_cell HL3.out 0).trans rfl
  have fl0 := blk_frozen HL3.out 0
  refine skip_ (w1 := ?_) (by rfl) rfl ?_ ?_
  rotate_left
  · go_simp
    rfl
  refine hK.out _ _ ⟨(((Onto.refl _ gl).set 0 _).cell hz0 HGN.out.1.symm), (((Onto.refl _ gl).set 0 _).cell hz1 HGN.out.1.symm)⟩ (fun hHeld => ?_)
  clear hK K
  refine one_ (i := 5) (N := none) #[true, true, true, true, true, true, false] rfl rfl (by kernel_rfl) (by decide) (fun K hK => ?_)
  have hn0 : (w3.setCell ⟨gl, 0, none⟩ (.slice none 0 0)).cell? ⟨gn, 0, none⟩ = some (.int .i64 n0) := ((Onto.refl _ gl).set 0 _).cell ((blk_cell HN3.out 0).trans rfl) HNE.out.1.symm
  have fn0 : (w3.setCell ⟨gl, 0, none⟩ (.slice none 0 0)).frozen? ⟨gn, 0, none⟩ = false := blk_frozen (((Onto.refl _ gl).set 0 _).blk HN3.out HNE.out.1.symm) 0
  refine skip_ (w1 := ?_) (by rfl) rfl ?_ ?_
  rotate_left
  · go_simp
    rfl
  refine hK.out _ _ ⟨(((Onto.refl _ gn).set 0 _).cell (((Onto.refl _ gl).set 0 _).cell hz0 HGN.out.1.symm) HGN.out.2.1.symm), (((Onto.refl _ gn).set 0 _).cell (((Onto.refl _ gl).set 0 _).cell hz1 HGN.out.1.symm) HGN.out.2.1.symm)⟩ (fun hHeld => ?_)
  clear hK K
  refine last_ (i := 6) (N := none) #[true, true, true, true, true, true, true] rfl rfl (by kernel_rfl) (by decide) (fun K hK => ?_)
  have he0 : ((w3.setCell ⟨gl, 0, none⟩ (.slice none 0 0)).setCell ⟨gn, 0, none⟩ (.int .i64 xa)).cell? ⟨ge, 0, none⟩ = some (.int .i64 e0) := ((Onto.refl _ gn).set 0 _).cell (((Onto.refl _ gl).set 0 _).cell ((blk_cell HE3.out 0).trans rfl) HNE.out.2.1.symm) HNE.out.2.2.symm
  have fe0 : ((w3.setCell ⟨gl, 0, none⟩ (.slice none 0 0)).setCell ⟨gn, 0, none⟩ (.int .i64 xa)).frozen? ⟨ge, 0, none⟩ = false := blk_frozen (((Onto.refl _ gn).set 0 _).blk (((Onto.refl _ gl).set 0 _).blk HE3.out HNE.out.2.1.symm) HNE.out.2.2.symm) 0
  refine skip_ (w1 := ?_) (by rfl) rfl ?_ ?_
  rotate_left
  · go_simp
    rfl
  refine hK.out _ _ ?_
  clear hK K
  refine done_ (by kernel_rfl) ?_
  have HLz : Aside0 ((((w3.setCell ⟨gl, 0, none⟩ (.slice none 0 0)).setCell ⟨gn, 0, none⟩ (.int .i64 xa)).setCell ⟨ge, 0, none⟩ (.int .i64 xb)).heap[gl]? = some (.cells #[.slice none 0 0] 23 (0, 0))) := ⟨((Onto.refl _ ge).set 0 (.int .i64 xb)).blk (((Onto.refl _ gn).set 0 (.int .i64 xa)).blk (blk_put HL3.out 0 (.slice none 0 0) rfl) HNE.out.1) HNE.out.2.1⟩
  have HNz : Aside0 ((((w3.setCell ⟨gl, 0, none⟩ (.slice none 0 0)).setCell ⟨gn, 0, none⟩ (.int .i64 xa)).setCell ⟨ge, 0, none⟩ (.int .i64 xb)).heap[gn]? = some (.cells #[.int .i64 xa] 3 (0, 0))) := ⟨((Onto.refl _ ge).set 0 (.int .i64 xb)).blk (blk_put (((Onto.refl _ gl).set 0 (.slice none 0 0)).blk HN3.out HNE.out.1.symm) 0 (.int .i64 xa) rfl) HNE.out.2.2⟩
  have HEz : Aside0 ((((w3.setCell ⟨gl, 0, none⟩ (.slice none 0 0)).setCell ⟨gn, 0, none⟩ (.int .i64 xa)).setCell ⟨ge, 0, none⟩ (.int .i64 xb)).heap[ge]? = some (.cells #[.int .i64 xb] 24 (0, 0))) := ⟨blk_put (((Onto.refl _ gn).set 0 (.int .i64 xa)).blk (((Onto.refl _ gl).set 0 (.slice none 0 0)).blk HE3.out HNE.out.2.1.symm) HNE.out.2.2.symm) 0 (.int .i64 xb) rfl⟩
  have HBz : Aside0 (∀ w0 : World, Below w0.heap.size w0 w → w0.heap.size ≤ gl → w0.heap.size ≤ gn → w0.heap.size ≤ ge → Below w0.heap.size w0 (((w3.setCell ⟨gl, 0, none⟩ (.slice none 0 0)).setCell ⟨gn, 0, none⟩ (.int .i64 xa)).setCell ⟨ge, 0, none⟩ (.int .i64 xb))) := ⟨fun w0 hb h1 h2 h3 => below_set (below_set (below_set (HB3.out w0 hb) h1) h2) h3⟩
  clear HL3 HN3 HE3 HB3 hz0 hz1 hHeld hl0 hn0 he0 fl0 fn0 fe0
  generalize (((w3.setCell ⟨gl, 0, none⟩ (.slice none 0 0)).setCell ⟨gn, 0, none⟩ (.int .i64 xa)).setCell ⟨ge, 0, none⟩ (.int .i64 xb)) = w4 at *
  clear h1 BK2 HG1 HGN HL HN HE
  have a1 := HLz.out
  have a2 := HNz.out
  have a3 := HEz.out
  have a4 := HBz.out
  clear HLz HNz HEz HBz
  show bodyPostS _ _ _ _ _ _ _ _ _
  cases c₀
  simp_all [bodyPostS, results, Try.results12, faultV]
end Go.Proofs.Ytmhenlilcikgmaa.X

/- Joined texts of this session, without what nothing needs: EvMay, EvStr, IdxStr2, EvCell, IdxCell1, IdxCell2, EvHolds, IntMap, Tab, XevalCheck, XevalHolds, XevalBroken, XevalIn, XevalNumber. -/
import Derived.Test.YtjbjbeihkoeciaaK1
import Derived.Test.YtjbjbeihkoeciaaK3
import Derived.Test.YtjbjbeihkoeciaaK4
import Derived.Test.YtjbjbeihkoeciaaK5
set_option linter.unusedVariables false
set_option linter.unusedSimpArgs false
namespace Go.Proofs.Ytjbjbeihkoeciaa.X
open Go.RowKit Go.Proofs.YtjbjbeihkoeciaaW.PrintWords Go.Proofs.YtjbjbeihkoeciaaW.PrintLast Go.Proofs.YtjbjbeihkoeciaaW.PrintMore
theorem set_ev (l:List ByteArray) (hn:l.length ≤ 4000000000):Ev (fun k=>eval_set.f k l) (setB l):=by
 unfold eval_set.f;have h:Ev (fun k=>eval_set.l0 k l l (l.length:Int) ((0:Nat):Int)) (allFrom (setAt l) 0 (l.length - 0) && decide (l.length ≤ 4000)):=by
  refine Ev.loop (g:=fun k pos=>eval_set.l0 k l l (l.length:Int) (pos:Int)) (spec:=fun pos=>allFrom (setAt l) pos (l.length - pos) && decide (l.length ≤ 4000)) l.length ?_ ?_ 0 (by omega)
  ·refine Ev.succ ?_;simp only [eval_set.l0];rw [allFrom_stop,Bool.true_and];exact Ev.no (by omega) (Ev.is (by simp;omega))
  ·intro pos hp ih;refine Ev.succ ?_;simp only [eval_set.l0,rdOf_at];rw [wrap_up pos (by omega),allFrom_step _ _ _ hp];refine Ev.yes (by omega) (Ev.yes (by omega) (Ev.yes (by omega) (Ev.bind1 (right_f _) ?_)));rw [show setAt l pos=(keyB (l.getD pos ByteArray.empty) && (decide (pos=0) || blt (l.getD (pos - 1) ByteArray.empty) (l.getD pos ByteArray.empty))) from rfl];cases hk:keyB (l.getD pos ByteArray.empty)
   ·exact Ev.no (by decide) (Ev.is (by simp))
   ·refine Ev.yes rfl ?_;by_cases h0:pos=0
    ·rw [decide_eq_true h0];exact Ev.no (by omega) (by simpa using ih)
    ·(have e:wrap64 ((pos:Int) - 1)=((pos - 1:Nat):Int):=by unfold wrap64;omega);rw [e,rdOf_at,decide_eq_false h0];refine Ev.yes (by omega) (Ev.yes (by omega) (Ev.yes (by omega) ?_));cases hb:blt (l.getD (pos - 1) ByteArray.empty) (l.getD pos ByteArray.empty)
     ·exact Ev.no (by unfold blt at hb;rw [hb];decide) (Ev.is (by simp))
     ·exact Ev.yes hb (by simpa using ih)
 exact h
theorem set_call (A:Option Addr) (c:Nat) (l:List ByteArray) (w:World) (hr:Kd.C Kd.string w A l.length l) (hc:l.length ≤ c) (hn:l.length ≤ 4000000000) :
  Calls Try.prog 97 #[.slice A l.length c] w fun e w'=>e = .returned (.bool (setB l))∧Below w.heap.size w w':=by
 obtain ⟨k,hk⟩:=Ev.rounds (g:=fun k=>eval_set.f k l) (set_ev l hn);exact (eval_set.calls k A c l (setB l) w hr hc hk).mono fun e w' ⟨he,m,hm⟩=>⟨he,hm ▸ pw_below_drewN (Below.refl _ _) _⟩
theorem enter_may1 (args:Array Value) (w:World):(callFunc 96 args).run Try.prog w = .ok (.enter 96 args) w:=by kernel_rfl
theorem enter_may2 (args:Array Value) (w:World):(callFunc 99 args).run Try.prog w = .ok (.enter 99 args) w:=by kernel_rfl
set_option maxHeartbeats 4000000 in
set_option maxRecDepth 100000 in
theorem may1_call (A:Option Addr) (c:Nat) (l:List ByteArray) (w:World) (hr:Kd.C Kd.string w A l.length l) (hc:l.length ≤ c) (hn:l.length ≤ 4000000000) :
  Calls Try.prog 96 #[.slice A l.length c] w fun e w'=>e = .returned (.bool (!setB l))∧Below w.heap.size w w':=by
 have HS:=Sd.mk (fun w' (hw:Below w.heap.size w w')=>set_call A c l w' (Kd.C_below hr hw) hc hn);clear hr hc hn;generalize l.length=n at *;generalize setB l=b at *;go_enter Try.func96,Try.ntmps96;go_wp2_with fail;refine (HS.out _ (Below.refl _ _)).mono ?_;rintro e w1 ⟨rfl,hb⟩;have HB:=Sd.mk hb;clear hb;go_wp2_with fail;go_ret;exact ⟨rfl,HB.out⟩
set_option maxHeartbeats 4000000 in
set_option maxRecDepth 100000 in
theorem may2_call (A:Option Addr) (c:Nat) (l:List Ce) (w:World) (hr:Kd.C k135 w A l.length l) (hc:l.length ≤ c) (hn:l.length ≤ 4000000000) :
  Calls Try.prog 99 #[.slice A l.length c] w fun e w'=>e = .returned (.bool (!cntB l))∧Below w.heap.size w w':=by
 have HS:=Sd.mk (fun w' (hw:Below w.heap.size w w')=>count_call A c l w' (Kd.C_below hr hw) hc hn);clear hr hc hn;generalize l.length=n at *;generalize cntB l=b at *;go_enter Try.func99,Try.ntmps99;go_wp2_with fail;refine (HS.out _ (Below.refl _ _)).mono ?_;rintro e w1 ⟨rfl,hb⟩;have HB:=Sd.mk hb;clear hb;go_wp2_with fail;go_ret;exact ⟨rfl,HB.out⟩
def StOk (ss:List (List ByteArray)) (cs:List (List Ce)):Prop:=(ss.length ≤ 4000000000∧cs.length ≤ 4000000000)∧(∀ l ∈ ss,l.length ≤ 4000000000)∧∀ l ∈ cs,l.length ≤ 4000000000
instance (ss:List (List ByteArray)) (cs:List (List Ce)):Decidable (StOk ss cs):=by unfold StOk;infer_instance
set_option maxHeartbeats 8000000 in
set_option maxRecDepth 100000 in
theorem may_call (A0:Option Addr) (c0 n0:Nat) (A1:Option Addr) (c1 n1:Nat) (v2 v3 v4:Value) (B0:Option Addr) (d0:Nat) (ss:List (List ByteArray)) (B1:Option Addr) (d1:Nat) (cs:List (List Ce)) (w:World)
  (hr0:Kd.C (Kd.slice 9 Kd.string) w B0 ss.length ss) (hc0:ss.length ≤ d0) (hr1:Kd.C (Kd.slice 135 k135) w B1 cs.length cs) (hc1:cs.length ≤ d1) (hok:StOk ss cs) :
  Calls Try.prog 59 #[.agg #[.slice A0 n0 c0,.slice A1 n1 c1,v2,v3,v4],.agg #[.slice B0 ss.length d0,.slice B1 cs.length d1]] w fun e w'=>e = .returned (.bool (mayS n0 n1 ss cs))∧Below w.heap.size w w':=by
 have HSS:Sd (∀ w',Below w.heap.size w w' → Calls Try.prog 95 #[.slice B0 ss.length d0,.func (.func 96) #[] #[]] w' fun e w''=>e = .returned (.bool (ss.any fun l=>!setB l))∧Below w'.heap.size w' w'') :=
  ⟨fun w' hw=>hasFStrs0 _ enter_may1 _ B0 d0 ss w' (Kd.C_below hr0 hw) hc0 hok.1.1 (fun x hx v hv w2 hb2=>by
   obtain ⟨A5,c5,rfl,k5,g5⟩:=hv
   exact may1_call A5 c5 x w2 (Kd.C_below g5 hb2) k5 (hok.2.1 x hx))⟩
 have HCC:Sd (∀ w',Below w.heap.size w w' → Calls Try.prog 98 #[.slice B1 cs.length d1,.func (.func 99) #[] #[]] w' fun e w''=>e = .returned (.bool (cs.any fun l=>!cntB l))∧Below w'.heap.size w' w'') :=
  ⟨fun w' hw=>hasFCells0 _ enter_may2 _ B1 d1 cs w' (Kd.C_below hr1 hw) hc1 hok.1.2 (fun x hx v hv w2 hb2=>by
   obtain ⟨A5,c5,rfl,k5,g5⟩:=hv
   exact may2_call A5 c5 x w2 (Kd.C_below g5 hb2) k5 (hok.2.2 x hx))⟩
 have HM:Sd (mayS n0 n1 ss cs=(decide (ss.length=n0) && (decide (cs.length=n1) && (!(ss.any fun l=>!setB l) && !(cs.any fun l=>!cntB l))))):=⟨by
  unfold mayS
  rw [List.not_any_eq_all_not,List.not_any_eq_all_not]
  simp⟩
 clear hr0 hr1 hc0 hc1 hok;generalize mayS n0 n1 ss cs=R at *;generalize (ss.any fun l=>!setB l)=b1 at *;generalize (cs.any fun l=>!cntB l)=b2 at *;generalize ss.length=m0 at *;generalize cs.length=m1 at *;go_enter Try.func59,Try.ntmps59;go_upto_region 1 with (first|((with_reducible refine gate_dst (N:=2) rfl ?_);refine box_event ?hg (N:=2) ?hd (cs:=#[.slice A0 n0 c0,.slice A1 n1 c1,v2,v3,v4]) (t:=26) ?hr ?_;(case hd=>rfl);(case hg=>rfl);(case hr=>first|(go_simp;done)|(go_simp;rfl));intro g hg w3 hbox hb;have HB:=Sd.mk hb;have BK:=Sd.mk hbox;have HG:=Sd.mk hg;clear hb hbox hg)|((with_reducible refine gate_dst (N:=3) rfl ?_);refine box_event ?hg (N:=3) ?hd (cs:=#[.slice B0 m0 d0,.slice B1 m1 d1]) (t:=46) ?hr ?_;(case hd=>rfl);(case hg=>rfl);(case hr=>first|(go_simp;done)|(go_simp;rfl));intro g2 hg w4 hbox hb;have HB2:=Sd.mk (below_step HB.out hb);have BK1:=Sd.mk (blk_below BK.out hb);have BK2:=Sd.mk hbox;clear hb hbox hg));obtain ⟨ha0,ha1⟩:=bc2 BK1.out;obtain ⟨hb0,hb1⟩:=bc2 BK2.out;by_cases e0:m0=n0
 ·(have f0:((m0:Int) == (n0:Int))=true:=by simp [e0]);have E0:=Sd.mk e0;clear e0;by_cases e1:m1=n1
  ·(have f1:((m1:Int) == (n1:Int))=true:=by simp [e1]);have HM2:Sd (R=(!b1 && !b2)):=⟨by rw [HM.out,decide_eq_true E0.out,decide_eq_true e1];rfl⟩;clear HM e1;go_wp2_with fail;refine (HSS.out _ HB2.out).mono ?_;rintro e w5 ⟨rfl,hb5⟩;have HB5:=Sd.mk (below_step HB2.out hb5);have BK5:=Sd.mk (blk_below BK2.out hb5);clear hb5 ha0 ha1 hb0 hb1;have hb1:w5.cell? ⟨g2,1,none⟩=some (.slice B1 m1 d1):=(blk_cell BK5.out 1).trans rfl;cases b1 with
   | true =>
    have HQ:Sd (R=false):=⟨by rw [HM2.out];rfl⟩;clear HM2;go_wp2_with fail;go_ret;exact ⟨by rw [HQ.out];rfl,HB5.out⟩
   | false =>
    have HQ:Sd (R = !b2):=⟨by rw [HM2.out];rfl⟩;clear HM2;go_wp2_with fail;refine (HCC.out _ HB5.out).mono ?_;rintro e w6 ⟨rfl,hb6⟩;have HB6:=Sd.mk (below_step HB5.out hb6);clear hb6 hb1;go_wp2_with fail;go_ret;exact ⟨by rw [HQ.out];rfl,HB6.out⟩
  ·(have f1:((m1:Int) == (n1:Int))=false:=by simp;omega);have HQ:Sd (R=false):=⟨by rw [HM.out,decide_eq_true E0.out,decide_eq_false e1];rfl⟩;clear HM e1;go_wp2_with fail;go_ret;exact ⟨by rw [HQ.out];rfl,HB2.out⟩
 ·(have f0:((m0:Int) == (n0:Int))=false:=by simp;omega);have HQ:Sd (R=false):=⟨by rw [HM.out,decide_eq_false e0];rfl⟩;clear HM e0;go_wp2_with fail;go_ret;exact ⟨by rw [HQ.out];rfl,HB2.out⟩
def eval_may.f (l0 l1 l2:List ByteArray) (l3:List S70) (l4:List S66) (ss:List (List ByteArray)) (cs:List (List Ce)):Option Bool:=if StOk ss cs then some (mayS l0.length l1.length ss cs) else none
theorem eval_may.calls (A0:Option Addr) (c0:Nat) (l0:List ByteArray) (A1:Option Addr) (c1:Nat) (l1:List ByteArray) (A2:Option Addr) (c2:Nat) (l2:List ByteArray) (A3:Option Addr) (c3:Nat) (l3:List S70) (A4:Option Addr) (c4:Nat) (l4:List S66) (B0:Option Addr) (d0:Nat) (ss:List (List ByteArray)) (B1:Option Addr) (d1:Nat) (cs:List (List Ce)) (r:Bool) (w:World)
  (_:Kd.C Kd.string w A0 l0.length l0) (_:l0.length ≤ c0) (_:Kd.C Kd.string w A1 l1.length l1) (_:l1.length ≤ c1) (_:Kd.C Kd.string w A2 l2.length l2) (_:l2.length ≤ c2) (_:Kd.C k70 w A3 l3.length l3) (_:l3.length ≤ c3) (_:Kd.C k66 w A4 l4.length l4) (_:l4.length ≤ c4)
  (hr0:Kd.C (Kd.slice 9 Kd.string) w B0 ss.length ss) (hc0:ss.length ≤ d0) (hr1:Kd.C (Kd.slice 135 k135) w B1 cs.length cs) (hc1:cs.length ≤ d1) (h:eval_may.f l0 l1 l2 l3 l4 ss cs=some r) :
  Calls Try.prog 59 #[.agg #[.slice A0 l0.length c0,.slice A1 l1.length c1,.slice A2 l2.length c2,.slice A3 l3.length c3,.slice A4 l4.length c4],.agg #[.slice B0 ss.length d0,.slice B1 cs.length d1]] w fun e w'=>e = .returned (.bool r)∧Below w.heap.size w w':=by
 unfold eval_may.f at h;split at h
 ·rename_i hok;cases h;exact may_call A0 c0 l0.length A1 c1 l1.length _ _ _ B0 d0 ss B1 d1 cs w hr0 hc0 hr1 hc1 hok
 ·cases h
def EVStr (w:World) (x:ByteArray) (v:Value):Prop:=v = .string x
theorem evStr {w:World} {x:ByteArray} {cs:List Value} (h:Kd.K Kd.string w x cs):cs = [.string x]∧EVStr w x (.string x):=by
 obtain rfl:=h;exact ⟨rfl,rfl⟩
set_option maxHeartbeats 4000000 in
set_option maxRecDepth 100000 in
theorem idxFStr2 (F:FuncId) (cv0:Value) (cv1:Value) (hF:∀ (args:Array Value) (w:World),(callFunc F args).run Try.prog w = .ok (.enter F args) w) (p:ByteArray → Bool) (A:Option Addr) (c:Nat) (l:List ByteArray) (w:World) (hr:Kd.C Kd.string w A l.length l) (hc:l.length ≤ c) (hn:l.length ≤ 4000000000)
  (hp:∀ x ∈ l,∀ v,EVStr w x v → ∀ w',Below w.heap.size w w' → Calls Try.prog F #[v,cv0,cv1] w' fun e w''=>e = .returned (.bool (p x))∧Below w'.heap.size w' w'') :
  Calls Try.prog 136 #[.slice A l.length c,.func (.func F) #[] #[cv0,cv1]] w fun e w'=>e = .returned (.int .i64 (idxF p l))∧Below w.heap.size w w':=by
 generalize hnl:l.length=n at *;have HNL:=Sd.mk hnl;have HR:=Sd.mk hr;have HP:=Sd.mk hp;clear hr hp hnl;go_enter Try.func136,Try.ntmps136;go_wp2_with fail;go_loopw [8] (fun v8 w'=>∃ i:Nat,v8 = .int .i64 (i:Int)∧i ≤ n∧Sd (∀ j,j < i → ∀ x,l[j]? = some x → p x=false)∧Sd (Below w.heap.size w w')) (fun v8 _=>((n:Int) - intV v8).toNat)
 case atStart=>exact ⟨0,rfl,Nat.zero_le _,⟨fun j hj=>absurd hj (by omega)⟩,⟨Below.refl _ _⟩⟩
 case round =>
  obtain ⟨i,rfl,hi,HA,HB⟩:=hrel;by_cases hlt:i < n
  ·(have hlt':decide ((i:Int) < (n:Int))=true:=by simp;omega);(have p0:0 ≤ (i:Int):=by omega);(have q0:(i:Int) < (n:Int):=by omega);obtain ⟨ad,cs,e0,_,hK,hc0⟩:=Kd.C_get HR.out ByteArray.empty (i:Int) p0 q0;cases e0;(have hget:l[i]? = some (l.getD i ByteArray.empty):=by rw [List.getD_eq_getElem?_getD,List.getElem?_eq_getElem (by rw [HNL.out];exact hlt)];rfl);simp only [Int.toNat_natCast] at hK hc0;generalize hx:l.getD i ByteArray.empty=x at *;have HX:=Sd.mk hget;have HM:Sd (x ∈ l):=⟨List.mem_of_getElem? hget⟩;clear hx hget;have hc1:∀ j u,cs[j]? = some u → w.cell? (ad.add (i * 1 + j))=some u:=hc0;have hEV:=evStr hK;obtain ⟨rfl,hev⟩:=hEV;(have hx0:w.cell? (ad.add i)=some (.string x):=by have h_:=hc1 0 _ rfl;simpa using h_);replace hx0:=(HB.out.cell (World.block_lt_of_cell? w _ hx0)).trans hx0;clear hc1 hc0 hK;have HEV:=Sd.mk hev;clear hev;replace p0:=eq_true p0;replace q0:=eq_true q0;cases hpx:p x with
   | true =>
    have HPX:=Sd.mk hpx;clear hpx;go_wp2_with fail;refine (HP.out x HM.out _ HEV.out _ HB.out).mono ?_;rintro e w1 ⟨rfl,hb⟩;have HB1:=Sd.mk (below_step HB.out hb);clear hb;have hpx:=HPX.out;go_wp2_with fail;go_ret;exact ⟨by rw [idxF_at p l i x HX.out HPX.out HA.out];rfl,HB1.out⟩
   | false =>
    have HPX:=Sd.mk hpx;clear hpx;go_wp2_with fail;refine (HP.out x HM.out _ HEV.out _ HB.out).mono ?_;rintro e w1 ⟨rfl,hb⟩;have HB1:=Sd.mk (below_step HB.out hb);clear hb;have hpx:=HPX.out;go_wp2_with fail;go_roundw
    case measure=>simp [intV];omega
    case rel =>
     refine ⟨i + 1,by simp,by omega,⟨fun j hj x' hx'=>?_⟩,HB1⟩;rcases Nat.lt_or_ge j i with h1|h1
     ·exact HA.out j h1 x' hx'
     ·(obtain rfl:j=i:=by omega);rw [HX.out] at hx';cases hx';exact HPX.out
  ·(have hlt':decide ((i:Int) < (n:Int))=false:=by simp;omega);go_wp2_with fail;go_ret;exact ⟨by rw [idxF_none p l (fun j x hx=>HA.out j (by have:=(List.getElem?_eq_some_iff.1 hx).1;have:=HNL.out;omega) x hx)];rfl,HB.out⟩
set_option maxHeartbeats 4000000 in
set_option maxRecDepth 100000 in
theorem hasFStr2 (F:FuncId) (cv0:Value) (cv1:Value) (hF:∀ (args:Array Value) (w:World),(callFunc F args).run Try.prog w = .ok (.enter F args) w) (p:ByteArray → Bool) (A:Option Addr) (c:Nat) (l:List ByteArray) (w:World) (hr:Kd.C Kd.string w A l.length l) (hc:l.length ≤ c) (hn:l.length ≤ 4000000000) (hp:∀ x ∈ l,∀ v,EVStr w x v → ∀ w',Below w.heap.size w w' → Calls Try.prog F #[v,cv0,cv1] w' fun e w''=>e = .returned (.bool (p x))∧Below w'.heap.size w' w''):Calls Try.prog 106 #[.slice A l.length c,.func (.func F) #[] #[cv0,cv1]] w fun e w'=>e = .returned (.bool (l.any p))∧Below w.heap.size w w':=by
 have HR:=Sd.mk hr;have HP:=Sd.mk hp;clear hr hp;go_enter Try.func106,Try.ntmps106;go_wp2_with fail;refine (idxFStr2 F cv0 cv1 hF p A c l _ HR.out hc hn HP.out).mono ?_;rintro e w' ⟨rfl,hb⟩;go_wp2_with fail;go_ret;exact ⟨congrArg (fun b=>Ending.returned (.bool b)) (idxF_any p l),hb⟩
def EVCell (w:World) (x:S135) (v:Value):Prop:=v = .agg #[.string x.f0,.int .i64 x.f1]
theorem evCell {w:World} {x:S135} {cs:List Value} (h:Kd.K k135 w x cs):cs = [.string x.f0,.int .i64 x.f1]∧EVCell w x (.agg #[.string x.f0,.int .i64 x.f1]):=by
 obtain rfl:=k135_open h;exact ⟨rfl,rfl⟩
set_option maxHeartbeats 4000000 in
set_option maxRecDepth 100000 in
theorem idxFCell1 (F:FuncId) (cv0:Value) (hF:∀ (args:Array Value) (w:World),(callFunc F args).run Try.prog w = .ok (.enter F args) w) (p:S135 → Bool) (A:Option Addr) (c:Nat) (l:List S135) (w:World) (hr:Kd.C k135 w A l.length l) (hc:l.length ≤ c) (hn:l.length ≤ 4000000000)
  (hp:∀ x ∈ l,∀ v,EVCell w x v → ∀ w',Below w.heap.size w w' → Calls Try.prog F #[v,cv0] w' fun e w''=>e = .returned (.bool (p x))∧Below w'.heap.size w' w'') :
  Calls Try.prog 137 #[.slice A l.length c,.func (.func F) #[] #[cv0]] w fun e w'=>e = .returned (.int .i64 (idxF p l))∧Below w.heap.size w w':=by
 generalize hnl:l.length=n at *;have HNL:=Sd.mk hnl;have HR:=Sd.mk hr;have HP:=Sd.mk hp;clear hr hp hnl;go_enter Try.func137,Try.ntmps137;go_wp2_with fail;go_loopw [8] (fun v8 w'=>∃ i:Nat,v8 = .int .i64 (i:Int)∧i ≤ n∧Sd (∀ j,j < i → ∀ x,l[j]? = some x → p x=false)∧Sd (Below w.heap.size w w')) (fun v8 _=>((n:Int) - intV v8).toNat)
 case atStart=>exact ⟨0,rfl,Nat.zero_le _,⟨fun j hj=>absurd hj (by omega)⟩,⟨Below.refl _ _⟩⟩
 case round =>
  obtain ⟨i,rfl,hi,HA,HB⟩:=hrel;by_cases hlt:i < n
  ·(have hlt':decide ((i:Int) < (n:Int))=true:=by simp;omega);(have p0:0 ≤ (i:Int):=by omega);(have q0:(i:Int) < (n:Int):=by omega);obtain ⟨ad,cs,e0,_,hK,hc0⟩:=Kd.C_get HR.out z135 (i:Int) p0 q0;cases e0;(have hget:l[i]? = some (l.getD i z135):=by rw [List.getD_eq_getElem?_getD,List.getElem?_eq_getElem (by rw [HNL.out];exact hlt)];rfl);simp only [Int.toNat_natCast] at hK hc0;generalize hx:l.getD i z135=x at *;have HX:=Sd.mk hget;have HM:Sd (x ∈ l):=⟨List.mem_of_getElem? hget⟩;clear hx hget;have hc1:∀ j u,cs[j]? = some u → w.cell? (ad.add (i * 2 + j))=some u:=hc0;have hEV:=evCell hK;obtain ⟨rfl,hev⟩:=hEV;have hx0:w.cell? (ad.add (i * 2))=some (.string x.f0):=hc1 0 _ rfl;(have hx1:w.cell? ⟨(ad.add (i * 2)).block,(ad.add (i * 2)).off + 1,none⟩=some (.int .i64 x.f1):=by rw [← add_field _ _ 1 (by omega)];exact hc1 1 _ rfl);replace hx0:=(HB.out.cell (World.block_lt_of_cell? w _ hx0)).trans hx0;replace hx1:=(HB.out.cell (World.block_lt_of_cell? w _ hx1)).trans hx1;clear hc1 hc0 hK;have HEV:=Sd.mk hev;clear hev;replace p0:=eq_true p0;replace q0:=eq_true q0;cases hpx:p x with
   | true =>
    have HPX:=Sd.mk hpx;clear hpx;go_wp2_with fail;refine (HP.out x HM.out _ HEV.out _ HB.out).mono ?_;rintro e w1 ⟨rfl,hb⟩;have HB1:=Sd.mk (below_step HB.out hb);clear hb;have hpx:=HPX.out;go_wp2_with fail;go_ret;exact ⟨by rw [idxF_at p l i x HX.out HPX.out HA.out];rfl,HB1.out⟩
   | false =>
    have HPX:=Sd.mk hpx;clear hpx;go_wp2_with fail;refine (HP.out x HM.out _ HEV.out _ HB.out).mono ?_;rintro e w1 ⟨rfl,hb⟩;have HB1:=Sd.mk (below_step HB.out hb);clear hb;have hpx:=HPX.out;go_wp2_with fail;go_roundw
    case measure=>simp [intV];omega
    case rel =>
     refine ⟨i + 1,by simp,by omega,⟨fun j hj x' hx'=>?_⟩,HB1⟩;rcases Nat.lt_or_ge j i with h1|h1
     ·exact HA.out j h1 x' hx'
     ·(obtain rfl:j=i:=by omega);rw [HX.out] at hx';cases hx';exact HPX.out
  ·(have hlt':decide ((i:Int) < (n:Int))=false:=by simp;omega);go_wp2_with fail;go_ret;exact ⟨by rw [idxF_none p l (fun j x hx=>HA.out j (by have:=(List.getElem?_eq_some_iff.1 hx).1;have:=HNL.out;omega) x hx)];rfl,HB.out⟩
set_option maxHeartbeats 4000000 in
set_option maxRecDepth 100000 in
theorem hasFCell1 (F:FuncId) (cv0:Value) (hF:∀ (args:Array Value) (w:World),(callFunc F args).run Try.prog w = .ok (.enter F args) w) (p:S135 → Bool) (A:Option Addr) (c:Nat) (l:List S135) (w:World) (hr:Kd.C k135 w A l.length l) (hc:l.length ≤ c) (hn:l.length ≤ 4000000000) (hp:∀ x ∈ l,∀ v,EVCell w x v → ∀ w',Below w.heap.size w w' → Calls Try.prog F #[v,cv0] w' fun e w''=>e = .returned (.bool (p x))∧Below w'.heap.size w' w''):Calls Try.prog 110 #[.slice A l.length c,.func (.func F) #[] #[cv0]] w fun e w'=>e = .returned (.bool (l.any p))∧Below w.heap.size w w':=by
 have HR:=Sd.mk hr;have HP:=Sd.mk hp;clear hr hp;go_enter Try.func110,Try.ntmps110;go_wp2_with fail;refine (idxFCell1 F cv0 hF p A c l _ HR.out hc hn HP.out).mono ?_;rintro e w' ⟨rfl,hb⟩;go_wp2_with fail;go_ret;exact ⟨congrArg (fun b=>Ending.returned (.bool b)) (idxF_any p l),hb⟩
set_option maxHeartbeats 4000000 in
set_option maxRecDepth 100000 in
theorem idxFCell2 (F:FuncId) (cv0:Value) (cv1:Value) (hF:∀ (args:Array Value) (w:World),(callFunc F args).run Try.prog w = .ok (.enter F args) w) (p:S135 → Bool) (A:Option Addr) (c:Nat) (l:List S135) (w:World) (hr:Kd.C k135 w A l.length l) (hc:l.length ≤ c) (hn:l.length ≤ 4000000000)
  (hp:∀ x ∈ l,∀ v,EVCell w x v → ∀ w',Below w.heap.size w w' → Calls Try.prog F #[v,cv0,cv1] w' fun e w''=>e = .returned (.bool (p x))∧Below w'.heap.size w' w'') :
  Calls Try.prog 137 #[.slice A l.length c,.func (.func F) #[] #[cv0,cv1]] w fun e w'=>e = .returned (.int .i64 (idxF p l))∧Below w.heap.size w w':=by
 generalize hnl:l.length=n at *;have HNL:=Sd.mk hnl;have HR:=Sd.mk hr;have HP:=Sd.mk hp;clear hr hp hnl;go_enter Try.func137,Try.ntmps137;go_wp2_with fail;go_loopw [8] (fun v8 w'=>∃ i:Nat,v8 = .int .i64 (i:Int)∧i ≤ n∧Sd (∀ j,j < i → ∀ x,l[j]? = some x → p x=false)∧Sd (Below w.heap.size w w')) (fun v8 _=>((n:Int) - intV v8).toNat)
 case atStart=>exact ⟨0,rfl,Nat.zero_le _,⟨fun j hj=>absurd hj (by omega)⟩,⟨Below.refl _ _⟩⟩
 case round =>
  obtain ⟨i,rfl,hi,HA,HB⟩:=hrel;by_cases hlt:i < n
  ·(have hlt':decide ((i:Int) < (n:Int))=true:=by simp;omega);(have p0:0 ≤ (i:Int):=by omega);(have q0:(i:Int) < (n:Int):=by omega);obtain ⟨ad,cs,e0,_,hK,hc0⟩:=Kd.C_get HR.out z135 (i:Int) p0 q0;cases e0;(have hget:l[i]? = some (l.getD i z135):=by rw [List.getD_eq_getElem?_getD,List.getElem?_eq_getElem (by rw [HNL.out];exact hlt)];rfl);simp only [Int.toNat_natCast] at hK hc0;generalize hx:l.getD i z135=x at *;have HX:=Sd.mk hget;have HM:Sd (x ∈ l):=⟨List.mem_of_getElem? hget⟩;clear hx hget;have hc1:∀ j u,cs[j]? = some u → w.cell? (ad.add (i * 2 + j))=some u:=hc0;have hEV:=evCell hK;obtain ⟨rfl,hev⟩:=hEV;have hx0:w.cell? (ad.add (i * 2))=some (.string x.f0):=hc1 0 _ rfl;(have hx1:w.cell? ⟨(ad.add (i * 2)).block,(ad.add (i * 2)).off + 1,none⟩=some (.int .i64 x.f1):=by rw [← add_field _ _ 1 (by omega)];exact hc1 1 _ rfl);replace hx0:=(HB.out.cell (World.block_lt_of_cell? w _ hx0)).trans hx0;replace hx1:=(HB.out.cell (World.block_lt_of_cell? w _ hx1)).trans hx1;clear hc1 hc0 hK;have HEV:=Sd.mk hev;clear hev;replace p0:=eq_true p0;replace q0:=eq_true q0;cases hpx:p x with
   | true =>
    have HPX:=Sd.mk hpx;clear hpx;go_wp2_with fail;refine (HP.out x HM.out _ HEV.out _ HB.out).mono ?_;rintro e w1 ⟨rfl,hb⟩;have HB1:=Sd.mk (below_step HB.out hb);clear hb;have hpx:=HPX.out;go_wp2_with fail;go_ret;exact ⟨by rw [idxF_at p l i x HX.out HPX.out HA.out];rfl,HB1.out⟩
   | false =>
    have HPX:=Sd.mk hpx;clear hpx;go_wp2_with fail;refine (HP.out x HM.out _ HEV.out _ HB.out).mono ?_;rintro e w1 ⟨rfl,hb⟩;have HB1:=Sd.mk (below_step HB.out hb);clear hb;have hpx:=HPX.out;go_wp2_with fail;go_roundw
    case measure=>simp [intV];omega
    case rel =>
     refine ⟨i + 1,by simp,by omega,⟨fun j hj x' hx'=>?_⟩,HB1⟩;rcases Nat.lt_or_ge j i with h1|h1
     ·exact HA.out j h1 x' hx'
     ·(obtain rfl:j=i:=by omega);rw [HX.out] at hx';cases hx';exact HPX.out
  ·(have hlt':decide ((i:Int) < (n:Int))=false:=by simp;omega);go_wp2_with fail;go_ret;exact ⟨by rw [idxF_none p l (fun j x hx=>HA.out j (by have:=(List.getElem?_eq_some_iff.1 hx).1;have:=HNL.out;omega) x hx)];rfl,HB.out⟩
set_option maxHeartbeats 4000000 in
set_option maxRecDepth 100000 in
theorem hasFCell2 (F:FuncId) (cv0:Value) (cv1:Value) (hF:∀ (args:Array Value) (w:World),(callFunc F args).run Try.prog w = .ok (.enter F args) w) (p:S135 → Bool) (A:Option Addr) (c:Nat) (l:List S135) (w:World) (hr:Kd.C k135 w A l.length l) (hc:l.length ≤ c) (hn:l.length ≤ 4000000000) (hp:∀ x ∈ l,∀ v,EVCell w x v → ∀ w',Below w.heap.size w w' → Calls Try.prog F #[v,cv0,cv1] w' fun e w''=>e = .returned (.bool (p x))∧Below w'.heap.size w' w''):Calls Try.prog 110 #[.slice A l.length c,.func (.func F) #[] #[cv0,cv1]] w fun e w'=>e = .returned (.bool (l.any p))∧Below w.heap.size w w':=by
 have HR:=Sd.mk hr;have HP:=Sd.mk hp;clear hr hp;go_enter Try.func110,Try.ntmps110;go_wp2_with fail;refine (idxFCell2 F cv0 cv1 hF p A c l _ HR.out hc hn HP.out).mono ?_;rintro e w' ⟨rfl,hb⟩;go_wp2_with fail;go_ret;exact ⟨congrArg (fun b=>Ending.returned (.bool b)) (idxF_any p l),hb⟩
theorem row_at {w:World} {B:Option Addr} {ss:List (List ByteArray)} (h:Kd.C (Kd.slice 9 Kd.string) w B ss.length ss) (i:Nat) (hi:i < ss.length) :
  ∃ ad A1 c1,B=some ad∧w.cell? (ad.add i)=some (.slice A1 (ss.getD i []).length c1)∧(ss.getD i []).length ≤ c1∧Kd.C Kd.string w A1 (ss.getD i []).length (ss.getD i []):=by
 obtain ⟨ad,cs,e0,_,hK,hc⟩:=Kd.C_get h ([]:List ByteArray) (i:Int) (by omega) (by omega);simp only [Int.toNat_natCast] at hK hc;obtain ⟨A1,c1,rfl,l1,g1⟩:=hK;have h1:=hc 0 _ rfl;rw [show (Kd.slice 9 Kd.string).sz=1 from rfl,Nat.mul_one,Nat.add_zero] at h1;exact ⟨ad,A1,c1,e0,h1,l1,g1⟩
theorem rowc_at {w:World} {B:Option Addr} {cs:List (List Ce)} (h:Kd.C (Kd.slice 135 k135) w B cs.length cs) (i:Nat) (hi:i < cs.length) :
  ∃ ad A1 c1,B=some ad∧w.cell? (ad.add i)=some (.slice A1 (cs.getD i []).length c1)∧(cs.getD i []).length ≤ c1∧Kd.C k135 w A1 (cs.getD i []).length (cs.getD i []):=by
 obtain ⟨ad,vs,e0,_,hK,hc⟩:=Kd.C_get h ([]:List Ce) (i:Int) (by omega) (by omega);simp only [Int.toNat_natCast] at hK hc;obtain ⟨A1,c1,rfl,l1,g1⟩:=hK;have h1:=hc 0 _ rfl;rw [show (Kd.slice 135 k135).sz=1 from rfl,Nat.mul_one,Nat.add_zero] at h1;exact ⟨ad,A1,c1,e0,h1,l1,g1⟩
theorem enter_holds1 (args:Array Value) (w:World):(callFunc 107 args).run Try.prog w = .ok (.enter 107 args) w:=by kernel_rfl
theorem enter_holds2 (args:Array Value) (w:World):(callFunc 109 args).run Try.prog w = .ok (.enter 109 args) w:=by kernel_rfl
theorem enter_holds3 (args:Array Value) (w:World):(callFunc 111 args).run Try.prog w = .ok (.enter 111 args) w:=by kernel_rfl
theorem enter_holds4 (args:Array Value) (w:World):(callFunc 112 args).run Try.prog w = .ok (.enter 112 args) w:=by kernel_rfl
theorem enter_holds5 (args:Array Value) (w:World):(callFunc 113 args).run Try.prog w = .ok (.enter 113 args) w:=by kernel_rfl
set_option maxHeartbeats 4000000 in
set_option maxRecDepth 100000 in
theorem holds1_call (gs gc:Nat) (B0:Option Addr) (d0:Nat) (ss:List (List ByteArray)) (v1 q0 q1 q2 q4:Value) (b:Nat) (key:ByteArray) (w:World) (hs:w.heap[gs]? = some (.cells #[.slice B0 ss.length d0,v1] 46 (0,0))) (hc:w.heap[gc]? = some (.cells #[q0,q1,q2,.int .i64 (b:Int),q4] 70 (0,0))) (hr:Kd.C (Kd.slice 9 Kd.string) w B0 ss.length ss) (hb:b < ss.length) (hl:(ss.getD b []).length ≤ 4000000000) (ho:OrdK (ss.getD b [])) :
  Calls Try.prog 107 #[.string key,.pointer (some ⟨gs,0,none⟩),.pointer (some ⟨gc,0,none⟩)] w fun e w'=>e = .returned (.bool (!inB (ss.getD b []) key))∧Below w.heap.size w w':=by
 obtain ⟨ad,A1,c1,rfl,hx,k1,g1⟩:=row_at hr b hb;have HIN:=Sd.mk (fun m=>in_quiet A1 c1 (ss.getD b []) key (w.drewN m) (Kd.C_drewN g1 m) k1 hl ho);have a0:w.cell? ⟨gs,0,none⟩=some (.slice (some ad) ss.length d0):=(blk_cell hs 0).trans rfl;have a3:w.cell? ⟨gc,3,none⟩=some (.int .i64 (b:Int)):=(blk_cell hc 3).trans rfl;have q:((b:Int) < (ss.length:Int))=True:=eq_true (by omega);clear hs hc hr hb hl ho k1 g1;generalize (ss.getD b []).length=n1 at *;generalize inB (ss.getD b []) key=r at *;generalize ss.length=n at *;go_enter Try.func107,Try.ntmps107;go_wp2_with fail;refine (HIN.out 0).mono ?_;rintro e w1 ⟨rfl,m,rfl⟩;go_wp2_with fail;go_ret;exact ⟨rfl,pw_below_drewN (Below.refl _ _) _⟩
set_option maxHeartbeats 4000000 in
set_option maxRecDepth 100000 in
theorem holds2_call (gs gc:Nat) (B0:Option Addr) (d0:Nat) (ss:List (List ByteArray)) (v1 q0 q1 q2 q4:Value) (b:Nat) (key:ByteArray) (w:World) (hs:w.heap[gs]? = some (.cells #[.slice B0 ss.length d0,v1] 46 (0,0))) (hc:w.heap[gc]? = some (.cells #[q0,q1,q2,.int .i64 (b:Int),q4] 70 (0,0))) (hr:Kd.C (Kd.slice 9 Kd.string) w B0 ss.length ss) (hb:b < ss.length) (hl:(ss.getD b []).length ≤ 4000000000) (ho:OrdK (ss.getD b [])) :
  Calls Try.prog 109 #[.string key,.pointer (some ⟨gs,0,none⟩),.pointer (some ⟨gc,0,none⟩)] w fun e w'=>e = .returned (.bool (inB (ss.getD b []) key))∧Below w.heap.size w w':=by
 obtain ⟨ad,A1,c1,rfl,hx,k1,g1⟩:=row_at hr b hb;have HIN:=Sd.mk (fun m=>in_quiet A1 c1 (ss.getD b []) key (w.drewN m) (Kd.C_drewN g1 m) k1 hl ho);have a0:w.cell? ⟨gs,0,none⟩=some (.slice (some ad) ss.length d0):=(blk_cell hs 0).trans rfl;have a3:w.cell? ⟨gc,3,none⟩=some (.int .i64 (b:Int)):=(blk_cell hc 3).trans rfl;have q:((b:Int) < (ss.length:Int))=True:=eq_true (by omega);clear hs hc hr hb hl ho k1 g1;generalize (ss.getD b []).length=n1 at *;generalize inB (ss.getD b []) key=r at *;generalize ss.length=n at *;go_enter Try.func109,Try.ntmps109;go_wp2_with fail;refine (HIN.out 0).mono ?_;rintro e w1 ⟨rfl,m,rfl⟩;go_wp2_with fail;go_ret;exact ⟨rfl,pw_below_drewN (Below.refl _ _) _⟩
set_option maxHeartbeats 4000000 in
set_option maxRecDepth 100000 in
theorem holds3_call (gc:Nat) (q0 q1 q2 q3:Value) (N:Int) (x:Ce) (w:World) (hc:w.heap[gc]? = some (.cells #[q0,q1,q2,q3,.int .i64 N] 70 (0,0))) :
  Calls Try.prog 111 #[.agg #[.string x.f0,.int .i64 x.f1],.pointer (some ⟨gc,0,none⟩)] w fun e w'=>e = .returned (.bool (decide ((N:Int) < x.f1)))∧Below w.heap.size w w':=by
 have HC:=Sd.mk hc;clear hc;go_enter Try.func111,Try.ntmps111;go_upto_region 1 with (((with_reducible refine gate_dst (N:=2) rfl ?_);refine box_event ?hg (N:=2) ?hd (cs:=#[.string x.f0,.int .i64 x.f1]) (t:=135) ?hr ?_;(case hd=>rfl);(case hg=>rfl);(case hr=>first|(go_simp;done)|(go_simp;rfl));intro g hg w3 hbox hb;have HB:=Sd.mk hb;have BK:=Sd.mk hbox;have BC:=Sd.mk (blk_below HC.out hb);clear hb hbox hg));have a1:w3.cell? ⟨g,1,none⟩=some (.int .i64 x.f1):=(blk_cell BK.out 1).trans rfl;have a4:w3.cell? ⟨gc,4,none⟩=some (.int .i64 N):=(blk_cell BC.out 4).trans rfl;go_wp2_with fail;go_ret;exact ⟨rfl,HB.out⟩
set_option maxHeartbeats 4000000 in
set_option maxRecDepth 100000 in
theorem holds4_call (gc:Nat) (q0 q1 q2 q3:Value) (N:Int) (x:Ce) (w:World) (hc:w.heap[gc]? = some (.cells #[q0,q1,q2,q3,.int .i64 N] 70 (0,0))) :
  Calls Try.prog 112 #[.agg #[.string x.f0,.int .i64 x.f1],.pointer (some ⟨gc,0,none⟩)] w fun e w'=>e = .returned (.bool (decide (x.f1 < N)))∧Below w.heap.size w w':=by
 have HC:=Sd.mk hc;clear hc;go_enter Try.func112,Try.ntmps112;go_upto_region 1 with (((with_reducible refine gate_dst (N:=2) rfl ?_);refine box_event ?hg (N:=2) ?hd (cs:=#[.string x.f0,.int .i64 x.f1]) (t:=135) ?hr ?_;(case hd=>rfl);(case hg=>rfl);(case hr=>first|(go_simp;done)|(go_simp;rfl));intro g hg w3 hbox hb;have HB:=Sd.mk hb;have BK:=Sd.mk hbox;have BC:=Sd.mk (blk_below HC.out hb);clear hb hbox hg));have a1:w3.cell? ⟨g,1,none⟩=some (.int .i64 x.f1):=(blk_cell BK.out 1).trans rfl;have a4:w3.cell? ⟨gc,4,none⟩=some (.int .i64 N):=(blk_cell BC.out 4).trans rfl;go_wp2_with fail;go_ret;exact ⟨rfl,HB.out⟩
set_option maxHeartbeats 4000000 in
set_option maxRecDepth 100000 in
theorem holds5_call (gs gc:Nat) (B0:Option Addr) (d0:Nat) (ss:List (List ByteArray)) (v1 q0 q1 q2 q4:Value) (b:Nat) (x:Ce) (w:World) (hs:w.heap[gs]? = some (.cells #[.slice B0 ss.length d0,v1] 46 (0,0))) (hc:w.heap[gc]? = some (.cells #[q0,q1,q2,.int .i64 (b:Int),q4] 70 (0,0))) (hr:Kd.C (Kd.slice 9 Kd.string) w B0 ss.length ss) (hb:b < ss.length) (hl:(ss.getD b []).length ≤ 4000000000) (ho:OrdK (ss.getD b [])) :
  Calls Try.prog 113 #[.agg #[.string x.f0,.int .i64 x.f1],.pointer (some ⟨gs,0,none⟩),.pointer (some ⟨gc,0,none⟩)] w fun e w'=>e = .returned (.bool (decide (0 < x.f1) && !inB (ss.getD b []) x.f0))∧Below w.heap.size w w':=by
 have HS:=Sd.mk hs;have HC:=Sd.mk hc;have HR:=Sd.mk hr;have HIN:=Sd.mk (fun w' A1 c1 (h1:Kd.C Kd.string w' A1 (ss.getD b []).length (ss.getD b [])) k1=>in_quiet A1 c1 (ss.getD b []) x.f0 w' h1 k1 hl ho);have HLT:=Sd.mk hb;clear hs hc hr hl ho;generalize inB (ss.getD b []) x.f0=r at *;go_enter Try.func113,Try.ntmps113;go_upto_region 1 with (((with_reducible refine gate_dst (N:=3) rfl ?_);refine box_event ?hg (N:=3) ?hd (cs:=#[.string x.f0,.int .i64 x.f1]) (t:=135) ?hr ?_;(case hd=>rfl);(case hg=>rfl);(case hr=>first|(go_simp;done)|(go_simp;rfl));intro g hg w3 hbox hb3;have HB:=Sd.mk hb3;have BK:=Sd.mk hbox;have BC:=Sd.mk (blk_below HC.out hb3);have BS:=Sd.mk (blk_below HS.out hb3);have HR3:=Sd.mk (Kd.C_below HR.out hb3);clear hb3 hbox hg));obtain ⟨ad,A1,c1,rfl,hx,k1,g1⟩:=row_at HR3.out b hb;have HIQ:=Sd.mk (fun m=>HIN.out (w3.drewN m) A1 c1 (Kd.C_drewN g1 m) k1);have a0:w3.cell? ⟨gs,0,none⟩=some (.slice (some ad) ss.length d0):=(blk_cell BS.out 0).trans rfl;have a3:w3.cell? ⟨gc,3,none⟩=some (.int .i64 (b:Int)):=(blk_cell BC.out 3).trans rfl;obtain ⟨b0,b1⟩:=bc2 BK.out;have q:((b:Int) < (ss.length:Int))=True:=eq_true (by omega);clear hb k1 g1 HS HC HR HIN HR3 BS BC HLT;generalize (ss.getD b []).length=n1 at *;generalize ss.length=n at *;by_cases hp:0 < x.f1
 ·have hp':decide (0 < x.f1)=true:=decide_eq_true hp;clear hp;go_quiet (first|(go_at_call 108;refine Calls.quiet_of (HIQ.out _)));go_wp2_with fail;go_ret;exact ⟨by rw [hp'];rfl,pw_below_drewN HB.out _⟩
 ·have hp':decide (0 < x.f1)=false:=decide_eq_false hp;clear hp;go_quiet (first|(go_at_call 108;refine Calls.quiet_of (HIQ.out _)));go_wp2_with fail;go_ret;exact ⟨by rw [hp'];rfl,pw_below_drewN HB.out _⟩
def holdsB (ss:List (List ByteArray)) (cs:List (List Ce)) (c:Cl):Bool :=
 if c.f0=4 then !(ss.getD c.f2.toNat []).any (fun k=>!inB (ss.getD c.f3.toNat []) k)
 else if c.f0=5 then !(ss.getD c.f2.toNat []).any (fun k=>inB (ss.getD c.f3.toNat []) k)
 else if c.f0=6 then decide (((ss.getD c.f2.toNat []).length:Int) ≤ c.f4)
 else if c.f0=7 then !(cs.getD c.f2.toNat []).any (fun x=>decide (c.f4 < x.f1))
 else if c.f0=8 then !(cs.getD c.f2.toNat []).any (fun x=>decide (x.f1 < c.f4))
 else !(cs.getD c.f2.toNat []).any (fun x=>decide (0 < x.f1) && !inB (ss.getD c.f3.toNat []) x.f0)
def inR (i:Int) (n:Nat):Prop:=0 ≤ i∧i < (n:Int)
instance (i:Int) (n:Nat):Decidable (inR i n):=by unfold inR;infer_instance
def HoldsOk (ss:List (List ByteArray)) (cs:List (List Ce)) (c:Cl):Prop :=
 StOk ss cs∧(∀ l ∈ ss,OrdK l)∧((c.f0=4∧inR c.f2 ss.length∧inR c.f3 ss.length) ∨ (c.f0=5∧inR c.f2 ss.length∧inR c.f3 ss.length) ∨ (c.f0=6∧inR c.f2 ss.length) ∨ (c.f0=7∧inR c.f2 cs.length) ∨ (c.f0=8∧inR c.f2 cs.length) ∨ (c.f0=9∧inR c.f2 cs.length∧inR c.f3 ss.length))
instance (ss:List (List ByteArray)) (cs:List (List Ce)) (c:Cl):Decidable (HoldsOk ss cs c):=by unfold HoldsOk;infer_instance
theorem getD_at {α:Type} (l:List α) (z:α) (p:Nat) (h:p < l.length):l.getD p z ∈ l:=by simp [List.getD,h]
set_option maxHeartbeats 8000000 in
set_option maxRecDepth 100000 in
theorem holds_k4 (B0:Option Addr) (d0:Nat) (ss:List (List ByteArray)) (B1:Option Addr) (d1:Nat) (cs:List (List Ce)) (f1:Bool) (a b:Nat) (N:Int) (w:World)
  (hr0:Kd.C (Kd.slice 9 Kd.string) w B0 ss.length ss) (hr1:Kd.C (Kd.slice 135 k135) w B1 cs.length cs) (hok:StOk ss cs) (ho:∀ l ∈ ss,OrdK l) (ha:a < ss.length) (hb:b < ss.length) :
  Calls Try.prog 64 #[.agg #[.slice B0 ss.length d0,.slice B1 cs.length d1],.agg #[.int .i64 4,.bool f1,.int .i64 (a:Int),.int .i64 (b:Int),.int .i64 N]] w fun e w'=>e = .returned (.bool (!(ss.getD a []).any (fun k=>!inB (ss.getD b []) k)))∧Below w.heap.size w w':=by
 (have hmf:∀ (fn:Fn) (first cap:Array Value) (w:World),(Instr.makeFunc fn first cap).run Try.prog w = .ok (.func fn first cap) w:=fun _ _ _ _=>rfl);have HR0:=Sd.mk hr0;have HR1:=Sd.mk hr1;clear hr0 hr1;generalize hR:((ss.getD a []).any (fun k=>!inB (ss.getD b []) k))=r;have HRR:=Sd.mk hR;clear hR;go_enter Try.func64,Try.ntmps64;go_upto_region 1 with (first|((with_reducible refine gate_dst (N:=2) rfl ?_);refine box_event ?hg (N:=2) ?hd (cs:=#[.slice B0 ss.length d0,.slice B1 cs.length d1]) (t:=46) ?hr ?_;(case hd=>rfl);(case hg=>rfl);(case hr=>first|(go_simp;done)|(go_simp;rfl));intro g hg w3 hbox hb3;have HB:=Sd.mk hb3;have BK:=Sd.mk hbox;clear hb3 hbox hg)|((with_reducible refine gate_dst (N:=3) rfl ?_);refine box_event ?hg (N:=3) ?hd (cs:=#[.int .i64 4,.bool f1,.int .i64 (a:Int),.int .i64 (b:Int),.int .i64 N]) (t:=70) ?hr ?_;(case hd=>rfl);(case hg=>rfl);(case hr=>first|(go_simp;done)|(go_simp;rfl));intro g2 hg w4 hbox hb3;have HB2:=Sd.mk (below_step HB.out hb3);have BK1:=Sd.mk (blk_below BK.out hb3);have BK2:=Sd.mk hbox;clear hb3 hbox hg));obtain ⟨ha0,ha1⟩:=bc2 BK1.out;have hc0:w4.cell? ⟨g2,0,none⟩=some (.int .i64 4):=(blk_cell BK2.out 0).trans rfl;have hc2:w4.cell? ⟨g2,2,none⟩=some (.int .i64 (a:Int)):=(blk_cell BK2.out 2).trans rfl;have hc4:w4.cell? ⟨g2,4,none⟩=some (.int .i64 N):=(blk_cell BK2.out 4).trans rfl;obtain ⟨ad,A5,c5,rfl,hx,k5,g5⟩:=row_at (Kd.C_below HR0.out HB2.out) a ha;have q:((a:Int) < (ss.length:Int))=True:=eq_true (by omega);have HCF:Sd (Calls Try.prog 106 #[.slice A5 (ss.getD a []).length c5,.func (.func 107) #[] #[.pointer (some ⟨g,0,none⟩),.pointer (some ⟨g2,0,none⟩)]] w4 fun e w''=>e = .returned (.bool ((ss.getD a []).any (fun k=>!inB (ss.getD b []) k)))∧Below w4.heap.size w4 w'') :=
  ⟨hasFStr2 _ _ _ enter_holds1 _ A5 c5 _ w4 g5 k5 (hok.2.1 _ (getD_at ss [] a ha)) (fun x hx2 v hv w5 hb5=>by
   cases hv
   exact holds1_call g g2 (some ad) d0 ss _ _ _ _ _ b x w5 (blk_below BK1.out hb5) (blk_below BK2.out hb5) (Kd.C_below HR0.out (below_step HB2.out hb5)) hb (hok.2.1 _ (getD_at ss [] b hb)) (ho _ (getD_at ss [] b hb)))⟩
 rw [HRR.out] at HCF;clear HRR;clear ha g5 k5 hok ho HR0 HR1 hb;generalize (ss.getD a []).length=n5 at *;generalize ss.length=n0 at *;generalize cs.length=n1 at *;go_wp2_with fail;refine HCF.out.mono ?_;rintro e w5 ⟨rfl,hb5⟩;have HB5:=Sd.mk (below_step HB2.out hb5);clear hb5;go_wp2_with fail;go_ret;exact ⟨rfl,HB5.out⟩
set_option maxHeartbeats 8000000 in
set_option maxRecDepth 100000 in
theorem holds_k5 (B0:Option Addr) (d0:Nat) (ss:List (List ByteArray)) (B1:Option Addr) (d1:Nat) (cs:List (List Ce)) (f1:Bool) (a b:Nat) (N:Int) (w:World)
  (hr0:Kd.C (Kd.slice 9 Kd.string) w B0 ss.length ss) (hr1:Kd.C (Kd.slice 135 k135) w B1 cs.length cs) (hok:StOk ss cs) (ho:∀ l ∈ ss,OrdK l) (ha:a < ss.length) (hb:b < ss.length) :
  Calls Try.prog 64 #[.agg #[.slice B0 ss.length d0,.slice B1 cs.length d1],.agg #[.int .i64 5,.bool f1,.int .i64 (a:Int),.int .i64 (b:Int),.int .i64 N]] w fun e w'=>e = .returned (.bool (!(ss.getD a []).any (fun k=>inB (ss.getD b []) k)))∧Below w.heap.size w w':=by
 (have hmf:∀ (fn:Fn) (first cap:Array Value) (w:World),(Instr.makeFunc fn first cap).run Try.prog w = .ok (.func fn first cap) w:=fun _ _ _ _=>rfl);have HR0:=Sd.mk hr0;have HR1:=Sd.mk hr1;clear hr0 hr1;generalize hR:((ss.getD a []).any (fun k=>inB (ss.getD b []) k))=r;have HRR:=Sd.mk hR;clear hR;go_enter Try.func64,Try.ntmps64;go_upto_region 1 with (first|((with_reducible refine gate_dst (N:=2) rfl ?_);refine box_event ?hg (N:=2) ?hd (cs:=#[.slice B0 ss.length d0,.slice B1 cs.length d1]) (t:=46) ?hr ?_;(case hd=>rfl);(case hg=>rfl);(case hr=>first|(go_simp;done)|(go_simp;rfl));intro g hg w3 hbox hb3;have HB:=Sd.mk hb3;have BK:=Sd.mk hbox;clear hb3 hbox hg)|((with_reducible refine gate_dst (N:=3) rfl ?_);refine box_event ?hg (N:=3) ?hd (cs:=#[.int .i64 5,.bool f1,.int .i64 (a:Int),.int .i64 (b:Int),.int .i64 N]) (t:=70) ?hr ?_;(case hd=>rfl);(case hg=>rfl);(case hr=>first|(go_simp;done)|(go_simp;rfl));intro g2 hg w4 hbox hb3;have HB2:=Sd.mk (below_step HB.out hb3);have BK1:=Sd.mk (blk_below BK.out hb3);have BK2:=Sd.mk hbox;clear hb3 hbox hg));obtain ⟨ha0,ha1⟩:=bc2 BK1.out;have hc0:w4.cell? ⟨g2,0,none⟩=some (.int .i64 5):=(blk_cell BK2.out 0).trans rfl;have hc2:w4.cell? ⟨g2,2,none⟩=some (.int .i64 (a:Int)):=(blk_cell BK2.out 2).trans rfl;have hc4:w4.cell? ⟨g2,4,none⟩=some (.int .i64 N):=(blk_cell BK2.out 4).trans rfl;obtain ⟨ad,A5,c5,rfl,hx,k5,g5⟩:=row_at (Kd.C_below HR0.out HB2.out) a ha;have q:((a:Int) < (ss.length:Int))=True:=eq_true (by omega);have HCF:Sd (Calls Try.prog 106 #[.slice A5 (ss.getD a []).length c5,.func (.func 109) #[] #[.pointer (some ⟨g,0,none⟩),.pointer (some ⟨g2,0,none⟩)]] w4 fun e w''=>e = .returned (.bool ((ss.getD a []).any (fun k=>inB (ss.getD b []) k)))∧Below w4.heap.size w4 w'') :=
  ⟨hasFStr2 _ _ _ enter_holds2 _ A5 c5 _ w4 g5 k5 (hok.2.1 _ (getD_at ss [] a ha)) (fun x hx2 v hv w5 hb5=>by
   cases hv
   exact holds2_call g g2 (some ad) d0 ss _ _ _ _ _ b x w5 (blk_below BK1.out hb5) (blk_below BK2.out hb5) (Kd.C_below HR0.out (below_step HB2.out hb5)) hb (hok.2.1 _ (getD_at ss [] b hb)) (ho _ (getD_at ss [] b hb)))⟩
 rw [HRR.out] at HCF;clear HRR;clear ha g5 k5 hok ho HR0 HR1 hb;generalize (ss.getD a []).length=n5 at *;generalize ss.length=n0 at *;generalize cs.length=n1 at *;go_wp2_with fail;refine HCF.out.mono ?_;rintro e w5 ⟨rfl,hb5⟩;have HB5:=Sd.mk (below_step HB2.out hb5);clear hb5;go_wp2_with fail;go_ret;exact ⟨rfl,HB5.out⟩
set_option maxHeartbeats 8000000 in
set_option maxRecDepth 100000 in
theorem holds_k6 (B0:Option Addr) (d0:Nat) (ss:List (List ByteArray)) (B1:Option Addr) (d1:Nat) (cs:List (List Ce)) (f1:Bool) (a:Nat) (b N:Int) (w:World)
  (hr0:Kd.C (Kd.slice 9 Kd.string) w B0 ss.length ss) (hr1:Kd.C (Kd.slice 135 k135) w B1 cs.length cs) (hok:StOk ss cs) (ho:∀ l ∈ ss,OrdK l) (ha:a < ss.length) :
  Calls Try.prog 64 #[.agg #[.slice B0 ss.length d0,.slice B1 cs.length d1],.agg #[.int .i64 6,.bool f1,.int .i64 (a:Int),.int .i64 b,.int .i64 N]] w fun e w'=>e = .returned (.bool (decide (((ss.getD a []).length:Int) ≤ N)))∧Below w.heap.size w w':=by
 (have hmf:∀ (fn:Fn) (first cap:Array Value) (w:World),(Instr.makeFunc fn first cap).run Try.prog w = .ok (.func fn first cap) w:=fun _ _ _ _=>rfl);have HR0:=Sd.mk hr0;have HR1:=Sd.mk hr1;clear hr0 hr1;generalize hR:(decide (((ss.getD a []).length:Int) ≤ N))=r;have HRR:=Sd.mk hR;clear hR;go_enter Try.func64,Try.ntmps64;go_upto_region 1 with (first|((with_reducible refine gate_dst (N:=2) rfl ?_);refine box_event ?hg (N:=2) ?hd (cs:=#[.slice B0 ss.length d0,.slice B1 cs.length d1]) (t:=46) ?hr ?_;(case hd=>rfl);(case hg=>rfl);(case hr=>first|(go_simp;done)|(go_simp;rfl));intro g hg w3 hbox hb3;have HB:=Sd.mk hb3;have BK:=Sd.mk hbox;clear hb3 hbox hg)|((with_reducible refine gate_dst (N:=3) rfl ?_);refine box_event ?hg (N:=3) ?hd (cs:=#[.int .i64 6,.bool f1,.int .i64 (a:Int),.int .i64 b,.int .i64 N]) (t:=70) ?hr ?_;(case hd=>rfl);(case hg=>rfl);(case hr=>first|(go_simp;done)|(go_simp;rfl));intro g2 hg w4 hbox hb3;have HB2:=Sd.mk (below_step HB.out hb3);have BK1:=Sd.mk (blk_below BK.out hb3);have BK2:=Sd.mk hbox;clear hb3 hbox hg));obtain ⟨ha0,ha1⟩:=bc2 BK1.out;have hc0:w4.cell? ⟨g2,0,none⟩=some (.int .i64 6):=(blk_cell BK2.out 0).trans rfl;have hc2:w4.cell? ⟨g2,2,none⟩=some (.int .i64 (a:Int)):=(blk_cell BK2.out 2).trans rfl;have hc4:w4.cell? ⟨g2,4,none⟩=some (.int .i64 N):=(blk_cell BK2.out 4).trans rfl;obtain ⟨ad,A5,c5,rfl,hx,k5,g5⟩:=row_at (Kd.C_below HR0.out HB2.out) a ha;have q:((a:Int) < (ss.length:Int))=True:=eq_true (by omega);clear ha g5 k5 hok ho HR0 HR1;generalize (ss.getD a []).length=n5 at *;generalize ss.length=n0 at *;generalize cs.length=n1 at *;by_cases hle:(n5:Int) ≤ N
 ·have hd:decide ((n5:Int) ≤ N)=true:=decide_eq_true hle;clear hle;go_wp2_with fail;go_quiet (fail);go_wp2_with fail;go_ret;exact ⟨by rw [← HRR.out,hd];rfl,pw_below_drewN HB2.out _⟩
 ·have hd:decide ((n5:Int) ≤ N)=false:=decide_eq_false hle;clear hle;go_wp2_with fail;go_quiet (fail);go_wp2_with fail;go_ret;exact ⟨by rw [← HRR.out,hd];rfl,pw_below_drewN HB2.out _⟩
set_option maxHeartbeats 8000000 in
set_option maxRecDepth 100000 in
theorem holds_k7 (B0:Option Addr) (d0:Nat) (ss:List (List ByteArray)) (B1:Option Addr) (d1:Nat) (cs:List (List Ce)) (f1:Bool) (a:Nat) (b N:Int) (w:World)
  (hr0:Kd.C (Kd.slice 9 Kd.string) w B0 ss.length ss) (hr1:Kd.C (Kd.slice 135 k135) w B1 cs.length cs) (hok:StOk ss cs) (ho:∀ l ∈ ss,OrdK l) (ha:a < cs.length) :
  Calls Try.prog 64 #[.agg #[.slice B0 ss.length d0,.slice B1 cs.length d1],.agg #[.int .i64 7,.bool f1,.int .i64 (a:Int),.int .i64 b,.int .i64 N]] w fun e w'=>e = .returned (.bool (!(cs.getD a []).any (fun x=>decide (N < x.f1))))∧Below w.heap.size w w':=by
 (have hmf:∀ (fn:Fn) (first cap:Array Value) (w:World),(Instr.makeFunc fn first cap).run Try.prog w = .ok (.func fn first cap) w:=fun _ _ _ _=>rfl);have HR0:=Sd.mk hr0;have HR1:=Sd.mk hr1;clear hr0 hr1;generalize hR:((cs.getD a []).any (fun x=>decide (N < x.f1)))=r;have HRR:=Sd.mk hR;clear hR;go_enter Try.func64,Try.ntmps64;go_upto_region 1 with (first|((with_reducible refine gate_dst (N:=2) rfl ?_);refine box_event ?hg (N:=2) ?hd (cs:=#[.slice B0 ss.length d0,.slice B1 cs.length d1]) (t:=46) ?hr ?_;(case hd=>rfl);(case hg=>rfl);(case hr=>first|(go_simp;done)|(go_simp;rfl));intro g hg w3 hbox hb3;have HB:=Sd.mk hb3;have BK:=Sd.mk hbox;clear hb3 hbox hg)|((with_reducible refine gate_dst (N:=3) rfl ?_);refine box_event ?hg (N:=3) ?hd (cs:=#[.int .i64 7,.bool f1,.int .i64 (a:Int),.int .i64 b,.int .i64 N]) (t:=70) ?hr ?_;(case hd=>rfl);(case hg=>rfl);(case hr=>first|(go_simp;done)|(go_simp;rfl));intro g2 hg w4 hbox hb3;have HB2:=Sd.mk (below_step HB.out hb3);have BK1:=Sd.mk (blk_below BK.out hb3);have BK2:=Sd.mk hbox;clear hb3 hbox hg));obtain ⟨ha0,ha1⟩:=bc2 BK1.out;have hc0:w4.cell? ⟨g2,0,none⟩=some (.int .i64 7):=(blk_cell BK2.out 0).trans rfl;have hc2:w4.cell? ⟨g2,2,none⟩=some (.int .i64 (a:Int)):=(blk_cell BK2.out 2).trans rfl;have hc4:w4.cell? ⟨g2,4,none⟩=some (.int .i64 N):=(blk_cell BK2.out 4).trans rfl;obtain ⟨ad,A5,c5,rfl,hx,k5,g5⟩:=rowc_at (Kd.C_below HR1.out HB2.out) a ha;have q:((a:Int) < (cs.length:Int))=True:=eq_true (by omega);have HCF:Sd (Calls Try.prog 110 #[.slice A5 (cs.getD a []).length c5,.func (.func 111) #[] #[.pointer (some ⟨g2,0,none⟩)]] w4 fun e w''=>e = .returned (.bool ((cs.getD a []).any (fun x=>decide (N < x.f1))))∧Below w4.heap.size w4 w'') :=
  ⟨hasFCell1 _ _ enter_holds3 _ A5 c5 _ w4 g5 k5 (hok.2.2 _ (getD_at cs [] a ha)) (fun x hx2 v hv w5 hb5=>by
   cases hv
   exact holds3_call g2 _ _ _ _ N x w5 (blk_below BK2.out hb5))⟩
 rw [HRR.out] at HCF;clear HRR;clear ha g5 k5 hok ho HR0 HR1;generalize (cs.getD a []).length=n5 at *;generalize ss.length=n0 at *;generalize cs.length=n1 at *;go_wp2_with fail;refine HCF.out.mono ?_;rintro e w5 ⟨rfl,hb5⟩;have HB5:=Sd.mk (below_step HB2.out hb5);clear hb5;go_wp2_with fail;go_ret;exact ⟨rfl,HB5.out⟩
set_option maxHeartbeats 8000000 in
set_option maxRecDepth 100000 in
theorem holds_k8 (B0:Option Addr) (d0:Nat) (ss:List (List ByteArray)) (B1:Option Addr) (d1:Nat) (cs:List (List Ce)) (f1:Bool) (a:Nat) (b N:Int) (w:World)
  (hr0:Kd.C (Kd.slice 9 Kd.string) w B0 ss.length ss) (hr1:Kd.C (Kd.slice 135 k135) w B1 cs.length cs) (hok:StOk ss cs) (ho:∀ l ∈ ss,OrdK l) (ha:a < cs.length) :
  Calls Try.prog 64 #[.agg #[.slice B0 ss.length d0,.slice B1 cs.length d1],.agg #[.int .i64 8,.bool f1,.int .i64 (a:Int),.int .i64 b,.int .i64 N]] w fun e w'=>e = .returned (.bool (!(cs.getD a []).any (fun x=>decide (x.f1 < N))))∧Below w.heap.size w w':=by
 (have hmf:∀ (fn:Fn) (first cap:Array Value) (w:World),(Instr.makeFunc fn first cap).run Try.prog w = .ok (.func fn first cap) w:=fun _ _ _ _=>rfl);have HR0:=Sd.mk hr0;have HR1:=Sd.mk hr1;clear hr0 hr1;generalize hR:((cs.getD a []).any (fun x=>decide (x.f1 < N)))=r;have HRR:=Sd.mk hR;clear hR;go_enter Try.func64,Try.ntmps64;go_upto_region 1 with (first|((with_reducible refine gate_dst (N:=2) rfl ?_);refine box_event ?hg (N:=2) ?hd (cs:=#[.slice B0 ss.length d0,.slice B1 cs.length d1]) (t:=46) ?hr ?_;(case hd=>rfl);(case hg=>rfl);(case hr=>first|(go_simp;done)|(go_simp;rfl));intro g hg w3 hbox hb3;have HB:=Sd.mk hb3;have BK:=Sd.mk hbox;clear hb3 hbox hg)|((with_reducible refine gate_dst (N:=3) rfl ?_);refine box_event ?hg (N:=3) ?hd (cs:=#[.int .i64 8,.bool f1,.int .i64 (a:Int),.int .i64 b,.int .i64 N]) (t:=70) ?hr ?_;(case hd=>rfl);(case hg=>rfl);(case hr=>first|(go_simp;done)|(go_simp;rfl));intro g2 hg w4 hbox hb3;have HB2:=Sd.mk (below_step HB.out hb3);have BK1:=Sd.mk (blk_below BK.out hb3);have BK2:=Sd.mk hbox;clear hb3 hbox hg));obtain ⟨ha0,ha1⟩:=bc2 BK1.out;have hc0:w4.cell? ⟨g2,0,none⟩=some (.int .i64 8):=(blk_cell BK2.out 0).trans rfl;have hc2:w4.cell? ⟨g2,2,none⟩=some (.int .i64 (a:Int)):=(blk_cell BK2.out 2).trans rfl;have hc4:w4.cell? ⟨g2,4,none⟩=some (.int .i64 N):=(blk_cell BK2.out 4).trans rfl;obtain ⟨ad,A5,c5,rfl,hx,k5,g5⟩:=rowc_at (Kd.C_below HR1.out HB2.out) a ha;have q:((a:Int) < (cs.length:Int))=True:=eq_true (by omega);have HCF:Sd (Calls Try.prog 110 #[.slice A5 (cs.getD a []).length c5,.func (.func 112) #[] #[.pointer (some ⟨g2,0,none⟩)]] w4 fun e w''=>e = .returned (.bool ((cs.getD a []).any (fun x=>decide (x.f1 < N))))∧Below w4.heap.size w4 w'') :=
  ⟨hasFCell1 _ _ enter_holds4 _ A5 c5 _ w4 g5 k5 (hok.2.2 _ (getD_at cs [] a ha)) (fun x hx2 v hv w5 hb5=>by
   cases hv
   exact holds4_call g2 _ _ _ _ N x w5 (blk_below BK2.out hb5))⟩
 rw [HRR.out] at HCF;clear HRR;clear ha g5 k5 hok ho HR0 HR1;generalize (cs.getD a []).length=n5 at *;generalize ss.length=n0 at *;generalize cs.length=n1 at *;go_wp2_with fail;refine HCF.out.mono ?_;rintro e w5 ⟨rfl,hb5⟩;have HB5:=Sd.mk (below_step HB2.out hb5);clear hb5;go_wp2_with fail;go_ret;exact ⟨rfl,HB5.out⟩
set_option maxHeartbeats 8000000 in
set_option maxRecDepth 100000 in
theorem holds_k9 (B0:Option Addr) (d0:Nat) (ss:List (List ByteArray)) (B1:Option Addr) (d1:Nat) (cs:List (List Ce)) (f1:Bool) (a b:Nat) (N:Int) (w:World)
  (hr0:Kd.C (Kd.slice 9 Kd.string) w B0 ss.length ss) (hr1:Kd.C (Kd.slice 135 k135) w B1 cs.length cs) (hok:StOk ss cs) (ho:∀ l ∈ ss,OrdK l) (ha:a < cs.length) (hb:b < ss.length) :
  Calls Try.prog 64 #[.agg #[.slice B0 ss.length d0,.slice B1 cs.length d1],.agg #[.int .i64 9,.bool f1,.int .i64 (a:Int),.int .i64 (b:Int),.int .i64 N]] w fun e w'=>e = .returned (.bool (!(cs.getD a []).any (fun x=>decide (0 < x.f1) && !inB (ss.getD b []) x.f0)))∧Below w.heap.size w w':=by
 (have hmf:∀ (fn:Fn) (first cap:Array Value) (w:World),(Instr.makeFunc fn first cap).run Try.prog w = .ok (.func fn first cap) w:=fun _ _ _ _=>rfl);have HR0:=Sd.mk hr0;have HR1:=Sd.mk hr1;clear hr0 hr1;generalize hR:((cs.getD a []).any (fun x=>decide (0 < x.f1) && !inB (ss.getD b []) x.f0))=r;have HRR:=Sd.mk hR;clear hR;go_enter Try.func64,Try.ntmps64;go_upto_region 1 with (first|((with_reducible refine gate_dst (N:=2) rfl ?_);refine box_event ?hg (N:=2) ?hd (cs:=#[.slice B0 ss.length d0,.slice B1 cs.length d1]) (t:=46) ?hr ?_;(case hd=>rfl);(case hg=>rfl);(case hr=>first|(go_simp;done)|(go_simp;rfl));intro g hg w3 hbox hb3;have HB:=Sd.mk hb3;have BK:=Sd.mk hbox;clear hb3 hbox hg)|((with_reducible refine gate_dst (N:=3) rfl ?_);refine box_event ?hg (N:=3) ?hd (cs:=#[.int .i64 9,.bool f1,.int .i64 (a:Int),.int .i64 (b:Int),.int .i64 N]) (t:=70) ?hr ?_;(case hd=>rfl);(case hg=>rfl);(case hr=>first|(go_simp;done)|(go_simp;rfl));intro g2 hg w4 hbox hb3;have HB2:=Sd.mk (below_step HB.out hb3);have BK1:=Sd.mk (blk_below BK.out hb3);have BK2:=Sd.mk hbox;clear hb3 hbox hg));obtain ⟨ha0,ha1⟩:=bc2 BK1.out;have hc0:w4.cell? ⟨g2,0,none⟩=some (.int .i64 9):=(blk_cell BK2.out 0).trans rfl;have hc2:w4.cell? ⟨g2,2,none⟩=some (.int .i64 (a:Int)):=(blk_cell BK2.out 2).trans rfl;have hc4:w4.cell? ⟨g2,4,none⟩=some (.int .i64 N):=(blk_cell BK2.out 4).trans rfl;obtain ⟨ad,A5,c5,rfl,hx,k5,g5⟩:=rowc_at (Kd.C_below HR1.out HB2.out) a ha;have q:((a:Int) < (cs.length:Int))=True:=eq_true (by omega);have HCF:Sd (Calls Try.prog 110 #[.slice A5 (cs.getD a []).length c5,.func (.func 113) #[] #[.pointer (some ⟨g,0,none⟩),.pointer (some ⟨g2,0,none⟩)]] w4 fun e w''=>e = .returned (.bool ((cs.getD a []).any (fun x=>decide (0 < x.f1) && !inB (ss.getD b []) x.f0)))∧Below w4.heap.size w4 w'') :=
  ⟨hasFCell2 _ _ _ enter_holds5 _ A5 c5 _ w4 g5 k5 (hok.2.2 _ (getD_at cs [] a ha)) (fun x hx2 v hv w5 hb5=>by
   cases hv
   exact holds5_call g g2 B0 d0 ss _ _ _ _ _ b x w5 (blk_below BK1.out hb5) (blk_below BK2.out hb5) (Kd.C_below HR0.out (below_step HB2.out hb5)) hb (hok.2.1 _ (getD_at ss [] b hb)) (ho _ (getD_at ss [] b hb)))⟩
 rw [HRR.out] at HCF;clear HRR;clear ha g5 k5 hok ho HR0 HR1 hb;generalize (cs.getD a []).length=n5 at *;generalize ss.length=n0 at *;generalize cs.length=n1 at *;go_wp2_with fail;refine HCF.out.mono ?_;rintro e w5 ⟨rfl,hb5⟩;have HB5:=Sd.mk (below_step HB2.out hb5);clear hb5;go_wp2_with fail;go_ret;exact ⟨rfl,HB5.out⟩
def eval_holds.f (ss:List (List ByteArray)) (cs:List (List Ce)) (f0:Int) (f1:Bool) (f2 f3 f4:Int):Option Bool:=if HoldsOk ss cs ⟨f0,f1,f2,f3,f4⟩ then some (holdsB ss cs ⟨f0,f1,f2,f3,f4⟩) else none
theorem eval_holds.calls (B0:Option Addr) (d0:Nat) (ss:List (List ByteArray)) (B1:Option Addr) (d1:Nat) (cs:List (List Ce)) (f0:Int) (f1:Bool) (f2 f3 f4:Int) (r:Bool) (w:World)
  (hr0:Kd.C (Kd.slice 9 Kd.string) w B0 ss.length ss) (_:ss.length ≤ d0) (hr1:Kd.C (Kd.slice 135 k135) w B1 cs.length cs) (_:cs.length ≤ d1) (h:eval_holds.f ss cs f0 f1 f2 f3 f4=some r) :
  Calls Try.prog 64 #[.agg #[.slice B0 ss.length d0,.slice B1 cs.length d1],.agg #[.int .i64 f0,.bool f1,.int .i64 f2,.int .i64 f3,.int .i64 f4]] w fun e w'=>e = .returned (.bool r)∧Below w.heap.size w w':=by
 unfold eval_holds.f at h;split at h
 ·rename_i hok;cases h;obtain ⟨h1,h2,h3⟩:=hok;unfold inR at h3;simp only at h3;rcases h3 with ⟨rfl,ha,hb⟩ | ⟨rfl,ha,hb⟩ | ⟨rfl,ha⟩ | ⟨rfl,ha⟩ | ⟨rfl,ha⟩ | ⟨rfl,ha,hb⟩
  ·obtain ⟨a,rfl⟩:=Int.eq_ofNat_of_zero_le ha.1;obtain ⟨b,rfl⟩:=Int.eq_ofNat_of_zero_le hb.1;exact holds_k4 B0 d0 ss B1 d1 cs f1 a b f4 w hr0 hr1 h1 h2 (by omega) (by omega)
  ·obtain ⟨a,rfl⟩:=Int.eq_ofNat_of_zero_le ha.1;obtain ⟨b,rfl⟩:=Int.eq_ofNat_of_zero_le hb.1;exact holds_k5 B0 d0 ss B1 d1 cs f1 a b f4 w hr0 hr1 h1 h2 (by omega) (by omega)
  ·obtain ⟨a,rfl⟩:=Int.eq_ofNat_of_zero_le ha.1;exact holds_k6 B0 d0 ss B1 d1 cs f1 a f3 f4 w hr0 hr1 h1 h2 (by omega)
  ·obtain ⟨a,rfl⟩:=Int.eq_ofNat_of_zero_le ha.1;exact holds_k7 B0 d0 ss B1 d1 cs f1 a f3 f4 w hr0 hr1 h1 h2 (by omega)
  ·obtain ⟨a,rfl⟩:=Int.eq_ofNat_of_zero_le ha.1;exact holds_k8 B0 d0 ss B1 d1 cs f1 a f3 f4 w hr0 hr1 h1 h2 (by omega)
  ·obtain ⟨a,rfl⟩:=Int.eq_ofNat_of_zero_le ha.1;obtain ⟨b,rfl⟩:=Int.eq_ofNat_of_zero_le hb.1;exact holds_k9 B0 d0 ss B1 d1 cs f1 a b f4 w hr0 hr1 h1 h2 (by omega) (by omega)
 ·cases h
end Go.Proofs.Ytjbjbeihkoeciaa.X
namespace Go
open Go.Maps (Keyed)
open Go.RowKit Go.MapKept
def getF (z:Value):List (Int × Value) → Int → Value
 | [],_=>z
 | (k,v) :: r,o=>if k=o then v else getF z r o
def putF:List (Int × Value) → Int → Value → List (Int × Value)
 | [],o,v=>[(o,v)]
 | (k,u) :: r,o,v=>if k=o then (k,v) :: r else (k,u) :: putF r o v
def findE:List (Int × Value) → Int → Option (Nat × Value)
 | [],_=>none
 | (k,v) :: r,o=>if k=o then some (0,v) else (findE r o).map fun p=>(p.1 + 1,p.2)
theorem getF_none {z:Value}:∀ {fs:List (Int × Value)} {o:Int},findE fs o=none → getF z fs o=z
 | [],_,_=>rfl
 | (k,v) :: r,o,h=>by
  unfold findE at h;unfold getF;split at h
  ·cases h
  ·rename_i hk;rw [if_neg hk];exact getF_none (by simpa using h)
theorem getF_some {z:Value}:∀ {fs:List (Int × Value)} {o:Int} {j:Nat} {v:Value},findE fs o=some (j,v) → getF z fs o=v
 | [],_,_,_,h=>by cases h
 | (k,u) :: r,o,j,v,h=>by
  unfold findE at h;unfold getF;split at h
  ·rename_i hk;cases h;rw [if_pos hk]
  ·rename_i hk;rw [if_neg hk];simp only [Option.map_eq_some_iff] at h;obtain ⟨p,hp,he⟩:=h;cases he;exact getF_some (j:=p.1) (by rw [hp])
theorem putF_none:∀ {fs:List (Int × Value)} {o:Int} (v:Value),findE fs o=none → putF fs o v=fs ++ [(o,v)]
 | [],_,_,_=>rfl
 | (k,u) :: r,o,v,h=>by
  unfold findE at h;unfold putF;split at h
  ·cases h
  ·rename_i hk;rw [if_neg hk,putF_none v (by simpa using h)];rfl
theorem putF_some:∀ {fs:List (Int × Value)} {o:Int} {j:Nat} {u:Value} (v:Value),findE fs o=some (j,u) → putF fs o v=fs.modify j fun p=>(p.1,v)
 | [],_,_,_,_,h=>by cases h
 | (k,u0) :: r,o,j,u,v,h=>by
  unfold findE at h;unfold putF;split at h
  ·rename_i hk;cases h;rw [if_pos hk];rfl
  ·rename_i hk;rw [if_neg hk];simp only [Option.map_eq_some_iff] at h;obtain ⟨p,hp,he⟩:=h;cases he;rw [putF_some (j:=p.1) (u:=p.2) v hp];rfl
theorem findE_key:∀ {fs:List (Int × Value)} {o:Int} {j:Nat} {v:Value},findE fs o=some (j,v) → fs[j]? = some (o,v)
 | [],_,_,_,h=>by cases h
 | (k,u) :: r,o,j,v,h=>by
  unfold findE at h;split at h
  ·rename_i hk;cases h;rw [hk];rfl
  ·simp only [Option.map_eq_some_iff] at h;obtain ⟨p,hp,he⟩:=h;cases he;exact findE_key (j:=p.1) hp
theorem findNow_int (o:Int):∀ (l:List MapEntry) (fs:List (Int × Value)) (i:Nat),l.map (fun e=>(e.key,e.val))=fs.map (fun p=>(Value.int .i64 p.1,p.2)) →
  Instr.findNow (.int .i64) (.int .i64 o) l i=some ((findE fs o).map fun p=>(i + p.1,p.2))
 | [],[],_,_=>rfl
 | [],_ :: _,_,h=>by simp at h
 | _ :: _,[],_,h=>by simp at h
 | e :: l,(k,v) :: fs,i,h=>by
  simp only [List.map_cons,List.cons.injEq,Prod.mk.injEq] at h;obtain ⟨⟨h1,h2⟩,h3⟩:=h;unfold Instr.findNow findE;rw [h1];by_cases hk:k=o
  ·subst hk;simp [Instr.sameNow,h2]
  ·(have hok:(o == k)=false:=by simpa using Ne.symm hk);simp only [Instr.sameNow,if_true,hok,if_neg hk];rw [findNow_int o l fs (i + 1) h3];cases findE fs o with
   | none=>rfl
   | some p=>simp;omega
def IMap (w:World) (b:Nat) (fs:List (Int × Value)):Prop:=∃ es clock,w.heap[b]? = some (.map es clock)∧es.toList.map (fun e=>(e.key,e.val))=fs.map (fun p=>(Value.int .i64 p.1,p.2))
section
variable {P:Program} {k e t:TypeId} {w w':World} {b:Nat} {fs:List (Int × Value)}
theorem IMap.made (w:World):IMap (w.alloc (.map #[] 0)) w.heap.size []:=⟨#[],0,heap_alloc_new w _,rfl⟩
theorem IMap.lt (h:IMap w b fs):b < w.heap.size:=by
 obtain ⟨es,c,h1,_⟩:=h;by_cases hl:b < w.heap.size
 ·exact hl
 ·rw [Array.getElem?_eq_none (by omega)] at h1;cases h1
theorem IMap.of_block (h:IMap w b fs) (hb:w'.heap[b]? = w.heap[b]?):IMap w' b fs:=by
 obtain ⟨es,c,h1,h2⟩:=h;exact ⟨es,c,hb.trans h1,h2⟩
theorem IMap.below (h:IMap w b fs) (hb:Below w.heap.size w w'):IMap w' b fs:=h.of_block (hb.block b h.lt)
theorem IMap.ne_cells (h:IMap w b fs) {g t0:Nat} {c:Array Value} (hg:w.heap[g]? = some (.cells c t0 (0,0))):g ≠ b:=by
 rintro rfl;obtain ⟨es,cl,h1,_⟩:=h;rw [hg] at h1;cases h1
theorem IMap.setCell (h:IMap w b fs) {a:Addr} (ha:b ≠ a.block) (u:Value):IMap (w.setCell a u) b fs:=h.of_block (Below.heap_setCell w a u b ha)
theorem IMap.grown (h:IMap w b fs) {row:Option Nat} (hg:w.grownBy w' row) (hr:some b ≠ row):IMap w' b fs:=h.of_block (hg.block b h.lt hr)
theorem IMap.look (h:IMap w b fs) (ht:P.underlying t=some (.map k e)) (hk:P.underlying k=some (.int .i64)) {z:Value} (hz:(zeroValue e).run P w = .ok z w) (o:Int) :
  (Instr.lookup t (.map (some b)) (.int .i64 o) false).run P w = .ok (getF z fs o) w:=by
 obtain ⟨es,c,h1,h2⟩:=h;have hf:=findNow_int o es.toList fs 0 h2;have hkey:IsKey (.int .i64) (.int .i64 o):=rfl;cases hfe:findE fs o with
 | none =>
  rw [hfe] at hf;rw [getF_none hfe];simp [Instr.lookup,run_underlying ht,MapKept.run_getObj_map h1,MapKept.run_checkKey hk hkey,MapKept.run_findKey hk hf,Result.andThen,hz]
 | some p =>
  rw [hfe] at hf;rw [getF_some (j:=p.1) (v:=p.2) hfe];simp [Instr.lookup,run_underlying ht,MapKept.run_getObj_map h1,MapKept.run_checkKey hk hkey,MapKept.run_findKey hk hf,Result.andThen]
theorem IMap.put (h:IMap w b fs) (ht:P.underlying t=some (.map k e)) (hk:P.underlying k=some (.int .i64)) (o:Int) (v:Value) :
  ∃ w',(Instr.mapUpdate t (.map (some b)) (.int .i64 o) v).run P w = .ok () w'∧IMap w' b (putF fs o v)∧w.grownBy w' (some b)∧∀ j,j ≠ b → w'.heap[j]? = w.heap[j]?:=by
 obtain ⟨es,c,h1,h2⟩:=h;have hf:=findNow_int o es.toList fs 0 h2;have hkey:IsKey (.int .i64) (.int .i64 o):=rfl;(have hgr:∀ ob:Obj,w.grownBy (ChangeMaps.setBlock w b ob) (some b):=fun ob=>⟨rfl,rfl,rfl,by simp [ChangeMaps.setBlock],fun j hj hne=>ChangeMaps.heap_setBlock_other h1 ob (fun e=>hne (by rw [e]))⟩);cases hfe:findE fs o with
 | none =>
  rw [hfe] at hf;refine ⟨ChangeMaps.setBlock w b (.map (es.push ⟨.int .i64 o,v,c⟩) (c + 1)),?_,⟨_,_,ChangeMaps.heap_setBlock_same h1 _,?_⟩,hgr _,fun j hj=>ChangeMaps.heap_setBlock_other h1 _ hj⟩
  ·simp [Instr.mapUpdate,run_underlying ht,MapKept.run_getObj_map h1,MapKept.run_checkKey hk hkey,MapKept.run_findKey hk hf,MapKept.run_setObj_map _ h1,Result.andThen,ChangeMaps.setBlock]
  ·rw [putF_none v hfe];simp [h2]
 | some p =>
  obtain ⟨j,u⟩:=p;rw [hfe] at hf;have hget:=findE_key hfe;have hj:∃ e0,es[j]? = some e0∧e0.key = .int .i64 o:=by
   (have h3:(es.toList.map (fun e=>(e.key,e.val)))[j]? = some (Value.int .i64 o,u):=by rw [h2,List.getElem?_map,hget];rfl);rw [List.getElem?_map,Option.map_eq_some_iff] at h3;obtain ⟨e0,h4,h5⟩:=h3;exact ⟨e0,by simpa using h4,(Prod.mk.inj h5).1⟩
  obtain ⟨e0,hj0,hj1⟩:=hj;refine ⟨ChangeMaps.setBlock w b (.map (es.modify j fun e=>{ e with key:=.int .i64 o,val:=v }) c),?_,⟨_,_,ChangeMaps.heap_setBlock_same h1 _,?_⟩,hgr _,fun j hj=>ChangeMaps.heap_setBlock_other h1 _ hj⟩
  ·simp [Instr.mapUpdate,run_underlying ht,MapKept.run_getObj_map h1,MapKept.run_checkKey hk hkey,MapKept.run_findKey hk hf,hj0,hj1,MapKept.run_keyThatStays hkey,MapKept.run_setObj_map _ h1,Result.andThen,ChangeMaps.setBlock]
  ·rw [putF_some v hfe];apply List.ext_getElem?;intro m;have h3:=congrArg (fun l=>l[m]?) h2;simp only [List.getElem?_map] at h3 ⊢;rw [Array.toList_modify,List.getElem?_modify,List.getElem?_modify];by_cases hm:j=m
   ·subst hm;rw [hget,Array.getElem?_toList,hj0];simp
   ·simp only [if_neg hm];simpa using h3
end
end Go
namespace Go.Proofs.Ytjbjbeihkoeciaa.X
open Go.RowKit Go.Proofs.YtjbjbeihkoeciaaW.PrintWords Go.Proofs.YtjbjbeihkoeciaaW.PrintLast Go.Proofs.YtjbjbeihkoeciaaW.PrintMore
abbrev Sm:=S38
abbrev kSm:=k38
def nilV:Value:=.slice none 0 0
def Keys1 (fs:List (Int × Value)):Prop:=fs.Pairwise fun p q=>p.1 ≠ q.1
theorem mem_putF {fs:List (Int × Value)} (hu:Keys1 fs) {o:Int} {v:Value} {p:Int × Value} (h:p ∈ putF fs o v):p=(o,v) ∨ (p ∈ fs∧p.1 ≠ o):=by
 induction fs with
 | nil=>exact .inl (by simpa [putF] using h)
 | cons a r ih =>
  obtain ⟨k,u⟩:=a;obtain ⟨h1,h2⟩:=List.pairwise_cons.1 hu;unfold putF at h;split at h
  ·rename_i hk;rcases List.mem_cons.1 h with rfl|h
   ·exact .inl (by rw [hk])
   ·exact .inr ⟨List.mem_cons_of_mem _ h,fun e=>h1 p h (hk.trans e.symm)⟩
  ·rename_i hk;rcases List.mem_cons.1 h with rfl|h
   ·exact .inr ⟨List.mem_cons_self,hk⟩
   ·rcases ih h2 h with h | ⟨h,h3⟩
    ·exact .inl h
    ·exact .inr ⟨List.mem_cons_of_mem _ h,h3⟩
theorem putF_keys {fs:List (Int × Value)} (hu:Keys1 fs) (o:Int) (v:Value):Keys1 (putF fs o v):=by
 induction fs with
 | nil=>simp [putF,Keys1]
 | cons a r ih =>
  obtain ⟨k,u⟩:=a;obtain ⟨h1,h2⟩:=List.pairwise_cons.1 hu;unfold putF;split
  ·exact List.pairwise_cons.2 ⟨h1,h2⟩
  ·rename_i hk;refine List.pairwise_cons.2 ⟨fun q hq=>?_,ih h2⟩;rcases mem_putF h2 hq with rfl | ⟨hq,_⟩
   ·exact hk
   ·exact h1 q hq
theorem getF_mem {fs:List (Int × Value)} (hu:Keys1 fs) (z:Value) {p:Int × Value} (h:p ∈ fs):getF z fs p.1=p.2:=by
 induction fs with
 | nil=>cases h
 | cons a r ih =>
  obtain ⟨k,u⟩:=a;obtain ⟨h1,h2⟩:=List.pairwise_cons.1 hu;unfold getF;rcases List.mem_cons.1 h with rfl|h
  ·rw [if_pos rfl]
  ·rw [if_neg (h1 p h)];exact ih h2 h
theorem mem_putF_other {fs:List (Int × Value)} {o:Int} {v:Value} {p:Int × Value} (hp:p ∈ fs) (hk:p.1 ≠ o):p ∈ putF fs o v:=by
 induction fs with
 | nil=>cases hp
 | cons a r ih =>
  obtain ⟨k,u⟩:=a;unfold putF;split
  ·rename_i h;rcases List.mem_cons.1 hp with rfl|hp
   ·exact absurd h hk
   ·exact List.mem_cons_of_mem _ hp
  ·rcases List.mem_cons.1 hp with rfl|hp
   ·exact List.mem_cons_self
   ·exact List.mem_cons_of_mem _ (ih hp)
theorem mem_putF_self (fs:List (Int × Value)) (o:Int) (v:Value):(o,v) ∈ putF fs o v:=by
 induction fs with
 | nil=>simp [putF]
 | cons a r ih =>
  obtain ⟨k,u⟩:=a;unfold putF;split
  ·rename_i h;rw [h];exact List.mem_cons_self
  ·exact List.mem_cons_of_mem _ ih
theorem getF_no (z:Value) {fs:List (Int × Value)} {o:Int} (h:∀ p ∈ fs,p.1 ≠ o):getF z fs o=z:=by
 induction fs with
 | nil=>rfl
 | cons a r ih =>
  obtain ⟨k,u⟩:=a;unfold getF;rw [if_neg (h (k,u) List.mem_cons_self)];exact ih (fun p hp=>h p (List.mem_cons_of_mem _ hp))
def FrOff (fs:List (Int × Value)) (k:Nat):Prop:=∀ p ∈ fs,p.2.ownBlock ≠ some k
structure TabW (w0s:Nat) (W:World) (mb:Nat) (fs:List (Int × Value)) (val:Int → List Bool) (vs:Value) (sts:List Sm):Prop where
 map:IMap W mb fs
 rows:∀ p ∈ fs,Kd.R Kd.bool 4 W w0s (fun _=>True) p.2 (val p.1)
 keys:Keys1 fs
 off:∀ p ∈ fs,∀ q ∈ fs,p.1 ≠ q.1 → ∀ k,p.2.ownBlock=some k → q.2.ownBlock ≠ some k
 void:∀ o,(∀ p ∈ fs,p.1 ≠ o) → val o = []
 sts:Kd.R kSm 38 W w0s (FrOff fs) vs sts
def PendW (w0s:Nat) (W:World) (fs:List (Int × Value)) (vs:Value) (x:Sm) (cs:List Value):Prop:=kSm.M W w0s (fun k=>FrOff fs k∧some k ≠ vs.ownBlock) x cs
def Keep4 (W W':World):Prop:=W.heap.size ≤ W'.heap.size∧∀ (k:Nat) (c:Array Value) (t:Nat),W.heap[k]? = some (Obj.cells c t (0,0)) → t ≠ 4 → W'.heap[k]? = W.heap[k]?
theorem Keep4.refl (W:World):Keep4 W W:=⟨Nat.le_refl _,fun _ _ _ _ _=>rfl⟩
theorem lt_of_some {W:World} {k:Nat} {o:Obj} (h:W.heap[k]? = some o):k < W.heap.size:=by
 by_cases hl:k < W.heap.size
 ·exact hl
 ·rw [Array.getElem?_eq_none (by omega)] at h;cases h
theorem Keep4.trans {W W1 W2:World} (h:Keep4 W W1) (k:Keep4 W1 W2):Keep4 W W2 :=
 ⟨Nat.le_trans h.1 k.1,fun j c t hj ht=>by
  have h1:=h.2 j c t hj ht
  have h2:=k.2 j c t (h1.trans hj) ht
  exact h2.trans h1⟩
theorem Keep4.below {W W1:World} (h:Below W.heap.size W W1):Keep4 W W1:=⟨h.size,fun j c t hj _=>h.block j (lt_of_some hj)⟩
theorem Keep4.cell {W W1:World} (h:Keep4 W W1) {k:Nat} {c:Array Value} {t:Nat} (hk:W.heap[k]? = some (.cells c t (0,0))) (ht:t ≠ 4):W1.heap[k]? = some (.cells c t (0,0)):=(h.2 k c t hk ht).trans hk
theorem Keep4.R {α:Type} {d:Kd α} {e:Nat} {W W1:World} {base:Nat} {ok:Nat → Prop} {v:Value} {xs:List α} (h:Keep4 W W1) (hr:d.R e W base ok v xs) (ht:∀ q,q ∈ e :: d.E → q ≠ 4):d.R e W1 base ok v xs:=by
 refine Kd.R_mono (Kd.R_move (Kd.R_bound hr) (fun k hk=>?_)) (fun k hk=>hk.1);obtain ⟨_,_,_,q,hq,c,hc⟩:=hk;exact h.2 k c q hc (ht q hq)
section
variable {w0s:Nat} {W W1:World} {mb:Nat} {fs:List (Int × Value)} {val:Int → List Bool} {vs:Value} {sts:List Sm}
theorem TabW.below (h:TabW w0s W mb fs val vs sts) (hb:Below W.heap.size W W1):TabW w0s W1 mb fs val vs sts :=
 ⟨h.map.below hb,fun p hp=>Kd.R_below (h.rows p hp) hb,h.keys,h.off,h.void,Kd.R_below h.sts hb⟩
theorem PendW.below {x:Sm} {cs:List Value} (h:PendW w0s W fs vs x cs) (hb:Below W.heap.size W W1):PendW w0s W1 fs vs x cs :=
 kSm.M_mono (fun k hk=>hk.1) (kSm.M_move (fun k hk=>hb.block k hk.2.2.1) (kSm.M_bound h))
theorem TabW.look (h:TabW w0s W mb fs val vs sts) (o:Int):Kd.R Kd.bool 4 W w0s (fun _=>True) (getF nilV fs o) (val o):=by
 by_cases hk:∃ p ∈ fs,p.1=o
 ·obtain ⟨p,hp,rfl⟩:=hk;rw [getF_mem h.keys nilV hp];exact h.rows p hp
 ·(have hno:∀ p ∈ fs,p.1 ≠ o:=fun p hp he=>hk ⟨p,hp,he⟩);rw [getF_no _ hno,h.void o hno];exact Kd.R_nil _ _ _ _ _
theorem TabW.set (h:TabW w0s W mb fs val vs sts) {g t:Nat} {cells:Array Value} (hb:W.heap[g]? = some (.cells cells t (0,0))) (ht:∀ q,q ∈ 38 :: 4 :: kSm.E → q ≠ t) (j:Nat) (u:Value):TabW w0s (W.setCell ⟨g,j,none⟩ u) mb fs val vs sts :=
 ⟨h.map.setCell (by have:=h.map.ne_cells hb;exact fun e=>this e.symm) u,fun p hp=>Kd.R_set (h.rows p hp) hb (fun q hq=>ht q (by
   have:q=4:=by simpa [Kd.bool,Kd.scalar] using hq
   rw [this];exact List.mem_cons_of_mem _ List.mem_cons_self)) j u,h.keys,h.off,h.void,Kd.R_set h.sts hb (fun q hq=>ht q (by
   rcases List.mem_cons.1 hq with rfl|hq
   ·exact List.mem_cons_self
   ·exact List.mem_cons_of_mem _ (List.mem_cons_of_mem _ hq))) j u⟩
theorem own_cells {α:Type} {d:Kd α} {e base:Nat} {ok:Nat → Prop} {v:Value} {xs:List α} (h:d.R e W base ok v xs) (k:Nat) (hk:v.ownBlock=some k):k < W.heap.size∧∃ c,W.heap[k]? = some (.cells c e (0,0)):=⟨Kd.R_lt h k hk,Kd.R_typed h k hk⟩
theorem TabW.put (h:TabW w0s W mb fs val vs sts) (o:Int) (b:Bool) {v1:Value} {W2:World} (h1:Kd.R Kd.bool 4 W1 w0s (fun _=>True) v1 (val o ++ [b])) (hg:W.grownBy W1 (getF nilV fs o).ownBlock)
  (hat:v1.ownBlock=(getF nilV fs o).ownBlock ∨ ∃ k,v1.ownBlock=some k∧W.heap.size ≤ k) (hm:IMap W2 mb (putF fs o v1)) (hj:∀ j,j ≠ mb → W2.heap[j]? = W1.heap[j]?) :
  TabW w0s W2 mb (putF fs o v1) (fun k=>if k=o then val o ++ [b] else val k) vs sts∧(∀ x cs,PendW w0s W fs vs x cs → PendW w0s W2 (putF fs o v1) vs x cs)∧Keep4 W W2:=by
 have hlk:=h.look o;have hst:∀ k c t,W.heap[k]? = some (Obj.cells c t (0,0)) → some k ≠ (getF nilV fs o).ownBlock → W2.heap[k]? = W.heap[k]?:=fun k c t hk hne=>by
  have hkm:k ≠ mb:=by
   rintro rfl;obtain ⟨es,cl,h3,_⟩:=h.map;rw [hk] at h3;cases h3
  rw [hj k hkm];exact hg.block k (lt_of_some hk) hne
 have hv1m:∀ k,v1.ownBlock=some k → k ≠ mb:=fun k hk=>by
  rintro rfl;obtain ⟨c,hc⟩:=Kd.R_typed h1 k hk;obtain ⟨es,cl,h3,_⟩:=h.map;rcases hat with he | ⟨k',hk',hle⟩
  ·obtain ⟨c',hc'⟩:=Kd.R_typed hlk k (by rw [← he];exact hk);rw [hc'] at h3;cases h3
  ·rw [hk] at hk';cases hk';exact absurd (lt_of_some h3) (by omega)
 have hoff:∀ k,k < W.heap.size → FrOff fs k → FrOff (putF fs o v1) k:=fun k hk hf p hp he=>by
  rcases mem_putF h.keys hp with rfl | ⟨hp,_⟩
  ·rcases hat with h2 | ⟨k',hk',hle⟩
   ·(have he':(getF nilV fs o).ownBlock=some k:=by rw [← h2];exact he);by_cases hq:∃ q ∈ fs,q.1=o
    ·obtain ⟨q,hq,rfl⟩:=hq;rw [getF_mem h.keys nilV hq] at he';exact hf q hq he'
    ·rw [getF_no _ (fun q hq2 he2=>hq ⟨q,hq2,he2⟩)] at he';simp [nilV,Value.ownBlock] at he'
   ·rw [he] at hk';cases hk';omega
  ·exact hf p hp he
 (have hput:∀ r ∈ putF fs o v1,(r=(o,v1)) ∨ (r.1 ≠ o∧r ∈ fs):=fun r hr=>(mem_putF h.keys hr).imp id (fun ⟨a,b⟩=>⟨b,a⟩));refine ⟨⟨hm,fun p hp=>?_,putF_keys h.keys o v1,fun p hp q hq hne k hk=>?_,fun k hk=>?_,?_⟩,fun x cs hx=>?_,⟨?_,?_⟩⟩
 ·rcases hput p hp with rfl | ⟨hpo,hp2⟩
  ·simp only [if_true];exact Kd.R_mono (Kd.R_move (Kd.R_flat (ok':=fun k=>v1.ownBlock=some k) (fun hx=>hx) h1 (fun k hk _=>hk)) (fun k hk=>hj k (hv1m k hk))) (fun _ _=>trivial)
  ·simp only [if_neg hpo];refine Kd.R_mono (Kd.R_move (Kd.R_flat (ok':=fun k=>p.2.ownBlock=some k) (fun hx=>hx) (h.rows p hp2) (fun k hk _=>hk)) (fun k hk=>?_)) (fun _ _=>trivial);obtain ⟨hl,c,hc⟩:=own_cells (h.rows p hp2) k hk;refine hst k c _ hc (fun he=>?_);by_cases hq:∃ q ∈ fs,q.1=o
   ·obtain ⟨q,hq,hqo⟩:=hq;rw [← hqo,getF_mem h.keys nilV hq] at he;exact h.off p hp2 q hq (fun e=>hpo (e.trans hqo)) k hk he.symm
   ·rw [getF_no _ (fun q hq2 he2=>hq ⟨q,hq2,he2⟩)] at he;simp [nilV,Value.ownBlock] at he
 ·have key:∀ r ∈ fs,r.1 ≠ o → ∀ k,v1.ownBlock=some k → r.2.ownBlock ≠ some k:=fun r hr hro k hk he=>by
   rcases hat with h2 | ⟨k',hk',hle⟩
   ·rw [h2] at hk;by_cases hq:∃ q ∈ fs,q.1=o
    ·obtain ⟨q,hq,hqo⟩:=hq;rw [← hqo,getF_mem h.keys nilV hq] at hk;exact h.off q hq r hr (fun e=>hro (e.symm.trans hqo)) k hk he
    ·rw [getF_no _ (fun q hq2 he2=>hq ⟨q,hq2,he2⟩)] at hk;simp [nilV,Value.ownBlock] at hk
   ·rw [hk] at hk';cases hk';have:=(own_cells (h.rows r hr) k he).1;omega
  rcases hput p hp with rfl | ⟨h2,h3⟩ <;> rcases hput q hq with rfl | ⟨h4,h5⟩
  ·exact absurd rfl hne
  ·exact key q h5 h4 k hk
  ·exact fun he=>key p h3 h2 k he hk
  ·exact h.off p h3 q h5 hne k hk
 ·(have hko:k ≠ o:=fun e=>hk (o,v1) (mem_putF_self fs o v1) e.symm);simp only [if_neg hko];exact h.void k (fun p hp he=>hk p (mem_putF_other hp (fun e=>hko (he.symm.trans e))) he)
 ·refine Kd.R_mono (Kd.R_move (Kd.R_bound h.sts) (fun k hk=>?_)) (fun k hk=>hoff k hk.2.2.1 hk.1);obtain ⟨h2,_,_,q,_,c,hc⟩:=hk;refine hst k c q hc (fun he=>?_);by_cases hq:∃ q ∈ fs,q.1=o
  ·obtain ⟨q,hq,hqo⟩:=hq;rw [← hqo,getF_mem h.keys nilV hq] at he;exact h2 q hq he.symm
  ·rw [getF_no _ (fun q hq2 he2=>hq ⟨q,hq2,he2⟩)] at he;simp [nilV,Value.ownBlock] at he
 ·refine kSm.M_mono (fun k hk=>?_) (kSm.M_move (fun k hk=>?_) (kSm.M_bound hx))
  ·exact ⟨hoff k hk.2.2.1 hk.1.1,hk.1.2⟩
  ·obtain ⟨⟨h2,_⟩,_,_,q,_,c,hc⟩:=hk;refine hst k c q hc (fun he=>?_);by_cases hq:∃ q ∈ fs,q.1=o
   ·obtain ⟨q,hq,hqo⟩:=hq;rw [← hqo,getF_mem h.keys nilV hq] at he;exact h2 q hq he.symm
   ·rw [getF_no _ (fun q hq2 he2=>hq ⟨q,hq2,he2⟩)] at he;simp [nilV,Value.ownBlock] at he
 ·have e1:W.heap.size ≤ W1.heap.size:=hg.size;have e2:W1.heap.size ≤ W2.heap.size:=by
   by_cases hl:W1.heap.size ≤ W2.heap.size
   ·exact hl
   ·exfalso;have hmb:=hm.lt;have hmb1:mb < W.heap.size:=h.map.lt;by_cases hw:W2.heap.size=mb
    ·omega
    ·have h5:=hj W2.heap.size hw;rw [Array.getElem?_eq_none (Nat.le_refl _),Array.getElem?_eq_getElem (by omega)] at h5;cases h5
  omega
 ·intro k c t hk ht;refine hst k c t hk (fun he=>?_);obtain ⟨c',hc'⟩:=Kd.R_typed hlk k he.symm;rw [hk] at hc';injection hc' with hc';injection hc' with _ h6;exact ht h6
theorem TabW.push (h:TabW w0s W mb fs val vs sts) {x:Sm} {v1:Value} (h1:Kd.R kSm 38 W1 w0s (FrOff fs) v1 (sts ++ [x])) (hg:W.grownBy W1 vs.ownBlock):TabW w0s W1 mb fs val v1 (sts ++ [x]):=by
 have hmb:some mb ≠ vs.ownBlock:=fun e=>by
  obtain ⟨c,hc⟩:=Kd.R_typed h.sts mb e.symm;obtain ⟨es,cl,h3,_⟩:=h.map;rw [hc] at h3;cases h3
 refine ⟨h.map.grown hg hmb,fun p hp=>?_,h.keys,h.off,h.void,h1⟩;refine Kd.R_mono (Kd.R_grown (Kd.R_flat (ok':=fun k=>p.2.ownBlock=some k) (fun hx=>hx) (h.rows p hp) (fun k hk _=>hk)) hg (fun k hk he=>?_)) (fun _ _=>trivial);exact h.sts.1 k he.symm p hp hk
theorem TabW.keep_push (h:TabW w0s W mb fs val vs sts) (hg:W.grownBy W1 vs.ownBlock) {g t:Nat} {c:Array Value} (hb:W.heap[g]? = some (.cells c t (0,0))) (ht:38 ≠ t):W1.heap[g]? = some (.cells c t (0,0)) :=
 blk_grown hb hg (Kd.R_ne h.sts hb ht)
theorem TabW.made (w:World) (mb:Nat) (hm:IMap W mb []) (w0s:Nat):TabW w0s W mb [] (fun _=>[]) (.slice none 0 0) [] :=
 ⟨hm,fun p hp=>by simp at hp,List.Pairwise.nil,fun p hp=>by simp at hp,fun _ _=>rfl,Kd.R_nil _ _ _ _ _⟩
end
def cntT (os:List Int) (n p:Nat) (o:Int):Nat:=if o ∈ os.take p then n + 1 else if o ∈ os then n else 0
def valT (os:List Int) (fr:Int → Nat → Bool) (n p:Nat) (o:Int):List Bool:=(List.range (cntT os n p o)).map (fr o)
theorem valT_len (os:List Int) (fr:Int → Nat → Bool) (n p:Nat) (o:Int):(valT os fr n p o).length=cntT os n p o:=by simp [valT]
theorem valT_first (os:List Int) (fr:Int → Nat → Bool):valT os fr 0 0=fun _=>[]:=by
 funext o;simp [valT,cntT]
theorem valT_next (os:List Int) (fr:Int → Nat → Bool) (n:Nat):valT os fr n os.length=valT os fr (n + 1) 0:=by
 funext o;simp only [valT,cntT,List.take_length,List.take_zero,List.not_mem_nil,if_false];split <;> rfl
theorem take_in (os:List Int) (p:Nat) (h:p < os.length) (o:Int):o ∈ os.take (p + 1) ↔ o ∈ os.take p ∨ o=os.getD p 0:=by
 rw [List.take_succ_eq_append_getElem h,List.mem_append,List.mem_singleton];simp [List.getD,h]
theorem valT_skip (os:List Int) (fr:Int → Nat → Bool) (n p:Nat) (h:p < os.length) (hk:os.getD p 0 ∈ os.take p):valT os fr n (p + 1)=valT os fr n p:=by
 funext o;have:(o ∈ os.take (p + 1))=(o ∈ os.take p):=by
  rw [take_in os p h];exact propext ⟨fun h2=>h2.elim id (fun e=>e ▸ hk),.inl⟩
 simp only [valT,cntT,this]
theorem valT_put (os:List Int) (fr:Int → Nat → Bool) (n p:Nat) (h:p < os.length) (hk:¬ os.getD p 0 ∈ os.take p) :
  (fun k=>if k=os.getD p 0 then valT os fr n p (os.getD p 0) ++ [fr (os.getD p 0) n] else valT os fr n p k)=valT os fr n (p + 1):=by
 funext k;(have hm:os.getD p 0 ∈ os:=by simp [List.getD,h]);by_cases hko:k=os.getD p 0
 ·subst hko;rw [if_pos rfl];simp only [valT,cntT];rw [if_neg hk,if_pos hm,if_pos ((take_in os p h _).2 (.inr rfl)),List.range_succ,List.map_append];rfl
 ·rw [if_neg hko];have:(k ∈ os.take (p + 1))=(k ∈ os.take p):=by
   rw [take_in os p h];exact propext ⟨fun h2=>h2.elim id (fun e=>absurd e hko),.inl⟩
  simp only [valT,cntT,this]
end Go.Proofs.Ytjbjbeihkoeciaa.X
namespace Go.Proofs.Ytjbjbeihkoeciaa.X
open Go.RowKit Go.Proofs.YtjbjbeihkoeciaaW.PrintWords Go.Proofs.YtjbjbeihkoeciaaW.PrintLast Go.Proofs.YtjbjbeihkoeciaaW.PrintMore
attribute [local go_sem] max2_int min2_int max_two min_two max_three min_three max_four min_four
def eval_Check.f (l00:List ByteArray) (l01:List ByteArray) (l02:List ByteArray) (l03:List (S70)) (l04:List (S66)) (l10:List (List ByteArray)) (l11:List (List (S135))):Option (Int):=(sorts_Check.f l00 l01 l02 l03 l04).bind fun t271=>(if t271=0 then ((eval_may.f l00 l01 l02 l03 l04 l10 l11).bind fun t272=>(if t272=true then (some 0) else (some 1))) else (some 1))
set_option maxHeartbeats 8000000 in
set_option maxRecDepth 100000 in
theorem eval_Check.calls (A0_0:Option Addr) (c0_0:Nat) (l00:List ByteArray) (A0_1:Option Addr) (c0_1:Nat) (l01:List ByteArray) (A0_2:Option Addr) (c0_2:Nat) (l02:List ByteArray) (A0_3:Option Addr) (c0_3:Nat) (l03:List (S70)) (A0_4:Option Addr) (c0_4:Nat) (l04:List (S66)) (A1_0:Option Addr) (c1_0:Nat) (l10:List (List ByteArray)) (A1_1:Option Addr) (c1_1:Nat) (l11:List (List (S135))) (r:Int) (w:World) (hr00:Kd.C Kd.string w A0_0 l00.length l00) (hc00:l00.length ≤ c0_0) (hr01:Kd.C Kd.string w A0_1 l01.length l01) (hc01:l01.length ≤ c0_1) (hr02:Kd.C Kd.string w A0_2 l02.length l02) (hc02:l02.length ≤ c0_2) (hr03:Kd.C k70 w A0_3 l03.length l03) (hc03:l03.length ≤ c0_3) (hr04:Kd.C k66 w A0_4 l04.length l04) (hc04:l04.length ≤ c0_4) (hr10:Kd.C (Kd.slice 9 Kd.string) w A1_0 l10.length l10) (hc10:l10.length ≤ c1_0) (hr11:Kd.C (Kd.slice 135 k135) w A1_1 l11.length l11) (hc11:l11.length ≤ c1_1) (h:eval_Check.f l00 l01 l02 l03 l04 l10 l11=some r) :
  Calls Try.prog 54 #[.agg #[.slice A0_0 l00.length c0_0,.slice A0_1 l01.length c0_1,.slice A0_2 l02.length c0_2,.slice A0_3 l03.length c0_3,.slice A0_4 l04.length c0_4],.agg #[.slice A1_0 l10.length c1_0,.slice A1_1 l11.length c1_1]] w fun e w'=>e = .returned (.int .i64 r)∧Below w.heap.size w w':=by
 have hu26:=Try.underlying26;have hu46:=Try.underlying46;have HR00:=Sd.mk hr00;have J00:=Sd.mk hc00;clear hr00 hc00;have HR01:=Sd.mk hr01;have J01:=Sd.mk hc01;clear hr01 hc01;have HR02:=Sd.mk hr02;have J02:=Sd.mk hc02;clear hr02 hc02;have HR03:=Sd.mk hr03;have J03:=Sd.mk hc03;clear hr03 hc03;have HR04:=Sd.mk hr04;have J04:=Sd.mk hc04;clear hr04 hc04;have HR10:=Sd.mk hr10;have J10:=Sd.mk hc10;clear hr10 hc10;have HR11:=Sd.mk hr11;have J11:=Sd.mk hc11;clear hr11 hc11;have HB:=Sd.mk (Below.refl w.heap.size w);have H:=h;clear h;unfold eval_Check.f at H;obtain ⟨t271,A3,H⟩:=oB H;by_cases c4:t271=0
 ·rw [if_pos c4] at H;obtain ⟨c4b0,c4b1⟩:=bT c4;clear c4;obtain ⟨t272,A5,H⟩:=oB H;by_cases c6:t272=true
  ·subst c6;replace H:=iT H;obtain rfl:=sI H;go_enter Try.func54,Try.ntmps54;go_wp2_with (first|((with_reducible refine gate_dst (N:=2) rfl ?_);refine uX 2 (cs:=#[.slice A0_0 l00.length c0_0,.slice A0_1 l01.length c0_1,.slice A0_2 l02.length c0_2,.slice A0_3 l03.length c0_3,.slice A0_4 l04.length c0_4]) (t:=26) fun gb269 hg w7 BK269 hb=>?_;have GW269:Sd (w.heap.size ≤ gb269):=uG hg;have GE269:=GW269;replace HB:=uH hb;clear hb hg)|((with_reducible refine gate_dst (N:=3) rfl ?_);refine uX 3 (cs:=#[.slice A1_0 l10.length c1_0,.slice A1_1 l11.length c1_1]) (t:=46) fun gb270 hg w8 BK270 hb=>?_;have GW270:Sd (w.heap.size ≤ gb270):=uG hg;have GE270:=GW270;have NB269_270:=uN hg BK269;have NB270_269:=uM (uN hg BK269);replace BK269:=uK BK269 hb;replace HB:=uH hb;clear hb hg;have hnb9:=NB269_270.out;have hnc9:=NB270_269.out;obtain ⟨Z10_0,Z10_1,Z10_2,Z10_3,Z10_4,Y10_0,Y10_1,Y10_2,Y10_3,Y10_4⟩:=bd5 BK269)|((with_reducible refine gate_callee (f:=8) rfl ?_);refine gL Try.func8 (some 6) #[.agg #[.slice A0_0 l00.length c0_0,.slice A0_1 l01.length c0_1,.slice A0_2 l02.length c0_2,.slice A0_3 l03.length c0_3,.slice A0_4 l04.length c0_4]] ?_;(with_reducible refine (sorts_Check.calls _ _ l00 _ _ l01 _ _ l02 _ _ l03 _ _ l04 t271 _ (sC HR00) J00.out (sC HR01) J01.out (sC HR02) J02.out (sC HR03) J03.out (sC HR04) J04.out A3.out).mono ?_);rintro e w11 ⟨rfl,hb⟩;refine ⟨_,rfl,?_⟩;replace BK269:=uK BK269 hb;replace BK270:=uK BK270 hb;replace HB:=uH hb;(try clear hb);(try clear hb2);(try clear hk);(try clear hi);obtain ⟨Z12_0,Z12_1,Z12_2,Z12_3,Z12_4,Y12_0,Y12_1,Y12_2,Y12_3,Y12_4⟩:=bd5 BK269;obtain ⟨Z13_0,Z13_1,Y13_0,Y13_1⟩:=bd2 BK270)|(go_at_call 59;(with_reducible refine (eval_may.calls _ _ l00 _ _ l01 _ _ l02 _ _ l03 _ _ l04 _ _ l10 _ _ l11 true _ (sC HR00) J00.out (sC HR01) J01.out (sC HR02) J02.out (sC HR03) J03.out (sC HR04) J04.out (sC HR10) J10.out (sC HR11) J11.out A5.out).mono ?_);rintro e w14 ⟨rfl,hb⟩;replace BK269:=uK BK269 hb;replace BK270:=uK BK270 hb;replace HB:=uH hb;(try clear hb);(try clear hb2);(try clear hk);(try clear hi)));go_ret;exact ⟨tW,uB⟩
  ·replace c6:=Bool.eq_false_iff.mpr c6;subst c6;replace H:=iF H;obtain rfl:=sI H;go_enter Try.func54,Try.ntmps54;go_wp2_with (first|((with_reducible refine gate_dst (N:=2) rfl ?_);refine uX 2 (cs:=#[.slice A0_0 l00.length c0_0,.slice A0_1 l01.length c0_1,.slice A0_2 l02.length c0_2,.slice A0_3 l03.length c0_3,.slice A0_4 l04.length c0_4]) (t:=26) fun gb269 hg w15 BK269 hb=>?_;have GW269:Sd (w.heap.size ≤ gb269):=uG hg;have GE269:=GW269;replace HB:=uH hb;clear hb hg)|((with_reducible refine gate_dst (N:=3) rfl ?_);refine uX 3 (cs:=#[.slice A1_0 l10.length c1_0,.slice A1_1 l11.length c1_1]) (t:=46) fun gb270 hg w16 BK270 hb=>?_;have GW270:Sd (w.heap.size ≤ gb270):=uG hg;have GE270:=GW270;have NB269_270:=uN hg BK269;have NB270_269:=uM (uN hg BK269);replace BK269:=uK BK269 hb;replace HB:=uH hb;clear hb hg;have hnb17:=NB269_270.out;have hnc17:=NB270_269.out;obtain ⟨Z18_0,Z18_1,Z18_2,Z18_3,Z18_4,Y18_0,Y18_1,Y18_2,Y18_3,Y18_4⟩:=bd5 BK269)|((with_reducible refine gate_callee (f:=8) rfl ?_);refine gL Try.func8 (some 6) #[.agg #[.slice A0_0 l00.length c0_0,.slice A0_1 l01.length c0_1,.slice A0_2 l02.length c0_2,.slice A0_3 l03.length c0_3,.slice A0_4 l04.length c0_4]] ?_;(with_reducible refine (sorts_Check.calls _ _ l00 _ _ l01 _ _ l02 _ _ l03 _ _ l04 t271 _ (sC HR00) J00.out (sC HR01) J01.out (sC HR02) J02.out (sC HR03) J03.out (sC HR04) J04.out A3.out).mono ?_);rintro e w19 ⟨rfl,hb⟩;refine ⟨_,rfl,?_⟩;replace BK269:=uK BK269 hb;replace BK270:=uK BK270 hb;replace HB:=uH hb;(try clear hb);(try clear hb2);(try clear hk);(try clear hi);obtain ⟨Z20_0,Z20_1,Z20_2,Z20_3,Z20_4,Y20_0,Y20_1,Y20_2,Y20_3,Y20_4⟩:=bd5 BK269;obtain ⟨Z21_0,Z21_1,Y21_0,Y21_1⟩:=bd2 BK270)|(go_at_call 59;(with_reducible refine (eval_may.calls _ _ l00 _ _ l01 _ _ l02 _ _ l03 _ _ l04 _ _ l10 _ _ l11 false _ (sC HR00) J00.out (sC HR01) J01.out (sC HR02) J02.out (sC HR03) J03.out (sC HR04) J04.out (sC HR10) J10.out (sC HR11) J11.out A5.out).mono ?_);rintro e w22 ⟨rfl,hb⟩;replace BK269:=uK BK269 hb;replace BK270:=uK BK270 hb;replace HB:=uH hb;(try clear hb);(try clear hb2);(try clear hk);(try clear hi)));go_ret;exact ⟨tW,uB⟩
 ·rw [if_neg c4] at H;obtain ⟨c4b0,c4b1⟩:=bN c4;obtain rfl:=sI H;go_enter Try.func54,Try.ntmps54;go_wp2_with (first|((with_reducible refine gate_dst (N:=2) rfl ?_);refine uX 2 (cs:=#[.slice A0_0 l00.length c0_0,.slice A0_1 l01.length c0_1,.slice A0_2 l02.length c0_2,.slice A0_3 l03.length c0_3,.slice A0_4 l04.length c0_4]) (t:=26) fun gb269 hg w23 BK269 hb=>?_;have GW269:Sd (w.heap.size ≤ gb269):=uG hg;have GE269:=GW269;replace HB:=uH hb;clear hb hg)|((with_reducible refine gate_dst (N:=3) rfl ?_);refine uX 3 (cs:=#[.slice A1_0 l10.length c1_0,.slice A1_1 l11.length c1_1]) (t:=46) fun gb270 hg w24 BK270 hb=>?_;have GW270:Sd (w.heap.size ≤ gb270):=uG hg;have GE270:=GW270;have NB269_270:=uN hg BK269;have NB270_269:=uM (uN hg BK269);replace BK269:=uK BK269 hb;replace HB:=uH hb;clear hb hg;have hnb25:=NB269_270.out;have hnc25:=NB270_269.out;obtain ⟨Z26_0,Z26_1,Z26_2,Z26_3,Z26_4,Y26_0,Y26_1,Y26_2,Y26_3,Y26_4⟩:=bd5 BK269)|((with_reducible refine gate_callee (f:=8) rfl ?_);refine gL Try.func8 (some 6) #[.agg #[.slice A0_0 l00.length c0_0,.slice A0_1 l01.length c0_1,.slice A0_2 l02.length c0_2,.slice A0_3 l03.length c0_3,.slice A0_4 l04.length c0_4]] ?_;(with_reducible refine (sorts_Check.calls _ _ l00 _ _ l01 _ _ l02 _ _ l03 _ _ l04 t271 _ (sC HR00) J00.out (sC HR01) J01.out (sC HR02) J02.out (sC HR03) J03.out (sC HR04) J04.out A3.out).mono ?_);rintro e w27 ⟨rfl,hb⟩;refine ⟨_,rfl,?_⟩;replace BK269:=uK BK269 hb;replace BK270:=uK BK270 hb;replace HB:=uH hb;(try clear hb);(try clear hb2);(try clear hk);(try clear hi)));go_ret;exact ⟨tW,uB⟩
def eval_Holds.f (l00:List ByteArray) (l01:List ByteArray) (l02:List ByteArray) (l03:List (S70)) (l04:List (S66)) (l10:List (List ByteArray)) (l11:List (List (S135))) (a2:Int):Option (Bool):=(eval_Check.f l00 l01 l02 l03 l04 l10 l11).bind fun t282=>(if t282=0 then (if a2 ≥ 0 then (if a2 < (l03.length:Int) then (if 0 ≤ a2 then ((eval_holds.f l10 l11 ((rd_T70 l03 a2).f0) ((rd_T70 l03 a2).f1) ((rd_T70 l03 a2).f2) ((rd_T70 l03 a2).f3) ((rd_T70 l03 a2).f4)).bind fun t284=>(some t284)) else (none)) else (some false)) else (some false)) else (some false))
def eval_Holds.T1:Bool × List (List Nat × List Nat):=(true,[([],[]),([],[]),([0,1],[0,1]),([2],[2]),([3,2],[3]),([4],[4]),([5,4],[4,5]),([4,6],[4,6]),([7,4],[7]),([8],[8]),([8],[8]),([10,8],[8,10]),([11,8],[8,11]),([9,12,8],[8,9,12]),([8,13],[8,13]),([14,8],[14]),([15],[15]),([15],[15]),([17,15],[15,17]),([15],[15]),([18,19,15],[15,18,19]),([20,15],[15,20]),([16,21,15,15],[15,16,21]),([15,22],[15,22]),([23,22,0,1,2,3,4,5,6,7,8,9,10,11,12,13,14,15,16,17,18,19,20,21,22,23],[23])])
def eval_Holds.B1:List Nat:=[0,0,3,7,15,31,63,127,255,511,511,1535,3583,8191,16383,32767,65535,65535,196607,65535,983039,2031615,4194303,8388607,16777215]
theorem eval_Holds.tab1:rtab .any (opsOf Try.f22 1)=eval_Holds.T1:=by kernel_rfl
theorem eval_Holds.bits1:waitsOk eval_Holds.T1.2 eval_Holds.B1=true:=by kernel_rfl
set_option maxHeartbeats 8000000 in
set_option maxRecDepth 100000 in
theorem eval_Holds.calls (A0_0:Option Addr) (c0_0:Nat) (l00:List ByteArray) (A0_1:Option Addr) (c0_1:Nat) (l01:List ByteArray) (A0_2:Option Addr) (c0_2:Nat) (l02:List ByteArray) (A0_3:Option Addr) (c0_3:Nat) (l03:List (S70)) (A0_4:Option Addr) (c0_4:Nat) (l04:List (S66)) (A1_0:Option Addr) (c1_0:Nat) (l10:List (List ByteArray)) (A1_1:Option Addr) (c1_1:Nat) (l11:List (List (S135))) (a2:Int) (r:Bool) (w:World) (hr00:Kd.C Kd.string w A0_0 l00.length l00) (hc00:l00.length ≤ c0_0) (hr01:Kd.C Kd.string w A0_1 l01.length l01) (hc01:l01.length ≤ c0_1) (hr02:Kd.C Kd.string w A0_2 l02.length l02) (hc02:l02.length ≤ c0_2) (hr03:Kd.C k70 w A0_3 l03.length l03) (hc03:l03.length ≤ c0_3) (hr04:Kd.C k66 w A0_4 l04.length l04) (hc04:l04.length ≤ c0_4) (hr10:Kd.C (Kd.slice 9 Kd.string) w A1_0 l10.length l10) (hc10:l10.length ≤ c1_0) (hr11:Kd.C (Kd.slice 135 k135) w A1_1 l11.length l11) (hc11:l11.length ≤ c1_1) (h:eval_Holds.f l00 l01 l02 l03 l04 l10 l11 a2=some r) :
  Calls Try.prog 22 #[.agg #[.slice A0_0 l00.length c0_0,.slice A0_1 l01.length c0_1,.slice A0_2 l02.length c0_2,.slice A0_3 l03.length c0_3,.slice A0_4 l04.length c0_4],.agg #[.slice A1_0 l10.length c1_0,.slice A1_1 l11.length c1_1],.int .i64 a2] w fun e w'=>e = .returned (.bool r)∧Below w.heap.size w w':=by
 have hu26:=Try.underlying26;have hu46:=Try.underlying46;have hu70:=Try.underlying70;have HR00:=Sd.mk hr00;have J00:=Sd.mk hc00;clear hr00 hc00;have HR01:=Sd.mk hr01;have J01:=Sd.mk hc01;clear hr01 hc01;have HR02:=Sd.mk hr02;have J02:=Sd.mk hc02;clear hr02 hc02;have HR03:=Sd.mk hr03;have J03:=Sd.mk hc03;clear hr03 hc03;have HR04:=Sd.mk hr04;have J04:=Sd.mk hc04;clear hr04 hc04;have HR10:=Sd.mk hr10;have J10:=Sd.mk hc10;clear hr10 hc10;have HR11:=Sd.mk hr11;have J11:=Sd.mk hc11;clear hr11 hc11;have HB:=Sd.mk (Below.refl w.heap.size w);have H:=h;clear h;unfold eval_Holds.f at H;obtain ⟨t282,A4,H⟩:=oB H;by_cases c5:t282=0
 ·rw [if_pos c5] at H;obtain ⟨c5b0,c5b1⟩:=bT c5;clear c5;by_cases c6:a2 ≥ 0
  ·rw [if_pos c6] at H;have c6b0:=dTr c6;clear c6;by_cases c7:a2 < (l03.length:Int)
   ·rw [if_pos c7] at H;have c7b0:=dTr c7;clear c7;by_cases c8:0 ≤ a2
    ·rw [if_pos c8] at H;have c8b0:=dTr c8;clear c8;obtain ⟨t284,A9,H⟩:=oB H;obtain rfl:=sI H;go_enter Try.func22,Try.ntmps22;(try go_wp2_with (first|((with_reducible refine gate_dst (N:=3) rfl ?_);(try (refine gate_guard (by rfl) ?_;dsimp only));refine uX 3 (cs:=#[.slice A0_0 l00.length c0_0,.slice A0_1 l01.length c0_1,.slice A0_2 l02.length c0_2,.slice A0_3 l03.length c0_3,.slice A0_4 l04.length c0_4]) (t:=26) fun gb280 hg w10 BK280 hb=>?_;have GW280:Sd (w.heap.size ≤ gb280):=uG hg;have GE280:=GW280;replace HB:=uH hb;clear hb hg)|((with_reducible refine gate_dst (N:=4) rfl ?_);(try (refine gate_guard (by rfl) ?_;dsimp only));refine uX 4 (cs:=#[.slice A1_0 l10.length c1_0,.slice A1_1 l11.length c1_1]) (t:=46) fun gb281 hg w11 BK281 hb=>?_;have GW281:Sd (w.heap.size ≤ gb281):=uG hg;have GE281:=GW281;have NB280_281:=uN hg BK280;have NB281_280:=uM (uN hg BK280);replace BK280:=uK BK280 hb;replace HB:=uH hb;clear hb hg)));replace BK280:=uE BK280;replace BK281:=uE BK281;replace HB:=uI HB;have p283:0 ≤ (a2:Int):=tD;have q283:a2 < (l03.length:Int):=tD;obtain ⟨ad283,e283,hx283_0,hx283_1,hx283_2,hx283_3,hx283_4⟩:=at_T70 HR03.out a2 p283 q283;have hw283_4:=hx283_4;have hw283_3:=hx283_3;have hw283_2:=hx283_2;have hw283_1:=hx283_1;have hw283_0:=hx283_0;cases e283;replace hx283_0:=uC HB hx283_0;replace hx283_1:=uC HB hx283_1;replace hx283_2:=uC HB hx283_2;replace hx283_3:=uC HB hx283_3;replace hx283_4:=uC HB hx283_4;replace p283:=eq_true p283;replace q283:=eq_true q283;refine start_ (n:=25) (S:=fun w'=>w'.cell? ⟨gb280,0,none⟩=some (.slice A0_0 l00.length c0_0)∧w'.cell? ⟨gb280,1,none⟩=some (.slice A0_1 l01.length c0_1)∧w'.cell? ⟨gb280,2,none⟩=some (.slice A0_2 l02.length c0_2)∧w'.cell? ⟨gb280,3,none⟩=some (.slice (some ad283) l03.length c0_3)∧w'.cell? ⟨gb280,4,none⟩=some (.slice A0_4 l04.length c0_4)∧w'.cell? ⟨gb281,0,none⟩=some (.slice A1_0 l10.length c1_0)∧w'.cell? ⟨gb281,1,none⟩=some (.slice A1_1 l11.length c1_1)∧w'.cell? (ad283.add ((a2).toNat * 5))=some (.int .i64 ((rd_T70 l03 a2).f0))∧w'.cell? ⟨(ad283.add ((a2).toNat * 5)).block,(ad283.add ((a2).toNat * 5)).off + 1,none⟩=some (.bool ((rd_T70 l03 a2).f1))∧w'.cell? ⟨(ad283.add ((a2).toNat * 5)).block,(ad283.add ((a2).toNat * 5)).off + 2,none⟩=some (.int .i64 ((rd_T70 l03 a2).f2))∧w'.cell? ⟨(ad283.add ((a2).toNat * 5)).block,(ad283.add ((a2).toNat * 5)).off + 3,none⟩=some (.int .i64 ((rd_T70 l03 a2).f3))∧w'.cell? ⟨(ad283.add ((a2).toNat * 5)).block,(ad283.add ((a2).toNat * 5)).off + 4,none⟩=some (.int .i64 ((rd_T70 l03 a2).f4))) (ds:=[]) (ab 25 0) (by kernel_rfl) rfl rfl ⟨cB BK280 0,cB BK280 1,cB BK280 2,cB BK280 3,cB BK280 4,cB BK281 0,cB BK281 1,uV hw283_0,uV hw283_1,uV hw283_2,uV hw283_3,uV hw283_4⟩ (fun hH=>?_);refine with_tabW eval_Holds.tab1 eval_Holds.bits1 (fun HT_ HW_=>?_);generalize w11.drew=w12 at BK280 BK281 HB hx283_0 hx283_1 hx283_2 hx283_3 hx283_4 hH ⊢;refine tU 0 7 ?_;refine tU 1 8 ?_;refine oU (N:=some 9) 2 (fun K hK=>?_);refine gO Try.func54 #[.agg #[.slice A0_0 l00.length c0_0,.slice A0_1 l01.length c0_1,.slice A0_2 l02.length c0_2,.slice (some ad283) l03.length c0_3,.slice A0_4 l04.length c0_4],.agg #[.slice A1_0 l10.length c1_0,.slice A1_1 l11.length c1_1]] ?_;(with_reducible refine (eval_Check.calls _ _ l00 _ _ l01 _ _ l02 _ _ l03 _ _ l04 _ _ l10 _ _ l11 t282 _ (sC HR00) J00.out (sC HR01) J01.out (sC HR02) J02.out (sC HR03) J03.out (sC HR04) J04.out (sC HR10) J10.out (sC HR11) J11.out A4.out).mono ?_);rintro e w13 ⟨rfl,hb⟩;refine ⟨_,rfl,?_⟩;replace BK280:=uK BK280 hb;replace BK281:=uK BK281 hb;replace HB:=uH hb;(try clear hb);(try clear hb2);(try clear hk);(try clear hi);refine hK.out _ _ ⟨cB BK280 0,cB BK280 1,cB BK280 2,cB BK280 3,cB BK280 4,cB BK281 0,cB BK281 1,uV hw283_0,uV hw283_1,uV hw283_2,uV hw283_3,uV hw283_4⟩ (fun hH=>?_);clear hK K;refine nU ?_;refine pU 3 10 ?_;refine pU 4 11 ?_;refine pU 5 12 ?_;refine pU 6 13 ?_;refine pU 7 14 ?_;refine pU 8 15 ?_;refine pU 9 16 ?_;refine pU 10 17 ?_;refine tU 11 18 ?_;refine pU 12 19 ?_;refine pU 13 20 ?_;refine pU 14 21 ?_;refine pU 15 22 ?_;refine pU 17 24 ?_;refine pU 19 26 ?_;refine tU 16 23 ?_;refine tU 18 25 ?_;refine pU 20 27 ?_;refine tU 21 28 ?_;refine oU (N:=some 29) 22 (fun K hK=>?_);refine gO Try.func64 #[.agg #[.slice A1_0 l10.length c1_0,.slice A1_1 l11.length c1_1],.agg #[.int .i64 ((rd_T70 l03 a2).f0),.bool ((rd_T70 l03 a2).f1),.int .i64 ((rd_T70 l03 a2).f2),.int .i64 ((rd_T70 l03 a2).f3),.int .i64 ((rd_T70 l03 a2).f4)]] ?_;(with_reducible refine (eval_holds.calls _ _ l10 _ _ l11 ((rd_T70 l03 a2).f0) ((rd_T70 l03 a2).f1) ((rd_T70 l03 a2).f2) ((rd_T70 l03 a2).f3) ((rd_T70 l03 a2).f4) t284 _ (sC HR10) J10.out (sC HR11) J11.out A9.out).mono ?_);rintro e w14 ⟨rfl,hb⟩;refine ⟨_,rfl,?_⟩;replace BK280:=uK BK280 hb;replace BK281:=uK BK281 hb;replace HB:=uH hb;(try clear hb);(try clear hb2);(try clear hk);(try clear hi);refine hK.out _ _ ⟨cB BK280 0,cB BK280 1,cB BK280 2,cB BK280 3,cB BK280 4,cB BK281 0,cB BK281 1,uV hw283_0,uV hw283_1,uV hw283_2,uV hw283_3,uV hw283_4⟩ (fun hH=>?_);clear hK K;refine nU ?_;refine pU 23 30 ?_;refine pU 24 6 ?_;refine dU ?_;(try go_wp2);go_ret;exact ⟨tW,uB⟩
    ·rw [if_neg c8] at H;exact absurd H (by simp)
   ·rw [if_neg c7] at H;have c7b0:=dFa c7;clear c7;obtain rfl:=sI H;go_enter Try.func22,Try.ntmps22;(try go_wp2_with (first|((with_reducible refine gate_dst (N:=3) rfl ?_);(try (refine gate_guard (by rfl) ?_;dsimp only));refine uX 3 (cs:=#[.slice A0_0 l00.length c0_0,.slice A0_1 l01.length c0_1,.slice A0_2 l02.length c0_2,.slice A0_3 l03.length c0_3,.slice A0_4 l04.length c0_4]) (t:=26) fun gb280 hg w15 BK280 hb=>?_;have GW280:Sd (w.heap.size ≤ gb280):=uG hg;have GE280:=GW280;replace HB:=uH hb;clear hb hg)|((with_reducible refine gate_dst (N:=4) rfl ?_);(try (refine gate_guard (by rfl) ?_;dsimp only));refine uX 4 (cs:=#[.slice A1_0 l10.length c1_0,.slice A1_1 l11.length c1_1]) (t:=46) fun gb281 hg w16 BK281 hb=>?_;have GW281:Sd (w.heap.size ≤ gb281):=uG hg;have GE281:=GW281;have NB280_281:=uN hg BK280;have NB281_280:=uM (uN hg BK280);replace BK280:=uK BK280 hb;replace HB:=uH hb;clear hb hg)));replace BK280:=uE BK280;replace BK281:=uE BK281;replace HB:=uI HB;refine start_ (n:=25) (S:=fun w'=>w'.cell? ⟨gb280,0,none⟩=some (.slice A0_0 l00.length c0_0)∧w'.cell? ⟨gb280,1,none⟩=some (.slice A0_1 l01.length c0_1)∧w'.cell? ⟨gb280,2,none⟩=some (.slice A0_2 l02.length c0_2)∧w'.cell? ⟨gb280,3,none⟩=some (.slice A0_3 l03.length c0_3)∧w'.cell? ⟨gb280,4,none⟩=some (.slice A0_4 l04.length c0_4)∧w'.cell? ⟨gb281,0,none⟩=some (.slice A1_0 l10.length c1_0)∧w'.cell? ⟨gb281,1,none⟩=some (.slice A1_1 l11.length c1_1)) (ds:=[]) (ab 25 0) (by kernel_rfl) rfl rfl ⟨cB BK280 0,cB BK280 1,cB BK280 2,cB BK280 3,cB BK280 4,cB BK281 0,cB BK281 1⟩ (fun hH=>?_);refine with_tabW eval_Holds.tab1 eval_Holds.bits1 (fun HT_ HW_=>?_);generalize w16.drew=w17 at BK280 BK281 HB hH ⊢;refine tU 0 7 ?_;refine tU 1 8 ?_;refine oU (N:=some 9) 2 (fun K hK=>?_);refine gO Try.func54 #[.agg #[.slice A0_0 l00.length c0_0,.slice A0_1 l01.length c0_1,.slice A0_2 l02.length c0_2,.slice A0_3 l03.length c0_3,.slice A0_4 l04.length c0_4],.agg #[.slice A1_0 l10.length c1_0,.slice A1_1 l11.length c1_1]] ?_;(with_reducible refine (eval_Check.calls _ _ l00 _ _ l01 _ _ l02 _ _ l03 _ _ l04 _ _ l10 _ _ l11 t282 _ (sC HR00) J00.out (sC HR01) J01.out (sC HR02) J02.out (sC HR03) J03.out (sC HR04) J04.out (sC HR10) J10.out (sC HR11) J11.out A4.out).mono ?_);rintro e w18 ⟨rfl,hb⟩;refine ⟨_,rfl,?_⟩;replace BK280:=uK BK280 hb;replace BK281:=uK BK281 hb;replace HB:=uH hb;(try clear hb);(try clear hb2);(try clear hk);(try clear hi);refine hK.out _ _ ⟨cB BK280 0,cB BK280 1,cB BK280 2,cB BK280 3,cB BK280 4,cB BK281 0,cB BK281 1⟩ (fun hH=>?_);clear hK K;refine nU ?_;refine pU 3 10 ?_;refine pU 4 11 ?_;refine pU 5 12 ?_;refine pU 6 13 ?_;refine pU 7 14 ?_;refine pU 8 15 ?_;refine pU 9 16 ?_;refine pU 10 17 ?_;refine tU 11 18 ?_;refine pU 12 19 ?_;refine pU 13 20 ?_;refine pU 14 21 ?_;refine pU 15 22 ?_;refine pV 16 23 ?_;refine pV 17 24 ?_;refine pV 18 25 ?_;refine pV 19 26 ?_;refine pV 20 27 ?_;refine pV 21 28 ?_;refine pV 22 29 ?_;refine pU 23 30 ?_;refine pU 24 6 ?_;refine dU ?_;(try go_wp2);go_ret;exact ⟨tW,uB⟩
  ·rw [if_neg c6] at H;have c6b0:=dFa c6;clear c6;obtain rfl:=sI H;go_enter Try.func22,Try.ntmps22;(try go_wp2_with (first|((with_reducible refine gate_dst (N:=3) rfl ?_);(try (refine gate_guard (by rfl) ?_;dsimp only));refine uX 3 (cs:=#[.slice A0_0 l00.length c0_0,.slice A0_1 l01.length c0_1,.slice A0_2 l02.length c0_2,.slice A0_3 l03.length c0_3,.slice A0_4 l04.length c0_4]) (t:=26) fun gb280 hg w19 BK280 hb=>?_;have GW280:Sd (w.heap.size ≤ gb280):=uG hg;have GE280:=GW280;replace HB:=uH hb;clear hb hg)|((with_reducible refine gate_dst (N:=4) rfl ?_);(try (refine gate_guard (by rfl) ?_;dsimp only));refine uX 4 (cs:=#[.slice A1_0 l10.length c1_0,.slice A1_1 l11.length c1_1]) (t:=46) fun gb281 hg w20 BK281 hb=>?_;have GW281:Sd (w.heap.size ≤ gb281):=uG hg;have GE281:=GW281;have NB280_281:=uN hg BK280;have NB281_280:=uM (uN hg BK280);replace BK280:=uK BK280 hb;replace HB:=uH hb;clear hb hg)));replace BK280:=uE BK280;replace BK281:=uE BK281;replace HB:=uI HB;refine start_ (n:=25) (S:=fun w'=>w'.cell? ⟨gb280,0,none⟩=some (.slice A0_0 l00.length c0_0)∧w'.cell? ⟨gb280,1,none⟩=some (.slice A0_1 l01.length c0_1)∧w'.cell? ⟨gb280,2,none⟩=some (.slice A0_2 l02.length c0_2)∧w'.cell? ⟨gb280,3,none⟩=some (.slice A0_3 l03.length c0_3)∧w'.cell? ⟨gb280,4,none⟩=some (.slice A0_4 l04.length c0_4)∧w'.cell? ⟨gb281,0,none⟩=some (.slice A1_0 l10.length c1_0)∧w'.cell? ⟨gb281,1,none⟩=some (.slice A1_1 l11.length c1_1)) (ds:=[]) (ab 25 0) (by kernel_rfl) rfl rfl ⟨cB BK280 0,cB BK280 1,cB BK280 2,cB BK280 3,cB BK280 4,cB BK281 0,cB BK281 1⟩ (fun hH=>?_);refine with_tabW eval_Holds.tab1 eval_Holds.bits1 (fun HT_ HW_=>?_);generalize w20.drew=w21 at BK280 BK281 HB hH ⊢;refine tU 0 7 ?_;refine tU 1 8 ?_;refine oU (N:=some 9) 2 (fun K hK=>?_);refine gO Try.func54 #[.agg #[.slice A0_0 l00.length c0_0,.slice A0_1 l01.length c0_1,.slice A0_2 l02.length c0_2,.slice A0_3 l03.length c0_3,.slice A0_4 l04.length c0_4],.agg #[.slice A1_0 l10.length c1_0,.slice A1_1 l11.length c1_1]] ?_;(with_reducible refine (eval_Check.calls _ _ l00 _ _ l01 _ _ l02 _ _ l03 _ _ l04 _ _ l10 _ _ l11 t282 _ (sC HR00) J00.out (sC HR01) J01.out (sC HR02) J02.out (sC HR03) J03.out (sC HR04) J04.out (sC HR10) J10.out (sC HR11) J11.out A4.out).mono ?_);rintro e w22 ⟨rfl,hb⟩;refine ⟨_,rfl,?_⟩;replace BK280:=uK BK280 hb;replace BK281:=uK BK281 hb;replace HB:=uH hb;(try clear hb);(try clear hb2);(try clear hk);(try clear hi);refine hK.out _ _ ⟨cB BK280 0,cB BK280 1,cB BK280 2,cB BK280 3,cB BK280 4,cB BK281 0,cB BK281 1⟩ (fun hH=>?_);clear hK K;refine nU ?_;refine pU 3 10 ?_;refine pU 4 11 ?_;refine pU 5 12 ?_;refine pU 6 13 ?_;refine pU 7 14 ?_;refine pU 8 15 ?_;refine pV 9 16 ?_;refine pV 10 17 ?_;refine pV 11 18 ?_;refine pV 12 19 ?_;refine pV 13 20 ?_;refine pU 14 21 ?_;refine pU 15 22 ?_;refine pV 16 23 ?_;refine pV 17 24 ?_;refine pV 18 25 ?_;refine pV 19 26 ?_;refine pV 20 27 ?_;refine pV 21 28 ?_;refine pV 22 29 ?_;refine pU 23 30 ?_;refine pU 24 6 ?_;refine dU ?_;(try go_wp2);go_ret;exact ⟨tW,uB⟩
 ·rw [if_neg c5] at H;obtain ⟨c5b0,c5b1⟩:=bN c5;obtain rfl:=sI H;go_enter Try.func22,Try.ntmps22;(try go_wp2_with (first|((with_reducible refine gate_dst (N:=3) rfl ?_);(try (refine gate_guard (by rfl) ?_;dsimp only));refine uX 3 (cs:=#[.slice A0_0 l00.length c0_0,.slice A0_1 l01.length c0_1,.slice A0_2 l02.length c0_2,.slice A0_3 l03.length c0_3,.slice A0_4 l04.length c0_4]) (t:=26) fun gb280 hg w23 BK280 hb=>?_;have GW280:Sd (w.heap.size ≤ gb280):=uG hg;have GE280:=GW280;replace HB:=uH hb;clear hb hg)|((with_reducible refine gate_dst (N:=4) rfl ?_);(try (refine gate_guard (by rfl) ?_;dsimp only));refine uX 4 (cs:=#[.slice A1_0 l10.length c1_0,.slice A1_1 l11.length c1_1]) (t:=46) fun gb281 hg w24 BK281 hb=>?_;have GW281:Sd (w.heap.size ≤ gb281):=uG hg;have GE281:=GW281;have NB280_281:=uN hg BK280;have NB281_280:=uM (uN hg BK280);replace BK280:=uK BK280 hb;replace HB:=uH hb;clear hb hg)));replace BK280:=uE BK280;replace BK281:=uE BK281;replace HB:=uI HB;refine start_ (n:=25) (S:=fun w'=>w'.cell? ⟨gb280,0,none⟩=some (.slice A0_0 l00.length c0_0)∧w'.cell? ⟨gb280,1,none⟩=some (.slice A0_1 l01.length c0_1)∧w'.cell? ⟨gb280,2,none⟩=some (.slice A0_2 l02.length c0_2)∧w'.cell? ⟨gb280,3,none⟩=some (.slice A0_3 l03.length c0_3)∧w'.cell? ⟨gb280,4,none⟩=some (.slice A0_4 l04.length c0_4)∧w'.cell? ⟨gb281,0,none⟩=some (.slice A1_0 l10.length c1_0)∧w'.cell? ⟨gb281,1,none⟩=some (.slice A1_1 l11.length c1_1)) (ds:=[]) (ab 25 0) (by kernel_rfl) rfl rfl ⟨cB BK280 0,cB BK280 1,cB BK280 2,cB BK280 3,cB BK280 4,cB BK281 0,cB BK281 1⟩ (fun hH=>?_);refine with_tabW eval_Holds.tab1 eval_Holds.bits1 (fun HT_ HW_=>?_);generalize w24.drew=w25 at BK280 BK281 HB hH ⊢;refine tU 0 7 ?_;refine tU 1 8 ?_;refine oU (N:=some 9) 2 (fun K hK=>?_);refine gO Try.func54 #[.agg #[.slice A0_0 l00.length c0_0,.slice A0_1 l01.length c0_1,.slice A0_2 l02.length c0_2,.slice A0_3 l03.length c0_3,.slice A0_4 l04.length c0_4],.agg #[.slice A1_0 l10.length c1_0,.slice A1_1 l11.length c1_1]] ?_;(with_reducible refine (eval_Check.calls _ _ l00 _ _ l01 _ _ l02 _ _ l03 _ _ l04 _ _ l10 _ _ l11 t282 _ (sC HR00) J00.out (sC HR01) J01.out (sC HR02) J02.out (sC HR03) J03.out (sC HR04) J04.out (sC HR10) J10.out (sC HR11) J11.out A4.out).mono ?_);rintro e w26 ⟨rfl,hb⟩;refine ⟨_,rfl,?_⟩;replace BK280:=uK BK280 hb;replace BK281:=uK BK281 hb;replace HB:=uH hb;(try clear hb);(try clear hb2);(try clear hk);(try clear hi);refine hK.out _ _ ⟨cB BK280 0,cB BK280 1,cB BK280 2,cB BK280 3,cB BK280 4,cB BK281 0,cB BK281 1⟩ (fun hH=>?_);clear hK K;refine nU ?_;refine pU 3 10 ?_;refine pU 4 11 ?_;refine pV 5 12 ?_;refine pV 6 13 ?_;refine pU 7 14 ?_;refine pU 8 15 ?_;refine pV 9 16 ?_;refine pV 10 17 ?_;refine pV 11 18 ?_;refine pV 12 19 ?_;refine pV 13 20 ?_;refine pU 14 21 ?_;refine pU 15 22 ?_;refine pV 16 23 ?_;refine pV 17 24 ?_;refine pV 18 25 ?_;refine pV 19 26 ?_;refine pV 20 27 ?_;refine pV 21 28 ?_;refine pV 22 29 ?_;refine pU 23 30 ?_;refine pU 24 6 ?_;refine dU ?_;(try go_wp2);go_ret;exact ⟨tW,uB⟩
def eval_Broken.l0:Nat → List Int → List (S70) → Int → Int → List (List ByteArray) → List (List (S135)) → Option (List Int)
 | 0,_,_,_,_,_,_=>none
 | k + 1,x5,x13,x14,x15,Xbk,Xbl=>if x15 < x14 then (if 0 ≤ x15 then (if x15 < (x13.length:Int) then ((eval_holds.f Xbk Xbl ((rd_T70 x13 x15).f0) ((rd_T70 x13 x15).f1) ((rd_T70 x13 x15).f2) ((rd_T70 x13 x15).f3) ((rd_T70 x13 x15).f4)).bind fun t290=>(if t290=true then (eval_Broken.l0 k x5 x13 x14 (wrap64 (x15 + 1)) Xbk Xbl) else (if x5.length < 17592186044416 then (eval_Broken.l0 k (x5 ++ [x15]) x13 x14 (wrap64 (x15 + 1)) Xbk Xbl) else (none)))) else (none)) else (none)) else (some x5)
def eval_Broken.f (k:Nat) (l00:List ByteArray) (l01:List ByteArray) (l02:List ByteArray) (l03:List (S70)) (l04:List (S66)) (l10:List (List ByteArray)) (l11:List (List (S135))):Option (List Int):=(eval_Check.f l00 l01 l02 l03 l04 l10 l11).bind fun t287=>(if t287=0 then (eval_Broken.l0 k ([]:List Int) l03 (l03.length:Int) 0 l10 l11) else (some ([]:List Int)))
set_option maxHeartbeats 8000000 in
set_option maxRecDepth 100000 in
theorem eval_Broken.calls (k:Nat) (A0_0:Option Addr) (c0_0:Nat) (l00:List ByteArray) (A0_1:Option Addr) (c0_1:Nat) (l01:List ByteArray) (A0_2:Option Addr) (c0_2:Nat) (l02:List ByteArray) (A0_3:Option Addr) (c0_3:Nat) (l03:List (S70)) (A0_4:Option Addr) (c0_4:Nat) (l04:List (S66)) (A1_0:Option Addr) (c1_0:Nat) (l10:List (List ByteArray)) (A1_1:Option Addr) (c1_1:Nat) (l11:List (List (S135))) (r:List Int) (w:World) (hr00:Kd.C Kd.string w A0_0 l00.length l00) (hc00:l00.length ≤ c0_0) (hr01:Kd.C Kd.string w A0_1 l01.length l01) (hc01:l01.length ≤ c0_1) (hr02:Kd.C Kd.string w A0_2 l02.length l02) (hc02:l02.length ≤ c0_2) (hr03:Kd.C k70 w A0_3 l03.length l03) (hc03:l03.length ≤ c0_3) (hr04:Kd.C k66 w A0_4 l04.length l04) (hc04:l04.length ≤ c0_4) (hr10:Kd.C (Kd.slice 9 Kd.string) w A1_0 l10.length l10) (hc10:l10.length ≤ c1_0) (hr11:Kd.C (Kd.slice 135 k135) w A1_1 l11.length l11) (hc11:l11.length ≤ c1_1) (h:eval_Broken.f k l00 l01 l02 l03 l04 l10 l11=some r) :
  Calls Try.prog 23 #[.agg #[.slice A0_0 l00.length c0_0,.slice A0_1 l01.length c0_1,.slice A0_2 l02.length c0_2,.slice A0_3 l03.length c0_3,.slice A0_4 l04.length c0_4],.agg #[.slice A1_0 l10.length c1_0,.slice A1_1 l11.length c1_1]] w fun e w'=>∃ v0_:Value,e = .returned (v0_)∧Kd.R (Kd.int .i64) 3 w' w.heap.size (fun _=>True) v0_ r∧Below w.heap.size w w':=by
 have hu26:=Try.underlying26;have hu46:=Try.underlying46;have hu70:=Try.underlying70;have HR00:=Sd.mk hr00;have J00:=Sd.mk hc00;clear hr00 hc00;have HR01:=Sd.mk hr01;have J01:=Sd.mk hc01;clear hr01 hc01;have HR02:=Sd.mk hr02;have J02:=Sd.mk hc02;clear hr02 hc02;have HR03:=Sd.mk hr03;have J03:=Sd.mk hc03;clear hr03 hc03;have HR04:=Sd.mk hr04;have J04:=Sd.mk hc04;clear hr04 hc04;have HR10:=Sd.mk hr10;have J10:=Sd.mk hc10;clear hr10 hc10;have HR11:=Sd.mk hr11;have J11:=Sd.mk hc11;clear hr11 hc11;have HB:=Sd.mk (Below.refl w.heap.size w);have H:=h;clear h;unfold eval_Broken.f at H;obtain ⟨t287,A3,H⟩:=oB H;replace H:=iE H;rcases H with ⟨c4,c4b0,c4b1,H⟩ | ⟨c4,c4b0,c4b1,H⟩
 ·clear c4;have H':=Sd.mk H;clear H;go_enter Try.func23,Try.ntmps23;go_wp2_with (first|((with_reducible refine gate_dst (N:=2) rfl ?_);refine uY 2 (cs:=#[.slice A0_0 l00.length c0_0,.slice A0_1 l01.length c0_1,.slice A0_2 l02.length c0_2,.slice A0_3 l03.length c0_3,.slice A0_4 l04.length c0_4]) (t:=26) fun gb285 hg w5 BK285 hb GE285 HB=>?_;clear hb hg)|((with_reducible refine gate_dst (N:=3) rfl ?_);refine uY 3 (cs:=#[.slice A1_0 l10.length c1_0,.slice A1_1 l11.length c1_1]) (t:=46) fun gb286 hg w6 BK286 hb GE286 HB=>?_;have NB285_286:=uN hg BK285;have NB286_285:=uM NB285_286;replace BK285:=uK BK285 hb;clear hb hg;have M7:=nP NB285_286;have Z8:=bd5 BK285;have Z9:=bd2 BK286)|((with_reducible refine gate_callee (f:=54) rfl ?_);refine gL Try.func54 (some 10) #[.agg #[.slice A0_0 l00.length c0_0,.slice A0_1 l01.length c0_1,.slice A0_2 l02.length c0_2,.slice A0_3 l03.length c0_3,.slice A0_4 l04.length c0_4],.agg #[.slice A1_0 l10.length c1_0,.slice A1_1 l11.length c1_1]] ?_;(with_reducible refine (eval_Check.calls _ _ l00 _ _ l01 _ _ l02 _ _ l03 _ _ l04 _ _ l10 _ _ l11 t287 _ (sC HR00) J00.out (sC HR01) J01.out (sC HR02) J02.out (sC HR03) J03.out (sC HR04) J04.out (sC HR10) J10.out (sC HR11) J11.out A3.out).mono ?_);rintro e w10 ⟨rfl,hb⟩;refine ⟨_,rfl,?_⟩;replace BK285:=uK BK285 hb;replace BK286:=uK BK286 hb;replace HB:=uH hb;(try clear hb);(try clear hb2);(try clear hk);(try clear hi);have Z11:=bd5 BK285));go_loopg [5,15] k (fun kq v5 v15 w'=>∃ (x5_1:List Int) (x15_1:Int),v15 = .int .i64 x15_1∧Sd (eval_Broken.l0 kq x5_1 l03 (l03.length:Int) x15_1 l10 l11=some r)∧Sd (kq ≤ k)∧Sd (Kd.R (Kd.int .i64) 3 w' w.heap.size (fun _=>True) v5 x5_1)∧Sd (w'.heap[gb285]? = some (.cells #[(.slice A0_0 l00.length c0_0),(.slice A0_1 l01.length c0_1),(.slice A0_2 l02.length c0_2),(.slice A0_3 l03.length c0_3),(.slice A0_4 l04.length c0_4)] 26 (0,0)))∧Sd (w'.heap[gb286]? = some (.cells #[(.slice A1_0 l10.length c1_0),(.slice A1_1 l11.length c1_1)] 46 (0,0)))∧Sd (Below w.heap.size w w'))
  case atStart=>exact ⟨(([]:List Int)),(0),tSS,H',⟨Nat.le_refl _⟩,⟨tZ⟩,kA BK285,kA BK286,uA⟩
  case round =>
   clear H';(try clear c1);(try clear c2);(try clear p2);(try clear c4);(try clear c4b0);(try clear c4b1);(try clear c5);(try clear c7);(try clear Z11);(try clear Z8);(try clear Z9);obtain ⟨x5_1,x15_1,rfl,HA,HK1,HO_5,BK285,BK286,HB⟩:=hrel;cases gk with
   | zero=>exact absurd HA.out (by simp [eval_Broken.l0])
   | succ k1 =>
    have H:=HA.out;clear HA;simp only [eval_Broken.l0] at H;replace H:=iD H;rcases H with ⟨c12,c12b0,H⟩ | ⟨c12,c12b0,H⟩
    ·clear c12;replace H:=iB H;rcases H with ⟨c13,H⟩ | ⟨c13,H⟩
     ·have c13b0:=dTr c13;clear c13;replace H:=iB H;rcases H with ⟨c14,H⟩ | ⟨c14,H⟩
      ·have c14b0:=dTr c14;clear c14;obtain ⟨t290,A15,H⟩:=oB H;by_cases c16:t290=true
       ·subst c16;replace H:=iT H;have H':=Sd.mk H;clear H;have p288:0 ≤ (x15_1:Int):=tD;have q288:x15_1 < (l03.length:Int):=tD;obtain ⟨ad288,e288,hx288_0,hx288_1,hx288_2,hx288_3,hx288_4⟩:=at_T70 HR03.out x15_1 p288 q288;cases e288;replace hx288_0:=uC HB hx288_0;replace hx288_1:=uC HB hx288_1;replace hx288_2:=uC HB hx288_2;replace hx288_3:=uC HB hx288_3;replace hx288_4:=uC HB hx288_4;replace p288:=eq_true p288;replace q288:=eq_true q288;go_wp2_with (first|((with_reducible refine gate_dst (N:=7) rfl ?_);refine uY 7 (cs:=#[.int .i64 0,.bool false,.int .i64 0,.int .i64 0,.int .i64 0]) (t:=70) fun gb289 hg w17 BK289 hb GE289 HB=>?_;have NB285_289:=uN hg BK285;have NB289_285:=uM NB285_289;have NB286_289:=uN hg BK286;have NB289_286:=uM NB286_289;replace HO_5:=Sd.mk (Kd.R_below (kR HO_5) hb);replace BK285:=uK BK285 hb;replace BK286:=uK BK286 hb;clear hb hg;have M18:=nP NB289_285;have M19:=nP NB289_286;have Z20:=bd5 BK289;have M21:=nP NB286_285;have Z22:=bd2 BK286)|((with_reducible refine gate_callee (f:=64) rfl ?_);refine gL Try.func64 (some 22) #[.agg #[.slice A1_0 l10.length c1_0,.slice A1_1 l11.length c1_1],.agg #[.int .i64 ((rd_T70 l03 x15_1).f0),.bool ((rd_T70 l03 x15_1).f1),.int .i64 ((rd_T70 l03 x15_1).f2),.int .i64 ((rd_T70 l03 x15_1).f3),.int .i64 ((rd_T70 l03 x15_1).f4)]] ?_;(with_reducible refine (eval_holds.calls _ _ l10 _ _ l11 ((rd_T70 l03 x15_1).f0) ((rd_T70 l03 x15_1).f1) ((rd_T70 l03 x15_1).f2) ((rd_T70 l03 x15_1).f3) ((rd_T70 l03 x15_1).f4) true _ ?side1 J10.out ?side3 J11.out A15.out).mono ?_);(case side1=>exact Kd.C_below HR10.out uB);(case side3=>exact Kd.C_below HR11.out uB);rintro e w23 ⟨rfl,hb⟩;refine ⟨_,rfl,?_⟩;replace HO_5:=Sd.mk (Kd.R_below (kE (fR5 HO_5 BK289)) hb);replace BK285:=uP (.cells #[.slice A0_0 l00.length c0_0,.slice A0_1 l01.length c0_1,.slice A0_2 l02.length c0_2,.slice (some ad288) l03.length c0_3,.slice A0_4 l04.length c0_4] 26 (0,0)) (bF5 BK285 NB285_289) hb;replace BK286:=uP (.cells #[.slice A1_0 l10.length c1_0,.slice A1_1 l11.length c1_1] 46 (0,0)) (bF5 BK286 NB286_289) hb;replace BK289:=uP (.cells #[.int .i64 ((rd_T70 l03 x15_1).f0),.bool ((rd_T70 l03 x15_1).f1),.int .i64 ((rd_T70 l03 x15_1).f2),.int .i64 ((rd_T70 l03 x15_1).f3),.int .i64 ((rd_T70 l03 x15_1).f4)] 70 (0,0)) (bQ5 BK289) hb;replace HB:=uH hb;(try clear hb);(try clear hb2);(try clear hk);(try clear hi)));go_roundg k1
        case measure=>have:=HK1.out;omega
        case rel=>exact ⟨(x5_1),(wrap64 (x15_1 + 1)),tSS,H',⟨by have:=HK1.out;omega⟩,kS HO_5,kA BK285,kA BK286,uA⟩
       ·replace c16:=Bool.eq_false_iff.mpr c16;subst c16;replace H:=iF H;replace H:=iB H;rcases H with ⟨c24,H⟩ | ⟨c24,H⟩
        ·have LMc24:=Sd.mk c24;clear c24;obtain ⟨y291,hy291⟩:∃ y_:List Int,y_=(x5_1 ++ [x15_1]):=⟨_,rfl⟩;replace H:(eval_Broken.l0 k1 y291 l03 (l03.length:Int) (wrap64 (x15_1 + 1)) l10 l11)=some r:=yR hy291 H;have Ny291:=Sd.mk hy291;clear hy291;have H':=Sd.mk H;clear H;have p288:0 ≤ (x15_1:Int):=tD;have q288:x15_1 < (l03.length:Int):=tD;obtain ⟨ad288,e288,hx288_0,hx288_1,hx288_2,hx288_3,hx288_4⟩:=at_T70 HR03.out x15_1 p288 q288;cases e288;replace hx288_0:=uC HB hx288_0;replace hx288_1:=uC HB hx288_1;replace hx288_2:=uC HB hx288_2;replace hx288_3:=uC HB hx288_3;replace hx288_4:=uC HB hx288_4;replace p288:=eq_true p288;replace q288:=eq_true q288;go_wp2_with (first|((with_reducible refine gate_dst (N:=7) rfl ?_);refine uY 7 (cs:=#[.int .i64 0,.bool false,.int .i64 0,.int .i64 0,.int .i64 0]) (t:=70) fun gb289 hg w25 BK289 hb GE289 HB=>?_;have NB285_289:=uN hg BK285;have NB289_285:=uM NB285_289;have NB286_289:=uN hg BK286;have NB289_286:=uM NB286_289;replace HO_5:=Sd.mk (Kd.R_below (kR HO_5) hb);replace BK285:=uK BK285 hb;replace BK286:=uK BK286 hb;clear hb hg;have M26:=nP NB289_285;have M27:=nP NB289_286;have Z28:=bd5 BK289;have M29:=nP NB286_285;have Z30:=bd2 BK286)|((with_reducible refine gate_callee (f:=64) rfl ?_);refine gL Try.func64 (some 22) #[.agg #[.slice A1_0 l10.length c1_0,.slice A1_1 l11.length c1_1],.agg #[.int .i64 ((rd_T70 l03 x15_1).f0),.bool ((rd_T70 l03 x15_1).f1),.int .i64 ((rd_T70 l03 x15_1).f2),.int .i64 ((rd_T70 l03 x15_1).f3),.int .i64 ((rd_T70 l03 x15_1).f4)]] ?_;(with_reducible refine (eval_holds.calls _ _ l10 _ _ l11 ((rd_T70 l03 x15_1).f0) ((rd_T70 l03 x15_1).f1) ((rd_T70 l03 x15_1).f2) ((rd_T70 l03 x15_1).f3) ((rd_T70 l03 x15_1).f4) false _ ?side1 J10.out ?side3 J11.out A15.out).mono ?_);(case side1=>exact Kd.C_below HR10.out uB);(case side3=>exact Kd.C_below HR11.out uB);rintro e w31 ⟨rfl,hb⟩;refine ⟨_,rfl,?_⟩;replace HO_5:=Sd.mk (Kd.R_below (kE (fR5 HO_5 BK289)) hb);replace BK285:=uP (.cells #[.slice A0_0 l00.length c0_0,.slice A0_1 l01.length c0_1,.slice A0_2 l02.length c0_2,.slice (some ad288) l03.length c0_3,.slice A0_4 l04.length c0_4] 26 (0,0)) (bF5 BK285 NB285_289) hb;replace BK286:=uP (.cells #[.slice A1_0 l10.length c1_0,.slice A1_1 l11.length c1_1] 46 (0,0)) (bF5 BK286 NB286_289) hb;replace BK289:=uP (.cells #[.int .i64 ((rd_T70 l03 x15_1).f0),.bool ((rd_T70 l03 x15_1).f1),.int .i64 ((rd_T70 l03 x15_1).f2),.int .i64 ((rd_T70 l03 x15_1).f3),.int .i64 ((rd_T70 l03 x15_1).f4)] 70 (0,0)) (bQ5 BK289) hb;replace HB:=uH hb;(try clear hb);(try clear hb2);(try clear hk);(try clear hi))|((with_reducible refine gate_builtin (b:=.append) (xs:=#[.tmp 24,.tmp 26]) rfl ?_);at_builtin;refine Kd.R_append (Kd.int .i64) (w0:=w) w.heap.size rfl (.tmp 24) (.tmp 26) 36 3 (.int .i64 0) 8 rfl Try.underlying36 info3 rfl (by decide) (by omega) u5 x5_1 x15_1 [.int .i64 x15_1] (fun _=>True) (fun _=>False) rfl rfl ?aP (fun _ hk=>hk.elim) ?aF ?aO ?aB ?aS ?aL ?_;(case aP=>exact rfl);(case aB=>exact uB);(case aF=>exact (fun _ _=>trivial));(case aO=>exact (kR HO_5));(case aS=>exact (below_size uB));(case aL=>have:=LMc24.out;omega);intro v292 w32 ho hb hg hat;rw [← Ny291.out] at ho;have HO293:=Sd.mk ho;replace BK285:=uW BK285 (Kd.R_ne HO_5.out BK285.out (by decide)) hg;replace BK286:=uW BK286 (Kd.R_ne HO_5.out BK286.out (by decide)) hg;replace BK289:=uW BK289 (Kd.R_ne HO_5.out BK289.out (by decide)) hg;replace HB:=Sd.mk hb;clear ho hb hg hat));go_roundg k1
         case measure=>have:=HK1.out;omega
         case rel=>exact ⟨(y291),(wrap64 (x15_1 + 1)),tSS,H',⟨by have:=HK1.out;omega⟩,kS HO293,kA BK285,kA BK286,uA⟩
        ·exact absurd H (by simp)
      ·exact absurd H (by simp)
     ·exact absurd H (by simp)
    ·clear c12;obtain rfl:=sI H;go_wp2;go_ret;exact ⟨_,tW,by (with_reducible repeat (first|apply Kd.R_alloc|apply Kd.R_drewN|apply Kd.R_drew));exact HO_5.out,uB⟩
 ·obtain rfl:=sI H;go_enter Try.func23,Try.ntmps23;go_wp2_with (first|((with_reducible refine gate_dst (N:=2) rfl ?_);refine uY 2 (cs:=#[.slice A0_0 l00.length c0_0,.slice A0_1 l01.length c0_1,.slice A0_2 l02.length c0_2,.slice A0_3 l03.length c0_3,.slice A0_4 l04.length c0_4]) (t:=26) fun gb285 hg w33 BK285 hb GE285 HB=>?_;clear hb hg)|((with_reducible refine gate_dst (N:=3) rfl ?_);refine uY 3 (cs:=#[.slice A1_0 l10.length c1_0,.slice A1_1 l11.length c1_1]) (t:=46) fun gb286 hg w34 BK286 hb GE286 HB=>?_;have NB285_286:=uN hg BK285;have NB286_285:=uM NB285_286;replace BK285:=uK BK285 hb;clear hb hg;have M35:=nP NB285_286;have Z36:=bd5 BK285;have Z37:=bd2 BK286)|((with_reducible refine gate_callee (f:=54) rfl ?_);refine gL Try.func54 (some 10) #[.agg #[.slice A0_0 l00.length c0_0,.slice A0_1 l01.length c0_1,.slice A0_2 l02.length c0_2,.slice A0_3 l03.length c0_3,.slice A0_4 l04.length c0_4],.agg #[.slice A1_0 l10.length c1_0,.slice A1_1 l11.length c1_1]] ?_;(with_reducible refine (eval_Check.calls _ _ l00 _ _ l01 _ _ l02 _ _ l03 _ _ l04 _ _ l10 _ _ l11 t287 _ (sC HR00) J00.out (sC HR01) J01.out (sC HR02) J02.out (sC HR03) J03.out (sC HR04) J04.out (sC HR10) J10.out (sC HR11) J11.out A3.out).mono ?_);rintro e w38 ⟨rfl,hb⟩;refine ⟨_,rfl,?_⟩;replace BK285:=uK BK285 hb;replace BK286:=uK BK286 hb;replace HB:=uH hb;(try clear hb);(try clear hb2);(try clear hk);(try clear hi)));go_ret;exact ⟨_,tW,by first|exact Kd.R_nil _ _ _ _ _|exact Kd.N_nil _ _ _ _ _|exact Kd.V_nil _ _ _ _ _|exact Kd.Q_nil _ _ _ _ _|exact Kd.S_nil _ _ _ _ _,uB⟩
def eval_In.f (k:Nat) (l00:List (List ByteArray)) (l01:List (List (S135))) (a1:Int) (a2:ByteArray):Option (Bool):=if a1 ≥ 0 then (if a1 < (l00.length:Int) then (if 0 ≤ a1 then ((slices_Contains_string.f k (rd_L7 l00 a1) a2).bind fun t345=>(some t345)) else (none)) else (some false)) else (some false)
set_option maxHeartbeats 8000000 in
set_option maxRecDepth 100000 in
theorem eval_In.calls (k:Nat) (A0_0:Option Addr) (c0_0:Nat) (l00:List (List ByteArray)) (A0_1:Option Addr) (c0_1:Nat) (l01:List (List (S135))) (a1:Int) (a2:ByteArray) (r:Bool) (w:World) (hr00:Kd.C (Kd.slice 9 Kd.string) w A0_0 l00.length l00) (hc00:l00.length ≤ c0_0) (hr01:Kd.C (Kd.slice 135 k135) w A0_1 l01.length l01) (hc01:l01.length ≤ c0_1) (h:eval_In.f k l00 l01 a1 a2=some r) :
  Calls Try.prog 62 #[.agg #[.slice A0_0 l00.length c0_0,.slice A0_1 l01.length c0_1],.int .i64 a1,.string a2] w fun e w'=>e = .returned (.bool r)∧Below w.heap.size w w':=by
 have hu46:=Try.underlying46;have HR00:=Sd.mk hr00;have J00:=Sd.mk hc00;clear hr00 hc00;have HR01:=Sd.mk hr01;have J01:=Sd.mk hc01;clear hr01 hc01;have HB:=Sd.mk (Below.refl w.heap.size w);have H:=h;clear h;unfold eval_In.f at H;replace H:=iD H;rcases H with ⟨c4,c4b0,H⟩ | ⟨c4,c4b0,H⟩
 ·clear c4;replace H:=iD H;rcases H with ⟨c5,c5b0,H⟩ | ⟨c5,c5b0,H⟩
  ·clear c5;replace H:=iB H;rcases H with ⟨c6,H⟩ | ⟨c6,H⟩
   ·have c6b0:=dTr c6;clear c6;obtain ⟨t345,A7,H⟩:=oB H;obtain rfl:=sI H;go_enter Try.func62,Try.ntmps62;go_wp2_with (first|((with_reducible refine gate_dst (N:=3) rfl ?_);(try (refine gate_guard (by rfl) ?_;dsimp only));refine uY 3 (cs:=#[.slice A0_0 l00.length c0_0,.slice A0_1 l01.length c0_1]) (t:=46) fun gb343 hg w8 BK343 hb GE343 HB=>?_;clear hb hg;have Z9:=bd2 BK343;have p344:0 ≤ (a1:Int):=tD;have q344:a1 < (l00.length:Int):=tD;obtain ⟨ad344,A344_0,c344_0,e344,hx344_0,hl344_0,hi344_0⟩:=at_L7 HR00.out a1 p344 q344;cases e344;replace hx344_0:=uC HB hx344_0;have HR344_0:=Sd.mk hi344_0;have HC344_0:=Sd.mk hl344_0;clear hi344_0 hl344_0;replace p344:=eq_true p344;replace q344:=eq_true q344)|(go_at_call 105;(with_reducible refine (slices_Contains_string.calls k _ _ (rd_L7 l00 a1) a2 t345 _ (sC HR344_0) HC344_0.out A7.out).mono ?_);rintro e w' ⟨rfl,⟨nd,rfl⟩⟩));go_ret;exact ⟨tW,uB⟩
   ·exact absurd H (by simp)
  ·clear c5;obtain rfl:=sI H;go_enter Try.func62,Try.ntmps62;go_wp2_with (first|((with_reducible refine gate_dst (N:=3) rfl ?_);(try (refine gate_guard (by rfl) ?_;dsimp only));refine uY 3 (cs:=#[.slice A0_0 l00.length c0_0,.slice A0_1 l01.length c0_1]) (t:=46) fun gb343 hg w10 BK343 hb GE343 HB=>?_;clear hb hg;have Z11:=bd2 BK343));go_ret;exact ⟨tW,uB⟩
 ·clear c4;obtain rfl:=sI H;go_enter Try.func62,Try.ntmps62;go_wp2_with (first|((with_reducible refine gate_dst (N:=3) rfl ?_);(try (refine gate_guard (by rfl) ?_;dsimp only));refine uY 3 (cs:=#[.slice A0_0 l00.length c0_0,.slice A0_1 l01.length c0_1]) (t:=46) fun gb343 hg w12 BK343 hb GE343 HB=>?_;clear hb hg));go_ret;exact ⟨tW,uB⟩
mutual
def eval_Number.j0:Nat → Int → ByteArray → Bool → List (List ByteArray) → List (List (S135)) → Option (Int)
 | 0,_,_,_,_,_=>none
 | k + 1,x1,x2,x17,Xbm,Xbn=>if x17=true then (some 0) else (if 0 ≤ x1 then (if x1 < (Xbn.length:Int) then (eval_Number.l0 k x2 (rd_L15 Xbn x1) ((rd_L15 Xbn x1).length:Int) 0) else (none)) else (none))
def eval_Number.l0:Nat → ByteArray → List (S135) → Int → Int → Option (Int)
 | 0,_,_,_,_=>none
 | k + 1,x2,x22,x23,x24=>if x24 < x23 then (if 0 ≤ x24 then (if x24 < (x22.length:Int) then (if ((rd_T135 x22 x24).f0).toList=x2.toList then (some ((rd_T135 x22 x24).f1)) else (eval_Number.l0 k x2 x22 x23 (wrap64 (x24 + 1)))) else (none)) else (none)) else (some 0)
end
def eval_Number.f (k:Nat) (l00:List (List ByteArray)) (l01:List (List (S135))) (a1:Int) (a2:ByteArray):Option (Int):=if a1 < 0 then (eval_Number.j0 k a1 a2 true l00 l01) else (eval_Number.j0 k a1 a2 (decide (a1 ≥ (l01.length:Int))) l00 l01)
set_option maxHeartbeats 8000000 in
set_option maxRecDepth 100000 in
theorem eval_Number.calls (k:Nat) (A0_0:Option Addr) (c0_0:Nat) (l00:List (List ByteArray)) (A0_1:Option Addr) (c0_1:Nat) (l01:List (List (S135))) (a1:Int) (a2:ByteArray) (r:Int) (w:World) (hr00:Kd.C (Kd.slice 9 Kd.string) w A0_0 l00.length l00) (hc00:l00.length ≤ c0_0) (hr01:Kd.C (Kd.slice 135 k135) w A0_1 l01.length l01) (hc01:l01.length ≤ c0_1) (h:eval_Number.f k l00 l01 a1 a2=some r) :
  Calls Try.prog 63 #[.agg #[.slice A0_0 l00.length c0_0,.slice A0_1 l01.length c0_1],.int .i64 a1,.string a2] w fun e w'=>e = .returned (.int .i64 r)∧Below w.heap.size w w':=by
 have hu46:=Try.underlying46;have hu135:=Try.underlying135;have HR00:=Sd.mk hr00;have J00:=Sd.mk hc00;clear hr00 hc00;have HR01:=Sd.mk hr01;have J01:=Sd.mk hc01;clear hr01 hc01;have HB:=Sd.mk (Below.refl w.heap.size w);have H:=h;clear h;unfold eval_Number.f at H;have HC4:=Sd.mk H;clear H;go_enter Try.func63,Try.ntmps63;go_upto_region 1 with (first|((with_reducible refine gate_dst (N:=3) rfl ?_);(try (refine gate_guard (by rfl) ?_;dsimp only));refine uX 3 (cs:=#[.slice A0_0 l00.length c0_0,.slice A0_1 l01.length c0_1]) (t:=46) fun gb346 hg w5 BK346 hb=>?_;have GW346:Sd (w.heap.size ≤ gb346):=uG hg;have GE346:=GW346;replace HB:=uH hb;clear hb hg));(try simp only [Act.put,q1_,q2_,q3_]);go_cut [17] (fun v17 wc=>∃ (kq:Nat) (x17_3:Bool),v17 = .bool x17_3∧Sd (eval_Number.j0 kq a1 a2 x17_3 l00 l01=some r)∧Sd (kq ≤ k)∧Sd (wc.heap[gb346]? = some (.cells #[(.slice A0_0 l00.length c0_0),(.slice A0_1 l01.length c0_1)] 46 (0,0)))∧Sd (Below w.heap.size w wc))
 case first =>
  have H:=HC4.out;clear HC4;by_cases c6:a1 < 0
  ·rw [if_pos c6] at H;have c6b0:=dTr c6;clear c6;(first|rw [c6b0]|(simp only [i64_w,i32_w];rw [c6b0])|skip);have H':=Sd.mk H;clear H;go_wp2;go_meet
   case rel=>exact ⟨_,(true),tSS,H',⟨tO⟩,kA BK346,uA⟩
  ·rw [if_neg c6] at H;have c6b0:=dFa c6;clear c6;(first|rw [c6b0]|(simp only [i64_w,i32_w];rw [c6b0])|skip);have H':=Sd.mk H;clear H;obtain ⟨Z7_0,Z7_1,Y7_0,Y7_1⟩:=bd2 BK346;go_wp2;go_meet
   case rel=>exact ⟨_,(decide (a1 ≥ (l01.length:Int))),tSS,H',⟨tO⟩,kA BK346,uA⟩
 case rest =>
  clear HC4;(try clear p2);(try clear c6);(try clear c6b0);(try clear Z7_0 Z7_1 Y7_0 Y7_1);obtain ⟨kq,x17_3,rfl,HA,HJ3,BK346,HB⟩:=hcut;cases kq with
  | zero=>exact absurd HA.out (by simp [eval_Number.j0])
  | succ kj3 =>
   have H:=HA.out;clear HA;simp only [eval_Number.j0] at H;by_cases c8:x17_3=true
   ·subst c8;replace H:=iT H;obtain rfl:=sI H;go_wp2;go_ret;exact ⟨tW,uB⟩
   ·replace c8:=Bool.eq_false_iff.mpr c8;subst c8;replace H:=iF H;by_cases c9:0 ≤ a1
    ·rw [if_pos c9] at H;have c9b0:=dTr c9;clear c9;by_cases c10:a1 < (l01.length:Int)
     ·rw [if_pos c10] at H;have c10b0:=dTr c10;clear c10;have H':=Sd.mk H;clear H;obtain ⟨Z11_0,Z11_1,Y11_0,Y11_1⟩:=bd2 BK346;have p347:0 ≤ (a1:Int):=tD;have q347:a1 < (l01.length:Int):=tD;obtain ⟨ad347,A347_0,c347_0,e347,hx347_0,hl347_0,hi347_0⟩:=at_L15 HR01.out a1 p347 q347;cases e347;replace hx347_0:=uC HB hx347_0;have HR347_0:=Sd.mk hi347_0;have HC347_0:=Sd.mk hl347_0;clear hi347_0 hl347_0;replace p347:=eq_true p347;replace q347:=eq_true q347;go_wp2;go_loopg [24] kj3 (fun kq v24 w'=>∃ (x24_2:Int),v24 = .int .i64 x24_2∧Sd (eval_Number.l0 kq a2 (rd_L15 l01 a1) ((rd_L15 l01 a1).length:Int) x24_2=some r)∧Sd (kq ≤ kj3)∧Sd (w'.heap[gb346]? = some (.cells #[(.slice A0_0 l00.length c0_0),(.slice (some ad347) l01.length c0_1)] 46 (0,0)))∧Sd (Below w.heap.size w w'))
      case atStart=>exact ⟨(0),tSS,H',⟨Nat.le_refl _⟩,kA BK346,uA⟩
      case round =>
       clear H';(try clear c1);(try clear p2);(try clear c3);(try clear p3);(try clear q3);(try clear hx3);(try clear c6);(try clear c6b0);(try clear c8);(try clear c9);(try clear c9b0);(try clear c10);(try clear c10b0);(try clear Z11_0 Z11_1 Y11_0 Y11_1);(try clear Z7_0 Z7_1 Y7_0 Y7_1);(try clear hx347_0);(try clear p2);(try clear p347);(try clear q347);obtain ⟨x24_2,rfl,HA,HK2,BK346,HB⟩:=hrel;cases gk with
       | zero=>exact absurd HA.out (by simp [eval_Number.l0])
       | succ k2 =>
        have H:=HA.out;clear HA;simp only [eval_Number.l0] at H;by_cases c12:x24_2 < ((rd_L15 l01 a1).length:Int)
        ·rw [if_pos c12] at H;have c12b0:=dTr c12;clear c12;by_cases c13:0 ≤ x24_2
         ·rw [if_pos c13] at H;have c13b0:=dTr c13;clear c13;by_cases c14:x24_2 < ((rd_L15 l01 a1).length:Int)
          ·rw [if_pos c14] at H;have c14b0:=dTr c14;clear c14;by_cases c15:((rd_T135 (rd_L15 l01 a1) x24_2).f0).toList=a2.toList
           ·rw [if_pos c15] at H;obtain ⟨c15b0,c15b1⟩:=bT c15;clear c15;obtain rfl:=sI H;have p348:0 ≤ (x24_2:Int):=tD;have q348:x24_2 < ((rd_L15 l01 a1).length:Int):=tD;obtain ⟨ad348,e348,hx348_0,hx348_1⟩:=at_T135 HR347_0.out x24_2 p348 q348;cases e348;replace hx348_0:=uC HB hx348_0;replace hx348_1:=uC HB hx348_1;replace p348:=eq_true p348;replace q348:=eq_true q348;go_wp2_with (first|((with_reducible refine gate_dst (N:=8) rfl ?_);(try (refine gate_guard (by rfl) ?_;dsimp only));refine uX 8 (cs:=#[.string (⟨#[]⟩:ByteArray),.int .i64 0]) (t:=135) fun gb349 hg w16 BK349 hb=>?_;have GW349:Sd (w.heap.size ≤ gb349):=uG hg;have GE349:=GW349;have NB346_349:=uN hg BK346;have NB349_346:=uM (uN hg BK346);replace BK346:=uK BK346 hb;replace HB:=uH hb;clear hb hg;have hnb17:=NB349_346.out;have hnc17:=NB346_349.out;obtain ⟨Z18_0,Z18_1,Y18_0,Y18_1⟩:=bd2 BK349));go_ret;exact ⟨tW,uB⟩
           ·rw [if_neg c15] at H;obtain ⟨c15b0,c15b1⟩:=bN c15;have H':=Sd.mk H;clear H;have p348:0 ≤ (x24_2:Int):=tD;have q348:x24_2 < ((rd_L15 l01 a1).length:Int):=tD;obtain ⟨ad348,e348,hx348_0,hx348_1⟩:=at_T135 HR347_0.out x24_2 p348 q348;cases e348;replace hx348_0:=uC HB hx348_0;replace hx348_1:=uC HB hx348_1;replace p348:=eq_true p348;replace q348:=eq_true q348;go_wp2_with (first|((with_reducible refine gate_dst (N:=8) rfl ?_);(try (refine gate_guard (by rfl) ?_;dsimp only));refine uX 8 (cs:=#[.string (⟨#[]⟩:ByteArray),.int .i64 0]) (t:=135) fun gb349 hg w19 BK349 hb=>?_;have GW349:Sd (w.heap.size ≤ gb349):=uG hg;have GE349:=GW349;have NB346_349:=uN hg BK346;have NB349_346:=uM (uN hg BK346);replace BK346:=uK BK346 hb;replace HB:=uH hb;clear hb hg;have hnb20:=NB349_346.out;have hnc20:=NB346_349.out;obtain ⟨Z21_0,Z21_1,Y21_0,Y21_1⟩:=bd2 BK349));go_roundg k2
            case measure=>have:=HJ3.out;have:=HK2.out;omega
            case rel=>exact ⟨(wrap64 (x24_2 + 1)),tSS,H',⟨by have:=HJ3.out;have:=HK2.out;omega⟩,kH (bF2 BK346 NB346_349),uA⟩
          ·rw [if_neg c14] at H;exact absurd H (by simp)
         ·rw [if_neg c13] at H;exact absurd H (by simp)
        ·rw [if_neg c12] at H;have c12b0:=dFa c12;clear c12;obtain rfl:=sI H;go_wp2;go_ret;exact ⟨tW,uB⟩
     ·rw [if_neg c10] at H;exact absurd H (by simp)
    ·rw [if_neg c9] at H;exact absurd H (by simp)
end Go.Proofs.Ytjbjbeihkoeciaa.X

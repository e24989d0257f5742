/- Joined texts of this session, without what nothing needs: Xhucksterref16All, Xhucksterref16Sort, Xhucksterref16Oper, Xhucksterref14digit, Xhucksterref14letter, Xhucksterref14Word, Xhucksterref15words, Xhucksterref15Kept, Xhucksterref15Name, Xhucksterref16At, Xhucksterref16Unlike, Xhucksterref16floors, Xhucksterref16May, Xhucksterlaw16Light, RuP, RuQ, Xevalright, Xevalset, XcmpisNaNstring, XcmpLessstring, XslicesisNaNstring, XslicesBinarySearchstring, Xevalin, EvP, EvIn. -/
import Derived.Deep.QuietTactic
import Derived.BigQuiet
import Derived.Test.YtjbjbeihkoeciaaGreatK1
import Derived.Test.YtjbjbeihkoeciaaGreatK2
set_option maxHeartbeats 8000000
set_option maxRecDepth 100000
set_option linter.unusedVariables false
set_option linter.unusedSimpArgs false
namespace Go.Proofs.YtjbjbeihkoeciaaGreat.X
open Go.RowKit Go.Proofs.YtjbjbeihkoeciaaGreatW.PrintWords Go.Proofs.YtjbjbeihkoeciaaGreatW.PrintLast Go.Proofs.YtjbjbeihkoeciaaGreatW.PrintMore
section
attribute [local go_sem] max2_int min2_int max_two min_two max_three min_three max_four min_four
def r16_All.l0:Nat → List ByteArray → Int → List ByteArray → List ByteArray → List ByteArray → List (S85) → List (S89) → Option (List ByteArray)
 | 0,_,_,_,_,_,_,_=>none
 | k + 1,x3,x4,Xal,Xam,Xan,Xao,Xap=>if x4 < (Xap.length:Int) then (if 0 ≤ x4 then (if x3.length < 8796093022208 then (r16_All.l0 k (x3 ++ [(rd_T89 Xap x4).f0]) (wrap64 (x4 + 1)) Xal Xam Xan Xao Xap) else (none)) else (none)) else (some x3)
def r16_All.f (k:Nat) (l00:List ByteArray) (l01:List ByteArray) (l02:List ByteArray) (l03:List (S85)) (l04:List (S89)):Option (List ByteArray):=(some (([]:List ByteArray):List ByteArray)).bind fun y102=>(if y102.length + l00.length < 8796093022208 then ((some (y102 ++ l00:List ByteArray)).bind fun y105=>(if y105.length + l01.length < 8796093022208 then ((some (y105 ++ l01:List ByteArray)).bind fun y108=>(if y108.length + l02.length < 8796093022208 then (r16_All.l0 k (y108 ++ l02) 0 l00 l01 l02 l03 l04) else (none))) else (none))) else (none))
def r16_All.T1:Bool × List (List Nat × List Nat):=(true,[([],[]),([],[]),([1],[1]),([0,2],[0,2]),([],[]),([4],[4]),([3,5,3],[3,5]),([],[]),([7],[7]),([6,8,6],[6,8]),([9,9,0,1,2,3,4,5,6,7,8,9],[9])])
def r16_All.B1:List Nat:=[0,0,2,7,0,16,63,0,128,511,1023]
theorem r16_All.tab1:rtab .any (opsOf Tryz.f46 1)=r16_All.T1:=by kernel_rfl
theorem r16_All.bits1:waitsOk r16_All.T1.2 r16_All.B1=true:=by kernel_rfl
theorem r16_All.calls (k:Nat) (A0_0:Option Addr) (c0_0:Nat) (l00:List ByteArray) (A0_1:Option Addr) (c0_1:Nat) (l01:List ByteArray) (A0_2:Option Addr) (c0_2:Nat) (l02:List ByteArray) (A0_3:Option Addr) (c0_3:Nat) (l03:List (S85)) (A0_4:Option Addr) (c0_4:Nat) (l04:List (S89)) (r:List ByteArray) (w:World) (hr00:Kd.C Kd.string w A0_0 l00.length l00) (hc00:l00.length ≤ c0_0) (hr01:Kd.C Kd.string w A0_1 l01.length l01) (hc01:l01.length ≤ c0_1) (hr02:Kd.C Kd.string w A0_2 l02.length l02) (hc02:l02.length ≤ c0_2) (hr03:Kd.C k85 w A0_3 l03.length l03) (hc03:l03.length ≤ c0_3) (hr04:Kd.C k89 w A0_4 l04.length l04) (hc04:l04.length ≤ c0_4) (h:r16_All.f k l00 l01 l02 l03 l04=some r) :
  Calls Tryz.prog 46 #[.agg #[.slice A0_0 l00.length c0_0,.slice A0_1 l01.length c0_1,.slice A0_2 l02.length c0_2,.slice A0_3 l03.length c0_3,.slice A0_4 l04.length c0_4]] w fun e w'=>∃ v0_:Value,e = .returned (v0_)∧Kd.R Kd.string 9 w' w.heap.size (fun _=>True) v0_ r∧Below w.heap.size w w':=by
 have hu26:=Tryz.underlying26;have HR00:=Sd.mk hr00;have J00:=Sd.mk hc00;clear hr00 hc00;have HR01:=Sd.mk hr01;have J01:=Sd.mk hc01;clear hr01 hc01;have HR02:=Sd.mk hr02;have J02:=Sd.mk hc02;clear hr02 hc02;have HR03:=Sd.mk hr03;have J03:=Sd.mk hc03;clear hr03 hc03;have HR04:=Sd.mk hr04;have J04:=Sd.mk hc04;clear hr04 hc04;have HB:=Sd.mk (Below.refl w.heap.size w);have H:=h;clear h;unfold r16_All.f at H;obtain ⟨y102,hy102⟩:∃ y_:List ByteArray,y_=(([]:List ByteArray)):=⟨_,rfl⟩;replace H:(if y102.length + l00.length < 8796093022208 then ((some (y102 ++ l00:List ByteArray)).bind fun y105=>(if y105.length + l01.length < 8796093022208 then ((some (y105 ++ l01:List ByteArray)).bind fun y108=>(if y108.length + l02.length < 8796093022208 then (r16_All.l0 k (y108 ++ l02) 0 l00 l01 l02 l03 l04) else (none))) else (none))) else (none))=some r:=yR hy102 H;have Ny102:=Sd.mk hy102;clear hy102;obtain ⟨c2,H⟩:=gG H;have LMc2:=Sd.mk c2;clear c2;obtain ⟨y105,hy105⟩:∃ y_:List ByteArray,y_=(y102 ++ l00):=⟨_,rfl⟩;replace H:(if y105.length + l01.length < 8796093022208 then ((some (y105 ++ l01:List ByteArray)).bind fun y108=>(if y108.length + l02.length < 8796093022208 then (r16_All.l0 k (y108 ++ l02) 0 l00 l01 l02 l03 l04) else (none))) else (none))=some r:=yR hy105 H;have Ny105:=Sd.mk hy105;clear hy105;obtain ⟨c3,H⟩:=gG H;have LMc3:=Sd.mk c3;clear c3;obtain ⟨y108,hy108⟩:∃ y_:List ByteArray,y_=(y105 ++ l01):=⟨_,rfl⟩;replace H:(if y108.length + l02.length < 8796093022208 then (r16_All.l0 k (y108 ++ l02) 0 l00 l01 l02 l03 l04) else (none))=some r:=yR hy108 H;have Ny108:=Sd.mk hy108;clear hy108;obtain ⟨c4,H⟩:=gG H;have LMc4:=Sd.mk c4;clear c4;obtain ⟨y111,hy111⟩:∃ y_:List ByteArray,y_=(y108 ++ l02):=⟨_,rfl⟩;replace H:(r16_All.l0 k y111 0 l00 l01 l02 l03 l04)=some r:=yR hy111 H;have Ny111:=Sd.mk hy111;clear hy111;have H':=Sd.mk H;clear H;go_enter Tryz.func46,Tryz.ntmps46;(try go_wp2_with (first|((with_reducible refine gate_dst (N:=1) rfl ?_);refine uY 1 (cs:=#[.slice A0_0 l00.length c0_0,.slice A0_1 l01.length c0_1,.slice A0_2 l02.length c0_2,.slice A0_3 l03.length c0_3,.slice A0_4 l04.length c0_4]) (t:=26) fun gb101 hg w5 BK101 hb GE101 HB=>?_;clear hb hg)));replace BK101:=uE BK101;replace HB:=uI HB;refine start_ (n:=11) (S:=fun w'=>w'.cell? ⟨gb101,0,none⟩=some (.slice A0_0 l00.length c0_0)∧w'.cell? ⟨gb101,1,none⟩=some (.slice A0_1 l01.length c0_1)∧w'.cell? ⟨gb101,2,none⟩=some (.slice A0_2 l02.length c0_2)∧w'.cell? ⟨gb101,3,none⟩=some (.slice A0_3 l03.length c0_3)∧w'.cell? ⟨gb101,4,none⟩=some (.slice A0_4 l04.length c0_4)) (ds:=[]) (ab 11 0) (by kernel_rfl) rfl rfl ⟨cB BK101 0,cB BK101 1,cB BK101 2,cB BK101 3,cB BK101 4⟩ (fun hH=>?_);refine with_tabW r16_All.tab1 r16_All.bits1 (fun HT_ HW_=>?_);generalize w5.drew=w6 at BK101 HB hH ⊢;refine pU 1 6 ?_;refine pU 4 9 ?_;refine pU 7 12 ?_;refine tU 2 7 ?_;refine tU 5 10 ?_;refine tU 8 13 ?_;refine oU (N:=some 5) 0 (fun K hK=>?_);refine Kd.R_lit_step Kd.string _ 9 ?hg (N:=5) ?hd (xs:=([]:List ByteArray)) (inner:=[]) (ok:=fun _=>True) (okp:=fun _=>True) ?hr ?hp (fun _ hk=>hk) trivial (Below.refl _ _) (Nat.le_refl _) (by simp) ?_;(case hd=>rfl);(case hg=>rfl);(case hr=>first|(go_simp;done)|(go_simp;rfl));(case hp=>exact (Reps.none _ _));intro v103 w7 ho8 hb hg_ hnew_;clear hg_ hnew_;(first|rw [← Ny102.out] at ho8|(simp only [Int.reduceToNat] at ho8;rw [← Ny102.out] at ho8));have HO104:=Sd.mk (Kd.R_lower ho8 (below_size uB));replace BK101:=uK BK101 hb;replace HB:=uH hb;clear hb ho8;refine hK.out _ _ ⟨cB BK101 0,cB BK101 1,cB BK101 2,cB BK101 3,cB BK101 4⟩ (fun hH=>?_);clear hK K;refine nU ?_;refine oU (N:=some 8) 3 (fun K hK=>?_);refine Kd.R_append_rows_step Kd.string (w0:=w) w.heap.size (by rfl) (.tmp 5) (.tmp 7) 22 9 (.string ⟨#[]⟩) 16 rfl Tryz.underlying22 info9 rfl (by decide) (by omega) v103 y102 l00 _ _ _ (fun _=>True) (fun _=>False) rfl rfl ?aO ?aR (fun _ _ h=>h) (fun _ h=>h.elim) ?aF ?aB ?aS ?aL ?_;(case aR=>repeat (first|exact (Kd.C_below HR00.out HB.out)|(with_reducible refine Kd.C_alloc ?_ _)|(with_reducible refine Kd.C_drewN ?_ _)|(with_reducible refine Kd.C_drew ?_)));(case aB=>exact uB);(case aF=>exact (fun _ _=>trivial));(case aO=>exact (kR HO104));(case aS=>exact (below_size uB));(case aL=>have:=LMc2.out;omega);intro v106 w9 ho hb hg hat
 rw [← Ny105.out] at ho;have HO107:=Sd.mk ho;replace BK101:=uW BK101 (Kd.R_ne HO104.out BK101.out (by decide)) hg;replace HB:=Sd.mk hb;clear ho hb hg hat
 refine hK.out _ _ ⟨cB BK101 0,cB BK101 1,cB BK101 2,cB BK101 3,cB BK101 4⟩ (fun hH=>?_);clear hK K;refine nU ?_;refine oU (N:=some 11) 6 (fun K hK=>?_);refine Kd.R_append_rows_step Kd.string (w0:=w) w.heap.size (by rfl) (.tmp 8) (.tmp 10) 22 9 (.string ⟨#[]⟩) 16 rfl Tryz.underlying22 info9 rfl (by decide) (by omega) v106 y105 l01 _ _ _ (fun _=>True) (fun _=>False) rfl rfl ?aO ?aR (fun _ _ h=>h) (fun _ h=>h.elim) ?aF ?aB ?aS ?aL ?_;(case aR=>repeat (first|exact (Kd.C_below HR01.out HB.out)|(with_reducible refine Kd.C_alloc ?_ _)|(with_reducible refine Kd.C_drewN ?_ _)|(with_reducible refine Kd.C_drew ?_)));(case aB=>exact uB);(case aF=>exact (fun _ _=>trivial));(case aO=>exact (kR HO107));(case aS=>exact (below_size uB));(case aL=>have:=LMc3.out;omega);intro v109 w10 ho hb hg hat
 rw [← Ny108.out] at ho;have HO110:=Sd.mk ho;replace BK101:=uW BK101 (Kd.R_ne HO107.out BK101.out (by decide)) hg;replace HB:=Sd.mk hb;clear ho hb hg hat
 refine hK.out _ _ ⟨cB BK101 0,cB BK101 1,cB BK101 2,cB BK101 3,cB BK101 4⟩ (fun hH=>?_);clear hK K;refine nU ?_;refine oU (N:=some 14) 9 (fun K hK=>?_);refine Kd.R_append_rows_step Kd.string (w0:=w) w.heap.size (by rfl) (.tmp 11) (.tmp 13) 22 9 (.string ⟨#[]⟩) 16 rfl Tryz.underlying22 info9 rfl (by decide) (by omega) v109 y108 l02 _ _ _ (fun _=>True) (fun _=>False) rfl rfl ?aO ?aR (fun _ _ h=>h) (fun _ h=>h.elim) ?aF ?aB ?aS ?aL ?_;(case aR=>repeat (first|exact (Kd.C_below HR02.out HB.out)|(with_reducible refine Kd.C_alloc ?_ _)|(with_reducible refine Kd.C_drewN ?_ _)|(with_reducible refine Kd.C_drew ?_)));(case aB=>exact uB);(case aF=>exact (fun _ _=>trivial));(case aO=>exact (kR HO110));(case aS=>exact (below_size uB));(case aL=>have:=LMc4.out;omega);intro v112 w11 ho hb hg hat
 rw [← Ny111.out] at ho;have HO113:=Sd.mk ho;replace BK101:=uW BK101 (Kd.R_ne HO110.out BK101.out (by decide)) hg;replace HB:=Sd.mk hb;clear ho hb hg hat
 refine hK.out _ _ ⟨cB BK101 0,cB BK101 1,cB BK101 2,cB BK101 3,cB BK101 4⟩ (fun hH=>?_);clear hK K;refine nU ?_;refine pU 10 3 ?_;refine dU ?_;(try go_wp2);go_loopg [3,4] k (fun kq v3 v4 w'=>∃ (x3_1:List ByteArray) (x4_1:Int),v4 = .int .i64 x4_1∧Sd (r16_All.l0 kq x3_1 x4_1 l00 l01 l02 l03 l04=some r)∧Sd (kq ≤ k)∧Sd (Kd.R Kd.string 9 w' w.heap.size (fun _=>True) v3 x3_1)∧Sd (w'.heap[gb101]? = some (.cells #[(.slice A0_0 l00.length c0_0),(.slice A0_1 l01.length c0_1),(.slice A0_2 l02.length c0_2),(.slice A0_3 l03.length c0_3),(.slice A0_4 l04.length c0_4)] 26 (0,0)))∧Sd (Below w.heap.size w w'))
 case atStart=>exact ⟨(y111),(0),tSS,H',⟨Nat.le_refl _⟩,kS HO113,kA BK101,uA⟩
 case round =>
  clear H';obtain ⟨x3_1,x4_1,rfl,HA,HK1,HO_3,BK101,HB⟩:=hrel;cases gk with
  | zero=>exact absurd HA.out (by simp [r16_All.l0])
  | succ k1 =>
   have H:=HA.out;clear HA;simp only [r16_All.l0] at H;replace H:=iD H;rcases H with ⟨c12,c12b0,H⟩ | ⟨c12,c12b0,H⟩
   ·clear c12;obtain ⟨c13,H⟩:=gG H;have c13b0:=dTr c13;clear c13;obtain ⟨c14,H⟩:=gG H;have LMc14:=Sd.mk c14;clear c14;obtain ⟨y115,hy115⟩:∃ y_:List ByteArray,y_=(x3_1 ++ [(rd_T89 l04 x4_1).f0]):=⟨_,rfl⟩;replace H:(r16_All.l0 k1 y115 (wrap64 (x4_1 + 1)) l00 l01 l02 l03 l04)=some r:=yR hy115 H;have Ny115:=Sd.mk hy115;clear hy115;have H':=Sd.mk H;clear H;have Z15:=bd5 BK101;have p114:0 ≤ (x4_1:Int):=tD;have q114:x4_1 < (l04.length:Int):=tD;obtain ⟨ad114,A114_1,c114_1,e114,hx114_0,hx114_1,hl114_1,hi114_1⟩:=at_T89 HR04.out x4_1 p114 q114;cases e114;replace hx114_0:=uC HB hx114_0;replace hx114_1:=uC HB hx114_1;have HR114_1:=Sd.mk hi114_1;have HC114_1:=Sd.mk hl114_1;clear hi114_1 hl114_1;replace p114:=eq_true p114;replace q114:=eq_true q114;go_wp2_with (first|((with_reducible refine gate_builtin (b:=.append) (xs:=#[.tmp 22,.tmp 29]) rfl ?_);at_builtin;refine Kd.R_append Kd.string (w0:=w) w.heap.size rfl (.tmp 22) (.tmp 29) 22 9 (.string ⟨#[]⟩) 16 rfl Tryz.underlying22 info9 rfl (by decide) (by omega) u3 x3_1 ((rd_T89 l04 x4_1).f0) [.string ((rd_T89 l04 x4_1).f0)] (fun _=>True) (fun _=>False) rfl rfl ?aP (fun _ hk=>hk.elim) ?aF ?aO ?aB ?aS ?aL ?_;(case aP=>exact rfl);(case aB=>exact uB);(case aF=>exact (fun _ _=>trivial));(case aO=>exact (kR HO_3));(case aS=>exact (below_size uB));(case aL=>have:=LMc14.out;omega);intro v116 w16 ho hb hg hat;rw [← Ny115.out] at ho;have HO117:=Sd.mk ho;replace BK101:=uW BK101 (Kd.R_ne HO_3.out BK101.out (by decide)) hg;replace HB:=Sd.mk hb;clear ho hb hg hat));go_roundg k1
    case measure=>have:=HK1.out;omega
    case rel=>exact ⟨(y115),(wrap64 (x4_1 + 1)),tSS,H',⟨by have:=HK1.out;omega⟩,kS HO117,kA BK101,uA⟩
   ·clear c12;obtain rfl:=sI H;have Z17:=bd5 BK101;go_wp2;go_ret;exact ⟨_,tW,by (with_reducible repeat (first|apply Kd.R_alloc|apply Kd.R_drewN|apply Kd.R_drew));exact HO_3.out,uB⟩
mutual
def r16_Sort.j0:Nat → Int → Bool → Option (Int)
 | 0,_,_=>none
 | k + 1,x3,x4=>if x4=true then (some 1) else (if x3=3 then (r16_Sort.j1 k x3 (x3 == 3)) else (r16_Sort.j1 k x3 (x3 == 4)))
def r16_Sort.j1:Nat → Int → Bool → Option (Int)
 | 0,_,_=>none
 | k + 1,x3,x7=>if x7=true then (some 2) else (if x3=6 then (some 3) else (some 0))
end
def r16_Sort.f (k:Nat) (a0:Int):Option (Int):=if a0=1 then (r16_Sort.j0 k a0 (a0 == 1)) else (r16_Sort.j0 k a0 (a0 == 2))
theorem r16_Sort.calls (k:Nat) (a0:Int) (r:Int) (w:World) (h:r16_Sort.f k a0=some r) :
  Calls Tryz.prog 109 #[.int .i64 a0] w fun e w'=>e = .returned (.int .i64 r)∧Drawn0 w w':=by
 have H:=h;clear h;unfold r16_Sort.f at H;have HC2:=Sd.mk H;clear H;go_enter Tryz.func109,Tryz.ntmps109;go_upto_if 4 with (fail);go_cut [4] (fun v4 wc=>∃ (kq:Nat) (x4_1:Bool),v4 = .bool x4_1∧Sd (r16_Sort.j0 kq a0 x4_1=some r)∧Sd (kq ≤ k)∧Drawn0 w wc)
 case first =>
  have H:=HC2.out;clear HC2;replace H:=iE H;rcases H with ⟨c3,c3b0,c3b1,H⟩ | ⟨c3,c3b0,c3b1,H⟩
  ·clear c3;(first|rw [c3b0]|(simp only [i64_w,i32_w];rw [c3b0])|rw [c3b1]|skip);have H':=Sd.mk H;clear H;go_wp2;go_meet
   case rel=>exact ⟨_,((a0 == 1)),tSS,H',⟨tO⟩,tR⟩
  ·(first|rw [c3b0]|(simp only [i64_w,i32_w];rw [c3b0])|rw [c3b1]|skip);have H':=Sd.mk H;clear H;go_wp2;go_meet
   case rel=>exact ⟨_,((a0 == 2)),tSS,H',⟨tO⟩,tR⟩
 case rest =>
  clear HC2;obtain ⟨kq,x4_1,rfl,HA,HJ1,⟨mc1,rfl⟩⟩:=hcut;cases kq with
  | zero=>exact absurd HA.out (by simp [r16_Sort.j0])
  | succ kj1 =>
   have H:=HA.out;clear HA;simp only [r16_Sort.j0] at H;by_cases c4:x4_1=true
   ·subst c4;replace H:=iT H;obtain rfl:=sI H;go_wp2;go_ret;exact ⟨by first|rfl|(simp;done)|(simp [*];done),tR⟩
   ·replace c4:=Bool.eq_false_iff.mpr c4;subst c4;replace H:=iF H;have HC5:=Sd.mk H;clear H;go_upto_if 7 with (fail);go_cut [7] (fun v7 wc=>∃ (kq:Nat) (x7_4:Bool),v7 = .bool x7_4∧Sd (r16_Sort.j1 kq a0 x7_4=some r)∧Sd (kq ≤ kj1)∧Drawn0 w wc)
    case first =>
     have H:=HC5.out;clear HC5;replace H:=iE H;rcases H with ⟨c6,c6b0,c6b1,H⟩ | ⟨c6,c6b0,c6b1,H⟩
     ·clear c6;(first|rw [c6b0]|(simp only [i64_w,i32_w];rw [c6b0])|rw [c6b1]|skip);have H':=Sd.mk H;clear H;go_wp2;go_meet
      case rel=>exact ⟨_,((a0 == 3)),tSS,H',⟨by have:=HJ1.out;first|omega|exact Nat.le_refl _⟩,tR⟩
     ·(first|rw [c6b0]|(simp only [i64_w,i32_w];rw [c6b0])|rw [c6b1]|skip);have H':=Sd.mk H;clear H;go_wp2;go_meet
      case rel=>exact ⟨_,((a0 == 4)),tSS,H',⟨by have:=HJ1.out;first|omega|exact Nat.le_refl _⟩,tR⟩
    case rest =>
     clear HC5;(try clear c4);obtain ⟨kq,x7_4,rfl,HA,HJ4,⟨mc4,rfl⟩⟩:=hcut;cases kq with
     | zero=>exact absurd HA.out (by simp [r16_Sort.j1])
     | succ kj4 =>
      have H:=HA.out;clear HA;simp only [r16_Sort.j1] at H;by_cases c7:x7_4=true
      ·subst c7;replace H:=iT H;obtain rfl:=sI H;go_wp2;go_ret;exact ⟨by first|rfl|(simp;done)|(simp [*];done),tR⟩
      ·replace c7:=Bool.eq_false_iff.mpr c7;subst c7;replace H:=iF H;replace H:=iE H;rcases H with ⟨c8,c8b0,c8b1,H⟩ | ⟨c8,c8b0,c8b1,H⟩
       ·clear c8;obtain rfl:=sI H;go_wp2;go_ret;exact ⟨by first|rfl|(simp;done)|(simp [*];done),tR⟩
       ·obtain rfl:=sI H;go_wp2;go_ret;exact ⟨by first|rfl|(simp;done)|(simp [*];done),tR⟩
mutual
def r16_Oper.l0:Nat → List Int → Int → ByteArray → List (S94) → Option (Bool)
 | 0,_,_,_,_=>none
 | k + 1,x5,x6,Xaq,Xar=>if x6 < (Xar.length:Int) then (if 0 ≤ x6 then ((r16_Sort.f k ((rd_T94 Xar x6).f0)).bind fun t154=>(if 0 ≤ t154 then (if t154 < (x5.length:Int) then ((r16_in.f ((rd_T94 Xar x6).f1) (rd x5 t154)).bind fun t156=>(if t156=true then (if t154=2 then (if ((rd_T94 Xar x6).f2) < 1 then (r16_Oper.j1 k x5 x6 t154 true Xaq Xar ((rd_T94 Xar x6).f0) ((rd_T94 Xar x6).f1) ((rd_T94 Xar x6).f2)) else (if ((rd_T94 Xar x6).f2) > 1000 then (r16_Oper.j1 k x5 x6 t154 true Xaq Xar ((rd_T94 Xar x6).f0) ((rd_T94 Xar x6).f1) ((rd_T94 Xar x6).f2)) else (r16_Oper.j1 k x5 x6 t154 false Xaq Xar ((rd_T94 Xar x6).f0) ((rd_T94 Xar x6).f1) ((rd_T94 Xar x6).f2)))) else (r16_Oper.j1 k x5 x6 t154 (((rd_T94 Xar x6).f2) != 0) Xaq Xar ((rd_T94 Xar x6).f0) ((rd_T94 Xar x6).f1) ((rd_T94 Xar x6).f2))) else (r16_Oper.j1 k x5 x6 t154 true Xaq Xar ((rd_T94 Xar x6).f0) ((rd_T94 Xar x6).f1) ((rd_T94 Xar x6).f2)))) else (none)) else (none))) else (none)) else (if (Xar.length:Int) ≥ 1 then (some (decide ((Xar.length:Int) ≤ 16))) else (some false))
def r16_Oper.j1:Nat → List Int → Int → Int → Bool → ByteArray → List (S94) → Int → Int → Int → Option (Bool)
 | 0,_,_,_,_,_,_,_,_,_=>none
 | k + 1,x5,x6,x8,x65,Xaq,Xar,Xas,Xat,Xau=>if x65=true then (some false) else (r16_Oper.l1 k x5 x6 x8 0 Xaq Xar Xas Xat Xau)
def r16_Oper.l1:Nat → List Int → Int → Int → Int → ByteArray → List (S94) → Int → Int → Int → Option (Bool)
 | 0,_,_,_,_,_,_,_,_,_=>none
 | k + 1,x5,x6,x8,x9,Xaq,Xar,Xas,Xat,Xau=>if x9 < x6 then (if 0 ≤ x9 then (if x9 < (Xar.length:Int) then ((r16_Sort.f k ((rd_T94 Xar x9).f0)).bind fun t158=>(if t158=x8 then (if ((rd_T94 Xar x9).f1)=Xat then (some false) else (r16_Oper.l1 k x5 x6 x8 (wrap64 (x9 + 1)) Xaq Xar Xas Xat Xau)) else (r16_Oper.l1 k x5 x6 x8 (wrap64 (x9 + 1)) Xaq Xar Xas Xat Xau))) else (none)) else (none)) else (r16_Oper.l0 k x5 (wrap64 (x6 + 1)) Xaq Xar)
end
def r16_Oper.f (k:Nat) (l00:List ByteArray) (l01:List ByteArray) (l02:List ByteArray) (l03:List (S85)) (l04:List (S89)) (a1_0:ByteArray) (l11:List (S94)):Option (Bool):=r16_Oper.l0 k (([0,(l00.length:Int),(l01.length:Int),(l02.length:Int)]:List Int)) 0 a1_0 l11
def r16_Oper.T7:Bool × List (List Nat × List Nat):=(true,[([],[]),([0],[0]),([],[]),([],[]),([2,3],[2,3]),([4],[4]),([1,5],[1,5]),([6],[6]),([7,6],[7]),([8],[8]),([9,8],[8,9]),([10,8,8],[8,10]),([11],[11]),([12,11],[11,12]),([13,11],[11,13]),([14,11,11],[11,14]),([15],[15]),([16,15],[15,16]),([17,15],[15,17]),([15,18,11],[11,15,18]),([11,19,8],[8,11,19]),([8,20],[8,20]),([21,15],[21]),([22],[22]),([23,22],[22,23]),([24,22,22],[22,24]),([25],[25]),([26,25],[25,26]),([27,25],[25,27]),([25,28,22],[22,25,28]),([22,29],[22,29])])
def r16_Oper.B7:List Nat:=[0,1,0,0,12,28,63,127,255,511,1023,2047,4095,8191,16383,32767,65535,131071,262143,524287,1048575,2097151,4194303,8388607,16777215,33554431,67108863,134217727,268435455,536870911,1073741823]
theorem r16_Oper.tab7:rtab .any (opsOf Tryz.f63 7)=r16_Oper.T7:=by kernel_rfl
theorem r16_Oper.bits7:waitsOk r16_Oper.T7.2 r16_Oper.B7=true:=by kernel_rfl
def r16_Oper.T12:Bool × List (List Nat × List Nat):=(true,[([],[]),([0],[0]),([],[]),([1,2],[1,2]),([3],[3]),([4],[4]),([5],[5]),([],[]),([6,7],[6,7]),([8,6],[8]),([9],[9]),([10,9],[9,10]),([9],[9]),([11,12,9],[9,11,12]),([13,9],[9,13]),([14,9],[9,14]),([9],[9]),([16,9],[9,16]),([15,17,9],[9,15,17]),([9,18],[9,18])])
def r16_Oper.B12:List Nat:=[0,1,0,7,15,31,63,0,255,511,1023,2047,1023,8191,16383,32767,1023,66559,262143,524287]
theorem r16_Oper.tab12:rtab .any (opsOf Tryz.f63 12)=r16_Oper.T12:=by kernel_rfl
theorem r16_Oper.bits12:waitsOk r16_Oper.T12.2 r16_Oper.B12=true:=by kernel_rfl
theorem r16_Oper.calls (k:Nat) (A0_0:Option Addr) (c0_0:Nat) (l00:List ByteArray) (A0_1:Option Addr) (c0_1:Nat) (l01:List ByteArray) (A0_2:Option Addr) (c0_2:Nat) (l02:List ByteArray) (A0_3:Option Addr) (c0_3:Nat) (l03:List (S85)) (A0_4:Option Addr) (c0_4:Nat) (l04:List (S89)) (a1_0:ByteArray) (A1_1:Option Addr) (c1_1:Nat) (l11:List (S94)) (r:Bool) (w:World) (hr00:Kd.C Kd.string w A0_0 l00.length l00) (hc00:l00.length ≤ c0_0) (hr01:Kd.C Kd.string w A0_1 l01.length l01) (hc01:l01.length ≤ c0_1) (hr02:Kd.C Kd.string w A0_2 l02.length l02) (hc02:l02.length ≤ c0_2) (hr03:Kd.C k85 w A0_3 l03.length l03) (hc03:l03.length ≤ c0_3) (hr04:Kd.C k89 w A0_4 l04.length l04) (hc04:l04.length ≤ c0_4) (hr11:Kd.C k94 w A1_1 l11.length l11) (hc11:l11.length ≤ c1_1) (h:r16_Oper.f k l00 l01 l02 l03 l04 a1_0 l11=some r) :
  Calls Tryz.prog 63 #[.agg #[.slice A0_0 l00.length c0_0,.slice A0_1 l01.length c0_1,.slice A0_2 l02.length c0_2,.slice A0_3 l03.length c0_3,.slice A0_4 l04.length c0_4],.agg #[.string a1_0,.slice A1_1 l11.length c1_1]] w fun e w'=>e = .returned (.bool r)∧Below w.heap.size w w':=by
 have hu26:=Tryz.underlying26;have hu89:=Tryz.underlying89;have hu94:=Tryz.underlying94;have HR00:=Sd.mk hr00;have J00:=Sd.mk hc00;clear hr00 hc00;have HR01:=Sd.mk hr01;have J01:=Sd.mk hc01;clear hr01 hc01;have HR02:=Sd.mk hr02;have J02:=Sd.mk hc02;clear hr02 hc02;have HR03:=Sd.mk hr03;have J03:=Sd.mk hc03;clear hr03 hc03;have HR04:=Sd.mk hr04;have J04:=Sd.mk hc04;clear hr04 hc04;have HR11:=Sd.mk hr11;have J11:=Sd.mk hc11;clear hr11 hc11;have HB:=Sd.mk (Below.refl w.heap.size w);have H:=h;clear h;unfold r16_Oper.f at H;obtain ⟨y149,hy149⟩:∃ y_:List Int,y_=(([0,(l00.length:Int),(l01.length:Int),(l02.length:Int)]:List Int)):=⟨_,rfl⟩;replace H:(r16_Oper.l0 k y149 0 a1_0 l11)=some r:=yR hy149 H;have Ny149:=Sd.mk hy149;clear hy149;have H':=Sd.mk H;clear H;go_enter Tryz.func63,Tryz.ntmps63;go_wp2_with (first|((with_reducible refine gate_dst (N:=2) rfl ?_);(try (refine gate_guard (by rfl) ?_;dsimp only));refine uY 2 (cs:=#[.slice A0_0 l00.length c0_0,.slice A0_1 l01.length c0_1,.slice A0_2 l02.length c0_2,.slice A0_3 l03.length c0_3,.slice A0_4 l04.length c0_4]) (t:=26) fun gb147 hg w3 BK147 hb GE147 HB=>?_;clear hb hg)|((with_reducible refine gate_dst (N:=3) rfl ?_);(try (refine gate_guard (by rfl) ?_;dsimp only));refine uY 3 (cs:=#[.string a1_0,.slice A1_1 l11.length c1_1]) (t:=89) fun gb148 hg w4 BK148 hb GE148 HB=>?_;have NB147_148:=uN hg BK147;have NB148_147:=uM NB147_148;replace BK147:=uK BK147 hb;clear hb hg;have M5:=nP NB147_148;have Z6:=bd5 BK147)|((with_reducible refine gate_dst (N:=19) rfl ?_);(try (refine gate_guard (by rfl) ?_;dsimp only));refine Kd.R_lit (Kd.int .i64) _ 3 ?hg (N:=19) ?hd (xs:=([0,(l00.length:Int),(l01.length:Int),(l02.length:Int)]:List Int)) (inner:=[.int .i64 0,.int .i64 (l00.length:Int),.int .i64 (l01.length:Int),.int .i64 (l02.length:Int)]) (ok:=fun _=>True) (okp:=fun _=>True) ?hr ?hp (fun _ hk=>hk) trivial (Below.refl _ _) (Nat.le_refl _) (by simp) ?_;(case hd=>rfl);(case hg=>rfl);(case hr=>first|(go_simp;done)|(go_simp;rfl));(case hp=>exact (Reps.one (show Kd.M (Kd.int .i64) _ _ _ 0 [.int .i64 0] from rfl) (Reps.one (show Kd.M (Kd.int .i64) _ _ _ (l00.length:Int) [.int .i64 (l00.length:Int)] from rfl) (Reps.one (show Kd.M (Kd.int .i64) _ _ _ (l01.length:Int) [.int .i64 (l01.length:Int)] from rfl) (Reps.one (show Kd.M (Kd.int .i64) _ _ _ (l02.length:Int) [.int .i64 (l02.length:Int)] from rfl) (Reps.none _ _))))));intro v150 w7 ho8 hb hg_ hnew_;clear hg_ hnew_;(first|rw [← Ny149.out] at ho8|(simp only [Int.reduceToNat] at ho8;rw [← Ny149.out] at ho8));have HO151:=Sd.mk (Kd.R_lower ho8 (below_size uB));replace BK147:=uK BK147 hb;replace BK148:=uK BK148 hb;replace HB:=uH hb;clear hb ho8));go_loopg [6] k (fun kq v6 w'=>∃ (x6_1:Int),v6 = .int .i64 x6_1∧Sd (r16_Oper.l0 kq y149 x6_1 a1_0 l11=some r)∧Sd (kq ≤ k)∧Sd (Kd.R (Kd.int .i64) 3 w' w.heap.size (fun _=>True) v150 y149)∧Sd (w'.heap[gb147]? = some (.cells #[(.slice A0_0 l00.length c0_0),(.slice A0_1 l01.length c0_1),(.slice A0_2 l02.length c0_2),(.slice A0_3 l03.length c0_3),(.slice A0_4 l04.length c0_4)] 26 (0,0)))∧Sd (w'.heap[gb148]? = some (.cells #[.string a1_0,(.slice A1_1 l11.length c1_1)] 89 (0,0)))∧Sd (Below w.heap.size w w'))
 case atStart=>exact ⟨(0),tSS,H',⟨Nat.le_refl _⟩,kS HO151,kA BK147,kA BK148,uA⟩
 case round =>
  clear H';(try clear Z6);obtain ⟨x6_1,rfl,HA,HK1,HO_5,BK147,BK148,HB⟩:=hrel;cases gk with
  | zero=>exact absurd HA.out (by simp [r16_Oper.l0])
  | succ k1 =>
   have H:=HA.out;clear HA;simp only [r16_Oper.l0] at H;replace H:=iD H;rcases H with ⟨c9,c9b0,H⟩ | ⟨c9,c9b0,H⟩
   ·clear c9;obtain ⟨c10,H⟩:=gG H;have c10b0:=dTr c10;clear c10;obtain ⟨t154,A11,H⟩:=oB H;have HC12:=Sd.mk H;clear H;have M13:=nP NB148_147;have Z14:=bd2 BK148;have p152:0 ≤ (x6_1:Int):=tD;have q152:x6_1 < (l11.length:Int):=tD;obtain ⟨ad152,e152,hx152_0,hx152_1,hx152_2⟩:=at_T94 HR11.out x6_1 p152 q152;cases e152;replace hx152_0:=uC HB hx152_0;replace hx152_1:=uC HB hx152_1;replace hx152_2:=uC HB hx152_2;replace p152:=eq_true p152;replace q152:=eq_true q152;go_upto_region 7 with (first|((with_reducible refine gate_dst (N:=7) rfl ?_);(try (refine gate_guard (by rfl) ?_;dsimp only));refine uY 7 (cs:=#[.int .i64 0,.int .i64 0,.int .i64 0]) (t:=94) fun gb153 hg w15 BK153 hb GE153 HB=>?_;have NB147_153:=uN hg BK147;have NB153_147:=uM NB147_153;have NB148_153:=uN hg BK148;have NB153_148:=uM NB148_153;replace HO_5:=Sd.mk (Kd.R_below (kR HO_5) hb);replace BK147:=uK BK147 hb;replace BK148:=uK BK148 hb;clear hb hg;have M16:=nP NB153_147;have M17:=nP NB153_148;have Z18:=bd3 BK153)|((with_reducible refine gate_callee (f:=109) rfl ?_);refine gL Tryz.func109 (some 34) #[.int .i64 ((rd_T94 l11 x6_1).f0)] ?_;(with_reducible refine (r16_Sort.calls k1 ((rd_T94 l11 x6_1).f0) t154 _ A11.out).mono ?_);rintro e w' ⟨rfl,⟨nd,rfl⟩⟩;refine ⟨_,rfl,?_⟩));(try simp only [Act.put,q1_,q2_,q3_]);go_cut [65] (fun v65 wc=>∃ (kq:Nat) (x65_11:Bool),v65 = .bool x65_11∧Sd (r16_Oper.j1 kq y149 x6_1 t154 x65_11 a1_0 l11 ((rd_T94 l11 x6_1).f0) ((rd_T94 l11 x6_1).f1) ((rd_T94 l11 x6_1).f2)=some r)∧Sd (kq ≤ k1)∧Sd (Kd.R (Kd.int .i64) 3 wc w.heap.size (fun _=>True) v150 y149)∧Sd (wc.heap[gb147]? = some (.cells #[(.slice A0_0 l00.length c0_0),(.slice A0_1 l01.length c0_1),(.slice A0_2 l02.length c0_2),(.slice A0_3 l03.length c0_3),(.slice A0_4 l04.length c0_4)] 26 (0,0)))∧Sd (wc.heap[gb148]? = some (.cells #[.string a1_0,(.slice (some ad152) l11.length c1_1)] 89 (0,0)))∧Sd (wc.heap[gb153]? = some (.cells #[.int .i64 ((rd_T94 l11 x6_1).f0),.int .i64 ((rd_T94 l11 x6_1).f1),.int .i64 ((rd_T94 l11 x6_1).f2)] 94 (0,0)))∧Sd (Below w.heap.size w wc))
    case first =>
     have H:=HC12.out;clear HC12;obtain ⟨c19,H⟩:=gG H;have c19b0:=dTr c19;clear c19;(first|rw [c19b0]|(simp only [i64_w,i32_w];rw [c19b0])|rw [c19b1]|skip);obtain ⟨c20,H⟩:=gG H;have c20b0:=dTr c20;clear c20;obtain ⟨t156,A21,H⟩:=oB H;by_cases c22:t156=true
     ·subst c22;replace H:=iT H;replace H:=iE H;rcases H with ⟨c23,c23b0,c23b1,H⟩ | ⟨c23,c23b0,c23b1,H⟩
      ·clear c23;replace H:=iD H;rcases H with ⟨c24,c24b0,H⟩ | ⟨c24,c24b0,H⟩
       ·clear c24;have H':=Sd.mk H;clear H;(try go_wp2);have n0_:Sd (Kd.R (Kd.int .i64) 3 (((w15.setCell ⟨gb153,0,none⟩ (.int .i64 ((rd_T94 l11 x6_1).f0))).setCell ⟨gb153,1,none⟩ (.int .i64 ((rd_T94 l11 x6_1).f1))).setCell ⟨gb153,2,none⟩ (.int .i64 ((rd_T94 l11 x6_1).f2))) w.heap.size (fun _=>True) v150 y149):=⟨kE (fR3 HO_5 BK153)⟩;have n1_:Sd ((((w15.setCell ⟨gb153,0,none⟩ (.int .i64 ((rd_T94 l11 x6_1).f0))).setCell ⟨gb153,1,none⟩ (.int .i64 ((rd_T94 l11 x6_1).f1))).setCell ⟨gb153,2,none⟩ (.int .i64 ((rd_T94 l11 x6_1).f2))).heap[gb147]? = some (.cells #[.slice A0_0 l00.length c0_0,.slice A0_1 l01.length c0_1,.slice A0_2 l02.length c0_2,.slice A0_3 l03.length c0_3,.slice A0_4 l04.length c0_4] 26 (0,0))):=kH (bF3 BK147 NB147_153);have n2_:Sd ((((w15.setCell ⟨gb153,0,none⟩ (.int .i64 ((rd_T94 l11 x6_1).f0))).setCell ⟨gb153,1,none⟩ (.int .i64 ((rd_T94 l11 x6_1).f1))).setCell ⟨gb153,2,none⟩ (.int .i64 ((rd_T94 l11 x6_1).f2))).heap[gb148]? = some (.cells #[.string a1_0,.slice (some ad152) l11.length c1_1] 89 (0,0))):=kH (bF3 BK148 NB148_153);have n3_:Sd ((((w15.setCell ⟨gb153,0,none⟩ (.int .i64 ((rd_T94 l11 x6_1).f0))).setCell ⟨gb153,1,none⟩ (.int .i64 ((rd_T94 l11 x6_1).f1))).setCell ⟨gb153,2,none⟩ (.int .i64 ((rd_T94 l11 x6_1).f2))).heap[gb153]? = some (.cells #[.int .i64 ((rd_T94 l11 x6_1).f0),.int .i64 ((rd_T94 l11 x6_1).f1),.int .i64 ((rd_T94 l11 x6_1).f2)] 94 (0,0))):=kH (bQ3 BK153);have n4_:Sd (Below w.heap.size w (((w15.setCell ⟨gb153,0,none⟩ (.int .i64 ((rd_T94 l11 x6_1).f0))).setCell ⟨gb153,1,none⟩ (.int .i64 ((rd_T94 l11 x6_1).f1))).setCell ⟨gb153,2,none⟩ (.int .i64 ((rd_T94 l11 x6_1).f2)))):=uA;(try clear HO_5);(try clear BK147);(try clear BK148);(try clear BK153);(try clear HB);generalize (((w15.setCell ⟨gb153,0,none⟩ (.int .i64 ((rd_T94 l11 x6_1).f0))).setCell ⟨gb153,1,none⟩ (.int .i64 ((rd_T94 l11 x6_1).f1))).setCell ⟨gb153,2,none⟩ (.int .i64 ((rd_T94 l11 x6_1).f2)))=w25 at n0_ n1_ n2_ n3_ n4_ ⊢;have HO_5:=n0_;have BK147:=n1_;have BK148:=n2_;have BK153:=n3_;have HB:=n4_;clear n0_ n1_ n2_ n3_ n4_;have n0_:=Sd.mk (Kd.R_drewN HO_5.out nd);have n1_:=uF BK147 nd;have n2_:=uF BK148 nd;have n3_:=uF BK153 nd;have n4_:=uJ HB nd;clear HO_5 BK147 BK148 BK153 HB;have HO_5:=n0_;have BK147:=n1_;have BK148:=n2_;have BK153:=n3_;have HB:=n4_;clear n0_ n1_ n2_ n3_ n4_;generalize w25.drewN nd=w25 at HO_5 BK147 BK148 BK153 HB ⊢;replace HO_5:=Sd.mk (Kd.R_drew HO_5.out);replace BK147:=uE BK147;replace BK148:=uE BK148;replace BK153:=uE BK153;replace HB:=uI HB;obtain ⟨Ao27,co27,eo27⟩:=Kd.R_slice HO_5.out;(first|subst eo27|(injection eo27 with f1_ f2_ f3_;have f4_:=f1_.symm;have f5_:=f3_.symm;clear f1_ f2_ f3_;subst f4_;subst f5_));have p155:0 ≤ (t154:Int):=tD;have q155:t154 < (y149.length:Int):=tD;obtain ⟨ad155,e155,hx155_0⟩:=Kd.at_int (Kd.R_reads' HO_5.out).2.2 t154 p155 q155;cases e155;replace p155:=eq_true p155;replace q155:=eq_true q155;refine start_ (n:=31) (S:=fun w'=>w'.cell? ⟨gb153,0,none⟩=some (.int .i64 ((rd_T94 l11 x6_1).f0))∧w'.cell? ⟨gb153,1,none⟩=some (.int .i64 ((rd_T94 l11 x6_1).f1))∧w'.cell? ⟨gb153,2,none⟩=some (.int .i64 ((rd_T94 l11 x6_1).f2))∧w'.cell? (ad155.add (t154).toNat)=some (.int .i64 (rd y149 t154))) (ds:=[]) (ab 31 0) (by kernel_rfl) rfl rfl ⟨cB BK153 0,cB BK153 1,cB BK153 2,hx155_0⟩ (fun hH=>?_);refine with_tabW r16_Oper.tab7 r16_Oper.bits7 (fun HT_ HW_=>?_);generalize w25.drew=w26 at HO_5 BK147 BK148 BK153 HB hx155_0 hH ⊢;refine pU 0 35 ?_;refine pU 2 37 ?_;refine pU 3 38 ?_;refine pU 4 39 ?_;refine tU 1 36 ?_;refine tU 5 40 ?_;refine oU (N:=some 41) 6 (fun K hK=>?_);refine gO Tryz.func108 #[.int .i64 ((rd_T94 l11 x6_1).f1),.int .i64 (rd y149 t154)] ?_;(with_reducible refine (r16_in.calls ((rd_T94 l11 x6_1).f1) (rd y149 t154) true _ A21.out).mono ?_);rintro e w' ⟨rfl,⟨nd,rfl⟩⟩;refine ⟨_,rfl,?_⟩;refine hK.out _ _ ⟨cB BK153 0,cB BK153 1,cB BK153 2,hH.2.2.2⟩ (fun hH=>?_);clear hK K;refine nU ?_;refine pU 7 42 ?_;refine pU 8 43 ?_;refine pU 9 44 ?_;refine pU 10 45 ?_;refine pU 11 46 ?_;refine pU 12 47 ?_;refine tU 13 48 ?_;refine pU 14 49 ?_;refine pU 15 50 ?_;refine pV 16 51 ?_;refine pV 17 52 ?_;refine pV 18 53 ?_;refine pU 19 54 ?_;refine pU 20 55 ?_;refine pU 21 56 ?_;refine pU 22 57 ?_;refine pV 23 58 ?_;refine pV 24 59 ?_;refine pV 25 60 ?_;refine pV 26 61 ?_;refine pV 27 62 ?_;refine pV 28 63 ?_;refine pV 29 64 ?_;refine pU 30 65 ?_;refine dU ?_;(try go_wp2);go_meet
        case rel=>exact ⟨_,(true),tSS,H',⟨by have:=HK1.out;first|omega|exact Nat.le_refl _⟩,kS HO_5,kA BK147,kA BK148,kA BK153,uA⟩
       ·clear c24;replace H:=iD H;rcases H with ⟨c28,c28b0,H⟩ | ⟨c28,c28b0,H⟩
        ·clear c28;have H':=Sd.mk H;clear H;(try go_wp2);have n0_:Sd (Kd.R (Kd.int .i64) 3 (((w15.setCell ⟨gb153,0,none⟩ (.int .i64 ((rd_T94 l11 x6_1).f0))).setCell ⟨gb153,1,none⟩ (.int .i64 ((rd_T94 l11 x6_1).f1))).setCell ⟨gb153,2,none⟩ (.int .i64 ((rd_T94 l11 x6_1).f2))) w.heap.size (fun _=>True) v150 y149):=⟨kE (fR3 HO_5 BK153)⟩;have n1_:Sd ((((w15.setCell ⟨gb153,0,none⟩ (.int .i64 ((rd_T94 l11 x6_1).f0))).setCell ⟨gb153,1,none⟩ (.int .i64 ((rd_T94 l11 x6_1).f1))).setCell ⟨gb153,2,none⟩ (.int .i64 ((rd_T94 l11 x6_1).f2))).heap[gb147]? = some (.cells #[.slice A0_0 l00.length c0_0,.slice A0_1 l01.length c0_1,.slice A0_2 l02.length c0_2,.slice A0_3 l03.length c0_3,.slice A0_4 l04.length c0_4] 26 (0,0))):=kH (bF3 BK147 NB147_153);have n2_:Sd ((((w15.setCell ⟨gb153,0,none⟩ (.int .i64 ((rd_T94 l11 x6_1).f0))).setCell ⟨gb153,1,none⟩ (.int .i64 ((rd_T94 l11 x6_1).f1))).setCell ⟨gb153,2,none⟩ (.int .i64 ((rd_T94 l11 x6_1).f2))).heap[gb148]? = some (.cells #[.string a1_0,.slice (some ad152) l11.length c1_1] 89 (0,0))):=kH (bF3 BK148 NB148_153);have n3_:Sd ((((w15.setCell ⟨gb153,0,none⟩ (.int .i64 ((rd_T94 l11 x6_1).f0))).setCell ⟨gb153,1,none⟩ (.int .i64 ((rd_T94 l11 x6_1).f1))).setCell ⟨gb153,2,none⟩ (.int .i64 ((rd_T94 l11 x6_1).f2))).heap[gb153]? = some (.cells #[.int .i64 ((rd_T94 l11 x6_1).f0),.int .i64 ((rd_T94 l11 x6_1).f1),.int .i64 ((rd_T94 l11 x6_1).f2)] 94 (0,0))):=kH (bQ3 BK153);have n4_:Sd (Below w.heap.size w (((w15.setCell ⟨gb153,0,none⟩ (.int .i64 ((rd_T94 l11 x6_1).f0))).setCell ⟨gb153,1,none⟩ (.int .i64 ((rd_T94 l11 x6_1).f1))).setCell ⟨gb153,2,none⟩ (.int .i64 ((rd_T94 l11 x6_1).f2)))):=uA;(try clear HO_5);(try clear BK147);(try clear BK148);(try clear BK153);(try clear HB);generalize (((w15.setCell ⟨gb153,0,none⟩ (.int .i64 ((rd_T94 l11 x6_1).f0))).setCell ⟨gb153,1,none⟩ (.int .i64 ((rd_T94 l11 x6_1).f1))).setCell ⟨gb153,2,none⟩ (.int .i64 ((rd_T94 l11 x6_1).f2)))=w29 at n0_ n1_ n2_ n3_ n4_ ⊢;have HO_5:=n0_;have BK147:=n1_;have BK148:=n2_;have BK153:=n3_;have HB:=n4_;clear n0_ n1_ n2_ n3_ n4_;have n0_:=Sd.mk (Kd.R_drewN HO_5.out nd);have n1_:=uF BK147 nd;have n2_:=uF BK148 nd;have n3_:=uF BK153 nd;have n4_:=uJ HB nd;clear HO_5 BK147 BK148 BK153 HB;have HO_5:=n0_;have BK147:=n1_;have BK148:=n2_;have BK153:=n3_;have HB:=n4_;clear n0_ n1_ n2_ n3_ n4_;generalize w29.drewN nd=w29 at HO_5 BK147 BK148 BK153 HB ⊢;replace HO_5:=Sd.mk (Kd.R_drew HO_5.out);replace BK147:=uE BK147;replace BK148:=uE BK148;replace BK153:=uE BK153;replace HB:=uI HB;obtain ⟨Ao31,co31,eo31⟩:=Kd.R_slice HO_5.out;(first|subst eo31|(injection eo31 with f1_ f2_ f3_;have f4_:=f1_.symm;have f5_:=f3_.symm;clear f1_ f2_ f3_;subst f4_;subst f5_));have p155:0 ≤ (t154:Int):=tD;have q155:t154 < (y149.length:Int):=tD;obtain ⟨ad155,e155,hx155_0⟩:=Kd.at_int (Kd.R_reads' HO_5.out).2.2 t154 p155 q155;cases e155;replace p155:=eq_true p155;replace q155:=eq_true q155;refine start_ (n:=31) (S:=fun w'=>w'.cell? ⟨gb153,0,none⟩=some (.int .i64 ((rd_T94 l11 x6_1).f0))∧w'.cell? ⟨gb153,1,none⟩=some (.int .i64 ((rd_T94 l11 x6_1).f1))∧w'.cell? ⟨gb153,2,none⟩=some (.int .i64 ((rd_T94 l11 x6_1).f2))∧w'.cell? (ad155.add (t154).toNat)=some (.int .i64 (rd y149 t154))) (ds:=[]) (ab 31 0) (by kernel_rfl) rfl rfl ⟨cB BK153 0,cB BK153 1,cB BK153 2,hx155_0⟩ (fun hH=>?_);refine with_tabW r16_Oper.tab7 r16_Oper.bits7 (fun HT_ HW_=>?_);generalize w29.drew=w30 at HO_5 BK147 BK148 BK153 HB hx155_0 hH ⊢;refine pU 0 35 ?_;refine pU 2 37 ?_;refine pU 3 38 ?_;refine pU 4 39 ?_;refine tU 1 36 ?_;refine tU 5 40 ?_;refine oU (N:=some 41) 6 (fun K hK=>?_);refine gO Tryz.func108 #[.int .i64 ((rd_T94 l11 x6_1).f1),.int .i64 (rd y149 t154)] ?_;(with_reducible refine (r16_in.calls ((rd_T94 l11 x6_1).f1) (rd y149 t154) true _ A21.out).mono ?_);rintro e w' ⟨rfl,⟨nd,rfl⟩⟩;refine ⟨_,rfl,?_⟩;refine hK.out _ _ ⟨cB BK153 0,cB BK153 1,cB BK153 2,hH.2.2.2⟩ (fun hH=>?_);clear hK K;refine nU ?_;refine pU 7 42 ?_;refine pU 8 43 ?_;refine pU 9 44 ?_;refine pU 10 45 ?_;refine pU 11 46 ?_;refine pU 12 47 ?_;refine tU 13 48 ?_;refine pU 14 49 ?_;refine pU 15 50 ?_;refine pU 16 51 ?_;refine tU 17 52 ?_;refine pU 18 53 ?_;refine pU 19 54 ?_;refine pU 20 55 ?_;refine pU 21 56 ?_;refine pU 22 57 ?_;refine pV 23 58 ?_;refine pV 24 59 ?_;refine pV 25 60 ?_;refine pV 26 61 ?_;refine pV 27 62 ?_;refine pV 28 63 ?_;refine pV 29 64 ?_;refine pU 30 65 ?_;refine dU ?_;(try go_wp2);go_meet
         case rel=>exact ⟨_,(true),tSS,H',⟨by have:=HK1.out;first|omega|exact Nat.le_refl _⟩,kS HO_5,kA BK147,kA BK148,kA BK153,uA⟩
        ·clear c28;have H':=Sd.mk H;clear H;(try go_wp2);have n0_:Sd (Kd.R (Kd.int .i64) 3 (((w15.setCell ⟨gb153,0,none⟩ (.int .i64 ((rd_T94 l11 x6_1).f0))).setCell ⟨gb153,1,none⟩ (.int .i64 ((rd_T94 l11 x6_1).f1))).setCell ⟨gb153,2,none⟩ (.int .i64 ((rd_T94 l11 x6_1).f2))) w.heap.size (fun _=>True) v150 y149):=⟨kE (fR3 HO_5 BK153)⟩;have n1_:Sd ((((w15.setCell ⟨gb153,0,none⟩ (.int .i64 ((rd_T94 l11 x6_1).f0))).setCell ⟨gb153,1,none⟩ (.int .i64 ((rd_T94 l11 x6_1).f1))).setCell ⟨gb153,2,none⟩ (.int .i64 ((rd_T94 l11 x6_1).f2))).heap[gb147]? = some (.cells #[.slice A0_0 l00.length c0_0,.slice A0_1 l01.length c0_1,.slice A0_2 l02.length c0_2,.slice A0_3 l03.length c0_3,.slice A0_4 l04.length c0_4] 26 (0,0))):=kH (bF3 BK147 NB147_153);have n2_:Sd ((((w15.setCell ⟨gb153,0,none⟩ (.int .i64 ((rd_T94 l11 x6_1).f0))).setCell ⟨gb153,1,none⟩ (.int .i64 ((rd_T94 l11 x6_1).f1))).setCell ⟨gb153,2,none⟩ (.int .i64 ((rd_T94 l11 x6_1).f2))).heap[gb148]? = some (.cells #[.string a1_0,.slice (some ad152) l11.length c1_1] 89 (0,0))):=kH (bF3 BK148 NB148_153);have n3_:Sd ((((w15.setCell ⟨gb153,0,none⟩ (.int .i64 ((rd_T94 l11 x6_1).f0))).setCell ⟨gb153,1,none⟩ (.int .i64 ((rd_T94 l11 x6_1).f1))).setCell ⟨gb153,2,none⟩ (.int .i64 ((rd_T94 l11 x6_1).f2))).heap[gb153]? = some (.cells #[.int .i64 ((rd_T94 l11 x6_1).f0),.int .i64 ((rd_T94 l11 x6_1).f1),.int .i64 ((rd_T94 l11 x6_1).f2)] 94 (0,0))):=kH (bQ3 BK153);have n4_:Sd (Below w.heap.size w (((w15.setCell ⟨gb153,0,none⟩ (.int .i64 ((rd_T94 l11 x6_1).f0))).setCell ⟨gb153,1,none⟩ (.int .i64 ((rd_T94 l11 x6_1).f1))).setCell ⟨gb153,2,none⟩ (.int .i64 ((rd_T94 l11 x6_1).f2)))):=uA;(try clear HO_5);(try clear BK147);(try clear BK148);(try clear BK153);(try clear HB);generalize (((w15.setCell ⟨gb153,0,none⟩ (.int .i64 ((rd_T94 l11 x6_1).f0))).setCell ⟨gb153,1,none⟩ (.int .i64 ((rd_T94 l11 x6_1).f1))).setCell ⟨gb153,2,none⟩ (.int .i64 ((rd_T94 l11 x6_1).f2)))=w32 at n0_ n1_ n2_ n3_ n4_ ⊢;have HO_5:=n0_;have BK147:=n1_;have BK148:=n2_;have BK153:=n3_;have HB:=n4_;clear n0_ n1_ n2_ n3_ n4_;have n0_:=Sd.mk (Kd.R_drewN HO_5.out nd);have n1_:=uF BK147 nd;have n2_:=uF BK148 nd;have n3_:=uF BK153 nd;have n4_:=uJ HB nd;clear HO_5 BK147 BK148 BK153 HB;have HO_5:=n0_;have BK147:=n1_;have BK148:=n2_;have BK153:=n3_;have HB:=n4_;clear n0_ n1_ n2_ n3_ n4_;generalize w32.drewN nd=w32 at HO_5 BK147 BK148 BK153 HB ⊢;replace HO_5:=Sd.mk (Kd.R_drew HO_5.out);replace BK147:=uE BK147;replace BK148:=uE BK148;replace BK153:=uE BK153;replace HB:=uI HB;obtain ⟨Ao34,co34,eo34⟩:=Kd.R_slice HO_5.out;(first|subst eo34|(injection eo34 with f1_ f2_ f3_;have f4_:=f1_.symm;have f5_:=f3_.symm;clear f1_ f2_ f3_;subst f4_;subst f5_));have p155:0 ≤ (t154:Int):=tD;have q155:t154 < (y149.length:Int):=tD;obtain ⟨ad155,e155,hx155_0⟩:=Kd.at_int (Kd.R_reads' HO_5.out).2.2 t154 p155 q155;cases e155;replace p155:=eq_true p155;replace q155:=eq_true q155;refine start_ (n:=31) (S:=fun w'=>w'.cell? ⟨gb153,0,none⟩=some (.int .i64 ((rd_T94 l11 x6_1).f0))∧w'.cell? ⟨gb153,1,none⟩=some (.int .i64 ((rd_T94 l11 x6_1).f1))∧w'.cell? ⟨gb153,2,none⟩=some (.int .i64 ((rd_T94 l11 x6_1).f2))∧w'.cell? (ad155.add (t154).toNat)=some (.int .i64 (rd y149 t154))) (ds:=[]) (ab 31 0) (by kernel_rfl) rfl rfl ⟨cB BK153 0,cB BK153 1,cB BK153 2,hx155_0⟩ (fun hH=>?_);refine with_tabW r16_Oper.tab7 r16_Oper.bits7 (fun HT_ HW_=>?_);generalize w32.drew=w33 at HO_5 BK147 BK148 BK153 HB hx155_0 hH ⊢;refine pU 0 35 ?_;refine pU 2 37 ?_;refine pU 3 38 ?_;refine pU 4 39 ?_;refine tU 1 36 ?_;refine tU 5 40 ?_;refine oU (N:=some 41) 6 (fun K hK=>?_);refine gO Tryz.func108 #[.int .i64 ((rd_T94 l11 x6_1).f1),.int .i64 (rd y149 t154)] ?_;(with_reducible refine (r16_in.calls ((rd_T94 l11 x6_1).f1) (rd y149 t154) true _ A21.out).mono ?_);rintro e w' ⟨rfl,⟨nd,rfl⟩⟩;refine ⟨_,rfl,?_⟩;refine hK.out _ _ ⟨cB BK153 0,cB BK153 1,cB BK153 2,hH.2.2.2⟩ (fun hH=>?_);clear hK K;refine nU ?_;refine pU 7 42 ?_;refine pU 8 43 ?_;refine pU 9 44 ?_;refine pU 10 45 ?_;refine pU 11 46 ?_;refine pU 12 47 ?_;refine tU 13 48 ?_;refine pU 14 49 ?_;refine pU 15 50 ?_;refine pU 16 51 ?_;refine tU 17 52 ?_;refine pU 18 53 ?_;refine pU 19 54 ?_;refine pU 20 55 ?_;refine pU 21 56 ?_;refine pU 22 57 ?_;refine pU 23 58 ?_;refine pU 24 59 ?_;refine pU 25 60 ?_;refine pV 26 61 ?_;refine pV 27 62 ?_;refine pV 28 63 ?_;refine pU 29 64 ?_;refine pU 30 65 ?_;refine dU ?_;(try go_wp2);go_meet
         case rel=>exact ⟨_,(false),tSS,H',⟨by have:=HK1.out;first|omega|exact Nat.le_refl _⟩,kS HO_5,kA BK147,kA BK148,kA BK153,uA⟩
      ·have H':=Sd.mk H;clear H;(try go_wp2);have n0_:Sd (Kd.R (Kd.int .i64) 3 (((w15.setCell ⟨gb153,0,none⟩ (.int .i64 ((rd_T94 l11 x6_1).f0))).setCell ⟨gb153,1,none⟩ (.int .i64 ((rd_T94 l11 x6_1).f1))).setCell ⟨gb153,2,none⟩ (.int .i64 ((rd_T94 l11 x6_1).f2))) w.heap.size (fun _=>True) v150 y149):=⟨kE (fR3 HO_5 BK153)⟩;have n1_:Sd ((((w15.setCell ⟨gb153,0,none⟩ (.int .i64 ((rd_T94 l11 x6_1).f0))).setCell ⟨gb153,1,none⟩ (.int .i64 ((rd_T94 l11 x6_1).f1))).setCell ⟨gb153,2,none⟩ (.int .i64 ((rd_T94 l11 x6_1).f2))).heap[gb147]? = some (.cells #[.slice A0_0 l00.length c0_0,.slice A0_1 l01.length c0_1,.slice A0_2 l02.length c0_2,.slice A0_3 l03.length c0_3,.slice A0_4 l04.length c0_4] 26 (0,0))):=kH (bF3 BK147 NB147_153);have n2_:Sd ((((w15.setCell ⟨gb153,0,none⟩ (.int .i64 ((rd_T94 l11 x6_1).f0))).setCell ⟨gb153,1,none⟩ (.int .i64 ((rd_T94 l11 x6_1).f1))).setCell ⟨gb153,2,none⟩ (.int .i64 ((rd_T94 l11 x6_1).f2))).heap[gb148]? = some (.cells #[.string a1_0,.slice (some ad152) l11.length c1_1] 89 (0,0))):=kH (bF3 BK148 NB148_153);have n3_:Sd ((((w15.setCell ⟨gb153,0,none⟩ (.int .i64 ((rd_T94 l11 x6_1).f0))).setCell ⟨gb153,1,none⟩ (.int .i64 ((rd_T94 l11 x6_1).f1))).setCell ⟨gb153,2,none⟩ (.int .i64 ((rd_T94 l11 x6_1).f2))).heap[gb153]? = some (.cells #[.int .i64 ((rd_T94 l11 x6_1).f0),.int .i64 ((rd_T94 l11 x6_1).f1),.int .i64 ((rd_T94 l11 x6_1).f2)] 94 (0,0))):=kH (bQ3 BK153);have n4_:Sd (Below w.heap.size w (((w15.setCell ⟨gb153,0,none⟩ (.int .i64 ((rd_T94 l11 x6_1).f0))).setCell ⟨gb153,1,none⟩ (.int .i64 ((rd_T94 l11 x6_1).f1))).setCell ⟨gb153,2,none⟩ (.int .i64 ((rd_T94 l11 x6_1).f2)))):=uA;(try clear HO_5);(try clear BK147);(try clear BK148);(try clear BK153);(try clear HB);generalize (((w15.setCell ⟨gb153,0,none⟩ (.int .i64 ((rd_T94 l11 x6_1).f0))).setCell ⟨gb153,1,none⟩ (.int .i64 ((rd_T94 l11 x6_1).f1))).setCell ⟨gb153,2,none⟩ (.int .i64 ((rd_T94 l11 x6_1).f2)))=w35 at n0_ n1_ n2_ n3_ n4_ ⊢;have HO_5:=n0_;have BK147:=n1_;have BK148:=n2_;have BK153:=n3_;have HB:=n4_;clear n0_ n1_ n2_ n3_ n4_;have n0_:=Sd.mk (Kd.R_drewN HO_5.out nd);have n1_:=uF BK147 nd;have n2_:=uF BK148 nd;have n3_:=uF BK153 nd;have n4_:=uJ HB nd;clear HO_5 BK147 BK148 BK153 HB;have HO_5:=n0_;have BK147:=n1_;have BK148:=n2_;have BK153:=n3_;have HB:=n4_;clear n0_ n1_ n2_ n3_ n4_;generalize w35.drewN nd=w35 at HO_5 BK147 BK148 BK153 HB ⊢;replace HO_5:=Sd.mk (Kd.R_drew HO_5.out);replace BK147:=uE BK147;replace BK148:=uE BK148;replace BK153:=uE BK153;replace HB:=uI HB;obtain ⟨Ao37,co37,eo37⟩:=Kd.R_slice HO_5.out;(first|subst eo37|(injection eo37 with f1_ f2_ f3_;have f4_:=f1_.symm;have f5_:=f3_.symm;clear f1_ f2_ f3_;subst f4_;subst f5_));have p155:0 ≤ (t154:Int):=tD;have q155:t154 < (y149.length:Int):=tD;obtain ⟨ad155,e155,hx155_0⟩:=Kd.at_int (Kd.R_reads' HO_5.out).2.2 t154 p155 q155;cases e155;replace p155:=eq_true p155;replace q155:=eq_true q155;refine start_ (n:=31) (S:=fun w'=>w'.cell? ⟨gb153,0,none⟩=some (.int .i64 ((rd_T94 l11 x6_1).f0))∧w'.cell? ⟨gb153,1,none⟩=some (.int .i64 ((rd_T94 l11 x6_1).f1))∧w'.cell? ⟨gb153,2,none⟩=some (.int .i64 ((rd_T94 l11 x6_1).f2))∧w'.cell? (ad155.add (t154).toNat)=some (.int .i64 (rd y149 t154))) (ds:=[]) (ab 31 0) (by kernel_rfl) rfl rfl ⟨cB BK153 0,cB BK153 1,cB BK153 2,hx155_0⟩ (fun hH=>?_);refine with_tabW r16_Oper.tab7 r16_Oper.bits7 (fun HT_ HW_=>?_);generalize w35.drew=w36 at HO_5 BK147 BK148 BK153 HB hx155_0 hH ⊢;refine pU 0 35 ?_;refine pU 2 37 ?_;refine pU 3 38 ?_;refine pU 4 39 ?_;refine tU 1 36 ?_;refine tU 5 40 ?_;refine oU (N:=some 41) 6 (fun K hK=>?_);refine gO Tryz.func108 #[.int .i64 ((rd_T94 l11 x6_1).f1),.int .i64 (rd y149 t154)] ?_;(with_reducible refine (r16_in.calls ((rd_T94 l11 x6_1).f1) (rd y149 t154) true _ A21.out).mono ?_);rintro e w' ⟨rfl,⟨nd,rfl⟩⟩;refine ⟨_,rfl,?_⟩;refine hK.out _ _ ⟨cB BK153 0,cB BK153 1,cB BK153 2,hH.2.2.2⟩ (fun hH=>?_);clear hK K;refine nU ?_;refine pU 7 42 ?_;refine pU 8 43 ?_;refine pU 9 44 ?_;refine pU 10 45 ?_;refine pU 11 46 ?_;refine pV 12 47 ?_;refine pV 13 48 ?_;refine pV 14 49 ?_;refine pV 15 50 ?_;refine pV 16 51 ?_;refine pV 17 52 ?_;refine pV 18 53 ?_;refine pV 19 54 ?_;refine pU 20 55 ?_;refine pU 21 56 ?_;refine pU 22 57 ?_;refine pU 23 58 ?_;refine pU 24 59 ?_;refine pU 25 60 ?_;refine pU 26 61 ?_;refine tU 27 62 ?_;refine pU 28 63 ?_;refine pU 29 64 ?_;refine pU 30 65 ?_;refine dU ?_;(try go_wp2);go_meet
       case rel=>exact ⟨_,((((rd_T94 l11 x6_1).f2) != 0)),tSS,H',⟨by have:=HK1.out;first|omega|exact Nat.le_refl _⟩,kS HO_5,kA BK147,kA BK148,kA BK153,uA⟩
     ·replace c22:=Bool.eq_false_iff.mpr c22;subst c22;replace H:=iF H;have H':=Sd.mk H;clear H;(try go_wp2);have n0_:Sd (Kd.R (Kd.int .i64) 3 (((w15.setCell ⟨gb153,0,none⟩ (.int .i64 ((rd_T94 l11 x6_1).f0))).setCell ⟨gb153,1,none⟩ (.int .i64 ((rd_T94 l11 x6_1).f1))).setCell ⟨gb153,2,none⟩ (.int .i64 ((rd_T94 l11 x6_1).f2))) w.heap.size (fun _=>True) v150 y149):=⟨kE (fR3 HO_5 BK153)⟩;have n1_:Sd ((((w15.setCell ⟨gb153,0,none⟩ (.int .i64 ((rd_T94 l11 x6_1).f0))).setCell ⟨gb153,1,none⟩ (.int .i64 ((rd_T94 l11 x6_1).f1))).setCell ⟨gb153,2,none⟩ (.int .i64 ((rd_T94 l11 x6_1).f2))).heap[gb147]? = some (.cells #[.slice A0_0 l00.length c0_0,.slice A0_1 l01.length c0_1,.slice A0_2 l02.length c0_2,.slice A0_3 l03.length c0_3,.slice A0_4 l04.length c0_4] 26 (0,0))):=kH (bF3 BK147 NB147_153);have n2_:Sd ((((w15.setCell ⟨gb153,0,none⟩ (.int .i64 ((rd_T94 l11 x6_1).f0))).setCell ⟨gb153,1,none⟩ (.int .i64 ((rd_T94 l11 x6_1).f1))).setCell ⟨gb153,2,none⟩ (.int .i64 ((rd_T94 l11 x6_1).f2))).heap[gb148]? = some (.cells #[.string a1_0,.slice (some ad152) l11.length c1_1] 89 (0,0))):=kH (bF3 BK148 NB148_153);have n3_:Sd ((((w15.setCell ⟨gb153,0,none⟩ (.int .i64 ((rd_T94 l11 x6_1).f0))).setCell ⟨gb153,1,none⟩ (.int .i64 ((rd_T94 l11 x6_1).f1))).setCell ⟨gb153,2,none⟩ (.int .i64 ((rd_T94 l11 x6_1).f2))).heap[gb153]? = some (.cells #[.int .i64 ((rd_T94 l11 x6_1).f0),.int .i64 ((rd_T94 l11 x6_1).f1),.int .i64 ((rd_T94 l11 x6_1).f2)] 94 (0,0))):=kH (bQ3 BK153);have n4_:Sd (Below w.heap.size w (((w15.setCell ⟨gb153,0,none⟩ (.int .i64 ((rd_T94 l11 x6_1).f0))).setCell ⟨gb153,1,none⟩ (.int .i64 ((rd_T94 l11 x6_1).f1))).setCell ⟨gb153,2,none⟩ (.int .i64 ((rd_T94 l11 x6_1).f2)))):=uA;(try clear HO_5);(try clear BK147);(try clear BK148);(try clear BK153);(try clear HB);generalize (((w15.setCell ⟨gb153,0,none⟩ (.int .i64 ((rd_T94 l11 x6_1).f0))).setCell ⟨gb153,1,none⟩ (.int .i64 ((rd_T94 l11 x6_1).f1))).setCell ⟨gb153,2,none⟩ (.int .i64 ((rd_T94 l11 x6_1).f2)))=w38 at n0_ n1_ n2_ n3_ n4_ ⊢;have HO_5:=n0_;have BK147:=n1_;have BK148:=n2_;have BK153:=n3_;have HB:=n4_;clear n0_ n1_ n2_ n3_ n4_;have n0_:=Sd.mk (Kd.R_drewN HO_5.out nd);have n1_:=uF BK147 nd;have n2_:=uF BK148 nd;have n3_:=uF BK153 nd;have n4_:=uJ HB nd;clear HO_5 BK147 BK148 BK153 HB;have HO_5:=n0_;have BK147:=n1_;have BK148:=n2_;have BK153:=n3_;have HB:=n4_;clear n0_ n1_ n2_ n3_ n4_;generalize w38.drewN nd=w38 at HO_5 BK147 BK148 BK153 HB ⊢;replace HO_5:=Sd.mk (Kd.R_drew HO_5.out);replace BK147:=uE BK147;replace BK148:=uE BK148;replace BK153:=uE BK153;replace HB:=uI HB;obtain ⟨Ao40,co40,eo40⟩:=Kd.R_slice HO_5.out;(first|subst eo40|(injection eo40 with f1_ f2_ f3_;have f4_:=f1_.symm;have f5_:=f3_.symm;clear f1_ f2_ f3_;subst f4_;subst f5_));have p155:0 ≤ (t154:Int):=tD;have q155:t154 < (y149.length:Int):=tD;obtain ⟨ad155,e155,hx155_0⟩:=Kd.at_int (Kd.R_reads' HO_5.out).2.2 t154 p155 q155;cases e155;replace p155:=eq_true p155;replace q155:=eq_true q155;refine start_ (n:=31) (S:=fun w'=>w'.cell? ⟨gb153,0,none⟩=some (.int .i64 ((rd_T94 l11 x6_1).f0))∧w'.cell? ⟨gb153,1,none⟩=some (.int .i64 ((rd_T94 l11 x6_1).f1))∧w'.cell? ⟨gb153,2,none⟩=some (.int .i64 ((rd_T94 l11 x6_1).f2))∧w'.cell? (ad155.add (t154).toNat)=some (.int .i64 (rd y149 t154))) (ds:=[]) (ab 31 0) (by kernel_rfl) rfl rfl ⟨cB BK153 0,cB BK153 1,cB BK153 2,hx155_0⟩ (fun hH=>?_);refine with_tabW r16_Oper.tab7 r16_Oper.bits7 (fun HT_ HW_=>?_);generalize w38.drew=w39 at HO_5 BK147 BK148 BK153 HB hx155_0 hH ⊢;refine pU 0 35 ?_;refine pU 2 37 ?_;refine pU 3 38 ?_;refine pU 4 39 ?_;refine tU 1 36 ?_;refine tU 5 40 ?_;refine oU (N:=some 41) 6 (fun K hK=>?_);refine gO Tryz.func108 #[.int .i64 ((rd_T94 l11 x6_1).f1),.int .i64 (rd y149 t154)] ?_;(with_reducible refine (r16_in.calls ((rd_T94 l11 x6_1).f1) (rd y149 t154) false _ A21.out).mono ?_);rintro e w' ⟨rfl,⟨nd,rfl⟩⟩;refine ⟨_,rfl,?_⟩;refine hK.out _ _ ⟨cB BK153 0,cB BK153 1,cB BK153 2,hH.2.2.2⟩ (fun hH=>?_);clear hK K;refine nU ?_;refine pU 7 42 ?_;refine pU 8 43 ?_;refine pV 9 44 ?_;refine pV 10 45 ?_;refine pV 11 46 ?_;refine pV 12 47 ?_;refine pV 13 48 ?_;refine pV 14 49 ?_;refine pV 15 50 ?_;refine pV 16 51 ?_;refine pV 17 52 ?_;refine pV 18 53 ?_;refine pV 19 54 ?_;refine pV 20 55 ?_;refine pU 21 56 ?_;refine pU 22 57 ?_;refine pV 23 58 ?_;refine pV 24 59 ?_;refine pV 25 60 ?_;refine pV 26 61 ?_;refine pV 27 62 ?_;refine pV 28 63 ?_;refine pV 29 64 ?_;refine pU 30 65 ?_;refine dU ?_;(try go_wp2);go_meet
      case rel=>exact ⟨_,(true),tSS,H',⟨by have:=HK1.out;first|omega|exact Nat.le_refl _⟩,kS HO_5,kA BK147,kA BK148,kA BK153,uA⟩
    case rest =>
     clear HC12;obtain ⟨kq,x65_11,rfl,HA,HJ11,HO_5,BK147,BK148,BK153,HB⟩:=hcut;cases kq with
     | zero=>exact absurd HA.out (by simp [r16_Oper.j1])
     | succ kj11 =>
      have H:=HA.out;clear HA;simp only [r16_Oper.j1] at H;by_cases c41:x65_11=true
      ·subst c41;replace H:=iT H;obtain rfl:=sI H;go_wp2;go_ret;exact ⟨tW,uB⟩
      ·replace c41:=Bool.eq_false_iff.mpr c41;subst c41;replace H:=iF H;have H':=Sd.mk H;clear H;go_wp2;go_loopg [9] kj11 (fun kq v9 w'=>∃ (x9_3:Int),v9 = .int .i64 x9_3∧Sd (r16_Oper.l1 kq y149 x6_1 t154 x9_3 a1_0 l11 ((rd_T94 l11 x6_1).f0) ((rd_T94 l11 x6_1).f1) ((rd_T94 l11 x6_1).f2)=some r)∧Sd (kq ≤ kj11)∧Sd (Kd.R (Kd.int .i64) 3 w' w.heap.size (fun _=>True) v150 y149)∧Sd (w'.heap[gb147]? = some (.cells #[(.slice A0_0 l00.length c0_0),(.slice A0_1 l01.length c0_1),(.slice A0_2 l02.length c0_2),(.slice A0_3 l03.length c0_3),(.slice A0_4 l04.length c0_4)] 26 (0,0)))∧Sd (w'.heap[gb148]? = some (.cells #[.string a1_0,(.slice (some ad152) l11.length c1_1)] 89 (0,0)))∧Sd (w'.heap[gb153]? = some (.cells #[.int .i64 ((rd_T94 l11 x6_1).f0),.int .i64 ((rd_T94 l11 x6_1).f1),.int .i64 ((rd_T94 l11 x6_1).f2)] 94 (0,0)))∧Sd (Below w.heap.size w w'))
       case atStart=>exact ⟨(0),tSS,H',⟨Nat.le_refl _⟩,kS HO_5,kA BK147,kA BK148,kA BK153,uA⟩
       case round =>
        clear H';(try clear c41);obtain ⟨x9_3,rfl,HA,HK3,HO_5,BK147,BK148,BK153,HB⟩:=hrel;cases gk with
        | zero=>exact absurd HA.out (by simp [r16_Oper.l1])
        | succ k3 =>
         have H:=HA.out;clear HA;simp only [r16_Oper.l1] at H;replace H:=iD H;rcases H with ⟨c42,c42b0,H⟩ | ⟨c42,c42b0,H⟩
         ·clear c42;obtain ⟨c43,H⟩:=gG H;have c43b0:=dTr c43;clear c43;obtain ⟨c44,H⟩:=gG H;have c44b0:=dTr c44;clear c44;obtain ⟨t158,A45,H⟩:=oB H;replace H:=iE H;rcases H with ⟨c46,c46b0,c46b1,H⟩ | ⟨c46,c46b0,c46b1,H⟩
          ·clear c46;have HC47:=Sd.mk H;clear H;(try go_wp2);replace HO_5:=Sd.mk (Kd.R_drew HO_5.out);replace BK147:=uE BK147;replace BK148:=uE BK148;replace BK153:=uE BK153;replace HB:=uI HB;have p157:0 ≤ (x9_3:Int):=tD;have q157:x9_3 < (l11.length:Int):=tD;obtain ⟨ad157,e157,hx157_0,hx157_1,hx157_2⟩:=at_T94 HR11.out x9_3 p157 q157;have hw157_2:=hx157_2;have hw157_1:=hx157_1;have hw157_0:=hx157_0;obtain rfl:ad152=ad157:=(by injection e157);replace hx157_0:=uC HB hx157_0;replace hx157_1:=uC HB hx157_1;replace hx157_2:=uC HB hx157_2;replace p157:=eq_true p157;replace q157:=eq_true q157;have p159:0 ≤ (x9_3:Int):=tD;have q159:x9_3 < (l11.length:Int):=tD;obtain ⟨ad159,e159,hx159_0,hx159_1,hx159_2⟩:=at_T94 HR11.out x9_3 p159 q159;have hw159_2:=hx159_2;have hw159_1:=hx159_1;have hw159_0:=hx159_0;obtain rfl:ad152=ad159:=(by injection e159);replace hx159_0:=uC HB hx159_0;replace hx159_1:=uC HB hx159_1;replace hx159_2:=uC HB hx159_2;replace p159:=eq_true p159;replace q159:=eq_true q159;refine start_ (n:=20) (S:=fun w'=>w'.cell? ⟨gb148,0,none⟩=some (.string a1_0)∧w'.cell? ⟨gb148,1,none⟩=some (.slice (some ad152) l11.length c1_1)∧w'.cell? ⟨gb153,0,none⟩=some (.int .i64 ((rd_T94 l11 x6_1).f0))∧w'.cell? ⟨gb153,1,none⟩=some (.int .i64 ((rd_T94 l11 x6_1).f1))∧w'.cell? ⟨gb153,2,none⟩=some (.int .i64 ((rd_T94 l11 x6_1).f2))∧w'.cell? (ad152.add ((x9_3).toNat * 3))=some (.int .i64 ((rd_T94 l11 x9_3).f0))∧w'.cell? ⟨(ad152.add ((x9_3).toNat * 3)).block,(ad152.add ((x9_3).toNat * 3)).off + 1,none⟩=some (.int .i64 ((rd_T94 l11 x9_3).f1))∧w'.cell? ⟨(ad152.add ((x9_3).toNat * 3)).block,(ad152.add ((x9_3).toNat * 3)).off + 2,none⟩=some (.int .i64 ((rd_T94 l11 x9_3).f2))∧w'.cell? (ad152.add ((x9_3).toNat * 3))=some (.int .i64 ((rd_T94 l11 x9_3).f0))∧w'.cell? ⟨(ad152.add ((x9_3).toNat * 3)).block,(ad152.add ((x9_3).toNat * 3)).off + 1,none⟩=some (.int .i64 ((rd_T94 l11 x9_3).f1))∧w'.cell? ⟨(ad152.add ((x9_3).toNat * 3)).block,(ad152.add ((x9_3).toNat * 3)).off + 2,none⟩=some (.int .i64 ((rd_T94 l11 x9_3).f2))) (ds:=[]) (ab 20 0) (by kernel_rfl) rfl rfl ⟨cB BK148 0,cB BK148 1,cB BK153 0,cB BK153 1,cB BK153 2,uV hw157_0,uV hw157_1,uV hw157_2,uV hw159_0,uV hw159_1,uV hw159_2⟩ (fun hH=>?_);refine with_tabW r16_Oper.tab12 r16_Oper.bits12 (fun HT_ HW_=>?_);generalize wr.drew=w48 at HO_5 BK147 BK148 BK153 HB hx157_0 hx157_1 hx157_2 hx159_0 hx159_1 hx159_2 hH ⊢;refine pU 0 71 ?_;refine pU 2 73 ?_;refine pU 7 78 ?_;refine tU 1 72 ?_;refine pU 3 74 ?_;refine pU 4 75 ?_;refine tU 5 76 ?_;refine oU (N:=some 77) 6 (fun K hK=>?_);refine gO Tryz.func109 #[.int .i64 ((rd_T94 l11 x9_3).f0)] ?_;(with_reducible refine (r16_Sort.calls k3 ((rd_T94 l11 x9_3).f0) t158 _ A45.out).mono ?_);rintro e w' ⟨rfl,⟨nd,rfl⟩⟩;refine ⟨_,rfl,?_⟩;refine hK.out _ _ ⟨cB BK148 0,cB BK148 1,cB BK153 0,cB BK153 1,cB BK153 2,uV hw157_0,uV hw157_1,uV hw157_2,uV hw159_0,uV hw159_1,uV hw159_2⟩ (fun hH=>?_);clear hK K;refine nU ?_;refine pU 8 79 ?_;refine pU 9 80 ?_;refine pU 10 81 ?_;refine pU 12 83 ?_;refine pU 16 87 ?_;refine tU 11 82 ?_;refine pU 13 84 ?_;refine pU 14 85 ?_;refine tU 15 86 ?_;refine tU 17 88 ?_;refine pU 18 89 ?_;refine pU 19 90 ?_;refine dU ?_;go_upto_if 90 with (fail);have H:=HC47.out;clear HC47;replace H:=iE H;rcases H with ⟨c49,c49b0,c49b1,H⟩ | ⟨c49,c49b0,c49b1,H⟩
           ·clear c49;(first|rw [c49b0]|(simp only [i64_w,i32_w];rw [c49b0])|rw [c49b1]|skip);obtain rfl:=sI H;go_wp2;go_ret;exact ⟨tW,uB⟩
           ·(first|rw [c49b0]|(simp only [i64_w,i32_w];rw [c49b0])|rw [c49b1]|skip);have H':=Sd.mk H;clear H;go_wp2;go_roundg k3
            case measure=>have:=HK1.out;have:=HJ11.out;have:=HK3.out;omega
            case rel=>exact ⟨(wrap64 (x9_3 + 1)),tSS,H',⟨by have:=HK1.out;have:=HJ11.out;have:=HK3.out;omega⟩,kS HO_5,kA BK147,kA BK148,kA BK153,uA⟩
          ·have H':=Sd.mk H;clear H;(try go_wp2);replace HO_5:=Sd.mk (Kd.R_drew HO_5.out);replace BK147:=uE BK147;replace BK148:=uE BK148;replace BK153:=uE BK153;replace HB:=uI HB;have p157:0 ≤ (x9_3:Int):=tD;have q157:x9_3 < (l11.length:Int):=tD;obtain ⟨ad157,e157,hx157_0,hx157_1,hx157_2⟩:=at_T94 HR11.out x9_3 p157 q157;have hw157_2:=hx157_2;have hw157_1:=hx157_1;have hw157_0:=hx157_0;obtain rfl:ad152=ad157:=(by injection e157);replace hx157_0:=uC HB hx157_0;replace hx157_1:=uC HB hx157_1;replace hx157_2:=uC HB hx157_2;replace p157:=eq_true p157;replace q157:=eq_true q157;refine start_ (n:=20) (S:=fun w'=>w'.cell? ⟨gb148,0,none⟩=some (.string a1_0)∧w'.cell? ⟨gb148,1,none⟩=some (.slice (some ad152) l11.length c1_1)∧w'.cell? (ad152.add ((x9_3).toNat * 3))=some (.int .i64 ((rd_T94 l11 x9_3).f0))∧w'.cell? ⟨(ad152.add ((x9_3).toNat * 3)).block,(ad152.add ((x9_3).toNat * 3)).off + 1,none⟩=some (.int .i64 ((rd_T94 l11 x9_3).f1))∧w'.cell? ⟨(ad152.add ((x9_3).toNat * 3)).block,(ad152.add ((x9_3).toNat * 3)).off + 2,none⟩=some (.int .i64 ((rd_T94 l11 x9_3).f2))) (ds:=[]) (ab 20 0) (by kernel_rfl) rfl rfl ⟨cB BK148 0,cB BK148 1,uV hw157_0,uV hw157_1,uV hw157_2⟩ (fun hH=>?_);refine with_tabW r16_Oper.tab12 r16_Oper.bits12 (fun HT_ HW_=>?_);generalize wr.drew=w50 at HO_5 BK147 BK148 BK153 HB hx157_0 hx157_1 hx157_2 hH ⊢;refine pU 0 71 ?_;refine pU 2 73 ?_;refine pU 7 78 ?_;refine tU 1 72 ?_;refine pU 3 74 ?_;refine pU 4 75 ?_;refine tU 5 76 ?_;refine oU (N:=some 77) 6 (fun K hK=>?_);refine gO Tryz.func109 #[.int .i64 ((rd_T94 l11 x9_3).f0)] ?_;(with_reducible refine (r16_Sort.calls k3 ((rd_T94 l11 x9_3).f0) t158 _ A45.out).mono ?_);rintro e w' ⟨rfl,⟨nd,rfl⟩⟩;refine ⟨_,rfl,?_⟩;refine hK.out _ _ ⟨cB BK148 0,cB BK148 1,uV hw157_0,uV hw157_1,uV hw157_2⟩ (fun hH=>?_);clear hK K;refine nU ?_;refine pU 8 79 ?_;refine pU 9 80 ?_;refine pV 10 81 ?_;refine pV 11 82 ?_;refine pV 12 83 ?_;refine pV 13 84 ?_;refine pV 14 85 ?_;refine pV 15 86 ?_;refine pV 16 87 ?_;refine pV 17 88 ?_;refine pV 18 89 ?_;refine pU 19 90 ?_;refine dU ?_;(try go_wp2);go_roundg k3
           case measure=>have:=HK1.out;have:=HJ11.out;have:=HK3.out;omega
           case rel=>exact ⟨(wrap64 (x9_3 + 1)),tSS,H',⟨by have:=HK1.out;have:=HJ11.out;have:=HK3.out;omega⟩,kS HO_5,kA BK147,kA BK148,kA BK153,uA⟩
         ·clear c42;have H':=Sd.mk H;clear H;go_wp2;go_roundg k3
          case measure=>have:=HK1.out;have:=HJ11.out;have:=HK3.out;omega
          case rel=>exact ⟨(wrap64 (x6_1 + 1)),tSS,H',⟨by have:=HK1.out;have:=HJ11.out;have:=HK3.out;omega⟩,kS HO_5,kA BK147,kA BK148,uA⟩
   ·clear c9;replace H:=iD H;rcases H with ⟨c51,c51b0,H⟩ | ⟨c51,c51b0,H⟩
    ·have c51b1:decide (1 ≤ l11.length)=true:=decide_eq_true (by omega);clear c51;obtain rfl:=sI H;have M52:=nP NB148_147;have Z53:=bd2 BK148;go_wp2;go_ret;exact ⟨tW,uB⟩
    ·have c51b1:decide (1 ≤ l11.length)=false:=decide_eq_false (by omega);clear c51;obtain rfl:=sI H;have M54:=nP NB148_147;have Z55:=bd2 BK148;go_wp2;go_ret;exact ⟨tW,uB⟩
def r14_digit.f (a0:Int):Option (Bool):=if a0 ≥ 48 then (some (decide (a0 ≤ 57))) else (some false)
theorem r14_digit.calls (a0:Int) (r:Bool) (w:World) (h:r14_digit.f a0=some r) :
  Calls Tryz.prog 159 #[.int .u8 a0] w fun e w'=>e = .returned (.bool r)∧Drawn0 w w':=by
 have H:=h;clear h;unfold r14_digit.f at H;replace H:=iD H;rcases H with ⟨c2,c2b0,H⟩ | ⟨c2,c2b0,H⟩
 ·clear c2;obtain rfl:=sI H;go_enter Tryz.func159,Tryz.ntmps159;go_wp2;go_ret;exact ⟨by first|rfl|(simp;done)|(simp [*];done),tR⟩
 ·clear c2;obtain rfl:=sI H;go_enter Tryz.func159,Tryz.ntmps159;go_wp2;go_ret;exact ⟨by first|rfl|(simp;done)|(simp [*];done),tR⟩
def r14_letter.f (a0:Int):Option (Bool):=if a0 ≥ 97 then (some (decide (a0 ≤ 122))) else (some false)
theorem r14_letter.calls (a0:Int) (r:Bool) (w:World) (h:r14_letter.f a0=some r) :
  Calls Tryz.prog 158 #[.int .u8 a0] w fun e w'=>e = .returned (.bool r)∧Drawn0 w w':=by
 have H:=h;clear h;unfold r14_letter.f at H;replace H:=iD H;rcases H with ⟨c2,c2b0,H⟩ | ⟨c2,c2b0,H⟩
 ·clear c2;obtain rfl:=sI H;go_enter Tryz.func158,Tryz.ntmps158;go_wp2;go_ret;exact ⟨by first|rfl|(simp;done)|(simp [*];done),tR⟩
 ·clear c2;obtain rfl:=sI H;go_enter Tryz.func158,Tryz.ntmps158;go_wp2;go_ret;exact ⟨by first|rfl|(simp;done)|(simp [*];done),tR⟩
def r14_Word.l0:Nat → ByteArray → Int → Option (Bool)
 | 0,_,_=>none
 | k + 1,x0,x3=>if x3 < (x0.size:Int) then (if 0 ≤ x3 then ((r14_letter.f (bt x0 x3)).bind fun t126=>(if t126=true then (r14_Word.l0 k x0 (wrap64 (x3 + 1))) else ((r14_digit.f (bt x0 x3)).bind fun t127=>(if t127=true then (if x3 > 0 then (r14_Word.l0 k x0 (wrap64 (x3 + 1))) else (some false)) else (some false))))) else (none)) else (if (x0.size:Int) ≥ 1 then (some (decide ((x0.size:Int) ≤ 16))) else (some false))
def r14_Word.f (k:Nat) (a0:ByteArray):Option (Bool):=r14_Word.l0 k a0 0
theorem r14_Word.calls (k:Nat) (a0:ByteArray) (r:Bool) (w:World) (h:r14_Word.f k a0=some r) :
  Calls Tryz.prog 138 #[.string a0] w fun e w'=>e = .returned (.bool r)∧Drawn0 w w':=by
 have H:=h;clear h;unfold r14_Word.f at H;have H':=Sd.mk H;clear H;go_enter Tryz.func138,Tryz.ntmps138;go_wp2;go_loopg [3] k (fun kq v3 w'=>∃ (x3_1:Int),v3 = .int .i64 x3_1∧Sd (r14_Word.l0 kq a0 x3_1=some r)∧Sd (kq ≤ k)∧Drawn0 w w')
 case atStart=>exact ⟨(0),tSS,H',⟨Nat.le_refl _⟩,tR⟩
 case round =>
  clear H';obtain ⟨x3_1,rfl,HA,HK1,⟨m1,rfl⟩⟩:=hrel;cases gk with
  | zero=>exact absurd HA.out (by simp [r14_Word.l0])
  | succ k1 =>
   have H:=HA.out;clear HA;simp only [r14_Word.l0] at H;replace H:=iD H;rcases H with ⟨c2,c2b0,H⟩ | ⟨c2,c2b0,H⟩
   ·clear c2;obtain ⟨c3,H⟩:=gG H;have c3b0:=dTr c3;clear c3;obtain ⟨t126,A5,H⟩:=oB H;by_cases c6:t126=true
    ·subst c6;replace H:=iT H;have H':=Sd.mk H;clear H;have p4:0 ≤ (x3_1:Int):=tD;have q4:x3_1 < (a0.size:Int):=tD;have hx4:=bt_at a0 x3_1;replace p4:=eq_true p4;replace q4:=eq_true q4;go_wp2_with (first|((with_reducible refine gate_callee (f:=158) rfl ?_);refine gL Tryz.func158 (some 13) #[.int .u8 (bt a0 x3_1)] ?_;(with_reducible refine (r14_letter.calls (bt a0 x3_1) true _ A5.out).mono ?_);rintro e w' ⟨rfl,⟨nd,rfl⟩⟩;refine ⟨_,rfl,?_⟩));go_roundg k1
     case measure=>have:=HK1.out;omega
     case rel=>exact ⟨(wrap64 (x3_1 + 1)),tSS,H',⟨by have:=HK1.out;omega⟩,tR⟩
    ·replace c6:=Bool.eq_false_iff.mpr c6;subst c6;replace H:=iF H;obtain ⟨t127,A8,H⟩:=oB H;by_cases c9:t127=true
     ·subst c9;replace H:=iT H;have HC10:=Sd.mk H;clear H;have p4:0 ≤ (x3_1:Int):=tD;have q4:x3_1 < (a0.size:Int):=tD;have hx4:=bt_at a0 x3_1;replace p4:=eq_true p4;replace q4:=eq_true q4;go_upto_if 25 with (first|((with_reducible refine gate_callee (f:=158) rfl ?_);refine gL Tryz.func158 (some 13) #[.int .u8 (bt a0 x3_1)] ?_;(with_reducible refine (r14_letter.calls (bt a0 x3_1) false _ A5.out).mono ?_);rintro e w' ⟨rfl,⟨nd,rfl⟩⟩;refine ⟨_,rfl,?_⟩;have p7:0 ≤ (x3_1:Int):=tD;have q7:x3_1 < (a0.size:Int):=tD;have hx7:=bt_at a0 x3_1;replace p7:=eq_true p7;replace q7:=eq_true q7)|(go_at_call 159;(with_reducible refine (r14_digit.calls (bt a0 x3_1) true _ A8.out).mono ?_);rintro e w' ⟨rfl,⟨nd,rfl⟩⟩));(try simp only [Act.put,q1_,q2_,q3_]);have H:=HC10.out;clear HC10;replace H:=iD H;rcases H with ⟨c11,c11b0,H⟩ | ⟨c11,c11b0,H⟩
      ·clear c11;(first|rw [c11b0]|(simp only [i64_w,i32_w];rw [c11b0])|rw [c11b1]|skip);have H':=Sd.mk H;clear H;go_wp2;go_roundg k1
       case measure=>have:=HK1.out;omega
       case rel=>exact ⟨(wrap64 (x3_1 + 1)),tSS,H',⟨by have:=HK1.out;omega⟩,tR⟩
      ·clear c11;(first|rw [c11b0]|(simp only [i64_w,i32_w];rw [c11b0])|rw [c11b1]|skip);obtain rfl:=sI H;go_wp2;go_ret;exact ⟨by first|rfl|(simp;done)|(simp [*];done),tR⟩
     ·replace c9:=Bool.eq_false_iff.mpr c9;subst c9;replace H:=iF H;obtain rfl:=sI H;have p4:0 ≤ (x3_1:Int):=tD;have q4:x3_1 < (a0.size:Int):=tD;have hx4:=bt_at a0 x3_1;replace p4:=eq_true p4;replace q4:=eq_true q4;go_wp2_with (first|((with_reducible refine gate_callee (f:=158) rfl ?_);refine gL Tryz.func158 (some 13) #[.int .u8 (bt a0 x3_1)] ?_;(with_reducible refine (r14_letter.calls (bt a0 x3_1) false _ A5.out).mono ?_);rintro e w' ⟨rfl,⟨nd,rfl⟩⟩;refine ⟨_,rfl,?_⟩;have p7:0 ≤ (x3_1:Int):=tD;have q7:x3_1 < (a0.size:Int):=tD;have hx7:=bt_at a0 x3_1;replace p7:=eq_true p7;replace q7:=eq_true q7)|(go_at_call 159;(with_reducible refine (r14_digit.calls (bt a0 x3_1) false _ A8.out).mono ?_);rintro e w' ⟨rfl,⟨nd,rfl⟩⟩));go_ret;exact ⟨by first|rfl|(simp;done)|(simp [*];done),tR⟩
   ·clear c2;replace H:=iD H;rcases H with ⟨c12,c12b0,H⟩ | ⟨c12,c12b0,H⟩
    ·have c12b1:decide (1 ≤ a0.size)=true:=decide_eq_true (by omega);clear c12;obtain rfl:=sI H;go_wp2;go_ret;exact ⟨by first|rfl|(simp;done)|(simp [*];done),tR⟩
    ·have c12b1:decide (1 ≤ a0.size)=false:=decide_eq_false (by omega);clear c12;obtain rfl:=sI H;go_wp2;go_ret;exact ⟨by first|rfl|(simp;done)|(simp [*];done),tR⟩
def r15_words.f  : Option (List ByteArray):=some (([(⟨#[115,101,116]⟩:ByteArray),(⟨#[99,111,117,110,116]⟩:ByteArray),(⟨#[110,111,116,101]⟩:ByteArray),(⟨#[114,117,108,101]⟩:ByteArray),(⟨#[111,112]⟩:ByteArray),(⟨#[115,116,114,105,99,116]⟩:ByteArray),(⟨#[114,101,102]⟩:ByteArray),(⟨#[98,111,116,104]⟩:ByteArray),(⟨#[108,105,109,105,116]⟩:ByteArray),(⟨#[109,111,115,116]⟩:ByteArray),(⟨#[108,101,97,115,116]⟩:ByteArray),(⟨#[110,101,101,100,115]⟩:ByteArray),(⟨#[97,100,100]⟩:ByteArray),(⟨#[100,114,111,112]⟩:ByteArray),(⟨#[117,112]⟩:ByteArray),(⟨#[100,111,119,110]⟩:ByteArray),(⟨#[112,117,116]⟩:ByteArray)]:List ByteArray))
theorem r15_words.calls  (r:List ByteArray) (w:World) (h:r15_words.f  = some r) :
  Calls Tryz.prog 160 #[] w fun e w'=>∃ v0_:Value,e = .returned (v0_)∧Kd.R Kd.string 9 w' w.heap.size (fun _=>True) v0_ r∧Below w.heap.size w w':=by
 have HB:=Sd.mk (Below.refl w.heap.size w);have H:=h;clear h;unfold r15_words.f at H;obtain ⟨y128,hy128⟩:∃ y_:List ByteArray,y_=(([(⟨#[115,101,116]⟩:ByteArray),(⟨#[99,111,117,110,116]⟩:ByteArray),(⟨#[110,111,116,101]⟩:ByteArray),(⟨#[114,117,108,101]⟩:ByteArray),(⟨#[111,112]⟩:ByteArray),(⟨#[115,116,114,105,99,116]⟩:ByteArray),(⟨#[114,101,102]⟩:ByteArray),(⟨#[98,111,116,104]⟩:ByteArray),(⟨#[108,105,109,105,116]⟩:ByteArray),(⟨#[109,111,115,116]⟩:ByteArray),(⟨#[108,101,97,115,116]⟩:ByteArray),(⟨#[110,101,101,100,115]⟩:ByteArray),(⟨#[97,100,100]⟩:ByteArray),(⟨#[100,114,111,112]⟩:ByteArray),(⟨#[117,112]⟩:ByteArray),(⟨#[100,111,119,110]⟩:ByteArray),(⟨#[112,117,116]⟩:ByteArray)]:List ByteArray)):=⟨_,rfl⟩;replace H:(some y128)=some r:=yR hy128 H;have Ny128:=Sd.mk hy128;clear hy128;obtain rfl:=sI H;go_enter Tryz.func160,Tryz.ntmps160;go_wp2_with (first|((with_reducible refine gate_dst (N:=1) rfl ?_);refine Kd.R_lit Kd.string _ 9 ?hg (N:=1) ?hd (xs:=([(⟨#[115,101,116]⟩:ByteArray),(⟨#[99,111,117,110,116]⟩:ByteArray),(⟨#[110,111,116,101]⟩:ByteArray),(⟨#[114,117,108,101]⟩:ByteArray),(⟨#[111,112]⟩:ByteArray),(⟨#[115,116,114,105,99,116]⟩:ByteArray),(⟨#[114,101,102]⟩:ByteArray),(⟨#[98,111,116,104]⟩:ByteArray),(⟨#[108,105,109,105,116]⟩:ByteArray),(⟨#[109,111,115,116]⟩:ByteArray),(⟨#[108,101,97,115,116]⟩:ByteArray),(⟨#[110,101,101,100,115]⟩:ByteArray),(⟨#[97,100,100]⟩:ByteArray),(⟨#[100,114,111,112]⟩:ByteArray),(⟨#[117,112]⟩:ByteArray),(⟨#[100,111,119,110]⟩:ByteArray),(⟨#[112,117,116]⟩:ByteArray)]:List ByteArray)) (inner:=[.string (⟨#[115,101,116]⟩:ByteArray),.string (⟨#[99,111,117,110,116]⟩:ByteArray),.string (⟨#[110,111,116,101]⟩:ByteArray),.string (⟨#[114,117,108,101]⟩:ByteArray),.string (⟨#[111,112]⟩:ByteArray),.string (⟨#[115,116,114,105,99,116]⟩:ByteArray),.string (⟨#[114,101,102]⟩:ByteArray),.string (⟨#[98,111,116,104]⟩:ByteArray),.string (⟨#[108,105,109,105,116]⟩:ByteArray),.string (⟨#[109,111,115,116]⟩:ByteArray),.string (⟨#[108,101,97,115,116]⟩:ByteArray),.string (⟨#[110,101,101,100,115]⟩:ByteArray),.string (⟨#[97,100,100]⟩:ByteArray),.string (⟨#[100,114,111,112]⟩:ByteArray),.string (⟨#[117,112]⟩:ByteArray),.string (⟨#[100,111,119,110]⟩:ByteArray),.string (⟨#[112,117,116]⟩:ByteArray)]) (ok:=fun _=>True) (okp:=fun _=>True) ?hr ?hp (fun _ hk=>hk) trivial (Below.refl _ _) (Nat.le_refl _) (by simp) ?_;(case hd=>rfl);(case hg=>rfl);(case hr=>first|(go_simp;done)|(go_simp;rfl));(case hp=>exact (Reps.one (show Kd.M Kd.string _ _ _ (⟨#[115,101,116]⟩:ByteArray) [.string (⟨#[115,101,116]⟩:ByteArray)] from rfl) (Reps.one (show Kd.M Kd.string _ _ _ (⟨#[99,111,117,110,116]⟩:ByteArray) [.string (⟨#[99,111,117,110,116]⟩:ByteArray)] from rfl) (Reps.one (show Kd.M Kd.string _ _ _ (⟨#[110,111,116,101]⟩:ByteArray) [.string (⟨#[110,111,116,101]⟩:ByteArray)] from rfl) (Reps.one (show Kd.M Kd.string _ _ _ (⟨#[114,117,108,101]⟩:ByteArray) [.string (⟨#[114,117,108,101]⟩:ByteArray)] from rfl) (Reps.one (show Kd.M Kd.string _ _ _ (⟨#[111,112]⟩:ByteArray) [.string (⟨#[111,112]⟩:ByteArray)] from rfl) (Reps.one (show Kd.M Kd.string _ _ _ (⟨#[115,116,114,105,99,116]⟩:ByteArray) [.string (⟨#[115,116,114,105,99,116]⟩:ByteArray)] from rfl) (Reps.one (show Kd.M Kd.string _ _ _ (⟨#[114,101,102]⟩:ByteArray) [.string (⟨#[114,101,102]⟩:ByteArray)] from rfl) (Reps.one (show Kd.M Kd.string _ _ _ (⟨#[98,111,116,104]⟩:ByteArray) [.string (⟨#[98,111,116,104]⟩:ByteArray)] from rfl) (Reps.one (show Kd.M Kd.string _ _ _ (⟨#[108,105,109,105,116]⟩:ByteArray) [.string (⟨#[108,105,109,105,116]⟩:ByteArray)] from rfl) (Reps.one (show Kd.M Kd.string _ _ _ (⟨#[109,111,115,116]⟩:ByteArray) [.string (⟨#[109,111,115,116]⟩:ByteArray)] from rfl) (Reps.one (show Kd.M Kd.string _ _ _ (⟨#[108,101,97,115,116]⟩:ByteArray) [.string (⟨#[108,101,97,115,116]⟩:ByteArray)] from rfl) (Reps.one (show Kd.M Kd.string _ _ _ (⟨#[110,101,101,100,115]⟩:ByteArray) [.string (⟨#[110,101,101,100,115]⟩:ByteArray)] from rfl) (Reps.one (show Kd.M Kd.string _ _ _ (⟨#[97,100,100]⟩:ByteArray) [.string (⟨#[97,100,100]⟩:ByteArray)] from rfl) (Reps.one (show Kd.M Kd.string _ _ _ (⟨#[100,114,111,112]⟩:ByteArray) [.string (⟨#[100,114,111,112]⟩:ByteArray)] from rfl) (Reps.one (show Kd.M Kd.string _ _ _ (⟨#[117,112]⟩:ByteArray) [.string (⟨#[117,112]⟩:ByteArray)] from rfl) (Reps.one (show Kd.M Kd.string _ _ _ (⟨#[100,111,119,110]⟩:ByteArray) [.string (⟨#[100,111,119,110]⟩:ByteArray)] from rfl) (Reps.one (show Kd.M Kd.string _ _ _ (⟨#[112,117,116]⟩:ByteArray) [.string (⟨#[112,117,116]⟩:ByteArray)] from rfl) (Reps.none _ _)))))))))))))))))));intro v129 w1 ho2 hb hg_ hnew_;clear hg_ hnew_;(first|rw [← Ny128.out] at ho2|(simp only [Int.reduceToNat] at ho2;rw [← Ny128.out] at ho2));have HO130:=Sd.mk (Kd.R_lower ho2 (below_size uB));replace HB:=uH hb;clear hb ho2));go_ret;exact ⟨_,tW,by (with_reducible repeat (first|apply Kd.R_alloc|apply Kd.R_drewN|apply Kd.R_drew));exact HO130.out,uB⟩
def r15_Kept.l0:Nat → ByteArray → List ByteArray → Int → Option (Bool)
 | 0,_,_,_=>none
 | k + 1,x0,x3,x4=>if x4 < (x3.length:Int) then (if 0 ≤ x4 then (if (rdOf ByteArray.empty x3 x4).toList=x0.toList then (some true) else (r15_Kept.l0 k x0 x3 (wrap64 (x4 + 1)))) else (none)) else (some false)
def r15_Kept.f (k:Nat) (a0:ByteArray):Option (Bool):=(r15_words.f).bind fun t131=>(r15_Kept.l0 k a0 t131 0)
theorem r15_Kept.calls (k:Nat) (a0:ByteArray) (r:Bool) (w:World) (h:r15_Kept.f k a0=some r) :
  Calls Tryz.prog 139 #[.string a0] w fun e w'=>e = .returned (.bool r)∧Below w.heap.size w w':=by
 have HB:=Sd.mk (Below.refl w.heap.size w);have H:=h;clear h;unfold r15_Kept.f at H;obtain ⟨t131,A2,H⟩:=oB H;have H':=Sd.mk H;clear H;go_enter Tryz.func139,Tryz.ntmps139;go_wp2_with (first|((with_reducible refine gate_callee (f:=160) rfl ?_);refine gL Tryz.func160 (some 5) #[] ?_;(with_reducible refine (r15_words.calls  t131 _ A2.out).mono ?_);rintro e w3 ⟨v132,rfl,ho0,hb⟩;refine ⟨_,rfl,?_⟩;have HO133:=Sd.mk (Kd.R_lower ho0 (below_size uB));replace HB:=uH hb;(try clear hb);(try clear ho0)));go_loopg [4] k (fun kq v4 w'=>∃ (x4_1:Int),v4 = .int .i64 x4_1∧Sd (r15_Kept.l0 kq a0 t131 x4_1=some r)∧Sd (kq ≤ k)∧Sd (Kd.R Kd.string 9 w' w.heap.size (fun _=>True) v132 t131)∧Sd (Below w.heap.size w w'))
 case atStart=>exact ⟨(0),tSS,H',⟨Nat.le_refl _⟩,kS HO133,uA⟩
 case round =>
  clear H';obtain ⟨x4_1,rfl,HA,HK1,HO_3,HB⟩:=hrel;cases gk with
  | zero=>exact absurd HA.out (by simp [r15_Kept.l0])
  | succ k1 =>
   have H:=HA.out;clear HA;simp only [r15_Kept.l0] at H;replace H:=iD H;rcases H with ⟨c4,c4b0,H⟩ | ⟨c4,c4b0,H⟩
   ·clear c4;obtain ⟨c5,H⟩:=gG H;have c5b0:=dTr c5;clear c5;replace H:=iE H;rcases H with ⟨c6,c6b0,c6b1,H⟩ | ⟨c6,c6b0,c6b1,H⟩
    ·clear c6;obtain rfl:=sI H;obtain ⟨Ao7,co7,eo7⟩:=Kd.R_slice HO_3.out;subst eo7;have p134:0 ≤ (x4_1:Int):=tD;have q134:x4_1 < (t131.length:Int):=tD;obtain ⟨ad134,e134,hx134_0⟩:=Kd.at_string (Kd.R_reads' HO_3.out).2.2 x4_1 p134 q134;cases e134;replace p134:=eq_true p134;replace q134:=eq_true q134;go_wp2;go_ret;exact ⟨tW,uB⟩
    ·have H':=Sd.mk H;clear H;obtain ⟨Ao8,co8,eo8⟩:=Kd.R_slice HO_3.out;subst eo8;have p134:0 ≤ (x4_1:Int):=tD;have q134:x4_1 < (t131.length:Int):=tD;obtain ⟨ad134,e134,hx134_0⟩:=Kd.at_string (Kd.R_reads' HO_3.out).2.2 x4_1 p134 q134;cases e134;replace p134:=eq_true p134;replace q134:=eq_true q134;go_wp2;go_roundg k1
     case measure=>have:=HK1.out;omega
     case rel=>exact ⟨(wrap64 (x4_1 + 1)),tSS,H',⟨by have:=HK1.out;omega⟩,kS HO_3,uA⟩
   ·clear c4;obtain rfl:=sI H;obtain ⟨Ao9,co9,eo9⟩:=Kd.R_slice HO_3.out;subst eo9;go_wp2;go_ret;exact ⟨tW,uB⟩
def r15_Name.f (k:Nat) (a0:ByteArray):Option (Bool):=(r14_Word.f k a0).bind fun t135=>(if t135=true then ((r15_Kept.f k a0).bind fun t136=>(some (!t136))) else (some false))
theorem r15_Name.calls (k:Nat) (a0:ByteArray) (r:Bool) (w:World) (h:r15_Name.f k a0=some r) :
  Calls Tryz.prog 106 #[.string a0] w fun e w'=>e = .returned (.bool r)∧Below w.heap.size w w':=by
 have HB:=Sd.mk (Below.refl w.heap.size w);have H:=h;clear h;unfold r15_Name.f at H;obtain ⟨t135,A2,H⟩:=oB H;by_cases c3:t135=true
 ·subst c3;replace H:=iT H;obtain ⟨t136,A4,H⟩:=oB H;obtain rfl:=sI H;go_enter Tryz.func106,Tryz.ntmps106;go_wp2_with (first|((with_reducible refine gate_callee (f:=138) rfl ?_);refine gL Tryz.func138 (some 4) #[.string a0] ?_;(with_reducible refine (r14_Word.calls k a0 true _ A2.out).mono ?_);rintro e w' ⟨rfl,⟨nd,rfl⟩⟩;refine ⟨_,rfl,?_⟩)|(go_at_call 139;(with_reducible refine (r15_Kept.calls k a0 t136 _ A4.out).mono ?_);rintro e w5 ⟨rfl,hb⟩;replace HB:=uH hb;(try clear hb)));go_ret;exact ⟨tW,uB⟩
 ·replace c3:=Bool.eq_false_iff.mpr c3;subst c3;replace H:=iF H;obtain rfl:=sI H;go_enter Tryz.func106,Tryz.ntmps106;go_wp2_with (first|((with_reducible refine gate_callee (f:=138) rfl ?_);refine gL Tryz.func138 (some 4) #[.string a0] ?_;(with_reducible refine (r14_Word.calls k a0 false _ A2.out).mono ?_);rintro e w' ⟨rfl,⟨nd,rfl⟩⟩;refine ⟨_,rfl,?_⟩));go_ret;exact ⟨tW,uB⟩
def r16_At.l0:Nat → List ByteArray → ByteArray → Int → Option (Int)
 | 0,_,_,_=>none
 | k + 1,x0,x1,x5=>if x5 < (x0.length:Int) then (if 0 ≤ x5 then (if (rdOf ByteArray.empty x0 x5).toList=x1.toList then (some x5) else (r16_At.l0 k x0 x1 (wrap64 (x5 + 1)))) else (none)) else (some (-1))
def r16_At.f (k:Nat) (l0:List ByteArray) (a1:ByteArray):Option (Int):=r16_At.l0 k l0 a1 0
theorem r16_At.calls (k:Nat) (A0:Option Addr) (c0:Nat) (l0:List ByteArray) (a1:ByteArray) (r:Int) (w:World) (hr0:Kd.C Kd.string w A0 l0.length l0) (hc0:l0.length ≤ c0) (h:r16_At.f k l0 a1=some r) :
  Calls Tryz.prog 107 #[.slice A0 l0.length c0,.string a1] w fun e w'=>e = .returned (.int .i64 r)∧Drawn0 w w':=by
 have HR0:=Sd.mk hr0;have HC0:=Sd.mk hc0;clear hr0 hc0;have H:=h;clear h;unfold r16_At.f at H;have H':=Sd.mk H;clear H;go_enter Tryz.func107,Tryz.ntmps107;go_wp2;go_loopg [5] k (fun kq v5 w'=>∃ (x5_1:Int),v5 = .int .i64 x5_1∧Sd (r16_At.l0 kq l0 a1 x5_1=some r)∧Sd (kq ≤ k)∧Drawn0 w w')
 case atStart=>exact ⟨(0),tSS,H',⟨Nat.le_refl _⟩,tR⟩
 case round =>
  clear H';obtain ⟨x5_1,rfl,HA,HK1,⟨m1,rfl⟩⟩:=hrel;cases gk with
  | zero=>exact absurd HA.out (by simp [r16_At.l0])
  | succ k1 =>
   have H:=HA.out;clear HA;simp only [r16_At.l0] at H;replace H:=iD H;rcases H with ⟨c3,c3b0,H⟩ | ⟨c3,c3b0,H⟩
   ·clear c3;obtain ⟨c4,H⟩:=gG H;have c4b0:=dTr c4;clear c4;replace H:=iE H;rcases H with ⟨c5,c5b0,c5b1,H⟩ | ⟨c5,c5b0,c5b1,H⟩
    ·clear c5;obtain rfl:=sI H;have p137:0 ≤ (x5_1:Int):=tD;have q137:x5_1 < (l0.length:Int):=tD;obtain ⟨ad137,e137,hx137_0⟩:=Kd.at_string HR0.out x5_1 p137 q137;cases e137;replace p137:=eq_true p137;replace q137:=eq_true q137;go_wp2;go_ret;exact ⟨by first|rfl|(simp;done)|(simp [*];done),tR⟩
    ·have H':=Sd.mk H;clear H;have p137:0 ≤ (x5_1:Int):=tD;have q137:x5_1 < (l0.length:Int):=tD;obtain ⟨ad137,e137,hx137_0⟩:=Kd.at_string HR0.out x5_1 p137 q137;cases e137;replace p137:=eq_true p137;replace q137:=eq_true q137;go_wp2;go_roundg k1
     case measure=>have:=HK1.out;omega
     case rel=>exact ⟨(wrap64 (x5_1 + 1)),tSS,H',⟨by have:=HK1.out;omega⟩,tR⟩
   ·clear c3;obtain rfl:=sI H;go_wp2;go_ret;exact ⟨by first|rfl|(simp;done)|(simp [*];done),tR⟩
def r16_Unlike.l0:Nat → List ByteArray → Int → Option (Bool)
 | 0,_,_=>none
 | k + 1,x0,x3=>if x3 < (x0.length:Int) then (if 0 ≤ x3 then ((r15_Name.f k (rdOf ByteArray.empty x0 x3)).bind fun t139=>(if t139=true then (if x3 ≤ (x0.length:Int) then ((r16_At.f k (x0.take (x3:Int).toNat) (rdOf ByteArray.empty x0 x3)).bind fun t142=>(if t142 ≥ 0 then (some false) else (r16_Unlike.l0 k x0 (wrap64 (x3 + 1))))) else (none)) else (some false))) else (none)) else (some true)
def r16_Unlike.f (k:Nat) (l0:List ByteArray):Option (Bool):=r16_Unlike.l0 k l0 0
def r16_Unlike.T4:Bool × List (List Nat × List Nat):=(true,[([],[]),([],[]),([0,1],[0,1]),([2],[2]),([3],[3]),([4],[4]),([5,4],[5]),([6],[6]),([6],[6]),([7,8,6],[6,7,8]),([6],[6]),([6],[6]),([10,11,6],[6,10,11]),([12,6],[6,12]),([9,13,6,6],[6,9,13]),([14,6],[6,14]),([6,15],[6,15])])
def r16_Unlike.B4:List Nat:=[0,0,3,7,15,31,63,127,127,511,127,127,3199,7295,16383,32767,65535]
theorem r16_Unlike.tab4:rtab .any (opsOf Tryz.f60 4)=r16_Unlike.T4:=by kernel_rfl
theorem r16_Unlike.bits4:waitsOk r16_Unlike.T4.2 r16_Unlike.B4=true:=by kernel_rfl
theorem r16_Unlike.calls (k:Nat) (A0:Option Addr) (c0:Nat) (l0:List ByteArray) (r:Bool) (w:World) (hr0:Kd.C Kd.string w A0 l0.length l0) (hc0:l0.length ≤ c0) (h:r16_Unlike.f k l0=some r) :
  Calls Tryz.prog 60 #[.slice A0 l0.length c0] w fun e w'=>e = .returned (.bool r)∧Below w.heap.size w w':=by
 have HR0:=Sd.mk hr0;have HC0:=Sd.mk hc0;clear hr0 hc0;have HB:=Sd.mk (Below.refl w.heap.size w);have H:=h;clear h;unfold r16_Unlike.f at H;have H':=Sd.mk H;clear H;go_enter Tryz.func60,Tryz.ntmps60;go_wp2;go_loopg [3] k (fun kq v3 w'=>∃ (x3_1:Int),v3 = .int .i64 x3_1∧Sd (r16_Unlike.l0 kq l0 x3_1=some r)∧Sd (kq ≤ k)∧Sd (Below w.heap.size w w'))
 case atStart=>exact ⟨(0),tSS,H',⟨Nat.le_refl _⟩,uA⟩
 case round =>
  clear H';obtain ⟨x3_1,rfl,HA,HK1,HB⟩:=hrel;cases gk with
  | zero=>exact absurd HA.out (by simp [r16_Unlike.l0])
  | succ k1 =>
   have H:=HA.out;clear HA;simp only [r16_Unlike.l0] at H;by_cases c2:x3_1 < (l0.length:Int)
   ·rw [if_pos c2] at H;have c2b0:=dTr c2;clear c2;by_cases c3:0 ≤ x3_1
    ·rw [if_pos c3] at H;have c3b0:=dTr c3;clear c3;obtain ⟨t139,A4,H⟩:=oB H;by_cases c5:t139=true
     ·subst c5;replace H:=iT H;have c6b0:=eq_true (tD:0 ≤ x3_1);by_cases c7:x3_1 ≤ (l0.length:Int)
      ·rw [if_pos c7] at H;have c7b0:=eq_true c7;have c7b1:=dTr c7;clear c7;obtain ⟨t142,A8,H⟩:=oB H;have HC9:=Sd.mk H;clear H;(try go_wp2);replace HB:=uI HB;have p138:0 ≤ (x3_1:Int):=tD;have q138:x3_1 < (l0.length:Int):=tD;obtain ⟨ad138,e138,hx138_0⟩:=Kd.at_string HR0.out x3_1 p138 q138;have hw138_0:=hx138_0;cases e138;replace hx138_0:=uC HB hx138_0;replace p138:=eq_true p138;replace q138:=eq_true q138;have p141:0 ≤ (x3_1:Int):=tD;have q141:x3_1 < (l0.length:Int):=tD;obtain ⟨ad141,e141,hx141_0⟩:=Kd.at_string HR0.out x3_1 p141 q141;have hw141_0:=hx141_0;obtain rfl:ad138=ad141:=(by injection e141);replace hx141_0:=uC HB hx141_0;replace p141:=eq_true p141;replace q141:=eq_true q141;refine start_ (n:=17) (S:=fun w'=>w'.cell? (ad138.add (x3_1).toNat)=some (.string (rdOf ByteArray.empty l0 x3_1))∧w'.cell? (ad138.add (x3_1).toNat)=some (.string (rdOf ByteArray.empty l0 x3_1))) (ds:=[]) (ab 17 0) (by kernel_rfl) rfl rfl ⟨uV hw138_0,uV hw141_0⟩ (fun hH=>?_);refine with_tabW r16_Unlike.tab4 r16_Unlike.bits4 (fun HT_ HW_=>?_);generalize wr.drew=w10 at HB hx138_0 hx141_0 hH ⊢;refine pU 0 10 ?_;refine pU 1 11 ?_;refine pU 2 12 ?_;refine tU 3 13 ?_;refine oU (N:=some 14) 4 (fun K hK=>?_);refine gO Tryz.func106 #[.string (rdOf ByteArray.empty l0 x3_1)] ?_;(with_reducible refine (r15_Name.calls k1 (rdOf ByteArray.empty l0 x3_1) true _ A4.out).mono ?_);rintro e w11 ⟨rfl,hb⟩;refine ⟨_,rfl,?_⟩;replace HB:=uH hb;(try clear hb);obtain ⟨i012,hi012,_,hsz12,_⟩:=info_parts info9;obtain ⟨hcut12,hA12,hC12⟩:=print_take_of (P:=Tryz.prog) Value.string (⟨#[]⟩:ByteArray) 22 9 .i64 Tryz.underlying22 hi012 hsz12 (some ad138) c0 l0 x3_1 (tD) (tD) HC0.out;have HR140:=Sd.mk (Kd.C_of_reads (h1:=fun _=>rfl) (hA12 _ (Kd.reads_of_C HR0.out)));have HC140:=Sd.mk hC12;clear hA12 hC12 hi012 hsz12;refine hK.out _ _ ⟨uV hw138_0,uV hw141_0⟩ (fun hH=>?_);clear hK K;refine nU ?_;refine pU 5 15 ?_;refine pU 6 16 ?_;refine pU 7 17 ?_;refine pU 8 18 ?_;refine pU 9 19 ?_;refine pU 10 20 ?_;refine pU 11 21 ?_;refine pU 12 22 ?_;refine tU 13 23 ?_;refine oU (N:=some 24) 14 (fun K hK=>?_);refine goes_ Tryz.func107 (by kernel_rfl) rfl #[.slice (some ad138) (l0.take (x3_1:Int).toNat).length c0,.string (rdOf ByteArray.empty l0 x3_1)] (by rfl) rfl rfl (by (try simp only [List.map_toArray,List.map_cons,List.map_nil]);first|done|(rw [show (l0.take (x3_1:Int).toNat).length=x3_1.toNat from (by rw [List.length_take];have h_:(x3_1:Int) ≤ (l0.length:Int):=tD;omega)] <;> rfl)|rfl|(simp only [List.length_drop,List.length_take];rfl)) ?_;(with_reducible refine (r16_At.calls k1 _ _ (l0.take (x3_1:Int).toNat) (rdOf ByteArray.empty l0 x3_1) t142 _ ?side1 HC140.out A8.out).mono ?_);(case side1=>exact sC HR140);rintro e w' ⟨rfl,⟨nd,rfl⟩⟩;refine ⟨_,rfl,?_⟩;refine hK.out _ _ ⟨uV hw138_0,uV hw141_0⟩ (fun hH=>?_);clear hK K;refine nU ?_;refine pU 15 25 ?_;refine pU 16 26 ?_;refine dU ?_;go_upto_if 26 with (fail);have H:=HC9.out;clear HC9;by_cases c13:t142 ≥ 0
       ·rw [if_pos c13] at H;have c13b0:=dTr c13;clear c13;(first|rw [c13b0]|(simp only [i64_w,i32_w];rw [c13b0])|rw [c13b1]|skip);obtain rfl:=sI H;go_wp2;go_ret;exact ⟨tW,uB⟩
       ·rw [if_neg c13] at H;have c13b0:=dFa c13;clear c13;(first|rw [c13b0]|(simp only [i64_w,i32_w];rw [c13b0])|rw [c13b1]|skip);have H':=Sd.mk H;clear H;go_wp2;go_roundg k1
        case measure=>have:=HK1.out;omega
        case rel=>exact ⟨(wrap64 (x3_1 + 1)),tSS,H',⟨by have:=HK1.out;omega⟩,uA⟩
      ·rw [if_neg c7] at H;exact absurd H (by simp)
     ·replace c5:=Bool.eq_false_iff.mpr c5;subst c5;replace H:=iF H;obtain rfl:=sI H;(try go_wp2);replace HB:=uI HB;have p138:0 ≤ (x3_1:Int):=tD;have q138:x3_1 < (l0.length:Int):=tD;obtain ⟨ad138,e138,hx138_0⟩:=Kd.at_string HR0.out x3_1 p138 q138;have hw138_0:=hx138_0;cases e138;replace hx138_0:=uC HB hx138_0;replace p138:=eq_true p138;replace q138:=eq_true q138;refine start_ (n:=17) (S:=fun w'=>w'.cell? (ad138.add (x3_1).toNat)=some (.string (rdOf ByteArray.empty l0 x3_1))) (ds:=[]) (ab 17 0) (by kernel_rfl) rfl rfl ((uC HB hw138_0)) (fun hH=>?_);refine with_tabW r16_Unlike.tab4 r16_Unlike.bits4 (fun HT_ HW_=>?_);generalize wr.drew=w14 at HB hx138_0 hH ⊢;refine pU 0 10 ?_;refine pU 1 11 ?_;refine pU 2 12 ?_;refine take_ (i:=3) (N:=some 13) (v:=?_) (a':=?_) (ab 17 15) rfl rfl (take_ofW HT_.out HW_.out (by kernel_rfl)) (fun _ _ _ h=>h) (Or.inl ⟨by rfl,?_⟩) hH ?_ ?_;rotate_left
      ·intro w' s0;go_simp;with_reducible rfl
      rotate_left
      ·simp only [Act.put,q1_,q2_,q3_,i64_w,i32_w];rfl
      refine oU (N:=some 14) 4 (fun K hK=>?_);refine gO Tryz.func106 #[.string (rdOf ByteArray.empty l0 x3_1)] ?_;(with_reducible refine (r15_Name.calls k1 (rdOf ByteArray.empty l0 x3_1) false _ A4.out).mono ?_);rintro e w15 ⟨rfl,hb⟩;refine ⟨_,rfl,?_⟩;replace HB:=uH hb;(try clear hb);refine hK.out _ _ ((uC HB hw138_0)) (fun hH=>?_);clear hK K;refine nU ?_;refine pU 5 15 ?_;refine pU 6 16 ?_;refine pV 7 17 ?_;refine pV 8 18 ?_;refine pV 9 19 ?_;refine pV 10 20 ?_;refine pV 11 21 ?_;refine pV 12 22 ?_;refine pV 13 23 ?_;refine pV 14 24 ?_;refine pV 15 25 ?_;refine pU 16 26 ?_;refine dU ?_;(try go_wp2);go_ret;exact ⟨tW,uB⟩
    ·rw [if_neg c3] at H;exact absurd H (by simp)
   ·rw [if_neg c2] at H;have c2b0:=dFa c2;clear c2;obtain rfl:=sI H;go_wp2;go_ret;exact ⟨tW,uB⟩
mutual
def r16_floors.l0:Nat → List (S85) → Int → Option (Bool)
 | 0,_,_=>none
 | k + 1,x0,x3=>if x3 < (x0.length:Int) then (r16_floors.l1 k x0 x3 0) else (some true)
def r16_floors.l1:Nat → List (S85) → Int → Int → Option (Bool)
 | 0,_,_,_=>none
 | k + 1,x0,x3,x4=>if x4 < x3 then (if 0 ≤ x3 then (if x3 < (x0.length:Int) then (if ((rd_T85 x0 x3).f0)=8 then (if 0 ≤ x4 then (if x4 < (x0.length:Int) then (if ((rd_T85 x0 x4).f0)=8 then (if ((rd_T85 x0 x3).f2)=((rd_T85 x0 x4).f2) then (some false) else (r16_floors.l1 k x0 x3 (wrap64 (x4 + 1)))) else (r16_floors.l1 k x0 x3 (wrap64 (x4 + 1)))) else (none)) else (none)) else (r16_floors.l1 k x0 x3 (wrap64 (x4 + 1)))) else (none)) else (none)) else (r16_floors.l0 k x0 (wrap64 (x3 + 1)))
end
def r16_floors.f (k:Nat) (l0:List (S85)):Option (Bool):=r16_floors.l0 k l0 0
theorem r16_floors.calls (k:Nat) (A0:Option Addr) (c0:Nat) (l0:List (S85)) (r:Bool) (w:World) (hr0:Kd.C k85 w A0 l0.length l0) (hc0:l0.length ≤ c0) (h:r16_floors.f k l0=some r) :
  Calls Tryz.prog 61 #[.slice A0 l0.length c0] w fun e w'=>e = .returned (.bool r)∧Drawn0 w w':=by
 have HR0:=Sd.mk hr0;have HC0:=Sd.mk hc0;clear hr0 hc0;have H:=h;clear h;unfold r16_floors.f at H;have H':=Sd.mk H;clear H;go_enter Tryz.func61,Tryz.ntmps61;go_wp2;(repeat (go_quiet (fail);try go_wp2));go_loopg [3] k (fun kq v3 w'=>∃ (x3_1:Int),v3 = .int .i64 x3_1∧Sd (r16_floors.l0 kq l0 x3_1=some r)∧Sd (kq ≤ k)∧Drawn0 w w')
 case atStart=>exact ⟨(0),tSS,H',⟨Nat.le_refl _⟩,tR⟩
 case round =>
  clear H';obtain ⟨x3_1,rfl,HA,HK1,⟨m1,rfl⟩⟩:=hrel;cases gk with
  | zero=>exact absurd HA.out (by simp [r16_floors.l0])
  | succ k1 =>
   have H:=HA.out;clear HA;simp only [r16_floors.l0] at H;replace H:=iD H;rcases H with ⟨c2,c2b0,H⟩ | ⟨c2,c2b0,H⟩
   ·clear c2;have H':=Sd.mk H;clear H;go_wp2;(repeat (go_quiet (fail);try go_wp2));go_loopg [4] k1 (fun kq v4 w'=>∃ (x4_2:Int),v4 = .int .i64 x4_2∧Sd (r16_floors.l1 kq l0 x3_1 x4_2=some r)∧Sd (kq ≤ k1)∧Drawn0 w w')
    case atStart=>exact ⟨(0),tSS,H',⟨Nat.le_refl _⟩,tR⟩
    case round =>
     clear H';(try clear c2b0);obtain ⟨x4_2,rfl,HA,HK2,⟨m2,rfl⟩⟩:=hrel;cases gk with
     | zero=>exact absurd HA.out (by simp [r16_floors.l1])
     | succ k2 =>
      have H:=HA.out;clear HA;simp only [r16_floors.l1] at H;replace H:=iD H;rcases H with ⟨c3,c3b0,H⟩ | ⟨c3,c3b0,H⟩
      ·clear c3;obtain ⟨c4,H⟩:=gG H;have c4b0:=dTr c4;clear c4;obtain ⟨c5,H⟩:=gG H;have c5b0:=dTr c5;clear c5;replace H:=iE H;rcases H with ⟨c6,c6b0,c6b1,H⟩ | ⟨c6,c6b0,c6b1,H⟩
       ·clear c6;obtain ⟨c7,H⟩:=gG H;have c7b0:=dTr c7;clear c7;obtain ⟨c8,H⟩:=gG H;have c8b0:=dTr c8;clear c8;replace H:=iE H;rcases H with ⟨c9,c9b0,c9b1,H⟩ | ⟨c9,c9b0,c9b1,H⟩
        ·clear c9;replace H:=iE H;rcases H with ⟨c10,c10b0,c10b1,H⟩ | ⟨c10,c10b0,c10b1,H⟩
         ·clear c10;obtain rfl:=sI H;have p143:0 ≤ (x3_1:Int):=tD;have q143:x3_1 < (l0.length:Int):=tD;obtain ⟨ad143,e143,hx143_0,hx143_1,hx143_2,hx143_3,hx143_4⟩:=at_T85 HR0.out x3_1 p143 q143;cases e143;replace p143:=eq_true p143;replace q143:=eq_true q143;have p144:0 ≤ (x4_2:Int):=tD;have q144:x4_2 < (l0.length:Int):=tD;obtain ⟨ad144,e144,hx144_0,hx144_1,hx144_2,hx144_3,hx144_4⟩:=at_T85 HR0.out x4_2 p144 q144;obtain rfl:ad143=ad144:=(by injection e144);replace p144:=eq_true p144;replace q144:=eq_true q144;have p145:0 ≤ (x3_1:Int):=tD;have q145:x3_1 < (l0.length:Int):=tD;obtain ⟨ad145,e145,hx145_0,hx145_1,hx145_2,hx145_3,hx145_4⟩:=at_T85 HR0.out x3_1 p145 q145;obtain rfl:ad143=ad145:=(by injection e145);replace p145:=eq_true p145;replace q145:=eq_true q145;have p146:0 ≤ (x4_2:Int):=tD;have q146:x4_2 < (l0.length:Int):=tD;obtain ⟨ad146,e146,hx146_0,hx146_1,hx146_2,hx146_3,hx146_4⟩:=at_T85 HR0.out x4_2 p146 q146;obtain rfl:ad143=ad146:=(by injection e146);replace p146:=eq_true p146;replace q146:=eq_true q146;go_wp2;(repeat (go_quiet (fail);try go_wp2));go_ret;exact ⟨by first|rfl|(simp;done)|(simp [*];done),tR⟩
         ·have H':=Sd.mk H;clear H;have p143:0 ≤ (x3_1:Int):=tD;have q143:x3_1 < (l0.length:Int):=tD;obtain ⟨ad143,e143,hx143_0,hx143_1,hx143_2,hx143_3,hx143_4⟩:=at_T85 HR0.out x3_1 p143 q143;cases e143;replace p143:=eq_true p143;replace q143:=eq_true q143;have p144:0 ≤ (x4_2:Int):=tD;have q144:x4_2 < (l0.length:Int):=tD;obtain ⟨ad144,e144,hx144_0,hx144_1,hx144_2,hx144_3,hx144_4⟩:=at_T85 HR0.out x4_2 p144 q144;obtain rfl:ad143=ad144:=(by injection e144);replace p144:=eq_true p144;replace q144:=eq_true q144;have p145:0 ≤ (x3_1:Int):=tD;have q145:x3_1 < (l0.length:Int):=tD;obtain ⟨ad145,e145,hx145_0,hx145_1,hx145_2,hx145_3,hx145_4⟩:=at_T85 HR0.out x3_1 p145 q145;obtain rfl:ad143=ad145:=(by injection e145);replace p145:=eq_true p145;replace q145:=eq_true q145;have p146:0 ≤ (x4_2:Int):=tD;have q146:x4_2 < (l0.length:Int):=tD;obtain ⟨ad146,e146,hx146_0,hx146_1,hx146_2,hx146_3,hx146_4⟩:=at_T85 HR0.out x4_2 p146 q146;obtain rfl:ad143=ad146:=(by injection e146);replace p146:=eq_true p146;replace q146:=eq_true q146;go_wp2;(repeat (go_quiet (fail);try go_wp2));go_roundg k2
          case measure=>have:=HK1.out;have:=HK2.out;omega
          case rel=>exact ⟨(wrap64 (x4_2 + 1)),tSS,H',⟨by have:=HK1.out;have:=HK2.out;omega⟩,tR⟩
        ·have H':=Sd.mk H;clear H;have p143:0 ≤ (x3_1:Int):=tD;have q143:x3_1 < (l0.length:Int):=tD;obtain ⟨ad143,e143,hx143_0,hx143_1,hx143_2,hx143_3,hx143_4⟩:=at_T85 HR0.out x3_1 p143 q143;cases e143;replace p143:=eq_true p143;replace q143:=eq_true q143;have p144:0 ≤ (x4_2:Int):=tD;have q144:x4_2 < (l0.length:Int):=tD;obtain ⟨ad144,e144,hx144_0,hx144_1,hx144_2,hx144_3,hx144_4⟩:=at_T85 HR0.out x4_2 p144 q144;obtain rfl:ad143=ad144:=(by injection e144);replace p144:=eq_true p144;replace q144:=eq_true q144;go_wp2;(repeat (go_quiet (fail);try go_wp2));go_roundg k2
         case measure=>have:=HK1.out;have:=HK2.out;omega
         case rel=>exact ⟨(wrap64 (x4_2 + 1)),tSS,H',⟨by have:=HK1.out;have:=HK2.out;omega⟩,tR⟩
       ·have H':=Sd.mk H;clear H;have p143:0 ≤ (x3_1:Int):=tD;have q143:x3_1 < (l0.length:Int):=tD;obtain ⟨ad143,e143,hx143_0,hx143_1,hx143_2,hx143_3,hx143_4⟩:=at_T85 HR0.out x3_1 p143 q143;cases e143;replace p143:=eq_true p143;replace q143:=eq_true q143;go_wp2;(repeat (go_quiet (fail);try go_wp2));go_roundg k2
        case measure=>have:=HK1.out;have:=HK2.out;omega
        case rel=>exact ⟨(wrap64 (x4_2 + 1)),tSS,H',⟨by have:=HK1.out;have:=HK2.out;omega⟩,tR⟩
      ·clear c3;have H':=Sd.mk H;clear H;go_wp2;(repeat (go_quiet (fail);try go_wp2));go_roundg k2
       case measure=>have:=HK1.out;have:=HK2.out;omega
       case rel=>exact ⟨(wrap64 (x3_1 + 1)),tSS,H',⟨by have:=HK1.out;have:=HK2.out;omega⟩,tR⟩
   ·clear c2;obtain rfl:=sI H;go_wp2;(repeat (go_quiet (fail);try go_wp2));go_ret;exact ⟨by first|rfl|(simp;done)|(simp [*];done),tR⟩
mutual
def r16_May.j0:Nat → Bool → List ByteArray → List ByteArray → List ByteArray → List (S85) → List (S89) → Option (Bool)
 | 0,_,_,_,_,_,_=>none
 | k + 1,x44,Xav,Xaw,Xax,Xay,Xaz=>if x44=true then (some false) else (r16_May.l0 k 0 Xav Xaw Xax Xay Xaz)
def r16_May.l0:Nat → Int → List ByteArray → List ByteArray → List ByteArray → List (S85) → List (S89) → Option (Bool)
 | 0,_,_,_,_,_,_=>none
 | k + 1,x3,Xav,Xaw,Xax,Xay,Xaz=>if x3 < (Xay.length:Int) then (if 0 ≤ x3 then ((r16_Clause.f Xav Xaw Xax Xay Xaz ((rd_T85 Xay x3).f0) ((rd_T85 Xay x3).f1) ((rd_T85 Xay x3).f2) ((rd_T85 Xay x3).f3) ((rd_T85 Xay x3).f4)).bind fun t167=>(if t167=true then (r16_May.l0 k (wrap64 (x3 + 1)) Xav Xaw Xax Xay Xaz) else (some false))) else (none)) else (r16_May.l1 k 0 Xav Xaw Xax Xay Xaz)
def r16_May.l1:Nat → Int → List ByteArray → List ByteArray → List ByteArray → List (S85) → List (S89) → Option (Bool)
 | 0,_,_,_,_,_,_=>none
 | k + 1,x4,Xav,Xaw,Xax,Xay,Xaz=>if x4 < (Xaz.length:Int) then (if 0 ≤ x4 then ((r16_Oper.f k Xav Xaw Xax Xay Xaz ((rd_T89 Xaz x4).f0) ((rd_T89 Xaz x4).f1)).bind fun t169=>(if t169=true then (r16_May.l1 k (wrap64 (x4 + 1)) Xav Xaw Xax Xay Xaz) else (some false))) else (none)) else (some true)
end
def r16_May.f (k:Nat) (l00:List ByteArray) (l01:List ByteArray) (l02:List ByteArray) (l03:List (S85)) (l04:List (S89)):Option (Bool):=if (l00.length:Int) > 6 then (r16_May.j0 k true l00 l01 l02 l03 l04) else (if (l01.length:Int) > 4 then (r16_May.j0 k true l00 l01 l02 l03 l04) else (if (l02.length:Int) > 3 then (r16_May.j0 k true l00 l01 l02 l03 l04) else (if (l04.length:Int) > 16 then (r16_May.j0 k true l00 l01 l02 l03 l04) else (if (l03.length:Int) > 12 then (r16_May.j0 k true l00 l01 l02 l03 l04) else ((r16_All.f k l00 l01 l02 l03 l04).bind fun t161=>((r16_Unlike.f k t161).bind fun t164=>(if t164=true then ((r16_floors.f k l03).bind fun t165=>(r16_May.j0 k (!t165) l00 l01 l02 l03 l04)) else (r16_May.j0 k true l00 l01 l02 l03 l04))))))))
def r16_May.T6:Bool × List (List Nat × List Nat):=(true,[([],[]),([],[]),([1],[1]),([],[]),([2,3],[2,3]),([4],[4]),([0,5],[0,5]),([6],[6])])
def r16_May.B6:List Nat:=[0,0,2,0,14,30,63,127]
theorem r16_May.tab6:rtab .any (opsOf Tryz.f28 6)=r16_May.T6:=by kernel_rfl
theorem r16_May.bits6:waitsOk r16_May.T6.2 r16_May.B6=true:=by kernel_rfl
def r16_May.T11:Bool × List (List Nat × List Nat):=(true,[([],[]),([],[]),([1],[1]),([],[]),([2,3],[2,3]),([4],[4]),([0,5],[0,5]),([6],[6])])
def r16_May.B11:List Nat:=[0,0,2,0,14,30,63,127]
theorem r16_May.tab11:rtab .any (opsOf Tryz.f28 11)=r16_May.T11:=by kernel_rfl
theorem r16_May.bits11:waitsOk r16_May.T11.2 r16_May.B11=true:=by kernel_rfl
theorem r16_May.calls (k:Nat) (A0_0:Option Addr) (c0_0:Nat) (l00:List ByteArray) (A0_1:Option Addr) (c0_1:Nat) (l01:List ByteArray) (A0_2:Option Addr) (c0_2:Nat) (l02:List ByteArray) (A0_3:Option Addr) (c0_3:Nat) (l03:List (S85)) (A0_4:Option Addr) (c0_4:Nat) (l04:List (S89)) (r:Bool) (w:World) (hr00:Kd.C Kd.string w A0_0 l00.length l00) (hc00:l00.length ≤ c0_0) (hr01:Kd.C Kd.string w A0_1 l01.length l01) (hc01:l01.length ≤ c0_1) (hr02:Kd.C Kd.string w A0_2 l02.length l02) (hc02:l02.length ≤ c0_2) (hr03:Kd.C k85 w A0_3 l03.length l03) (hc03:l03.length ≤ c0_3) (hr04:Kd.C k89 w A0_4 l04.length l04) (hc04:l04.length ≤ c0_4) (h:r16_May.f k l00 l01 l02 l03 l04=some r) :
  Calls Tryz.prog 28 #[.agg #[.slice A0_0 l00.length c0_0,.slice A0_1 l01.length c0_1,.slice A0_2 l02.length c0_2,.slice A0_3 l03.length c0_3,.slice A0_4 l04.length c0_4]] w fun e w'=>e = .returned (.bool r)∧Below w.heap.size w w':=by
 have hu26:=Tryz.underlying26;have hu85:=Tryz.underlying85;have hu89:=Tryz.underlying89;have HR00:=Sd.mk hr00;have J00:=Sd.mk hc00;clear hr00 hc00;have HR01:=Sd.mk hr01;have J01:=Sd.mk hc01;clear hr01 hc01;have HR02:=Sd.mk hr02;have J02:=Sd.mk hc02;clear hr02 hc02;have HR03:=Sd.mk hr03;have J03:=Sd.mk hc03;clear hr03 hc03;have HR04:=Sd.mk hr04;have J04:=Sd.mk hc04;clear hr04 hc04;have HB:=Sd.mk (Below.refl w.heap.size w);have H:=h;clear h;unfold r16_May.f at H;have HC2:=Sd.mk H;clear H;go_enter Tryz.func28,Tryz.ntmps28;go_upto_region 1 with (first|((with_reducible refine gate_dst (N:=1) rfl ?_);(try (refine gate_guard (by rfl) ?_;dsimp only));refine uY 1 (cs:=#[.slice A0_0 l00.length c0_0,.slice A0_1 l01.length c0_1,.slice A0_2 l02.length c0_2,.slice A0_3 l03.length c0_3,.slice A0_4 l04.length c0_4]) (t:=26) fun gb160 hg w3 BK160 hb GE160 HB=>?_;clear hb hg));(try simp only [Act.put,q1_,q2_,q3_]);go_cut [44] (fun v44 wc=>∃ (kq:Nat) (x44_1:Bool),v44 = .bool x44_1∧Sd (r16_May.j0 kq x44_1 l00 l01 l02 l03 l04=some r)∧Sd (kq ≤ k)∧Sd (wc.heap[gb160]? = some (.cells #[(.slice A0_0 l00.length c0_0),(.slice A0_1 l01.length c0_1),(.slice A0_2 l02.length c0_2),(.slice A0_3 l03.length c0_3),(.slice A0_4 l04.length c0_4)] 26 (0,0)))∧Sd (Below w.heap.size w wc))
 case first =>
  have H:=HC2.out;clear HC2;replace H:=iD H;rcases H with ⟨c4,c4b0,H⟩ | ⟨c4,c4b0,H⟩
  ·have c4b1:decide (6 < l00.length)=true:=decide_eq_true (by omega);clear c4;(first|rw [c4b0]|(simp only [i64_w,i32_w];rw [c4b0])|rw [c4b1]|skip);have H':=Sd.mk H;clear H;have Z5:=bd5 BK160;go_wp2;go_meet
   case rel=>exact ⟨_,(true),tSS,H',⟨tO⟩,kA BK160,uA⟩
  ·have c4b1:decide (6 < l00.length)=false:=decide_eq_false (by omega);clear c4;(first|rw [c4b0]|(simp only [i64_w,i32_w];rw [c4b0])|rw [c4b1]|skip);replace H:=iD H;rcases H with ⟨c6,c6b0,H⟩ | ⟨c6,c6b0,H⟩
   ·have c6b1:decide (4 < l01.length)=true:=decide_eq_true (by omega);clear c6;have H':=Sd.mk H;clear H;have Z7:=bd5 BK160;go_wp2;go_meet
    case rel=>exact ⟨_,(true),tSS,H',⟨tO⟩,kA BK160,uA⟩
   ·have c6b1:decide (4 < l01.length)=false:=decide_eq_false (by omega);clear c6;replace H:=iD H;rcases H with ⟨c8,c8b0,H⟩ | ⟨c8,c8b0,H⟩
    ·have c8b1:decide (3 < l02.length)=true:=decide_eq_true (by omega);clear c8;have H':=Sd.mk H;clear H;have Z9:=bd5 BK160;go_wp2;go_meet
     case rel=>exact ⟨_,(true),tSS,H',⟨tO⟩,kA BK160,uA⟩
    ·have c8b1:decide (3 < l02.length)=false:=decide_eq_false (by omega);clear c8;replace H:=iD H;rcases H with ⟨c10,c10b0,H⟩ | ⟨c10,c10b0,H⟩
     ·have c10b1:decide (16 < l04.length)=true:=decide_eq_true (by omega);clear c10;have H':=Sd.mk H;clear H;have Z11:=bd5 BK160;go_wp2;go_meet
      case rel=>exact ⟨_,(true),tSS,H',⟨tO⟩,kA BK160,uA⟩
     ·have c10b1:decide (16 < l04.length)=false:=decide_eq_false (by omega);clear c10;replace H:=iD H;rcases H with ⟨c12,c12b0,H⟩ | ⟨c12,c12b0,H⟩
      ·have c12b1:decide (12 < l03.length)=true:=decide_eq_true (by omega);clear c12;have H':=Sd.mk H;clear H;have Z13:=bd5 BK160;go_wp2;go_meet
       case rel=>exact ⟨_,(true),tSS,H',⟨tO⟩,kA BK160,uA⟩
      ·have c12b1:decide (12 < l03.length)=false:=decide_eq_false (by omega);clear c12;obtain ⟨t161,A14,H⟩:=oB H;obtain ⟨t164,A15,H⟩:=oB H;by_cases c16:t164=true
       ·subst c16;replace H:=iT H;obtain ⟨t165,A17,H⟩:=oB H;have H':=Sd.mk H;clear H;have Z18:=bd5 BK160;go_wp2_with (first|(go_at_call 46;(with_reducible refine (r16_All.calls k _ _ l00 _ _ l01 _ _ l02 _ _ l03 _ _ l04 t161 _ (sC HR00) J00.out (sC HR01) J01.out (sC HR02) J02.out (sC HR03) J03.out (sC HR04) J04.out A14.out).mono ?_);rintro e w19 ⟨v162,rfl,ho0,hb⟩;have HO163:=Sd.mk (Kd.R_lower ho0 (below_size uB));replace BK160:=uK BK160 hb;replace HB:=uH hb;(try clear hb);(try clear ho0);obtain ⟨Ao20,co20,eo20⟩:=Kd.R_slice HO163.out;subst eo20)|(go_at_call 60;(with_reducible refine (r16_Unlike.calls k _ _ t161 true _ ?side1 ?side2 A15.out).mono ?_);(case side1=>exact sE (Kd.R_reads' HO163.out).2.2);(case side2=>exact (Kd.R_reads' HO163.out).2.1);rintro e w21 ⟨rfl,hb⟩;replace HO163:=Sd.mk (Kd.R_below (kR HO163) hb);replace BK160:=uK BK160 hb;replace HB:=uH hb;(try clear hb);have Z22:=bd5 BK160)|(go_at_call 61;(with_reducible refine (r16_floors.calls k _ _ l03 t165 _ (sC HR03) J03.out A17.out).mono ?_);rintro e w' ⟨rfl,⟨nd,rfl⟩⟩));go_meet
        case rel=>exact ⟨_,(!t165),tSS,H',⟨tO⟩,kA BK160,uA⟩
       ·replace c16:=Bool.eq_false_iff.mpr c16;subst c16;replace H:=iF H;have H':=Sd.mk H;clear H;have Z23:=bd5 BK160;go_wp2_with (first|(go_at_call 46;(with_reducible refine (r16_All.calls k _ _ l00 _ _ l01 _ _ l02 _ _ l03 _ _ l04 t161 _ (sC HR00) J00.out (sC HR01) J01.out (sC HR02) J02.out (sC HR03) J03.out (sC HR04) J04.out A14.out).mono ?_);rintro e w24 ⟨v162,rfl,ho0,hb⟩;have HO163:=Sd.mk (Kd.R_lower ho0 (below_size uB));replace BK160:=uK BK160 hb;replace HB:=uH hb;(try clear hb);(try clear ho0);obtain ⟨Ao25,co25,eo25⟩:=Kd.R_slice HO163.out;subst eo25)|(go_at_call 60;(with_reducible refine (r16_Unlike.calls k _ _ t161 false _ ?side1 ?side2 A15.out).mono ?_);(case side1=>exact sE (Kd.R_reads' HO163.out).2.2);(case side2=>exact (Kd.R_reads' HO163.out).2.1);rintro e w26 ⟨rfl,hb⟩;replace HO163:=Sd.mk (Kd.R_below (kR HO163) hb);replace BK160:=uK BK160 hb;replace HB:=uH hb;(try clear hb)));go_meet
        case rel=>exact ⟨_,(true),tSS,H',⟨tO⟩,kA BK160,uA⟩
 case rest =>
  clear HC2;obtain ⟨kq,x44_1,rfl,HA,HJ1,BK160,HB⟩:=hcut;cases kq with
  | zero=>exact absurd HA.out (by simp [r16_May.j0])
  | succ kj1 =>
   have H:=HA.out;clear HA;simp only [r16_May.j0] at H;by_cases c27:x44_1=true
   ·subst c27;replace H:=iT H;obtain rfl:=sI H;go_wp2;go_ret;exact ⟨tW,uB⟩
   ·replace c27:=Bool.eq_false_iff.mpr c27;subst c27;replace H:=iF H;have H':=Sd.mk H;clear H;go_wp2;go_loopg [3] kj1 (fun kq v3 w'=>∃ (x3_2:Int),v3 = .int .i64 x3_2∧Sd (r16_May.l0 kq x3_2 l00 l01 l02 l03 l04=some r)∧Sd (kq ≤ kj1)∧Sd (w'.heap[gb160]? = some (.cells #[(.slice A0_0 l00.length c0_0),(.slice A0_1 l01.length c0_1),(.slice A0_2 l02.length c0_2),(.slice A0_3 l03.length c0_3),(.slice A0_4 l04.length c0_4)] 26 (0,0)))∧Sd (Below w.heap.size w w'))
    case atStart=>exact ⟨(0),tSS,H',⟨Nat.le_refl _⟩,kA BK160,uA⟩
    case round =>
     clear H';(try clear c27);obtain ⟨x3_2,rfl,HA,HK2,BK160,HB⟩:=hrel;cases gk with
     | zero=>exact absurd HA.out (by simp [r16_May.l0])
     | succ k2 =>
      have H:=HA.out;clear HA;simp only [r16_May.l0] at H;replace H:=iD H;rcases H with ⟨c28,c28b0,H⟩ | ⟨c28,c28b0,H⟩
      ·clear c28;obtain ⟨c29,H⟩:=gG H;have c29b0:=dTr c29;clear c29;obtain ⟨t167,A30,H⟩:=oB H;have HC31:=Sd.mk H;clear H;have Z32:=bd5 BK160;(try go_wp2);replace BK160:=uE BK160;replace HB:=uI HB;have p166:0 ≤ (x3_2:Int):=tD;have q166:x3_2 < (l03.length:Int):=tD;obtain ⟨ad166,e166,hx166_0,hx166_1,hx166_2,hx166_3,hx166_4⟩:=at_T85 HR03.out x3_2 p166 q166;have hw166_4:=hx166_4;have hw166_3:=hx166_3;have hw166_2:=hx166_2;have hw166_1:=hx166_1;have hw166_0:=hx166_0;cases e166;replace hx166_0:=uC HB hx166_0;replace hx166_1:=uC HB hx166_1;replace hx166_2:=uC HB hx166_2;replace hx166_3:=uC HB hx166_3;replace hx166_4:=uC HB hx166_4;replace p166:=eq_true p166;replace q166:=eq_true q166;refine start_ (n:=8) (S:=fun w'=>w'.cell? ⟨gb160,0,none⟩=some (.slice A0_0 l00.length c0_0)∧w'.cell? ⟨gb160,1,none⟩=some (.slice A0_1 l01.length c0_1)∧w'.cell? ⟨gb160,2,none⟩=some (.slice A0_2 l02.length c0_2)∧w'.cell? ⟨gb160,3,none⟩=some (.slice (some ad166) l03.length c0_3)∧w'.cell? ⟨gb160,4,none⟩=some (.slice A0_4 l04.length c0_4)∧w'.cell? (ad166.add ((x3_2).toNat * 5))=some (.int .i64 ((rd_T85 l03 x3_2).f0))∧w'.cell? ⟨(ad166.add ((x3_2).toNat * 5)).block,(ad166.add ((x3_2).toNat * 5)).off + 1,none⟩=some (.bool ((rd_T85 l03 x3_2).f1))∧w'.cell? ⟨(ad166.add ((x3_2).toNat * 5)).block,(ad166.add ((x3_2).toNat * 5)).off + 2,none⟩=some (.int .i64 ((rd_T85 l03 x3_2).f2))∧w'.cell? ⟨(ad166.add ((x3_2).toNat * 5)).block,(ad166.add ((x3_2).toNat * 5)).off + 3,none⟩=some (.int .i64 ((rd_T85 l03 x3_2).f3))∧w'.cell? ⟨(ad166.add ((x3_2).toNat * 5)).block,(ad166.add ((x3_2).toNat * 5)).off + 4,none⟩=some (.int .i64 ((rd_T85 l03 x3_2).f4))) (ds:=[]) (ab 8 0) (by kernel_rfl) rfl rfl ⟨cB BK160 0,cB BK160 1,cB BK160 2,cB BK160 3,cB BK160 4,uV hw166_0,uV hw166_1,uV hw166_2,uV hw166_3,uV hw166_4⟩ (fun hH=>?_);refine with_tabW r16_May.tab6 r16_May.bits6 (fun HT_ HW_=>?_);generalize wr.drew=w33 at BK160 HB hx166_0 hx166_1 hx166_2 hx166_3 hx166_4 hH ⊢;refine pU 1 53 ?_;refine pU 3 55 ?_;refine tU 0 52 ?_;refine tU 2 54 ?_;refine pU 4 56 ?_;refine tU 5 57 ?_;refine oU (N:=some 58) 6 (fun K hK=>?_);refine gO Tryz.func62 #[.agg #[.slice A0_0 l00.length c0_0,.slice A0_1 l01.length c0_1,.slice A0_2 l02.length c0_2,.slice (some ad166) l03.length c0_3,.slice A0_4 l04.length c0_4],.agg #[.int .i64 ((rd_T85 l03 x3_2).f0),.bool ((rd_T85 l03 x3_2).f1),.int .i64 ((rd_T85 l03 x3_2).f2),.int .i64 ((rd_T85 l03 x3_2).f3),.int .i64 ((rd_T85 l03 x3_2).f4)]] ?_;(with_reducible refine (r16_Clause.calls _ _ l00 _ _ l01 _ _ l02 _ _ l03 _ _ l04 ((rd_T85 l03 x3_2).f0) ((rd_T85 l03 x3_2).f1) ((rd_T85 l03 x3_2).f2) ((rd_T85 l03 x3_2).f3) ((rd_T85 l03 x3_2).f4) t167 _ (sC HR00) J00.out (sC HR01) J01.out (sC HR02) J02.out (sC HR03) J03.out (sC HR04) J04.out A30.out).mono ?_);rintro e w34 ⟨rfl,hb⟩;refine ⟨_,rfl,?_⟩;replace BK160:=uK BK160 hb;replace HB:=uH hb;(try clear hb);refine hK.out _ _ ⟨cB BK160 0,cB BK160 1,cB BK160 2,cB BK160 3,cB BK160 4,uV hw166_0,uV hw166_1,uV hw166_2,uV hw166_3,uV hw166_4⟩ (fun hH=>?_);clear hK K;refine nU ?_;refine pU 7 59 ?_;refine dU ?_;go_upto_if 59 with (fail);have H:=HC31.out;clear HC31;by_cases c35:t167=true
       ·subst c35;replace H:=iT H;have H':=Sd.mk H;clear H;go_wp2;go_roundg k2
        case measure=>have:=HJ1.out;have:=HK2.out;omega
        case rel=>exact ⟨(wrap64 (x3_2 + 1)),tSS,H',⟨by have:=HJ1.out;have:=HK2.out;omega⟩,kA BK160,uA⟩
       ·replace c35:=Bool.eq_false_iff.mpr c35;subst c35;replace H:=iF H;obtain rfl:=sI H;go_wp2;go_ret;exact ⟨tW,uB⟩
      ·clear c28;have H':=Sd.mk H;clear H;have Z36:=bd5 BK160;go_wp2;go_loopg [4] k2 (fun kq v4 w'=>∃ (x4_3:Int),v4 = .int .i64 x4_3∧Sd (r16_May.l1 kq x4_3 l00 l01 l02 l03 l04=some r)∧Sd (kq ≤ k2)∧Sd (w'.heap[gb160]? = some (.cells #[(.slice A0_0 l00.length c0_0),(.slice A0_1 l01.length c0_1),(.slice A0_2 l02.length c0_2),(.slice A0_3 l03.length c0_3),(.slice A0_4 l04.length c0_4)] 26 (0,0)))∧Sd (Below w.heap.size w w'))
       case atStart=>exact ⟨(0),tSS,H',⟨Nat.le_refl _⟩,kA BK160,uA⟩
       case round =>
        clear H';(try clear c28b0);(try clear Z36);obtain ⟨x4_3,rfl,HA,HK3,BK160,HB⟩:=hrel;cases gk with
        | zero=>exact absurd HA.out (by simp [r16_May.l1])
        | succ k3 =>
         have H:=HA.out;clear HA;simp only [r16_May.l1] at H;replace H:=iD H;rcases H with ⟨c37,c37b0,H⟩ | ⟨c37,c37b0,H⟩
         ·clear c37;obtain ⟨c38,H⟩:=gG H;have c38b0:=dTr c38;clear c38;obtain ⟨t169,A39,H⟩:=oB H;have HC40:=Sd.mk H;clear H;have Z41:=bd5 BK160;(try go_wp2);replace BK160:=uE BK160;replace HB:=uI HB;have p168:0 ≤ (x4_3:Int):=tD;have q168:x4_3 < (l04.length:Int):=tD;obtain ⟨ad168,A168_1,c168_1,e168,hx168_0,hx168_1,hl168_1,hi168_1⟩:=at_T89 HR04.out x4_3 p168 q168;have hw168_1:=hx168_1;have hw168_0:=hx168_0;cases e168;replace hx168_0:=uC HB hx168_0;replace hx168_1:=uC HB hx168_1;have HR168_1:=Sd.mk hi168_1;have HC168_1:=Sd.mk hl168_1;clear hi168_1 hl168_1;replace p168:=eq_true p168;replace q168:=eq_true q168;refine start_ (n:=8) (S:=fun w'=>w'.cell? ⟨gb160,0,none⟩=some (.slice A0_0 l00.length c0_0)∧w'.cell? ⟨gb160,1,none⟩=some (.slice A0_1 l01.length c0_1)∧w'.cell? ⟨gb160,2,none⟩=some (.slice A0_2 l02.length c0_2)∧w'.cell? ⟨gb160,3,none⟩=some (.slice A0_3 l03.length c0_3)∧w'.cell? ⟨gb160,4,none⟩=some (.slice (some ad168) l04.length c0_4)∧w'.cell? (ad168.add ((x4_3).toNat * 2))=some (.string ((rd_T89 l04 x4_3).f0))∧w'.cell? ⟨(ad168.add ((x4_3).toNat * 2)).block,(ad168.add ((x4_3).toNat * 2)).off + 1,none⟩=some (.slice A168_1 ((rd_T89 l04 x4_3).f1).length c168_1)) (ds:=[]) (ab 8 0) (by kernel_rfl) rfl rfl ⟨cB BK160 0,cB BK160 1,cB BK160 2,cB BK160 3,cB BK160 4,uV hw168_0,uV hw168_1⟩ (fun hH=>?_);refine with_tabW r16_May.tab11 r16_May.bits11 (fun HT_ HW_=>?_);generalize wr.drew=w42 at BK160 HB HR168_1 hx168_0 hx168_1 hH ⊢;refine pU 1 68 ?_;refine pU 3 70 ?_;refine tU 0 67 ?_;refine tU 2 69 ?_;refine pU 4 71 ?_;refine tU 5 72 ?_;refine oU (N:=some 73) 6 (fun K hK=>?_);refine gO Tryz.func63 #[.agg #[.slice A0_0 l00.length c0_0,.slice A0_1 l01.length c0_1,.slice A0_2 l02.length c0_2,.slice A0_3 l03.length c0_3,.slice (some ad168) l04.length c0_4],.agg #[.string ((rd_T89 l04 x4_3).f0),.slice A168_1 ((rd_T89 l04 x4_3).f1).length c168_1]] ?_;(with_reducible refine (r16_Oper.calls k3 _ _ l00 _ _ l01 _ _ l02 _ _ l03 _ _ l04 ((rd_T89 l04 x4_3).f0) _ _ ((rd_T89 l04 x4_3).f1) t169 _ (sC HR00) J00.out (sC HR01) J01.out (sC HR02) J02.out (sC HR03) J03.out (sC HR04) J04.out (sC HR168_1) HC168_1.out A39.out).mono ?_);rintro e w43 ⟨rfl,hb⟩;refine ⟨_,rfl,?_⟩;replace BK160:=uK BK160 hb;replace HB:=uH hb;(try clear hb);refine hK.out _ _ ⟨cB BK160 0,cB BK160 1,cB BK160 2,cB BK160 3,cB BK160 4,uV hw168_0,uV hw168_1⟩ (fun hH=>?_);clear hK K;refine nU ?_;refine pU 7 74 ?_;refine dU ?_;go_upto_if 74 with (fail);have H:=HC40.out;clear HC40;by_cases c44:t169=true
          ·subst c44;replace H:=iT H;have H':=Sd.mk H;clear H;go_wp2;go_roundg k3
           case measure=>have:=HJ1.out;have:=HK2.out;have:=HK3.out;omega
           case rel=>exact ⟨(wrap64 (x4_3 + 1)),tSS,H',⟨by have:=HJ1.out;have:=HK2.out;have:=HK3.out;omega⟩,kA BK160,uA⟩
          ·replace c44:=Bool.eq_false_iff.mpr c44;subst c44;replace H:=iF H;obtain rfl:=sI H;go_wp2;go_ret;exact ⟨tW,uB⟩
         ·clear c37;obtain rfl:=sI H;have Z45:=bd5 BK160;go_wp2;go_ret;exact ⟨tW,uB⟩
mutual
def q16_Light.j0:Nat → Bool → List ByteArray → List ByteArray → List ByteArray → List (S85) → List (S89) → Option (Bool)
 | 0,_,_,_,_,_,_=>none
 | k + 1,x33,Xba,Xbb,Xbc,Xbd,Xbe=>if x33=true then (some false) else ((r16_All.f k Xba Xbb Xbc Xbd Xbe).bind fun t119=>(q16_Light.l0 k t119 0 Xba Xbb Xbc Xbd Xbe))
def q16_Light.l0:Nat → List ByteArray → Int → List ByteArray → List ByteArray → List ByteArray → List (S85) → List (S89) → Option (Bool)
 | 0,_,_,_,_,_,_,_=>none
 | k + 1,x3,x4,Xba,Xbb,Xbc,Xbd,Xbe=>if x4 < (x3.length:Int) then (if 0 ≤ x4 then (if ((rdOf ByteArray.empty x3 x4).size:Int) > 100 then (some false) else (q16_Light.l0 k x3 (wrap64 (x4 + 1)) Xba Xbb Xbc Xbd Xbe)) else (none)) else (q16_Light.l1 k 0 Xba Xbb Xbc Xbd Xbe)
def q16_Light.l1:Nat → Int → List ByteArray → List ByteArray → List ByteArray → List (S85) → List (S89) → Option (Bool)
 | 0,_,_,_,_,_,_=>none
 | k + 1,x5,Xba,Xbb,Xbc,Xbd,Xbe=>if x5 < (Xbe.length:Int) then (if 0 ≤ x5 then (if (((rd_T89 Xbe x5).f1).length:Int) > 20 then (some false) else (q16_Light.l1 k (wrap64 (x5 + 1)) Xba Xbb Xbc Xbd Xbe)) else (none)) else (some true)
end
def q16_Light.f (k:Nat) (l00:List ByteArray) (l01:List ByteArray) (l02:List ByteArray) (l03:List (S85)) (l04:List (S89)):Option (Bool):=if (l00.length:Int) > 20 then (q16_Light.j0 k true l00 l01 l02 l03 l04) else (if (l01.length:Int) > 20 then (q16_Light.j0 k true l00 l01 l02 l03 l04) else (if (l02.length:Int) > 20 then (q16_Light.j0 k true l00 l01 l02 l03 l04) else (if (l03.length:Int) > 30 then (q16_Light.j0 k true l00 l01 l02 l03 l04) else (q16_Light.j0 k (decide ((l04.length:Int) > 30)) l00 l01 l02 l03 l04))))
theorem q16_Light.calls (k:Nat) (A0_0:Option Addr) (c0_0:Nat) (l00:List ByteArray) (A0_1:Option Addr) (c0_1:Nat) (l01:List ByteArray) (A0_2:Option Addr) (c0_2:Nat) (l02:List ByteArray) (A0_3:Option Addr) (c0_3:Nat) (l03:List (S85)) (A0_4:Option Addr) (c0_4:Nat) (l04:List (S89)) (r:Bool) (w:World) (hr00:Kd.C Kd.string w A0_0 l00.length l00) (hc00:l00.length ≤ c0_0) (hr01:Kd.C Kd.string w A0_1 l01.length l01) (hc01:l01.length ≤ c0_1) (hr02:Kd.C Kd.string w A0_2 l02.length l02) (hc02:l02.length ≤ c0_2) (hr03:Kd.C k85 w A0_3 l03.length l03) (hc03:l03.length ≤ c0_3) (hr04:Kd.C k89 w A0_4 l04.length l04) (hc04:l04.length ≤ c0_4) (h:q16_Light.f k l00 l01 l02 l03 l04=some r) :
  Calls Tryz.prog 19 #[.agg #[.slice A0_0 l00.length c0_0,.slice A0_1 l01.length c0_1,.slice A0_2 l02.length c0_2,.slice A0_3 l03.length c0_3,.slice A0_4 l04.length c0_4]] w fun e w'=>e = .returned (.bool r)∧Below w.heap.size w w':=by
 have hu26:=Tryz.underlying26;have HR00:=Sd.mk hr00;have J00:=Sd.mk hc00;clear hr00 hc00;have HR01:=Sd.mk hr01;have J01:=Sd.mk hc01;clear hr01 hc01;have HR02:=Sd.mk hr02;have J02:=Sd.mk hc02;clear hr02 hc02;have HR03:=Sd.mk hr03;have J03:=Sd.mk hc03;clear hr03 hc03;have HR04:=Sd.mk hr04;have J04:=Sd.mk hc04;clear hr04 hc04;have HB:=Sd.mk (Below.refl w.heap.size w);have H:=h;clear h;unfold q16_Light.f at H;have HC2:=Sd.mk H;clear H;go_enter Tryz.func19,Tryz.ntmps19;go_upto_region 1 with (first|((with_reducible refine gate_dst (N:=1) rfl ?_);(try (refine gate_guard (by rfl) ?_;dsimp only));refine uY 1 (cs:=#[.slice A0_0 l00.length c0_0,.slice A0_1 l01.length c0_1,.slice A0_2 l02.length c0_2,.slice A0_3 l03.length c0_3,.slice A0_4 l04.length c0_4]) (t:=26) fun gb118 hg w3 BK118 hb GE118 HB=>?_;clear hb hg));(try simp only [Act.put,q1_,q2_,q3_]);go_cut [33] (fun v33 wc=>∃ (kq:Nat) (x33_1:Bool),v33 = .bool x33_1∧Sd (q16_Light.j0 kq x33_1 l00 l01 l02 l03 l04=some r)∧Sd (kq ≤ k)∧Sd (wc.heap[gb118]? = some (.cells #[(.slice A0_0 l00.length c0_0),(.slice A0_1 l01.length c0_1),(.slice A0_2 l02.length c0_2),(.slice A0_3 l03.length c0_3),(.slice A0_4 l04.length c0_4)] 26 (0,0)))∧Sd (Below w.heap.size w wc))
 case first =>
  have H:=HC2.out;clear HC2;replace H:=iD H;rcases H with ⟨c4,c4b0,H⟩ | ⟨c4,c4b0,H⟩
  ·have c4b1:decide (20 < l00.length)=true:=decide_eq_true (by omega);clear c4;(first|rw [c4b0]|(simp only [i64_w,i32_w];rw [c4b0])|rw [c4b1]|skip);have H':=Sd.mk H;clear H;have Z5:=bd5 BK118;go_wp2;go_meet
   case rel=>exact ⟨_,(true),tSS,H',⟨tO⟩,kA BK118,uA⟩
  ·have c4b1:decide (20 < l00.length)=false:=decide_eq_false (by omega);clear c4;(first|rw [c4b0]|(simp only [i64_w,i32_w];rw [c4b0])|rw [c4b1]|skip);replace H:=iD H;rcases H with ⟨c6,c6b0,H⟩ | ⟨c6,c6b0,H⟩
   ·have c6b1:decide (20 < l01.length)=true:=decide_eq_true (by omega);clear c6;have H':=Sd.mk H;clear H;have Z7:=bd5 BK118;go_wp2;go_meet
    case rel=>exact ⟨_,(true),tSS,H',⟨tO⟩,kA BK118,uA⟩
   ·have c6b1:decide (20 < l01.length)=false:=decide_eq_false (by omega);clear c6;replace H:=iD H;rcases H with ⟨c8,c8b0,H⟩ | ⟨c8,c8b0,H⟩
    ·have c8b1:decide (20 < l02.length)=true:=decide_eq_true (by omega);clear c8;have H':=Sd.mk H;clear H;have Z9:=bd5 BK118;go_wp2;go_meet
     case rel=>exact ⟨_,(true),tSS,H',⟨tO⟩,kA BK118,uA⟩
    ·have c8b1:decide (20 < l02.length)=false:=decide_eq_false (by omega);clear c8;replace H:=iD H;rcases H with ⟨c10,c10b0,H⟩ | ⟨c10,c10b0,H⟩
     ·have c10b1:decide (30 < l03.length)=true:=decide_eq_true (by omega);clear c10;have H':=Sd.mk H;clear H;have Z11:=bd5 BK118;go_wp2;go_meet
      case rel=>exact ⟨_,(true),tSS,H',⟨tO⟩,kA BK118,uA⟩
     ·have c10b1:decide (30 < l03.length)=false:=decide_eq_false (by omega);clear c10;have H':=Sd.mk H;clear H;have Z12:=bd5 BK118;go_wp2;go_meet
      case rel=>exact ⟨_,(decide ((l04.length:Int) > 30)),tSS,H',⟨tO⟩,kA BK118,uA⟩
 case rest =>
  clear HC2;obtain ⟨kq,x33_1,rfl,HA,HJ1,BK118,HB⟩:=hcut;cases kq with
  | zero=>exact absurd HA.out (by simp [q16_Light.j0])
  | succ kj1 =>
   have H:=HA.out;clear HA;simp only [q16_Light.j0] at H;by_cases c13:x33_1=true
   ·subst c13;replace H:=iT H;obtain rfl:=sI H;go_wp2;go_ret;exact ⟨tW,uB⟩
   ·replace c13:=Bool.eq_false_iff.mpr c13;subst c13;replace H:=iF H;obtain ⟨t119,A14,H⟩:=oB H;have H':=Sd.mk H;clear H;have Z15:=bd5 BK118;go_wp2_with (first|((with_reducible refine gate_callee (f:=46) rfl ?_);refine gL Tryz.func46 (some 35) #[.agg #[.slice A0_0 l00.length c0_0,.slice A0_1 l01.length c0_1,.slice A0_2 l02.length c0_2,.slice A0_3 l03.length c0_3,.slice A0_4 l04.length c0_4]] ?_;(with_reducible refine (r16_All.calls kj1 _ _ l00 _ _ l01 _ _ l02 _ _ l03 _ _ l04 t119 _ (sC HR00) J00.out (sC HR01) J01.out (sC HR02) J02.out (sC HR03) J03.out (sC HR04) J04.out A14.out).mono ?_);rintro e w16 ⟨v120,rfl,ho0,hb⟩;refine ⟨_,rfl,?_⟩;have HO121:=Sd.mk (Kd.R_lower ho0 (below_size uB));replace BK118:=uK BK118 hb;replace HB:=uH hb;(try clear hb);(try clear ho0)));go_loopg [4] kj1 (fun kq v4 w'=>∃ (x4_2:Int),v4 = .int .i64 x4_2∧Sd (q16_Light.l0 kq t119 x4_2 l00 l01 l02 l03 l04=some r)∧Sd (kq ≤ kj1)∧Sd (Kd.R Kd.string 9 w' w.heap.size (fun _=>True) v120 t119)∧Sd (w'.heap[gb118]? = some (.cells #[(.slice A0_0 l00.length c0_0),(.slice A0_1 l01.length c0_1),(.slice A0_2 l02.length c0_2),(.slice A0_3 l03.length c0_3),(.slice A0_4 l04.length c0_4)] 26 (0,0)))∧Sd (Below w.heap.size w w'))
    case atStart=>exact ⟨(0),tSS,H',⟨Nat.le_refl _⟩,kS HO121,kA BK118,uA⟩
    case round =>
     clear H';(try clear c13);(try clear Z15);obtain ⟨x4_2,rfl,HA,HK2,HO_3,BK118,HB⟩:=hrel;cases gk with
     | zero=>exact absurd HA.out (by simp [q16_Light.l0])
     | succ k2 =>
      have H:=HA.out;clear HA;simp only [q16_Light.l0] at H;replace H:=iD H;rcases H with ⟨c17,c17b0,H⟩ | ⟨c17,c17b0,H⟩
      ·clear c17;obtain ⟨c18,H⟩:=gG H;have c18b0:=dTr c18;clear c18;replace H:=iD H;rcases H with ⟨c19,c19b0,H⟩ | ⟨c19,c19b0,H⟩
       ·have c19b1:decide (100 < (rdOf ByteArray.empty t119 x4_2).size)=true:=decide_eq_true (by omega);clear c19;obtain rfl:=sI H;obtain ⟨Ao20,co20,eo20⟩:=Kd.R_slice HO_3.out;subst eo20;have p122:0 ≤ (x4_2:Int):=tD;have q122:x4_2 < (t119.length:Int):=tD;obtain ⟨ad122,e122,hx122_0⟩:=Kd.at_string (Kd.R_reads' HO_3.out).2.2 x4_2 p122 q122;cases e122;replace p122:=eq_true p122;replace q122:=eq_true q122;go_wp2;go_ret;exact ⟨tW,uB⟩
       ·have c19b1:decide (100 < (rdOf ByteArray.empty t119 x4_2).size)=false:=decide_eq_false (by omega);clear c19;have H':=Sd.mk H;clear H;obtain ⟨Ao21,co21,eo21⟩:=Kd.R_slice HO_3.out;subst eo21;have p122:0 ≤ (x4_2:Int):=tD;have q122:x4_2 < (t119.length:Int):=tD;obtain ⟨ad122,e122,hx122_0⟩:=Kd.at_string (Kd.R_reads' HO_3.out).2.2 x4_2 p122 q122;cases e122;replace p122:=eq_true p122;replace q122:=eq_true q122;go_wp2;go_roundg k2
        case measure=>have:=HJ1.out;have:=HK2.out;omega
        case rel=>exact ⟨(wrap64 (x4_2 + 1)),tSS,H',⟨by have:=HJ1.out;have:=HK2.out;omega⟩,kS HO_3,kA BK118,uA⟩
      ·clear c17;have H':=Sd.mk H;clear H;obtain ⟨Ao22,co22,eo22⟩:=Kd.R_slice HO_3.out;subst eo22;go_wp2;go_loopg [5] k2 (fun kq v5 w'=>∃ (x5_3:Int),v5 = .int .i64 x5_3∧Sd (q16_Light.l1 kq x5_3 l00 l01 l02 l03 l04=some r)∧Sd (kq ≤ k2)∧Sd (w'.heap[gb118]? = some (.cells #[(.slice A0_0 l00.length c0_0),(.slice A0_1 l01.length c0_1),(.slice A0_2 l02.length c0_2),(.slice A0_3 l03.length c0_3),(.slice A0_4 l04.length c0_4)] 26 (0,0)))∧Sd (Below w.heap.size w w'))
       case atStart=>exact ⟨(0),tSS,H',⟨Nat.le_refl _⟩,kA BK118,uA⟩
       case round =>
        clear H';(try clear c17b0);obtain ⟨x5_3,rfl,HA,HK3,BK118,HB⟩:=hrel;cases gk with
        | zero=>exact absurd HA.out (by simp [q16_Light.l1])
        | succ k3 =>
         have H:=HA.out;clear HA;simp only [q16_Light.l1] at H;replace H:=iD H;rcases H with ⟨c23,c23b0,H⟩ | ⟨c23,c23b0,H⟩
         ·clear c23;obtain ⟨c24,H⟩:=gG H;have c24b0:=dTr c24;clear c24;replace H:=iD H;rcases H with ⟨c25,c25b0,H⟩ | ⟨c25,c25b0,H⟩
          ·have c25b1:decide (20 < ((rd_T89 l04 x5_3).f1).length)=true:=decide_eq_true (by omega);clear c25;obtain rfl:=sI H;have Z26:=bd5 BK118;have p123:0 ≤ (x5_3:Int):=tD;have q123:x5_3 < (l04.length:Int):=tD;obtain ⟨ad123,A123_1,c123_1,e123,hx123_0,hx123_1,hl123_1,hi123_1⟩:=at_T89 HR04.out x5_3 p123 q123;cases e123;replace hx123_0:=uC HB hx123_0;replace hx123_1:=uC HB hx123_1;have HR123_1:=Sd.mk hi123_1;have HC123_1:=Sd.mk hl123_1;clear hi123_1 hl123_1;replace p123:=eq_true p123;replace q123:=eq_true q123;go_wp2;go_ret;exact ⟨tW,uB⟩
          ·have c25b1:decide (20 < ((rd_T89 l04 x5_3).f1).length)=false:=decide_eq_false (by omega);clear c25;have H':=Sd.mk H;clear H;have Z27:=bd5 BK118;have p123:0 ≤ (x5_3:Int):=tD;have q123:x5_3 < (l04.length:Int):=tD;obtain ⟨ad123,A123_1,c123_1,e123,hx123_0,hx123_1,hl123_1,hi123_1⟩:=at_T89 HR04.out x5_3 p123 q123;cases e123;replace hx123_0:=uC HB hx123_0;replace hx123_1:=uC HB hx123_1;have HR123_1:=Sd.mk hi123_1;have HC123_1:=Sd.mk hl123_1;clear hi123_1 hl123_1;replace p123:=eq_true p123;replace q123:=eq_true q123;go_wp2;go_roundg k3
           case measure=>have:=HJ1.out;have:=HK2.out;have:=HK3.out;omega
           case rel=>exact ⟨(wrap64 (x5_3 + 1)),tSS,H',⟨by have:=HJ1.out;have:=HK2.out;have:=HK3.out;omega⟩,kA BK118,uA⟩
         ·clear c23;obtain rfl:=sI H;have Z28:=bd5 BK118;go_wp2;go_ret;exact ⟨tW,uB⟩
end
theorem rdCl_at (l:List Cl) (pos:Nat):rd_T85 l (pos:Int)=l.getD pos z85:=by simp [rd_T85]
theorem rdOp_at (l:List Op_) (pos:Nat):rd_T89 l (pos:Int)=l.getD pos z89:=by simp [rd_T89]
theorem rdDg_at (l:List Dg) (pos:Nat):rd_T94 l (pos:Int)=l.getD pos z94:=by simp [rd_T94]
theorem getD_mem {α:Type} (l:List α) (z:α) (k:Nat) (h:k < l.length):l.getD k z ∈ l:=by
 simp only [List.getD_eq_getElem?_getD,List.getElem?_eq_getElem h,Option.getD_some];exact List.getElem_mem h
theorem take_getD {α:Type} (l:List α) (z:α) (k:Nat) (h:k < l.length):l.take (k + 1)=l.take k ++ [l.getD k z]:=by
 rw [List.take_add_one,List.getElem?_eq_getElem h];simp [List.getD_eq_getElem?_getD,List.getElem?_eq_getElem h]
theorem letter_f (c:Int):r14_letter.f c=some (letB c):=by
 unfold r14_letter.f letB;by_cases h:c ≥ 97
 ·rw [if_pos h];simp;omega
 ·rw [if_neg h];simp;omega
theorem digit_f (c:Int):r14_digit.f c=some (digB c):=by
 unfold r14_digit.f digB;by_cases h:c ≥ 48
 ·rw [if_pos h];simp;omega
 ·rw [if_neg h];simp;omega
theorem bt_byt (s:ByteArray) (i:Nat):bt s (i:Int)=byt s i:=by
 unfold bt byt;simp
theorem word_ev (s:ByteArray) (hs:s.size ≤ maxLen):Ev (fun k=>r14_Word.f k s) (wordB s):=by
 (have hm:maxLen ≤ 9223372036854775807:=by decide);have h:=Ev.loop (g:=fun k pos=>r14_Word.l0 k s (pos:Int)) (spec:=fun pos=>wordFrom s (s.size - pos) pos && decide (1 ≤ s.size∧s.size ≤ 16)) s.size ?_ ?_ 0 (by omega)
 ·(have e:(wordFrom s (s.size - 0) 0 && decide (1 ≤ s.size∧s.size ≤ 16))=wordB s:=by unfold wordB;rw [Bool.and_comm,Nat.sub_zero]);rw [← e];exact h
 ·refine Ev.succ ?_;simp only [r14_Word.l0];refine Ev.no (by omega) ?_;rw [Nat.sub_self,show wordFrom s 0 s.size=true from rfl,Bool.true_and];by_cases h1:(s.size:Int) ≥ 1
  ·exact Ev.yes h1 (Ev.is (by congr 1;apply propext;omega))
  ·exact Ev.no h1 (Ev.is (by symm;rw [decide_eq_false_iff_not];omega))
 ·intro pos hp ih;refine Ev.succ ?_;simp only [r14_Word.l0,letter_f,digit_f,bt_byt];obtain ⟨b,hb⟩:∃ b,s.size - pos=b + 1:=⟨s.size - pos - 1,by omega⟩;(have hb':s.size - (pos + 1)=b:=by omega);rw [wrap_up pos (by omega)];rw [hb'] at ih;rw [hb];(have e:wordFrom s (b + 1) pos=(wchar s pos && wordFrom s b (pos + 1)):=by simp [wordFrom,hp]);rw [e];refine Ev.yes (by omega) (Ev.yes (by omega) (Ev.bind1 rfl ?_));unfold wchar;cases hl:letB (byt s pos)
  ·refine Ev.no (by decide) (Ev.bind1 rfl ?_);cases hd:digB (byt s pos)
   ·refine Ev.no (by decide) ?_;rw [Bool.and_false];exact Ev.now _
   ·refine Ev.yes rfl ?_;by_cases h0:(pos:Int) > 0
    ·refine Ev.yes h0 ?_;rw [decide_eq_true (by omega)];exact ih
    ·refine Ev.no h0 ?_;rw [decide_eq_false (by omega)];exact Ev.now _
  ·exact Ev.yes rfl ih
theorem hasB_cons (x:ByteArray) (l:List ByteArray) (a:ByteArray):hasB (x :: l) a=(decide (x=a) || hasB l a):=rfl
theorem kept_ev (s:ByteArray):Ev (fun k=>r15_Kept.f k s) (hasB kwords s):=by
 unfold r15_Kept.f;refine Ev.bind1 (a:=kwords) rfl ?_;(have hl:kwords.length=17:=by decide);refine Ev.loop (g:=fun k pos=>r15_Kept.l0 k s kwords (pos:Int)) (spec:=fun pos=>hasB (kwords.drop pos) s) kwords.length ?_ ?_ 0 (by omega)
 ·refine Ev.succ ?_;simp only [r15_Kept.l0];rw [List.drop_length];exact Ev.no (by omega) (Ev.now _)
 ·intro pos hp ih;refine Ev.succ ?_;simp only [r15_Kept.l0,rdOf_at];rw [wrap_up pos (by omega),drop_getD kwords ByteArray.empty pos hp,hasB_cons];refine Ev.yes (by omega) (Ev.yes (by omega) ?_);by_cases he:(kwords.getD pos ByteArray.empty).toList=s.toList
  ·refine Ev.yes he ?_;rw [decide_eq_true (ba_toList_inj he)];exact Ev.now _
  ·refine Ev.no he ?_;rw [decide_eq_false (fun h=>he (by rw [h])),Bool.false_or];exact ih
theorem name_ev (s:ByteArray) (hs:s.size ≤ maxLen):Ev (fun k=>r15_Name.f k s) (nmB s):=by
 unfold r15_Name.f nmB;refine Ev.bind (word_ev s hs) ?_;cases wordB s
 ·exact Ev.no (by decide) (Ev.now _)
 ·exact Ev.yes rfl (Ev.bind (kept_ev s) (Ev.now _))
def idxI:List ByteArray → ByteArray → Nat → Int
 | [],_,_=>-1
 | x :: r,s,n=>if x=s then (n:Int) else idxI r s (n + 1)
theorem idxI_has (l:List ByteArray) (s:ByteArray):∀ n,decide (idxI l s n ≥ 0)=hasB l s:=by
 induction l with
 | nil=>intro n;rfl
 | cons x r ih =>
  intro n;rw [hasB_cons,idxI];by_cases h:x=s
  ·rw [if_pos h,decide_eq_true h,decide_eq_true (by omega)];rfl
  ·rw [if_neg h,decide_eq_false h,ih];rfl
theorem at_ev (l:List ByteArray) (s:ByteArray) (hl:l.length ≤ 4000000000):Ev (fun k=>r16_At.f k l s) (idxI l s 0):=by
 unfold r16_At.f;refine Ev.loop (g:=fun k pos=>r16_At.l0 k l s (pos:Int)) (spec:=fun pos=>idxI (l.drop pos) s pos) l.length ?_ ?_ 0 (by omega)
 ·refine Ev.succ ?_;simp only [r16_At.l0];rw [List.drop_length];exact Ev.no (by omega) (Ev.now _)
 ·intro pos hp ih;refine Ev.succ ?_;simp only [r16_At.l0,rdOf_at];rw [wrap_up pos (by omega),drop_getD l ByteArray.empty pos hp,idxI];refine Ev.yes (by omega) (Ev.yes (by omega) ?_);by_cases he:(l.getD pos ByteArray.empty).toList=s.toList
  ·rw [if_pos (ba_toList_inj he)];exact Ev.yes he (Ev.now _)
  ·rw [if_neg (fun h=>he (by rw [h]))];exact Ev.no he ih
theorem hasB_congr {l m:List ByteArray} (h:∀ x,x ∈ l ↔ x ∈ m) (a:ByteArray):hasB l a=hasB m a:=by
 unfold hasB;rw [Bool.eq_iff_iff];simp [h]
theorem unlike_ev (l:List ByteArray) (hl:l.length ≤ 4000000000) (hs:∀ s ∈ l,s.size ≤ maxLen):Ev (fun k=>r16_Unlike.f k l) (namedOk l):=by
 unfold r16_Unlike.f;refine Ev.loop (g:=fun k pos=>r16_Unlike.l0 k l (pos:Int)) (spec:=fun pos=>namedU (l.take pos).reverse (l.drop pos)) l.length ?_ ?_ 0 (by omega)
 ·refine Ev.succ ?_;simp only [r16_Unlike.l0];rw [List.drop_length];exact Ev.no (by omega) (Ev.now _)
 ·intro pos hp ih;refine Ev.succ ?_;simp only [r16_Unlike.l0,rdOf_at,Int.toNat_natCast];rw [wrap_up pos (by omega),drop_getD l ByteArray.empty pos hp,namedU];have hm:=getD_mem l ByteArray.empty pos hp;rw [take_getD l ByteArray.empty pos hp,List.reverse_append] at ih;generalize hx:l.getD pos ByteArray.empty=x at *;refine Ev.yes (by omega) (Ev.yes (by omega) (Ev.bind (name_ev x (hs x hm)) ?_));cases nmB x
  ·exact Ev.no (by decide) (Ev.now _)
  ·refine Ev.yes rfl (Ev.yes (by omega) (Ev.bind (at_ev (l.take pos) x (by rw [List.length_take];omega)) ?_));have e:=idxI_has (l.take pos) x 0;rw [hasB_congr (m:=(l.take pos).reverse) (fun y=>by simp) x] at e;rw [← e];by_cases h0:idxI (l.take pos) x 0 ≥ 0
   ·refine Ev.yes h0 ?_;rw [decide_eq_true h0];exact Ev.now _
   ·refine Ev.no h0 ?_;rw [decide_eq_false h0];exact ih
theorem all_ev (l0 l1 l2:List ByteArray) (l3:List Cl) (l4:List Op_) (h0:l0.length ≤ 1000000) (h1:l1.length ≤ 1000000) (h2:l2.length ≤ 1000000) (h4:l4.length ≤ 1000000) :
  Ev (fun k=>r16_All.f k l0 l1 l2 l3 l4) (namesL l0 l1 l2 l4):=by
 unfold r16_All.f;refine Ev.bind1 rfl (Ev.yes (by simp;omega) (Ev.bind1 rfl (Ev.yes (by simp;omega) (Ev.bind1 rfl (Ev.yes (by simp;omega) ?_)))));(have e:namesL l0 l1 l2 l4=(((([]:List ByteArray) ++ l0) ++ l1) ++ l2) ++ (l4.take l4.length).map (·.f0):=by rw [List.take_length];rfl);refine Ev.loop (g:=fun k pos=>r16_All.l0 k (((([]:List ByteArray) ++ l0) ++ l1) ++ l2 ++ (l4.take pos).map (·.f0)) (pos:Int) l0 l1 l2 l3 l4) (spec:=fun _=>namesL l0 l1 l2 l4) l4.length ?_ ?_ 0 (by omega) |> fun h=>by simpa using h
 ·refine Ev.succ ?_;simp only [r16_All.l0];rw [← e];exact Ev.no (by omega) (Ev.now _)
 ·intro pos hp ih;refine Ev.succ ?_;simp only [r16_All.l0,rdOp_at];rw [wrap_up pos (by omega)];rw [take_getD l4 z89 pos hp,List.map_append,← List.append_assoc] at ih;exact Ev.yes (by omega) (Ev.yes (by omega) (Ev.yes (by simp;omega) ih))
def flS (l:List Cl):List Int:=(l.filter (fun c=>decide (c.f0=8))).map (·.f2)
theorem leastU_congr (l:List Cl):∀ (s t:List Int),(∀ x,s.contains x=t.contains x) → leastU s l=leastU t l:=by
 induction l with
 | nil=>intro s t _;rfl
 | cons c l ih =>
  intro s t h;unfold leastU;rw [h c.f2,ih s t h,ih (c.f2 :: s) (c.f2 :: t) (fun x=>by rw [List.contains_cons,List.contains_cons,h x])]
theorem flS_snoc (l:List Cl) (c:Cl):flS (l ++ [c])=if c.f0=8 then flS l ++ [c.f2] else flS l:=by
 unfold flS;rw [List.filter_append,List.map_append];by_cases h:c.f0=8
 ·simp [h]
 ·simp [h]
theorem leastU_at (l:List Cl) (c:Cl) (r:List Cl):leastU (flS l) (c :: r)=if c.f0=8∧(flS l).contains c.f2=true then false else leastU (flS (l ++ [c])) r:=by
 rw [flS_snoc,show leastU (flS l) (c :: r)=(if c.f0=8 then (if (flS l).contains c.f2 then false else leastU (c.f2 :: flS l) r) else leastU (flS l) r) from rfl];by_cases h:c.f0=8
 ·rw [if_pos h,if_pos h];by_cases h2:(flS l).contains c.f2=true
  ·rw [if_pos h2,if_pos ⟨h,h2⟩]
  ·rw [if_neg h2,if_neg (fun x=>h2 x.2)];exact leastU_congr r _ _ (fun x=>by rw [Bool.eq_iff_iff];simp;exact or_comm)
 ·rw [if_neg h,if_neg h,if_neg (fun x=>h x.1)]
theorem floors_ev (l:List Cl) (hl:l.length ≤ 4000000000):Ev (fun k=>r16_floors.f k l) (leastOk l):=by
 unfold r16_floors.f;refine Ev.loop (g:=fun k pos=>r16_floors.l0 k l (pos:Int)) (spec:=fun pos=>leastU (flS (l.take pos)) (l.drop pos)) l.length ?_ ?_ 0 (by omega)
 ·refine Ev.succ ?_;simp only [r16_floors.l0];rw [List.drop_length];exact Ev.no (by omega) (Ev.now _)
 ·intro pos hp ih;refine Ev.succ ?_;simp only [r16_floors.l0];refine Ev.yes (by omega) ?_;rw [take_getD l z85 pos hp] at ih;have hrd:rd_T85 l (pos:Int)=l.getD pos z85:=rdCl_at l pos;rw [drop_getD l z85 pos hp,leastU_at];generalize l.getD pos z85=c at *;have h:=Ev.loop (g:=fun k j=>r16_floors.l1 k l (pos:Int) (j:Int)) (spec:=fun j=>if c.f0=8∧(flS ((l.take pos).drop j)).contains c.f2=true then false else leastU (flS (l.take pos ++ [c])) (l.drop (pos + 1))) pos ?_ ?_ 0 (by omega)
  ·rw [List.drop_zero] at h;exact h
  ·refine Ev.succ ?_;simp only [r16_floors.l1];rw [wrap_up pos (by omega)];rw [List.drop_eq_nil_of_le (by rw [List.length_take];omega),if_neg (by simp [flS])];exact Ev.no (by omega) ih
  ·intro j hj ihj;refine Ev.succ ?_;simp only [r16_floors.l1];(have hjt:j < (l.take pos).length:=by rw [List.length_take];omega);have hrj:rd_T85 l (j:Int)=(l.take pos).getD j z85:=by
    rw [rdCl_at];simp [List.getD_eq_getElem?_getD,List.getElem?_take,hj]
   rw [wrap_up j (by omega),hrd,hrj,drop_getD (l.take pos) z85 j hjt];generalize (l.take pos).getD j z85=e at *;refine Ev.yes (by omega) (Ev.yes (by omega) (Ev.yes (by omega) ?_));have hfl:flS (e :: (l.take pos).drop (j + 1))=if e.f0=8 then e.f2 :: flS ((l.take pos).drop (j + 1)) else flS ((l.take pos).drop (j + 1)):=by
    unfold flS;by_cases h:e.f0=8 <;> simp [h]
   rw [hfl];by_cases hc:c.f0=8
   ·refine Ev.yes hc (Ev.yes (by omega) (Ev.yes (by omega) ?_));by_cases he:e.f0=8
    ·rw [if_pos he];refine Ev.yes he ?_;by_cases hq:c.f2=e.f2
     ·rw [if_pos ⟨hc,by simp [hq]⟩];exact Ev.yes hq (Ev.now _)
     ·refine Ev.no hq ?_;have:(e.f2 :: flS ((l.take pos).drop (j + 1))).contains c.f2=(flS ((l.take pos).drop (j + 1))).contains c.f2:=by
       rw [List.contains_cons];simp [hq]
      rw [this];exact ihj
    ·rw [if_neg he];exact Ev.no he ihj
   ·rw [if_neg (fun x=>hc x.1)] at ihj ⊢;exact Ev.no hc ihj
def srt (k:Int):Int:=if k=1 ∨ k=2 then 1 else if k=3 ∨ k=4 then 2 else if k=6 then 3 else 0
theorem sort_ev (k0:Int):Ev (fun k=>r16_Sort.f k k0) (srt k0):=by
 refine Ev.succ (Ev.succ (Ev.congr (f:=fun _=>some (srt k0)) (fun k=>?_) (Ev.now _)));simp only [r16_Sort.f,r16_Sort.j0,r16_Sort.j1,srt];by_cases h1:k0=1 <;> by_cases h2:k0=2 <;> by_cases h3:k0=3 <;> by_cases h4:k0=4 <;> by_cases h6:k0=6 <;> simp [h1,h2,h3,h4,h6]
theorem doB_kinds {ns nc nn:Nat} {d:Dg} (h:doB ns nc nn d=true):d.f0=1 ∨ d.f0=2 ∨ d.f0=3 ∨ d.f0=4 ∨ d.f0=6:=by
 unfold doB at h;by_cases h1:d.f0=1 ∨ d.f0=2
 ·omega
 ·by_cases h3:d.f0=3 ∨ d.f0=4
  ·omega
  ·by_cases h6:d.f0=6
   ·omega
   ·rw [if_neg h1,if_neg h3,if_neg h6] at h;cases h
theorem th_srt {ns nc nn:Nat} {d e:Dg} (h:doB ns nc nn d=true) (g:doB ns nc nn e=true):toTh d=toTh e ↔ srt e.f0=srt d.f0∧e.f1=d.f1:=by
 have h1:=doB_kinds h;have h2:=doB_kinds g;unfold toTh srt;rcases h1 with h1|h1|h1|h1|h1 <;> rcases h2 with h2|h2|h2|h2|h2 <;> simp [h1,h2] <;> exact eq_comm
theorem oper_ev (l0 l1 l2:List ByteArray) (l3:List Cl) (l4:List Op_) (nm:ByteArray) (l:List Dg) (hl:l.length ≤ 4000000000) :
  Ev (fun k=>r16_Oper.f k l0 l1 l2 l3 l4 nm l) (operOk l0.length l1.length l2.length l):=by
 unfold r16_Oper.f;have hw:operOk l0.length l1.length l2.length l=(operU l0.length l1.length l2.length ((l.take 0).map toTh).reverse (l.drop 0) && wB l.length 1 16):=by
  unfold operOk;rw [Bool.and_comm];rfl
 rw [hw];have main:∀ (m pos:Nat),pos + m=l.length → (∀ e ∈ l.take pos,doB l0.length l1.length l2.length e=true) →
   Ev (fun k=>r16_Oper.l0 k [0,(l0.length:Int),(l1.length:Int),(l2.length:Int)] (pos:Int) nm l) (operU l0.length l1.length l2.length ((l.take pos).map toTh).reverse (l.drop pos) && wB l.length 1 16):=by
  intro m;induction m with
  | zero =>
   intro pos hp _;refine Ev.succ ?_;simp only [r16_Oper.l0];refine Ev.no (by omega) ?_;rw [List.drop_eq_nil_of_le (by omega),operU,Bool.true_and];unfold wB;by_cases h1:(l.length:Int) ≥ 1
   ·refine Ev.yes h1 (Ev.is ?_);rw [decide_eq_true (by omega:(1:Int) ≤ l.length),Bool.true_and]
   ·refine Ev.no h1 (Ev.is ?_);rw [decide_eq_false (by omega:¬ (1:Int) ≤ l.length),Bool.false_and]
  | succ m ih =>
   intro pos hp hd;(have hlt:pos < l.length:=by omega);refine Ev.succ ?_;simp only [r16_Oper.l0];have hrd:rd_T94 l (pos:Int)=l.getD pos z94:=rdDg_at l pos;have ih':=ih (pos + 1) (by omega);rw [take_getD l z94 pos hlt] at ih';rw [hrd,drop_getD l z94 pos hlt];generalize l.getD pos z94=d at *;refine Ev.yes (by omega) (Ev.yes (by omega) (Ev.bind (sort_ev d.f0) ?_));(have hs:0 ≤ srt d.f0∧srt d.f0 < 4:=by unfold srt;split <;> (try split) <;> (try split) <;> omega);refine Ev.yes hs.1 (Ev.yes (by simpa using hs.2) ?_);have hj1:∀ b,b = !doB l0.length l1.length l2.length d → Ev (fun k=>r16_Oper.j1 k [0,(l0.length:Int),(l1.length:Int),(l2.length:Int)] (pos:Int) (srt d.f0) b nm l d.f0 d.f1 d.f2)
     (operU l0.length l1.length l2.length ((l.take pos).map toTh).reverse (d :: l.drop (pos + 1)) && wB l.length 1 16):=by
    rintro b rfl;refine Ev.succ ?_;simp only [r16_Oper.j1];rw [operU];cases hdo:doB l0.length l1.length l2.length d
    ·exact Ev.yes rfl (Ev.now _)
    ·refine Ev.no (by simp) ?_;rw [Bool.true_and];have ih2:=ih' (fun e he=>by
      rcases List.mem_append.1 he with h|h
      ·exact hd e h
      ·rw [List.mem_singleton.1 h];exact hdo)
     rw [List.map_append,List.reverse_append] at ih2;have hseen:((l.take pos).map toTh).reverse.contains (toTh d)=((l.take pos).drop 0).any (fun e=>decide (srt e.f0=srt d.f0∧e.f1=d.f1)):=by
      rw [List.drop_zero,Bool.eq_iff_iff,List.contains_iff_mem,List.mem_reverse,List.mem_map,List.any_eq_true];constructor
      ·rintro ⟨e,he,hq⟩;exact ⟨e,he,decide_eq_true ((th_srt hdo (hd e he)).1 hq.symm)⟩
      ·rintro ⟨e,he,hq⟩;exact ⟨e,he,((th_srt hdo (hd e he)).2 (of_decide_eq_true hq)).symm⟩
     rw [hseen];refine Ev.loop (g:=fun k j=>r16_Oper.l1 k [0,(l0.length:Int),(l1.length:Int),(l2.length:Int)] (pos:Int) (srt d.f0) (j:Int) nm l d.f0 d.f1 d.f2)
      (spec:=fun j=>(!((l.take pos).drop j).any (fun e=>decide (srt e.f0=srt d.f0∧e.f1=d.f1)) && operU l0.length l1.length l2.length (toTh d :: ((l.take pos).map toTh).reverse) (l.drop (pos + 1))) && wB l.length 1 16) pos ?_ ?_ 0 (by omega)
     ·refine Ev.succ ?_;simp only [r16_Oper.l1];rw [wrap_up pos (by omega)];refine Ev.no (by omega) ?_;rw [List.drop_eq_nil_of_le (by rw [List.length_take];omega)];exact ih2
     ·intro j hj ihj;refine Ev.succ ?_;simp only [r16_Oper.l1];(have hjt:j < (l.take pos).length:=by rw [List.length_take];omega);have hrj:rd_T94 l (j:Int)=(l.take pos).getD j z94:=by
       rw [rdDg_at];simp [List.getD_eq_getElem?_getD,List.getElem?_take,hj]
      rw [wrap_up j (by omega),hrj,drop_getD (l.take pos) z94 j hjt];generalize (l.take pos).getD j z94=e at *;refine Ev.yes (by omega) (Ev.yes (by omega) (Ev.yes (by omega) (Ev.bind (sort_ev e.f0) ?_)));rw [List.any_cons];by_cases hq:srt e.f0=srt d.f0
      ·refine Ev.yes hq ?_;by_cases hq2:e.f1=d.f1
       ·rw [decide_eq_true ⟨hq,hq2⟩];exact Ev.yes hq2 (Ev.now _)
       ·rw [decide_eq_false (fun x=>hq2 x.2),Bool.false_or];exact Ev.no hq2 ihj
      ·rw [decide_eq_false (fun x=>hq x.1),Bool.false_or];exact Ev.no hq ihj
   rw [show r16_in.f d.f1 (rd [0,(l0.length:Int),(l1.length:Int),(l2.length:Int)] (srt d.f0))=_ from in_f _ _];refine Ev.bind1 rfl ?_;(have hwB:∀ lo hi:Int,wB d.f2 lo hi=(decide (lo ≤ d.f2) && decide (d.f2 ≤ hi)):=fun _ _=>rfl);by_cases h1:d.f0=1 ∨ d.f0=2
   ·(have hsr:srt d.f0=1:=by unfold srt;rw [if_pos h1]);(have hdo:doB l0.length l1.length l2.length d=(wB d.f1 0 ((l0.length:Int) - 1) && d.f2 == 0):=by unfold doB;rw [if_pos h1]);rw [hsr] at hj1 ⊢;rw [show rd [0,(l0.length:Int),(l1.length:Int),(l2.length:Int)] 1=l0.length from rfl];cases hin:wB d.f1 0 ((l0.length:Int) - 1)
    ·exact Ev.no (by simp) (hj1 true (by rw [hdo,hin];rfl))
    ·exact Ev.yes rfl (Ev.no (by decide) (hj1 _ (by rw [hdo,hin];rfl)))
   ·by_cases h3:d.f0=3 ∨ d.f0=4
    ·(have hsr:srt d.f0=2:=by unfold srt;rw [if_neg h1,if_pos h3]);(have hdo:doB l0.length l1.length l2.length d=(wB d.f1 0 ((l1.length:Int) - 1) && wB d.f2 1 1000):=by unfold doB;rw [if_neg h1,if_pos h3]);rw [hsr] at hj1 ⊢;rw [show rd [0,(l0.length:Int),(l1.length:Int),(l2.length:Int)] 2=l1.length from rfl];cases hin:wB d.f1 0 ((l1.length:Int) - 1)
     ·exact Ev.no (by simp) (hj1 true (by rw [hdo,hin];rfl))
     ·refine Ev.yes rfl (Ev.yes rfl ?_);by_cases hlo:d.f2 < 1
      ·exact Ev.yes hlo (hj1 true (by rw [hdo,hin,hwB,decide_eq_false (by omega:¬ 1 ≤ d.f2)];rfl))
      ·refine Ev.no hlo ?_;by_cases hhi:d.f2 > 1000
       ·exact Ev.yes hhi (hj1 true (by rw [hdo,hin,hwB,decide_eq_false (by omega:¬ d.f2 ≤ 1000),Bool.and_false];rfl))
       ·exact Ev.no hhi (hj1 false (by rw [hdo,hin,hwB,decide_eq_true (by omega:d.f2 ≤ 1000),decide_eq_true (by omega:1 ≤ d.f2)];rfl))
    ·by_cases h6:d.f0=6
     ·(have hsr:srt d.f0=3:=by unfold srt;rw [if_neg h1,if_neg h3,if_pos h6]);(have hdo:doB l0.length l1.length l2.length d=(wB d.f1 0 ((l2.length:Int) - 1) && d.f2 == 0):=by unfold doB;rw [if_neg h1,if_neg h3,if_pos h6]);rw [hsr] at hj1 ⊢;rw [show rd [0,(l0.length:Int),(l1.length:Int),(l2.length:Int)] 3=l2.length from rfl];cases hin:wB d.f1 0 ((l2.length:Int) - 1)
      ·exact Ev.no (by simp) (hj1 true (by rw [hdo,hin];rfl))
      ·exact Ev.yes rfl (Ev.no (by decide) (hj1 _ (by rw [hdo,hin];rfl)))
     ·(have hsr:srt d.f0=0:=by unfold srt;rw [if_neg h1,if_neg h3,if_neg h6]);(have hdo:doB l0.length l1.length l2.length d=false:=by unfold doB;rw [if_neg h1,if_neg h3,if_neg h6]);rw [hsr] at hj1 ⊢;rw [show rd [0,(l0.length:Int),(l1.length:Int),(l2.length:Int)] 0=0 from rfl];have hin:wB d.f1 0 (0 - 1)=false:=by
       unfold wB;by_cases h0:0 ≤ d.f1
       ·rw [decide_eq_false (by omega:¬ d.f1 ≤ 0 - 1),Bool.and_false]
       ·rw [decide_eq_false h0,Bool.false_and]
      rw [hin];exact Ev.no (by simp) (hj1 true (by rw [hdo];rfl))
 exact main l.length 0 (by omega) (fun e he=>by simp at he)
theorem may_ev (l0 l1 l2:List ByteArray) (l3:List Cl) (l4:List Op_) (hs:∀ s ∈ namesL l0 l1 l2 l4,s.size ≤ maxLen) (hd:∀ o ∈ l4,o.f1.length ≤ 4000000000) :
  Ev (fun k=>r16_May.f k l0 l1 l2 l3 l4) (checkB l0 l1 l2 l3 l4):=by
 have hno:∀ b,b=true → checkB l0 l1 l2 l3 l4=false → Ev (fun k=>r16_May.j0 k b l0 l1 l2 l3 l4) (checkB l0 l1 l2 l3 l4):=by
  rintro b rfl h;refine Ev.succ ?_;simp only [r16_May.j0];rw [h];exact Ev.yes (by first|trivial|rfl) (Ev.now _)
 unfold r16_May.f;by_cases h0:6 < l0.length
 ·exact Ev.yes (by omega) (hno true rfl (by unfold checkB;rw [if_pos h0]))
 by_cases h1:4 < l1.length
 ·exact Ev.no (by omega) (Ev.yes (by omega) (hno true rfl (by unfold checkB;rw [if_neg h0,if_pos h1])))
 by_cases h2:3 < l2.length
 ·exact Ev.no (by omega) (Ev.no (by omega) (Ev.yes (by omega) (hno true rfl (by unfold checkB;rw [if_neg h0,if_neg h1,if_pos h2]))))
 by_cases h4:16 < l4.length
 ·exact Ev.no (by omega) (Ev.no (by omega) (Ev.no (by omega) (Ev.yes (by omega) (hno true rfl (by unfold checkB;rw [if_neg h0,if_neg h1,if_neg h2,if_pos h4])))))
 by_cases h3:12 < l3.length
 ·exact Ev.no (by omega) (Ev.no (by omega) (Ev.no (by omega) (Ev.no (by omega) (Ev.yes (by omega) (hno true rfl (by unfold checkB;rw [if_neg h0,if_neg h1,if_neg h2,if_neg h4,if_pos h3]))))))
 refine Ev.no (by omega) (Ev.no (by omega) (Ev.no (by omega) (Ev.no (by omega) (Ev.no (by omega) ?_))));have hcb:=checkB_at (l3:=l3) h0 h1 h2 h4 h3;(have hnl:(namesL l0 l1 l2 l4).length ≤ 4000000000:=by unfold namesL;simp;omega);refine Ev.bind (all_ev l0 l1 l2 l3 l4 (by omega) (by omega) (by omega) (by omega)) (Ev.bind (unlike_ev _ hnl hs) ?_);cases hn:namedOk (namesL l0 l1 l2 l4)
 ·exact Ev.no (by decide) (hno true rfl (by rw [hcb,hn,Bool.false_and]))
 refine Ev.yes rfl (Ev.bind (floors_ev l3 (by omega)) ?_);cases hf:leastOk l3
 ·exact hno _ rfl (by rw [hcb,hn,hf,Bool.false_and,Bool.and_false])
 refine Ev.succ ?_;simp only [r16_May.j0];refine Ev.no (by decide) ?_;rw [hcb,hn,hf,Bool.true_and,Bool.true_and];have hop:Ev (fun k=>r16_May.l1 k 0 l0 l1 l2 l3 l4) (!l4.any (fun x=>!operOk l0.length l1.length l2.length x.f1)):=by
  refine Ev.loop (g:=fun k pos=>r16_May.l1 k (pos:Int) l0 l1 l2 l3 l4) (spec:=fun pos=>!(l4.drop pos).any (fun x=>!operOk l0.length l1.length l2.length x.f1)) l4.length ?_ ?_ 0 (by omega)
  ·refine Ev.succ ?_;simp only [r16_May.l1];rw [List.drop_length];exact Ev.no (by omega) (Ev.now _)
  ·intro pos hp ih;refine Ev.succ ?_;simp only [r16_May.l1,rdOp_at];have hm:=getD_mem l4 z89 pos hp;rw [wrap_up pos (by omega),drop_getD l4 z89 pos hp,List.any_cons];generalize l4.getD pos z89=o at *;refine Ev.yes (by omega) (Ev.yes (by omega) (Ev.bind (oper_ev l0 l1 l2 l3 l4 o.f0 o.f1 (hd o hm)) ?_));cases operOk l0.length l1.length l2.length o.f1
   ·exact Ev.no (by decide) (Ev.now _)
   ·exact Ev.yes rfl ih
 refine Ev.loop (g:=fun k pos=>r16_May.l0 k (pos:Int) l0 l1 l2 l3 l4) (spec:=fun pos=>!(l3.drop pos).any (fun x=>!clB l0.length l1.length x) && !l4.any (fun x=>!operOk l0.length l1.length l2.length x.f1)) l3.length ?_ ?_ 0 (by omega)
 ·refine Ev.succ ?_;simp only [r16_May.l0];rw [List.drop_length];exact Ev.no (by omega) hop
 ·intro pos hp ih;refine Ev.succ ?_;simp only [r16_May.l0,rdCl_at];rw [wrap_up pos (by omega),drop_getD l3 z85 pos hp,List.any_cons];generalize l3.getD pos z85=c at *;refine Ev.yes (by omega) (Ev.yes (by omega) (Ev.bind1 rfl ?_));cases clB l0.length l1.length c
  ·exact Ev.no (by decide) (Ev.now _)
  ·exact Ev.yes rfl ih
def lightB (l0 l1 l2:List ByteArray) (l3:List Cl) (l4:List Op_):Bool :=
 if 20 < l0.length then false else if 20 < l1.length then false else if 20 < l2.length then false else if 30 < l3.length then false else if 30 < l4.length then false
 else (namesL l0 l1 l2 l4).all (fun s=>decide (s.size ≤ 100)) && l4.all (fun o=>decide (o.f1.length ≤ 20))
theorem lightB_ok {l0 l1 l2:List ByteArray} {l3:List Cl} {l4:List Op_} (h:lightB l0 l1 l2 l3 l4=true) :
  l0.length ≤ 20∧l1.length ≤ 20∧l2.length ≤ 20∧l3.length ≤ 30∧l4.length ≤ 30∧(∀ s ∈ namesL l0 l1 l2 l4,s.size ≤ 100)∧∀ o ∈ l4,o.f1.length ≤ 20:=by
 unfold lightB at h;(split at h;· cases h);(split at h;· cases h);(split at h;· cases h);(split at h;· cases h);(split at h;· cases h);rw [Bool.and_eq_true,List.all_eq_true,List.all_eq_true] at h;exact ⟨by omega,by omega,by omega,by omega,by omega,fun s hs=>of_decide_eq_true (h.1 s hs),fun o ho=>of_decide_eq_true (h.2 o ho)⟩
theorem light_ev (l0 l1 l2:List ByteArray) (l3:List Cl) (l4:List Op_):Ev (fun k=>q16_Light.f k l0 l1 l2 l3 l4) (lightB l0 l1 l2 l3 l4):=by
 have hno:∀ b,b=true → lightB l0 l1 l2 l3 l4=false → Ev (fun k=>q16_Light.j0 k b l0 l1 l2 l3 l4) (lightB l0 l1 l2 l3 l4):=by
  rintro b rfl h;refine Ev.succ ?_;simp only [q16_Light.j0];rw [h];exact Ev.yes (by first|trivial|rfl) (Ev.now _)
 unfold q16_Light.f;by_cases h0:20 < l0.length
 ·exact Ev.yes (by omega) (hno true rfl (by unfold lightB;rw [if_pos h0]))
 by_cases h1:20 < l1.length
 ·exact Ev.no (by omega) (Ev.yes (by omega) (hno true rfl (by unfold lightB;rw [if_neg h0,if_pos h1])))
 by_cases h2:20 < l2.length
 ·exact Ev.no (by omega) (Ev.no (by omega) (Ev.yes (by omega) (hno true rfl (by unfold lightB;rw [if_neg h0,if_neg h1,if_pos h2]))))
 by_cases h3:30 < l3.length
 ·exact Ev.no (by omega) (Ev.no (by omega) (Ev.no (by omega) (Ev.yes (by omega) (hno true rfl (by unfold lightB;rw [if_neg h0,if_neg h1,if_neg h2,if_pos h3])))))
 refine Ev.no (by omega) (Ev.no (by omega) (Ev.no (by omega) (Ev.no (by omega) ?_)));by_cases h4:30 < l4.length
 ·exact hno _ (decide_eq_true (by omega)) (by unfold lightB;rw [if_neg h0,if_neg h1,if_neg h2,if_neg h3,if_pos h4])
 rw [decide_eq_false (by omega:¬ (l4.length:Int) > 30)];refine Ev.succ ?_;simp only [q16_Light.j0];refine Ev.no (by decide) (Ev.bind (all_ev l0 l1 l2 l3 l4 (by omega) (by omega) (by omega) (by omega)) ?_);(have hu:lightB l0 l1 l2 l3 l4=((namesL l0 l1 l2 l4).all (fun s=>decide (s.size ≤ 100)) && l4.all (fun o=>decide (o.f1.length ≤ 20))):=by unfold lightB;rw [if_neg h0,if_neg h1,if_neg h2,if_neg h3,if_neg h4]);(have hnl:(namesL l0 l1 l2 l4).length ≤ 4000000000:=by unfold namesL;simp;omega);rw [hu];generalize namesL l0 l1 l2 l4=nl at *;have hop:Ev (fun k=>q16_Light.l1 k 0 l0 l1 l2 l3 l4) (l4.all (fun o=>decide (o.f1.length ≤ 20))):=by
  refine Ev.loop (g:=fun k pos=>q16_Light.l1 k (pos:Int) l0 l1 l2 l3 l4) (spec:=fun pos=>(l4.drop pos).all (fun o=>decide (o.f1.length ≤ 20))) l4.length ?_ ?_ 0 (by omega)
  ·refine Ev.succ ?_;simp only [q16_Light.l1];rw [List.drop_length];exact Ev.no (by omega) (Ev.now _)
  ·intro pos hp ih;refine Ev.succ ?_;simp only [q16_Light.l1,rdOp_at];rw [wrap_up pos (by omega),drop_getD l4 z89 pos hp,List.all_cons];generalize l4.getD pos z89=o at *;refine Ev.yes (by omega) (Ev.yes (by omega) ?_);by_cases hq:o.f1.length ≤ 20
   ·rw [decide_eq_true hq,Bool.true_and];exact Ev.no (by omega) ih
   ·rw [decide_eq_false hq];exact Ev.yes (by omega) (Ev.now _)
 refine Ev.loop (g:=fun k pos=>q16_Light.l0 k nl (pos:Int) l0 l1 l2 l3 l4) (spec:=fun pos=>(nl.drop pos).all (fun s=>decide (s.size ≤ 100)) && l4.all (fun o=>decide (o.f1.length ≤ 20))) nl.length ?_ ?_ 0 (by omega)
 ·refine Ev.succ ?_;simp only [q16_Light.l0];rw [List.drop_length];exact Ev.no (by omega) hop
 ·intro pos hp ih;refine Ev.succ ?_;simp only [q16_Light.l0,rdOf_at];rw [wrap_up pos (by omega),drop_getD nl ByteArray.empty pos hp,List.all_cons];generalize nl.getD pos ByteArray.empty=s at *;refine Ev.yes (by omega) (Ev.yes (by omega) ?_);by_cases hq:s.size ≤ 100
  ·rw [decide_eq_true hq,Bool.true_and];exact Ev.no (by omega) ih
  ·rw [decide_eq_false hq];exact Ev.yes (by omega) (Ev.now _)
section
attribute [local go_sem] max2_int min2_int max_two min_two max_three min_three max_four min_four
def eval_right.f (a0:ByteArray):Option (Bool):=if a0.toList=([]:List UInt8) then (some false) else (some (decide ((a0.size:Int) ≤ 32)))
theorem eval_right.calls (a0:ByteArray) (r:Bool) (w:World) (h:eval_right.f a0=some r) :
  Calls Tryz.prog 178 #[.string a0] w fun e w'=>e = .returned (.bool r)∧Drawn0 w w':=by
 have H:=h;clear h;unfold eval_right.f at H;replace H:=iE H;rcases H with ⟨c2,c2b0,c2b1,H⟩ | ⟨c2,c2b0,c2b1,H⟩
 ·clear c2;obtain rfl:=sI H;go_enter Tryz.func178,Tryz.ntmps178;go_wp2;go_ret;exact ⟨by first|rfl|(simp;done)|(simp [*];done),tR⟩
 ·obtain rfl:=sI H;go_enter Tryz.func178,Tryz.ntmps178;go_wp2;go_ret;exact ⟨by first|rfl|(simp;done)|(simp [*];done),tR⟩
def eval_set.l0:Nat → List ByteArray → List ByteArray → Int → Int → Option (Bool)
 | 0,_,_,_,_=>none
 | k + 1,x0,x5,x6,x7=>if x7 < x6 then (if 0 ≤ x7 then (if x7 < (x5.length:Int) then ((eval_right.f (rdOf ByteArray.empty x5 x7)).bind fun t466=>(if t466=true then (if x7 > 0 then (if 0 ≤ (wrap64 (x7 - 1)) then (if (wrap64 (x7 - 1)) < (x0.length:Int) then (if ((Op.bytesLess ((rdOf ByteArray.empty x0 (wrap64 (x7 - 1))).toList) ((rdOf ByteArray.empty x5 x7).toList))=true) then (eval_set.l0 k x0 x5 x6 (wrap64 (x7 + 1))) else (some false)) else (none)) else (none)) else (eval_set.l0 k x0 x5 x6 (wrap64 (x7 + 1)))) else (some false))) else (none)) else (none)) else (some (decide ((x0.length:Int) ≤ 4000)))
def eval_set.f (k:Nat) (l0:List ByteArray):Option (Bool):=eval_set.l0 k l0 l0 (l0.length:Int) 0
theorem eval_set.calls (k:Nat) (A0:Option Addr) (c0:Nat) (l0:List ByteArray) (r:Bool) (w:World) (hr0:Kd.C Kd.string w A0 l0.length l0) (hc0:l0.length ≤ c0) (h:eval_set.f k l0=some r) :
  Calls Tryz.prog 164 #[.slice A0 l0.length c0] w fun e w'=>e = .returned (.bool r)∧Drawn0 w w':=by
 have HR0:=Sd.mk hr0;have HC0:=Sd.mk hc0;clear hr0 hc0;have H:=h;clear h;unfold eval_set.f at H;have H':=Sd.mk H;clear H;go_enter Tryz.func164,Tryz.ntmps164;go_wp2;go_loopg [7] k (fun kq v7 w'=>∃ (x7_1:Int),v7 = .int .i64 x7_1∧Sd (eval_set.l0 kq l0 l0 (l0.length:Int) x7_1=some r)∧Sd (kq ≤ k)∧Drawn0 w w')
 case atStart=>exact ⟨(0),tSS,H',⟨Nat.le_refl _⟩,tR⟩
 case round =>
  clear H';obtain ⟨x7_1,rfl,HA,HK1,⟨m1,rfl⟩⟩:=hrel;cases gk with
  | zero=>exact absurd HA.out (by simp [eval_set.l0])
  | succ k1 =>
   have H:=HA.out;clear HA;simp only [eval_set.l0] at H;replace H:=iD H;rcases H with ⟨c2,c2b0,H⟩ | ⟨c2,c2b0,H⟩
   ·clear c2;obtain ⟨c3,H⟩:=gG H;have c3b0:=dTr c3;clear c3;obtain ⟨c4,H⟩:=gG H;have c4b0:=dTr c4;clear c4;obtain ⟨t466,A5,H⟩:=oB H;by_cases c6:t466=true
    ·subst c6;replace H:=iT H;replace H:=iD H;rcases H with ⟨c7,c7b0,H⟩ | ⟨c7,c7b0,H⟩
     ·clear c7;obtain ⟨ji8,hji8⟩:∃ j_:Int,(wrap64 (x7_1 - 1))=j_:=⟨_,rfl⟩;(replace H:(if 0 ≤ (ji8) then (if (ji8) < (l0.length:Int) then (if ((Op.bytesLess ((rdOf ByteArray.empty l0 (ji8)).toList) ((rdOf ByteArray.empty l0 x7_1).toList))=true) then (eval_set.l0 k1 l0 l0 (l0.length:Int) (wrap64 (x7_1 + 1))) else (some false)) else (none)) else (none))=some r:=by first|(rw [hji8] at H;exact H)|(simp only [hji8] at H ⊢;exact H));(try rw [hji8] at A5);have hji8w:(IntKind.i64.wrap (x7_1 - 1))=ji8:=(i64_w _).trans hji8;obtain ⟨c9,H⟩:=gG H;have c9b0:=dTr c9;clear c9;obtain ⟨c10,H⟩:=gG H;have c10b0:=dTr c10;clear c10;have HC11:=Sd.mk H;clear H;have p465:0 ≤ (x7_1:Int):=tD;have q465:x7_1 < (l0.length:Int):=tD;obtain ⟨ad465,e465,hx465_0⟩:=Kd.at_string HR0.out x7_1 p465 q465;cases e465;replace p465:=eq_true p465;replace q465:=eq_true q465;go_upto_if 27 with (first|((with_reducible refine gate_callee (f:=178) rfl ?_);refine gL Tryz.func178 (some 13) #[.string (rdOf ByteArray.empty l0 x7_1)] ?_;(with_reducible refine (eval_right.calls (rdOf ByteArray.empty l0 x7_1) true _ A5.out).mono ?_);rintro e w' ⟨rfl,⟨nd,rfl⟩⟩;refine ⟨_,rfl,?_⟩;have p467:0 ≤ ((ji8):Int):=tD;have q467:(ji8) < (l0.length:Int):=tD;obtain ⟨ad467,e467,hx467_0⟩:=Kd.at_string HR0.out (ji8) p467 q467;obtain rfl:ad465=ad467:=(by injection e467);replace p467:=eq_true p467;replace q467:=eq_true q467));(try simp only [Act.put,q1_,q2_,q3_]);have H:=HC11.out;clear HC11;replace H:=iB H;rcases H with ⟨c12,H⟩ | ⟨c12,H⟩
      ·have c12b0:(Op.bytesLess ((rdOf ByteArray.empty l0 (ji8)).toList) ((rdOf ByteArray.empty l0 x7_1).toList))=true:=c12;clear c12;(first|rw [c12b0]|(simp only [i64_w,i32_w];rw [c12b0])|rw [c12b1]|skip);have H':=Sd.mk H;clear H;go_wp2;go_roundg k1
       case measure=>have:=HK1.out;omega
       case rel=>exact ⟨(wrap64 (x7_1 + 1)),tSS,H',⟨by have:=HK1.out;omega⟩,tR⟩
      ·(have c12b0:(Op.bytesLess ((rdOf ByteArray.empty l0 (ji8)).toList) ((rdOf ByteArray.empty l0 x7_1).toList))=false:=by simpa using c12);clear c12;(first|rw [c12b0]|(simp only [i64_w,i32_w];rw [c12b0])|rw [c12b1]|skip);obtain rfl:=sI H;go_wp2;go_ret;exact ⟨by first|rfl|(simp;done)|(simp only [← hji8] <;> (first|rfl|simp))|(simp [*];done),tR⟩
     ·clear c7;have H':=Sd.mk H;clear H;have p465:0 ≤ (x7_1:Int):=tD;have q465:x7_1 < (l0.length:Int):=tD;obtain ⟨ad465,e465,hx465_0⟩:=Kd.at_string HR0.out x7_1 p465 q465;cases e465;replace p465:=eq_true p465;replace q465:=eq_true q465;go_wp2_with (first|((with_reducible refine gate_callee (f:=178) rfl ?_);refine gL Tryz.func178 (some 13) #[.string (rdOf ByteArray.empty l0 x7_1)] ?_;(with_reducible refine (eval_right.calls (rdOf ByteArray.empty l0 x7_1) true _ A5.out).mono ?_);rintro e w' ⟨rfl,⟨nd,rfl⟩⟩;refine ⟨_,rfl,?_⟩));go_roundg k1
      case measure=>have:=HK1.out;omega
      case rel=>exact ⟨(wrap64 (x7_1 + 1)),tSS,H',⟨by have:=HK1.out;omega⟩,tR⟩
    ·replace c6:=Bool.eq_false_iff.mpr c6;subst c6;replace H:=iF H;obtain rfl:=sI H;have p465:0 ≤ (x7_1:Int):=tD;have q465:x7_1 < (l0.length:Int):=tD;obtain ⟨ad465,e465,hx465_0⟩:=Kd.at_string HR0.out x7_1 p465 q465;cases e465;replace p465:=eq_true p465;replace q465:=eq_true q465;go_wp2_with (first|((with_reducible refine gate_callee (f:=178) rfl ?_);refine gL Tryz.func178 (some 13) #[.string (rdOf ByteArray.empty l0 x7_1)] ?_;(with_reducible refine (eval_right.calls (rdOf ByteArray.empty l0 x7_1) false _ A5.out).mono ?_);rintro e w' ⟨rfl,⟨nd,rfl⟩⟩;refine ⟨_,rfl,?_⟩));go_ret;exact ⟨by first|rfl|(simp;done)|(simp [*];done),tR⟩
   ·clear c2;obtain rfl:=sI H;go_wp2;go_ret;exact ⟨by first|rfl|(simp;done)|(simp [*];done),tR⟩
def cmp_isNaN_string.f (a0:ByteArray):Option (Bool):=some (a0.toList != a0.toList)
theorem cmp_isNaN_string.calls (a0:ByteArray) (r:Bool) (w:World) (h:cmp_isNaN_string.f a0=some r) :
  Calls Tryz.prog 183 #[.string a0] w fun e w'=>e = .returned (.bool r)∧Drawn0 w w':=by
 have H:=h;clear h;unfold cmp_isNaN_string.f at H;obtain rfl:=sI H;go_enter Tryz.func183,Tryz.ntmps183;go_wp2;go_ret;exact ⟨by first|rfl|(simp;done)|(simp [*];done),tR⟩
def cmp_Less_string.f (a0:ByteArray) (a1:ByteArray):Option (Bool):=(cmp_isNaN_string.f a0).bind fun t556=>(if t556=true then ((cmp_isNaN_string.f a1).bind fun t557=>(if t557=true then (some (Op.bytesLess a0.toList a1.toList)) else (some true))) else (some (Op.bytesLess a0.toList a1.toList)))
theorem cmp_Less_string.calls (a0:ByteArray) (a1:ByteArray) (r:Bool) (w:World) (h:cmp_Less_string.f a0 a1=some r) :
  Calls Tryz.prog 180 #[.string a0,.string a1] w fun e w'=>e = .returned (.bool r)∧Drawn0 w w':=by
 have H:=h;clear h;unfold cmp_Less_string.f at H;obtain ⟨t556,A3,H⟩:=oB H;by_cases c4:t556=true
 ·subst c4;replace H:=iT H;obtain ⟨t557,A5,H⟩:=oB H;by_cases c6:t557=true
  ·subst c6;replace H:=iT H;obtain rfl:=sI H;go_enter Tryz.func180,Tryz.ntmps180;go_wp2_with (first|((with_reducible refine gate_callee (f:=183) rfl ?_);refine gL Tryz.func183 (some 6) #[.string a0] ?_;(with_reducible refine (cmp_isNaN_string.calls a0 true _ A3.out).mono ?_);rintro e w' ⟨rfl,⟨nd,rfl⟩⟩;refine ⟨_,rfl,?_⟩)|(go_at_call 183;(with_reducible refine (cmp_isNaN_string.calls a1 true _ A5.out).mono ?_);rintro e w' ⟨rfl,⟨nd,rfl⟩⟩));go_ret;exact ⟨by first|rfl|(simp;done)|(simp [*];done),tR⟩
  ·replace c6:=Bool.eq_false_iff.mpr c6;subst c6;replace H:=iF H;obtain rfl:=sI H;go_enter Tryz.func180,Tryz.ntmps180;go_wp2_with (first|((with_reducible refine gate_callee (f:=183) rfl ?_);refine gL Tryz.func183 (some 6) #[.string a0] ?_;(with_reducible refine (cmp_isNaN_string.calls a0 true _ A3.out).mono ?_);rintro e w' ⟨rfl,⟨nd,rfl⟩⟩;refine ⟨_,rfl,?_⟩)|(go_at_call 183;(with_reducible refine (cmp_isNaN_string.calls a1 false _ A5.out).mono ?_);rintro e w' ⟨rfl,⟨nd,rfl⟩⟩));go_ret;exact ⟨by first|rfl|(simp;done)|(simp [*];done),tR⟩
 ·replace c4:=Bool.eq_false_iff.mpr c4;subst c4;replace H:=iF H;obtain rfl:=sI H;go_enter Tryz.func180,Tryz.ntmps180;go_wp2_with (first|((with_reducible refine gate_callee (f:=183) rfl ?_);refine gL Tryz.func183 (some 6) #[.string a0] ?_;(with_reducible refine (cmp_isNaN_string.calls a0 false _ A3.out).mono ?_);rintro e w' ⟨rfl,⟨nd,rfl⟩⟩;refine ⟨_,rfl,?_⟩));go_ret;exact ⟨by first|rfl|(simp;done)|(simp [*];done),tR⟩
def slices_isNaN_string.f (a0:ByteArray):Option (Bool):=some (a0.toList != a0.toList)
theorem slices_isNaN_string.calls (a0:ByteArray) (r:Bool) (w:World) (h:slices_isNaN_string.f a0=some r) :
  Calls Tryz.prog 181 #[.string a0] w fun e w'=>e = .returned (.bool r)∧Drawn0 w w':=by
 have H:=h;clear h;unfold slices_isNaN_string.f at H;obtain rfl:=sI H;go_enter Tryz.func181,Tryz.ntmps181;go_wp2;go_ret;exact ⟨by first|rfl|(simp;done)|(simp [*];done),tR⟩
def slices_BinarySearch_string.l0:Nat → List ByteArray → ByteArray → Int → Int → Int → Option (Int × Bool)
 | 0,_,_,_,_,_=>none
 | k + 1,x0,x1,x6,x7,x8=>if x7 < x8 then (if 0 ≤ (wrap64 ((IntKind.u64.wrap (wrap64 (x7 + x8))) / 2)) then (if (wrap64 ((IntKind.u64.wrap (wrap64 (x7 + x8))) / 2)) < (x0.length:Int) then ((cmp_Less_string.f (rdOf ByteArray.empty x0 (wrap64 ((IntKind.u64.wrap (wrap64 (x7 + x8))) / 2))) x1).bind fun t559=>(if t559=true then (slices_BinarySearch_string.l0 k x0 x1 x6 (wrap64 ((wrap64 ((IntKind.u64.wrap (wrap64 (x7 + x8))) / 2)) + 1)) x8) else (slices_BinarySearch_string.l0 k x0 x1 x6 x7 (wrap64 ((IntKind.u64.wrap (wrap64 (x7 + x8))) / 2))))) else (none)) else (none)) else (if x7 < x6 then (if 0 ≤ x7 then (if x7 < (x0.length:Int) then (if (rdOf ByteArray.empty x0 x7).toList=x1.toList then (some (x7,true)) else ((slices_isNaN_string.f (rdOf ByteArray.empty x0 x7)).bind fun t562=>(if t562=true then ((slices_isNaN_string.f x1).bind fun t563=>(some (x7,t563))) else (some (x7,false))))) else (none)) else (none)) else (some (x7,false)))
def slices_BinarySearch_string.f (k:Nat) (l0:List ByteArray) (a1:ByteArray):Option (Int × Bool):=slices_BinarySearch_string.l0 k l0 a1 (l0.length:Int) 0 (l0.length:Int)
theorem slices_BinarySearch_string.calls (k:Nat) (A0:Option Addr) (c0:Nat) (l0:List ByteArray) (a1:ByteArray) (r1:Int) (r2:Bool) (w:World) (hr0:Kd.C Kd.string w A0 l0.length l0) (hc0:l0.length ≤ c0) (h:slices_BinarySearch_string.f k l0 a1=some (r1,r2)) :
  Calls Tryz.prog 169 #[.slice A0 l0.length c0,.string a1] w fun e w'=>e = .returned (.tuple #[.int .i64 r1,.bool r2])∧Drawn0 w w':=by
 have HR0:=Sd.mk hr0;have HC0:=Sd.mk hc0;clear hr0 hc0;have H:=h;clear h;unfold slices_BinarySearch_string.f at H;have H':=Sd.mk H;clear H;go_enter Tryz.func169,Tryz.ntmps169;go_wp2;go_loopg [7,8] k (fun kq v7 v8 w'=>∃ (x7_1:Int) (x8_1:Int),v7 = .int .i64 x7_1∧v8 = .int .i64 x8_1∧Sd (slices_BinarySearch_string.l0 kq l0 a1 (l0.length:Int) x7_1 x8_1=some (r1,r2))∧Sd (kq ≤ k)∧Drawn0 w w')
 case atStart=>exact ⟨(0),((l0.length:Int)),tSS,tSS,H',⟨Nat.le_refl _⟩,tR⟩
 case round =>
  clear H';obtain ⟨x7_1,x8_1,rfl,rfl,HA,HK1,⟨m1,rfl⟩⟩:=hrel;cases gk with
  | zero=>exact absurd HA.out (by simp [slices_BinarySearch_string.l0])
  | succ k1 =>
   have H:=HA.out;clear HA;simp only [slices_BinarySearch_string.l0] at H;replace H:=iD H;rcases H with ⟨c3,c3b0,H⟩ | ⟨c3,c3b0,H⟩
   ·clear c3;obtain ⟨ji4,hji4⟩:∃ j_:Int,(wrap64 ((IntKind.u64.wrap (wrap64 (x7_1 + x8_1))) / 2))=j_:=⟨_,rfl⟩;(replace H:(if 0 ≤ (ji4) then (if (ji4) < (l0.length:Int) then ((cmp_Less_string.f (rdOf ByteArray.empty l0 (ji4)) a1).bind fun t559=>(if t559=true then (slices_BinarySearch_string.l0 k1 l0 a1 (l0.length:Int) (wrap64 ((ji4) + 1)) x8_1) else (slices_BinarySearch_string.l0 k1 l0 a1 (l0.length:Int) x7_1 ji4))) else (none)) else (none))=some (r1,r2):=by first|(rw [hji4] at H;exact H)|(simp only [hji4] at H ⊢;exact H));have hji4w:(IntKind.i64.wrap ((IntKind.u64.wrap (wrap64 (x7_1 + x8_1))) / 2))=ji4:=(i64_w _).trans hji4;obtain ⟨c5,H⟩:=gG H;have c5b0:=dTr c5;clear c5;obtain ⟨c6,H⟩:=gG H;have c6b0:=dTr c6;clear c6;obtain ⟨t559,A7,H⟩:=oB H;have HC8:=Sd.mk H;clear H;have p558:0 ≤ ((ji4):Int):=tD;have q558:(ji4) < (l0.length:Int):=tD;obtain ⟨ad558,e558,hx558_0⟩:=Kd.at_string HR0.out (ji4) p558 q558;cases e558;replace p558:=eq_true p558;replace q558:=eq_true q558;go_upto_if 27 with (first|((with_reducible refine gate_callee (f:=180) rfl ?_);refine goesL_ (some 27) rfl rfl Tryz.func180 (by kernel_rfl) rfl #[.string (rdOf ByteArray.empty l0 (ji4)),.string a1] rfl (by (try simp only [List.map_toArray,List.map_cons,List.map_nil]);first|done|(simp only [hji4];rfl)|rfl|(simp only [List.length_drop,List.length_take];rfl)) ?_;(with_reducible refine (cmp_Less_string.calls (rdOf ByteArray.empty l0 (ji4)) a1 t559 _ A7.out).mono ?_);rintro e w' ⟨rfl,⟨nd,rfl⟩⟩;refine ⟨_,rfl,?_⟩));(try simp only [Act.put,q1_,q2_,q3_]);have H:=HC8.out;clear HC8;by_cases c9:t559=true
    ·subst c9;replace H:=iT H;have H':=Sd.mk H;clear H;go_wp2;go_roundg k1
     case measure=>have:=HK1.out;omega
     case rel=>exact ⟨(wrap64 ((ji4) + 1)),(x8_1),(by first|rfl|(simp;done)|(simp only [← hji4] <;> (first|rfl|simp))|(simp [*];done)),tSS,H',⟨by have:=HK1.out;omega⟩,tR⟩
    ·replace c9:=Bool.eq_false_iff.mpr c9;subst c9;replace H:=iF H;have H':=Sd.mk H;clear H;go_wp2;go_roundg k1
     case measure=>have:=HK1.out;omega
     case rel=>exact ⟨(x7_1),(ji4),tSS,(by first|rfl|(simp;done)|(simp only [← hji4] <;> (first|rfl|simp))|(simp [*];done)),H',⟨by have:=HK1.out;omega⟩,tR⟩
   ·clear c3;replace H:=iD H;rcases H with ⟨c10,c10b0,H⟩ | ⟨c10,c10b0,H⟩
    ·clear c10;obtain ⟨c11,H⟩:=gG H;have c11b0:=dTr c11;clear c11;obtain ⟨c12,H⟩:=gG H;have c12b0:=dTr c12;clear c12;replace H:=iE H;rcases H with ⟨c13,c13b0,c13b1,H⟩ | ⟨c13,c13b0,c13b1,H⟩
     ·clear c13;simp only [Option.some.injEq,Prod.mk.injEq] at H;obtain ⟨rfl,rfl⟩:=H;have p560:0 ≤ (x7_1:Int):=tD;have q560:x7_1 < (l0.length:Int):=tD;obtain ⟨ad560,e560,hx560_0⟩:=Kd.at_string HR0.out x7_1 p560 q560;cases e560;replace p560:=eq_true p560;replace q560:=eq_true q560;go_wp2;go_ret2;exact ⟨by first|rfl|(simp;done)|(simp [*];done),tR⟩
     ·obtain ⟨t562,A14,H⟩:=oB H;by_cases c15:t562=true
      ·subst c15;replace H:=iT H;obtain ⟨t563,A16,H⟩:=oB H;simp only [Option.some.injEq,Prod.mk.injEq] at H;obtain ⟨rfl,rfl⟩:=H;have p560:0 ≤ (x7_1:Int):=tD;have q560:x7_1 < (l0.length:Int):=tD;obtain ⟨ad560,e560,hx560_0⟩:=Kd.at_string HR0.out x7_1 p560 q560;cases e560;replace p560:=eq_true p560;replace q560:=eq_true q560;have p561:0 ≤ (x7_1:Int):=tD;have q561:x7_1 < (l0.length:Int):=tD;obtain ⟨ad561,e561,hx561_0⟩:=Kd.at_string HR0.out x7_1 p561 q561;obtain rfl:ad560=ad561:=(by injection e561);replace p561:=eq_true p561;replace q561:=eq_true q561;go_wp2_with (first|(go_at_call 181;(with_reducible refine (slices_isNaN_string.calls (rdOf ByteArray.empty l0 x7_1) true _ A14.out).mono ?_);rintro e w' ⟨rfl,⟨nd,rfl⟩⟩)|(go_at_call 181;(with_reducible refine (slices_isNaN_string.calls a1 t563 _ A16.out).mono ?_);rintro e w' ⟨rfl,⟨nd,rfl⟩⟩));go_ret2;exact ⟨by first|rfl|(simp;done)|(simp [*];done),tR⟩
      ·replace c15:=Bool.eq_false_iff.mpr c15;subst c15;replace H:=iF H;simp only [Option.some.injEq,Prod.mk.injEq] at H;obtain ⟨rfl,rfl⟩:=H;have p560:0 ≤ (x7_1:Int):=tD;have q560:x7_1 < (l0.length:Int):=tD;obtain ⟨ad560,e560,hx560_0⟩:=Kd.at_string HR0.out x7_1 p560 q560;cases e560;replace p560:=eq_true p560;replace q560:=eq_true q560;have p561:0 ≤ (x7_1:Int):=tD;have q561:x7_1 < (l0.length:Int):=tD;obtain ⟨ad561,e561,hx561_0⟩:=Kd.at_string HR0.out x7_1 p561 q561;obtain rfl:ad560=ad561:=(by injection e561);replace p561:=eq_true p561;replace q561:=eq_true q561;go_wp2_with (first|(go_at_call 181;(with_reducible refine (slices_isNaN_string.calls (rdOf ByteArray.empty l0 x7_1) false _ A14.out).mono ?_);rintro e w' ⟨rfl,⟨nd,rfl⟩⟩));go_ret2;exact ⟨by first|rfl|(simp;done)|(simp [*];done),tR⟩
    ·clear c10;simp only [Option.some.injEq,Prod.mk.injEq] at H;obtain ⟨rfl,rfl⟩:=H;go_wp2;go_ret2;exact ⟨by first|rfl|(simp;done)|(simp [*];done),tR⟩
def eval_in.f (k:Nat) (l0:List ByteArray) (a1:ByteArray):Option (Bool):=(slices_BinarySearch_string.f k l0 a1).bind fun bt564=>(some bt564.2)
theorem eval_in.calls (k:Nat) (A0:Option Addr) (c0:Nat) (l0:List ByteArray) (a1:ByteArray) (r:Bool) (w:World) (hr0:Kd.C Kd.string w A0 l0.length l0) (hc0:l0.length ≤ c0) (h:eval_in.f k l0 a1=some r) :
  Calls Tryz.prog 145 #[.slice A0 l0.length c0,.string a1] w fun e w'=>e = .returned (.bool r)∧Drawn0 w w':=by
 have HR0:=Sd.mk hr0;have HC0:=Sd.mk hc0;clear hr0 hc0;have H:=h;clear h;unfold eval_in.f at H;obtain ⟨⟨t564,t565⟩,A3,H⟩:=oB H;(try dsimp only at H);obtain rfl:=sI H;go_enter Tryz.func145,Tryz.ntmps145;go_wp2_with (first|((with_reducible refine gate_callee (f:=169) rfl ?_);refine gL Tryz.func169 (some 10) #[.slice A0 l0.length c0,.string a1] ?_;(with_reducible refine (slices_BinarySearch_string.calls k _ _ l0 a1 t564 t565 _ (sD HR0) HC0.out A3.out).mono ?_);rintro e w' ⟨rfl,⟨nd,rfl⟩⟩;refine ⟨_,rfl,?_⟩));go_ret;exact ⟨by first|rfl|(simp;done)|(simp [*];done),tR⟩
end
abbrev Ce:=S158
def keyB (s:ByteArray):Bool:=!decide (s.toList=([]:List UInt8)) && decide ((s.size:Int) ≤ 32)
def allFrom (p:Nat → Bool):Nat → Nat → Bool
 | _,0=>true
 | pos,m + 1=>p pos && allFrom p (pos + 1) m
theorem allFrom_step (p:Nat → Bool) (n pos:Nat) (h:pos < n):allFrom p pos (n - pos)=(p pos && allFrom p (pos + 1) (n - (pos + 1))):=by
 obtain ⟨m,hm⟩:∃ m,n - pos=m + 1:=⟨n - pos - 1,by omega⟩;rw [hm,allFrom,show n - (pos + 1)=m by omega]
theorem allFrom_stop (p:Nat → Bool) (n:Nat):allFrom p n (n - n)=true:=by rw [Nat.sub_self];rfl
theorem allFrom_iff (p:Nat → Bool):∀ m pos,allFrom p pos m=true ↔ ∀ j,pos ≤ j → j < pos + m → p j=true
 | 0,pos=>by simp [allFrom];omega
 | m + 1,pos=>by
  rw [allFrom,Bool.and_eq_true,allFrom_iff p m (pos + 1)];constructor
  ·rintro ⟨h1,h2⟩ j h3 h4;rcases Nat.lt_or_ge pos j with h|h
   ·exact h2 j (by omega) (by omega)
   ·(obtain rfl:j=pos:=by omega);exact h1
  ·intro h;exact ⟨h pos (by omega) (by omega),fun j h3 h4=>h j (by omega) (by omega)⟩
def setAt (l:List ByteArray) (pos:Nat):Bool:=keyB (l.getD pos ByteArray.empty) && (decide (pos=0) || blt (l.getD (pos - 1) ByteArray.empty) (l.getD pos ByteArray.empty))
def setB (l:List ByteArray):Bool:=allFrom (setAt l) 0 l.length && decide (l.length ≤ 4000)
def cntAt (l:List Ce) (pos:Nat):Bool :=
 keyB (l.getD pos z158).f0 && ((decide (pos=0) || blt (l.getD (pos - 1) z158).f0 (l.getD pos z158).f0) && ((l.getD pos z158).f1 != 0 && (decide ((l.getD pos z158).f1 ≤ 1048576) && decide (-1048576 ≤ (l.getD pos z158).f1))))
def cntB (l:List Ce):Bool:=allFrom (cntAt l) 0 l.length && decide (l.length ≤ 4000)
def mayS (ns nc:Nat) (ss:List (List ByteArray)) (cs:List (List Ce)):Bool:=decide (ss.length=ns) && (decide (cs.length=nc) && (ss.all setB && cs.all cntB))
theorem right_f (s:ByteArray):eval_right.f s=some (keyB s):=by
 unfold eval_right.f keyB;by_cases h:s.toList=([]:List UInt8)
 ·rw [if_pos h,decide_eq_true h];rfl
 ·rw [if_neg h,decide_eq_false h];rfl
theorem right_quiet (s:ByteArray) (w:World):Calls Tryz.prog 178 #[.string s] w fun e w'=>e = .returned (.bool (keyB s))∧∃ m,w' = w.drewN m :=
 (eval_right.calls s (keyB s) w (right_f s)).mono fun e w' ⟨he,m,hm⟩=>⟨he,m,hm⟩
def inB (l:List ByteArray) (key:ByteArray):Bool:=l.any fun x=>decide (x.toList=key.toList)
theorem inB_iff (l:List ByteArray) (key:ByteArray):inB l key=true ↔ key ∈ l:=by
 unfold inB;rw [List.any_eq_true];constructor
 ·rintro ⟨x,hx,h⟩;have e:x=key:=bytes_eq (of_decide_eq_true h);exact e ▸ hx
 ·intro h;exact ⟨key,h,decide_eq_true rfl⟩
theorem inB_no {l:List ByteArray} {key:ByteArray} (h:¬ key ∈ l):inB l key=false:=by
 cases hb:inB l key
 ·rfl
 ·exact absurd ((inB_iff l key).1 hb) h
theorem mid_eq (i j:Nat) (h:i + j ≤ 9000000000):wrap64 ((IntKind.u64.wrap (wrap64 ((i:Int) + (j:Int)))) / 2)=(((i + j) / 2:Nat):Int):=by
 (have h1:wrap64 ((i:Int) + (j:Int))=((i + j:Nat):Int):=by unfold wrap64;omega);have h2:IntKind.u64.wrap ((i + j:Nat):Int)=((i + j:Nat):Int):=by
  simp [IntKind.wrap,IntKind.bits,IntKind.signed];omega
 rw [h1,h2];unfold wrap64;omega
theorem less_f (a b:ByteArray):cmp_Less_string.f a b=some (blt a b):=by
 unfold cmp_Less_string.f cmp_isNaN_string.f blt;simp
theorem ordK_in {l:List ByteArray} {key:ByteArray} (ho:OrdK l) (m:Nat) (hm:m < l.length) (h:l[m]=key):posK l key=m :=
 posK_of l key m (by omega) (fun k hk hkm=>by rw [← h];exact ordK_get ho k m hkm hm) (fun _=>by rw [h];exact blt_irrefl key)
theorem bs_loop (l:List ByteArray) (key:ByteArray) (hn:l.length ≤ 4000000000) (ho:OrdK l):∀ (m i j:Nat),j - i ≤ m → i ≤ j → (hj:j ≤ l.length) → (∀ k (hk:k < l.length),k < i → blt l[k] key=true) → (∀ k (hk:k < l.length),j ≤ k → blt l[k] key=false) →
  Ev (fun k=>slices_BinarySearch_string.l0 k l key (l.length:Int) (i:Int) (j:Int)) ((posK l key:Int),inB l key):=by
 intro m;induction m with
 | zero =>
  intro i j h1 h2 hj ha hb;(obtain rfl:i=j:=by omega);have hp:posK l key=i:=posK_of l key i hj ha (fun hk=>hb i hk (Nat.le_refl _));rw [hp];refine Ev.succ ?_;simp only [slices_BinarySearch_string.l0,rdOf_at];refine Ev.no (by omega) ?_;by_cases hi:i < l.length
  ·(have hg:l.getD i ByteArray.empty=l[i]:=by simp [List.getD,hi]);rw [hg];refine Ev.yes (by omega) (Ev.yes (by omega) (Ev.yes (by omega) ?_));by_cases he:l[i]=key
   ·refine Ev.yes (by rw [he]) (Ev.is ?_);have:inB l key=true:=(inB_iff l key).2 (by rw [← he];exact List.getElem_mem hi);rw [this]
   ·refine Ev.no (fun h=>he (bytes_eq h)) (Ev.bind1 rfl (Ev.no (by simp) (Ev.is ?_)));have:inB l key=false:=inB_no (fun hm=>by
     obtain ⟨k,hk,hke⟩:=List.mem_iff_getElem.1 hm
     have:=ordK_in ho k hk hke
     rw [hp] at this
     subst this
     exact he hke)
    rw [this]
  ·refine Ev.no (by omega) (Ev.is ?_);have:inB l key=false:=inB_no (fun hm=>by
    obtain ⟨k,hk,hke⟩:=List.mem_iff_getElem.1 hm
    have:=ordK_in ho k hk hke
    omega)
   rw [this]
 | succ m ih =>
  intro i j h1 h2 hj ha hb;by_cases hij:i < j
  ·refine Ev.succ ?_;simp only [slices_BinarySearch_string.l0];rw [mid_eq i j (by omega)];(have hh:(i + j) / 2 < l.length:=by omega);rw [rdOf_at];refine Ev.yes (by omega) (Ev.yes (by omega) (Ev.yes (by omega) (Ev.bind1 (less_f _ _) ?_)));(have hg:l.getD ((i + j) / 2) ByteArray.empty=l[(i + j) / 2]:=by simp [List.getD,hh]);rw [hg];cases hlt:blt l[(i + j) / 2] key
   ·refine Ev.no (by decide) (ih i ((i + j) / 2) (by omega) (by omega) (by omega) ha (fun k hk hmk=>?_));rcases Nat.lt_or_ge ((i + j) / 2) k with h|h
    ·cases hk2:blt l[k] key
     ·rfl
     ·have h3:=blt_trans (ordK_get ho _ k h hk) hk2;rw [hlt] at h3;cases h3
    ·(obtain rfl:k=(i + j) / 2:=by omega);exact hlt
   ·rw [wrap_up _ (by omega)];refine Ev.yes rfl (ih ((i + j) / 2 + 1) j (by omega) (by omega) hj (fun k hk hmk=>?_) hb);rcases Nat.lt_or_ge k ((i + j) / 2) with h|h
    ·exact blt_trans (ordK_get ho k _ h hh) hlt
    ·(obtain rfl:k=(i + j) / 2:=by omega);exact hlt
  ·(obtain rfl:i=j:=by omega);exact ih i i (by omega) (by omega) hj ha hb
theorem bs_ev (l:List ByteArray) (key:ByteArray) (hn:l.length ≤ 4000000000) (ho:OrdK l):Ev (fun k=>slices_BinarySearch_string.f k l key) ((posK l key:Int),inB l key) :=
 bs_loop l key hn ho l.length 0 l.length (by omega) (by omega) (Nat.le_refl _) (fun k hk h=>absurd h (by omega)) (fun k hk h=>absurd h (by omega))
theorem in_ev (l:List ByteArray) (key:ByteArray) (hn:l.length ≤ 4000000000) (ho:OrdK l):Ev (fun k=>eval_in.f k l key) (inB l key):=by
 unfold eval_in.f;exact Ev.bind (bs_ev l key hn ho) (Ev.now _)
theorem in_quiet (A:Option Addr) (c:Nat) (l:List ByteArray) (key:ByteArray) (w:World) (hr:Kd.C Kd.string w A l.length l) (hc:l.length ≤ c) (hn:l.length ≤ 4000000000) (ho:OrdK l) :
  Calls Tryz.prog 145 #[.slice A l.length c,.string key] w fun e w'=>e = .returned (.bool (inB l key))∧∃ m,w' = w.drewN m:=by
 obtain ⟨k,hk⟩:=Ev.rounds (g:=fun k=>eval_in.f k l key) (in_ev l key hn ho);exact (eval_in.calls k A c l key (inB l key) w hr hc hk).mono fun e w' ⟨he,m,hm⟩=>⟨he,m,hm⟩
theorem setB_ord {l:List ByteArray} (h:setB l=true):OrdK l:=by
 unfold setB at h;rw [Bool.and_eq_true,allFrom_iff] at h;have hs:∀ j (hj:j + 1 < l.length),blt (l[j]'(by omega)) l[j + 1]=true:=fun j hj=>by
  have:=h.1 (j + 1) (by omega) (by omega);unfold setAt at this;rw [Bool.and_eq_true,Bool.or_eq_true] at this;have h2:=this.2.resolve_left (by simp);simp only [Nat.add_sub_cancel] at h2;(have e1:l.getD j ByteArray.empty=l[j]'(by omega):=by simp [List.getD,show j < l.length by omega]);(have e2:l.getD (j + 1) ByteArray.empty=l[j + 1]:=by simp [List.getD,hj]);rwa [e1,e2] at h2
 unfold OrdK;rw [List.pairwise_iff_getElem];intro i j hi hj hij;obtain ⟨d,rfl⟩:∃ d,j=i + 1 + d:=⟨j - i - 1,by omega⟩;clear hij;induction d with
 | zero=>exact hs i hj
 | succ d ih=>exact blt_trans (ih (by omega)) (hs (i + 1 + d) hj)
end Go.Proofs.YtjbjbeihkoeciaaGreat.X

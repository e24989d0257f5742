/- Joined texts of this session, without what nothing needs: Xhucksterref21All, XEq70, Xhucksterref21Clashes, Xhucksterlaw21PairsAll, RefA, RefB, RefW, Open0, OpenRules, Same21, PsP, RefC, RefD, Light21, PurePairsAll, Open21, LawPairsAll. -/
import Derived.Deep.Slices
import Derived.Deep.Fields
import Derived.ChangeArms
import Derived.DataReads
import Derived.OpenShut
import Derived.Test.YtjbjbeihkoeciaaGreatRows
import Derived.WalkKit
import Derived.ProofKit
import Derived.ShutString
import Derived.ChangeOld
import Derived.Below
import Derived.SizedLaws
import Derived.Lib.SmallJoins
import Derived.ChangeSlices
import Derived.Test.YtjbjbeihkoeciaaGreatK1
import Derived.Test.YtjbjbeihkoeciaaGreatK2
import Derived.Test.YtjbjbeihkoeciaaGreatK3
import Derived.Test.YtjbjbeihkoeciaaGreatK6
import Derived.Test.YtjbjbeihkoeciaaGreatK7
import Derived.Test.YtjbjbeihkoeciaaGreatK8
set_option maxHeartbeats 8000000
set_option maxRecDepth 100000
set_option linter.unusedVariables false
set_option linter.unusedSimpArgs false
namespace Go.Proofs.YtjbjbeihkoeciaaGreat.X
open Go.RowKit Go.Proofs.YtjbjbeihkoeciaaGreatW.PrintWords Go.Proofs.YtjbjbeihkoeciaaGreatW.PrintLast Go.Proofs.YtjbjbeihkoeciaaGreatW.PrintMore
section
attribute [local go_sem] max2_int min2_int max_two min_two max_three min_three max_four min_four
mutual
def r21_All.l0:Nat → List Bool → List (S70) → Int → List ByteArray → List ByteArray → List ByteArray → List (S85) → List (S89) → Option ((List (S70)))
 | 0,_,_,_,_,_,_,_,_=>none
 | k + 1,x1,x5,x6,Xfj,Xfk,Xfl,Xfm,Xfn=>if x6 < (Xfn.length:Int) then (r21_All.l1 k x1 x5 x6 x6 Xfj Xfk Xfl Xfm Xfn) else (some x5)
def r21_All.l1:Nat → List Bool → List (S70) → Int → Int → List ByteArray → List ByteArray → List ByteArray → List (S85) → List (S89) → Option ((List (S70)))
 | 0,_,_,_,_,_,_,_,_,_=>none
 | k + 1,x1,x5,x6,x7,Xfj,Xfk,Xfl,Xfm,Xfn=>if x7 < (Xfn.length:Int) then (r21_All.l2 k x1 x5 x6 x7 0 Xfj Xfk Xfl Xfm Xfn) else (r21_All.l0 k x1 x5 (wrap64 (x6 + 1)) Xfj Xfk Xfl Xfm Xfn)
def r21_All.l2:Nat → List Bool → List (S70) → Int → Int → Int → List ByteArray → List ByteArray → List ByteArray → List (S85) → List (S89) → Option ((List (S70)))
 | 0,_,_,_,_,_,_,_,_,_,_=>none
 | k + 1,x1,x5,x6,x7,x8,Xfj,Xfk,Xfl,Xfm,Xfn=>if x8 < (Xfm.length:Int) then (if 0 ≤ x8 then (if (rd_T85 Xfm x8).f1=true then ((r21_At.f k Xfj Xfk Xfl Xfm Xfn x1 x6 x7 x8).bind fun t372=>(if t372 ≥ 0 then (if x5.length < 5864062014805 then (r21_All.l2 k x1 (x5 ++ [(⟨x6,x7,x8⟩:S70)]) x6 x7 (wrap64 (x8 + 1)) Xfj Xfk Xfl Xfm Xfn) else (none)) else (r21_All.l2 k x1 x5 x6 x7 (wrap64 (x8 + 1)) Xfj Xfk Xfl Xfm Xfn))) else (r21_All.l2 k x1 x5 x6 x7 (wrap64 (x8 + 1)) Xfj Xfk Xfl Xfm Xfn)) else (none)) else (r21_All.l1 k x1 x5 x6 (wrap64 (x7 + 1)) Xfj Xfk Xfl Xfm Xfn)
end
def r21_All.f (k:Nat) (l00:List ByteArray) (l01:List ByteArray) (l02:List ByteArray) (l03:List (S85)) (l04:List (S89)) (l1:List Bool):Option ((List (S70))):=r21_All.l0 k l1 (([]:List (S70))) 0 l00 l01 l02 l03 l04
theorem r21_All.calls (k:Nat) (A0_0:Option Addr) (c0_0:Nat) (l00:List ByteArray) (A0_1:Option Addr) (c0_1:Nat) (l01:List ByteArray) (A0_2:Option Addr) (c0_2:Nat) (l02:List ByteArray) (A0_3:Option Addr) (c0_3:Nat) (l03:List (S85)) (A0_4:Option Addr) (c0_4:Nat) (l04:List (S89)) (A1:Option Addr) (c1:Nat) (l1:List Bool) (r:List (S70)) (w:World) (hr00:Kd.C Kd.string w A0_0 l00.length l00) (hc00:l00.length ≤ c0_0) (hr01:Kd.C Kd.string w A0_1 l01.length l01) (hc01:l01.length ≤ c0_1) (hr02:Kd.C Kd.string w A0_2 l02.length l02) (hc02:l02.length ≤ c0_2) (hr03:Kd.C k85 w A0_3 l03.length l03) (hc03:l03.length ≤ c0_3) (hr04:Kd.C k89 w A0_4 l04.length l04) (hc04:l04.length ≤ c0_4) (hr1:Kd.C Kd.bool w A1 l1.length l1) (hc1:l1.length ≤ c1) (h:r21_All.f k l00 l01 l02 l03 l04 l1=some r) :
  Calls Tryz.prog 18 #[.agg #[.slice A0_0 l00.length c0_0,.slice A0_1 l01.length c0_1,.slice A0_2 l02.length c0_2,.slice A0_3 l03.length c0_3,.slice A0_4 l04.length c0_4],.slice A1 l1.length c1] w fun e w'=>∃ v0_:Value,e = .returned (v0_)∧Kd.R k70 70 w' w.heap.size (fun _=>True) v0_ r∧Below w.heap.size w w':=by
 have hu26:=Tryz.underlying26;have hu70:=Tryz.underlying70;have HR00:=Sd.mk hr00;have J00:=Sd.mk hc00;clear hr00 hc00;have HR01:=Sd.mk hr01;have J01:=Sd.mk hc01;clear hr01 hc01;have HR02:=Sd.mk hr02;have J02:=Sd.mk hc02;clear hr02 hc02;have HR03:=Sd.mk hr03;have J03:=Sd.mk hc03;clear hr03 hc03;have HR04:=Sd.mk hr04;have J04:=Sd.mk hc04;clear hr04 hc04;have HR1:=Sd.mk hr1;have HC1:=Sd.mk hc1;clear hr1 hc1;have HB:=Sd.mk (Below.refl w.heap.size w);have H:=h;clear h;unfold r21_All.f at H;obtain ⟨y368,hy368⟩:∃ y_:List (S70),y_=(([]:List (S70))):=⟨_,rfl⟩;replace H:(r21_All.l0 k l1 y368 0 l00 l01 l02 l03 l04)=some r:=yR hy368 H;have Ny368:=Sd.mk hy368;clear hy368;have H':=Sd.mk H;clear H;go_enter Tryz.func18,Tryz.ntmps18;go_wp2_with (first|((with_reducible refine gate_dst (N:=2) rfl ?_);refine uY 2 (cs:=#[.slice A0_0 l00.length c0_0,.slice A0_1 l01.length c0_1,.slice A0_2 l02.length c0_2,.slice A0_3 l03.length c0_3,.slice A0_4 l04.length c0_4]) (t:=26) fun gb367 hg w3 BK367 hb GE367 HB=>?_;clear hb hg)|((with_reducible refine gate_dst (N:=9) rfl ?_);refine Kd.R_lit k70 _ 70 ?hg (N:=9) ?hd (xs:=([]:List (S70))) (inner:=[]) (ok:=fun _=>True) (okp:=fun _=>True) ?hr ?hp (fun _ hk=>hk) trivial (Below.refl _ _) (Nat.le_refl _) (by simp) ?_;(case hd=>rfl);(case hg=>rfl);(case hr=>first|(go_simp;done)|(go_simp;rfl));(case hp=>exact (Reps.none _ _));intro v369 w4 ho5 hb hg_ hnew_;clear hg_ hnew_;(first|rw [← Ny368.out] at ho5|(simp only [Int.reduceToNat] at ho5;rw [← Ny368.out] at ho5));have HO370:=Sd.mk (Kd.R_lower ho5 (below_size uB));replace BK367:=uK BK367 hb;replace HB:=uH hb;clear hb ho5));go_loopg [5,6] k (fun kq v5 v6 w'=>∃ (x5_1:List (S70)) (x6_1:Int),v6 = .int .i64 x6_1∧Sd (r21_All.l0 kq l1 x5_1 x6_1 l00 l01 l02 l03 l04=some r)∧Sd (kq ≤ k)∧Sd (Kd.R k70 70 w' w.heap.size (fun _=>True) v5 x5_1)∧Sd (w'.heap[gb367]? = some (.cells #[(.slice A0_0 l00.length c0_0),(.slice A0_1 l01.length c0_1),(.slice A0_2 l02.length c0_2),(.slice A0_3 l03.length c0_3),(.slice A0_4 l04.length c0_4)] 26 (0,0)))∧Sd (Below w.heap.size w w'))
 case atStart=>exact ⟨(y368),(0),tSS,H',⟨Nat.le_refl _⟩,kS HO370,kA BK367,uA⟩
 case round =>
  clear H';(try clear c1);obtain ⟨x5_1,x6_1,rfl,HA,HK1,HO_5,BK367,HB⟩:=hrel;cases gk with
  | zero=>exact absurd HA.out (by simp [r21_All.l0])
  | succ k1 =>
   have H:=HA.out;clear HA;simp only [r21_All.l0] at H;replace H:=iD H;rcases H with ⟨c6,c6b0,H⟩ | ⟨c6,c6b0,H⟩
   ·clear c6;have H':=Sd.mk H;clear H;have Z7:=bd5 BK367;go_wp2;go_loopg [5,7] k1 (fun kq v5 v7 w'=>∃ (x5_2:List (S70)) (x7_2:Int),v7 = .int .i64 x7_2∧Sd (r21_All.l1 kq l1 x5_2 x6_1 x7_2 l00 l01 l02 l03 l04=some r)∧Sd (kq ≤ k1)∧Sd (Kd.R k70 70 w' w.heap.size (fun _=>True) v5 x5_2)∧Sd (w'.heap[gb367]? = some (.cells #[(.slice A0_0 l00.length c0_0),(.slice A0_1 l01.length c0_1),(.slice A0_2 l02.length c0_2),(.slice A0_3 l03.length c0_3),(.slice A0_4 l04.length c0_4)] 26 (0,0)))∧Sd (Below w.heap.size w w'))
    case atStart=>exact ⟨(x5_1),(x6_1),tSS,H',⟨Nat.le_refl _⟩,kS HO_5,kA BK367,uA⟩
    case round =>
     clear H';(try clear c6b0);(try clear Z7);obtain ⟨x5_2,x7_2,rfl,HA,HK2,HO_5,BK367,HB⟩:=hrel;cases gk with
     | zero=>exact absurd HA.out (by simp [r21_All.l1])
     | succ k2 =>
      have H:=HA.out;clear HA;simp only [r21_All.l1] at H;replace H:=iD H;rcases H with ⟨c8,c8b0,H⟩ | ⟨c8,c8b0,H⟩
      ·clear c8;have H':=Sd.mk H;clear H;have Z9:=bd5 BK367;go_wp2;go_loopg [5,8] k2 (fun kq v5 v8 w'=>∃ (x5_3:List (S70)) (x8_3:Int),v8 = .int .i64 x8_3∧Sd (r21_All.l2 kq l1 x5_3 x6_1 x7_2 x8_3 l00 l01 l02 l03 l04=some r)∧Sd (kq ≤ k2)∧Sd (Kd.R k70 70 w' w.heap.size (fun _=>True) v5 x5_3)∧Sd (w'.heap[gb367]? = some (.cells #[(.slice A0_0 l00.length c0_0),(.slice A0_1 l01.length c0_1),(.slice A0_2 l02.length c0_2),(.slice A0_3 l03.length c0_3),(.slice A0_4 l04.length c0_4)] 26 (0,0)))∧Sd (Below w.heap.size w w'))
       case atStart=>exact ⟨(x5_2),(0),tSS,H',⟨Nat.le_refl _⟩,kS HO_5,kA BK367,uA⟩
       case round =>
        clear H';(try clear c8b0);(try clear Z9);obtain ⟨x5_3,x8_3,rfl,HA,HK3,HO_5,BK367,HB⟩:=hrel;cases gk with
        | zero=>exact absurd HA.out (by simp [r21_All.l2])
        | succ k3 =>
         have H:=HA.out;clear HA;simp only [r21_All.l2] at H;replace H:=iD H;rcases H with ⟨c10,c10b0,H⟩ | ⟨c10,c10b0,H⟩
         ·clear c10;obtain ⟨c11,H⟩:=gG H;have c11b0:=dTr c11;clear c11;obtain ⟨bq12,hbq12⟩:∃ b_:Bool,b_=((rd_T85 l03 x8_3).f1):=⟨_,rfl⟩;(replace H:(if bq12=true then ((r21_At.f k3 l00 l01 l02 l03 l04 l1 x6_1 x7_2 x8_3).bind fun t372=>(if t372 ≥ 0 then (if x5_3.length < 5864062014805 then (r21_All.l2 k3 l1 (x5_3 ++ [(⟨x6_1,x7_2,x8_3⟩:S70)]) x6_1 x7_2 (wrap64 (x8_3 + 1)) l00 l01 l02 l03 l04) else (none)) else (r21_All.l2 k3 l1 x5_3 x6_1 x7_2 (wrap64 (x8_3 + 1)) l00 l01 l02 l03 l04))) else (r21_All.l2 k3 l1 x5_3 x6_1 x7_2 (wrap64 (x8_3 + 1)) l00 l01 l02 l03 l04))=some r:=by rw [← hbq12] at H;exact H);have Nbq12:=Sd.mk hbq12;clear hbq12;by_cases c13:bq12=true
          ·subst c13;replace H:=iT H;obtain ⟨t372,A14,H⟩:=oB H;have HC15:=Sd.mk H;clear H;have Z16:=bd5 BK367;have p371:0 ≤ (x8_3:Int):=tD;have q371:x8_3 < (l03.length:Int):=tD;obtain ⟨ad371,e371,hx371_0,hx371_1,hx371_2,hx371_3,hx371_4⟩:=at_T85 HR03.out x8_3 p371 q371;(try rw [← Nbq12.out] at hx371_1);cases e371;replace hx371_0:=uC HB hx371_0;replace hx371_1:=uC HB hx371_1;replace hx371_2:=uC HB hx371_2;replace hx371_3:=uC HB hx371_3;replace hx371_4:=uC HB hx371_4;replace p371:=eq_true p371;replace q371:=eq_true q371;go_upto_if 46 with (first|(go_at_call 14;(with_reducible refine (r21_At.calls k3 _ _ l00 _ _ l01 _ _ l02 _ _ l03 _ _ l04 _ _ l1 x6_1 x7_2 x8_3 t372 _ (sC HR00) J00.out (sC HR01) J01.out (sC HR02) J02.out (sC HR03) J03.out (sC HR04) J04.out (sC HR1) HC1.out A14.out).mono ?_);rintro e w17 ⟨rfl,hb⟩;replace HO_5:=Sd.mk (Kd.R_below (kR HO_5) hb);replace BK367:=uK BK367 hb;replace HB:=uH hb;(try clear hb)));(try simp only [Act.put,q1_,q2_,q3_]);have H:=HC15.out;clear HC15;replace H:=iD H;rcases H with ⟨c18,c18b0,H⟩ | ⟨c18,c18b0,H⟩
           ·clear c18;(first|rw [c18b0]|(simp only [i64_w,i32_w];rw [c18b0])|rw [c18b1]|skip);obtain ⟨c19,H⟩:=gG H;have LMc19:=Sd.mk c19;clear c19;obtain ⟨y373,hy373⟩:∃ y_:List (S70),y_=(x5_3 ++ [(⟨x6_1,x7_2,x8_3⟩:S70)]):=⟨_,rfl⟩;replace H:(r21_All.l2 k3 l1 y373 x6_1 x7_2 (wrap64 (x8_3 + 1)) l00 l01 l02 l03 l04)=some r:=yR hy373 H;have Ny373:=Sd.mk hy373;clear hy373;have H':=Sd.mk H;clear H;go_wp2_with (first|((with_reducible refine gate_builtin (b:=.append) (xs:=#[.tmp 47,.tmp 52]) rfl ?_);at_builtin;refine Kd.R_append k70 (w0:=w) w.heap.size rfl (.tmp 47) (.tmp 52) 42 70 (.agg #[(.int .i64 0),(.int .i64 0),(.int .i64 0)]) 24 rfl Tryz.underlying42 info70 rfl (by decide) (by omega) u5 x5_3 (⟨x6_1,x7_2,x8_3⟩:S70) [.int .i64 x6_1,.int .i64 x7_2,.int .i64 x8_3] (fun _=>True) (fun _=>False) rfl rfl ?aP (fun _ hk=>hk.elim) ?aF ?aO ?aB ?aS ?aL ?_;(case aP=>exact k70_mkM _ _ _ (⟨x6_1,x7_2,x8_3⟩:S70));(case aB=>exact uB);(case aF=>exact (fun _ _=>trivial));(case aO=>exact (kR HO_5));(case aS=>exact (below_size uB));(case aL=>have:=LMc19.out;omega);intro v374 w20 ho hb hg hat;rw [← Ny373.out] at ho;have HO375:=Sd.mk ho;replace BK367:=uW BK367 (Kd.R_ne HO_5.out BK367.out (by decide)) hg;replace HB:=Sd.mk hb;clear ho hb hg hat));go_roundg k3
            case measure=>have:=HK1.out;have:=HK2.out;have:=HK3.out;omega
            case rel=>exact ⟨(y373),(wrap64 (x8_3 + 1)),tSS,H',⟨by have:=HK1.out;have:=HK2.out;have:=HK3.out;omega⟩,kS HO375,kA BK367,uA⟩
           ·clear c18;(first|rw [c18b0]|(simp only [i64_w,i32_w];rw [c18b0])|rw [c18b1]|skip);have H':=Sd.mk H;clear H;go_wp2;go_roundg k3
            case measure=>have:=HK1.out;have:=HK2.out;have:=HK3.out;omega
            case rel=>exact ⟨(x5_3),(wrap64 (x8_3 + 1)),tSS,H',⟨by have:=HK1.out;have:=HK2.out;have:=HK3.out;omega⟩,kS HO_5,kA BK367,uA⟩
          ·replace c13:=Bool.eq_false_iff.mpr c13;subst c13;replace H:=iF H;have H':=Sd.mk H;clear H;have Z21:=bd5 BK367;have p371:0 ≤ (x8_3:Int):=tD;have q371:x8_3 < (l03.length:Int):=tD;obtain ⟨ad371,e371,hx371_0,hx371_1,hx371_2,hx371_3,hx371_4⟩:=at_T85 HR03.out x8_3 p371 q371;(try rw [← Nbq12.out] at hx371_1);cases e371;replace hx371_0:=uC HB hx371_0;replace hx371_1:=uC HB hx371_1;replace hx371_2:=uC HB hx371_2;replace hx371_3:=uC HB hx371_3;replace hx371_4:=uC HB hx371_4;replace p371:=eq_true p371;replace q371:=eq_true q371;go_wp2;go_roundg k3
           case measure=>have:=HK1.out;have:=HK2.out;have:=HK3.out;omega
           case rel=>exact ⟨(x5_3),(wrap64 (x8_3 + 1)),tSS,H',⟨by have:=HK1.out;have:=HK2.out;have:=HK3.out;omega⟩,kS HO_5,kA BK367,uA⟩
         ·clear c10;have H':=Sd.mk H;clear H;have Z22:=bd5 BK367;go_wp2;go_roundg k3
          case measure=>have:=HK1.out;have:=HK2.out;have:=HK3.out;omega
          case rel=>exact ⟨(x5_3),(wrap64 (x7_2 + 1)),tSS,H',⟨by have:=HK1.out;have:=HK2.out;have:=HK3.out;omega⟩,kS HO_5,kA BK367,uA⟩
      ·clear c8;have H':=Sd.mk H;clear H;have Z23:=bd5 BK367;go_wp2;go_roundg k2
       case measure=>have:=HK1.out;have:=HK2.out;omega
       case rel=>exact ⟨(x5_2),(wrap64 (x6_1 + 1)),tSS,H',⟨by have:=HK1.out;have:=HK2.out;omega⟩,kS HO_5,kA BK367,uA⟩
   ·clear c6;obtain rfl:=sI H;have Z24:=bd5 BK367;go_wp2;go_ret;exact ⟨_,tW,by (with_reducible repeat (first|apply Kd.R_alloc|apply Kd.R_drewN|apply Kd.R_drew));exact HO_5.out,uB⟩
theorem eqA70 (d:Nat) (w:World) (x0 y0:Int) (x1 y1:Int) (x2 y2:Int) :
  (Op.equalIn (d + 2) 70 (.agg #[.int .i64 x0,.int .i64 x1,.int .i64 x2]) (.agg #[.int .i64 y0,.int .i64 y1,.int .i64 y2])).run Tryz.prog w = .ok (x0 == y0 && (x1 == y1 && (x2 == y2))) w:=by
 refine eqA_of Tryz.underlying70 (by kernel_rfl) ?_;refine eqf_cons (by rfl) (by go_simp;rfl) (by go_simp;rfl) (by go_simp) ?_;refine eqf_cons (by rfl) (by go_simp;rfl) (by go_simp;rfl) (by go_simp) ?_;exact eqf_last (by rfl) (by go_simp;rfl) (by go_simp;rfl) (by go_simp)
end
section
attribute [local go_sem] max2_int min2_int max_two min_two max_three min_three max_four min_four
attribute [local go_sem high] eqA70
def r21_Clashes.l0:Nat → List (S70) → List (S70) → Int → Option (Bool)
 | 0,_,_,_=>none
 | k + 1,x0,x1,x5=>if x5 < (x0.length:Int) then (if 0 ≤ x5 then (if x5 < (x1.length:Int) then (if (!(((rd_T70 x0 x5).f0) == ((rd_T70 x1 x5).f0)) || (!(((rd_T70 x0 x5).f1) == ((rd_T70 x1 x5).f1)) || (!(((rd_T70 x0 x5).f2) == ((rd_T70 x1 x5).f2)))))=true then (some false) else (r21_Clashes.l0 k x0 x1 (wrap64 (x5 + 1)))) else (none)) else (none)) else (some true)
def r21_Clashes.f (k:Nat) (l0:List (S70)) (l1:List (S70)):Option (Bool):=if (l0.length:Int)=(l1.length:Int) then (r21_Clashes.l0 k l0 l1 0) else (some false)
theorem r21_Clashes.calls (k:Nat) (A0:Option Addr) (c0:Nat) (l0:List (S70)) (A1:Option Addr) (c1:Nat) (l1:List (S70)) (r:Bool) (w:World) (hr0:Kd.C k70 w A0 l0.length l0) (hc0:l0.length ≤ c0) (hr1:Kd.C k70 w A1 l1.length l1) (hc1:l1.length ≤ c1) (h:r21_Clashes.f k l0 l1=some r) :
  Calls Tryz.prog 17 #[.slice A0 l0.length c0,.slice A1 l1.length c1] w fun e w'=>e = .returned (.bool r)∧Drawn0 w w':=by
 have hu70:=Tryz.underlying70;have HR0:=Sd.mk hr0;have HC0:=Sd.mk hc0;clear hr0 hc0;have HR1:=Sd.mk hr1;have HC1:=Sd.mk hc1;clear hr1 hc1;have H:=h;clear h;unfold r21_Clashes.f at H;replace H:=iE H;rcases H with ⟨c3,c3b0,c3b1,H⟩ | ⟨c3,c3b0,c3b1,H⟩
 ·(have c3b2:(l0.length == l1.length)=true:=by first|simpa using c3|(simp at c3 ⊢;omega));clear c3;have H':=Sd.mk H;clear H;go_enter Tryz.func17,Tryz.ntmps17;go_wp2;(repeat (go_quiet (fail);try go_wp2));go_loopg [5] k (fun kq v5 w'=>∃ (x5_1:Int),v5 = .int .i64 x5_1∧Sd (r21_Clashes.l0 kq l0 l1 x5_1=some r)∧Sd (kq ≤ k)∧Drawn0 w w')
  case atStart=>exact ⟨(0),tSS,H',⟨Nat.le_refl _⟩,tR⟩
  case round =>
   clear H';(try clear c1);(try clear c3b0);(try clear c3b1);(try clear c3b2);obtain ⟨x5_1,rfl,HA,HK1,⟨m1,rfl⟩⟩:=hrel;cases gk with
   | zero=>exact absurd HA.out (by simp [r21_Clashes.l0])
   | succ k1 =>
    have H:=HA.out;clear HA;simp only [r21_Clashes.l0] at H;replace H:=iD H;rcases H with ⟨c4,c4b0,H⟩ | ⟨c4,c4b0,H⟩
    ·clear c4;obtain ⟨c5,H⟩:=gG H;have c5b0:=dTr c5;clear c5;obtain ⟨c6,H⟩:=gG H;have c6b0:=dTr c6;clear c6;replace H:=iB H;rcases H with ⟨c7,H⟩ | ⟨c7,H⟩
     ·have c7b0:(!(((rd_T70 l0 x5_1).f0) == ((rd_T70 l1 x5_1).f0)) || (!(((rd_T70 l0 x5_1).f1) == ((rd_T70 l1 x5_1).f1)) || (!(((rd_T70 l0 x5_1).f2) == ((rd_T70 l1 x5_1).f2)))))=true:=c7;clear c7;obtain rfl:=sI H;have p365:0 ≤ (x5_1:Int):=tD;have q365:x5_1 < (l0.length:Int):=tD;obtain ⟨ad365,e365,hx365_0,hx365_1,hx365_2⟩:=at_T70 HR0.out x5_1 p365 q365;cases e365;replace p365:=eq_true p365;replace q365:=eq_true q365;have p366:0 ≤ (x5_1:Int):=tD;have q366:x5_1 < (l1.length:Int):=tD;obtain ⟨ad366,e366,hx366_0,hx366_1,hx366_2⟩:=at_T70 HR1.out x5_1 p366 q366;cases e366;replace p366:=eq_true p366;replace q366:=eq_true q366;go_wp2;(repeat (go_quiet (fail);try go_wp2));go_ret;exact ⟨by first|rfl|(simp;done)|(simp [*];done),tR⟩
     ·(have c7b0:(!(((rd_T70 l0 x5_1).f0) == ((rd_T70 l1 x5_1).f0)) || (!(((rd_T70 l0 x5_1).f1) == ((rd_T70 l1 x5_1).f1)) || (!(((rd_T70 l0 x5_1).f2) == ((rd_T70 l1 x5_1).f2)))))=false:=by simpa using c7);clear c7;have H':=Sd.mk H;clear H;have p365:0 ≤ (x5_1:Int):=tD;have q365:x5_1 < (l0.length:Int):=tD;obtain ⟨ad365,e365,hx365_0,hx365_1,hx365_2⟩:=at_T70 HR0.out x5_1 p365 q365;cases e365;replace p365:=eq_true p365;replace q365:=eq_true q365;have p366:0 ≤ (x5_1:Int):=tD;have q366:x5_1 < (l1.length:Int):=tD;obtain ⟨ad366,e366,hx366_0,hx366_1,hx366_2⟩:=at_T70 HR1.out x5_1 p366 q366;cases e366;replace p366:=eq_true p366;replace q366:=eq_true q366;go_wp2;(repeat (go_quiet (fail);try go_wp2));go_roundg k1
      case measure=>have:=HK1.out;omega
      case rel=>exact ⟨(wrap64 (x5_1 + 1)),tSS,H',⟨by have:=HK1.out;omega⟩,tR⟩
    ·clear c4;obtain rfl:=sI H;go_wp2;(repeat (go_quiet (fail);try go_wp2));go_ret;exact ⟨by first|rfl|(simp;done)|(simp [*];done),tR⟩
 ·(have c3b2:(l0.length == l1.length)=false:=by first|simpa using c3|(simp at c3 ⊢;omega));obtain rfl:=sI H;go_enter Tryz.func17,Tryz.ntmps17;go_wp2;(repeat (go_quiet (fail);try go_wp2));go_ret;exact ⟨by first|rfl|(simp;done)|(simp [*];done),tR⟩
end
section
attribute [local go_sem] max2_int min2_int max_two min_two max_three min_three max_four min_four
def q21_PairsAll.j0:Nat → List Bool → List (S70) → Bool → List ByteArray → List ByteArray → List ByteArray → List (S85) → List (S89) → Option (Bool)
 | 0,_,_,_,_,_,_,_,_=>none
 | k + 1,x1,x5,x24,Xfo,Xfp,Xfq,Xfr,Xfs=>if x24=true then (if (x5.length:Int)=0 then ((q21_awake.f).bind fun t383=>(some t383)) else (some false)) else ((r21_All.f k Xfo Xfp Xfq Xfr Xfs x1).bind fun t384=>((r21_Clashes.f k x5 t384).bind fun t387=>(if t387=true then ((q21_awake.f).bind fun t388=>(some t388)) else (some false))))
def q21_PairsAll.f (k:Nat) (l00:List ByteArray) (l01:List ByteArray) (l02:List ByteArray) (l03:List (S85)) (l04:List (S89)) (l1:List Bool):Option (Bool):=(q21_light.f k l00 l01 l02 l03 l04 l1).bind fun t377=>(if t377=true then ((pairs_All.f l00 l01 l02 l03 l04 l1).bind fun t379=>((r21_Many.f k l00 l01 l02 l03 l04).bind fun t382=>(if t382=0 then (q21_PairsAll.j0 k l1 t379 true l00 l01 l02 l03 l04) else (q21_PairsAll.j0 k l1 t379 ((l1.length:Int) != (l00.length:Int)) l00 l01 l02 l03 l04)))) else ((q21_awake.f).bind fun t378=>(some t378)))
theorem q21_PairsAll.calls (k:Nat) (A0_0:Option Addr) (c0_0:Nat) (l00:List ByteArray) (A0_1:Option Addr) (c0_1:Nat) (l01:List ByteArray) (A0_2:Option Addr) (c0_2:Nat) (l02:List ByteArray) (A0_3:Option Addr) (c0_3:Nat) (l03:List (S85)) (A0_4:Option Addr) (c0_4:Nat) (l04:List (S89)) (A1:Option Addr) (c1:Nat) (l1:List Bool) (r:Bool) (w:World) (hr00:Kd.C Kd.string w A0_0 l00.length l00) (hc00:l00.length ≤ c0_0) (hr01:Kd.C Kd.string w A0_1 l01.length l01) (hc01:l01.length ≤ c0_1) (hr02:Kd.C Kd.string w A0_2 l02.length l02) (hc02:l02.length ≤ c0_2) (hr03:Kd.C k85 w A0_3 l03.length l03) (hc03:l03.length ≤ c0_3) (hr04:Kd.C k89 w A0_4 l04.length l04) (hc04:l04.length ≤ c0_4) (hr1:Kd.C Kd.bool w A1 l1.length l1) (hc1:l1.length ≤ c1) (h:q21_PairsAll.f k l00 l01 l02 l03 l04 l1=some r) (hrt:r=true) :
  Calls Tryz.prog 4 #[.agg #[.slice A0_0 l00.length c0_0,.slice A0_1 l01.length c0_1,.slice A0_2 l02.length c0_2,.slice A0_3 l03.length c0_3,.slice A0_4 l04.length c0_4],.slice A1 l1.length c1] w fun e w'=>e = .returned (.bool r)∧Below w.heap.size w w':=by
 have HRT:=Sd.mk hrt;clear hrt;have hu26:=Tryz.underlying26;have HR00:=Sd.mk hr00;have J00:=Sd.mk hc00;clear hr00 hc00;have HR01:=Sd.mk hr01;have J01:=Sd.mk hc01;clear hr01 hc01;have HR02:=Sd.mk hr02;have J02:=Sd.mk hc02;clear hr02 hc02;have HR03:=Sd.mk hr03;have J03:=Sd.mk hc03;clear hr03 hc03;have HR04:=Sd.mk hr04;have J04:=Sd.mk hc04;clear hr04 hc04;have HR1:=Sd.mk hr1;have HC1:=Sd.mk hc1;clear hr1 hc1;have HB:=Sd.mk (Below.refl w.heap.size w);have H:=h;clear h;unfold q21_PairsAll.f at H;obtain ⟨t377,A3,H⟩:=oB H;have HC4:=Sd.mk H;clear H;go_enter Tryz.func4,Tryz.ntmps4;go_upto_if 9 with (first|((with_reducible refine gate_dst (N:=2) rfl ?_);(try (refine gate_guard (by rfl) ?_;dsimp only));refine uY 2 (cs:=#[.slice A0_0 l00.length c0_0,.slice A0_1 l01.length c0_1,.slice A0_2 l02.length c0_2,.slice A0_3 l03.length c0_3,.slice A0_4 l04.length c0_4]) (t:=26) fun gb376 hg w5 BK376 hb GE376 HB=>?_;clear hb hg;have Z6:=bd5 BK376)|((with_reducible refine gate_callee (f:=9) rfl ?_);refine gL Tryz.func9 (some 8) #[.agg #[.slice A0_0 l00.length c0_0,.slice A0_1 l01.length c0_1,.slice A0_2 l02.length c0_2,.slice A0_3 l03.length c0_3,.slice A0_4 l04.length c0_4],.slice A1 l1.length c1] ?_;(with_reducible refine (q21_light.calls k _ _ l00 _ _ l01 _ _ l02 _ _ l03 _ _ l04 _ _ l1 t377 _ (sC HR00) J00.out (sC HR01) J01.out (sC HR02) J02.out (sC HR03) J03.out (sC HR04) J04.out (sC HR1) HC1.out A3.out).mono ?_);rintro e w7 ⟨rfl,hb⟩;refine ⟨_,rfl,?_⟩;replace BK376:=uK BK376 hb;replace HB:=uH hb;(try clear hb)));(try simp only [Act.put,q1_,q2_,q3_]);have H:=HC4.out;clear HC4;by_cases c8:t377=true
 ·subst c8;replace H:=iT H;obtain ⟨t379,A9,H⟩:=oB H;have HC10:=Sd.mk H;clear H;have Z11:=bd5 BK376;go_upto_region 4 with (first|((with_reducible refine gate_callee (f:=16) rfl ?_);refine gL Tryz.func16 (some 13) #[.agg #[.slice A0_0 l00.length c0_0,.slice A0_1 l01.length c0_1,.slice A0_2 l02.length c0_2,.slice A0_3 l03.length c0_3,.slice A0_4 l04.length c0_4],.slice A1 l1.length c1] ?_;(with_reducible refine (pairs_All.calls _ _ l00 _ _ l01 _ _ l02 _ _ l03 _ _ l04 _ _ l1 t379 _ (sC HR00) J00.out (sC HR01) J01.out (sC HR02) J02.out (sC HR03) J03.out (sC HR04) J04.out (sC HR1) HC1.out A9.out).mono ?_);rintro e w12 ⟨v380,rfl,ho0,hb⟩;refine ⟨_,rfl,?_⟩;have HO381:=Sd.mk (Kd.R_lower ho0 (below_size uB));replace BK376:=uK BK376 hb;replace HB:=uH hb;(try clear hb);(try clear ho0)));(try simp only [Act.put,q1_,q2_,q3_]);go_cut [24] (fun v24 wc=>∃ (kq:Nat) (x24_9:Bool),v24 = .bool x24_9∧Sd (q21_PairsAll.j0 kq l1 t379 x24_9 l00 l01 l02 l03 l04=some r)∧Sd (kq ≤ k)∧Sd (Kd.R k70 70 wc w.heap.size (fun _=>True) v380 t379)∧Sd (wc.heap[gb376]? = some (.cells #[(.slice A0_0 l00.length c0_0),(.slice A0_1 l01.length c0_1),(.slice A0_2 l02.length c0_2),(.slice A0_3 l03.length c0_3),(.slice A0_4 l04.length c0_4)] 26 (0,0)))∧Sd (Below w.heap.size w wc))
  case first =>
   have H:=HC10.out;clear HC10;obtain ⟨t382,A13,H⟩:=oB H;replace H:=iE H;rcases H with ⟨c14,c14b0,c14b1,H⟩ | ⟨c14,c14b0,c14b1,H⟩
   ·clear c14;(first|rw [c14b0]|(simp only [i64_w,i32_w];rw [c14b0])|rw [c14b1]|skip);have H':=Sd.mk H;clear H;have Z15:=bd5 BK376;go_wp2_with (first|((with_reducible refine gate_callee (f:=12) rfl ?_);refine gL Tryz.func12 (some 15) #[.agg #[.slice A0_0 l00.length c0_0,.slice A0_1 l01.length c0_1,.slice A0_2 l02.length c0_2,.slice A0_3 l03.length c0_3,.slice A0_4 l04.length c0_4]] ?_;(with_reducible refine (r21_Many.calls k _ _ l00 _ _ l01 _ _ l02 _ _ l03 _ _ l04 t382 _ (sC HR00) J00.out (sC HR01) J01.out (sC HR02) J02.out (sC HR03) J03.out (sC HR04) J04.out A13.out).mono ?_);rintro e w16 ⟨rfl,hb⟩;refine ⟨_,rfl,?_⟩;replace HO381:=Sd.mk (Kd.R_below (kR HO381) hb);replace BK376:=uK BK376 hb;replace HB:=uH hb;(try clear hb)));go_meet
    case rel=>exact ⟨_,(true),tSS,H',⟨tO⟩,kS HO381,kA BK376,uA⟩
   ·(first|rw [c14b0]|(simp only [i64_w,i32_w];rw [c14b0])|rw [c14b1]|skip);have H':=Sd.mk H;clear H;have Z17:=bd5 BK376;go_wp2_with (first|((with_reducible refine gate_callee (f:=12) rfl ?_);refine gL Tryz.func12 (some 15) #[.agg #[.slice A0_0 l00.length c0_0,.slice A0_1 l01.length c0_1,.slice A0_2 l02.length c0_2,.slice A0_3 l03.length c0_3,.slice A0_4 l04.length c0_4]] ?_;(with_reducible refine (r21_Many.calls k _ _ l00 _ _ l01 _ _ l02 _ _ l03 _ _ l04 t382 _ (sC HR00) J00.out (sC HR01) J01.out (sC HR02) J02.out (sC HR03) J03.out (sC HR04) J04.out A13.out).mono ?_);rintro e w18 ⟨rfl,hb⟩;refine ⟨_,rfl,?_⟩;replace HO381:=Sd.mk (Kd.R_below (kR HO381) hb);replace BK376:=uK BK376 hb;replace HB:=uH hb;(try clear hb);have Z19:=bd5 BK376));go_meet
    case rel=>exact ⟨_,(((l1.length:Int) != (l00.length:Int))),tSS,H',⟨tO⟩,kS HO381,kA BK376,uA⟩
  case rest =>
   clear HC10;(try clear c1);(try clear c8);(try clear Z11);(try clear Z6);obtain ⟨kq,x24_9,rfl,HA,HJ9,HO_5,BK376,HB⟩:=hcut;cases kq with
   | zero=>exact absurd HA.out (by simp [q21_PairsAll.j0])
   | succ kj9 =>
    have H:=HA.out;clear HA;simp only [q21_PairsAll.j0] at H;by_cases c20:x24_9=true
    ·subst c20;replace H:=iT H;replace H:=iB H;rcases H with ⟨c21,H⟩ | ⟨c21,H⟩
     ·obtain ⟨c21b0,c21b1⟩:=bT c21;clear c21;obtain ⟨t383,A22,H⟩:=oB H;obtain rfl:=sI H;obtain ⟨Ao23,co23,eo23⟩:=Kd.R_slice HO_5.out;subst eo23;go_wp2_with (first|(go_at_call 10;(with_reducible refine (q21_awake.calls  t383 _ A22.out).mono ?_);rintro e w24 ⟨rfl,hb⟩;replace HO_5:=Sd.mk (Kd.R_below (kR HO_5) hb);replace BK376:=uK BK376 hb;replace HB:=uH hb;(try clear hb)));go_ret;exact ⟨tW,uB⟩
     ·exact absurd ((Option.some.inj H).trans HRT.out) (by decide)
    ·replace c20:=Bool.eq_false_iff.mpr c20;subst c20;replace H:=iF H;obtain ⟨t384,A26,H⟩:=oB H;obtain ⟨t387,A27,H⟩:=oB H;by_cases c28:t387=true
     ·subst c28;replace H:=iT H;obtain ⟨t388,A29,H⟩:=oB H;obtain rfl:=sI H;have Z30:=bd5 BK376;go_wp2_with (first|((with_reducible refine gate_callee (f:=18) rfl ?_);refine gL Tryz.func18 (some 34) #[.agg #[.slice A0_0 l00.length c0_0,.slice A0_1 l01.length c0_1,.slice A0_2 l02.length c0_2,.slice A0_3 l03.length c0_3,.slice A0_4 l04.length c0_4],.slice A1 l1.length c1] ?_;(with_reducible refine (r21_All.calls kj9 _ _ l00 _ _ l01 _ _ l02 _ _ l03 _ _ l04 _ _ l1 t384 _ (sC HR00) J00.out (sC HR01) J01.out (sC HR02) J02.out (sC HR03) J03.out (sC HR04) J04.out (sC HR1) HC1.out A26.out).mono ?_);rintro e w31 ⟨v385,rfl,ho0,hb⟩;refine ⟨_,rfl,?_⟩;have HO386:=Sd.mk (Kd.R_lower (Kd.R_new' ho0 (Kd.R_lt (kR HO_5))) (below_size uB));replace HO_5:=Sd.mk (Kd.R_elder' (kR HO_5) (Kd.R_base ho0) hb);replace BK376:=uK BK376 hb;replace HB:=uH hb;(try clear hb);(try clear ho0);obtain ⟨Ao32,co32,eo32⟩:=Kd.R_slice HO_5.out;subst eo32;obtain ⟨Ao33,co33,eo33⟩:=Kd.R_slice HO386.out;subst eo33)|((with_reducible refine gate_callee (f:=17) rfl ?_);refine gL Tryz.func17 (some 35) #[.slice Ao32 t379.length co32,.slice Ao33 t384.length co33] ?_;(with_reducible refine (r21_Clashes.calls kj9 _ _ t379 _ _ t384 true _ ?side1 ?side2 ?side3 ?side4 A27.out).mono ?_);(case side1=>exact sE (Kd.R_reads' HO_5.out).2.2);(case side2=>exact (Kd.R_reads' HO_5.out).2.1);(case side3=>exact sE (Kd.R_reads' HO386.out).2.2);(case side4=>exact (Kd.R_reads' HO386.out).2.1);rintro e w' ⟨rfl,⟨nd,rfl⟩⟩;refine ⟨_,rfl,?_⟩)|(go_at_call 10;(with_reducible refine (q21_awake.calls  t388 _ A29.out).mono ?_);rintro e w34 ⟨rfl,hb⟩;replace HO_5:=Sd.mk (Kd.R_below (kR HO_5) hb);replace HO386:=Sd.mk (Kd.R_below (kR HO386) hb);replace BK376:=uK BK376 hb;replace HB:=uH hb;(try clear hb)));go_ret;exact ⟨tW,uB⟩
     ·replace c28:=Bool.eq_false_iff.mpr c28;subst c28;(have H1:(some false)=some r:=by rw [if_neg (show ¬ (false=true) by decide)] at H;exact H);exact absurd ((Option.some.inj H1).trans HRT.out) (by decide)
 ·replace c8:=Bool.eq_false_iff.mpr c8;subst c8;replace H:=iF H;obtain ⟨t378,A39,H⟩:=oB H;obtain rfl:=sI H;go_wp2_with (first|((with_reducible refine gate_callee (f:=10) rfl ?_);refine gL Tryz.func10 (some 10) #[] ?_;(with_reducible refine (q21_awake.calls  t378 _ A39.out).mono ?_);rintro e w40 ⟨rfl,hb⟩;refine ⟨_,rfl,?_⟩;replace BK376:=uK BK376 hb;replace HB:=uH hb;(try clear hb)));go_ret;exact ⟨tW,uB⟩
end
theorem rdL_ss (ss:List (List ByteArray)) (i:Nat):rd_L7 ss (i:Int)=ss.getD i []:=by simp [rd_L7]
theorem rdL_cs (cs:List (List Ce)) (i:Nat):rd_L16 cs (i:Int)=cs.getD i []:=by simp [rd_L16]
theorem rdI_ss (ss:List (List ByteArray)) (i:Int):rd_L7 ss i=ss.getD i.toNat []:=rfl
theorem hasB_inB (l:List ByteArray) (a:ByteArray):hasB l a=inB l a:=by
 rw [Bool.eq_iff_iff,inB_iff];unfold hasB;simp
theorem in19_ev (ss:List (List ByteArray)) (cs:List (List Ce)) (hst:StOk ss cs) (i:Int) (key:ByteArray):Ev (fun k=>r19_In.f k ss cs i key) (inS ss i key):=by
 unfold r19_In.f inS;by_cases h0:0 ≤ i
 ·by_cases h1:i < (ss.length:Int)
  ·rw [decide_eq_true ⟨h0,h1⟩,Bool.true_and];have hm:=getD_at ss [] i.toNat (by omega);refine Ev.yes h0 (Ev.yes h1 (Ev.yes h0 (Ev.bind (at_ev _ key (hst.2.1 _ hm)) (Ev.is ?_))));rw [idxI_has,hasB_inB,rdI_ss]
  ·rw [decide_eq_false (by omega)];exact Ev.yes h0 (Ev.no h1 (Ev.now _))
 ·rw [decide_eq_false (by omega)];exact Ev.no h0 (Ev.now _)
theorem get10_ev (L:List Ce) (key:ByteArray) (hl:L.length ≤ 4000000000):Ev (fun k=>r10_Get.f k L key) (numL L key):=by
 unfold r10_Get.f;refine Ev.loop (g:=fun k pos=>r10_Get.l0 k L key (pos:Int)) (spec:=fun pos=>numL (L.drop pos) key) L.length ?_ ?_ 0 (by omega)
 ·refine Ev.succ ?_;simp only [r10_Get.l0,List.drop_length];exact Ev.no (by omega) (Ev.now _)
 ·intro pos hp ih;refine Ev.succ ?_;simp only [r10_Get.l0,rdCe_at];rw [wrap_up pos (by omega),drop_getD L z158 pos hp,numL];refine Ev.yes (by omega) (Ev.yes (by omega) ?_);by_cases he:(L.getD pos z158).f0.toList=key.toList
  ·rw [if_pos he];exact Ev.yes he (Ev.now _)
  ·rw [if_neg he];exact Ev.no he ih
theorem num19_ev (ss:List (List ByteArray)) (cs:List (List Ce)) (hst:StOk ss cs) (i:Int) (key:ByteArray):Ev (fun k=>r19_Number.f k ss cs i key) (numS cs i key):=by
 unfold r19_Number.f numS;by_cases h0:i < 0
 ·rw [if_neg (by omega)];exact Ev.yes h0 (Ev.now _)
 refine Ev.no h0 ?_;by_cases h1:i < (cs.length:Int)
 ·rw [if_pos ⟨by omega,h1⟩];have hm:=getD_at cs [] i.toNat (by omega);exact Ev.no (by omega) (Ev.yes (by omega) (Ev.yes h1 (Ev.bind (get10_ev _ key (hst.2.2 _ hm)) (Ev.now _))))
 ·rw [if_neg (by omega)];exact Ev.yes (by omega) (Ev.now _)
theorem met20_ev (ss:List (List ByteArray)) (cs:List (List Ce)) (hst:StOk ss cs) (key:ByteArray) (n:Nd):Ev (fun k=>r20_Met.f k ss cs key n.f0 n.f1 n.f2 n.f3 n.f4) (metB ss cs key n):=by
 unfold r20_Met.f metB;refine Ev.bind (num19_ev ss cs hst n.f2 key) (Ev.bind (in19_ev ss cs hst n.f2 key) ?_);by_cases h2:n.f1=2
 ·rw [if_pos h2];exact Ev.yes h2 (Ev.now _)
 rw [if_neg h2];refine Ev.no h2 ?_;by_cases h3:n.f1=3
 ·rw [if_pos h3];exact Ev.yes h3 (Ev.now _)
 rw [if_neg h3];refine Ev.no h3 ?_;by_cases h4:n.f1=4
 ·rw [if_pos h4];refine Ev.yes h4 ?_;by_cases h0:n.f2 < 0
  ·rw [show inS ss n.f2 key=false by unfold inS;rw [decide_eq_false (by omega)];rfl,decide_eq_false (show ¬ (0 ≤ n.f2∧n.f2 < (ss.length:Int)) by omega)];exact Ev.yes h0 (Ev.is rfl)
  refine Ev.no h0 ?_;by_cases h1:n.f2 ≥ (ss.length:Int)
  ·rw [show inS ss n.f2 key=false by unfold inS;rw [decide_eq_false (by omega)];rfl,decide_eq_false (show ¬ (0 ≤ n.f2∧n.f2 < (ss.length:Int)) by omega)];exact Ev.yes h1 (Ev.is rfl)
  refine Ev.no h1 ?_;cases hb:inS ss n.f2 key
  ·rw [decide_eq_true (show 0 ≤ n.f2∧n.f2 < (ss.length:Int) by omega)];exact Ev.no (by decide) (Ev.yes (by omega) (Ev.yes (by omega) (Ev.is rfl)))
  ·exact Ev.yes rfl (Ev.now _)
 rw [if_neg h4];refine Ev.no h4 ?_;by_cases h5:n.f1=5
 ·rw [if_pos h5];exact Ev.yes h5 (Ev.now _)
 rw [if_neg h5];refine Ev.no h5 ?_;by_cases h6:n.f1=6
 ·rw [if_pos h6];exact Ev.yes h6 (Ev.now _)
 rw [if_neg h6];refine Ev.no h6 ?_;by_cases h7:n.f1=7
 ·rw [if_pos h7];refine Ev.yes h7 ?_;by_cases hle:numS cs n.f2 key ≤ n.f3
  ·rw [decide_eq_true hle];exact Ev.yes hle (Ev.now _)
  ·rw [decide_eq_false hle,Bool.false_or];exact Ev.no hle (Ev.bind (in19_ev ss cs hst n.f4 key) (Ev.now _))
 rw [if_neg h7];exact Ev.no h7 (Ev.now _)
def addK (acc:List ByteArray) (k:ByteArray):List ByteArray:=if hasB acc k=true then acc else acc ++ [k]
theorem addK_mem (acc:List ByteArray) (k x:ByteArray):x ∈ addK acc k ↔ x ∈ acc ∨ x=k:=by
 unfold addK;by_cases h:hasB acc k=true
 ·rw [if_pos h];constructor
  ·exact fun h=>.inl h
  ·rintro (h2|rfl)
   ·exact h2
   ·exact (inB_iff acc x).1 (by rw [← hasB_inB];exact h)
 ·rw [if_neg h];simp
theorem addK_len (acc:List ByteArray) (k:ByteArray):(addK acc k).length ≤ acc.length + 1:=by
 unfold addK;split
 ·omega
 ·simp
theorem foldK_mem (l:List ByteArray):∀ (acc:List ByteArray) (x:ByteArray),x ∈ l.foldl addK acc ↔ x ∈ acc ∨ x ∈ l:=by
 induction l with
 | nil=>intro acc x;simp
 | cons k r ih=>intro acc x;rw [List.foldl_cons,ih,addK_mem,List.mem_cons];rw [or_assoc]
def keysL (ss:List (List ByteArray)) (cs:List (List Ce)):List ByteArray:=((ss.flatMap id) ++ (cs.flatMap fun l=>l.map (·.f0))).foldl addK []
theorem keysL_mem (ss:List (List ByteArray)) (cs:List (List Ce)) (x:ByteArray):x ∈ keysL ss cs ↔ (∃ l,l ∈ ss∧x ∈ l) ∨ ∃ l,l ∈ cs∧∃ c,c ∈ l∧c.f0=x:=by
 unfold keysL;rw [foldK_mem];simp
theorem keys_ev (ss:List (List ByteArray)) (cs:List (List Ce)) (hst:StOk ss cs) (h0:ss.length ≤ 1000) (h1:cs.length ≤ 1000) (hs:∀ l ∈ ss,l.length ≤ 1000) (ht:∀ l ∈ cs,l.length ≤ 1000):Ev (fun k=>r19_Keys.f k ss cs) (keysL ss cs):=by
 let R (i:Nat) (acc:List ByteArray):List ByteArray:=((cs.drop i).flatMap fun l=>l.map (·.f0)).foldl addK acc;have hcs:∀ (m i:Nat) (acc:List ByteArray),i + m=cs.length → acc.length ≤ 1000 * (1000 + i) → Ev (fun k=>r19_Keys.l2 k acc (i:Int) ss cs) (R i acc):=by
  intro m;induction m with
  | zero =>
   intro i acc hi ha;refine Ev.succ ?_;simp only [r19_Keys.l2];refine Ev.no (by omega) (Ev.is ?_);show _=((cs.drop i).flatMap fun l=>l.map (·.f0)).foldl addK acc;rw [List.drop_of_length_le (by omega)];rfl
  | succ m ih =>
   intro i acc hi ha;refine Ev.succ ?_;simp only [r19_Keys.l2];refine Ev.yes (by omega) ?_;have hl:=ht _ (getD_at cs [] i (by omega));have hR:R i acc=R (i + 1) (((cs.getD i []).map (·.f0)).foldl addK acc):=by
    show ((cs.drop i).flatMap fun l=>l.map (·.f0)).foldl addK acc=((cs.drop (i + 1)).flatMap fun l=>l.map (·.f0)).foldl addK _;rw [drop_getD cs [] i (by omega),List.flatMap_cons,List.foldl_append]
   rw [hR];have hin:∀ (m2 p:Nat) (acc2:List ByteArray),p + m2=(cs.getD i []).length → acc2.length ≤ 1000 * (1000 + i) + p → Ev (fun k=>r19_Keys.l3 k acc2 (i:Int) (p:Int) ss cs) (R (i + 1) ((((cs.getD i []).drop p).map (·.f0)).foldl addK acc2)):=by
    intro m2;induction m2 with
    | zero =>
     intro p acc2 hp ha2;refine Ev.succ ?_;simp only [r19_Keys.l3,rdL_cs];rw [List.drop_of_length_le (by omega),wrap_up i (by omega)];exact Ev.yes (by omega) (Ev.yes (by omega) (Ev.no (by omega) (ih (i + 1) acc2 (by omega) (by omega))))
    | succ m2 ih2 =>
     intro p acc2 hp ha2;refine Ev.succ ?_;simp only [r19_Keys.l3,rdL_cs,rdCe_at];rw [drop_getD (cs.getD i []) z158 p (by omega),wrap_up p (by omega),List.map_cons,List.foldl_cons];generalize ((cs.getD i []).getD p z158).f0=key;refine Ev.yes (by omega) (Ev.yes (by omega) (Ev.yes (by omega) (Ev.yes (by omega) (Ev.bind (at_ev acc2 key (by omega)) ?_))));have hk:=idxI_has acc2 key 0;have hlen:=addK_len acc2 key;have h3:=ih2 (p + 1) (addK acc2 key) (by omega) (by omega);unfold addK at h3 ⊢;cases hb:hasB acc2 key
     ·rw [hb] at hk h3;rw [if_neg (by decide)] at h3 ⊢;exact Ev.yes (by have:=of_decide_eq_false hk;omega) (Ev.yes (by omega) h3)
     ·rw [hb] at hk h3;rw [if_pos rfl] at h3 ⊢;exact Ev.no (by have:=of_decide_eq_true hk;omega) h3
   have h4:=hin (cs.getD i []).length 0 acc (by omega) (by omega);rw [List.drop_zero] at h4;exact h4
 let S (i:Nat) (acc:List ByteArray):List ByteArray:=R 0 (((ss.drop i).flatMap id).foldl addK acc);have hss:∀ (m i:Nat) (acc:List ByteArray),i + m=ss.length → acc.length ≤ 1000 * i → Ev (fun k=>r19_Keys.l0 k acc (i:Int) ss cs) (S i acc):=by
  intro m;induction m with
  | zero =>
   intro i acc hi ha;refine Ev.succ ?_;simp only [r19_Keys.l0];have h5:=hcs cs.length 0 acc (by omega) (by omega);have hS:S i acc=R 0 acc:=by
    show R 0 (((ss.drop i).flatMap id).foldl addK acc)=_;rw [List.drop_of_length_le (by omega)];rfl
   rw [hS];exact Ev.no (by omega) h5
  | succ m ih =>
   intro i acc hi ha;refine Ev.succ ?_;simp only [r19_Keys.l0];refine Ev.yes (by omega) ?_;have hl:=hs _ (getD_at ss [] i (by omega));have hS:S i acc=S (i + 1) ((ss.getD i []).foldl addK acc):=by
    show R 0 (((ss.drop i).flatMap id).foldl addK acc)=R 0 (((ss.drop (i + 1)).flatMap id).foldl addK _);rw [drop_getD ss [] i (by omega),List.flatMap_cons,List.foldl_append];rfl
   rw [hS];have hin:∀ (m2 p:Nat) (acc2:List ByteArray),p + m2=(ss.getD i []).length → acc2.length ≤ 1000 * i + p → Ev (fun k=>r19_Keys.l1 k acc2 (i:Int) (p:Int) ss cs) (S (i + 1) (((ss.getD i []).drop p).foldl addK acc2)):=by
    intro m2;induction m2 with
    | zero =>
     intro p acc2 hp ha2;refine Ev.succ ?_;simp only [r19_Keys.l1,rdL_ss];rw [List.drop_of_length_le (by omega),wrap_up i (by omega)];exact Ev.yes (by omega) (Ev.yes (by omega) (Ev.no (by omega) (ih (i + 1) acc2 (by omega) (by omega))))
    | succ m2 ih2 =>
     intro p acc2 hp ha2;refine Ev.succ ?_;simp only [r19_Keys.l1,rdL_ss,rdOf_at];rw [drop_getD (ss.getD i []) ByteArray.empty p (by omega),wrap_up p (by omega),List.foldl_cons];generalize (ss.getD i []).getD p ByteArray.empty=key;refine Ev.yes (by omega) (Ev.yes (by omega) (Ev.yes (by omega) (Ev.yes (by omega) (Ev.bind (at_ev acc2 key (by omega)) ?_))));have hk:=idxI_has acc2 key 0;have hlen:=addK_len acc2 key;have h3:=ih2 (p + 1) (addK acc2 key) (by omega) (by omega);unfold addK at h3 ⊢;cases hb:hasB acc2 key
     ·rw [hb] at hk h3;rw [if_neg (by decide)] at h3 ⊢;exact Ev.yes (by have:=of_decide_eq_false hk;omega) (Ev.yes (by omega) h3)
     ·rw [hb] at hk h3;rw [if_pos rfl] at h3 ⊢;exact Ev.no (by have:=of_decide_eq_true hk;omega) h3
   have h4:=hin (ss.getD i []).length 0 acc (by omega) (by omega);rw [List.drop_zero] at h4;exact h4
 unfold r19_Keys.f;have h6:=hss ss.length 0 [] (by omega) (by simp);have e:S 0 []=keysL ss cs:=by
  show (((cs.drop 0).flatMap fun l=>l.map (·.f0)).foldl addK (((ss.drop 0).flatMap id).foldl addK []))=_;rw [List.drop_zero,List.drop_zero,← List.foldl_append];rfl
 rw [e] at h6;exact h6
def atB (ss:List (List ByteArray)) (cs:List (List Ce)) (c:Cl) (key:ByteArray):Bool :=
 if c.f0=4 then !inS ss c.f2 key || inS ss c.f3 key else if c.f0=5 then !inS ss c.f2 key || !inS ss c.f3 key else if c.f0=7 then decide (numS cs c.f2 key ≤ c.f4) else if c.f0=8 then decide (numS cs c.f2 key ≥ c.f4)
 else if c.f0=9 then decide (numS cs c.f2 key ≤ 0) || inS ss c.f3 key else true
theorem at19_ev (ss:List (List ByteArray)) (cs:List (List Ce)) (hst:StOk ss cs) (c:Cl) (key:ByteArray):Ev (fun k=>r19_at.f k ss cs c.f0 c.f1 c.f2 c.f3 c.f4 key) (atB ss cs c key):=by
 unfold r19_at.f atB;(have hi:=fun i=>in19_ev ss cs hst i key);(have hn:=fun i=>num19_ev ss cs hst i key);by_cases h4:c.f0=4
 ·rw [if_pos h4];refine Ev.yes h4 (Ev.bind (hi _) ?_);cases inS ss c.f2 key
  ·exact Ev.no (by decide) (Ev.now _)
  ·exact Ev.yes rfl (Ev.bind (hi _) (Ev.is (by simp)))
 rw [if_neg h4];refine Ev.no h4 ?_;by_cases h5:c.f0=5
 ·rw [if_pos h5];refine Ev.yes h5 (Ev.bind (hi _) ?_);cases inS ss c.f2 key
  ·exact Ev.no (by decide) (Ev.now _)
  ·exact Ev.yes rfl (Ev.bind (hi _) (Ev.is (by simp)))
 rw [if_neg h5];refine Ev.no h5 ?_;by_cases h7:c.f0=7
 ·rw [if_pos h7];exact Ev.yes h7 (Ev.bind (hn _) (Ev.now _))
 rw [if_neg h7];refine Ev.no h7 ?_;by_cases h8:c.f0=8
 ·rw [if_pos h8];exact Ev.yes h8 (Ev.bind (hn _) (Ev.now _))
 rw [if_neg h8];refine Ev.no h8 ?_;by_cases h9:c.f0=9
 ·rw [if_pos h9];refine Ev.yes h9 (Ev.bind (hn _) ?_);by_cases h:numS cs c.f2 key ≤ 0
  ·rw [decide_eq_true h];exact Ev.yes h (Ev.now _)
  ·rw [decide_eq_false h];exact Ev.no h (Ev.bind (hi _) (Ev.is (by simp)))
 rw [if_neg h9];exact Ev.no h9 (Ev.now _)
def NumOk (l:List Ce):Prop:=∀ c ∈ l,numL l c.f0=c.f1
theorem numL_case (l:List Ce) (key:ByteArray):numL l key=0 ∨ ∃ c ∈ l,c.f0=key∧numL l key=c.f1:=by
 induction l with
 | nil=>exact .inl rfl
 | cons c r ih =>
  by_cases e:c.f0.toList=key.toList
  ·exact .inr ⟨c,List.mem_cons_self,ba_toList_inj e,if_pos e⟩
  ·rw [numL,if_neg e];rcases ih with h | ⟨d,hd,h1,h2⟩
   ·exact .inl h
   ·exact .inr ⟨d,List.mem_cons_of_mem _ hd,h1,h2⟩
theorem hold19 (ss:List (List ByteArray)) (cs:List (List Ce)) (c:Cl) (hc:clB ss.length cs.length c=true) (h6:c.f0 ≠ 6) (hn:∀ l ∈ cs,NumOk l):(keysL ss cs).all (atB ss cs c)=holdsB ss cs c:=by
 rw [Bool.eq_iff_iff,List.all_eq_true];unfold clB at hc;by_cases h4:c.f0=4
 ·rw [if_pos (.inl h4)] at hc;simp only [Bool.and_eq_true] at hc;have a1:=wB_ok hc.1;have b1:=wB_ok hc.2.1;have hm:=getD_at ss [] c.f2.toNat (by omega);unfold atB holdsB;simp only [if_pos h4,inS,decide_eq_true (show 0 ≤ c.f2∧c.f2 < (ss.length:Int) by omega),decide_eq_true (show 0 ≤ c.f3∧c.f3 < (ss.length:Int) by omega),Bool.true_and];rw [Bool.not_eq_true',List.any_eq_false];constructor
  ·intro h k hk;have:=h k ((keysL_mem ss cs k).2 (.inl ⟨_,hm,hk⟩));rw [(inB_iff _ _).2 hk] at this;simpa using this
  ·intro h k _;cases hb:inB (ss.getD c.f2.toNat []) k
   ·rfl
   ·have:=h k ((inB_iff _ _).1 hb);simpa using this
 by_cases h5:c.f0=5
 ·rw [if_pos (.inr h5)] at hc;simp only [Bool.and_eq_true] at hc;have a1:=wB_ok hc.1;have b1:=wB_ok hc.2.1;have hm:=getD_at ss [] c.f2.toNat (by omega);unfold atB holdsB;simp only [if_neg h4,if_pos h5,inS,decide_eq_true (show 0 ≤ c.f2∧c.f2 < (ss.length:Int) by omega),decide_eq_true (show 0 ≤ c.f3∧c.f3 < (ss.length:Int) by omega),Bool.true_and];rw [Bool.not_eq_true',List.any_eq_false];constructor
  ·intro h k hk;have:=h k ((keysL_mem ss cs k).2 (.inl ⟨_,hm,hk⟩));rw [(inB_iff _ _).2 hk] at this;simpa using this
  ·intro h k _;cases hb:inB (ss.getD c.f2.toNat []) k
   ·rfl
   ·have:=h k ((inB_iff _ _).1 hb);simpa using this
 rw [if_neg (by rintro (h|h) <;> contradiction)] at hc;(have key:∀ x,x ∈ cs.getD c.f2.toNat [] → cs.getD c.f2.toNat [] ∈ cs → x.f0 ∈ keysL ss cs:=fun x hx hm=>(keysL_mem ss cs _).2 (.inr ⟨_,hm,x,hx,rfl⟩));by_cases h9:c.f0=9
 ·rw [if_pos h9] at hc;simp only [Bool.and_eq_true] at hc;have a1:=wB_ok hc.1;have b1:=wB_ok hc.2.1;have hm:=getD_at cs [] c.f2.toNat (by omega);unfold atB holdsB;simp only [if_neg h4,if_neg h5,if_neg (show ¬ c.f0=7 by omega),if_neg (show ¬ c.f0=8 by omega),if_pos h9,if_neg h6,inS,numS,if_pos (show 0 ≤ c.f2∧c.f2 < (cs.length:Int) by omega),decide_eq_true (show 0 ≤ c.f3∧c.f3 < (ss.length:Int) by omega),Bool.true_and];rw [Bool.not_eq_true',List.any_eq_false];constructor
  ·intro h x hx;have:=h x.f0 (key x hx hm);rw [hn _ hm x hx] at this;simp only [Bool.or_eq_true,decide_eq_true_eq] at this;simp only [Bool.and_eq_true,decide_eq_true_eq,Bool.not_eq_true',not_and];intro h0;rcases this with h1|h1
   ·omega
   ·simpa using h1
  ·intro h k _;rcases numL_case (cs.getD c.f2.toNat []) k with e | ⟨d,hd,rfl,e⟩
   ·rw [e];rfl
   ·have:=h d hd;rw [e];simp only [Bool.and_eq_true,decide_eq_true_eq,Bool.not_eq_true',not_and] at this;by_cases h0:d.f1 ≤ 0
    ·rw [decide_eq_true h0];rfl
    ·have h1:=this (by omega);simp only [Bool.not_eq_false] at h1;rw [h1,Bool.or_true]
 rw [if_neg h9,if_neg h6] at hc;by_cases h7:c.f0=7
 ·rw [if_pos h7] at hc;simp only [Bool.and_eq_true] at hc;have a1:=wB_ok hc.1;have b1:=wB_ok hc.2.2.1;have hm:=getD_at cs [] c.f2.toNat (by omega);unfold atB holdsB;simp only [if_neg h4,if_neg h5,if_pos h7,if_neg h6,numS,if_pos (show 0 ≤ c.f2∧c.f2 < (cs.length:Int) by omega)];rw [Bool.not_eq_true',List.any_eq_false];constructor
  ·intro h x hx;have:=h x.f0 (key x hx hm);rw [hn _ hm x hx,decide_eq_true_eq] at this;rw [decide_eq_true_eq];omega
  ·intro h k _;rw [decide_eq_true_eq];rcases numL_case (cs.getD c.f2.toNat []) k with e | ⟨d,hd,rfl,e⟩
   ·rw [e];omega
   ·have:=h d hd;rw [decide_eq_true_eq] at this;rw [e];omega
 rw [if_neg h7] at hc;by_cases h8:c.f0=8
 ·rw [if_pos h8] at hc;simp only [Bool.and_eq_true] at hc;have a1:=wB_ok hc.1;have b1:=wB_ok hc.2.2.1;have hm:=getD_at cs [] c.f2.toNat (by omega);unfold atB holdsB;simp only [if_neg h4,if_neg h5,if_neg h7,if_pos h8,if_neg h6,numS,if_pos (show 0 ≤ c.f2∧c.f2 < (cs.length:Int) by omega)];rw [Bool.not_eq_true',List.any_eq_false];constructor
  ·intro h x hx;have:=h x.f0 (key x hx hm);rw [hn _ hm x hx,decide_eq_true_eq] at this;rw [decide_eq_true_eq];omega
  ·intro h k _;rw [decide_eq_true_eq];rcases numL_case (cs.getD c.f2.toNat []) k with e | ⟨d,hd,rfl,e⟩
   ·rw [e];omega
   ·have:=h d hd;rw [decide_eq_true_eq] at this;rw [e];omega
 rw [if_neg h8] at hc;exact absurd hc (by decide)
theorem holds19_ev (ss:List (List ByteArray)) (cs:List (List Ce)) (hst:StOk ss cs) (h0:ss.length ≤ 1000) (h1:cs.length ≤ 1000) (hs:∀ l ∈ ss,l.length ≤ 1000) (ht:∀ l ∈ cs,l.length ≤ 1000) (hn:∀ l ∈ cs,NumOk l) (c:Cl) (hc:clB ss.length cs.length c=true):Ev (fun k=>r19_Holds.f k ss cs c.f0 c.f1 c.f2 c.f3 c.f4) (holdsB ss cs c):=by
 unfold r19_Holds.f;by_cases h6:c.f0=6
 ·have hc2:=hc;unfold clB at hc2;rw [if_neg (by omega),if_neg (by omega),if_pos h6] at hc2;simp only [Bool.and_eq_true] at hc2;have a1:=wB_ok hc2.1;refine Ev.yes h6 (Ev.yes (by omega) (Ev.yes (by omega) (Ev.is ?_)));unfold holdsB;rw [if_neg (by omega),if_neg (by omega),if_pos h6];rfl
 ·refine Ev.no h6 (Ev.bind (keys_ev ss cs hst h0 h1 hs ht) ?_);rw [← hold19 ss cs c hc h6 hn];have hlen:(keysL ss cs).length ≤ 9000000000000:=by
   have hf:∀ (l acc:List ByteArray),(l.foldl addK acc).length ≤ acc.length + l.length:=by
    intro l;induction l with
    | nil=>intro acc;simp
    | cons k r ih =>
     intro acc;have:=ih (addK acc k);have h2:=addK_len acc k;rw [List.foldl_cons,List.length_cons];omega
   have hfl:∀ {α β:Type} (g:α → List β) (L:List α),(∀ x ∈ L,(g x).length ≤ 4000000000) → (L.flatMap g).length ≤ 4000000000 * L.length:=by
    intro α β g L;induction L with
    | nil=>intro _;simp
    | cons a r ih =>
     intro h;have h2:=h a List.mem_cons_self;(have h3:=ih fun x hx=>h x (List.mem_cons_of_mem _ hx));rw [List.flatMap_cons,List.length_append,List.length_cons];omega
   have e1:=hfl id ss (fun l hl=>hst.2.1 l hl);have e2:=hfl (fun l:List Ce=>l.map (·.f0)) cs (fun l hl=>by rw [List.length_map];exact hst.2.2 l hl);have e3:=hf ((ss.flatMap id) ++ (cs.flatMap fun l=>l.map (·.f0))) [];unfold keysL;rw [List.length_append] at e3;simp only [List.length_nil] at e3;omega
  generalize keysL ss cs=L at *;refine Ev.loop (g:=fun k pos=>r19_Holds.l0 k L (pos:Int) ss cs c.f0 c.f1 c.f2 c.f3 c.f4) (spec:=fun pos=>(L.drop pos).all (atB ss cs c)) L.length ?_ ?_ 0 (by omega)
  ·refine Ev.succ ?_;simp only [r19_Holds.l0,List.drop_length];exact Ev.no (by omega) (Ev.now _)
  ·intro pos hp ih;refine Ev.succ ?_;simp only [r19_Holds.l0,rdOf_at];rw [wrap_up pos (by omega),drop_getD L ByteArray.empty pos hp,List.all_cons];refine Ev.yes (by omega) (Ev.yes (by omega) (Ev.bind (at19_ev ss cs hst c _) ?_));cases atB ss cs c (L.getD pos ByteArray.empty)
   ·exact Ev.no (by decide) (Ev.now _)
   ·exact Ev.yes rfl (by rw [Bool.true_and];exact ih)
theorem broken19_ev (l0 l1 l2:List ByteArray) (l3:List Cl) (l4:List Op_) (hl:l3.length ≤ 1000) (ss:List (List ByteArray)) (cs:List (List Ce)) (hst:StOk ss cs) (h0:ss.length ≤ 1000) (h1:cs.length ≤ 1000) (hs:∀ l ∈ ss,l.length ≤ 1000) (ht:∀ l ∈ cs,l.length ≤ 1000) (hn:∀ l ∈ cs,NumOk l) (hc:∀ c ∈ l3,clB ss.length cs.length c=true) :
  Ev (fun k=>r19_Broken.f k l0 l1 l2 l3 l4 ss cs) (brL l3 ss cs):=by
 unfold r19_Broken.f brL;have h:∀ (m pos:Nat) (acc:List Int),pos + m=l3.length → acc.length ≤ pos → Ev (fun k=>r19_Broken.l0 k acc (pos:Int) l0 l1 l2 l3 l4 ss cs) (acc ++ (((List.range' pos m).filter fun i=>!holdsB ss cs (l3.getD i z85)).map fun (i:Nat)=>(i:Int))):=by
  intro m;induction m with
  | zero =>
   intro pos acc hp ha;refine Ev.succ ?_;simp only [r19_Broken.l0];exact Ev.no (by omega) (Ev.is (by simp))
  | succ m ih =>
   intro pos acc hp ha;refine Ev.succ ?_;simp only [r19_Broken.l0,rdCl_at];have hm:=getD_at l3 z85 pos (by omega);rw [wrap_up pos (by omega),List.range'_succ,List.filter_cons];refine Ev.yes (by omega) (Ev.yes (by omega) (Ev.bind (holds19_ev ss cs hst h0 h1 hs ht hn _ (hc _ hm)) ?_));cases hh:holdsB ss cs (l3.getD pos z85)
   ·rw [if_pos (show (!false)=true from rfl)];refine Ev.no (by decide) (Ev.yes (by omega) ?_);have h2:=ih (pos + 1) (acc ++ [(pos:Int)]) (by omega) (by simp;omega);rw [List.map_cons];rwa [List.append_assoc,List.singleton_append] at h2
   ·rw [if_neg (show ¬ (!true)=true by decide)];exact Ev.yes rfl (ih (pos + 1) acc (by omega) (by omega))
 have h3:=h l3.length 0 [] (by omega) (by simp);rw [List.range_eq_range'];simpa using h3
theorem nd20_of (l4:List Op_) (hd:DoOk l4) (o:Int) (c:Cl) (hc : -1000 ≤ c.f4∧c.f4 ≤ 1000):nd20 c.f0 c.f2 c.f3 c.f4 (makeN l4 o c.f2) (makeN l4 o c.f3) (moreN l4 o c.f2)=(0,ofN l4 o c):=by
 have ha:=makeL_is (doesO l4 o) c.f2;have hb:=makeL_is (doesO l4 o) c.f3;have ml:=moreN_le l4 hd.2 o c.f2;unfold ofN refN bothN needsN nd20;rw [show makeL (doesO l4 o) c.f2=makeN l4 o c.f2 from rfl] at ha;rw [show makeL (doesO l4 o) c.f3=makeN l4 o c.f3 from rfl] at hb;(have w1:wrap64 (c.f4 - moreN l4 o c.f2)=c.f4 - moreN l4 o c.f2:=by unfold wrap64;omega);(have w2:wrap64 (-moreN l4 o c.f2) = -moreN l4 o c.f2:=by unfold wrap64;omega);rw [w1,w2];clear w1 w2 ml;generalize makeN l4 o c.f2=a at *;generalize makeN l4 o c.f3=b at *;generalize moreN l4 o c.f2=d at *;by_cases h4:c.f0=4
 ·simp only [h4];rcases ha with rfl|rfl|rfl <;> rcases hb with rfl|rfl|rfl <;> simp
 by_cases h5:c.f0=5
 ·simp only [h5];rcases ha with rfl|rfl|rfl <;> rcases hb with rfl|rfl|rfl <;> simp
 by_cases h6:c.f0=6
 ·simp only [h6];rcases ha with rfl|rfl|rfl <;> simp
 by_cases h7:c.f0=7
 ·simp only [h7];by_cases hd:d > 0 <;> simp [hd]
 by_cases h8:c.f0=8
 ·simp only [h8];by_cases hd:d < 0 <;> simp [hd]
 by_cases h9:c.f0=9
 ·simp only [h9];rcases hb with rfl|rfl|rfl <;> by_cases hd:d > 0 <;> simp [hd]
 simp [h4,h5,h6,h7,h8,h9]
theorem needs20_ev (l0 l1 l2:List ByteArray) (l3:List Cl) (l4:List Op_) (hl:l3.length ≤ 1000) (hd:DoOk l4) (hc:∀ c ∈ l3,-1000 ≤ c.f4∧c.f4 ≤ 1000) (o:Int):Ev (fun k=>r20_Needs.f k l0 l1 l2 l3 l4 o) (needsR l4 o l3 0):=by
 unfold r20_Needs.f;have hk:∀ c:Cl,0 ≤ (ofN l4 o c).1:=fun c=>by
  unfold ofN refN bothN needsN;(repeat' split);all_goals first|decide|simp
 have h:∀ (m pos:Nat) (acc:List Nd),pos + m=l3.length → acc.length ≤ pos → Ev (fun k=>r20_Needs.l0 k o acc (pos:Int) l0 l1 l2 l3 l4) (acc ++ needsR l4 o (l3.drop pos) pos):=by
  intro m;induction m with
  | zero =>
   intro pos acc hp ha;(obtain rfl:pos=l3.length:=by omega);refine Ev.succ ?_;simp only [r20_Needs.l0,List.drop_length];exact Ev.no (by omega) (Ev.is (by simp [needsR]))
  | succ m ih =>
   intro pos acc hp ha;refine Ev.succ ?_;simp only [r20_Needs.l0,rdCl_at];have hm:=getD_at l3 z85 pos (by omega);rw [wrap_up pos (by omega),drop_getD l3 z85 pos (by omega),needsR];have hcl:=hc _ hm;generalize l3.getD pos z85=c at *;have hz0:=hk c;refine Ev.yes (by omega) (Ev.yes (by omega) (Ev.bind1 (show r20_Need.f l0 l1 l2 l3 l4 o c.f0 c.f1 c.f2 c.f3 c.f4=some (0,ofN l4 o c) by unfold r20_Need.f;rw [if_pos hd,nd20_of l4 hd o c hcl]) ?_));by_cases hz:(ofN l4 o c).1=0
   ·rw [if_pos hz];exact Ev.no (by rw [hz];decide) (ih (pos + 1) acc (by omega) (by omega))
   ·rw [if_neg hz];refine Ev.yes (show (ofN l4 o c).1 > 0 by omega) (Ev.yes (by omega) ?_);have h2:=ih (pos + 1) (acc ++ [⟨(pos:Int),(ofN l4 o c).1,(ofN l4 o c).2.1,(ofN l4 o c).2.2.1,(ofN l4 o c).2.2.2⟩]) (by omega) (by simp;omega);rwa [List.append_assoc,List.singleton_append] at h2
 have h3:=h l3.length 0 [] (by omega) (by simp);simpa using h3
theorem needsR_pos (l4:List Op_) (o:Int):∀ (l:List Cl) (i:Nat),∀ n ∈ needsR l4 o l i,0 ≤ n.f0
 | [],_=>fun n hn=>by simp [needsR] at hn
 | c :: r,i=>fun n hn=>by
  rw [needsR] at hn;split at hn
  ·exact needsR_pos l4 o r (i + 1) n hn
  ·rcases List.mem_cons.1 hn with rfl|hn
   ·simp
   ·exact needsR_pos l4 o r (i + 1) n hn
theorem firstM_neg (ss:List (List ByteArray)) (cs:List (List Ce)) (key:ByteArray) (L:List Nd) (h:∀ n ∈ L,0 ≤ n.f0):decide (firstM ss cs key L < 0)=L.all (metB ss cs key):=by
 induction L with
 | nil=>rfl
 | cons n r ih =>
  rw [firstM,List.all_cons];cases hm:metB ss cs key n
  ·rw [if_neg (by decide),Bool.false_and,decide_eq_false (by have:=h n List.mem_cons_self;omega)]
  ·rw [if_pos rfl,Bool.true_and];exact ih fun x hx=>h x (List.mem_cons_of_mem _ hx)
theorem numOk_wC (l:List Int):∀ x ∈ wC l,NumOk x:=by
 intro x hx c hc;rcases wC_mem hx with rfl | ⟨n,_,_,rfl⟩
 ·cases hc
 ·rcases List.mem_cons.1 hc with rfl|h
  ·simp [numL]
  ·cases h
theorem wS_small (l:List Bool):∀ x ∈ wS l,x.length ≤ 1000:=by
 intro x hx;rcases wS_mem hx with rfl|rfl <;> simp
theorem wC_small (l:List Int):∀ x ∈ wC l,x.length ≤ 1000:=by
 intro x hx;rcases wC_mem hx with rfl | ⟨n,_,_,rfl⟩ <;> simp
theorem free21_ev (l0 l1 l2:List ByteArray) (l3:List Cl) (l4:List Op_) (hl:l3.length ≤ 1000) (hd:DoOk l4) (hc:∀ c ∈ l3,-1000 ≤ c.f4∧c.f4 ≤ 1000) (s:Sm) (h0:s.f0.length ≤ 1000) (h1:s.f1.length ≤ 1000)
  (hcl:∀ c ∈ l3,clB s.f0.length s.f1.length c=true) (o:Int):Ev (fun k=>r21_free.f k l0 l1 l2 l3 l4 (wS s.f0) (wC s.f1) o) (freeN l3 l4 s o):=by
 have hst:=wide_ok s h0 h1;unfold r21_free.f;refine Ev.bind (needs20_ev l0 l1 l2 l3 l4 hl hd hc o) ?_;have e:freeN l3 l4 s o=((needsR l4 o l3 0).all (metB (wS s.f0) (wC s.f1) kB) && ((brL l3 (wS s.f0) (wC s.f1)).length:Int) == 0):=by
  unfold freeN firstN;by_cases hb:brL l3 (wS s.f0) (wC s.f1) = []
  ·rw [if_pos hb,firstM_neg _ _ _ _ (needsR_pos l4 o l3 0),hb];simp
  ·rw [if_neg hb];have:(((brL l3 (wS s.f0) (wC s.f1)).length:Int) == 0)=false:=by
    rw [beq_eq_false_iff_ne];intro h;exact hb (List.length_eq_zero_iff.1 (by omega))
   rw [this,Bool.and_false];rfl
 rw [e];have hlen:=needsR_len l4 o l3 0;have hbr:=broken19_ev l0 l1 l2 l3 l4 hl (wS s.f0) (wC s.f1) hst (by rw [wS_len];exact h0) (by rw [wC_len];exact h1) (wS_small _) (wC_small _) (numOk_wC _) (by rw [wS_len,wC_len];exact hcl);generalize needsR l4 o l3 0=L at *;generalize brL l3 (wS s.f0) (wC s.f1)=B at *;refine Ev.loop (g:=fun k pos=>r21_free.l0 k L (pos:Int) l0 l1 l2 l3 l4 (wS s.f0) (wC s.f1)) (spec:=fun pos=>(L.drop pos).all (metB (wS s.f0) (wC s.f1) kB) && ((B.length:Int) == 0)) L.length ?_ ?_ 0 (by omega)
 ·refine Ev.succ ?_;simp only [r21_free.l0,List.drop_length];exact Ev.no (by omega) (Ev.bind hbr (Ev.is rfl))
 ·intro pos hp ih;refine Ev.succ ?_;simp only [r21_free.l0];(have hrd:rd_T127 L (pos:Int)=L.getD pos z127:=by simp [rd_T127]);rw [hrd,wrap_up pos (by omega),drop_getD L z127 pos hp,List.all_cons];refine Ev.yes (by omega) (Ev.yes (by omega) (Ev.bind (met20_ev _ _ hst kB (L.getD pos z127)) ?_));cases metB (wS s.f0) (wC s.f1) kB (L.getD pos z127)
  ·exact Ev.no (by decide) (Ev.is (by simp))
  ·exact Ev.yes rfl (by rw [Bool.true_and];exact ih)
theorem putNil_ev (b:Bool):Ev (fun k=>r19_Put.f k [] kB b) (if b=true then [kB] else []):=by
 unfold r19_Put.f;refine Ev.succ ?_;simp only [r19_Put.l0];refine Ev.no (by simp) ?_;cases b
 ·exact Ev.no (by decide) (Ev.now _)
 ·exact Ev.yes rfl (Ev.yes (by simp) (Ev.now _))
theorem setNil_ev (n:Int):Ev (fun k=>r10_Set.f k [] kB n) (if n=0 then [] else [⟨kB,n⟩]):=by
 unfold r10_Set.f;refine Ev.succ ?_;simp only [r10_Set.l0];refine Ev.no (by simp) ?_;by_cases h:n=0
 ·rw [if_pos h];exact Ev.yes (by rw [h];rfl) (Ev.now _)
 ·rw [if_neg h];exact Ev.no (by simpa using h) (Ev.yes (by simp) (Ev.now _))
theorem wide21_ev (l0 l1 l2:List ByteArray) (l3:List Cl) (l4:List Op_) (s:Sm) (e0:s.f0.length=l0.length) (e1:s.f1.length=l1.length) (h0:s.f0.length ≤ 1000) (h1:s.f1.length ≤ 1000) :
  Ev (fun k=>r21_Wide.f k l0 l1 l2 l3 l4 s.f0 s.f1) (wS s.f0,wC s.f1):=by
 obtain ⟨f0,f1⟩:=s;simp only at e0 e1 h0 h1 ⊢;have hcs:Ev (fun k=>r21_Wide.l1 k ((0:Nat):Int) f0 f1 (wS f0) (wC (f1.take 0) ++ List.replicate (f1.length - 0) [])) (wS f0,wC f1):=by
  refine Ev.loop (g:=fun k pos=>r21_Wide.l1 k (pos:Int) f0 f1 (wS f0) (wC (f1.take pos) ++ List.replicate (f1.length - pos) [])) (spec:=fun _=>(wS f0,wC f1)) f1.length ?_ ?_ 0 (by omega)
  ·refine Ev.succ ?_;simp only [r21_Wide.l1,List.take_length,Nat.sub_self,List.replicate_zero,List.append_nil];exact Ev.no (by omega) (Ev.now _)
  ·intro pos hp ih;refine Ev.succ ?_;simp only [r21_Wide.l1];(have hrd:rd f1 (pos:Int)=f1.getD pos 0:=by simp [rd]);rw [hrd,wrap_up pos (by omega)];(have hlen:(wC (f1.take pos)).length=pos:=by simp [wC];omega);have hrep:List.replicate (f1.length - pos) ([]:List Ce) = [] :: List.replicate (f1.length - (pos + 1)) []:=by
    rw [show f1.length - pos=(f1.length - (pos + 1)) + 1 by omega,List.replicate_succ]
   have htk:wC (f1.take (pos + 1))=wC (f1.take pos) ++ [if f1.getD pos 0=0 then [] else [⟨kB,f1.getD pos 0⟩]]:=by
    unfold wC;rw [List.take_succ_eq_append_getElem hp,List.map_append];simp [List.getD,hp]
   rw [htk,List.append_assoc,List.singleton_append] at ih;refine Ev.yes (by omega) (Ev.yes (by omega) (Ev.bind (setNil_ev _) (Ev.yes (by rw [List.length_append,hlen,List.length_replicate];omega) ?_)));have hset:∀ y:List Ce,(wC (f1.take pos) ++ List.replicate (f1.length - pos) []).set ((pos:Int)).toNat y=wC (f1.take pos) ++ y :: List.replicate (f1.length - (pos + 1)) []:=fun y=>by
    rw [hrep,Int.toNat_natCast];have:=set_mid (wC (f1.take pos)) [] y (List.replicate (f1.length - (pos + 1)) []);rw [hlen] at this;exact this
   rw [hset];exact ih
 have hss:Ev (fun k=>r21_Wide.l0 k ((0:Nat):Int) f0 f1 (wS (f0.take 0) ++ List.replicate (f0.length - 0) []) (wC (f1.take 0) ++ List.replicate (f1.length - 0) [])) (wS f0,wC f1):=by
  refine Ev.loop (g:=fun k pos=>r21_Wide.l0 k (pos:Int) f0 f1 (wS (f0.take pos) ++ List.replicate (f0.length - pos) []) (wC (f1.take 0) ++ List.replicate (f1.length - 0) [])) (spec:=fun _=>(wS f0,wC f1)) f0.length ?_ ?_ 0 (by omega)
  ·refine Ev.succ ?_;simp only [r21_Wide.l0,List.take_length,Nat.sub_self,List.replicate_zero,List.append_nil];exact Ev.no (by omega) hcs
  ·intro pos hp ih;refine Ev.succ ?_;simp only [r21_Wide.l0,rdOf_at];rw [wrap_up pos (by omega)];(have hlen:(wS (f0.take pos)).length=pos:=by simp [wS];omega);have hrep:List.replicate (f0.length - pos) ([]:List ByteArray) = [] :: List.replicate (f0.length - (pos + 1)) []:=by
    rw [show f0.length - pos=(f0.length - (pos + 1)) + 1 by omega,List.replicate_succ]
   have htk:wS (f0.take (pos + 1))=wS (f0.take pos) ++ [if f0.getD pos false=true then [kB] else []]:=by
    unfold wS;rw [List.take_succ_eq_append_getElem hp,List.map_append];simp [List.getD,hp]
   rw [htk,List.append_assoc,List.singleton_append] at ih;refine Ev.yes (by omega) (Ev.yes (by omega) (Ev.bind (putNil_ev _) (Ev.yes (by rw [List.length_append,hlen,List.length_replicate];omega) ?_)));have hset:∀ y:List ByteArray,(wS (f0.take pos) ++ List.replicate (f0.length - pos) []).set ((pos:Int)).toNat y=wS (f0.take pos) ++ y :: List.replicate (f0.length - (pos + 1)) []:=fun y=>by
    rw [hrep,Int.toNat_natCast];have:=set_mid (wS (f0.take pos)) [] y (List.replicate (f0.length - (pos + 1)) []);rw [hlen] at this;exact this
   rw [hset];exact ih
 unfold r21_Wide.f r19_New.f;rw [if_pos (by omega),if_pos (by rw [Int.toNat_natCast];omega),if_pos (by omega),if_pos (by rw [Int.toNat_natCast];omega),Int.toNat_natCast,Int.toNat_natCast,← e0,← e1];refine Ev.bind1 rfl ?_;simpa [wS,wC] using hss
end Go.Proofs.YtjbjbeihkoeciaaGreat.X
namespace Go.Proofs.YtjbjbeihkoeciaaGreat.X
open Go.RowKit Go.Proofs.YtjbjbeihkoeciaaGreatW.PrintWords Go.ChangeShapes Go.WideShapes Go.Deep
theorem list_of {α:Type} {R:Nat → α → Prop}:∀ n:Nat,(∀ i,i < n → ∃ z,R i z) → ∃ zs:List α,zs.length=n∧∀ j p,zs[j]? = some p → R j p:=by
 intro n;induction n with
 | zero=>intro _;exact ⟨[],rfl,fun j p h=>by simp at h⟩
 | succ n ih =>
  intro h;obtain ⟨zs,hl,hz⟩:=ih (fun i hi=>h i (by omega));obtain ⟨z,hr⟩:=h n (by omega);refine ⟨zs ++ [z],by simp [hl],fun j p hj=>?_⟩;rcases Nat.lt_trichotomy j n with h1|h1|h1
  ·rw [List.getElem?_append_left (by omega)] at hj;exact hz j p hj
  ·subst h1;rw [List.getElem?_append_right (by omega),hl,Nat.sub_self] at hj;injection hj with hj;subst hj;exact hr
  ·rw [List.getElem?_eq_none (by simp [hl];omega)] at hj;cases hj
theorem struct_fields {H:Type} {enc:TypeId × Value → H} {P:Program} {w:World} {base:Nat} {spare:Nat → Bool} {held:Bool} {m:Nat} {fs:Array Field} {cs:List Value} {xs:List (DataW H × List MemPlace)} (hone:oneCellFields P fs=true)
  (hf:∀ (i:Nat) (f:Field),fs[i]? = some f → DataW.trod enc P w base spare held m f.type ((cs.drop f.offset).take (P.cellsOf f.type))=xs[i]?) :
  ∀ (i:Nat) (f:Field),fs[i]? = some f → DataW.trod enc P w base spare held m f.type ((cs.drop i).take 1)=xs[i]?:=by
 intro i f hi;have h1:=hf i f hi;obtain ⟨ho,hk⟩:=hone_of hone i f hi;rw [ho,hk] at h1;exact h1
theorem take1 {cs:List Value} {i:Nat} {v:Value} (h:(cs.drop i).take 1 = [v]):cs[i]? = some v:=by
 have:=congrArg (fun l=>l[0]?) h;simpa using this
end Go.Proofs.YtjbjbeihkoeciaaGreat.X
namespace Go.Proofs.YtjbjbeihkoeciaaGreat.X
open Go.RowKit Go.Proofs.YtjbjbeihkoeciaaGreatW.PrintWords Go.ChangeShapes Go.WideShapes Go.Deep
theorem open_rowK {H:Type} {enc:TypeId × Value → H} {P:Program} {w:World} {spare:Nat → Bool} {held:Bool} {t e:TypeId} {α:Type} (d:Kd α) (good:α → Prop) (hsz:P.cellsOf e=d.sz)
  (ht:P.underlying t=some (.slice e)) (hel:∀ (n:Nat) (cs:List Value) (x:DataW H × List MemPlace),DataW.trod enc P w 0 spare held n e cs=some x → ∃ z:α,d.K w z cs∧good z)
  (n:Nat) (cs:List Value) (x:DataW H × List MemPlace) (h:DataW.trod enc P w 0 spare held n t cs=some x) :
  ∃ (zs:List α) (A:Option Addr) (c:Nat),cs = [.slice A zs.length c]∧zs.length ≤ c∧Kd.C d w A zs.length zs∧∀ z ∈ zs,good z:=by
 rcases open_slice ht h with ⟨hcs,_⟩ | ⟨a,l,c,m,n',D,Pl,hcs,_,hl,hm,hmm,_,hi⟩
 ·exact ⟨[],none,0,hcs,Nat.le_refl 0,⟨rfl,Nat.zero_le _,fun h=>absurd h (by simp)⟩,fun z hz=>by simp at hz⟩
 ·(have hlm:l ≤ m:=by rw [hmm];split <;> omega);obtain ⟨zs,hzl,hz⟩:=list_of (R:=fun i z=>good z∧∃ cs',cs'.length=d.sz∧d.K w z cs'∧∀ j u,cs'[j]? = some u → w.cell? (a.add (i * d.sz + j))=some u) l (fun i hil=>by
   obtain ⟨cs',hc,hd⟩:=hi i (by omega)
   obtain ⟨z,hk,hg⟩:=hel n' cs' _ hd
   rw [hsz] at hc
   obtain ⟨_,hlen,hat⟩:=World.cells?_some hc
   refine ⟨z,hg,cs',hlen,hk,fun j u hj=>?_⟩
   have hjl:j < d.sz:=by rw [← hlen];exact (List.getElem?_eq_some_iff.1 hj).1
   have:=hat j hjl
   rw [Go.Deep.add_add] at this
   rw [this,hj])
  subst hzl;refine ⟨zs,some a,c,hcs,hl,⟨rfl,?_,fun _=>⟨a,rfl,fun j p hj=>(hz j p hj).2⟩⟩,fun z hz'=>?_⟩
  ·simp only [maxLen] at hm;omega
  ·obtain ⟨j,hj,rfl⟩:=List.mem_iff_getElem.1 hz';exact (hz j _ (List.getElem?_eq_getElem hj)).1
def goodStr (s:ByteArray):Prop:=s.size ≤ maxLen
def goodCl (c:Cl):Prop:=(Lit.int .i64 c.f0).wf=true∧(Lit.int .i64 c.f2).wf=true∧(Lit.int .i64 c.f3).wf=true∧(Lit.int .i64 c.f4).wf=true
def goodDg (d:Dg):Prop:=(Lit.int .i64 d.f0).wf=true∧(Lit.int .i64 d.f1).wf=true∧(Lit.int .i64 d.f2).wf=true
def goodOp (o:Op_):Prop:=goodStr o.f0∧∀ d ∈ o.f1,goodDg d
section
variable {H:Type} {enc:TypeId × Value → H} {w:World} {spare:Nat → Bool} {held:Bool}
theorem openStr (n:Nat) (cs:List Value) (x:DataW H × List MemPlace) (h:DataW.trod enc Tryz.prog w 0 spare held n 9 cs=some x):∃ z:ByteArray,Kd.string.K w z cs∧goodStr z:=by
 obtain ⟨s,rfl,_,hs⟩:=DataW.trod_string Tryz.underlying9 h;exact ⟨s,rfl,hs⟩
theorem openCl (n:Nat) (cs:List Value) (x:DataW H × List MemPlace) (h:DataW.trod enc Tryz.prog w 0 spare held n 85 cs=some x):∃ z:Cl,k85.K w z cs∧goodCl z:=by
 obtain ⟨xs,m,rfl,rfl,hl,hxl,hf⟩:=DataW.trod_struct Tryz.underlying85 h;have hl':cs.length=5:=hl.trans (by kernel_rfl);have hxl':xs.length=5:=hxl;have hf':=struct_fields (by kernel_rfl) hf;have e0:=hf' 0 _ rfl;rw [List.getElem?_eq_getElem (by omega)] at e0;obtain ⟨s0,g0,_,w0⟩:=DataW.trod_int Tryz.underlying3 e0;have c0:cs[0]? = some (.int .i64 s0):=take1 g0;have e1:=hf' 1 _ rfl;rw [List.getElem?_eq_getElem (by omega)] at e1;obtain ⟨s1,g1,_⟩:=DataW.trod_bool Tryz.underlying4 e1;have c1:cs[1]? = some (.bool s1):=take1 g1;have e2:=hf' 2 _ rfl;rw [List.getElem?_eq_getElem (by omega)] at e2;obtain ⟨s2,g2,_,w2⟩:=DataW.trod_int Tryz.underlying3 e2;have c2:cs[2]? = some (.int .i64 s2):=take1 g2;have e3:=hf' 3 _ rfl;rw [List.getElem?_eq_getElem (by omega)] at e3;obtain ⟨s3,g3,_,w3⟩:=DataW.trod_int Tryz.underlying3 e3;have c3:cs[3]? = some (.int .i64 s3):=take1 g3;have e4:=hf' 4 _ rfl;rw [List.getElem?_eq_getElem (by omega)] at e4;obtain ⟨s4,g4,_,w4⟩:=DataW.trod_int Tryz.underlying3 e4;have c4:cs[4]? = some (.int .i64 s4):=take1 g4;have he:cs = [.int .i64 s0,.bool s1,.int .i64 s2,.int .i64 s3,.int .i64 s4]:=by
  apply List.ext_getElem?;intro j;rcases j with _|_|_|_|_|j
  ·exact c0
  ·exact c1
  ·exact c2
  ·exact c3
  ·exact c4
  ·rw [List.getElem?_eq_none (by omega)];rfl
 exact ⟨⟨s0,s1,s2,s3,s4⟩,he ▸ k85_mk w ⟨s0,s1,s2,s3,s4⟩,w0,w2,w3,w4⟩
theorem openDg (n:Nat) (cs:List Value) (x:DataW H × List MemPlace) (h:DataW.trod enc Tryz.prog w 0 spare held n 94 cs=some x):∃ z:Dg,k94.K w z cs∧goodDg z:=by
 obtain ⟨xs,m,rfl,rfl,hl,hxl,hf⟩:=DataW.trod_struct Tryz.underlying94 h;have hl':cs.length=3:=hl.trans (by kernel_rfl);have hxl':xs.length=3:=hxl;have hf':=struct_fields (by kernel_rfl) hf;have e0:=hf' 0 _ rfl;rw [List.getElem?_eq_getElem (by omega)] at e0;obtain ⟨s0,g0,_,w0⟩:=DataW.trod_int Tryz.underlying3 e0;have c0:cs[0]? = some (.int .i64 s0):=take1 g0;have e1:=hf' 1 _ rfl;rw [List.getElem?_eq_getElem (by omega)] at e1;obtain ⟨s1,g1,_,w1⟩:=DataW.trod_int Tryz.underlying3 e1;have c1:cs[1]? = some (.int .i64 s1):=take1 g1;have e2:=hf' 2 _ rfl;rw [List.getElem?_eq_getElem (by omega)] at e2;obtain ⟨s2,g2,_,w2⟩:=DataW.trod_int Tryz.underlying3 e2;have c2:cs[2]? = some (.int .i64 s2):=take1 g2;have he:cs = [.int .i64 s0,.int .i64 s1,.int .i64 s2]:=by
  apply List.ext_getElem?;intro j;rcases j with _|_|_|j
  ·exact c0
  ·exact c1
  ·exact c2
  ·rw [List.getElem?_eq_none (by omega)];rfl
 exact ⟨⟨s0,s1,s2⟩,he ▸ k94_mk w ⟨s0,s1,s2⟩,w0,w1,w2⟩
theorem openOp (n:Nat) (cs:List Value) (x:DataW H × List MemPlace) (h:DataW.trod enc Tryz.prog w 0 spare held n 89 cs=some x):∃ z:Op_,k89.K w z cs∧goodOp z:=by
 obtain ⟨xs,m,rfl,rfl,hl,hxl,hf⟩:=DataW.trod_struct Tryz.underlying89 h;have hl':cs.length=2:=hl.trans (by kernel_rfl);have hxl':xs.length=2:=hxl;have hf':=struct_fields (by kernel_rfl) hf;have e0:=hf' 0 _ rfl;rw [List.getElem?_eq_getElem (by omega)] at e0;obtain ⟨s0,g0,_,w0⟩:=DataW.trod_string Tryz.underlying9 e0;have c0:cs[0]? = some (.string s0):=take1 g0;have e1:=hf' 1 _ rfl;rw [List.getElem?_eq_getElem (by omega)] at e1;obtain ⟨zs,A,c,g1,lc,hC,hg⟩:=open_rowK k94 goodDg (by kernel_rfl) Tryz.underlying87 openDg _ _ _ e1;have c1:cs[1]? = some (.slice A zs.length c):=take1 g1;have he:cs = [.string s0,.slice A zs.length c]:=by
  apply List.ext_getElem?;intro j;rcases j with _|_|j
  ·exact c0
  ·exact c1
  ·rw [List.getElem?_eq_none (by omega)];rfl
 exact ⟨⟨s0,zs⟩,he ▸ k89_mk w ⟨s0,zs⟩ lc hC,w0,hg⟩
theorem openRules (n:Nat) (cs:List Value) (x:DataW H × List MemPlace) (h:DataW.trod enc Tryz.prog w 0 spare held n 26 cs=some x) :
  ∃ (l0 l1 l2:List ByteArray) (l3:List Cl) (l4:List Op_) (A0 A1 A2 A3 A4:Option Addr) (c0 c1 c2 c3 c4:Nat),
   cs = [.slice A0 l0.length c0,.slice A1 l1.length c1,.slice A2 l2.length c2,.slice A3 l3.length c3,.slice A4 l4.length c4] ∧
   Kd.C Kd.string w A0 l0.length l0∧l0.length ≤ c0∧Kd.C Kd.string w A1 l1.length l1∧l1.length ≤ c1∧Kd.C Kd.string w A2 l2.length l2∧l2.length ≤ c2 ∧
   Kd.C k85 w A3 l3.length l3∧l3.length ≤ c3∧Kd.C k89 w A4 l4.length l4∧l4.length ≤ c4 ∧
   (∀ s ∈ l0,goodStr s)∧(∀ s ∈ l1,goodStr s)∧(∀ s ∈ l2,goodStr s)∧(∀ c ∈ l3,goodCl c)∧∀ o ∈ l4,goodOp o:=by
 obtain ⟨xs,m,rfl,rfl,hl,hxl,hf⟩:=DataW.trod_struct Tryz.underlying26 h;have hl':cs.length=5:=hl.trans (by kernel_rfl);have hxl':xs.length=5:=hxl;have hf':=struct_fields (by kernel_rfl) hf;have e0:=hf' 0 _ rfl;rw [List.getElem?_eq_getElem (by omega)] at e0;obtain ⟨l0,A0,c0,g0,le0,C0,ok0⟩:=open_rowK Kd.string goodStr (by kernel_rfl) Tryz.underlying22 openStr _ _ _ e0;have y0:=take1 g0;have e1:=hf' 1 _ rfl;rw [List.getElem?_eq_getElem (by omega)] at e1;obtain ⟨l1,A1,c1,g1,le1,C1,ok1⟩:=open_rowK Kd.string goodStr (by kernel_rfl) Tryz.underlying22 openStr _ _ _ e1;have y1:=take1 g1;have e2:=hf' 2 _ rfl;rw [List.getElem?_eq_getElem (by omega)] at e2;obtain ⟨l2,A2,c2,g2,le2,C2,ok2⟩:=open_rowK Kd.string goodStr (by kernel_rfl) Tryz.underlying22 openStr _ _ _ e2;have y2:=take1 g2;have e3:=hf' 3 _ rfl;rw [List.getElem?_eq_getElem (by omega)] at e3;obtain ⟨l3,A3,c3,g3,le3,C3,ok3⟩:=open_rowK k85 goodCl (by kernel_rfl) Tryz.underlying23 openCl _ _ _ e3;have y3:=take1 g3;have e4:=hf' 4 _ rfl;rw [List.getElem?_eq_getElem (by omega)] at e4;obtain ⟨l4,A4,c4,g4,le4,C4,ok4⟩:=open_rowK k89 goodOp (by kernel_rfl) Tryz.underlying24 openOp _ _ _ e4;have y4:=take1 g4;refine ⟨l0,l1,l2,l3,l4,A0,A1,A2,A3,A4,c0,c1,c2,c3,c4,?_,C0,le0,C1,le1,C2,le2,C3,le3,C4,le4,ok0,ok1,ok2,ok3,ok4⟩;apply List.ext_getElem?;intro j;rcases j with _|_|_|_|_|j
 ·exact y0
 ·exact y1
 ·exact y2
 ·exact y3
 ·exact y4
 ·rw [List.getElem?_eq_none (by omega)];rfl
end
end Go.Proofs.YtjbjbeihkoeciaaGreat.X
namespace Go.Proofs.YtjbjbeihkoeciaaGreat.X
open Go.RowKit Go.Proofs.YtjbjbeihkoeciaaGreatW.PrintWords Go.Proofs.YtjbjbeihkoeciaaGreatW.PrintLast Go.Proofs.YtjbjbeihkoeciaaGreatW.PrintMore
theorem names_good {l0 l1 l2:List ByteArray} {l4:List Op_} (g0:∀ s ∈ l0,goodStr s) (g1:∀ s ∈ l1,goodStr s) (g2:∀ s ∈ l2,goodStr s) (g4:∀ o ∈ l4,goodOp o):∀ s ∈ namesL l0 l1 l2 l4,s.size ≤ maxLen:=by
 intro s hs;unfold namesL at hs;simp only [List.mem_append,List.mem_map] at hs;rcases hs with ((h|h)|h) | ⟨o,h,rfl⟩
 ·exact g0 s h
 ·exact g1 s h
 ·exact g2 s h
 ·exact (g4 o h).1
theorem ruOk_of {l0 l1 l2:List ByteArray} {l3:List Cl} {l4:List Op_} (g0:∀ s ∈ l0,goodStr s) (g1:∀ s ∈ l1,goodStr s) (g2:∀ s ∈ l2,goodStr s) (g3:∀ c ∈ l3,goodCl c) (g4:∀ o ∈ l4,goodOp o) (h:lightB l0 l1 l2 l3 l4=true):RuOk l0 l1 l2 l3 l4:=by
 obtain ⟨_,_,_,_,_,_,hd⟩:=lightB_ok h;exact ⟨names_good g0 g1 g2 g4,fun o ho=>⟨by have:=hd o ho;omega,fun d hd=>((g4 o ho).2 d hd).2.1⟩,fun c hc=>(g3 c hc).2.1⟩
end Go.Proofs.YtjbjbeihkoeciaaGreat.X
namespace Go.Proofs.YtjbjbeihkoeciaaGreat.X
open Go.RowKit Go.Proofs.YtjbjbeihkoeciaaGreatW.PrintWords Go.Proofs.YtjbjbeihkoeciaaGreatW.PrintLast Go.Proofs.YtjbjbeihkoeciaaGreatW.PrintMore
section
variable (l0 l1 l2:List ByteArray) (l3:List Cl) (l4:List Op_)
theorem many21_ev (hs:∀ s ∈ namesL l0 l1 l2 l4,s.size ≤ maxLen) (hd:∀ o ∈ l4,o.f1.length ≤ 4000000000):Ev (fun k=>r21_Many.f k l0 l1 l2 l3 l4) ((manyN l0 l1 l2 l3 l4:Nat):Int):=by
 have hz:∀ b,b=true → manyN l0 l1 l2 l3 l4=0 → Ev (fun k=>r21_Many.j0 k b l0 l1 l2 l3 l4) ((manyN l0 l1 l2 l3 l4:Nat):Int):=by
  rintro b rfl h;refine Ev.succ ?_;simp only [r21_Many.j0];rw [h];exact Ev.yes (by first|trivial|rfl) (Ev.now _)
 unfold r21_Many.f;refine Ev.bind (may_ev l0 l1 l2 l3 l4 hs hd) ?_;cases hck:checkB l0 l1 l2 l3 l4
 ·exact Ev.no (by decide) (hz true rfl (by unfold manyN;rw [if_neg (by simp [hck])]))
 ·refine Ev.yes rfl ?_;by_cases h0:l0.length ≤ 4
  ·refine Ev.no (by omega) ?_;by_cases h1:l1.length ≤ 3
   ·rw [decide_eq_false (by omega)];refine Ev.succ ?_;simp only [r21_Many.j0];refine Ev.no (by decide) ?_;have hm:manyN l0 l1 l2 l3 l4=2 ^ l0.length * 3 ^ l1.length:=if_pos ⟨hck,h0,h1⟩;rw [hm];have h3:∀ (m B:Nat),m ≤ 3 → B ≤ 16 * 3 ^ (3 - m) → ∀ p:Nat,p + m=l1.length → Ev (fun k=>r21_Many.l1 k (B:Int) (p:Int) l0 l1 l2 l3 l4) ((B * 3 ^ m:Nat):Int):=by
     intro m;induction m with
     | zero =>
      intro B _ _ p hp;refine Ev.succ ?_;simp only [r21_Many.l1];exact Ev.no (by omega) (Ev.is (by simp))
     | succ m ih =>
      intro B hm hB p hp;refine Ev.succ ?_;simp only [r21_Many.l1];have hB2:B * 3 ≤ 16 * 3 ^ (3 - m):=by
       (have e:3 - m=(3 - (m + 1)) + 1:=by omega);rw [e,Nat.pow_succ];have:=Nat.mul_le_mul_right 3 hB;rwa [Nat.mul_assoc] at this
      have hB3:16 * 3 ^ (3 - m) ≤ 432:=Nat.le_trans (Nat.mul_le_mul_left 16 (Nat.pow_le_pow_right (by decide) (show 3 - m ≤ 3 by omega))) (by decide);(have e1:wrap64 ((B:Int) * 3)=((B * 3:Nat):Int):=by unfold wrap64;omega);rw [e1,wrap_up p (by omega)];refine Ev.yes (by omega) ?_;have h4:=ih (B * 3) (by omega) hB2 (p + 1) (by omega);rwa [show B * 3 * 3 ^ m=B * 3 ^ (m + 1) by rw [Nat.pow_succ,Nat.mul_assoc,Nat.mul_comm 3]] at h4
    have h2:∀ (m B:Nat),m ≤ 4 → B ≤ 2 ^ (4 - m) → ∀ p:Nat,p + m=l0.length → Ev (fun k=>r21_Many.l0 k (B:Int) (p:Int) l0 l1 l2 l3 l4) ((B * 2 ^ m * 3 ^ l1.length:Nat):Int):=by
     intro m;induction m with
     | zero =>
      intro B _ hB p hp;refine Ev.succ ?_;simp only [r21_Many.l0];refine Ev.no (by omega) ?_;have:=h3 l1.length B h1 (Nat.le_trans (show B ≤ 16 from hB) (Nat.le_mul_of_pos_right _ (Nat.pow_pos (by decide)))) 0 (by omega);simpa using this
     | succ m ih =>
      intro B hm hB p hp;refine Ev.succ ?_;simp only [r21_Many.l0];have hB2:B * 2 ≤ 2 ^ (4 - m):=by
       (have e:4 - m=(4 - (m + 1)) + 1:=by omega);rw [e,Nat.pow_succ];exact Nat.mul_le_mul_right 2 hB
      have hB3:2 ^ (4 - m) ≤ 16:=(Nat.pow_le_pow_right (by decide) (show 4 - m ≤ 4 by omega):2 ^ (4 - m) ≤ 2 ^ 4);(have e1:wrap64 ((B:Int) * 2)=((B * 2:Nat):Int):=by unfold wrap64;omega);rw [e1,wrap_up p (by omega)];refine Ev.yes (by omega) ?_;have h4:=ih (B * 2) (by omega) hB2 (p + 1) (by omega);rwa [show B * 2 * 2 ^ m=B * 2 ^ (m + 1) by rw [Nat.pow_succ,Nat.mul_assoc,Nat.mul_comm 2]] at h4
    have:=h2 l0.length 1 h0 (Nat.pow_pos (by decide)) 0 (by omega);simpa using this
   ·rw [decide_eq_true (by omega)];exact hz true rfl (by unfold manyN;rw [if_neg (by omega)])
  ·exact Ev.yes (by omega) (hz true rfl (by unfold manyN;rw [if_neg (by omega)]))
theorem state21_ev (h0:l0.length ≤ 1000) (h1:l1.length ≤ 1000) (n:Nat) (hn:n ≤ 1000000):Ev (fun k=>r21_State.f k l0 l1 l2 l3 l4 (n:Int)) ((stN l0.length l1.length n).f0,(stN l0.length l1.length n).f1):=by
 have hdigs:∀ (m:Nat) (n:Nat) (bs:List Bool) (acc:List Int),n ≤ 1000000 → ∀ p:Nat,p + m=l1.length → acc.length=p → Ev (fun k=>r21_State.l1 k (n:Int) (p:Int) l0 l1 l2 l3 l4 bs acc) (bs,acc ++ digsL m n):=by
  intro m;induction m with
  | zero =>
   intro n bs acc hn p hp ha;refine Ev.succ ?_;simp only [r21_State.l1];exact Ev.no (by omega) (Ev.is (by simp [digsL]))
  | succ m ih =>
   intro n bs acc hn p hp ha;refine Ev.succ ?_;simp only [r21_State.l1];have e1:wrap64 (Int.tdiv (n:Int) 3)=((n / 3:Nat):Int):=by
    rw [Int.tdiv_eq_ediv_of_nonneg (by omega)];unfold wrap64;omega
   have e2:Int.tmod (n:Int) 3=((n % 3:Nat):Int):=by
    rw [Int.tmod_eq_emod_of_nonneg (by omega)];omega
   rw [e1,e2,wrap_up p (by omega)];refine Ev.yes (by omega) (Ev.yes (by omega) ?_);have h:=ih (n / 3) bs (acc ++ [((n % 3:Nat):Int)]) (by omega) (p + 1) (by omega) (by simp [ha]);rwa [List.append_assoc,List.singleton_append] at h
 have hbits:∀ (m:Nat) (n:Nat) (acc:List Bool),n ≤ 1000000 → ∀ p:Nat,p + m=l0.length → acc.length=p → Ev (fun k=>r21_State.l0 k (n:Int) (p:Int) l0 l1 l2 l3 l4 acc) (acc ++ bitsL m n,digsL l1.length (halfs m n)):=by
  intro m;induction m with
  | zero =>
   intro n acc hn p hp ha;refine Ev.succ ?_;simp only [r21_State.l0];refine Ev.no (by omega) ?_;have h:=hdigs l1.length n acc [] hn 0 (by omega) rfl;simpa [bitsL,halfs] using h
  | succ m ih =>
   intro n acc hn p hp ha;refine Ev.succ ?_;simp only [r21_State.l0];have e1:wrap64 (Int.tdiv (n:Int) 2)=((n / 2:Nat):Int):=by
    rw [Int.tdiv_eq_ediv_of_nonneg (by omega)];unfold wrap64;omega
   have e2:decide (Int.tmod (n:Int) 2 > 0)=(n % 2 == 1):=by
    rw [Int.tmod_eq_emod_of_nonneg (by omega)];by_cases h:n % 2=1
    ·rw [beq_iff_eq.2 h,decide_eq_true (by omega)]
    ·rw [beq_eq_false_iff_ne.2 h,decide_eq_false (by omega)]
   rw [e1,e2,wrap_up p (by omega)];refine Ev.yes (by omega) (Ev.yes (by omega) ?_);have h:=ih (n / 2) (acc ++ [n % 2 == 1]) (by omega) (p + 1) (by omega) (by simp [ha]);rwa [List.append_assoc,List.singleton_append] at h
 unfold r21_State.f stN;have h:=hbits l0.length n [] hn 0 (by omega) rfl;simpa using h
theorem apart21_ev (hd:∀ x ∈ l4,x.f1.length ≤ 4000000000) (hb:∀ x ∈ l4,∀ d ∈ x.f1,-1000 ≤ d.f2∧d.f2 ≤ 1000) (drops:List Bool) (s:Sm) (a b:Int) (h0:s.f0.length ≤ 1000) (h1:s.f1.length ≤ 1000) (hdr:drops.length=s.f0.length) (hs:∀ x ∈ s.f1,-1000000 ≤ x∧x ≤ 1000000) :
  Ev (fun k=>r21_Apart.f k l0 l1 l2 l3 l4 drops s.f0 s.f1 a b) ((apartS l4 drops s a b).f0,(apartS l4 drops s a b).f1):=by
 obtain ⟨f0,f1⟩:=s;simp only at h0 h1 hs hdr ⊢;generalize hI:(fun i:Nat=>apIn (makeN l4 a (i:Int)) (makeN l4 b (i:Int)) (drops.getD i false) (f0.getD i false))=I;generalize hN:(fun i:Nat=>f1.getD i 0 + moreN l4 a (i:Int) + moreN l4 b (i:Int))=Nn;(have e:apartS l4 drops ⟨f0,f1⟩ a b=⟨(List.range f0.length).map I,(List.range f1.length).map Nn⟩:=by unfold apartS;rw [← hI,← hN]);rw [e];simp only;have hcs:Ev (fun k=>r21_Apart.l1 k a b ((0:Nat):Int) l0 l1 l2 l3 l4 f0 f1 ((List.range f0.length).map I) ((List.range 0).map Nn)) ((List.range f0.length).map I,(List.range f1.length).map Nn):=by
  refine Ev.loop (g:=fun k pos=>r21_Apart.l1 k a b (pos:Int) l0 l1 l2 l3 l4 f0 f1 ((List.range f0.length).map I) ((List.range pos).map Nn)) (spec:=fun _=>((List.range f0.length).map I,(List.range f1.length).map Nn)) f1.length ?_ ?_ 0 (by omega)
  ·refine Ev.succ ?_;simp only [r21_Apart.l1];exact Ev.no (by omega) (Ev.now _)
  ·intro pos hp ih;refine Ev.succ ?_;simp only [r21_Apart.l1];(have hrd:rd f1 (pos:Int)=f1.getD pos 0:=by simp [rd]);rw [hrd,wrap_up pos (by omega)];have m1:=moreN_le l4 hb a (pos:Int);have m2:=moreN_le l4 hb b (pos:Int);have m3:=hs _ (getD_at f1 0 pos hp);refine Ev.yes (by omega) (Ev.yes (by omega) (Ev.bind (more20_ev l0 l1 l2 l3 l4 a (pos:Int) hd hb) (Ev.bind (more20_ev l0 l1 l2 l3 l4 b (pos:Int) hd hb) (Ev.yes (by rw [List.length_map,List.length_range];omega) ?_))));have ew:wrap64 (wrap64 (f1.getD pos 0 + moreN l4 a (pos:Int)) + moreN l4 b (pos:Int))=Nn pos:=by
    (have e2:Nn pos=f1.getD pos 0 + moreN l4 a (pos:Int) + moreN l4 b (pos:Int):=by rw [← hN]);rw [e2];unfold wrap64;omega
   rw [ew];rw [List.range_succ,List.map_append] at ih;exact ih
 have hss:Ev (fun k=>r21_Apart.l0 k drops a b ((0:Nat):Int) l0 l1 l2 l3 l4 f0 f1 ((List.range 0).map I)) ((List.range f0.length).map I,(List.range f1.length).map Nn):=by
  refine Ev.loop (g:=fun k pos=>r21_Apart.l0 k drops a b (pos:Int) l0 l1 l2 l3 l4 f0 f1 ((List.range pos).map I)) (spec:=fun _=>((List.range f0.length).map I,(List.range f1.length).map Nn)) f0.length ?_ ?_ 0 (by omega)
  ·refine Ev.succ ?_;simp only [r21_Apart.l0];exact Ev.no (by omega) hcs
  ·intro pos hp ih;(have hIp:I pos=apIn (makeN l4 a (pos:Int)) (makeN l4 b (pos:Int)) (drops.getD pos false) (f0.getD pos false):=by rw [← hI]);(have hl:((List.range pos).map I).length < 140737488355328:=by rw [List.length_map,List.length_range];omega);have ih2:∀ v,v=I pos → Ev (fun k=>r21_Apart.l0 k drops a b ((pos + 1:Nat):Int) l0 l1 l2 l3 l4 f0 f1 ((List.range pos).map I ++ [v])) ((List.range f0.length).map I,(List.range f1.length).map Nn):=by
    rintro v rfl;rw [List.range_succ,List.map_append,List.map_singleton] at ih;exact ih
   clear ih;have x1:=makeL_is (doesO l4 a) (pos:Int);have x2:=makeL_is (doesO l4 b) (pos:Int);have hj:∀ c,c=decide (makeN l4 a (pos:Int)=1 ∨ makeN l4 b (pos:Int)=1) → Ev (fun k=>r21_Apart.j1 k drops a b (pos:Int) (makeN l4 a (pos:Int)) (makeN l4 b (pos:Int)) (rdOf false f0 (pos:Int)) c l0 l1 l2 l3 l4 f0 f1 ((List.range pos).map I)) ((List.range f0.length).map I,(List.range f1.length).map Nn):=by
    rintro c rfl;have hw:=wrap_up pos (by omega);rw [rdOf_at];unfold makeN at hIp ⊢;generalize makeL (doesO l4 a) (pos:Int)=x at *;generalize makeL (doesO l4 b) (pos:Int)=y at *;generalize f0.getD pos false=inn at *;(have hp2:(pos:Int) < (drops.length:Int):=by omega);obtain ⟨dr,hdr⟩:∃ d,drops.getD pos false=d:=⟨_,rfl⟩;rw [hdr] at hIp;rcases x1 with rfl|rfl|rfl <;> rcases x2 with rfl|rfl|rfl <;> cases dr <;> cases inn <;>
     (repeat (first|exact ih2 _ (by rw [hIp];rfl)|(refine Ev.succ ?_;simp only [r21_Apart.j1])|(refine Ev.succ ?_;simp only [r21_Apart.j2,rdOf_at,hdr])|(refine Ev.succ ?_;simp only [r21_Apart.j3,hw])|refine Ev.yes (by first|assumption|decide|omega) ?_|refine Ev.no (by first|decide|omega) ?_))
   refine Ev.succ ?_;simp only [r21_Apart.l0];refine Ev.yes (by omega) (Ev.bind (make20_ev l0 l1 l2 l3 l4 a (pos:Int) hd hb) (Ev.bind (make20_ev l0 l1 l2 l3 l4 b (pos:Int) hd hb) (Ev.yes (by omega) ?_)));by_cases c:makeN l4 a (pos:Int)=1
   ·exact Ev.yes c (hj _ (decide_eq_true (.inl c)).symm)
   ·refine Ev.no c (hj _ ?_);by_cases c2:makeN l4 b (pos:Int)=1
    ·rw [beq_iff_eq.2 c2,decide_eq_true (.inr c2)]
    ·rw [beq_eq_false_iff_ne.2 c2,decide_eq_false (by rintro (h|h) <;> contradiction)]
 unfold r21_Apart.f;simpa using hss
end
end Go.Proofs.YtjbjbeihkoeciaaGreat.X
namespace Go.Proofs.YtjbjbeihkoeciaaGreat.X
open Go.RowKit Go.Proofs.YtjbjbeihkoeciaaGreatW.PrintWords Go.Proofs.YtjbjbeihkoeciaaGreatW.PrintLast Go.Proofs.YtjbjbeihkoeciaaGreatW.PrintMore
def atN (l0 l1 l2:List ByteArray) (l3:List Cl) (l4:List Op_) (drops:List Bool) (a b cl:Int):Int:=match findN l0 l1 l2 l3 l4 drops a b cl with|some n=>(n:Int)|none=>-1
theorem many_parts {l0 l1 l2:List ByteArray} {l3:List Cl} {l4:List Op_} (h:manyN l0 l1 l2 l3 l4 ≠ 0):checkB l0 l1 l2 l3 l4=true∧l0.length ≤ 4∧l1.length ≤ 3:=by
 unfold manyN at h;split at h
 ·rename_i h2;exact h2
 ·exact absurd rfl h
theorem at21_ev (l0 l1 l2:List ByteArray) (l3:List Cl) (l4:List Op_) (hru:RuOk l0 l1 l2 l3 l4) (drops:List Bool) (hdl:drops.length=l0.length) (a b cl:Int) (h0:0 ≤ cl) (h1:cl < (l3.length:Int)) :
  Ev (fun k=>r21_At.f k l0 l1 l2 l3 l4 drops a b cl) (atN l0 l1 l2 l3 l4 drops a b cl):=by
 have hmany:=many21_ev l0 l1 l2 l3 l4 hru.1 (fun o ho=>(hru.2.1 o ho).1);have hle:=many_le l0 l1 l2 l3 l4;unfold r21_At.f;have hspec:atN l0 l1 l2 l3 l4 drops a b cl=(match (List.range' 0 (manyN l0 l1 l2 l3 l4 - 0)).find? (fun n=>clashN l3 l4 drops a b cl (stN l0.length l1.length n)) with|some n=>(n:Int)|none=>-1):=by
  unfold atN findN;rw [List.range_eq_range',Nat.sub_zero]
 rw [hspec];refine Ev.loop (g:=fun k pos=>r21_At.l0 k drops a b cl (pos:Int) l0 l1 l2 l3 l4) (spec:=fun pos=>(match (List.range' pos (manyN l0 l1 l2 l3 l4 - pos)).find? (fun n=>clashN l3 l4 drops a b cl (stN l0.length l1.length n)) with|some n=>(n:Int)|none=>-1)) (manyN l0 l1 l2 l3 l4) ?_ ?_ 0 (by omega)
 ·refine Ev.succ ?_;simp only [r21_At.l0,Nat.sub_self];exact Ev.bind hmany (Ev.no (by omega) (Ev.now _))
 ·intro n hn ih;obtain ⟨hck,q0,q1⟩:=many_parts (l0:=l0) (l1:=l1) (l2:=l2) (l3:=l3) (l4:=l4) (by omega);have hpt:=checkB_parts hck;have hd1:=dlen l0 l1 l2 l3 l4 hck;have hd2:=dle l0 l1 l2 l3 l4 hck;have hl3:l3.length ≤ 1000:=by
   have hck2:=hck;unfold checkB at hck2;by_cases h:12 < l3.length
   ·exfalso;revert hck2;(repeat' split);all_goals first|(intro hx;cases hx;done)|omega
   ·omega
  have hs0:(stN l0.length l1.length n).f0.length=l0.length:=bitsL_len _ _;have hs1:(stN l0.length l1.length n).f1.length=l1.length:=digsL_len _ _;(have hsd:∀ x ∈ (stN l0.length l1.length n).f1,-1000000 ≤ x∧x ≤ 1000000:=fun x hx=>by have:=digsL_le _ _ x hx;omega);(have hcl:∀ c ∈ l3,clB (stN l0.length l1.length n).f0.length (stN l0.length l1.length n).f1.length c=true:=by rw [hs0,hs1];exact hpt.2.1);(have hcb:∀ c ∈ l3,-1000 ≤ c.f4∧c.f4 ≤ 1000:=fun c hc=>clB_le (hpt.2.1 c hc));have hal:=apartS_len l4 drops (stN l0.length l1.length n) a b;(have hfree:=fun o=>free21_ev l0 l1 l2 l3 l4 hl3 ⟨hd1,hd2⟩ hcb (stN l0.length l1.length n) (by omega) (by omega) hcl o);have hwide:=wide21_ev l0 l1 l2 l3 l4 (stN l0.length l1.length n) hs0 hs1 (by omega) (by omega);have hwide2:=wide21_ev l0 l1 l2 l3 l4 (apartS l4 drops (stN l0.length l1.length n) a b) (by omega) (by omega) (by omega) (by omega);have hm:=getD_at l3 z85 cl.toNat (by omega);have hho:=holds19_ev (wS (apartS l4 drops (stN l0.length l1.length n) a b).f0) (wC (apartS l4 drops (stN l0.length l1.length n) a b).f1) (wide_ok _ (by omega) (by omega)) (by rw [wS_len];omega) (by rw [wC_len];omega) (wS_small _) (wC_small _) (numOk_wC _) _ (by rw [wS_len,wC_len,hal.1,hal.2,hs0,hs1];exact hpt.2.1 _ hm);have hst:=state21_ev l0 l1 l2 l3 l4 (by omega) (by omega) n (by omega);have hap:=apart21_ev l0 l1 l2 l3 l4 hd1 hd2 drops (stN l0.length l1.length n) a b (by omega) (by omega) (by omega) hsd;rw [show manyN l0 l1 l2 l3 l4 - n=(manyN l0 l1 l2 l3 l4 - (n + 1)) + 1 by omega,List.range'_succ,List.find?_cons];refine Ev.succ ?_;simp only [r21_At.l0];rw [wrap_up n (by omega)];refine Ev.bind hmany (Ev.yes (by omega) (Ev.bind hst (Ev.bind hwide (Ev.bind (hfree a) ?_))));unfold clashN;cases freeN l3 l4 (stN l0.length l1.length n) a
  ·exact Ev.no (by decide) ih
  refine Ev.yes rfl (Ev.bind (hfree b) ?_);cases freeN l3 l4 (stN l0.length l1.length n) b
  ·exact Ev.no (by decide) ih
  refine Ev.yes rfl (Ev.bind hap (Ev.bind hwide2 (Ev.yes h0 (Ev.yes h1 (Ev.bind hho ?_)))));rw [show rd_T85 l3 cl=l3.getD cl.toNat z85 from rfl];cases holdsB (wS (apartS l4 drops (stN l0.length l1.length n) a b).f0) (wC (apartS l4 drops (stN l0.length l1.length n) a b).f1) (l3.getD cl.toNat z85)
  ·exact Ev.no (by decide) (Ev.now _)
  ·exact Ev.yes rfl ih
theorem atN_pos (l0 l1 l2:List ByteArray) (l3:List Cl) (l4:List Op_) (drops:List Bool) (a b cl:Int):decide (atN l0 l1 l2 l3 l4 drops a b cl ≥ 0)=(findN l0 l1 l2 l3 l4 drops a b cl).isSome:=by
 unfold atN;cases findN l0 l1 l2 l3 l4 drops a b cl with
 | none=>rfl
 | some n=>exact decide_eq_true (by show (0:Int) ≤ (n:Int);omega)
theorem clF_len (l0 l1 l2:List ByteArray) (l3:List Cl) (l4:List Op_) (drops:List Bool) (a b i:Nat):(clF l0 l1 l2 l3 l4 drops a b i).length ≤ 1:=by
 unfold clF;split <;> simp
theorem all21_ev (l0 l1 l2:List ByteArray) (l3:List Cl) (l4:List Op_) (hru:RuOk l0 l1 l2 l3 l4) (drops:List Bool) (hdl:drops.length=l0.length) (hm3:l3.length ≤ 1000) (hm4:l4.length ≤ 1000) :
  Ev (fun k=>r21_All.f k l0 l1 l2 l3 l4 drops) (allL (clF l0 l1 l2 l3 l4 drops) l4.length l3.length l4.length):=by
 unfold r21_All.f;obtain ⟨F,hF⟩:∃ F,F=clF l0 l1 l2 l3 l4 drops:=⟨_,rfl⟩;(have hF1:∀ a b i,(F a b i).length ≤ 1:=by rw [hF];exact clF_len l0 l1 l2 l3 l4 drops);obtain ⟨R,hR⟩:∃ R,R=allL F l4.length l3.length l4.length:=⟨_,rfl⟩;have hout:∀ a,a ≤ l4.length → Ev (fun k=>r21_All.l0 k drops (allL F l4.length l3.length a) (a:Int) l0 l1 l2 l3 l4) R:=by
  refine Ev.loop (g:=fun k a=>r21_All.l0 k drops (allL F l4.length l3.length a) (a:Int) l0 l1 l2 l3 l4) (spec:=fun _=>R) l4.length ?_ ?_
  ·refine Ev.succ ?_;simp only [r21_All.l0];exact Ev.no (by omega) (Ev.is hR.symm)
  ·intro a ha ih;refine Ev.succ ?_;simp only [r21_All.l0];refine Ev.yes (by omega) ?_;rw [allL_next] at ih;have hmid:∀ q,q ≤ l4.length - a → Ev (fun k=>r21_All.l1 k drops (allL F l4.length l3.length a ++ allP F l3.length a q) (a:Int) ((a + q:Nat):Int) l0 l1 l2 l3 l4) R:=by
    refine Ev.loop (g:=fun k q=>r21_All.l1 k drops (allL F l4.length l3.length a ++ allP F l3.length a q) (a:Int) ((a + q:Nat):Int) l0 l1 l2 l3 l4) (spec:=fun _=>R) (l4.length - a) ?_ ?_
    ·refine Ev.succ ?_;simp only [r21_All.l1];rw [wrap_up a (by omega)];exact Ev.no (by omega) ih
    ·intro q hq ih2;refine Ev.succ ?_;simp only [r21_All.l1];refine Ev.yes (by omega) ?_;rw [allP_next,← List.append_assoc] at ih2;have hin:∀ i,i ≤ l3.length → Ev (fun k=>r21_All.l2 k drops (allL F l4.length l3.length a ++ allP F l3.length a q ++ allQ F a (a + q) i) (a:Int) ((a + q:Nat):Int) (i:Int) l0 l1 l2 l3 l4) R:=by
      refine Ev.loop (g:=fun k i=>r21_All.l2 k drops (allL F l4.length l3.length a ++ allP F l3.length a q ++ allQ F a (a + q) i) (a:Int) ((a + q:Nat):Int) (i:Int) l0 l1 l2 l3 l4) (spec:=fun _=>R) l3.length ?_ ?_
      ·refine Ev.succ ?_;simp only [r21_All.l2];rw [wrap_up (a + q) (by omega)];exact Ev.no (by omega) ih2
      ·intro i hi ih3;refine Ev.succ ?_;simp only [r21_All.l2,rdCl_at];rw [wrap_up i (by omega)];rw [allQ_next,← List.append_assoc] at ih3;have hlen:=all_len F hF1 l4.length l3.length a q a (a + q) i (by omega) (by omega) (by omega) (by omega) (by omega);refine Ev.yes (by omega) (Ev.yes (by omega) ?_);(have hFi:F a (a + q) i=if (l3.getD i z85).f1=true∧fdN l0 l1 l2 l3 l4 drops a (a + q) i=true then [⟨(a:Int),((a + q:Nat):Int),(i:Int)⟩] else []:=by rw [hF];rfl);by_cases hs:(l3.getD i z85).f1=true
       ·refine Ev.yes hs (Ev.bind (at21_ev l0 l1 l2 l3 l4 hru drops hdl (a:Int) ((a + q:Nat):Int) (i:Int) (by omega) (by omega)) ?_);have hp:=atN_pos l0 l1 l2 l3 l4 drops (a:Int) ((a + q:Nat):Int) (i:Int);by_cases hf:fdN l0 l1 l2 l3 l4 drops a (a + q) i=true
        ·rw [hFi,if_pos ⟨hs,hf⟩] at ih3;unfold fdN at hf;rw [hf] at hp;exact Ev.yes (of_decide_eq_true hp) (Ev.yes (by omega) ih3)
        ·rw [hFi,if_neg (fun h=>hf h.2),List.append_nil] at ih3;have hf2:(findN l0 l1 l2 l3 l4 drops (a:Int) ((a + q:Nat):Int) (i:Int)).isSome=false:=by
          unfold fdN at hf;simpa using hf
         rw [hf2] at hp;exact Ev.no (of_decide_eq_false hp) ih3
       ·rw [hFi,if_neg (fun h=>hs h.1),List.append_nil] at ih3;exact Ev.no hs ih3
     have h4:=hin 0 (by omega);rw [show allQ F a (a + q) 0 = [] from rfl,List.append_nil] at h4;exact h4
   have h5:=hmid 0 (by omega);rw [show allP F l3.length a 0 = [] from rfl,List.append_nil] at h5;exact h5
 have h6:=hout 0 (by omega);rw [hR] at h6;rw [← hF];exact h6
theorem clashes_ev (L:List Cs) (hl:L.length ≤ 4000000000):Ev (fun k=>r21_Clashes.f k L L) true:=by
 unfold r21_Clashes.f;refine Ev.yes rfl (Ev.loop (g:=fun k pos=>r21_Clashes.l0 k L L (pos:Int)) (spec:=fun _=>true) L.length ?_ ?_ 0 (by omega))
 ·refine Ev.succ ?_;simp only [r21_Clashes.l0];exact Ev.no (by omega) (Ev.now _)
 ·intro pos hp ih;refine Ev.succ ?_;simp only [r21_Clashes.l0];rw [wrap_up pos (by omega)];exact Ev.yes (by omega) (Ev.yes (by omega) (Ev.yes (by omega) (Ev.no (by simp) ih)))
def light21 (l0 l1 l2:List ByteArray) (l3:List Cl) (l4:List Op_) (drops:List Bool):Bool:=lightB l0 l1 l2 l3 l4 && decide (drops.length ≤ 20∧l0.length ≤ 4∧l1.length ≤ 2∧l4.length ≤ 5)
theorem light21_ev (l0 l1 l2:List ByteArray) (l3:List Cl) (l4:List Op_) (drops:List Bool):Ev (fun k=>q21_light.f k l0 l1 l2 l3 l4 drops) (light21 l0 l1 l2 l3 l4 drops):=by
 unfold q21_light.f light21;refine Ev.bind (light_ev l0 l1 l2 l3 l4) ?_;cases lightB l0 l1 l2 l3 l4
 ·exact Ev.no (by decide) (Ev.is rfl)
 refine Ev.yes rfl ?_;rw [Bool.true_and];by_cases h1:drops.length ≤ 20
 ·refine Ev.yes (by omega) ?_;by_cases h2:l0.length ≤ 4
  ·refine Ev.yes (by omega) ?_;by_cases h3:l1.length ≤ 2
   ·refine Ev.yes (by omega) (Ev.is (decide_eq_decide.2 ?_));exact ⟨fun h=>⟨h1,h2,h3,by omega⟩,fun h=>by omega⟩
   ·exact Ev.no (by omega) (Ev.is (decide_eq_false (fun h=>h3 h.2.2.1)).symm)
  ·exact Ev.no (by omega) (Ev.is (decide_eq_false (fun h=>h2 h.2.1)).symm)
 ·exact Ev.no (by omega) (Ev.is (decide_eq_false (fun h=>h1 h.1)).symm)
theorem light21_ok {l0 l1 l2:List ByteArray} {l3:List Cl} {l4:List Op_} {drops:List Bool} (h:light21 l0 l1 l2 l3 l4 drops=true):lightB l0 l1 l2 l3 l4=true∧drops.length ≤ 20∧l0.length ≤ 4∧l1.length ≤ 2∧l4.length ≤ 5:=by
 unfold light21 at h;rw [Bool.and_eq_true] at h;exact ⟨h.1,of_decide_eq_true h.2⟩
end Go.Proofs.YtjbjbeihkoeciaaGreat.X
namespace Go.Proofs.YtjbjbeihkoeciaaGreat.Pure
open Go.RowKit Go.Proofs.YtjbjbeihkoeciaaGreat.X Go.Proofs.YtjbjbeihkoeciaaGreatW.PrintWords Go.Proofs.YtjbjbeihkoeciaaGreatW.PrintLast Go.Proofs.YtjbjbeihkoeciaaGreatW.PrintMore
theorem fin21:Ev (fun k=>(q21_awake.f).bind fun t=>some t) true:=Ev.bind1 rfl (Ev.now _)
theorem PairsAll (l0 l1 l2:List ByteArray) (l3:List Cl) (l4:List Op_) (g0:∀ s ∈ l0,goodStr s) (g1:∀ s ∈ l1,goodStr s) (g2:∀ s ∈ l2,goodStr s) (g3:∀ c ∈ l3,goodCl c) (g4:∀ o ∈ l4,goodOp o)
  (drops:List Bool):∃ k,q21_PairsAll.f k l0 l1 l2 l3 l4 drops=some true:=by
 refine Ev.rounds (g:=fun k=>q21_PairsAll.f k l0 l1 l2 l3 l4 drops) ?_;unfold q21_PairsAll.f;refine Ev.bind (light21_ev l0 l1 l2 l3 l4 drops) ?_;cases hl:light21 l0 l1 l2 l3 l4 drops
 ·exact Ev.no (by decide) fin21
 refine Ev.yes rfl ?_;have hru:=ruOk_of g0 g1 g2 g3 g4 (light21_ok hl).1;(have hd:∀ o ∈ l4,o.f1.length ≤ 4000000000:=fun o ho=>(hru.2.1 o ho).1);obtain ⟨b0,b1,b2,b3,b4,_,_⟩:=lightB_ok (light21_ok hl).1;refine Ev.bind1 (show pairs_All.f l0 l1 l2 l3 l4 drops=some _ from if_pos hru) (Ev.bind (many21_ev l0 l1 l2 l3 l4 hru.1 hd) ?_);by_cases hno:manyN l0 l1 l2 l3 l4=0 ∨ drops.length ≠ l0.length
 ·have hR:allR l0 l1 l2 l3 l4 drops = []:=if_pos hno;rw [hR];have hj:∀ x,x=true → Ev (fun k=>q21_PairsAll.j0 k drops [] x l0 l1 l2 l3 l4) true:=by
   rintro x rfl;refine Ev.succ ?_;simp only [q21_PairsAll.j0];exact Ev.yes (by first|trivial|rfl) (Ev.yes rfl fin21)
  by_cases e0:manyN l0 l1 l2 l3 l4=0
  ·exact Ev.yes (by omega) (hj _ rfl)
  ·refine Ev.no (by omega) (hj _ ?_);rcases hno with h|h
   ·exact absurd h e0
   ·exact bne_iff_ne.2 (by omega)
 ·(have e0:manyN l0 l1 l2 l3 l4 ≠ 0:=fun h=>hno (.inl h));(have e1:drops.length=l0.length:=Classical.byContradiction fun h=>hno (.inr h));have hR:allR l0 l1 l2 l3 l4 drops=allL (clF l0 l1 l2 l3 l4 drops) l4.length l3.length l4.length:=if_neg hno;refine Ev.no (by omega) (Ev.succ ?_);simp only [q21_PairsAll.j0];refine Ev.no (by rw [e1];simp) (Ev.bind (all21_ev l0 l1 l2 l3 l4 hru drops e1 (by omega) (by omega)) ?_);rw [hR];have hlen:=all_len (clF l0 l1 l2 l3 l4 drops) (clF_len l0 l1 l2 l3 l4 drops) l4.length l3.length l4.length 0 0 0 0 (by omega) (by omega) (by omega) (by omega) (by omega);rw [List.length_append,List.length_append] at hlen;exact Ev.bind (clashes_ev _ (by omega)) (Ev.yes rfl fin21)
end Go.Proofs.YtjbjbeihkoeciaaGreat.Pure
namespace Go.Proofs.YtjbjbeihkoeciaaGreat.X
open Go.RowKit Go.Proofs.YtjbjbeihkoeciaaGreatW.PrintWords Go.ChangeShapes Go.WideShapes Go.Deep
section
variable {H:Type} {enc:TypeId × Value → H} {w:World} {spare:Nat → Bool} {held:Bool}
theorem openBool (n:Nat) (cs:List Value) (x:DataW H × List MemPlace) (h:DataW.trod enc Tryz.prog w 0 spare held n 4 cs=some x):∃ z:Bool,Kd.bool.K w z cs∧True:=by
 obtain ⟨s,rfl,_⟩:=DataW.trod_bool Tryz.underlying4 h;exact ⟨s,rfl,trivial⟩
theorem openBools (n:Nat) (cs:List Value) (x:DataW H × List MemPlace) (h:DataW.trod enc Tryz.prog w 0 spare held n 27 cs=some x) :
  ∃ (zs:List Bool) (A:Option Addr) (c:Nat),cs = [.slice A zs.length c]∧zs.length ≤ c∧Kd.C Kd.bool w A zs.length zs∧∀ z ∈ zs,True:=open_rowK Kd.bool (fun _=>True) (by kernel_rfl) Tryz.underlying27 openBool n cs x h
end
end Go.Proofs.YtjbjbeihkoeciaaGreat.X
namespace Go.Proofs.YtjbjbeihkoeciaaGreat.pairsAll
open Go.ChangeShapes Go.WideShapes Go.ChangeAt Go.RowKit Go.Proofs.YtjbjbeihkoeciaaGreatW.PrintWords
open Go.ChangeMaps (open_string shut_string)
theorem own:ownKnob Tryz.prog.godebug=none:=by kernel_rfl
theorem laidOut:laidOutB Tryz.prog=true:=by kernel_rfl
theorem lifted (os:Os) (started:os.Started) (H:Type) (enc:TypeId × Value → H) :
  ReturnsInHanded {} Tryz.checked os 4 .any (Rows.pairsAllSpec.pre6 enc Tryz.prog Tryz.f4 Rows.pairsAllRow.domain false) (Rows.pairsAllSpec.post enc Tryz.prog Tryz.f4 false true false false):=by
 refine returnsInHanded_of_change_sized (C:=Tryz.checked) own started (by kernel_rfl) Tryz.func4
  (ChangeSpec.witness6 (enc:=enc) (C:=Tryz.checked) false ⟨#[],#[.agg #[.slice none 0 0,.slice none 0 0,.slice none 0 0,.slice none 0 0,.slice none 0 0],.slice none 0 0],[]⟩ 8 (by kernel_rfl) (by kernel_rfl) (by kernel_rfl) (by kernel_rfl)) ?_
 intro W base args ds gs before hval0 hW hcnd hsz0 _;have hsz:(DataW.weightsEach Tryz.prog (Tryz.f4.params.toList ++ Rows.pairsAllSpec.plain.varTypes Tryz.prog) (ds ++ gs)).all (· ≤ reachBytes)=true:=hsz0;have hval:∀ (j:Nat) t v,Tryz.f4.params[j]? = some t → args[j]? = some v → Value.okWide Tryz.prog W .any base t v:=hval0;have hW':=hW;obtain ⟨p,q,hA0,hV,rfl,hfz,hnd⟩:=hW;have hA:DataW.TrodAll enc Tryz.prog W 0 (fun _=>true) true Tryz.f4.params.toList args.toList ds p:=hA0;rw [Tryz.params4] at hA hval hsz;obtain ⟨v0,vs0,d0,ds0,p0,q0,hargs,rfl,rfl,h0,r0⟩:=trodAll_cons hA;obtain ⟨v1,vs1,d1,ds1,p1,q1,rfl,rfl,rfl,h1,r1⟩:=trodAll_cons r0;obtain ⟨rfl,rfl,rfl⟩:=trodAll_nil r1;(obtain rfl:args = #[v0,v1]:=by cases args;simp_all);obtain ⟨rfl,rfl⟩:=trodVars_none hV;have k0:=h0;(have lt0:∀ x ∈ p0,x.block < W.heap.size:=by obtain ⟨m,hm⟩:=k0;exact DataW.trod_lt m _ _ _ hm);obtain ⟨cs0,rfl,_⟩:=okWide_struct Tryz.underlying26 (hval 0 26 v0 rfl rfl);obtain ⟨fuel0,hf0⟩:=h0;obtain ⟨l00,l01,l02,l03,l04,A0_0,A0_1,A0_2,A0_3,A0_4,c0_0,c0_1,c0_2,c0_3,c0_4,g0,C0_0,le0_0,C0_1,le0_1,C0_2,le0_2,C0_3,le0_3,C0_4,le0_4,ok0_0,ok0_1,ok0_2,ok0_3,ok0_4⟩:=X.openRules fuel0 _ _ hf0;replace g0:cs0.toList = [.slice A0_0 l00.length c0_0,.slice A0_1 l01.length c0_1,.slice A0_2 l02.length c0_2,.slice A0_3 l03.length c0_3,.slice A0_4 l04.length c0_4]:=g0;(obtain rfl:cs0 = #[.slice A0_0 l00.length c0_0,.slice A0_1 l01.length c0_1,.slice A0_2 l02.length c0_2,.slice A0_3 l03.length c0_3,.slice A0_4 l04.length c0_4]:=by rw [← Array.toArray_toList (xs:=cs0),g0]);obtain ⟨a1,len1,cap1,rfl⟩:=okWide_slice Tryz.underlying27 (hval 1 27 v1 rfl rfl);have k1:=h1;(have lt1:∀ x ∈ p1,x.block < W.heap.size:=by obtain ⟨m,hm⟩:=k1;exact DataW.trod_lt m _ _ _ hm);obtain ⟨fuel1,hf1⟩:=h1;obtain ⟨z1,A1,c1,g1,le1,C1,_⟩:=X.openBools fuel1 _ _ hf1;replace g1:[Value.slice a1 len1 cap1] = [.slice A1 z1.length c1]:=g1;(obtain ⟨rfl,rfl,rfl⟩:a1=A1∧len1=z1.length∧cap1=c1:=by injection g1 with g1;injection g1 with x y z;exact ⟨x,y,z⟩);clear hA0 hval0 hsz0 hsz;obtain ⟨kk,hk⟩:=Pure.PairsAll l00 l01 l02 l03 l04 ok0_0 ok0_1 ok0_2 ok0_3 ok0_4 z1;(refine (X.q21_PairsAll.calls kk A0_0 c0_0 l00 A0_1 c0_1 l01 A0_2 c0_2 l02 A0_3 c0_3 l03 A0_4 c0_4 l04 a1 cap1 z1 true W C0_0 le0_0 C0_1 le0_1 C0_2 le0_2 C0_3 le0_3 C0_4 le0_4 C1 le1 hk rfl).mono fun e W' ⟨he,bel⟩=>?_);subst he;exact ⟨_,rfl,_,_,_,[],_,[],hW',trodAll_mk1 (shut_bool Tryz.underlying4 _),(trodAll_cons_mk (Below.trod laidOut (by kernel_rfl) (of_decide_eq_true (by kernel_rfl)) k0 bel lt0) (trodAll_cons_mk (Below.trod laidOut (by kernel_rfl) (of_decide_eq_true (by kernel_rfl)) k1 bel lt1) trodAll_mk0)),rfl,bel.frame _,fun h=>by cases h⟩
theorem over:Rows.pairsAllRow.holds Tryz.pinned (OpenSpec.ofChange Rows.pairsAllSpec) :=
 OpenClaim.holds_of_wide 4 Tryz.f4 rfl rfl rfl rfl rfl rfl rfl ⟨rfl,rfl,rfl,rfl,rfl⟩ rfl rfl rfl rfl rfl (by kernel_rfl) Tryz.func4 (by kernel_rfl)
  (of_decide_eq_true (by kernel_rfl)) (by unfold Func.isWrapper;first|(rw [if_pos (by decide +kernel)];kernel_rfl)|(rw [if_neg (by decide +kernel)];exact ⟨rfl,rfl⟩))
  (fun os started H enc _=>lifted os started H enc)
theorem proved:Rows.PairsAllSaid:=over
#print axioms proved
end Go.Proofs.YtjbjbeihkoeciaaGreat.pairsAll
namespace Go.Proofs.YtjbjbeihkoeciaaGreat
theorem pairsAll_holds:Rows.PairsAllSaid:=pairsAll.proved
end Go.Proofs.YtjbjbeihkoeciaaGreat

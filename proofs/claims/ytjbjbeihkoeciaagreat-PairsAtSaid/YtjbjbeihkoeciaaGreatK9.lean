/- Joined texts of this session, without what nothing needs: Xhucksterlaw21PairsAt, RefA, RefB, RefW, Open0, OpenRules, Same21, PsP, RefC, Light21, PurePairsAt, Open21, LawPairsAt. -/
import Derived.Deep.Slices
import Derived.Deep.Fields
import Derived.ChangeArms
import Derived.DataReads
import Derived.OpenShut
import Derived.Test.YtjbjbeihkoeciaaGreatRows
import Derived.WalkKit
import Derived.ProofKit
import Derived.ShutString
import Derived.ChangeOld
import Derived.Below
import Derived.SizedLaws
import Derived.Lib.SmallJoins
import Derived.ChangeSlices
import Derived.Test.YtjbjbeihkoeciaaGreatK1
import Derived.Test.YtjbjbeihkoeciaaGreatK2
import Derived.Test.YtjbjbeihkoeciaaGreatK3
import Derived.Test.YtjbjbeihkoeciaaGreatK6
import Derived.Test.YtjbjbeihkoeciaaGreatK7
import Derived.Test.YtjbjbeihkoeciaaGreatK8
set_option maxHeartbeats 8000000
set_option maxRecDepth 100000
set_option linter.unusedVariables false
set_option linter.unusedSimpArgs false
namespace Go.Proofs.YtjbjbeihkoeciaaGreat.X
open Go.RowKit Go.Proofs.YtjbjbeihkoeciaaGreatW.PrintWords Go.Proofs.YtjbjbeihkoeciaaGreatW.PrintLast Go.Proofs.YtjbjbeihkoeciaaGreatW.PrintMore
section
attribute [local go_sem] max2_int min2_int max_two min_two max_three min_three max_four min_four
def q21_PairsAt.j0:Nat → List Bool → Bool → Bool → List ByteArray → List ByteArray → List ByteArray → List (S85) → List (S89) → Int → Int → Int → Int → List Bool → List Int → Option (Bool)
 | 0,_,_,_,_,_,_,_,_,_,_,_,_,_,_=>none
 | k + 1,x1,x8,x76,Xfj,Xfk,Xfl,Xfm,Xfn,Xfo,Xfp,Xfq,Xfr,Xfs,Xft=>if x76=true then (if x8=true then (some false) else ((r21_Same.f k Xfs Xft ([]:List Bool) ([]:List Int)).bind fun t352=>(if t352=true then ((q21_awake.f).bind fun t353=>(some t353)) else (some false)))) else ((r21_At.f k Xfj Xfk Xfl Xfm Xfn x1 Xfp Xfq Xfr).bind fun t354=>(if t354 < 0 then (if x8=true then (some false) else ((r21_Same.f k Xfs Xft ([]:List Bool) ([]:List Int)).bind fun t355=>(if t355=true then ((q21_awake.f).bind fun t356=>(some t356)) else (some false)))) else (if x8=true then ((r21_State.f k Xfj Xfk Xfl Xfm Xfn t354).bind fun bt357=>((r21_Same.f k Xfs Xft bt357.1 bt357.2).bind fun t363=>(if t363=true then ((q21_awake.f).bind fun t364=>(some t364)) else (some false)))) else (some false))))
def q21_PairsAt.f (k:Nat) (l00:List ByteArray) (l01:List ByteArray) (l02:List ByteArray) (l03:List (S85)) (l04:List (S89)) (l1:List Bool) (a2_0:Int) (a2_1:Int) (a2_2:Int) (a2_3:Int):Option (Bool):=(q21_light.f k l00 l01 l02 l03 l04 l1).bind fun t341=>(if t341=true then ((pairs_At.f l00 l01 l02 l03 l04 l1 a2_1 a2_2 a2_3).bind fun bt343=>((r21_Many.f k l00 l01 l02 l03 l04).bind fun t351=>(if t351=0 then (q21_PairsAt.j0 k l1 bt343.2.2 true l00 l01 l02 l03 l04 a2_0 a2_1 a2_2 a2_3 bt343.1 bt343.2.1) else (if (l1.length:Int)=(l00.length:Int) then (if a2_1 < 0 then (q21_PairsAt.j0 k l1 bt343.2.2 true l00 l01 l02 l03 l04 a2_0 a2_1 a2_2 a2_3 bt343.1 bt343.2.1) else (if a2_2 < 0 then (q21_PairsAt.j0 k l1 bt343.2.2 true l00 l01 l02 l03 l04 a2_0 a2_1 a2_2 a2_3 bt343.1 bt343.2.1) else (if a2_3 < 0 then (q21_PairsAt.j0 k l1 bt343.2.2 true l00 l01 l02 l03 l04 a2_0 a2_1 a2_2 a2_3 bt343.1 bt343.2.1) else (if a2_1 ≥ (l04.length:Int) then (q21_PairsAt.j0 k l1 bt343.2.2 true l00 l01 l02 l03 l04 a2_0 a2_1 a2_2 a2_3 bt343.1 bt343.2.1) else (if a2_2 ≥ (l04.length:Int) then (q21_PairsAt.j0 k l1 bt343.2.2 true l00 l01 l02 l03 l04 a2_0 a2_1 a2_2 a2_3 bt343.1 bt343.2.1) else (q21_PairsAt.j0 k l1 bt343.2.2 (decide (a2_3 ≥ (l03.length:Int))) l00 l01 l02 l03 l04 a2_0 a2_1 a2_2 a2_3 bt343.1 bt343.2.1)))))) else (q21_PairsAt.j0 k l1 bt343.2.2 true l00 l01 l02 l03 l04 a2_0 a2_1 a2_2 a2_3 bt343.1 bt343.2.1))))) else ((q21_awake.f).bind fun t342=>(some t342)))
def q21_PairsAt.T9:Bool × List (List Nat × List Nat):=(true,[([],[]),([0],[0]),([1],[1]),([1],[1]),([1],[1]),([3,4,1,1],[1,3,4]),([2,5,5,1],[1,2,5]),([1,6],[1,6]),([7,6],[7]),([8,8],[8]),([8,9],[8,9]),([10,9,0,1,2,3,4,5,6,7,8,9,10],[10])])
def q21_PairsAt.B9:List Nat:=[0,1,3,3,3,27,63,127,255,511,1023,2047]
theorem q21_PairsAt.tab9:rtab .any (opsOf Tryz.f3 9)=q21_PairsAt.T9:=by kernel_rfl
theorem q21_PairsAt.bits9:waitsOk q21_PairsAt.T9.2 q21_PairsAt.B9=true:=by kernel_rfl
theorem q21_PairsAt.calls (k:Nat) (A0_0:Option Addr) (c0_0:Nat) (l00:List ByteArray) (A0_1:Option Addr) (c0_1:Nat) (l01:List ByteArray) (A0_2:Option Addr) (c0_2:Nat) (l02:List ByteArray) (A0_3:Option Addr) (c0_3:Nat) (l03:List (S85)) (A0_4:Option Addr) (c0_4:Nat) (l04:List (S89)) (A1:Option Addr) (c1:Nat) (l1:List Bool) (a2_0:Int) (a2_1:Int) (a2_2:Int) (a2_3:Int) (r:Bool) (w:World) (hr00:Kd.C Kd.string w A0_0 l00.length l00) (hc00:l00.length ≤ c0_0) (hr01:Kd.C Kd.string w A0_1 l01.length l01) (hc01:l01.length ≤ c0_1) (hr02:Kd.C Kd.string w A0_2 l02.length l02) (hc02:l02.length ≤ c0_2) (hr03:Kd.C k85 w A0_3 l03.length l03) (hc03:l03.length ≤ c0_3) (hr04:Kd.C k89 w A0_4 l04.length l04) (hc04:l04.length ≤ c0_4) (hr1:Kd.C Kd.bool w A1 l1.length l1) (hc1:l1.length ≤ c1) (h:q21_PairsAt.f k l00 l01 l02 l03 l04 l1 a2_0 a2_1 a2_2 a2_3=some r) (hrt:r=true) :
  Calls Tryz.prog 3 #[.agg #[.slice A0_0 l00.length c0_0,.slice A0_1 l01.length c0_1,.slice A0_2 l02.length c0_2,.slice A0_3 l03.length c0_3,.slice A0_4 l04.length c0_4],.slice A1 l1.length c1,.agg #[.int .i64 a2_0,.int .i64 a2_1,.int .i64 a2_2,.int .i64 a2_3]] w fun e w'=>e = .returned (.bool r)∧Below w.heap.size w w':=by
 have HRT:=Sd.mk hrt;clear hrt;have hu26:=Tryz.underlying26;have hu29:=Tryz.underlying29;have hu34:=Tryz.underlying34;have HR00:=Sd.mk hr00;have J00:=Sd.mk hc00;clear hr00 hc00;have HR01:=Sd.mk hr01;have J01:=Sd.mk hc01;clear hr01 hc01;have HR02:=Sd.mk hr02;have J02:=Sd.mk hc02;clear hr02 hc02;have HR03:=Sd.mk hr03;have J03:=Sd.mk hc03;clear hr03 hc03;have HR04:=Sd.mk hr04;have J04:=Sd.mk hc04;clear hr04 hc04;have HR1:=Sd.mk hr1;have HC1:=Sd.mk hc1;clear hr1 hc1;have HB:=Sd.mk (Below.refl w.heap.size w);have H:=h;clear h;unfold q21_PairsAt.f at H;obtain ⟨t341,A4,H⟩:=oB H;have HC5:=Sd.mk H;clear H;go_enter Tryz.func3,Tryz.ntmps3;go_upto_if 13 with (first|((with_reducible refine gate_dst (N:=3) rfl ?_);(try (refine gate_guard (by rfl) ?_;dsimp only));refine uY 3 (cs:=#[.slice A0_0 l00.length c0_0,.slice A0_1 l01.length c0_1,.slice A0_2 l02.length c0_2,.slice A0_3 l03.length c0_3,.slice A0_4 l04.length c0_4]) (t:=26) fun gb339 hg w6 BK339 hb GE339 HB=>?_;clear hb hg)|((with_reducible refine gate_dst (N:=5) rfl ?_);(try (refine gate_guard (by rfl) ?_;dsimp only));refine uY 5 (cs:=#[.int .i64 a2_0,.int .i64 a2_1,.int .i64 a2_2,.int .i64 a2_3]) (t:=29) fun gb340 hg w7 BK340 hb GE340 HB=>?_;have NB339_340:=uN hg BK339;have NB340_339:=uM NB339_340;replace BK339:=uK BK339 hb;clear hb hg;have M8:=nP NB339_340;have Z9:=bd5 BK339)|((with_reducible refine gate_callee (f:=9) rfl ?_);refine gL Tryz.func9 (some 12) #[.agg #[.slice A0_0 l00.length c0_0,.slice A0_1 l01.length c0_1,.slice A0_2 l02.length c0_2,.slice A0_3 l03.length c0_3,.slice A0_4 l04.length c0_4],.slice A1 l1.length c1] ?_;(with_reducible refine (q21_light.calls k _ _ l00 _ _ l01 _ _ l02 _ _ l03 _ _ l04 _ _ l1 t341 _ (sC HR00) J00.out (sC HR01) J01.out (sC HR02) J02.out (sC HR03) J03.out (sC HR04) J04.out (sC HR1) HC1.out A4.out).mono ?_);rintro e w10 ⟨rfl,hb⟩;refine ⟨_,rfl,?_⟩;replace BK339:=uK BK339 hb;replace BK340:=uK BK340 hb;replace HB:=uH hb;(try clear hb)));(try simp only [Act.put,q1_,q2_,q3_]);have H:=HC5.out;clear HC5;by_cases c11:t341=true
 ·subst c11;replace H:=iT H;obtain ⟨⟨t343,t346,t349⟩,A12,H⟩:=oB H;(try dsimp only at H);have HC13:=Sd.mk H;clear H;have M14:=nP NB339_340;have Z15:=bd5 BK339;have Z16:=bd4 BK340;go_upto_region 4 with (first|((with_reducible refine gate_callee (f:=11) rfl ?_);refine gL Tryz.func11 (some 24) #[.agg #[.slice A0_0 l00.length c0_0,.slice A0_1 l01.length c0_1,.slice A0_2 l02.length c0_2,.slice A0_3 l03.length c0_3,.slice A0_4 l04.length c0_4],.slice A1 l1.length c1,.int .i64 a2_1,.int .i64 a2_2,.int .i64 a2_3] ?_;(with_reducible refine (pairs_At.calls _ _ l00 _ _ l01 _ _ l02 _ _ l03 _ _ l04 _ _ l1 a2_1 a2_2 a2_3 t343 t346 t349 _ (sC HR00) J00.out (sC HR01) J01.out (sC HR02) J02.out (sC HR03) J03.out (sC HR04) J04.out (sC HR1) HC1.out A12.out).mono ?_);rintro e w17 ⟨v344,v347,rfl,ho0,ho1,hb⟩;refine ⟨_,rfl,?_⟩;have HO345:=Sd.mk (Kd.R_lower ho0 (below_size uB));have HO348:=Sd.mk (Kd.R_lower ho1 (below_size uB));replace BK339:=uK BK339 hb;replace BK340:=uK BK340 hb;replace HB:=uH hb;(try clear hb);(try clear ho0);(try clear ho1))|((with_reducible refine gate_dst (N:=7) rfl ?_);(try (refine gate_guard (by rfl) ?_;dsimp only));refine uY 7 (cs:=#[.slice none 0 0,.slice none 0 0]) (t:=34) fun gb350 hg w18 BK350 hb GE350 HB=>?_;have NB339_350:=uN hg BK339;have NB350_339:=uM NB339_350;have NB340_350:=uN hg BK340;have NB350_340:=uM NB340_350;replace HO345:=Sd.mk (Kd.R_below (kR HO345) hb);replace HO348:=Sd.mk (Kd.R_below (kR HO348) hb);replace BK339:=uK BK339 hb;replace BK340:=uK BK340 hb;clear hb hg;obtain ⟨Ao19,co19,eo19⟩:=Kd.R_slice HO345.out;subst eo19;have M20:=nP NB350_339;have M21:=nP NB350_340;have Z22:=bd2 BK350;obtain ⟨Ao23,co23,eo23⟩:=Kd.R_slice HO348.out;subst eo23));(try simp only [Act.put,q1_,q2_,q3_]);go_cut [76] (fun v76 wc=>∃ (kq:Nat) (x76_12:Bool),v76 = .bool x76_12∧Sd (q21_PairsAt.j0 kq l1 t349 x76_12 l00 l01 l02 l03 l04 a2_0 a2_1 a2_2 a2_3 t343 t346=some r)∧Sd (kq ≤ k)∧Sd (Kd.R Kd.bool 4 wc w.heap.size (fun _=>True) (.slice Ao19 t343.length co19) t343)∧Sd (Kd.R (Kd.int .i64) 3 wc w.heap.size (fun _=>True) (.slice Ao23 t346.length co23) t346)∧Sd (wc.heap[gb339]? = some (.cells #[(.slice A0_0 l00.length c0_0),(.slice A0_1 l01.length c0_1),(.slice A0_2 l02.length c0_2),(.slice A0_3 l03.length c0_3),(.slice A0_4 l04.length c0_4)] 26 (0,0)))∧Sd (wc.heap[gb340]? = some (.cells #[.int .i64 a2_0,.int .i64 a2_1,.int .i64 a2_2,.int .i64 a2_3] 29 (0,0)))∧Sd (wc.heap[gb350]? = some (.cells #[(.slice Ao19 t343.length co19),(.slice Ao23 t346.length co23)] 34 (0,0)))∧Sd (Below w.heap.size w wc))
  case first =>
   have H:=HC13.out;clear HC13;obtain ⟨t351,A24,H⟩:=oB H;replace H:=iE H;rcases H with ⟨c25,c25b0,c25b1,H⟩ | ⟨c25,c25b0,c25b1,H⟩
   ·clear c25;(first|rw [c25b0]|(simp only [i64_w,i32_w];rw [c25b0])|rw [c25b1]|skip);have H':=Sd.mk H;clear H;have M26:=nP NB339_340;have M27:=nP NB339_350;have Z28:=bd5 BK339;go_wp2_with (first|((with_reducible refine gate_callee (f:=12) rfl ?_);refine gL Tryz.func12 (some 28) #[.agg #[.slice A0_0 l00.length c0_0,.slice A0_1 l01.length c0_1,.slice A0_2 l02.length c0_2,.slice A0_3 l03.length c0_3,.slice A0_4 l04.length c0_4]] ?_;(with_reducible refine (r21_Many.calls k _ _ l00 _ _ l01 _ _ l02 _ _ l03 _ _ l04 t351 _ ?side1 J00.out ?side3 J01.out ?side5 J02.out ?side7 J03.out ?side9 J04.out A24.out).mono ?_);(case side1=>exact Kd.C_below HR00.out uB);(case side3=>exact Kd.C_below HR01.out uB);(case side5=>exact Kd.C_below HR02.out uB);(case side7=>exact Kd.C_below HR03.out uB);(case side9=>exact Kd.C_below HR04.out uB);rintro e w29 ⟨rfl,hb⟩;refine ⟨_,rfl,?_⟩;replace HO345:=Sd.mk (Kd.R_below (kE (fR2 HO345 BK350)) hb);replace HO348:=Sd.mk (Kd.R_below (kE (fR2 HO348 BK350)) hb);replace BK339:=uP (.cells #[.slice A0_0 l00.length c0_0,.slice A0_1 l01.length c0_1,.slice A0_2 l02.length c0_2,.slice A0_3 l03.length c0_3,.slice A0_4 l04.length c0_4] 26 (0,0)) (bF2 BK339 NB339_350) hb;replace BK340:=uP (.cells #[.int .i64 a2_0,.int .i64 a2_1,.int .i64 a2_2,.int .i64 a2_3] 29 (0,0)) (bF2 BK340 NB340_350) hb;replace BK350:=uP (.cells #[.slice Ao19 t343.length co19,.slice Ao23 t346.length co23] 34 (0,0)) (bQ2 BK350) hb;replace HB:=uH hb;(try clear hb)));go_meet
    case rel=>exact ⟨_,(true),tSS,H',⟨tO⟩,kS HO345,kS HO348,kA BK339,kA BK340,kA BK350,uA⟩
   ·(first|rw [c25b0]|(simp only [i64_w,i32_w];rw [c25b0])|rw [c25b1]|skip);replace H:=iE H;rcases H with ⟨c30,c30b0,c30b1,H⟩ | ⟨c30,c30b0,c30b1,H⟩
    ·(have c30b2:(l1.length == l00.length)=true:=by first|simpa using c30|(simp at c30 ⊢;omega));clear c30;replace H:=iD H;rcases H with ⟨c31,c31b0,H⟩ | ⟨c31,c31b0,H⟩
     ·clear c31;have H':=Sd.mk H;clear H;have M32:=nP NB339_340;have M33:=nP NB339_350;have Z34:=bd5 BK339;go_wp2_with (first|((with_reducible refine gate_callee (f:=12) rfl ?_);refine gL Tryz.func12 (some 28) #[.agg #[.slice A0_0 l00.length c0_0,.slice A0_1 l01.length c0_1,.slice A0_2 l02.length c0_2,.slice A0_3 l03.length c0_3,.slice A0_4 l04.length c0_4]] ?_;(with_reducible refine (r21_Many.calls k _ _ l00 _ _ l01 _ _ l02 _ _ l03 _ _ l04 t351 _ ?side1 J00.out ?side3 J01.out ?side5 J02.out ?side7 J03.out ?side9 J04.out A24.out).mono ?_);(case side1=>exact Kd.C_below HR00.out uB);(case side3=>exact Kd.C_below HR01.out uB);(case side5=>exact Kd.C_below HR02.out uB);(case side7=>exact Kd.C_below HR03.out uB);(case side9=>exact Kd.C_below HR04.out uB);rintro e w35 ⟨rfl,hb⟩;refine ⟨_,rfl,?_⟩;replace HO345:=Sd.mk (Kd.R_below (kE (fR2 HO345 BK350)) hb);replace HO348:=Sd.mk (Kd.R_below (kE (fR2 HO348 BK350)) hb);replace BK339:=uP (.cells #[.slice A0_0 l00.length c0_0,.slice A0_1 l01.length c0_1,.slice A0_2 l02.length c0_2,.slice A0_3 l03.length c0_3,.slice A0_4 l04.length c0_4] 26 (0,0)) (bF2 BK339 NB339_350) hb;replace BK340:=uP (.cells #[.int .i64 a2_0,.int .i64 a2_1,.int .i64 a2_2,.int .i64 a2_3] 29 (0,0)) (bF2 BK340 NB340_350) hb;replace BK350:=uP (.cells #[.slice Ao19 t343.length co19,.slice Ao23 t346.length co23] 34 (0,0)) (bQ2 BK350) hb;replace HB:=uH hb;(try clear hb);have Z36:=bd5 BK339;have M37:=nP NB340_350;have Z38:=bd4 BK340));go_meet
      case rel=>exact ⟨_,(true),tSS,H',⟨tO⟩,kS HO345,kS HO348,kA BK339,kA BK340,kA BK350,uA⟩
     ·clear c31;replace H:=iD H;rcases H with ⟨c39,c39b0,H⟩ | ⟨c39,c39b0,H⟩
      ·clear c39;have H':=Sd.mk H;clear H;have M40:=nP NB339_340;have M41:=nP NB339_350;have Z42:=bd5 BK339;go_wp2_with (first|((with_reducible refine gate_callee (f:=12) rfl ?_);refine gL Tryz.func12 (some 28) #[.agg #[.slice A0_0 l00.length c0_0,.slice A0_1 l01.length c0_1,.slice A0_2 l02.length c0_2,.slice A0_3 l03.length c0_3,.slice A0_4 l04.length c0_4]] ?_;(with_reducible refine (r21_Many.calls k _ _ l00 _ _ l01 _ _ l02 _ _ l03 _ _ l04 t351 _ ?side1 J00.out ?side3 J01.out ?side5 J02.out ?side7 J03.out ?side9 J04.out A24.out).mono ?_);(case side1=>exact Kd.C_below HR00.out uB);(case side3=>exact Kd.C_below HR01.out uB);(case side5=>exact Kd.C_below HR02.out uB);(case side7=>exact Kd.C_below HR03.out uB);(case side9=>exact Kd.C_below HR04.out uB);rintro e w43 ⟨rfl,hb⟩;refine ⟨_,rfl,?_⟩;replace HO345:=Sd.mk (Kd.R_below (kE (fR2 HO345 BK350)) hb);replace HO348:=Sd.mk (Kd.R_below (kE (fR2 HO348 BK350)) hb);replace BK339:=uP (.cells #[.slice A0_0 l00.length c0_0,.slice A0_1 l01.length c0_1,.slice A0_2 l02.length c0_2,.slice A0_3 l03.length c0_3,.slice A0_4 l04.length c0_4] 26 (0,0)) (bF2 BK339 NB339_350) hb;replace BK340:=uP (.cells #[.int .i64 a2_0,.int .i64 a2_1,.int .i64 a2_2,.int .i64 a2_3] 29 (0,0)) (bF2 BK340 NB340_350) hb;replace BK350:=uP (.cells #[.slice Ao19 t343.length co19,.slice Ao23 t346.length co23] 34 (0,0)) (bQ2 BK350) hb;replace HB:=uH hb;(try clear hb);have Z44:=bd5 BK339;have M45:=nP NB340_350;have Z46:=bd4 BK340));go_meet
       case rel=>exact ⟨_,(true),tSS,H',⟨tO⟩,kS HO345,kS HO348,kA BK339,kA BK340,kA BK350,uA⟩
      ·clear c39;replace H:=iD H;rcases H with ⟨c47,c47b0,H⟩ | ⟨c47,c47b0,H⟩
       ·clear c47;have H':=Sd.mk H;clear H;have M48:=nP NB339_340;have M49:=nP NB339_350;have Z50:=bd5 BK339;go_wp2_with (first|((with_reducible refine gate_callee (f:=12) rfl ?_);refine gL Tryz.func12 (some 28) #[.agg #[.slice A0_0 l00.length c0_0,.slice A0_1 l01.length c0_1,.slice A0_2 l02.length c0_2,.slice A0_3 l03.length c0_3,.slice A0_4 l04.length c0_4]] ?_;(with_reducible refine (r21_Many.calls k _ _ l00 _ _ l01 _ _ l02 _ _ l03 _ _ l04 t351 _ ?side1 J00.out ?side3 J01.out ?side5 J02.out ?side7 J03.out ?side9 J04.out A24.out).mono ?_);(case side1=>exact Kd.C_below HR00.out uB);(case side3=>exact Kd.C_below HR01.out uB);(case side5=>exact Kd.C_below HR02.out uB);(case side7=>exact Kd.C_below HR03.out uB);(case side9=>exact Kd.C_below HR04.out uB);rintro e w51 ⟨rfl,hb⟩;refine ⟨_,rfl,?_⟩;replace HO345:=Sd.mk (Kd.R_below (kE (fR2 HO345 BK350)) hb);replace HO348:=Sd.mk (Kd.R_below (kE (fR2 HO348 BK350)) hb);replace BK339:=uP (.cells #[.slice A0_0 l00.length c0_0,.slice A0_1 l01.length c0_1,.slice A0_2 l02.length c0_2,.slice A0_3 l03.length c0_3,.slice A0_4 l04.length c0_4] 26 (0,0)) (bF2 BK339 NB339_350) hb;replace BK340:=uP (.cells #[.int .i64 a2_0,.int .i64 a2_1,.int .i64 a2_2,.int .i64 a2_3] 29 (0,0)) (bF2 BK340 NB340_350) hb;replace BK350:=uP (.cells #[.slice Ao19 t343.length co19,.slice Ao23 t346.length co23] 34 (0,0)) (bQ2 BK350) hb;replace HB:=uH hb;(try clear hb);have Z52:=bd5 BK339;have M53:=nP NB340_350;have Z54:=bd4 BK340));go_meet
        case rel=>exact ⟨_,(true),tSS,H',⟨tO⟩,kS HO345,kS HO348,kA BK339,kA BK340,kA BK350,uA⟩
       ·clear c47;replace H:=iD H;rcases H with ⟨c55,c55b0,H⟩ | ⟨c55,c55b0,H⟩
        ·clear c55;have H':=Sd.mk H;clear H;have M56:=nP NB339_340;have M57:=nP NB339_350;have Z58:=bd5 BK339;go_wp2_with (first|((with_reducible refine gate_callee (f:=12) rfl ?_);refine gL Tryz.func12 (some 28) #[.agg #[.slice A0_0 l00.length c0_0,.slice A0_1 l01.length c0_1,.slice A0_2 l02.length c0_2,.slice A0_3 l03.length c0_3,.slice A0_4 l04.length c0_4]] ?_;(with_reducible refine (r21_Many.calls k _ _ l00 _ _ l01 _ _ l02 _ _ l03 _ _ l04 t351 _ ?side1 J00.out ?side3 J01.out ?side5 J02.out ?side7 J03.out ?side9 J04.out A24.out).mono ?_);(case side1=>exact Kd.C_below HR00.out uB);(case side3=>exact Kd.C_below HR01.out uB);(case side5=>exact Kd.C_below HR02.out uB);(case side7=>exact Kd.C_below HR03.out uB);(case side9=>exact Kd.C_below HR04.out uB);rintro e w59 ⟨rfl,hb⟩;refine ⟨_,rfl,?_⟩;replace HO345:=Sd.mk (Kd.R_below (kE (fR2 HO345 BK350)) hb);replace HO348:=Sd.mk (Kd.R_below (kE (fR2 HO348 BK350)) hb);replace BK339:=uP (.cells #[.slice A0_0 l00.length c0_0,.slice A0_1 l01.length c0_1,.slice A0_2 l02.length c0_2,.slice A0_3 l03.length c0_3,.slice A0_4 l04.length c0_4] 26 (0,0)) (bF2 BK339 NB339_350) hb;replace BK340:=uP (.cells #[.int .i64 a2_0,.int .i64 a2_1,.int .i64 a2_2,.int .i64 a2_3] 29 (0,0)) (bF2 BK340 NB340_350) hb;replace BK350:=uP (.cells #[.slice Ao19 t343.length co19,.slice Ao23 t346.length co23] 34 (0,0)) (bQ2 BK350) hb;replace HB:=uH hb;(try clear hb);have Z60:=bd5 BK339;have M61:=nP NB340_350;have Z62:=bd4 BK340));go_meet
         case rel=>exact ⟨_,(true),tSS,H',⟨tO⟩,kS HO345,kS HO348,kA BK339,kA BK340,kA BK350,uA⟩
        ·clear c55;replace H:=iD H;rcases H with ⟨c63,c63b0,H⟩ | ⟨c63,c63b0,H⟩
         ·clear c63;have H':=Sd.mk H;clear H;have M64:=nP NB339_340;have M65:=nP NB339_350;have Z66:=bd5 BK339;go_wp2_with (first|((with_reducible refine gate_callee (f:=12) rfl ?_);refine gL Tryz.func12 (some 28) #[.agg #[.slice A0_0 l00.length c0_0,.slice A0_1 l01.length c0_1,.slice A0_2 l02.length c0_2,.slice A0_3 l03.length c0_3,.slice A0_4 l04.length c0_4]] ?_;(with_reducible refine (r21_Many.calls k _ _ l00 _ _ l01 _ _ l02 _ _ l03 _ _ l04 t351 _ ?side1 J00.out ?side3 J01.out ?side5 J02.out ?side7 J03.out ?side9 J04.out A24.out).mono ?_);(case side1=>exact Kd.C_below HR00.out uB);(case side3=>exact Kd.C_below HR01.out uB);(case side5=>exact Kd.C_below HR02.out uB);(case side7=>exact Kd.C_below HR03.out uB);(case side9=>exact Kd.C_below HR04.out uB);rintro e w67 ⟨rfl,hb⟩;refine ⟨_,rfl,?_⟩;replace HO345:=Sd.mk (Kd.R_below (kE (fR2 HO345 BK350)) hb);replace HO348:=Sd.mk (Kd.R_below (kE (fR2 HO348 BK350)) hb);replace BK339:=uP (.cells #[.slice A0_0 l00.length c0_0,.slice A0_1 l01.length c0_1,.slice A0_2 l02.length c0_2,.slice A0_3 l03.length c0_3,.slice A0_4 l04.length c0_4] 26 (0,0)) (bF2 BK339 NB339_350) hb;replace BK340:=uP (.cells #[.int .i64 a2_0,.int .i64 a2_1,.int .i64 a2_2,.int .i64 a2_3] 29 (0,0)) (bF2 BK340 NB340_350) hb;replace BK350:=uP (.cells #[.slice Ao19 t343.length co19,.slice Ao23 t346.length co23] 34 (0,0)) (bQ2 BK350) hb;replace HB:=uH hb;(try clear hb);have Z68:=bd5 BK339;have M69:=nP NB340_350;have Z70:=bd4 BK340));go_meet
          case rel=>exact ⟨_,(true),tSS,H',⟨tO⟩,kS HO345,kS HO348,kA BK339,kA BK340,kA BK350,uA⟩
         ·clear c63;have H':=Sd.mk H;clear H;have M71:=nP NB339_340;have M72:=nP NB339_350;have Z73:=bd5 BK339;go_wp2_with (first|((with_reducible refine gate_callee (f:=12) rfl ?_);refine gL Tryz.func12 (some 28) #[.agg #[.slice A0_0 l00.length c0_0,.slice A0_1 l01.length c0_1,.slice A0_2 l02.length c0_2,.slice A0_3 l03.length c0_3,.slice A0_4 l04.length c0_4]] ?_;(with_reducible refine (r21_Many.calls k _ _ l00 _ _ l01 _ _ l02 _ _ l03 _ _ l04 t351 _ ?side1 J00.out ?side3 J01.out ?side5 J02.out ?side7 J03.out ?side9 J04.out A24.out).mono ?_);(case side1=>exact Kd.C_below HR00.out uB);(case side3=>exact Kd.C_below HR01.out uB);(case side5=>exact Kd.C_below HR02.out uB);(case side7=>exact Kd.C_below HR03.out uB);(case side9=>exact Kd.C_below HR04.out uB);rintro e w74 ⟨rfl,hb⟩;refine ⟨_,rfl,?_⟩;replace HO345:=Sd.mk (Kd.R_below (kE (fR2 HO345 BK350)) hb);replace HO348:=Sd.mk (Kd.R_below (kE (fR2 HO348 BK350)) hb);replace BK339:=uP (.cells #[.slice A0_0 l00.length c0_0,.slice A0_1 l01.length c0_1,.slice A0_2 l02.length c0_2,.slice A0_3 l03.length c0_3,.slice A0_4 l04.length c0_4] 26 (0,0)) (bF2 BK339 NB339_350) hb;replace BK340:=uP (.cells #[.int .i64 a2_0,.int .i64 a2_1,.int .i64 a2_2,.int .i64 a2_3] 29 (0,0)) (bF2 BK340 NB340_350) hb;replace BK350:=uP (.cells #[.slice Ao19 t343.length co19,.slice Ao23 t346.length co23] 34 (0,0)) (bQ2 BK350) hb;replace HB:=uH hb;(try clear hb);have Z75:=bd5 BK339;have M76:=nP NB340_350;have Z77:=bd4 BK340));go_meet
          case rel=>exact ⟨_,(decide (a2_3 ≥ (l03.length:Int))),tSS,H',⟨tO⟩,kS HO345,kS HO348,kA BK339,kA BK340,kA BK350,uA⟩
    ·(have c30b2:(l1.length == l00.length)=false:=by first|simpa using c30|(simp at c30 ⊢;omega));have H':=Sd.mk H;clear H;have M78:=nP NB339_340;have M79:=nP NB339_350;have Z80:=bd5 BK339;go_wp2_with (first|((with_reducible refine gate_callee (f:=12) rfl ?_);refine gL Tryz.func12 (some 28) #[.agg #[.slice A0_0 l00.length c0_0,.slice A0_1 l01.length c0_1,.slice A0_2 l02.length c0_2,.slice A0_3 l03.length c0_3,.slice A0_4 l04.length c0_4]] ?_;(with_reducible refine (r21_Many.calls k _ _ l00 _ _ l01 _ _ l02 _ _ l03 _ _ l04 t351 _ ?side1 J00.out ?side3 J01.out ?side5 J02.out ?side7 J03.out ?side9 J04.out A24.out).mono ?_);(case side1=>exact Kd.C_below HR00.out uB);(case side3=>exact Kd.C_below HR01.out uB);(case side5=>exact Kd.C_below HR02.out uB);(case side7=>exact Kd.C_below HR03.out uB);(case side9=>exact Kd.C_below HR04.out uB);rintro e w81 ⟨rfl,hb⟩;refine ⟨_,rfl,?_⟩;replace HO345:=Sd.mk (Kd.R_below (kE (fR2 HO345 BK350)) hb);replace HO348:=Sd.mk (Kd.R_below (kE (fR2 HO348 BK350)) hb);replace BK339:=uP (.cells #[.slice A0_0 l00.length c0_0,.slice A0_1 l01.length c0_1,.slice A0_2 l02.length c0_2,.slice A0_3 l03.length c0_3,.slice A0_4 l04.length c0_4] 26 (0,0)) (bF2 BK339 NB339_350) hb;replace BK340:=uP (.cells #[.int .i64 a2_0,.int .i64 a2_1,.int .i64 a2_2,.int .i64 a2_3] 29 (0,0)) (bF2 BK340 NB340_350) hb;replace BK350:=uP (.cells #[.slice Ao19 t343.length co19,.slice Ao23 t346.length co23] 34 (0,0)) (bQ2 BK350) hb;replace HB:=uH hb;(try clear hb);have Z82:=bd5 BK339));go_meet
     case rel=>exact ⟨_,(true),tSS,H',⟨tO⟩,kS HO345,kS HO348,kA BK339,kA BK340,kA BK350,uA⟩
  case rest =>
   clear HC13;(try clear c1);(try clear c11);(try clear Z15);(try clear Z16);(try clear Z22);(try clear Z9);obtain ⟨kq,x76_12,rfl,HA,HJ12,HO_351000,HO_351001,BK339,BK340,BK350,HB⟩:=hcut;cases kq with
   | zero=>exact absurd HA.out (by simp [q21_PairsAt.j0])
   | succ kj12 =>
    have H:=HA.out;clear HA;simp only [q21_PairsAt.j0] at H;by_cases c83:x76_12=true
    ·subst c83;replace H:=iT H;by_cases c84:t349=true
     ·subst c84;(have H1:(some false)=some r:=by rw [if_pos rfl] at H;exact H);exact absurd ((Option.some.inj H1).trans HRT.out) (by decide)
     ·replace c84:=Bool.eq_false_iff.mpr c84;subst c84;replace H:=iF H;obtain ⟨t352,A85,H⟩:=oB H;by_cases c86:t352=true
      ·subst c86;replace H:=iT H;obtain ⟨t353,A87,H⟩:=oB H;obtain rfl:=sI H;have M88:=nP NB350_339;have M89:=nP NB350_340;have Z90:=bd2 BK350;go_wp2_with (first|(go_at_call 13;(refine (r21_Same.calls kj12 _ _ t343 _ _ t346 _ _ ([]:List Bool) _ _ ([]:List Int) true _ ?side1 ?side2 ?side3 ?side4 ?side5 ?side6 ?side7 ?side8 A85.out).mono ?_);(case side1=>exact sE (Kd.R_reads' HO_351000.out).2.2);(case side2=>exact (Kd.R_reads' HO_351000.out).2.1);(case side3=>exact sE (Kd.R_reads' HO_351001.out).2.2);(case side4=>exact (Kd.R_reads' HO_351001.out).2.1);(case side5=>exact Kd.C_nil _ _);(case side6=>exact Nat.le_refl _);(case side7=>exact Kd.C_nil _ _);(case side8=>exact Nat.le_refl _);rintro e w91 ⟨rfl,hb⟩;replace HO_351000:=Sd.mk (Kd.R_below (kR HO_351000) hb);replace HO_351001:=Sd.mk (Kd.R_below (kR HO_351001) hb);replace BK339:=uK BK339 hb;replace BK340:=uK BK340 hb;replace BK350:=uK BK350 hb;replace HB:=uH hb;(try clear hb))|(go_at_call 10;(with_reducible refine (q21_awake.calls  t353 _ A87.out).mono ?_);rintro e w92 ⟨rfl,hb⟩;replace HO_351000:=Sd.mk (Kd.R_below (kR HO_351000) hb);replace HO_351001:=Sd.mk (Kd.R_below (kR HO_351001) hb);replace BK339:=uK BK339 hb;replace BK340:=uK BK340 hb;replace BK350:=uK BK350 hb;replace HB:=uH hb;(try clear hb)));go_ret;exact ⟨tW,uB⟩
      ·replace c86:=Bool.eq_false_iff.mpr c86;subst c86;(have H1:(some false)=some r:=by rw [if_neg (show ¬ (false=true) by decide)] at H;exact H);exact absurd ((Option.some.inj H1).trans HRT.out) (by decide)
    ·replace c83:=Bool.eq_false_iff.mpr c83;subst c83;replace H:=iF H;obtain ⟨t354,A97,H⟩:=oB H;have HC98:=Sd.mk H;clear H;have M99:=nP NB339_340;have M100:=nP NB339_350;have Z101:=bd5 BK339;have M102:=nP NB340_350;have Z103:=bd4 BK340;go_upto_if 97 with (first|((with_reducible refine gate_callee (f:=14) rfl ?_);refine gL Tryz.func14 (some 95) #[.agg #[.slice A0_0 l00.length c0_0,.slice A0_1 l01.length c0_1,.slice A0_2 l02.length c0_2,.slice A0_3 l03.length c0_3,.slice A0_4 l04.length c0_4],.slice A1 l1.length c1,.int .i64 a2_1,.int .i64 a2_2,.int .i64 a2_3] ?_;(with_reducible refine (r21_At.calls kj12 _ _ l00 _ _ l01 _ _ l02 _ _ l03 _ _ l04 _ _ l1 a2_1 a2_2 a2_3 t354 _ (sC HR00) J00.out (sC HR01) J01.out (sC HR02) J02.out (sC HR03) J03.out (sC HR04) J04.out (sC HR1) HC1.out A97.out).mono ?_);rintro e w104 ⟨rfl,hb⟩;refine ⟨_,rfl,?_⟩;replace HO_351000:=Sd.mk (Kd.R_below (kR HO_351000) hb);replace HO_351001:=Sd.mk (Kd.R_below (kR HO_351001) hb);replace BK339:=uK BK339 hb;replace BK340:=uK BK340 hb;replace BK350:=uK BK350 hb;replace HB:=uH hb;(try clear hb)));(try simp only [Act.put,q1_,q2_,q3_]);have H:=HC98.out;clear HC98;replace H:=iD H;rcases H with ⟨c105,c105b0,H⟩ | ⟨c105,c105b0,H⟩
     ·clear c105;(first|rw [c105b0]|(simp only [i64_w,i32_w];rw [c105b0])|rw [c105b1]|skip);by_cases c106:t349=true
      ·subst c106;(have H1:(some false)=some r:=by rw [if_pos rfl] at H;exact H);exact absurd ((Option.some.inj H1).trans HRT.out) (by decide)
      ·replace c106:=Bool.eq_false_iff.mpr c106;subst c106;replace H:=iF H;obtain ⟨t355,A107,H⟩:=oB H;by_cases c108:t355=true
       ·subst c108;replace H:=iT H;obtain ⟨t356,A109,H⟩:=oB H;obtain rfl:=sI H;have M110:=nP NB350_339;have M111:=nP NB350_340;have Z112:=bd2 BK350;go_wp2_with (first|(go_at_call 13;(refine (r21_Same.calls kj12 _ _ t343 _ _ t346 _ _ ([]:List Bool) _ _ ([]:List Int) true _ ?side1 ?side2 ?side3 ?side4 ?side5 ?side6 ?side7 ?side8 A107.out).mono ?_);(case side1=>exact sE (Kd.R_reads' HO_351000.out).2.2);(case side2=>exact (Kd.R_reads' HO_351000.out).2.1);(case side3=>exact sE (Kd.R_reads' HO_351001.out).2.2);(case side4=>exact (Kd.R_reads' HO_351001.out).2.1);(case side5=>exact Kd.C_nil _ _);(case side6=>exact Nat.le_refl _);(case side7=>exact Kd.C_nil _ _);(case side8=>exact Nat.le_refl _);rintro e w113 ⟨rfl,hb⟩;replace HO_351000:=Sd.mk (Kd.R_below (kR HO_351000) hb);replace HO_351001:=Sd.mk (Kd.R_below (kR HO_351001) hb);replace BK339:=uK BK339 hb;replace BK340:=uK BK340 hb;replace BK350:=uK BK350 hb;replace HB:=uH hb;(try clear hb))|(go_at_call 10;(with_reducible refine (q21_awake.calls  t356 _ A109.out).mono ?_);rintro e w114 ⟨rfl,hb⟩;replace HO_351000:=Sd.mk (Kd.R_below (kR HO_351000) hb);replace HO_351001:=Sd.mk (Kd.R_below (kR HO_351001) hb);replace BK339:=uK BK339 hb;replace BK340:=uK BK340 hb;replace BK350:=uK BK350 hb;replace HB:=uH hb;(try clear hb)));go_ret;exact ⟨tW,uB⟩
       ·replace c108:=Bool.eq_false_iff.mpr c108;subst c108;(have H1:(some false)=some r:=by rw [if_neg (show ¬ (false=true) by decide)] at H;exact H);exact absurd ((Option.some.inj H1).trans HRT.out) (by decide)
     ·clear c105;(first|rw [c105b0]|(simp only [i64_w,i32_w];rw [c105b0])|rw [c105b1]|skip);by_cases c119:t349=true
      ·subst c119;replace H:=iT H;obtain ⟨⟨t357,t360⟩,A120,H⟩:=oB H;(try dsimp only at H);obtain ⟨t363,A121,H⟩:=oB H;by_cases c122:t363=true
       ·subst c122;replace H:=iT H;obtain ⟨t364,A123,H⟩:=oB H;obtain rfl:=sI H;(try go_wp2);replace HO_351000:=Sd.mk (Kd.R_drew HO_351000.out);replace HO_351001:=Sd.mk (Kd.R_drew HO_351001.out);replace BK339:=uE BK339;replace BK340:=uE BK340;replace BK350:=uE BK350;replace HB:=uI HB;refine start_ (n:=12) (S:=fun w'=>w'.cell? ⟨gb350,0,none⟩=some (.slice Ao19 t343.length co19)∧w'.cell? ⟨gb350,1,none⟩=some (.slice Ao23 t346.length co23)∧w'.cell? ⟨gb339,0,none⟩=some (.slice A0_0 l00.length c0_0)∧w'.cell? ⟨gb339,1,none⟩=some (.slice A0_1 l01.length c0_1)∧w'.cell? ⟨gb339,2,none⟩=some (.slice A0_2 l02.length c0_2)∧w'.cell? ⟨gb339,3,none⟩=some (.slice A0_3 l03.length c0_3)∧w'.cell? ⟨gb339,4,none⟩=some (.slice A0_4 l04.length c0_4)) (ds:=[]) (ab 12 0) (by kernel_rfl) rfl rfl ⟨cB BK350 0,cB BK350 1,cB BK339 0,cB BK339 1,cB BK339 2,cB BK339 3,cB BK339 4⟩ (fun hH=>?_);refine with_tabW q21_PairsAt.tab9 q21_PairsAt.bits9 (fun HT_ HW_=>?_);generalize w104.drew=w124 at HO_351000 HO_351001 BK339 BK340 BK350 HB hH ⊢;refine pU 0 108 ?_;refine pU 1 109 ?_;refine pU 4 112 ?_;refine tU 2 110 ?_;refine tU 3 111 ?_;refine oU (N:=some 113) 5 (fun K hK=>?_);refine gO Tryz.func15 #[.agg #[.slice A0_0 l00.length c0_0,.slice A0_1 l01.length c0_1,.slice A0_2 l02.length c0_2,.slice A0_3 l03.length c0_3,.slice A0_4 l04.length c0_4],.int .i64 t354] ?_;(with_reducible refine (r21_State.calls kj12 _ _ l00 _ _ l01 _ _ l02 _ _ l03 _ _ l04 t354 t357 t360 _ (sC HR00) J00.out (sC HR01) J01.out (sC HR02) J02.out (sC HR03) J03.out (sC HR04) J04.out A120.out).mono ?_);rintro e w125 ⟨v358,v361,rfl,ho0,ho1,hb⟩;refine ⟨_,rfl,?_⟩;have HO359:=Sd.mk (Kd.R_lower (Kd.R_new' ho0 (Kd.R_lt (kR HO_351000))) (below_size uB));have HO362:=Sd.mk (Kd.R_lower (Kd.R_new' ho1 (Kd.R_lt (kR HO_351001))) (below_size uB));replace HO_351000:=Sd.mk (Kd.R_elder' (kR HO_351000) (Kd.R_base ho0) hb);replace HO_351001:=Sd.mk (Kd.R_elder' (kR HO_351001) (Kd.R_base ho1) hb);replace BK339:=uK BK339 hb;replace BK340:=uK BK340 hb;replace BK350:=uK BK350 hb;replace HB:=uH hb;(try clear hb);(try clear ho0);(try clear ho1);obtain ⟨Ao126,co126,eo126⟩:=Kd.R_slice HO359.out;(first|subst eo126|(injection eo126 with f1_ f2_ f3_;have f4_:=f1_.symm;have f5_:=f3_.symm;clear f1_ f2_ f3_;subst f4_;subst f5_));obtain ⟨Ao127,co127,eo127⟩:=Kd.R_slice HO362.out;(first|subst eo127|(injection eo127 with f1_ f2_ f3_;have f4_:=f1_.symm;have f5_:=f3_.symm;clear f1_ f2_ f3_;subst f4_;subst f5_));refine hK.out _ _ ⟨cB BK350 0,cB BK350 1,cB BK339 0,cB BK339 1,cB BK339 2,cB BK339 3,cB BK339 4⟩ (fun hH=>?_);clear hK K;refine nU ?_;refine oU (N:=some 114) 6 (fun K hK=>?_);refine gO Tryz.func13 #[.agg #[.slice Ao19 t343.length co19,.slice Ao23 t346.length co23],.agg #[.slice Ao126 t357.length co126,.slice Ao127 t360.length co127]] ?_;(with_reducible refine (r21_Same.calls kj12 _ _ t343 _ _ t346 _ _ t357 _ _ t360 true _ ?side1 ?side2 ?side3 ?side4 ?side5 ?side6 ?side7 ?side8 A121.out).mono ?_);(case side1=>exact sE (Kd.R_reads' HO_351000.out).2.2);(case side2=>exact (Kd.R_reads' HO_351000.out).2.1);(case side3=>exact sE (Kd.R_reads' HO_351001.out).2.2);(case side4=>exact (Kd.R_reads' HO_351001.out).2.1);(case side5=>exact sE (Kd.R_reads' HO359.out).2.2);(case side6=>exact (Kd.R_reads' HO359.out).2.1);(case side7=>exact sE (Kd.R_reads' HO362.out).2.2);(case side8=>exact (Kd.R_reads' HO362.out).2.1);rintro e w128 ⟨rfl,hb⟩;refine ⟨_,rfl,?_⟩;replace HO_351000:=Sd.mk (Kd.R_below (kR HO_351000) hb);replace HO_351001:=Sd.mk (Kd.R_below (kR HO_351001) hb);replace HO359:=Sd.mk (Kd.R_below (kR HO359) hb);replace HO362:=Sd.mk (Kd.R_below (kR HO362) hb);replace BK339:=uK BK339 hb;replace BK340:=uK BK340 hb;replace BK350:=uK BK350 hb;replace HB:=uH hb;(try clear hb);refine hK.out _ _ ⟨cB BK350 0,cB BK350 1,cB BK339 0,cB BK339 1,cB BK339 2,cB BK339 3,cB BK339 4⟩ (fun hH=>?_);clear hK K;refine nU ?_;refine pU 7 115 ?_;refine pU 8 116 ?_;refine oU (N:=some 117) 9 (fun K hK=>?_);refine gO Tryz.func10 #[] ?_;(with_reducible refine (q21_awake.calls  t364 _ A123.out).mono ?_);rintro e w129 ⟨rfl,hb⟩;refine ⟨_,rfl,?_⟩;replace HO_351000:=Sd.mk (Kd.R_below (kR HO_351000) hb);replace HO_351001:=Sd.mk (Kd.R_below (kR HO_351001) hb);replace HO359:=Sd.mk (Kd.R_below (kR HO359) hb);replace HO362:=Sd.mk (Kd.R_below (kR HO362) hb);replace BK339:=uK BK339 hb;replace BK340:=uK BK340 hb;replace BK350:=uK BK350 hb;replace HB:=uH hb;(try clear hb);refine hK.out _ _ ⟨cB BK350 0,cB BK350 1,cB BK339 0,cB BK339 1,cB BK339 2,cB BK339 3,cB BK339 4⟩ (fun hH=>?_);clear hK K;refine nU ?_;refine pU 10 118 ?_;refine pU 11 6 ?_;refine dU ?_;(try go_wp2);go_ret;exact ⟨tW,uB⟩
       ·replace c122:=Bool.eq_false_iff.mpr c122;subst c122;(have H1:(some false)=some r:=by rw [if_neg (show ¬ (false=true) by decide)] at H;exact H);exact absurd ((Option.some.inj H1).trans HRT.out) (by decide)
      ·replace c119:=Bool.eq_false_iff.mpr c119;subst c119;(have H1:(some false)=some r:=by rw [if_neg (show ¬ (false=true) by decide)] at H;exact H);exact absurd ((Option.some.inj H1).trans HRT.out) (by decide)
 ·replace c11:=Bool.eq_false_iff.mpr c11;subst c11;replace H:=iF H;obtain ⟨t342,A136,H⟩:=oB H;obtain rfl:=sI H;go_wp2_with (first|((with_reducible refine gate_callee (f:=10) rfl ?_);refine gL Tryz.func10 (some 14) #[] ?_;(with_reducible refine (q21_awake.calls  t342 _ A136.out).mono ?_);rintro e w137 ⟨rfl,hb⟩;refine ⟨_,rfl,?_⟩;replace BK339:=uK BK339 hb;replace BK340:=uK BK340 hb;replace HB:=uH hb;(try clear hb)));go_ret;exact ⟨tW,uB⟩
end
theorem rdL_ss (ss:List (List ByteArray)) (i:Nat):rd_L7 ss (i:Int)=ss.getD i []:=by simp [rd_L7]
theorem rdL_cs (cs:List (List Ce)) (i:Nat):rd_L16 cs (i:Int)=cs.getD i []:=by simp [rd_L16]
theorem rdI_ss (ss:List (List ByteArray)) (i:Int):rd_L7 ss i=ss.getD i.toNat []:=rfl
theorem hasB_inB (l:List ByteArray) (a:ByteArray):hasB l a=inB l a:=by
 rw [Bool.eq_iff_iff,inB_iff];unfold hasB;simp
theorem in19_ev (ss:List (List ByteArray)) (cs:List (List Ce)) (hst:StOk ss cs) (i:Int) (key:ByteArray):Ev (fun k=>r19_In.f k ss cs i key) (inS ss i key):=by
 unfold r19_In.f inS;by_cases h0:0 ≤ i
 ·by_cases h1:i < (ss.length:Int)
  ·rw [decide_eq_true ⟨h0,h1⟩,Bool.true_and];have hm:=getD_at ss [] i.toNat (by omega);refine Ev.yes h0 (Ev.yes h1 (Ev.yes h0 (Ev.bind (at_ev _ key (hst.2.1 _ hm)) (Ev.is ?_))));rw [idxI_has,hasB_inB,rdI_ss]
  ·rw [decide_eq_false (by omega)];exact Ev.yes h0 (Ev.no h1 (Ev.now _))
 ·rw [decide_eq_false (by omega)];exact Ev.no h0 (Ev.now _)
theorem get10_ev (L:List Ce) (key:ByteArray) (hl:L.length ≤ 4000000000):Ev (fun k=>r10_Get.f k L key) (numL L key):=by
 unfold r10_Get.f;refine Ev.loop (g:=fun k pos=>r10_Get.l0 k L key (pos:Int)) (spec:=fun pos=>numL (L.drop pos) key) L.length ?_ ?_ 0 (by omega)
 ·refine Ev.succ ?_;simp only [r10_Get.l0,List.drop_length];exact Ev.no (by omega) (Ev.now _)
 ·intro pos hp ih;refine Ev.succ ?_;simp only [r10_Get.l0,rdCe_at];rw [wrap_up pos (by omega),drop_getD L z158 pos hp,numL];refine Ev.yes (by omega) (Ev.yes (by omega) ?_);by_cases he:(L.getD pos z158).f0.toList=key.toList
  ·rw [if_pos he];exact Ev.yes he (Ev.now _)
  ·rw [if_neg he];exact Ev.no he ih
theorem num19_ev (ss:List (List ByteArray)) (cs:List (List Ce)) (hst:StOk ss cs) (i:Int) (key:ByteArray):Ev (fun k=>r19_Number.f k ss cs i key) (numS cs i key):=by
 unfold r19_Number.f numS;by_cases h0:i < 0
 ·rw [if_neg (by omega)];exact Ev.yes h0 (Ev.now _)
 refine Ev.no h0 ?_;by_cases h1:i < (cs.length:Int)
 ·rw [if_pos ⟨by omega,h1⟩];have hm:=getD_at cs [] i.toNat (by omega);exact Ev.no (by omega) (Ev.yes (by omega) (Ev.yes h1 (Ev.bind (get10_ev _ key (hst.2.2 _ hm)) (Ev.now _))))
 ·rw [if_neg (by omega)];exact Ev.yes (by omega) (Ev.now _)
theorem met20_ev (ss:List (List ByteArray)) (cs:List (List Ce)) (hst:StOk ss cs) (key:ByteArray) (n:Nd):Ev (fun k=>r20_Met.f k ss cs key n.f0 n.f1 n.f2 n.f3 n.f4) (metB ss cs key n):=by
 unfold r20_Met.f metB;refine Ev.bind (num19_ev ss cs hst n.f2 key) (Ev.bind (in19_ev ss cs hst n.f2 key) ?_);by_cases h2:n.f1=2
 ·rw [if_pos h2];exact Ev.yes h2 (Ev.now _)
 rw [if_neg h2];refine Ev.no h2 ?_;by_cases h3:n.f1=3
 ·rw [if_pos h3];exact Ev.yes h3 (Ev.now _)
 rw [if_neg h3];refine Ev.no h3 ?_;by_cases h4:n.f1=4
 ·rw [if_pos h4];refine Ev.yes h4 ?_;by_cases h0:n.f2 < 0
  ·rw [show inS ss n.f2 key=false by unfold inS;rw [decide_eq_false (by omega)];rfl,decide_eq_false (show ¬ (0 ≤ n.f2∧n.f2 < (ss.length:Int)) by omega)];exact Ev.yes h0 (Ev.is rfl)
  refine Ev.no h0 ?_;by_cases h1:n.f2 ≥ (ss.length:Int)
  ·rw [show inS ss n.f2 key=false by unfold inS;rw [decide_eq_false (by omega)];rfl,decide_eq_false (show ¬ (0 ≤ n.f2∧n.f2 < (ss.length:Int)) by omega)];exact Ev.yes h1 (Ev.is rfl)
  refine Ev.no h1 ?_;cases hb:inS ss n.f2 key
  ·rw [decide_eq_true (show 0 ≤ n.f2∧n.f2 < (ss.length:Int) by omega)];exact Ev.no (by decide) (Ev.yes (by omega) (Ev.yes (by omega) (Ev.is rfl)))
  ·exact Ev.yes rfl (Ev.now _)
 rw [if_neg h4];refine Ev.no h4 ?_;by_cases h5:n.f1=5
 ·rw [if_pos h5];exact Ev.yes h5 (Ev.now _)
 rw [if_neg h5];refine Ev.no h5 ?_;by_cases h6:n.f1=6
 ·rw [if_pos h6];exact Ev.yes h6 (Ev.now _)
 rw [if_neg h6];refine Ev.no h6 ?_;by_cases h7:n.f1=7
 ·rw [if_pos h7];refine Ev.yes h7 ?_;by_cases hle:numS cs n.f2 key ≤ n.f3
  ·rw [decide_eq_true hle];exact Ev.yes hle (Ev.now _)
  ·rw [decide_eq_false hle,Bool.false_or];exact Ev.no hle (Ev.bind (in19_ev ss cs hst n.f4 key) (Ev.now _))
 rw [if_neg h7];exact Ev.no h7 (Ev.now _)
def addK (acc:List ByteArray) (k:ByteArray):List ByteArray:=if hasB acc k=true then acc else acc ++ [k]
theorem addK_mem (acc:List ByteArray) (k x:ByteArray):x ∈ addK acc k ↔ x ∈ acc ∨ x=k:=by
 unfold addK;by_cases h:hasB acc k=true
 ·rw [if_pos h];constructor
  ·exact fun h=>.inl h
  ·rintro (h2|rfl)
   ·exact h2
   ·exact (inB_iff acc x).1 (by rw [← hasB_inB];exact h)
 ·rw [if_neg h];simp
theorem addK_len (acc:List ByteArray) (k:ByteArray):(addK acc k).length ≤ acc.length + 1:=by
 unfold addK;split
 ·omega
 ·simp
theorem foldK_mem (l:List ByteArray):∀ (acc:List ByteArray) (x:ByteArray),x ∈ l.foldl addK acc ↔ x ∈ acc ∨ x ∈ l:=by
 induction l with
 | nil=>intro acc x;simp
 | cons k r ih=>intro acc x;rw [List.foldl_cons,ih,addK_mem,List.mem_cons];rw [or_assoc]
def keysL (ss:List (List ByteArray)) (cs:List (List Ce)):List ByteArray:=((ss.flatMap id) ++ (cs.flatMap fun l=>l.map (·.f0))).foldl addK []
theorem keysL_mem (ss:List (List ByteArray)) (cs:List (List Ce)) (x:ByteArray):x ∈ keysL ss cs ↔ (∃ l,l ∈ ss∧x ∈ l) ∨ ∃ l,l ∈ cs∧∃ c,c ∈ l∧c.f0=x:=by
 unfold keysL;rw [foldK_mem];simp
theorem keys_ev (ss:List (List ByteArray)) (cs:List (List Ce)) (hst:StOk ss cs) (h0:ss.length ≤ 1000) (h1:cs.length ≤ 1000) (hs:∀ l ∈ ss,l.length ≤ 1000) (ht:∀ l ∈ cs,l.length ≤ 1000):Ev (fun k=>r19_Keys.f k ss cs) (keysL ss cs):=by
 let R (i:Nat) (acc:List ByteArray):List ByteArray:=((cs.drop i).flatMap fun l=>l.map (·.f0)).foldl addK acc;have hcs:∀ (m i:Nat) (acc:List ByteArray),i + m=cs.length → acc.length ≤ 1000 * (1000 + i) → Ev (fun k=>r19_Keys.l2 k acc (i:Int) ss cs) (R i acc):=by
  intro m;induction m with
  | zero =>
   intro i acc hi ha;refine Ev.succ ?_;simp only [r19_Keys.l2];refine Ev.no (by omega) (Ev.is ?_);show _=((cs.drop i).flatMap fun l=>l.map (·.f0)).foldl addK acc;rw [List.drop_of_length_le (by omega)];rfl
  | succ m ih =>
   intro i acc hi ha;refine Ev.succ ?_;simp only [r19_Keys.l2];refine Ev.yes (by omega) ?_;have hl:=ht _ (getD_at cs [] i (by omega));have hR:R i acc=R (i + 1) (((cs.getD i []).map (·.f0)).foldl addK acc):=by
    show ((cs.drop i).flatMap fun l=>l.map (·.f0)).foldl addK acc=((cs.drop (i + 1)).flatMap fun l=>l.map (·.f0)).foldl addK _;rw [drop_getD cs [] i (by omega),List.flatMap_cons,List.foldl_append]
   rw [hR];have hin:∀ (m2 p:Nat) (acc2:List ByteArray),p + m2=(cs.getD i []).length → acc2.length ≤ 1000 * (1000 + i) + p → Ev (fun k=>r19_Keys.l3 k acc2 (i:Int) (p:Int) ss cs) (R (i + 1) ((((cs.getD i []).drop p).map (·.f0)).foldl addK acc2)):=by
    intro m2;induction m2 with
    | zero =>
     intro p acc2 hp ha2;refine Ev.succ ?_;simp only [r19_Keys.l3,rdL_cs];rw [List.drop_of_length_le (by omega),wrap_up i (by omega)];exact Ev.yes (by omega) (Ev.yes (by omega) (Ev.no (by omega) (ih (i + 1) acc2 (by omega) (by omega))))
    | succ m2 ih2 =>
     intro p acc2 hp ha2;refine Ev.succ ?_;simp only [r19_Keys.l3,rdL_cs,rdCe_at];rw [drop_getD (cs.getD i []) z158 p (by omega),wrap_up p (by omega),List.map_cons,List.foldl_cons];generalize ((cs.getD i []).getD p z158).f0=key;refine Ev.yes (by omega) (Ev.yes (by omega) (Ev.yes (by omega) (Ev.yes (by omega) (Ev.bind (at_ev acc2 key (by omega)) ?_))));have hk:=idxI_has acc2 key 0;have hlen:=addK_len acc2 key;have h3:=ih2 (p + 1) (addK acc2 key) (by omega) (by omega);unfold addK at h3 ⊢;cases hb:hasB acc2 key
     ·rw [hb] at hk h3;rw [if_neg (by decide)] at h3 ⊢;exact Ev.yes (by have:=of_decide_eq_false hk;omega) (Ev.yes (by omega) h3)
     ·rw [hb] at hk h3;rw [if_pos rfl] at h3 ⊢;exact Ev.no (by have:=of_decide_eq_true hk;omega) h3
   have h4:=hin (cs.getD i []).length 0 acc (by omega) (by omega);rw [List.drop_zero] at h4;exact h4
 let S (i:Nat) (acc:List ByteArray):List ByteArray:=R 0 (((ss.drop i).flatMap id).foldl addK acc);have hss:∀ (m i:Nat) (acc:List ByteArray),i + m=ss.length → acc.length ≤ 1000 * i → Ev (fun k=>r19_Keys.l0 k acc (i:Int) ss cs) (S i acc):=by
  intro m;induction m with
  | zero =>
   intro i acc hi ha;refine Ev.succ ?_;simp only [r19_Keys.l0];have h5:=hcs cs.length 0 acc (by omega) (by omega);have hS:S i acc=R 0 acc:=by
    show R 0 (((ss.drop i).flatMap id).foldl addK acc)=_;rw [List.drop_of_length_le (by omega)];rfl
   rw [hS];exact Ev.no (by omega) h5
  | succ m ih =>
   intro i acc hi ha;refine Ev.succ ?_;simp only [r19_Keys.l0];refine Ev.yes (by omega) ?_;have hl:=hs _ (getD_at ss [] i (by omega));have hS:S i acc=S (i + 1) ((ss.getD i []).foldl addK acc):=by
    show R 0 (((ss.drop i).flatMap id).foldl addK acc)=R 0 (((ss.drop (i + 1)).flatMap id).foldl addK _);rw [drop_getD ss [] i (by omega),List.flatMap_cons,List.foldl_append];rfl
   rw [hS];have hin:∀ (m2 p:Nat) (acc2:List ByteArray),p + m2=(ss.getD i []).length → acc2.length ≤ 1000 * i + p → Ev (fun k=>r19_Keys.l1 k acc2 (i:Int) (p:Int) ss cs) (S (i + 1) (((ss.getD i []).drop p).foldl addK acc2)):=by
    intro m2;induction m2 with
    | zero =>
     intro p acc2 hp ha2;refine Ev.succ ?_;simp only [r19_Keys.l1,rdL_ss];rw [List.drop_of_length_le (by omega),wrap_up i (by omega)];exact Ev.yes (by omega) (Ev.yes (by omega) (Ev.no (by omega) (ih (i + 1) acc2 (by omega) (by omega))))
    | succ m2 ih2 =>
     intro p acc2 hp ha2;refine Ev.succ ?_;simp only [r19_Keys.l1,rdL_ss,rdOf_at];rw [drop_getD (ss.getD i []) ByteArray.empty p (by omega),wrap_up p (by omega),List.foldl_cons];generalize (ss.getD i []).getD p ByteArray.empty=key;refine Ev.yes (by omega) (Ev.yes (by omega) (Ev.yes (by omega) (Ev.yes (by omega) (Ev.bind (at_ev acc2 key (by omega)) ?_))));have hk:=idxI_has acc2 key 0;have hlen:=addK_len acc2 key;have h3:=ih2 (p + 1) (addK acc2 key) (by omega) (by omega);unfold addK at h3 ⊢;cases hb:hasB acc2 key
     ·rw [hb] at hk h3;rw [if_neg (by decide)] at h3 ⊢;exact Ev.yes (by have:=of_decide_eq_false hk;omega) (Ev.yes (by omega) h3)
     ·rw [hb] at hk h3;rw [if_pos rfl] at h3 ⊢;exact Ev.no (by have:=of_decide_eq_true hk;omega) h3
   have h4:=hin (ss.getD i []).length 0 acc (by omega) (by omega);rw [List.drop_zero] at h4;exact h4
 unfold r19_Keys.f;have h6:=hss ss.length 0 [] (by omega) (by simp);have e:S 0 []=keysL ss cs:=by
  show (((cs.drop 0).flatMap fun l=>l.map (·.f0)).foldl addK (((ss.drop 0).flatMap id).foldl addK []))=_;rw [List.drop_zero,List.drop_zero,← List.foldl_append];rfl
 rw [e] at h6;exact h6
def atB (ss:List (List ByteArray)) (cs:List (List Ce)) (c:Cl) (key:ByteArray):Bool :=
 if c.f0=4 then !inS ss c.f2 key || inS ss c.f3 key else if c.f0=5 then !inS ss c.f2 key || !inS ss c.f3 key else if c.f0=7 then decide (numS cs c.f2 key ≤ c.f4) else if c.f0=8 then decide (numS cs c.f2 key ≥ c.f4)
 else if c.f0=9 then decide (numS cs c.f2 key ≤ 0) || inS ss c.f3 key else true
theorem at19_ev (ss:List (List ByteArray)) (cs:List (List Ce)) (hst:StOk ss cs) (c:Cl) (key:ByteArray):Ev (fun k=>r19_at.f k ss cs c.f0 c.f1 c.f2 c.f3 c.f4 key) (atB ss cs c key):=by
 unfold r19_at.f atB;(have hi:=fun i=>in19_ev ss cs hst i key);(have hn:=fun i=>num19_ev ss cs hst i key);by_cases h4:c.f0=4
 ·rw [if_pos h4];refine Ev.yes h4 (Ev.bind (hi _) ?_);cases inS ss c.f2 key
  ·exact Ev.no (by decide) (Ev.now _)
  ·exact Ev.yes rfl (Ev.bind (hi _) (Ev.is (by simp)))
 rw [if_neg h4];refine Ev.no h4 ?_;by_cases h5:c.f0=5
 ·rw [if_pos h5];refine Ev.yes h5 (Ev.bind (hi _) ?_);cases inS ss c.f2 key
  ·exact Ev.no (by decide) (Ev.now _)
  ·exact Ev.yes rfl (Ev.bind (hi _) (Ev.is (by simp)))
 rw [if_neg h5];refine Ev.no h5 ?_;by_cases h7:c.f0=7
 ·rw [if_pos h7];exact Ev.yes h7 (Ev.bind (hn _) (Ev.now _))
 rw [if_neg h7];refine Ev.no h7 ?_;by_cases h8:c.f0=8
 ·rw [if_pos h8];exact Ev.yes h8 (Ev.bind (hn _) (Ev.now _))
 rw [if_neg h8];refine Ev.no h8 ?_;by_cases h9:c.f0=9
 ·rw [if_pos h9];refine Ev.yes h9 (Ev.bind (hn _) ?_);by_cases h:numS cs c.f2 key ≤ 0
  ·rw [decide_eq_true h];exact Ev.yes h (Ev.now _)
  ·rw [decide_eq_false h];exact Ev.no h (Ev.bind (hi _) (Ev.is (by simp)))
 rw [if_neg h9];exact Ev.no h9 (Ev.now _)
def NumOk (l:List Ce):Prop:=∀ c ∈ l,numL l c.f0=c.f1
theorem numL_case (l:List Ce) (key:ByteArray):numL l key=0 ∨ ∃ c ∈ l,c.f0=key∧numL l key=c.f1:=by
 induction l with
 | nil=>exact .inl rfl
 | cons c r ih =>
  by_cases e:c.f0.toList=key.toList
  ·exact .inr ⟨c,List.mem_cons_self,ba_toList_inj e,if_pos e⟩
  ·rw [numL,if_neg e];rcases ih with h | ⟨d,hd,h1,h2⟩
   ·exact .inl h
   ·exact .inr ⟨d,List.mem_cons_of_mem _ hd,h1,h2⟩
theorem hold19 (ss:List (List ByteArray)) (cs:List (List Ce)) (c:Cl) (hc:clB ss.length cs.length c=true) (h6:c.f0 ≠ 6) (hn:∀ l ∈ cs,NumOk l):(keysL ss cs).all (atB ss cs c)=holdsB ss cs c:=by
 rw [Bool.eq_iff_iff,List.all_eq_true];unfold clB at hc;by_cases h4:c.f0=4
 ·rw [if_pos (.inl h4)] at hc;simp only [Bool.and_eq_true] at hc;have a1:=wB_ok hc.1;have b1:=wB_ok hc.2.1;have hm:=getD_at ss [] c.f2.toNat (by omega);unfold atB holdsB;simp only [if_pos h4,inS,decide_eq_true (show 0 ≤ c.f2∧c.f2 < (ss.length:Int) by omega),decide_eq_true (show 0 ≤ c.f3∧c.f3 < (ss.length:Int) by omega),Bool.true_and];rw [Bool.not_eq_true',List.any_eq_false];constructor
  ·intro h k hk;have:=h k ((keysL_mem ss cs k).2 (.inl ⟨_,hm,hk⟩));rw [(inB_iff _ _).2 hk] at this;simpa using this
  ·intro h k _;cases hb:inB (ss.getD c.f2.toNat []) k
   ·rfl
   ·have:=h k ((inB_iff _ _).1 hb);simpa using this
 by_cases h5:c.f0=5
 ·rw [if_pos (.inr h5)] at hc;simp only [Bool.and_eq_true] at hc;have a1:=wB_ok hc.1;have b1:=wB_ok hc.2.1;have hm:=getD_at ss [] c.f2.toNat (by omega);unfold atB holdsB;simp only [if_neg h4,if_pos h5,inS,decide_eq_true (show 0 ≤ c.f2∧c.f2 < (ss.length:Int) by omega),decide_eq_true (show 0 ≤ c.f3∧c.f3 < (ss.length:Int) by omega),Bool.true_and];rw [Bool.not_eq_true',List.any_eq_false];constructor
  ·intro h k hk;have:=h k ((keysL_mem ss cs k).2 (.inl ⟨_,hm,hk⟩));rw [(inB_iff _ _).2 hk] at this;simpa using this
  ·intro h k _;cases hb:inB (ss.getD c.f2.toNat []) k
   ·rfl
   ·have:=h k ((inB_iff _ _).1 hb);simpa using this
 rw [if_neg (by rintro (h|h) <;> contradiction)] at hc;(have key:∀ x,x ∈ cs.getD c.f2.toNat [] → cs.getD c.f2.toNat [] ∈ cs → x.f0 ∈ keysL ss cs:=fun x hx hm=>(keysL_mem ss cs _).2 (.inr ⟨_,hm,x,hx,rfl⟩));by_cases h9:c.f0=9
 ·rw [if_pos h9] at hc;simp only [Bool.and_eq_true] at hc;have a1:=wB_ok hc.1;have b1:=wB_ok hc.2.1;have hm:=getD_at cs [] c.f2.toNat (by omega);unfold atB holdsB;simp only [if_neg h4,if_neg h5,if_neg (show ¬ c.f0=7 by omega),if_neg (show ¬ c.f0=8 by omega),if_pos h9,if_neg h6,inS,numS,if_pos (show 0 ≤ c.f2∧c.f2 < (cs.length:Int) by omega),decide_eq_true (show 0 ≤ c.f3∧c.f3 < (ss.length:Int) by omega),Bool.true_and];rw [Bool.not_eq_true',List.any_eq_false];constructor
  ·intro h x hx;have:=h x.f0 (key x hx hm);rw [hn _ hm x hx] at this;simp only [Bool.or_eq_true,decide_eq_true_eq] at this;simp only [Bool.and_eq_true,decide_eq_true_eq,Bool.not_eq_true',not_and];intro h0;rcases this with h1|h1
   ·omega
   ·simpa using h1
  ·intro h k _;rcases numL_case (cs.getD c.f2.toNat []) k with e | ⟨d,hd,rfl,e⟩
   ·rw [e];rfl
   ·have:=h d hd;rw [e];simp only [Bool.and_eq_true,decide_eq_true_eq,Bool.not_eq_true',not_and] at this;by_cases h0:d.f1 ≤ 0
    ·rw [decide_eq_true h0];rfl
    ·have h1:=this (by omega);simp only [Bool.not_eq_false] at h1;rw [h1,Bool.or_true]
 rw [if_neg h9,if_neg h6] at hc;by_cases h7:c.f0=7
 ·rw [if_pos h7] at hc;simp only [Bool.and_eq_true] at hc;have a1:=wB_ok hc.1;have b1:=wB_ok hc.2.2.1;have hm:=getD_at cs [] c.f2.toNat (by omega);unfold atB holdsB;simp only [if_neg h4,if_neg h5,if_pos h7,if_neg h6,numS,if_pos (show 0 ≤ c.f2∧c.f2 < (cs.length:Int) by omega)];rw [Bool.not_eq_true',List.any_eq_false];constructor
  ·intro h x hx;have:=h x.f0 (key x hx hm);rw [hn _ hm x hx,decide_eq_true_eq] at this;rw [decide_eq_true_eq];omega
  ·intro h k _;rw [decide_eq_true_eq];rcases numL_case (cs.getD c.f2.toNat []) k with e | ⟨d,hd,rfl,e⟩
   ·rw [e];omega
   ·have:=h d hd;rw [decide_eq_true_eq] at this;rw [e];omega
 rw [if_neg h7] at hc;by_cases h8:c.f0=8
 ·rw [if_pos h8] at hc;simp only [Bool.and_eq_true] at hc;have a1:=wB_ok hc.1;have b1:=wB_ok hc.2.2.1;have hm:=getD_at cs [] c.f2.toNat (by omega);unfold atB holdsB;simp only [if_neg h4,if_neg h5,if_neg h7,if_pos h8,if_neg h6,numS,if_pos (show 0 ≤ c.f2∧c.f2 < (cs.length:Int) by omega)];rw [Bool.not_eq_true',List.any_eq_false];constructor
  ·intro h x hx;have:=h x.f0 (key x hx hm);rw [hn _ hm x hx,decide_eq_true_eq] at this;rw [decide_eq_true_eq];omega
  ·intro h k _;rw [decide_eq_true_eq];rcases numL_case (cs.getD c.f2.toNat []) k with e | ⟨d,hd,rfl,e⟩
   ·rw [e];omega
   ·have:=h d hd;rw [decide_eq_true_eq] at this;rw [e];omega
 rw [if_neg h8] at hc;exact absurd hc (by decide)
theorem holds19_ev (ss:List (List ByteArray)) (cs:List (List Ce)) (hst:StOk ss cs) (h0:ss.length ≤ 1000) (h1:cs.length ≤ 1000) (hs:∀ l ∈ ss,l.length ≤ 1000) (ht:∀ l ∈ cs,l.length ≤ 1000) (hn:∀ l ∈ cs,NumOk l) (c:Cl) (hc:clB ss.length cs.length c=true):Ev (fun k=>r19_Holds.f k ss cs c.f0 c.f1 c.f2 c.f3 c.f4) (holdsB ss cs c):=by
 unfold r19_Holds.f;by_cases h6:c.f0=6
 ·have hc2:=hc;unfold clB at hc2;rw [if_neg (by omega),if_neg (by omega),if_pos h6] at hc2;simp only [Bool.and_eq_true] at hc2;have a1:=wB_ok hc2.1;refine Ev.yes h6 (Ev.yes (by omega) (Ev.yes (by omega) (Ev.is ?_)));unfold holdsB;rw [if_neg (by omega),if_neg (by omega),if_pos h6];rfl
 ·refine Ev.no h6 (Ev.bind (keys_ev ss cs hst h0 h1 hs ht) ?_);rw [← hold19 ss cs c hc h6 hn];have hlen:(keysL ss cs).length ≤ 9000000000000:=by
   have hf:∀ (l acc:List ByteArray),(l.foldl addK acc).length ≤ acc.length + l.length:=by
    intro l;induction l with
    | nil=>intro acc;simp
    | cons k r ih =>
     intro acc;have:=ih (addK acc k);have h2:=addK_len acc k;rw [List.foldl_cons,List.length_cons];omega
   have hfl:∀ {α β:Type} (g:α → List β) (L:List α),(∀ x ∈ L,(g x).length ≤ 4000000000) → (L.flatMap g).length ≤ 4000000000 * L.length:=by
    intro α β g L;induction L with
    | nil=>intro _;simp
    | cons a r ih =>
     intro h;have h2:=h a List.mem_cons_self;(have h3:=ih fun x hx=>h x (List.mem_cons_of_mem _ hx));rw [List.flatMap_cons,List.length_append,List.length_cons];omega
   have e1:=hfl id ss (fun l hl=>hst.2.1 l hl);have e2:=hfl (fun l:List Ce=>l.map (·.f0)) cs (fun l hl=>by rw [List.length_map];exact hst.2.2 l hl);have e3:=hf ((ss.flatMap id) ++ (cs.flatMap fun l=>l.map (·.f0))) [];unfold keysL;rw [List.length_append] at e3;simp only [List.length_nil] at e3;omega
  generalize keysL ss cs=L at *;refine Ev.loop (g:=fun k pos=>r19_Holds.l0 k L (pos:Int) ss cs c.f0 c.f1 c.f2 c.f3 c.f4) (spec:=fun pos=>(L.drop pos).all (atB ss cs c)) L.length ?_ ?_ 0 (by omega)
  ·refine Ev.succ ?_;simp only [r19_Holds.l0,List.drop_length];exact Ev.no (by omega) (Ev.now _)
  ·intro pos hp ih;refine Ev.succ ?_;simp only [r19_Holds.l0,rdOf_at];rw [wrap_up pos (by omega),drop_getD L ByteArray.empty pos hp,List.all_cons];refine Ev.yes (by omega) (Ev.yes (by omega) (Ev.bind (at19_ev ss cs hst c _) ?_));cases atB ss cs c (L.getD pos ByteArray.empty)
   ·exact Ev.no (by decide) (Ev.now _)
   ·exact Ev.yes rfl (by rw [Bool.true_and];exact ih)
theorem broken19_ev (l0 l1 l2:List ByteArray) (l3:List Cl) (l4:List Op_) (hl:l3.length ≤ 1000) (ss:List (List ByteArray)) (cs:List (List Ce)) (hst:StOk ss cs) (h0:ss.length ≤ 1000) (h1:cs.length ≤ 1000) (hs:∀ l ∈ ss,l.length ≤ 1000) (ht:∀ l ∈ cs,l.length ≤ 1000) (hn:∀ l ∈ cs,NumOk l) (hc:∀ c ∈ l3,clB ss.length cs.length c=true) :
  Ev (fun k=>r19_Broken.f k l0 l1 l2 l3 l4 ss cs) (brL l3 ss cs):=by
 unfold r19_Broken.f brL;have h:∀ (m pos:Nat) (acc:List Int),pos + m=l3.length → acc.length ≤ pos → Ev (fun k=>r19_Broken.l0 k acc (pos:Int) l0 l1 l2 l3 l4 ss cs) (acc ++ (((List.range' pos m).filter fun i=>!holdsB ss cs (l3.getD i z85)).map fun (i:Nat)=>(i:Int))):=by
  intro m;induction m with
  | zero =>
   intro pos acc hp ha;refine Ev.succ ?_;simp only [r19_Broken.l0];exact Ev.no (by omega) (Ev.is (by simp))
  | succ m ih =>
   intro pos acc hp ha;refine Ev.succ ?_;simp only [r19_Broken.l0,rdCl_at];have hm:=getD_at l3 z85 pos (by omega);rw [wrap_up pos (by omega),List.range'_succ,List.filter_cons];refine Ev.yes (by omega) (Ev.yes (by omega) (Ev.bind (holds19_ev ss cs hst h0 h1 hs ht hn _ (hc _ hm)) ?_));cases hh:holdsB ss cs (l3.getD pos z85)
   ·rw [if_pos (show (!false)=true from rfl)];refine Ev.no (by decide) (Ev.yes (by omega) ?_);have h2:=ih (pos + 1) (acc ++ [(pos:Int)]) (by omega) (by simp;omega);rw [List.map_cons];rwa [List.append_assoc,List.singleton_append] at h2
   ·rw [if_neg (show ¬ (!true)=true by decide)];exact Ev.yes rfl (ih (pos + 1) acc (by omega) (by omega))
 have h3:=h l3.length 0 [] (by omega) (by simp);rw [List.range_eq_range'];simpa using h3
theorem nd20_of (l4:List Op_) (hd:DoOk l4) (o:Int) (c:Cl) (hc : -1000 ≤ c.f4∧c.f4 ≤ 1000):nd20 c.f0 c.f2 c.f3 c.f4 (makeN l4 o c.f2) (makeN l4 o c.f3) (moreN l4 o c.f2)=(0,ofN l4 o c):=by
 have ha:=makeL_is (doesO l4 o) c.f2;have hb:=makeL_is (doesO l4 o) c.f3;have ml:=moreN_le l4 hd.2 o c.f2;unfold ofN refN bothN needsN nd20;rw [show makeL (doesO l4 o) c.f2=makeN l4 o c.f2 from rfl] at ha;rw [show makeL (doesO l4 o) c.f3=makeN l4 o c.f3 from rfl] at hb;(have w1:wrap64 (c.f4 - moreN l4 o c.f2)=c.f4 - moreN l4 o c.f2:=by unfold wrap64;omega);(have w2:wrap64 (-moreN l4 o c.f2) = -moreN l4 o c.f2:=by unfold wrap64;omega);rw [w1,w2];clear w1 w2 ml;generalize makeN l4 o c.f2=a at *;generalize makeN l4 o c.f3=b at *;generalize moreN l4 o c.f2=d at *;by_cases h4:c.f0=4
 ·simp only [h4];rcases ha with rfl|rfl|rfl <;> rcases hb with rfl|rfl|rfl <;> simp
 by_cases h5:c.f0=5
 ·simp only [h5];rcases ha with rfl|rfl|rfl <;> rcases hb with rfl|rfl|rfl <;> simp
 by_cases h6:c.f0=6
 ·simp only [h6];rcases ha with rfl|rfl|rfl <;> simp
 by_cases h7:c.f0=7
 ·simp only [h7];by_cases hd:d > 0 <;> simp [hd]
 by_cases h8:c.f0=8
 ·simp only [h8];by_cases hd:d < 0 <;> simp [hd]
 by_cases h9:c.f0=9
 ·simp only [h9];rcases hb with rfl|rfl|rfl <;> by_cases hd:d > 0 <;> simp [hd]
 simp [h4,h5,h6,h7,h8,h9]
theorem needs20_ev (l0 l1 l2:List ByteArray) (l3:List Cl) (l4:List Op_) (hl:l3.length ≤ 1000) (hd:DoOk l4) (hc:∀ c ∈ l3,-1000 ≤ c.f4∧c.f4 ≤ 1000) (o:Int):Ev (fun k=>r20_Needs.f k l0 l1 l2 l3 l4 o) (needsR l4 o l3 0):=by
 unfold r20_Needs.f;have hk:∀ c:Cl,0 ≤ (ofN l4 o c).1:=fun c=>by
  unfold ofN refN bothN needsN;(repeat' split);all_goals first|decide|simp
 have h:∀ (m pos:Nat) (acc:List Nd),pos + m=l3.length → acc.length ≤ pos → Ev (fun k=>r20_Needs.l0 k o acc (pos:Int) l0 l1 l2 l3 l4) (acc ++ needsR l4 o (l3.drop pos) pos):=by
  intro m;induction m with
  | zero =>
   intro pos acc hp ha;(obtain rfl:pos=l3.length:=by omega);refine Ev.succ ?_;simp only [r20_Needs.l0,List.drop_length];exact Ev.no (by omega) (Ev.is (by simp [needsR]))
  | succ m ih =>
   intro pos acc hp ha;refine Ev.succ ?_;simp only [r20_Needs.l0,rdCl_at];have hm:=getD_at l3 z85 pos (by omega);rw [wrap_up pos (by omega),drop_getD l3 z85 pos (by omega),needsR];have hcl:=hc _ hm;generalize l3.getD pos z85=c at *;have hz0:=hk c;refine Ev.yes (by omega) (Ev.yes (by omega) (Ev.bind1 (show r20_Need.f l0 l1 l2 l3 l4 o c.f0 c.f1 c.f2 c.f3 c.f4=some (0,ofN l4 o c) by unfold r20_Need.f;rw [if_pos hd,nd20_of l4 hd o c hcl]) ?_));by_cases hz:(ofN l4 o c).1=0
   ·rw [if_pos hz];exact Ev.no (by rw [hz];decide) (ih (pos + 1) acc (by omega) (by omega))
   ·rw [if_neg hz];refine Ev.yes (show (ofN l4 o c).1 > 0 by omega) (Ev.yes (by omega) ?_);have h2:=ih (pos + 1) (acc ++ [⟨(pos:Int),(ofN l4 o c).1,(ofN l4 o c).2.1,(ofN l4 o c).2.2.1,(ofN l4 o c).2.2.2⟩]) (by omega) (by simp;omega);rwa [List.append_assoc,List.singleton_append] at h2
 have h3:=h l3.length 0 [] (by omega) (by simp);simpa using h3
theorem needsR_pos (l4:List Op_) (o:Int):∀ (l:List Cl) (i:Nat),∀ n ∈ needsR l4 o l i,0 ≤ n.f0
 | [],_=>fun n hn=>by simp [needsR] at hn
 | c :: r,i=>fun n hn=>by
  rw [needsR] at hn;split at hn
  ·exact needsR_pos l4 o r (i + 1) n hn
  ·rcases List.mem_cons.1 hn with rfl|hn
   ·simp
   ·exact needsR_pos l4 o r (i + 1) n hn
theorem firstM_neg (ss:List (List ByteArray)) (cs:List (List Ce)) (key:ByteArray) (L:List Nd) (h:∀ n ∈ L,0 ≤ n.f0):decide (firstM ss cs key L < 0)=L.all (metB ss cs key):=by
 induction L with
 | nil=>rfl
 | cons n r ih =>
  rw [firstM,List.all_cons];cases hm:metB ss cs key n
  ·rw [if_neg (by decide),Bool.false_and,decide_eq_false (by have:=h n List.mem_cons_self;omega)]
  ·rw [if_pos rfl,Bool.true_and];exact ih fun x hx=>h x (List.mem_cons_of_mem _ hx)
theorem numOk_wC (l:List Int):∀ x ∈ wC l,NumOk x:=by
 intro x hx c hc;rcases wC_mem hx with rfl | ⟨n,_,_,rfl⟩
 ·cases hc
 ·rcases List.mem_cons.1 hc with rfl|h
  ·simp [numL]
  ·cases h
theorem wS_small (l:List Bool):∀ x ∈ wS l,x.length ≤ 1000:=by
 intro x hx;rcases wS_mem hx with rfl|rfl <;> simp
theorem wC_small (l:List Int):∀ x ∈ wC l,x.length ≤ 1000:=by
 intro x hx;rcases wC_mem hx with rfl | ⟨n,_,_,rfl⟩ <;> simp
theorem free21_ev (l0 l1 l2:List ByteArray) (l3:List Cl) (l4:List Op_) (hl:l3.length ≤ 1000) (hd:DoOk l4) (hc:∀ c ∈ l3,-1000 ≤ c.f4∧c.f4 ≤ 1000) (s:Sm) (h0:s.f0.length ≤ 1000) (h1:s.f1.length ≤ 1000)
  (hcl:∀ c ∈ l3,clB s.f0.length s.f1.length c=true) (o:Int):Ev (fun k=>r21_free.f k l0 l1 l2 l3 l4 (wS s.f0) (wC s.f1) o) (freeN l3 l4 s o):=by
 have hst:=wide_ok s h0 h1;unfold r21_free.f;refine Ev.bind (needs20_ev l0 l1 l2 l3 l4 hl hd hc o) ?_;have e:freeN l3 l4 s o=((needsR l4 o l3 0).all (metB (wS s.f0) (wC s.f1) kB) && ((brL l3 (wS s.f0) (wC s.f1)).length:Int) == 0):=by
  unfold freeN firstN;by_cases hb:brL l3 (wS s.f0) (wC s.f1) = []
  ·rw [if_pos hb,firstM_neg _ _ _ _ (needsR_pos l4 o l3 0),hb];simp
  ·rw [if_neg hb];have:(((brL l3 (wS s.f0) (wC s.f1)).length:Int) == 0)=false:=by
    rw [beq_eq_false_iff_ne];intro h;exact hb (List.length_eq_zero_iff.1 (by omega))
   rw [this,Bool.and_false];rfl
 rw [e];have hlen:=needsR_len l4 o l3 0;have hbr:=broken19_ev l0 l1 l2 l3 l4 hl (wS s.f0) (wC s.f1) hst (by rw [wS_len];exact h0) (by rw [wC_len];exact h1) (wS_small _) (wC_small _) (numOk_wC _) (by rw [wS_len,wC_len];exact hcl);generalize needsR l4 o l3 0=L at *;generalize brL l3 (wS s.f0) (wC s.f1)=B at *;refine Ev.loop (g:=fun k pos=>r21_free.l0 k L (pos:Int) l0 l1 l2 l3 l4 (wS s.f0) (wC s.f1)) (spec:=fun pos=>(L.drop pos).all (metB (wS s.f0) (wC s.f1) kB) && ((B.length:Int) == 0)) L.length ?_ ?_ 0 (by omega)
 ·refine Ev.succ ?_;simp only [r21_free.l0,List.drop_length];exact Ev.no (by omega) (Ev.bind hbr (Ev.is rfl))
 ·intro pos hp ih;refine Ev.succ ?_;simp only [r21_free.l0];(have hrd:rd_T127 L (pos:Int)=L.getD pos z127:=by simp [rd_T127]);rw [hrd,wrap_up pos (by omega),drop_getD L z127 pos hp,List.all_cons];refine Ev.yes (by omega) (Ev.yes (by omega) (Ev.bind (met20_ev _ _ hst kB (L.getD pos z127)) ?_));cases metB (wS s.f0) (wC s.f1) kB (L.getD pos z127)
  ·exact Ev.no (by decide) (Ev.is (by simp))
  ·exact Ev.yes rfl (by rw [Bool.true_and];exact ih)
theorem putNil_ev (b:Bool):Ev (fun k=>r19_Put.f k [] kB b) (if b=true then [kB] else []):=by
 unfold r19_Put.f;refine Ev.succ ?_;simp only [r19_Put.l0];refine Ev.no (by simp) ?_;cases b
 ·exact Ev.no (by decide) (Ev.now _)
 ·exact Ev.yes rfl (Ev.yes (by simp) (Ev.now _))
theorem setNil_ev (n:Int):Ev (fun k=>r10_Set.f k [] kB n) (if n=0 then [] else [⟨kB,n⟩]):=by
 unfold r10_Set.f;refine Ev.succ ?_;simp only [r10_Set.l0];refine Ev.no (by simp) ?_;by_cases h:n=0
 ·rw [if_pos h];exact Ev.yes (by rw [h];rfl) (Ev.now _)
 ·rw [if_neg h];exact Ev.no (by simpa using h) (Ev.yes (by simp) (Ev.now _))
theorem wide21_ev (l0 l1 l2:List ByteArray) (l3:List Cl) (l4:List Op_) (s:Sm) (e0:s.f0.length=l0.length) (e1:s.f1.length=l1.length) (h0:s.f0.length ≤ 1000) (h1:s.f1.length ≤ 1000) :
  Ev (fun k=>r21_Wide.f k l0 l1 l2 l3 l4 s.f0 s.f1) (wS s.f0,wC s.f1):=by
 obtain ⟨f0,f1⟩:=s;simp only at e0 e1 h0 h1 ⊢;have hcs:Ev (fun k=>r21_Wide.l1 k ((0:Nat):Int) f0 f1 (wS f0) (wC (f1.take 0) ++ List.replicate (f1.length - 0) [])) (wS f0,wC f1):=by
  refine Ev.loop (g:=fun k pos=>r21_Wide.l1 k (pos:Int) f0 f1 (wS f0) (wC (f1.take pos) ++ List.replicate (f1.length - pos) [])) (spec:=fun _=>(wS f0,wC f1)) f1.length ?_ ?_ 0 (by omega)
  ·refine Ev.succ ?_;simp only [r21_Wide.l1,List.take_length,Nat.sub_self,List.replicate_zero,List.append_nil];exact Ev.no (by omega) (Ev.now _)
  ·intro pos hp ih;refine Ev.succ ?_;simp only [r21_Wide.l1];(have hrd:rd f1 (pos:Int)=f1.getD pos 0:=by simp [rd]);rw [hrd,wrap_up pos (by omega)];(have hlen:(wC (f1.take pos)).length=pos:=by simp [wC];omega);have hrep:List.replicate (f1.length - pos) ([]:List Ce) = [] :: List.replicate (f1.length - (pos + 1)) []:=by
    rw [show f1.length - pos=(f1.length - (pos + 1)) + 1 by omega,List.replicate_succ]
   have htk:wC (f1.take (pos + 1))=wC (f1.take pos) ++ [if f1.getD pos 0=0 then [] else [⟨kB,f1.getD pos 0⟩]]:=by
    unfold wC;rw [List.take_succ_eq_append_getElem hp,List.map_append];simp [List.getD,hp]
   rw [htk,List.append_assoc,List.singleton_append] at ih;refine Ev.yes (by omega) (Ev.yes (by omega) (Ev.bind (setNil_ev _) (Ev.yes (by rw [List.length_append,hlen,List.length_replicate];omega) ?_)));have hset:∀ y:List Ce,(wC (f1.take pos) ++ List.replicate (f1.length - pos) []).set ((pos:Int)).toNat y=wC (f1.take pos) ++ y :: List.replicate (f1.length - (pos + 1)) []:=fun y=>by
    rw [hrep,Int.toNat_natCast];have:=set_mid (wC (f1.take pos)) [] y (List.replicate (f1.length - (pos + 1)) []);rw [hlen] at this;exact this
   rw [hset];exact ih
 have hss:Ev (fun k=>r21_Wide.l0 k ((0:Nat):Int) f0 f1 (wS (f0.take 0) ++ List.replicate (f0.length - 0) []) (wC (f1.take 0) ++ List.replicate (f1.length - 0) [])) (wS f0,wC f1):=by
  refine Ev.loop (g:=fun k pos=>r21_Wide.l0 k (pos:Int) f0 f1 (wS (f0.take pos) ++ List.replicate (f0.length - pos) []) (wC (f1.take 0) ++ List.replicate (f1.length - 0) [])) (spec:=fun _=>(wS f0,wC f1)) f0.length ?_ ?_ 0 (by omega)
  ·refine Ev.succ ?_;simp only [r21_Wide.l0,List.take_length,Nat.sub_self,List.replicate_zero,List.append_nil];exact Ev.no (by omega) hcs
  ·intro pos hp ih;refine Ev.succ ?_;simp only [r21_Wide.l0,rdOf_at];rw [wrap_up pos (by omega)];(have hlen:(wS (f0.take pos)).length=pos:=by simp [wS];omega);have hrep:List.replicate (f0.length - pos) ([]:List ByteArray) = [] :: List.replicate (f0.length - (pos + 1)) []:=by
    rw [show f0.length - pos=(f0.length - (pos + 1)) + 1 by omega,List.replicate_succ]
   have htk:wS (f0.take (pos + 1))=wS (f0.take pos) ++ [if f0.getD pos false=true then [kB] else []]:=by
    unfold wS;rw [List.take_succ_eq_append_getElem hp,List.map_append];simp [List.getD,hp]
   rw [htk,List.append_assoc,List.singleton_append] at ih;refine Ev.yes (by omega) (Ev.yes (by omega) (Ev.bind (putNil_ev _) (Ev.yes (by rw [List.length_append,hlen,List.length_replicate];omega) ?_)));have hset:∀ y:List ByteArray,(wS (f0.take pos) ++ List.replicate (f0.length - pos) []).set ((pos:Int)).toNat y=wS (f0.take pos) ++ y :: List.replicate (f0.length - (pos + 1)) []:=fun y=>by
    rw [hrep,Int.toNat_natCast];have:=set_mid (wS (f0.take pos)) [] y (List.replicate (f0.length - (pos + 1)) []);rw [hlen] at this;exact this
   rw [hset];exact ih
 unfold r21_Wide.f r19_New.f;rw [if_pos (by omega),if_pos (by rw [Int.toNat_natCast];omega),if_pos (by omega),if_pos (by rw [Int.toNat_natCast];omega),Int.toNat_natCast,Int.toNat_natCast,← e0,← e1];refine Ev.bind1 rfl ?_;simpa [wS,wC] using hss
end Go.Proofs.YtjbjbeihkoeciaaGreat.X
namespace Go.Proofs.YtjbjbeihkoeciaaGreat.X
open Go.RowKit Go.Proofs.YtjbjbeihkoeciaaGreatW.PrintWords Go.ChangeShapes Go.WideShapes Go.Deep
theorem list_of {α:Type} {R:Nat → α → Prop}:∀ n:Nat,(∀ i,i < n → ∃ z,R i z) → ∃ zs:List α,zs.length=n∧∀ j p,zs[j]? = some p → R j p:=by
 intro n;induction n with
 | zero=>intro _;exact ⟨[],rfl,fun j p h=>by simp at h⟩
 | succ n ih =>
  intro h;obtain ⟨zs,hl,hz⟩:=ih (fun i hi=>h i (by omega));obtain ⟨z,hr⟩:=h n (by omega);refine ⟨zs ++ [z],by simp [hl],fun j p hj=>?_⟩;rcases Nat.lt_trichotomy j n with h1|h1|h1
  ·rw [List.getElem?_append_left (by omega)] at hj;exact hz j p hj
  ·subst h1;rw [List.getElem?_append_right (by omega),hl,Nat.sub_self] at hj;injection hj with hj;subst hj;exact hr
  ·rw [List.getElem?_eq_none (by simp [hl];omega)] at hj;cases hj
theorem struct_fields {H:Type} {enc:TypeId × Value → H} {P:Program} {w:World} {base:Nat} {spare:Nat → Bool} {held:Bool} {m:Nat} {fs:Array Field} {cs:List Value} {xs:List (DataW H × List MemPlace)} (hone:oneCellFields P fs=true)
  (hf:∀ (i:Nat) (f:Field),fs[i]? = some f → DataW.trod enc P w base spare held m f.type ((cs.drop f.offset).take (P.cellsOf f.type))=xs[i]?) :
  ∀ (i:Nat) (f:Field),fs[i]? = some f → DataW.trod enc P w base spare held m f.type ((cs.drop i).take 1)=xs[i]?:=by
 intro i f hi;have h1:=hf i f hi;obtain ⟨ho,hk⟩:=hone_of hone i f hi;rw [ho,hk] at h1;exact h1
theorem take1 {cs:List Value} {i:Nat} {v:Value} (h:(cs.drop i).take 1 = [v]):cs[i]? = some v:=by
 have:=congrArg (fun l=>l[0]?) h;simpa using this
end Go.Proofs.YtjbjbeihkoeciaaGreat.X
namespace Go.Proofs.YtjbjbeihkoeciaaGreat.X
open Go.RowKit Go.Proofs.YtjbjbeihkoeciaaGreatW.PrintWords Go.ChangeShapes Go.WideShapes Go.Deep
theorem open_rowK {H:Type} {enc:TypeId × Value → H} {P:Program} {w:World} {spare:Nat → Bool} {held:Bool} {t e:TypeId} {α:Type} (d:Kd α) (good:α → Prop) (hsz:P.cellsOf e=d.sz)
  (ht:P.underlying t=some (.slice e)) (hel:∀ (n:Nat) (cs:List Value) (x:DataW H × List MemPlace),DataW.trod enc P w 0 spare held n e cs=some x → ∃ z:α,d.K w z cs∧good z)
  (n:Nat) (cs:List Value) (x:DataW H × List MemPlace) (h:DataW.trod enc P w 0 spare held n t cs=some x) :
  ∃ (zs:List α) (A:Option Addr) (c:Nat),cs = [.slice A zs.length c]∧zs.length ≤ c∧Kd.C d w A zs.length zs∧∀ z ∈ zs,good z:=by
 rcases open_slice ht h with ⟨hcs,_⟩ | ⟨a,l,c,m,n',D,Pl,hcs,_,hl,hm,hmm,_,hi⟩
 ·exact ⟨[],none,0,hcs,Nat.le_refl 0,⟨rfl,Nat.zero_le _,fun h=>absurd h (by simp)⟩,fun z hz=>by simp at hz⟩
 ·(have hlm:l ≤ m:=by rw [hmm];split <;> omega);obtain ⟨zs,hzl,hz⟩:=list_of (R:=fun i z=>good z∧∃ cs',cs'.length=d.sz∧d.K w z cs'∧∀ j u,cs'[j]? = some u → w.cell? (a.add (i * d.sz + j))=some u) l (fun i hil=>by
   obtain ⟨cs',hc,hd⟩:=hi i (by omega)
   obtain ⟨z,hk,hg⟩:=hel n' cs' _ hd
   rw [hsz] at hc
   obtain ⟨_,hlen,hat⟩:=World.cells?_some hc
   refine ⟨z,hg,cs',hlen,hk,fun j u hj=>?_⟩
   have hjl:j < d.sz:=by rw [← hlen];exact (List.getElem?_eq_some_iff.1 hj).1
   have:=hat j hjl
   rw [Go.Deep.add_add] at this
   rw [this,hj])
  subst hzl;refine ⟨zs,some a,c,hcs,hl,⟨rfl,?_,fun _=>⟨a,rfl,fun j p hj=>(hz j p hj).2⟩⟩,fun z hz'=>?_⟩
  ·simp only [maxLen] at hm;omega
  ·obtain ⟨j,hj,rfl⟩:=List.mem_iff_getElem.1 hz';exact (hz j _ (List.getElem?_eq_getElem hj)).1
def goodStr (s:ByteArray):Prop:=s.size ≤ maxLen
def goodCl (c:Cl):Prop:=(Lit.int .i64 c.f0).wf=true∧(Lit.int .i64 c.f2).wf=true∧(Lit.int .i64 c.f3).wf=true∧(Lit.int .i64 c.f4).wf=true
def goodDg (d:Dg):Prop:=(Lit.int .i64 d.f0).wf=true∧(Lit.int .i64 d.f1).wf=true∧(Lit.int .i64 d.f2).wf=true
def goodOp (o:Op_):Prop:=goodStr o.f0∧∀ d ∈ o.f1,goodDg d
section
variable {H:Type} {enc:TypeId × Value → H} {w:World} {spare:Nat → Bool} {held:Bool}
theorem openStr (n:Nat) (cs:List Value) (x:DataW H × List MemPlace) (h:DataW.trod enc Tryz.prog w 0 spare held n 9 cs=some x):∃ z:ByteArray,Kd.string.K w z cs∧goodStr z:=by
 obtain ⟨s,rfl,_,hs⟩:=DataW.trod_string Tryz.underlying9 h;exact ⟨s,rfl,hs⟩
theorem openCl (n:Nat) (cs:List Value) (x:DataW H × List MemPlace) (h:DataW.trod enc Tryz.prog w 0 spare held n 85 cs=some x):∃ z:Cl,k85.K w z cs∧goodCl z:=by
 obtain ⟨xs,m,rfl,rfl,hl,hxl,hf⟩:=DataW.trod_struct Tryz.underlying85 h;have hl':cs.length=5:=hl.trans (by kernel_rfl);have hxl':xs.length=5:=hxl;have hf':=struct_fields (by kernel_rfl) hf;have e0:=hf' 0 _ rfl;rw [List.getElem?_eq_getElem (by omega)] at e0;obtain ⟨s0,g0,_,w0⟩:=DataW.trod_int Tryz.underlying3 e0;have c0:cs[0]? = some (.int .i64 s0):=take1 g0;have e1:=hf' 1 _ rfl;rw [List.getElem?_eq_getElem (by omega)] at e1;obtain ⟨s1,g1,_⟩:=DataW.trod_bool Tryz.underlying4 e1;have c1:cs[1]? = some (.bool s1):=take1 g1;have e2:=hf' 2 _ rfl;rw [List.getElem?_eq_getElem (by omega)] at e2;obtain ⟨s2,g2,_,w2⟩:=DataW.trod_int Tryz.underlying3 e2;have c2:cs[2]? = some (.int .i64 s2):=take1 g2;have e3:=hf' 3 _ rfl;rw [List.getElem?_eq_getElem (by omega)] at e3;obtain ⟨s3,g3,_,w3⟩:=DataW.trod_int Tryz.underlying3 e3;have c3:cs[3]? = some (.int .i64 s3):=take1 g3;have e4:=hf' 4 _ rfl;rw [List.getElem?_eq_getElem (by omega)] at e4;obtain ⟨s4,g4,_,w4⟩:=DataW.trod_int Tryz.underlying3 e4;have c4:cs[4]? = some (.int .i64 s4):=take1 g4;have he:cs = [.int .i64 s0,.bool s1,.int .i64 s2,.int .i64 s3,.int .i64 s4]:=by
  apply List.ext_getElem?;intro j;rcases j with _|_|_|_|_|j
  ·exact c0
  ·exact c1
  ·exact c2
  ·exact c3
  ·exact c4
  ·rw [List.getElem?_eq_none (by omega)];rfl
 exact ⟨⟨s0,s1,s2,s3,s4⟩,he ▸ k85_mk w ⟨s0,s1,s2,s3,s4⟩,w0,w2,w3,w4⟩
theorem openDg (n:Nat) (cs:List Value) (x:DataW H × List MemPlace) (h:DataW.trod enc Tryz.prog w 0 spare held n 94 cs=some x):∃ z:Dg,k94.K w z cs∧goodDg z:=by
 obtain ⟨xs,m,rfl,rfl,hl,hxl,hf⟩:=DataW.trod_struct Tryz.underlying94 h;have hl':cs.length=3:=hl.trans (by kernel_rfl);have hxl':xs.length=3:=hxl;have hf':=struct_fields (by kernel_rfl) hf;have e0:=hf' 0 _ rfl;rw [List.getElem?_eq_getElem (by omega)] at e0;obtain ⟨s0,g0,_,w0⟩:=DataW.trod_int Tryz.underlying3 e0;have c0:cs[0]? = some (.int .i64 s0):=take1 g0;have e1:=hf' 1 _ rfl;rw [List.getElem?_eq_getElem (by omega)] at e1;obtain ⟨s1,g1,_,w1⟩:=DataW.trod_int Tryz.underlying3 e1;have c1:cs[1]? = some (.int .i64 s1):=take1 g1;have e2:=hf' 2 _ rfl;rw [List.getElem?_eq_getElem (by omega)] at e2;obtain ⟨s2,g2,_,w2⟩:=DataW.trod_int Tryz.underlying3 e2;have c2:cs[2]? = some (.int .i64 s2):=take1 g2;have he:cs = [.int .i64 s0,.int .i64 s1,.int .i64 s2]:=by
  apply List.ext_getElem?;intro j;rcases j with _|_|_|j
  ·exact c0
  ·exact c1
  ·exact c2
  ·rw [List.getElem?_eq_none (by omega)];rfl
 exact ⟨⟨s0,s1,s2⟩,he ▸ k94_mk w ⟨s0,s1,s2⟩,w0,w1,w2⟩
theorem openOp (n:Nat) (cs:List Value) (x:DataW H × List MemPlace) (h:DataW.trod enc Tryz.prog w 0 spare held n 89 cs=some x):∃ z:Op_,k89.K w z cs∧goodOp z:=by
 obtain ⟨xs,m,rfl,rfl,hl,hxl,hf⟩:=DataW.trod_struct Tryz.underlying89 h;have hl':cs.length=2:=hl.trans (by kernel_rfl);have hxl':xs.length=2:=hxl;have hf':=struct_fields (by kernel_rfl) hf;have e0:=hf' 0 _ rfl;rw [List.getElem?_eq_getElem (by omega)] at e0;obtain ⟨s0,g0,_,w0⟩:=DataW.trod_string Tryz.underlying9 e0;have c0:cs[0]? = some (.string s0):=take1 g0;have e1:=hf' 1 _ rfl;rw [List.getElem?_eq_getElem (by omega)] at e1;obtain ⟨zs,A,c,g1,lc,hC,hg⟩:=open_rowK k94 goodDg (by kernel_rfl) Tryz.underlying87 openDg _ _ _ e1;have c1:cs[1]? = some (.slice A zs.length c):=take1 g1;have he:cs = [.string s0,.slice A zs.length c]:=by
  apply List.ext_getElem?;intro j;rcases j with _|_|j
  ·exact c0
  ·exact c1
  ·rw [List.getElem?_eq_none (by omega)];rfl
 exact ⟨⟨s0,zs⟩,he ▸ k89_mk w ⟨s0,zs⟩ lc hC,w0,hg⟩
theorem openRules (n:Nat) (cs:List Value) (x:DataW H × List MemPlace) (h:DataW.trod enc Tryz.prog w 0 spare held n 26 cs=some x) :
  ∃ (l0 l1 l2:List ByteArray) (l3:List Cl) (l4:List Op_) (A0 A1 A2 A3 A4:Option Addr) (c0 c1 c2 c3 c4:Nat),
   cs = [.slice A0 l0.length c0,.slice A1 l1.length c1,.slice A2 l2.length c2,.slice A3 l3.length c3,.slice A4 l4.length c4] ∧
   Kd.C Kd.string w A0 l0.length l0∧l0.length ≤ c0∧Kd.C Kd.string w A1 l1.length l1∧l1.length ≤ c1∧Kd.C Kd.string w A2 l2.length l2∧l2.length ≤ c2 ∧
   Kd.C k85 w A3 l3.length l3∧l3.length ≤ c3∧Kd.C k89 w A4 l4.length l4∧l4.length ≤ c4 ∧
   (∀ s ∈ l0,goodStr s)∧(∀ s ∈ l1,goodStr s)∧(∀ s ∈ l2,goodStr s)∧(∀ c ∈ l3,goodCl c)∧∀ o ∈ l4,goodOp o:=by
 obtain ⟨xs,m,rfl,rfl,hl,hxl,hf⟩:=DataW.trod_struct Tryz.underlying26 h;have hl':cs.length=5:=hl.trans (by kernel_rfl);have hxl':xs.length=5:=hxl;have hf':=struct_fields (by kernel_rfl) hf;have e0:=hf' 0 _ rfl;rw [List.getElem?_eq_getElem (by omega)] at e0;obtain ⟨l0,A0,c0,g0,le0,C0,ok0⟩:=open_rowK Kd.string goodStr (by kernel_rfl) Tryz.underlying22 openStr _ _ _ e0;have y0:=take1 g0;have e1:=hf' 1 _ rfl;rw [List.getElem?_eq_getElem (by omega)] at e1;obtain ⟨l1,A1,c1,g1,le1,C1,ok1⟩:=open_rowK Kd.string goodStr (by kernel_rfl) Tryz.underlying22 openStr _ _ _ e1;have y1:=take1 g1;have e2:=hf' 2 _ rfl;rw [List.getElem?_eq_getElem (by omega)] at e2;obtain ⟨l2,A2,c2,g2,le2,C2,ok2⟩:=open_rowK Kd.string goodStr (by kernel_rfl) Tryz.underlying22 openStr _ _ _ e2;have y2:=take1 g2;have e3:=hf' 3 _ rfl;rw [List.getElem?_eq_getElem (by omega)] at e3;obtain ⟨l3,A3,c3,g3,le3,C3,ok3⟩:=open_rowK k85 goodCl (by kernel_rfl) Tryz.underlying23 openCl _ _ _ e3;have y3:=take1 g3;have e4:=hf' 4 _ rfl;rw [List.getElem?_eq_getElem (by omega)] at e4;obtain ⟨l4,A4,c4,g4,le4,C4,ok4⟩:=open_rowK k89 goodOp (by kernel_rfl) Tryz.underlying24 openOp _ _ _ e4;have y4:=take1 g4;refine ⟨l0,l1,l2,l3,l4,A0,A1,A2,A3,A4,c0,c1,c2,c3,c4,?_,C0,le0,C1,le1,C2,le2,C3,le3,C4,le4,ok0,ok1,ok2,ok3,ok4⟩;apply List.ext_getElem?;intro j;rcases j with _|_|_|_|_|j
 ·exact y0
 ·exact y1
 ·exact y2
 ·exact y3
 ·exact y4
 ·rw [List.getElem?_eq_none (by omega)];rfl
end
end Go.Proofs.YtjbjbeihkoeciaaGreat.X
namespace Go.Proofs.YtjbjbeihkoeciaaGreat.X
open Go.RowKit Go.Proofs.YtjbjbeihkoeciaaGreatW.PrintWords Go.Proofs.YtjbjbeihkoeciaaGreatW.PrintLast Go.Proofs.YtjbjbeihkoeciaaGreatW.PrintMore
theorem same21_ev (a0:List Bool) (a1:List Int) (b0:List Bool) (b1:List Int) (h0:a0.length ≤ 4000000000) (h1:a1.length ≤ 4000000000) :
  Ev (fun k=>r21_Same.f k a0 a1 b0 b1) (decide (a0=b0∧a1=b1)):=by
 unfold r21_Same.f;have hj:∀ b,b=true → ¬ (a0=b0∧a1=b1) → Ev (fun k=>r21_Same.j0 k b a0 a1 b0 b1) (decide (a0=b0∧a1=b1)):=by
  rintro b rfl hn;refine Ev.succ ?_;simp only [r21_Same.j0];exact Ev.yes (by first|trivial|rfl) (Ev.is (decide_eq_false hn).symm)
 by_cases e0:a0.length=b0.length
 ·refine Ev.yes (by omega) ?_;by_cases e1:a1.length=b1.length
  ·(have hb:((a1.length:Int) != (b1.length:Int))=false:=by simp;omega);rw [hb];refine Ev.succ ?_;simp only [r21_Same.j0];refine Ev.no (by decide) ?_;have h1:∀ pos,pos ≤ a1.length → Ev (fun k=>r21_Same.l1 k (pos:Int) a0 a1 b0 b1) (decide (a1.drop pos=b1.drop pos)):=by
    intro pos hp;refine Ev.loop (g:=fun k pos=>r21_Same.l1 k (pos:Int) a0 a1 b0 b1) (spec:=fun pos=>decide (a1.drop pos=b1.drop pos)) a1.length ?_ ?_ pos hp
    ·refine Ev.succ ?_;simp only [r21_Same.l1];exact Ev.no (by omega) (Ev.is (by simp [List.drop_eq_nil_of_le,e1]))
    ·intro pos hlt ih;refine Ev.succ ?_;simp only [r21_Same.l1];refine Ev.yes (by omega) (Ev.yes (by omega) (Ev.yes (by omega) ?_));(have r1:rd a1 (pos:Int)=a1.getD pos 0:=by simp [rd]);(have r2:rd b1 (pos:Int)=b1.getD pos 0:=by simp [rd]);rw [r1,r2,wrap_up pos (by omega)];rw [drop_getD a1 0 pos hlt,drop_getD b1 0 pos (by omega)];by_cases hx:a1.getD pos 0=b1.getD pos 0
     ·refine Ev.yes hx ?_;rw [show decide (a1.getD pos 0 :: a1.drop (pos + 1)=b1.getD pos 0 :: b1.drop (pos + 1))=decide (a1.drop (pos + 1)=b1.drop (pos + 1)) from decide_eq_decide.2 (by rw [hx];simp)];exact ih
     ·exact Ev.no hx (Ev.is (decide_eq_false (fun h=>hx (List.cons.inj h).1)).symm)
   have hl:=Ev.loop (g:=fun k pos=>r21_Same.l0 k (pos:Int) a0 a1 b0 b1) (spec:=fun pos=>decide (a0.drop pos=b0.drop pos∧a1=b1)) a0.length ?_ ?_ 0 (Nat.zero_le _)
   ·simpa using hl
   ·refine Ev.succ ?_;simp only [r21_Same.l0];refine Ev.no (by omega) ?_;have:=h1 0 (Nat.zero_le _);simpa [List.drop_eq_nil_of_le,e0] using this
   ·intro pos hlt ih;refine Ev.succ ?_;simp only [r21_Same.l0];refine Ev.yes (by omega) (Ev.yes (by omega) (Ev.yes (by omega) ?_));rw [rdOf_at,rdOf_at,wrap_up pos (by omega)];rw [drop_getD a0 false pos hlt,drop_getD b0 false pos (by omega)];by_cases hx:a0.getD pos false=b0.getD pos false
    ·refine Ev.no (by rw [hx];simp) ?_;rw [show decide (a0.getD pos false :: a0.drop (pos + 1)=b0.getD pos false :: b0.drop (pos + 1)∧a1=b1)=decide (a0.drop (pos + 1)=b0.drop (pos + 1)∧a1=b1) from decide_eq_decide.2 (by rw [hx];simp)];exact ih
    ·exact Ev.yes (by simpa using hx) (Ev.is (decide_eq_false (fun h=>hx (List.cons.inj h.1).1)).symm)
  ·exact hj _ (by simp;omega) (fun h=>e1 (by rw [h.2]))
 ·exact Ev.no (by omega) (hj true rfl (fun h=>e0 (by rw [h.1])))
theorem names_good {l0 l1 l2:List ByteArray} {l4:List Op_} (g0:∀ s ∈ l0,goodStr s) (g1:∀ s ∈ l1,goodStr s) (g2:∀ s ∈ l2,goodStr s) (g4:∀ o ∈ l4,goodOp o):∀ s ∈ namesL l0 l1 l2 l4,s.size ≤ maxLen:=by
 intro s hs;unfold namesL at hs;simp only [List.mem_append,List.mem_map] at hs;rcases hs with ((h|h)|h) | ⟨o,h,rfl⟩
 ·exact g0 s h
 ·exact g1 s h
 ·exact g2 s h
 ·exact (g4 o h).1
theorem ruOk_of {l0 l1 l2:List ByteArray} {l3:List Cl} {l4:List Op_} (g0:∀ s ∈ l0,goodStr s) (g1:∀ s ∈ l1,goodStr s) (g2:∀ s ∈ l2,goodStr s) (g3:∀ c ∈ l3,goodCl c) (g4:∀ o ∈ l4,goodOp o) (h:lightB l0 l1 l2 l3 l4=true):RuOk l0 l1 l2 l3 l4:=by
 obtain ⟨_,_,_,_,_,_,hd⟩:=lightB_ok h;exact ⟨names_good g0 g1 g2 g4,fun o ho=>⟨by have:=hd o ho;omega,fun d hd=>((g4 o ho).2 d hd).2.1⟩,fun c hc=>(g3 c hc).2.1⟩
end Go.Proofs.YtjbjbeihkoeciaaGreat.X
namespace Go.Proofs.YtjbjbeihkoeciaaGreat.X
open Go.RowKit Go.Proofs.YtjbjbeihkoeciaaGreatW.PrintWords Go.Proofs.YtjbjbeihkoeciaaGreatW.PrintLast Go.Proofs.YtjbjbeihkoeciaaGreatW.PrintMore
section
variable (l0 l1 l2:List ByteArray) (l3:List Cl) (l4:List Op_)
theorem many21_ev (hs:∀ s ∈ namesL l0 l1 l2 l4,s.size ≤ maxLen) (hd:∀ o ∈ l4,o.f1.length ≤ 4000000000):Ev (fun k=>r21_Many.f k l0 l1 l2 l3 l4) ((manyN l0 l1 l2 l3 l4:Nat):Int):=by
 have hz:∀ b,b=true → manyN l0 l1 l2 l3 l4=0 → Ev (fun k=>r21_Many.j0 k b l0 l1 l2 l3 l4) ((manyN l0 l1 l2 l3 l4:Nat):Int):=by
  rintro b rfl h;refine Ev.succ ?_;simp only [r21_Many.j0];rw [h];exact Ev.yes (by first|trivial|rfl) (Ev.now _)
 unfold r21_Many.f;refine Ev.bind (may_ev l0 l1 l2 l3 l4 hs hd) ?_;cases hck:checkB l0 l1 l2 l3 l4
 ·exact Ev.no (by decide) (hz true rfl (by unfold manyN;rw [if_neg (by simp [hck])]))
 ·refine Ev.yes rfl ?_;by_cases h0:l0.length ≤ 4
  ·refine Ev.no (by omega) ?_;by_cases h1:l1.length ≤ 3
   ·rw [decide_eq_false (by omega)];refine Ev.succ ?_;simp only [r21_Many.j0];refine Ev.no (by decide) ?_;have hm:manyN l0 l1 l2 l3 l4=2 ^ l0.length * 3 ^ l1.length:=if_pos ⟨hck,h0,h1⟩;rw [hm];have h3:∀ (m B:Nat),m ≤ 3 → B ≤ 16 * 3 ^ (3 - m) → ∀ p:Nat,p + m=l1.length → Ev (fun k=>r21_Many.l1 k (B:Int) (p:Int) l0 l1 l2 l3 l4) ((B * 3 ^ m:Nat):Int):=by
     intro m;induction m with
     | zero =>
      intro B _ _ p hp;refine Ev.succ ?_;simp only [r21_Many.l1];exact Ev.no (by omega) (Ev.is (by simp))
     | succ m ih =>
      intro B hm hB p hp;refine Ev.succ ?_;simp only [r21_Many.l1];have hB2:B * 3 ≤ 16 * 3 ^ (3 - m):=by
       (have e:3 - m=(3 - (m + 1)) + 1:=by omega);rw [e,Nat.pow_succ];have:=Nat.mul_le_mul_right 3 hB;rwa [Nat.mul_assoc] at this
      have hB3:16 * 3 ^ (3 - m) ≤ 432:=Nat.le_trans (Nat.mul_le_mul_left 16 (Nat.pow_le_pow_right (by decide) (show 3 - m ≤ 3 by omega))) (by decide);(have e1:wrap64 ((B:Int) * 3)=((B * 3:Nat):Int):=by unfold wrap64;omega);rw [e1,wrap_up p (by omega)];refine Ev.yes (by omega) ?_;have h4:=ih (B * 3) (by omega) hB2 (p + 1) (by omega);rwa [show B * 3 * 3 ^ m=B * 3 ^ (m + 1) by rw [Nat.pow_succ,Nat.mul_assoc,Nat.mul_comm 3]] at h4
    have h2:∀ (m B:Nat),m ≤ 4 → B ≤ 2 ^ (4 - m) → ∀ p:Nat,p + m=l0.length → Ev (fun k=>r21_Many.l0 k (B:Int) (p:Int) l0 l1 l2 l3 l4) ((B * 2 ^ m * 3 ^ l1.length:Nat):Int):=by
     intro m;induction m with
     | zero =>
      intro B _ hB p hp;refine Ev.succ ?_;simp only [r21_Many.l0];refine Ev.no (by omega) ?_;have:=h3 l1.length B h1 (Nat.le_trans (show B ≤ 16 from hB) (Nat.le_mul_of_pos_right _ (Nat.pow_pos (by decide)))) 0 (by omega);simpa using this
     | succ m ih =>
      intro B hm hB p hp;refine Ev.succ ?_;simp only [r21_Many.l0];have hB2:B * 2 ≤ 2 ^ (4 - m):=by
       (have e:4 - m=(4 - (m + 1)) + 1:=by omega);rw [e,Nat.pow_succ];exact Nat.mul_le_mul_right 2 hB
      have hB3:2 ^ (4 - m) ≤ 16:=(Nat.pow_le_pow_right (by decide) (show 4 - m ≤ 4 by omega):2 ^ (4 - m) ≤ 2 ^ 4);(have e1:wrap64 ((B:Int) * 2)=((B * 2:Nat):Int):=by unfold wrap64;omega);rw [e1,wrap_up p (by omega)];refine Ev.yes (by omega) ?_;have h4:=ih (B * 2) (by omega) hB2 (p + 1) (by omega);rwa [show B * 2 * 2 ^ m=B * 2 ^ (m + 1) by rw [Nat.pow_succ,Nat.mul_assoc,Nat.mul_comm 2]] at h4
    have:=h2 l0.length 1 h0 (Nat.pow_pos (by decide)) 0 (by omega);simpa using this
   ·rw [decide_eq_true (by omega)];exact hz true rfl (by unfold manyN;rw [if_neg (by omega)])
  ·exact Ev.yes (by omega) (hz true rfl (by unfold manyN;rw [if_neg (by omega)]))
theorem state21_ev (h0:l0.length ≤ 1000) (h1:l1.length ≤ 1000) (n:Nat) (hn:n ≤ 1000000):Ev (fun k=>r21_State.f k l0 l1 l2 l3 l4 (n:Int)) ((stN l0.length l1.length n).f0,(stN l0.length l1.length n).f1):=by
 have hdigs:∀ (m:Nat) (n:Nat) (bs:List Bool) (acc:List Int),n ≤ 1000000 → ∀ p:Nat,p + m=l1.length → acc.length=p → Ev (fun k=>r21_State.l1 k (n:Int) (p:Int) l0 l1 l2 l3 l4 bs acc) (bs,acc ++ digsL m n):=by
  intro m;induction m with
  | zero =>
   intro n bs acc hn p hp ha;refine Ev.succ ?_;simp only [r21_State.l1];exact Ev.no (by omega) (Ev.is (by simp [digsL]))
  | succ m ih =>
   intro n bs acc hn p hp ha;refine Ev.succ ?_;simp only [r21_State.l1];have e1:wrap64 (Int.tdiv (n:Int) 3)=((n / 3:Nat):Int):=by
    rw [Int.tdiv_eq_ediv_of_nonneg (by omega)];unfold wrap64;omega
   have e2:Int.tmod (n:Int) 3=((n % 3:Nat):Int):=by
    rw [Int.tmod_eq_emod_of_nonneg (by omega)];omega
   rw [e1,e2,wrap_up p (by omega)];refine Ev.yes (by omega) (Ev.yes (by omega) ?_);have h:=ih (n / 3) bs (acc ++ [((n % 3:Nat):Int)]) (by omega) (p + 1) (by omega) (by simp [ha]);rwa [List.append_assoc,List.singleton_append] at h
 have hbits:∀ (m:Nat) (n:Nat) (acc:List Bool),n ≤ 1000000 → ∀ p:Nat,p + m=l0.length → acc.length=p → Ev (fun k=>r21_State.l0 k (n:Int) (p:Int) l0 l1 l2 l3 l4 acc) (acc ++ bitsL m n,digsL l1.length (halfs m n)):=by
  intro m;induction m with
  | zero =>
   intro n acc hn p hp ha;refine Ev.succ ?_;simp only [r21_State.l0];refine Ev.no (by omega) ?_;have h:=hdigs l1.length n acc [] hn 0 (by omega) rfl;simpa [bitsL,halfs] using h
  | succ m ih =>
   intro n acc hn p hp ha;refine Ev.succ ?_;simp only [r21_State.l0];have e1:wrap64 (Int.tdiv (n:Int) 2)=((n / 2:Nat):Int):=by
    rw [Int.tdiv_eq_ediv_of_nonneg (by omega)];unfold wrap64;omega
   have e2:decide (Int.tmod (n:Int) 2 > 0)=(n % 2 == 1):=by
    rw [Int.tmod_eq_emod_of_nonneg (by omega)];by_cases h:n % 2=1
    ·rw [beq_iff_eq.2 h,decide_eq_true (by omega)]
    ·rw [beq_eq_false_iff_ne.2 h,decide_eq_false (by omega)]
   rw [e1,e2,wrap_up p (by omega)];refine Ev.yes (by omega) (Ev.yes (by omega) ?_);have h:=ih (n / 2) (acc ++ [n % 2 == 1]) (by omega) (p + 1) (by omega) (by simp [ha]);rwa [List.append_assoc,List.singleton_append] at h
 unfold r21_State.f stN;have h:=hbits l0.length n [] hn 0 (by omega) rfl;simpa using h
theorem apart21_ev (hd:∀ x ∈ l4,x.f1.length ≤ 4000000000) (hb:∀ x ∈ l4,∀ d ∈ x.f1,-1000 ≤ d.f2∧d.f2 ≤ 1000) (drops:List Bool) (s:Sm) (a b:Int) (h0:s.f0.length ≤ 1000) (h1:s.f1.length ≤ 1000) (hdr:drops.length=s.f0.length) (hs:∀ x ∈ s.f1,-1000000 ≤ x∧x ≤ 1000000) :
  Ev (fun k=>r21_Apart.f k l0 l1 l2 l3 l4 drops s.f0 s.f1 a b) ((apartS l4 drops s a b).f0,(apartS l4 drops s a b).f1):=by
 obtain ⟨f0,f1⟩:=s;simp only at h0 h1 hs hdr ⊢;generalize hI:(fun i:Nat=>apIn (makeN l4 a (i:Int)) (makeN l4 b (i:Int)) (drops.getD i false) (f0.getD i false))=I;generalize hN:(fun i:Nat=>f1.getD i 0 + moreN l4 a (i:Int) + moreN l4 b (i:Int))=Nn;(have e:apartS l4 drops ⟨f0,f1⟩ a b=⟨(List.range f0.length).map I,(List.range f1.length).map Nn⟩:=by unfold apartS;rw [← hI,← hN]);rw [e];simp only;have hcs:Ev (fun k=>r21_Apart.l1 k a b ((0:Nat):Int) l0 l1 l2 l3 l4 f0 f1 ((List.range f0.length).map I) ((List.range 0).map Nn)) ((List.range f0.length).map I,(List.range f1.length).map Nn):=by
  refine Ev.loop (g:=fun k pos=>r21_Apart.l1 k a b (pos:Int) l0 l1 l2 l3 l4 f0 f1 ((List.range f0.length).map I) ((List.range pos).map Nn)) (spec:=fun _=>((List.range f0.length).map I,(List.range f1.length).map Nn)) f1.length ?_ ?_ 0 (by omega)
  ·refine Ev.succ ?_;simp only [r21_Apart.l1];exact Ev.no (by omega) (Ev.now _)
  ·intro pos hp ih;refine Ev.succ ?_;simp only [r21_Apart.l1];(have hrd:rd f1 (pos:Int)=f1.getD pos 0:=by simp [rd]);rw [hrd,wrap_up pos (by omega)];have m1:=moreN_le l4 hb a (pos:Int);have m2:=moreN_le l4 hb b (pos:Int);have m3:=hs _ (getD_at f1 0 pos hp);refine Ev.yes (by omega) (Ev.yes (by omega) (Ev.bind (more20_ev l0 l1 l2 l3 l4 a (pos:Int) hd hb) (Ev.bind (more20_ev l0 l1 l2 l3 l4 b (pos:Int) hd hb) (Ev.yes (by rw [List.length_map,List.length_range];omega) ?_))));have ew:wrap64 (wrap64 (f1.getD pos 0 + moreN l4 a (pos:Int)) + moreN l4 b (pos:Int))=Nn pos:=by
    (have e2:Nn pos=f1.getD pos 0 + moreN l4 a (pos:Int) + moreN l4 b (pos:Int):=by rw [← hN]);rw [e2];unfold wrap64;omega
   rw [ew];rw [List.range_succ,List.map_append] at ih;exact ih
 have hss:Ev (fun k=>r21_Apart.l0 k drops a b ((0:Nat):Int) l0 l1 l2 l3 l4 f0 f1 ((List.range 0).map I)) ((List.range f0.length).map I,(List.range f1.length).map Nn):=by
  refine Ev.loop (g:=fun k pos=>r21_Apart.l0 k drops a b (pos:Int) l0 l1 l2 l3 l4 f0 f1 ((List.range pos).map I)) (spec:=fun _=>((List.range f0.length).map I,(List.range f1.length).map Nn)) f0.length ?_ ?_ 0 (by omega)
  ·refine Ev.succ ?_;simp only [r21_Apart.l0];exact Ev.no (by omega) hcs
  ·intro pos hp ih;(have hIp:I pos=apIn (makeN l4 a (pos:Int)) (makeN l4 b (pos:Int)) (drops.getD pos false) (f0.getD pos false):=by rw [← hI]);(have hl:((List.range pos).map I).length < 140737488355328:=by rw [List.length_map,List.length_range];omega);have ih2:∀ v,v=I pos → Ev (fun k=>r21_Apart.l0 k drops a b ((pos + 1:Nat):Int) l0 l1 l2 l3 l4 f0 f1 ((List.range pos).map I ++ [v])) ((List.range f0.length).map I,(List.range f1.length).map Nn):=by
    rintro v rfl;rw [List.range_succ,List.map_append,List.map_singleton] at ih;exact ih
   clear ih;have x1:=makeL_is (doesO l4 a) (pos:Int);have x2:=makeL_is (doesO l4 b) (pos:Int);have hj:∀ c,c=decide (makeN l4 a (pos:Int)=1 ∨ makeN l4 b (pos:Int)=1) → Ev (fun k=>r21_Apart.j1 k drops a b (pos:Int) (makeN l4 a (pos:Int)) (makeN l4 b (pos:Int)) (rdOf false f0 (pos:Int)) c l0 l1 l2 l3 l4 f0 f1 ((List.range pos).map I)) ((List.range f0.length).map I,(List.range f1.length).map Nn):=by
    rintro c rfl;have hw:=wrap_up pos (by omega);rw [rdOf_at];unfold makeN at hIp ⊢;generalize makeL (doesO l4 a) (pos:Int)=x at *;generalize makeL (doesO l4 b) (pos:Int)=y at *;generalize f0.getD pos false=inn at *;(have hp2:(pos:Int) < (drops.length:Int):=by omega);obtain ⟨dr,hdr⟩:∃ d,drops.getD pos false=d:=⟨_,rfl⟩;rw [hdr] at hIp;rcases x1 with rfl|rfl|rfl <;> rcases x2 with rfl|rfl|rfl <;> cases dr <;> cases inn <;>
     (repeat (first|exact ih2 _ (by rw [hIp];rfl)|(refine Ev.succ ?_;simp only [r21_Apart.j1])|(refine Ev.succ ?_;simp only [r21_Apart.j2,rdOf_at,hdr])|(refine Ev.succ ?_;simp only [r21_Apart.j3,hw])|refine Ev.yes (by first|assumption|decide|omega) ?_|refine Ev.no (by first|decide|omega) ?_))
   refine Ev.succ ?_;simp only [r21_Apart.l0];refine Ev.yes (by omega) (Ev.bind (make20_ev l0 l1 l2 l3 l4 a (pos:Int) hd hb) (Ev.bind (make20_ev l0 l1 l2 l3 l4 b (pos:Int) hd hb) (Ev.yes (by omega) ?_)));by_cases c:makeN l4 a (pos:Int)=1
   ·exact Ev.yes c (hj _ (decide_eq_true (.inl c)).symm)
   ·refine Ev.no c (hj _ ?_);by_cases c2:makeN l4 b (pos:Int)=1
    ·rw [beq_iff_eq.2 c2,decide_eq_true (.inr c2)]
    ·rw [beq_eq_false_iff_ne.2 c2,decide_eq_false (by rintro (h|h) <;> contradiction)]
 unfold r21_Apart.f;simpa using hss
end
end Go.Proofs.YtjbjbeihkoeciaaGreat.X
namespace Go.Proofs.YtjbjbeihkoeciaaGreat.X
open Go.RowKit Go.Proofs.YtjbjbeihkoeciaaGreatW.PrintWords Go.Proofs.YtjbjbeihkoeciaaGreatW.PrintLast Go.Proofs.YtjbjbeihkoeciaaGreatW.PrintMore
def atN (l0 l1 l2:List ByteArray) (l3:List Cl) (l4:List Op_) (drops:List Bool) (a b cl:Int):Int:=match findN l0 l1 l2 l3 l4 drops a b cl with|some n=>(n:Int)|none=>-1
theorem many_parts {l0 l1 l2:List ByteArray} {l3:List Cl} {l4:List Op_} (h:manyN l0 l1 l2 l3 l4 ≠ 0):checkB l0 l1 l2 l3 l4=true∧l0.length ≤ 4∧l1.length ≤ 3:=by
 unfold manyN at h;split at h
 ·rename_i h2;exact h2
 ·exact absurd rfl h
theorem at21_ev (l0 l1 l2:List ByteArray) (l3:List Cl) (l4:List Op_) (hru:RuOk l0 l1 l2 l3 l4) (drops:List Bool) (hdl:drops.length=l0.length) (a b cl:Int) (h0:0 ≤ cl) (h1:cl < (l3.length:Int)) :
  Ev (fun k=>r21_At.f k l0 l1 l2 l3 l4 drops a b cl) (atN l0 l1 l2 l3 l4 drops a b cl):=by
 have hmany:=many21_ev l0 l1 l2 l3 l4 hru.1 (fun o ho=>(hru.2.1 o ho).1);have hle:=many_le l0 l1 l2 l3 l4;unfold r21_At.f;have hspec:atN l0 l1 l2 l3 l4 drops a b cl=(match (List.range' 0 (manyN l0 l1 l2 l3 l4 - 0)).find? (fun n=>clashN l3 l4 drops a b cl (stN l0.length l1.length n)) with|some n=>(n:Int)|none=>-1):=by
  unfold atN findN;rw [List.range_eq_range',Nat.sub_zero]
 rw [hspec];refine Ev.loop (g:=fun k pos=>r21_At.l0 k drops a b cl (pos:Int) l0 l1 l2 l3 l4) (spec:=fun pos=>(match (List.range' pos (manyN l0 l1 l2 l3 l4 - pos)).find? (fun n=>clashN l3 l4 drops a b cl (stN l0.length l1.length n)) with|some n=>(n:Int)|none=>-1)) (manyN l0 l1 l2 l3 l4) ?_ ?_ 0 (by omega)
 ·refine Ev.succ ?_;simp only [r21_At.l0,Nat.sub_self];exact Ev.bind hmany (Ev.no (by omega) (Ev.now _))
 ·intro n hn ih;obtain ⟨hck,q0,q1⟩:=many_parts (l0:=l0) (l1:=l1) (l2:=l2) (l3:=l3) (l4:=l4) (by omega);have hpt:=checkB_parts hck;have hd1:=dlen l0 l1 l2 l3 l4 hck;have hd2:=dle l0 l1 l2 l3 l4 hck;have hl3:l3.length ≤ 1000:=by
   have hck2:=hck;unfold checkB at hck2;by_cases h:12 < l3.length
   ·exfalso;revert hck2;(repeat' split);all_goals first|(intro hx;cases hx;done)|omega
   ·omega
  have hs0:(stN l0.length l1.length n).f0.length=l0.length:=bitsL_len _ _;have hs1:(stN l0.length l1.length n).f1.length=l1.length:=digsL_len _ _;(have hsd:∀ x ∈ (stN l0.length l1.length n).f1,-1000000 ≤ x∧x ≤ 1000000:=fun x hx=>by have:=digsL_le _ _ x hx;omega);(have hcl:∀ c ∈ l3,clB (stN l0.length l1.length n).f0.length (stN l0.length l1.length n).f1.length c=true:=by rw [hs0,hs1];exact hpt.2.1);(have hcb:∀ c ∈ l3,-1000 ≤ c.f4∧c.f4 ≤ 1000:=fun c hc=>clB_le (hpt.2.1 c hc));have hal:=apartS_len l4 drops (stN l0.length l1.length n) a b;(have hfree:=fun o=>free21_ev l0 l1 l2 l3 l4 hl3 ⟨hd1,hd2⟩ hcb (stN l0.length l1.length n) (by omega) (by omega) hcl o);have hwide:=wide21_ev l0 l1 l2 l3 l4 (stN l0.length l1.length n) hs0 hs1 (by omega) (by omega);have hwide2:=wide21_ev l0 l1 l2 l3 l4 (apartS l4 drops (stN l0.length l1.length n) a b) (by omega) (by omega) (by omega) (by omega);have hm:=getD_at l3 z85 cl.toNat (by omega);have hho:=holds19_ev (wS (apartS l4 drops (stN l0.length l1.length n) a b).f0) (wC (apartS l4 drops (stN l0.length l1.length n) a b).f1) (wide_ok _ (by omega) (by omega)) (by rw [wS_len];omega) (by rw [wC_len];omega) (wS_small _) (wC_small _) (numOk_wC _) _ (by rw [wS_len,wC_len,hal.1,hal.2,hs0,hs1];exact hpt.2.1 _ hm);have hst:=state21_ev l0 l1 l2 l3 l4 (by omega) (by omega) n (by omega);have hap:=apart21_ev l0 l1 l2 l3 l4 hd1 hd2 drops (stN l0.length l1.length n) a b (by omega) (by omega) (by omega) hsd;rw [show manyN l0 l1 l2 l3 l4 - n=(manyN l0 l1 l2 l3 l4 - (n + 1)) + 1 by omega,List.range'_succ,List.find?_cons];refine Ev.succ ?_;simp only [r21_At.l0];rw [wrap_up n (by omega)];refine Ev.bind hmany (Ev.yes (by omega) (Ev.bind hst (Ev.bind hwide (Ev.bind (hfree a) ?_))));unfold clashN;cases freeN l3 l4 (stN l0.length l1.length n) a
  ·exact Ev.no (by decide) ih
  refine Ev.yes rfl (Ev.bind (hfree b) ?_);cases freeN l3 l4 (stN l0.length l1.length n) b
  ·exact Ev.no (by decide) ih
  refine Ev.yes rfl (Ev.bind hap (Ev.bind hwide2 (Ev.yes h0 (Ev.yes h1 (Ev.bind hho ?_)))));rw [show rd_T85 l3 cl=l3.getD cl.toNat z85 from rfl];cases holdsB (wS (apartS l4 drops (stN l0.length l1.length n) a b).f0) (wC (apartS l4 drops (stN l0.length l1.length n) a b).f1) (l3.getD cl.toNat z85)
  ·exact Ev.no (by decide) (Ev.now _)
  ·exact Ev.yes rfl ih
def light21 (l0 l1 l2:List ByteArray) (l3:List Cl) (l4:List Op_) (drops:List Bool):Bool:=lightB l0 l1 l2 l3 l4 && decide (drops.length ≤ 20∧l0.length ≤ 4∧l1.length ≤ 2∧l4.length ≤ 5)
theorem light21_ev (l0 l1 l2:List ByteArray) (l3:List Cl) (l4:List Op_) (drops:List Bool):Ev (fun k=>q21_light.f k l0 l1 l2 l3 l4 drops) (light21 l0 l1 l2 l3 l4 drops):=by
 unfold q21_light.f light21;refine Ev.bind (light_ev l0 l1 l2 l3 l4) ?_;cases lightB l0 l1 l2 l3 l4
 ·exact Ev.no (by decide) (Ev.is rfl)
 refine Ev.yes rfl ?_;rw [Bool.true_and];by_cases h1:drops.length ≤ 20
 ·refine Ev.yes (by omega) ?_;by_cases h2:l0.length ≤ 4
  ·refine Ev.yes (by omega) ?_;by_cases h3:l1.length ≤ 2
   ·refine Ev.yes (by omega) (Ev.is (decide_eq_decide.2 ?_));exact ⟨fun h=>⟨h1,h2,h3,by omega⟩,fun h=>by omega⟩
   ·exact Ev.no (by omega) (Ev.is (decide_eq_false (fun h=>h3 h.2.2.1)).symm)
  ·exact Ev.no (by omega) (Ev.is (decide_eq_false (fun h=>h2 h.2.1)).symm)
 ·exact Ev.no (by omega) (Ev.is (decide_eq_false (fun h=>h1 h.1)).symm)
theorem light21_ok {l0 l1 l2:List ByteArray} {l3:List Cl} {l4:List Op_} {drops:List Bool} (h:light21 l0 l1 l2 l3 l4 drops=true):lightB l0 l1 l2 l3 l4=true∧drops.length ≤ 20∧l0.length ≤ 4∧l1.length ≤ 2∧l4.length ≤ 5:=by
 unfold light21 at h;rw [Bool.and_eq_true] at h;exact ⟨h.1,of_decide_eq_true h.2⟩
end Go.Proofs.YtjbjbeihkoeciaaGreat.X
namespace Go.Proofs.YtjbjbeihkoeciaaGreat.Pure
open Go.RowKit Go.Proofs.YtjbjbeihkoeciaaGreat.X Go.Proofs.YtjbjbeihkoeciaaGreatW.PrintWords Go.Proofs.YtjbjbeihkoeciaaGreatW.PrintLast Go.Proofs.YtjbjbeihkoeciaaGreatW.PrintMore
theorem fin21:Ev (fun k=>(q21_awake.f).bind fun t=>some t) true:=Ev.bind1 rfl (Ev.now _)
theorem PairsAt (l0 l1 l2:List ByteArray) (l3:List Cl) (l4:List Op_) (g0:∀ s ∈ l0,goodStr s) (g1:∀ s ∈ l1,goodStr s) (g2:∀ s ∈ l2,goodStr s) (g3:∀ c ∈ l3,goodCl c) (g4:∀ o ∈ l4,goodOp o)
  (drops:List Bool) (n a b c:Int):∃ k,q21_PairsAt.f k l0 l1 l2 l3 l4 drops n a b c=some true:=by
 refine Ev.rounds (g:=fun k=>q21_PairsAt.f k l0 l1 l2 l3 l4 drops n a b c) ?_;unfold q21_PairsAt.f;refine Ev.bind (light21_ev l0 l1 l2 l3 l4 drops) ?_;cases hl:light21 l0 l1 l2 l3 l4 drops
 ·exact Ev.no (by decide) fin21
 refine Ev.yes rfl ?_;have hru:=ruOk_of g0 g1 g2 g3 g4 (light21_ok hl).1;(have hd:∀ o ∈ l4,o.f1.length ≤ 4000000000:=fun o ho=>(hru.2.1 o ho).1);have hle:=many_le l0 l1 l2 l3 l4;have hsame0:Ev (fun k=>r21_Same.f k [] [] [] []) true:=same21_ev [] [] [] [] (by simp) (by simp);refine Ev.bind1 (show pairs_At.f l0 l1 l2 l3 l4 drops a b c=some _ from if_pos hru) (Ev.bind (many21_ev l0 l1 l2 l3 l4 hru.1 hd) ?_);by_cases hno:manyN l0 l1 l2 l3 l4=0 ∨ drops.length ≠ l0.length ∨ a < 0 ∨ b < 0 ∨ c < 0 ∨ a ≥ (l4.length:Int) ∨ b ≥ (l4.length:Int) ∨ c ≥ (l3.length:Int)
 ·have hR:atR l0 l1 l2 l3 l4 drops a b c=(sm0,false):=by
   refine if_neg ?_;rintro ⟨hm,h1,h2⟩;have hp:=mayN_check hm;have hz:manyN l0 l1 l2 l3 l4 ≠ 0:=by
    unfold mayN at hm;rw [Bool.and_eq_true] at hm;have:=of_decide_eq_true hm.1;omega
   rcases hno with h|h|h|h|h|h|h|h
   ·exact hz h
   ·exact h hp.2.1
   all_goals omega
  rw [hR];have hj:∀ x,x=true → Ev (fun k=>q21_PairsAt.j0 k drops false x l0 l1 l2 l3 l4 n a b c [] []) true:=by
   rintro x rfl;refine Ev.succ ?_;simp only [q21_PairsAt.j0];exact Ev.yes (by first|trivial|rfl) (Ev.no (by decide) (Ev.bind hsame0 (Ev.yes rfl fin21)))
  by_cases e0:manyN l0 l1 l2 l3 l4=0
  ·exact Ev.yes (by omega) (hj _ rfl)
  refine Ev.no (by omega) ?_;by_cases e1:drops.length=l0.length
  ·refine Ev.yes (by omega) ?_;by_cases e2:a < 0
   ·exact Ev.yes e2 (hj _ rfl)
   refine Ev.no e2 ?_;by_cases e3:b < 0
   ·exact Ev.yes e3 (hj _ rfl)
   refine Ev.no e3 ?_;by_cases e4:c < 0
   ·exact Ev.yes e4 (hj _ rfl)
   refine Ev.no e4 ?_;by_cases e5:a ≥ (l4.length:Int)
   ·exact Ev.yes e5 (hj _ rfl)
   refine Ev.no e5 ?_;by_cases e6:b ≥ (l4.length:Int)
   ·exact Ev.yes e6 (hj _ rfl)
   refine Ev.no e6 (hj _ (decide_eq_true ?_));omega
  ·exact Ev.no (by omega) (hj _ rfl)
 ·obtain ⟨e0,e1,e2,e3,e4,e5,e6,e7⟩:manyN l0 l1 l2 l3 l4 ≠ 0∧drops.length=l0.length∧0 ≤ a∧0 ≤ b∧0 ≤ c∧a < (l4.length:Int)∧b < (l4.length:Int)∧c < (l3.length:Int):=by
   refine ⟨fun h=>hno (.inl h),Classical.byContradiction fun h=>hno (.inr (.inl h)),?_,?_,?_,?_,?_,?_⟩ <;> refine Classical.byContradiction fun h=>hno ?_ <;> omega
  have hm:mayN l0 l1 l2 l3 l4 drops a b=true:=by
   unfold mayN;rw [decide_eq_true (show 0 < manyN l0 l1 l2 l3 l4 by omega),decide_eq_true e1,decide_eq_true (show 0 ≤ a∧a < (l4.length:Int) from ⟨e2,e5⟩),decide_eq_true (show 0 ≤ b∧b < (l4.length:Int) from ⟨e3,e6⟩)];rfl
  have hR:atR l0 l1 l2 l3 l4 drops a b c=(match findN l0 l1 l2 l3 l4 drops a b c with|some n=>(stN l0.length l1.length n,true)|none=>(sm0,false)):=if_pos ⟨hm,e4,e7⟩;obtain ⟨hck,q0,q1⟩:=many_parts e0;refine Ev.no (by omega) (Ev.yes (by omega) (Ev.no (by omega) (Ev.no (by omega) (Ev.no (by omega) (Ev.no (by omega) (Ev.no (by omega) (Ev.succ ?_)))))));simp only [q21_PairsAt.j0];refine Ev.no (by rw [decide_eq_false (by omega)];decide) (Ev.bind (at21_ev l0 l1 l2 l3 l4 hru drops e1 a b c e4 e7) ?_);unfold atN;rw [hR];cases hf:findN l0 l1 l2 l3 l4 drops a b c with
  | none =>
   dsimp only;exact Ev.yes (by decide) (Ev.no (by decide) (Ev.bind hsame0 (Ev.yes rfl fin21)))
  | some m =>
   have hmm:m < manyN l0 l1 l2 l3 l4:=by
    have:=List.mem_of_find?_eq_some hf;simpa using this
   have hst:=state21_ev l0 l1 l2 l3 l4 (by omega) (by omega) m (by omega);have s0:(stN l0.length l1.length m).f0.length=l0.length:=bitsL_len _ _;have s1:(stN l0.length l1.length m).f1.length=l1.length:=digsL_len _ _;refine Ev.no (by show ¬ ((m:Nat):Int) < 0;omega) (Ev.yes (by first|trivial|rfl) (Ev.bind hst (Ev.bind (same21_ev (stN l0.length l1.length m).f0 (stN l0.length l1.length m).f1 (stN l0.length l1.length m).f0 (stN l0.length l1.length m).f1 (by omega) (by omega)) ?_)));exact Ev.yes (decide_eq_true ⟨rfl,rfl⟩) fin21
end Go.Proofs.YtjbjbeihkoeciaaGreat.Pure
namespace Go.Proofs.YtjbjbeihkoeciaaGreat.X
open Go.RowKit Go.Proofs.YtjbjbeihkoeciaaGreatW.PrintWords Go.ChangeShapes Go.WideShapes Go.Deep
section
variable {H:Type} {enc:TypeId × Value → H} {w:World} {spare:Nat → Bool} {held:Bool}
theorem openBool (n:Nat) (cs:List Value) (x:DataW H × List MemPlace) (h:DataW.trod enc Tryz.prog w 0 spare held n 4 cs=some x):∃ z:Bool,Kd.bool.K w z cs∧True:=by
 obtain ⟨s,rfl,_⟩:=DataW.trod_bool Tryz.underlying4 h;exact ⟨s,rfl,trivial⟩
theorem openBools (n:Nat) (cs:List Value) (x:DataW H × List MemPlace) (h:DataW.trod enc Tryz.prog w 0 spare held n 27 cs=some x) :
  ∃ (zs:List Bool) (A:Option Addr) (c:Nat),cs = [.slice A zs.length c]∧zs.length ≤ c∧Kd.C Kd.bool w A zs.length zs∧∀ z ∈ zs,True:=open_rowK Kd.bool (fun _=>True) (by kernel_rfl) Tryz.underlying27 openBool n cs x h
end
def cellAsked (a b c d:Int):List Value:=[.int .i64 a,.int .i64 b,.int .i64 c,.int .i64 d]
theorem openAsked {H:Type} {enc:TypeId × Value → H} {w:World} {spare:Nat → Bool} {held:Bool} (n:Nat) (cs:List Value) (x:DataW H × List MemPlace) (h:DataW.trod enc Tryz.prog w 0 spare held n 29 cs=some x) :
  ∃ a b c d:Int,cs=cellAsked a b c d∧(Lit.int .i64 a).wf=true∧(Lit.int .i64 b).wf=true∧(Lit.int .i64 c).wf=true∧(Lit.int .i64 d).wf=true:=by
 obtain ⟨xs,m,rfl,rfl,hl,hxl,hf⟩:=DataW.trod_struct Tryz.underlying29 h;have hl':cs.length=4:=hl.trans (by kernel_rfl);have hxl':xs.length=4:=hxl;have hf':=struct_fields (by kernel_rfl) hf;have e0:=hf' 0 _ rfl;rw [List.getElem?_eq_getElem (by omega)] at e0;obtain ⟨s0,g0,_,w0⟩:=DataW.trod_int Tryz.underlying3 e0;have c0:cs[0]? = some (.int .i64 s0):=take1 g0;have e1:=hf' 1 _ rfl;rw [List.getElem?_eq_getElem (by omega)] at e1;obtain ⟨s1,g1,_,w1⟩:=DataW.trod_int Tryz.underlying3 e1;have c1:cs[1]? = some (.int .i64 s1):=take1 g1;have e2:=hf' 2 _ rfl;rw [List.getElem?_eq_getElem (by omega)] at e2;obtain ⟨s2,g2,_,w2⟩:=DataW.trod_int Tryz.underlying3 e2;have c2:cs[2]? = some (.int .i64 s2):=take1 g2;have e3:=hf' 3 _ rfl;rw [List.getElem?_eq_getElem (by omega)] at e3;obtain ⟨s3,g3,_,w3⟩:=DataW.trod_int Tryz.underlying3 e3;have c3:cs[3]? = some (.int .i64 s3):=take1 g3;refine ⟨s0,s1,s2,s3,?_,w0,w1,w2,w3⟩;apply List.ext_getElem?;intro j;rcases j with _|_|_|_|j
 ·exact c0
 ·exact c1
 ·exact c2
 ·exact c3
 ·rw [List.getElem?_eq_none (by omega)];rfl
end Go.Proofs.YtjbjbeihkoeciaaGreat.X
namespace Go.Proofs.YtjbjbeihkoeciaaGreat.pairsAt
open Go.ChangeShapes Go.WideShapes Go.ChangeAt Go.RowKit Go.Proofs.YtjbjbeihkoeciaaGreatW.PrintWords
open Go.ChangeMaps (open_string shut_string)
theorem own:ownKnob Tryz.prog.godebug=none:=by kernel_rfl
theorem laidOut:laidOutB Tryz.prog=true:=by kernel_rfl
theorem lifted (os:Os) (started:os.Started) (H:Type) (enc:TypeId × Value → H) :
  ReturnsInHanded {} Tryz.checked os 3 .any (Rows.pairsAtSpec.pre6 enc Tryz.prog Tryz.f3 Rows.pairsAtRow.domain false) (Rows.pairsAtSpec.post enc Tryz.prog Tryz.f3 false true false false):=by
 refine returnsInHanded_of_change_sized (C:=Tryz.checked) own started (by kernel_rfl) Tryz.func3
  (ChangeSpec.witness6 (enc:=enc) (C:=Tryz.checked) false ⟨#[],#[.agg #[.slice none 0 0,.slice none 0 0,.slice none 0 0,.slice none 0 0,.slice none 0 0],.slice none 0 0,.agg #[.int .i64 0,.int .i64 0,.int .i64 0,.int .i64 0]],[]⟩ 8 (by kernel_rfl) (by kernel_rfl) (by kernel_rfl) (by kernel_rfl)) ?_
 intro W base args ds gs before hval0 hW hcnd hsz0 _;have hsz:(DataW.weightsEach Tryz.prog (Tryz.f3.params.toList ++ Rows.pairsAtSpec.plain.varTypes Tryz.prog) (ds ++ gs)).all (· ≤ reachBytes)=true:=hsz0;have hval:∀ (j:Nat) t v,Tryz.f3.params[j]? = some t → args[j]? = some v → Value.okWide Tryz.prog W .any base t v:=hval0;have hW':=hW;obtain ⟨p,q,hA0,hV,rfl,hfz,hnd⟩:=hW;have hA:DataW.TrodAll enc Tryz.prog W 0 (fun _=>true) true Tryz.f3.params.toList args.toList ds p:=hA0;rw [Tryz.params3] at hA hval hsz;obtain ⟨v0,vs0,d0,ds0,p0,q0,hargs,rfl,rfl,h0,r0⟩:=trodAll_cons hA;obtain ⟨v1,vs1,d1,ds1,p1,q1,rfl,rfl,rfl,h1,r1⟩:=trodAll_cons r0;obtain ⟨v2,vs2,d2,ds2,p2,q2,rfl,rfl,rfl,h2,r2⟩:=trodAll_cons r1;obtain ⟨rfl,rfl,rfl⟩:=trodAll_nil r2;(obtain rfl:args = #[v0,v1,v2]:=by cases args;simp_all);obtain ⟨rfl,rfl⟩:=trodVars_none hV;have k0:=h0;(have lt0:∀ x ∈ p0,x.block < W.heap.size:=by obtain ⟨m,hm⟩:=k0;exact DataW.trod_lt m _ _ _ hm);obtain ⟨cs0,rfl,_⟩:=okWide_struct Tryz.underlying26 (hval 0 26 v0 rfl rfl);obtain ⟨fuel0,hf0⟩:=h0;obtain ⟨l00,l01,l02,l03,l04,A0_0,A0_1,A0_2,A0_3,A0_4,c0_0,c0_1,c0_2,c0_3,c0_4,g0,C0_0,le0_0,C0_1,le0_1,C0_2,le0_2,C0_3,le0_3,C0_4,le0_4,ok0_0,ok0_1,ok0_2,ok0_3,ok0_4⟩:=X.openRules fuel0 _ _ hf0;replace g0:cs0.toList = [.slice A0_0 l00.length c0_0,.slice A0_1 l01.length c0_1,.slice A0_2 l02.length c0_2,.slice A0_3 l03.length c0_3,.slice A0_4 l04.length c0_4]:=g0;(obtain rfl:cs0 = #[.slice A0_0 l00.length c0_0,.slice A0_1 l01.length c0_1,.slice A0_2 l02.length c0_2,.slice A0_3 l03.length c0_3,.slice A0_4 l04.length c0_4]:=by rw [← Array.toArray_toList (xs:=cs0),g0]);obtain ⟨a1,len1,cap1,rfl⟩:=okWide_slice Tryz.underlying27 (hval 1 27 v1 rfl rfl);have k1:=h1;(have lt1:∀ x ∈ p1,x.block < W.heap.size:=by obtain ⟨m,hm⟩:=k1;exact DataW.trod_lt m _ _ _ hm);obtain ⟨fuel1,hf1⟩:=h1;obtain ⟨z1,A1,c1,g1,le1,C1,_⟩:=X.openBools fuel1 _ _ hf1;replace g1:[Value.slice a1 len1 cap1] = [.slice A1 z1.length c1]:=g1;(obtain ⟨rfl,rfl,rfl⟩:a1=A1∧len1=z1.length∧cap1=c1:=by injection g1 with g1;injection g1 with x y z;exact ⟨x,y,z⟩);have k2:=h2;(have lt2:∀ x ∈ p2,x.block < W.heap.size:=by obtain ⟨m,hm⟩:=k2;exact DataW.trod_lt m _ _ _ hm);obtain ⟨cs2,rfl,_⟩:=okWide_struct Tryz.underlying29 (hval 2 29 v2 rfl rfl);obtain ⟨fuel2,hf2⟩:=h2;obtain ⟨a2_0,a2_1,a2_2,a2_3,g2,wn2_0,wn2_1,wn2_2,wn2_3⟩:=X.openAsked fuel2 _ _ hf2;replace g2:cs2.toList=X.cellAsked a2_0 a2_1 a2_2 a2_3:=g2;(obtain rfl:cs2=(X.cellAsked a2_0 a2_1 a2_2 a2_3).toArray:=by rw [← g2,Array.toArray_toList]);clear hA0 hval0 hsz0 hsz;obtain ⟨kk,hk⟩:=Pure.PairsAt l00 l01 l02 l03 l04 ok0_0 ok0_1 ok0_2 ok0_3 ok0_4 z1 a2_0 a2_1 a2_2 a2_3;(refine (X.q21_PairsAt.calls kk A0_0 c0_0 l00 A0_1 c0_1 l01 A0_2 c0_2 l02 A0_3 c0_3 l03 A0_4 c0_4 l04 a1 cap1 z1 a2_0 a2_1 a2_2 a2_3 true W C0_0 le0_0 C0_1 le0_1 C0_2 le0_2 C0_3 le0_3 C0_4 le0_4 C1 le1 hk rfl).mono fun e W' ⟨he,bel⟩=>?_);subst he;exact ⟨_,rfl,_,_,_,[],_,[],hW',trodAll_mk1 (shut_bool Tryz.underlying4 _),(trodAll_cons_mk (Below.trod laidOut (by kernel_rfl) (of_decide_eq_true (by kernel_rfl)) k0 bel lt0) (trodAll_cons_mk (Below.trod laidOut (by kernel_rfl) (of_decide_eq_true (by kernel_rfl)) k1 bel lt1) (trodAll_cons_mk (Below.trod laidOut (by kernel_rfl) (of_decide_eq_true (by kernel_rfl)) k2 bel lt2) trodAll_mk0))),rfl,bel.frame _,fun h=>by cases h⟩
theorem over:Rows.pairsAtRow.holds Tryz.pinned (OpenSpec.ofChange Rows.pairsAtSpec) :=
 OpenClaim.holds_of_wide 3 Tryz.f3 rfl rfl rfl rfl rfl rfl rfl ⟨rfl,rfl,rfl,rfl,rfl⟩ rfl rfl rfl rfl rfl (by kernel_rfl) Tryz.func3 (by kernel_rfl)
  (of_decide_eq_true (by kernel_rfl)) (by unfold Func.isWrapper;first|(rw [if_pos (by decide +kernel)];kernel_rfl)|(rw [if_neg (by decide +kernel)];exact ⟨rfl,rfl⟩))
  (fun os started H enc _=>lifted os started H enc)
theorem proved:Rows.PairsAtSaid:=over
#print axioms proved
end Go.Proofs.YtjbjbeihkoeciaaGreat.pairsAt
namespace Go.Proofs.YtjbjbeihkoeciaaGreat
theorem pairsAt_holds:Rows.PairsAtSaid:=pairsAt.proved
end Go.Proofs.YtjbjbeihkoeciaaGreat

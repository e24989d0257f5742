/- Joined texts of this session, without what nothing needs: Xpairsapart, PairP, PairQ, PairR, Tabled, AtTab. -/
import Derived.Test.YtjbjbeihkoeciaaK1
import Derived.Test.YtjbjbeihkoeciaaK3
import Derived.Test.YtjbjbeihkoeciaaK4
import Derived.Test.YtjbjbeihkoeciaaK5
import Derived.Test.YtjbjbeihkoeciaaK6
import Derived.Test.YtjbjbeihkoeciaaK7
import Derived.Test.YtjbjbeihkoeciaaK8
set_option linter.unusedVariables false
set_option linter.unusedSimpArgs false
namespace Go.Proofs.Ytjbjbeihkoeciaa.X
open Go.RowKit Go.Proofs.YtjbjbeihkoeciaaW.PrintWords Go.Proofs.YtjbjbeihkoeciaaW.PrintLast Go.Proofs.YtjbjbeihkoeciaaW.PrintMore
attribute [local go_sem] max2_int min2_int max_two min_two max_three min_three max_four min_four
mutual
def pairs_apart.l0:Nat → List Bool → Int → Int → List Bool → Int → Int → List ByteArray → List ByteArray → List ByteArray → List (S70) → List (S66) → List Bool → List Int → List Bool → Option (List Bool × List Int)
 | 0,_,_,_,_,_,_,_,_,_,_,_,_,_,_=>none
 | k + 1,x1,x3,x4,x19,x20,x21,Xda,Xdb,Xdc,Xdd,Xde,Xdf,Xdg,Xdh=>if x21 < x20 then (if 0 ≤ x21 then (if x21 < (x19.length:Int) then ((wp_Make.f k Xda Xdb Xdc Xdd Xde x3 x21).bind fun t241=>((wp_Make.f k Xda Xdb Xdc Xdd Xde x4 x21).bind fun t242=>(if (wrap64 (t241 * t242)) < 0 then (if x21 < (x1.length:Int) then (if Xdh.length < 140737488355328 then (pairs_apart.l0 k x1 x3 x4 x19 x20 (wrap64 (x21 + 1)) Xda Xdb Xdc Xdd Xde Xdf Xdg (Xdh ++ [!(rdOf false x1 x21)])) else (none)) else (none)) else (if (wrap64 (t241 + t242)) > 0 then (if Xdh.length < 140737488355328 then (pairs_apart.l0 k x1 x3 x4 x19 x20 (wrap64 (x21 + 1)) Xda Xdb Xdc Xdd Xde Xdf Xdg (Xdh ++ [true])) else (none)) else (if (wrap64 (t241 + t242)) < 0 then (if Xdh.length < 140737488355328 then (pairs_apart.l0 k x1 x3 x4 x19 x20 (wrap64 (x21 + 1)) Xda Xdb Xdc Xdd Xde Xdf Xdg (Xdh ++ [false])) else (none)) else (if Xdh.length < 140737488355328 then (pairs_apart.l0 k x1 x3 x4 x19 x20 (wrap64 (x21 + 1)) Xda Xdb Xdc Xdd Xde Xdf Xdg (Xdh ++ [rdOf false x19 x21])) else (none))))))) else (none)) else (none)) else (pairs_apart.l1 k x3 x4 Xdg (Xdg.length:Int) 0 Xda Xdb Xdc Xdd Xde Xdh ([]:List Int))
def pairs_apart.l1:Nat → Int → Int → List Int → Int → Int → List ByteArray → List ByteArray → List ByteArray → List (S70) → List (S66) → List Bool → List Int → Option (List Bool × List Int)
 | 0,_,_,_,_,_,_,_,_,_,_,_,_=>none
 | k + 1,x3,x4,x62,x63,x64,Xda,Xdb,Xdc,Xdd,Xde,Xdh,Xdi=>if x64 < x63 then (if 0 ≤ x64 then (if x64 < (x62.length:Int) then ((wp_More.f k Xda Xdb Xdc Xdd Xde x3 x64).bind fun t257=>((wp_More.f k Xda Xdb Xdc Xdd Xde x4 x64).bind fun t258=>(if Xdi.length < 17592186044416 then (pairs_apart.l1 k x3 x4 x62 x63 (wrap64 (x64 + 1)) Xda Xdb Xdc Xdd Xde Xdh (Xdi ++ [wrap64 ((wrap64 ((rd x62 x64) + t257)) + t258)])) else (none)))) else (none)) else (none)) else (some (Xdh,Xdi))
end
def pairs_apart.f (k:Nat) (l00:List ByteArray) (l01:List ByteArray) (l02:List ByteArray) (l03:List (S70)) (l04:List (S66)) (l1:List Bool) (l20:List Bool) (l21:List Int) (a3:Int) (a4:Int):Option (List Bool × List Int):=pairs_apart.l0 k l1 a3 a4 l20 (l20.length:Int) 0 l00 l01 l02 l03 l04 l20 l21 ([]:List Bool)
def pairs_apart.T5:Bool × List (List Nat × List Nat):=(true,[([],[]),([],[]),([],[]),([0,1,2],[0,1,2]),([],[]),([],[]),([],[]),([4,5,6,3],[4,5,6]),([3,7,0,1,2,3],[3]),([7,8,0,1,2,3,4,5,6,7,8],[7])])
def pairs_apart.B5:List Nat:=[0,0,0,7,0,0,0,127,255,511]
theorem pairs_apart.tab5:rtab .any (opsOf Try.f82 5)=pairs_apart.T5:=by kernel_rfl
theorem pairs_apart.bits5:waitsOk pairs_apart.T5.2 pairs_apart.B5=true:=by kernel_rfl
def pairs_apart.T17:Bool × List (List Nat × List Nat):=(true,[([],[]),([0],[0]),([],[]),([],[]),([],[]),([],[]),([3,4,5],[3,4,5]),([2,6],[2,6]),([],[]),([],[]),([],[]),([8,9,10,6],[8,9,10]),([7,11],[7,11]),([12],[12]),([1,13,11],[1,13]),([0,1,2,3,4,5,6,7,8,9,10,11,12,13,14],[]),([15,14,14,0,1,2,3,4,5,6,7,8,9,10,11,12,13,14],[14,15])])
def pairs_apart.B17:List Nat:=[0,1,0,0,0,0,56,124,0,0,0,1912,4092,8188,16383,32767,65535]
theorem pairs_apart.tab17:rtab .any (opsOf Try.f82 17)=pairs_apart.T17:=by kernel_rfl
theorem pairs_apart.bits17:waitsOk pairs_apart.T17.2 pairs_apart.B17=true:=by kernel_rfl
set_option maxHeartbeats 8000000 in
set_option maxRecDepth 100000 in
theorem pairs_apart.calls (k:Nat) (A0_0:Option Addr) (c0_0:Nat) (l00:List ByteArray) (A0_1:Option Addr) (c0_1:Nat) (l01:List ByteArray) (A0_2:Option Addr) (c0_2:Nat) (l02:List ByteArray) (A0_3:Option Addr) (c0_3:Nat) (l03:List (S70)) (A0_4:Option Addr) (c0_4:Nat) (l04:List (S66)) (A1:Option Addr) (c1:Nat) (l1:List Bool) (A2_0:Option Addr) (c2_0:Nat) (l20:List Bool) (A2_1:Option Addr) (c2_1:Nat) (l21:List Int) (a3:Int) (a4:Int) (r1:List Bool) (r2:List Int) (w:World) (hr00:Kd.C Kd.string w A0_0 l00.length l00) (hc00:l00.length ≤ c0_0) (hr01:Kd.C Kd.string w A0_1 l01.length l01) (hc01:l01.length ≤ c0_1) (hr02:Kd.C Kd.string w A0_2 l02.length l02) (hc02:l02.length ≤ c0_2) (hr03:Kd.C k70 w A0_3 l03.length l03) (hc03:l03.length ≤ c0_3) (hr04:Kd.C k66 w A0_4 l04.length l04) (hc04:l04.length ≤ c0_4) (hr1:Kd.C Kd.bool w A1 l1.length l1) (hc1:l1.length ≤ c1) (hr20:Kd.C Kd.bool w A2_0 l20.length l20) (hc20:l20.length ≤ c2_0) (hr21:Kd.C (Kd.int .i64) w A2_1 l21.length l21) (hc21:l21.length ≤ c2_1) (h:pairs_apart.f k l00 l01 l02 l03 l04 l1 l20 l21 a3 a4=some (r1,r2)) :
  Calls Try.prog 82 #[.agg #[.slice A0_0 l00.length c0_0,.slice A0_1 l01.length c0_1,.slice A0_2 l02.length c0_2,.slice A0_3 l03.length c0_3,.slice A0_4 l04.length c0_4],.slice A1 l1.length c1,.agg #[.slice A2_0 l20.length c2_0,.slice A2_1 l21.length c2_1],.int .i64 a3,.int .i64 a4] w fun e w'=>∃ v0_ v1_:Value,e = .returned (.agg #[v0_,v1_])∧Kd.R Kd.bool 4 w' w.heap.size (fun _=>True) v0_ r1∧Kd.R (Kd.int .i64) 3 w' w.heap.size (fun _=>True) v1_ r2∧Below w.heap.size w w':=by
 have hu26:=Try.underlying26;have hu38:=Try.underlying38;have HR00:=Sd.mk hr00;have J00:=Sd.mk hc00;clear hr00 hc00;have HR01:=Sd.mk hr01;have J01:=Sd.mk hc01;clear hr01 hc01;have HR02:=Sd.mk hr02;have J02:=Sd.mk hc02;clear hr02 hc02;have HR03:=Sd.mk hr03;have J03:=Sd.mk hc03;clear hr03 hc03;have HR04:=Sd.mk hr04;have J04:=Sd.mk hc04;clear hr04 hc04;have HR1:=Sd.mk hr1;have HC1:=Sd.mk hc1;clear hr1 hc1;have HR20:=Sd.mk hr20;have J20:=Sd.mk hc20;clear hr20 hc20;have HR21:=Sd.mk hr21;have J21:=Sd.mk hc21;clear hr21 hc21;have HB:=Sd.mk (Below.refl w.heap.size w);have H:=h;clear h;unfold pairs_apart.f at H;have H':=Sd.mk H;clear H;go_enter Try.func82,Try.ntmps82;go_wp2_with (first|((with_reducible refine gate_dst (N:=5) rfl ?_);refine uY 5 (cs:=#[.slice A0_0 l00.length c0_0,.slice A0_1 l01.length c0_1,.slice A0_2 l02.length c0_2,.slice A0_3 l03.length c0_3,.slice A0_4 l04.length c0_4]) (t:=26) fun gb236 hg w6 BK236 hb GE236 HB=>?_;clear hb hg)|((with_reducible refine gate_dst (N:=7) rfl ?_);refine uY 7 (cs:=#[.slice A2_0 l20.length c2_0,.slice A2_1 l21.length c2_1]) (t:=38) fun gb237 hg w7 BK237 hb GE237 HB=>?_;have NB236_237:=uN hg BK236;have NB237_236:=uM NB236_237;replace BK236:=uK BK236 hb;clear hb hg)|((with_reducible refine gate_dst (N:=10) rfl ?_);refine uY 10 (cs:=#[.slice none 0 0,.slice none 0 0]) (t:=38) fun gb238 hg w8 BK238 hb GE238 HB=>?_;have NB236_238:=uN hg BK236;have NB238_236:=uM NB236_238;have NB237_238:=uN hg BK237;have NB238_237:=uM NB237_238;replace BK236:=uK BK236 hb;replace BK237:=uK BK237 hb;clear hb hg)|((with_reducible refine gate_dst (N:=11) rfl ?_);refine uY 11 (cs:=#[.slice none 0 0,.slice none 0 0]) (t:=38) fun gb239 hg w9 BK239 hb GE239 HB=>?_;have NB236_239:=uN hg BK236;have NB239_236:=uM NB236_239;have NB237_239:=uN hg BK237;have NB239_237:=uM NB237_239;have NB238_239:=uN hg BK238;have NB239_238:=uM NB238_239;replace BK236:=uK BK236 hb;replace BK237:=uK BK237 hb;replace BK238:=uK BK238 hb;clear hb hg;have M10:=nP NB237_236;have M11:=nP NB237_238;have M12:=nP NB237_239;have Z13:=bd2 BK237));go_loopg [21] k (fun kq v21 w'=>∃ (x21_1:Int) (x240000_1:List Bool) (u240000:Value),v21 = .int .i64 x21_1∧Sd (pairs_apart.l0 kq l1 a3 a4 l20 (l20.length:Int) x21_1 l00 l01 l02 l03 l04 l20 l21 x240000_1=some (r1,r2))∧Sd (kq ≤ k)∧Sd (Kd.R Kd.bool 4 w' w.heap.size (fun _=>True) u240000 x240000_1)∧Sd (w'.heap[gb236]? = some (.cells #[(.slice A0_0 l00.length c0_0),(.slice A0_1 l01.length c0_1),(.slice A0_2 l02.length c0_2),(.slice A0_3 l03.length c0_3),(.slice A0_4 l04.length c0_4)] 26 (0,0)))∧Sd (w'.heap[gb237]? = some (.cells #[(.slice A2_0 l20.length c2_0),(.slice A2_1 l21.length c2_1)] 38 (0,0)))∧Sd (w'.heap[gb238]? = some (.cells #[(.slice none 0 0),(.slice none 0 0)] 38 (0,0)))∧Sd (w'.heap[gb239]? = some (.cells #[u240000,(.slice none 0 0)] 38 (0,0)))∧Sd (Below w.heap.size w w'))
 case atStart=>exact ⟨(0),(([]:List Bool)),(.slice none 0 0),tSS,H',⟨Nat.le_refl _⟩,⟨tZ⟩,kA BK236,kA BK237,kA BK238,kA BK239,uA⟩
 case round =>
  clear H';(try clear c1);(try clear c2);(try clear p2);(try clear c8);(try clear c10);(try clear c11);(try clear c12);(try clear Z13);obtain ⟨x21_1,x240000_1,u240000,rfl,HA,HK1,HO_240000,BK236,BK237,BK238,BK239,HB⟩:=hrel;cases gk with
  | zero=>exact absurd HA.out (by simp [pairs_apart.l0])
  | succ k1 =>
   have H:=HA.out;clear HA;simp only [pairs_apart.l0] at H;replace H:=iD H;rcases H with ⟨c14,c14b0,H⟩ | ⟨c14,c14b0,H⟩
   ·clear c14;replace H:=iB H;rcases H with ⟨c15,H⟩ | ⟨c15,H⟩
    ·have c15b0:=dTr c15;clear c15;replace H:=iB H;rcases H with ⟨c16,H⟩ | ⟨c16,H⟩
     ·have c16b0:=dTr c16;clear c16;obtain ⟨t241,A17,H⟩:=oB H;obtain ⟨t242,A18,H⟩:=oB H;replace H:=iD H;rcases H with ⟨c19,c19b0,H⟩ | ⟨c19,c19b0,H⟩
      ·clear c19;replace H:=iB H;rcases H with ⟨c20,H⟩ | ⟨c20,H⟩
       ·have c20b0:=dTr c20;clear c20;replace H:=iB H;rcases H with ⟨c21,H⟩ | ⟨c21,H⟩
        ·have LMc21:=Sd.mk c21;clear c21;obtain ⟨y244,hy244⟩:∃ y_:List Bool,y_=(x240000_1 ++ [!(rdOf false l1 x21_1)]):=⟨_,rfl⟩;replace H:(pairs_apart.l0 k1 l1 a3 a4 l20 (l20.length:Int) (wrap64 (x21_1 + 1)) l00 l01 l02 l03 l04 l20 l21 y244)=some (r1,r2):=yR hy244 H;have Ny244:=Sd.mk hy244;clear hy244;have H':=Sd.mk H;clear H;have p240:0 ≤ (x21_1:Int):=tD;have q240:x21_1 < (l20.length:Int):=tD;obtain ⟨ad240,e240,hx240_0⟩:=Kd.at_bool HR20.out x21_1 p240 q240;cases e240;replace hx240_0:=uC HB hx240_0;replace p240:=eq_true p240;replace q240:=eq_true q240;(try go_wp2);replace HO_240000:=Sd.mk (Kd.R_drew HO_240000.out);replace BK236:=uE BK236;replace BK237:=uE BK237;replace BK238:=uE BK238;replace BK239:=uE BK239;replace HB:=uI HB;refine start_ (n:=10) (S:=fun w'=>w'.cell? ⟨gb236,0,none⟩=some (.slice A0_0 l00.length c0_0)∧w'.cell? ⟨gb236,1,none⟩=some (.slice A0_1 l01.length c0_1)∧w'.cell? ⟨gb236,2,none⟩=some (.slice A0_2 l02.length c0_2)∧w'.cell? ⟨gb236,3,none⟩=some (.slice A0_3 l03.length c0_3)∧w'.cell? ⟨gb236,4,none⟩=some (.slice A0_4 l04.length c0_4)) (ds:=[]) (ab 10 0) (by kernel_rfl) rfl rfl ⟨cB BK236 0,cB BK236 1,cB BK236 2,cB BK236 3,cB BK236 4⟩ (fun hH=>?_);refine with_tabW pairs_apart.tab5 pairs_apart.bits5 (fun HT_ HW_=>?_);generalize wr.drew=w22 at HO_240000 BK236 BK237 BK238 BK239 HB hH ⊢;refine pU 1 27 ?_;refine pU 2 28 ?_;refine pU 5 31 ?_;refine pU 6 32 ?_;refine tU 0 26 ?_;refine tU 4 30 ?_;refine oU (N:=some 29) 3 (fun K hK=>?_);refine gO Try.func53 #[.agg #[.slice A0_0 l00.length c0_0,.slice A0_1 l01.length c0_1,.slice A0_2 l02.length c0_2,.slice A0_3 l03.length c0_3,.slice A0_4 l04.length c0_4],.int .i64 a3,.int .i64 x21_1] ?_;(with_reducible refine (wp_Make.calls k1 _ _ l00 _ _ l01 _ _ l02 _ _ l03 _ _ l04 a3 x21_1 t241 _ (sC HR00) J00.out (sC HR01) J01.out (sC HR02) J02.out (sC HR03) J03.out (sC HR04) J04.out A17.out).mono ?_);rintro e w23 ⟨rfl,hb⟩;refine ⟨_,rfl,?_⟩;replace HO_240000:=Sd.mk (Kd.R_below (kR HO_240000) hb);replace BK236:=uK BK236 hb;replace BK237:=uK BK237 hb;replace BK238:=uK BK238 hb;replace BK239:=uK BK239 hb;replace HB:=uH hb;(try clear hb);(try clear hb2);(try clear hk);(try clear hi);refine hK.out _ _ ⟨cB BK236 0,cB BK236 1,cB BK236 2,cB BK236 3,cB BK236 4⟩ (fun hH=>?_);clear hK K;refine nU ?_;refine oU (N:=some 33) 7 (fun K hK=>?_);refine gO Try.func53 #[.agg #[.slice A0_0 l00.length c0_0,.slice A0_1 l01.length c0_1,.slice A0_2 l02.length c0_2,.slice A0_3 l03.length c0_3,.slice A0_4 l04.length c0_4],.int .i64 a4,.int .i64 x21_1] ?_;(with_reducible refine (wp_Make.calls k1 _ _ l00 _ _ l01 _ _ l02 _ _ l03 _ _ l04 a4 x21_1 t242 _ (sC HR00) J00.out (sC HR01) J01.out (sC HR02) J02.out (sC HR03) J03.out (sC HR04) J04.out A18.out).mono ?_);rintro e w24 ⟨rfl,hb⟩;refine ⟨_,rfl,?_⟩;replace HO_240000:=Sd.mk (Kd.R_below (kR HO_240000) hb);replace BK236:=uK BK236 hb;replace BK237:=uK BK237 hb;replace BK238:=uK BK238 hb;replace BK239:=uK BK239 hb;replace HB:=uH hb;(try clear hb);(try clear hb2);(try clear hk);(try clear hi);refine hK.out _ _ ⟨cB BK236 0,cB BK236 1,cB BK236 2,cB BK236 3,cB BK236 4⟩ (fun hH=>?_);clear hK K;refine nU ?_;refine pU 8 14 ?_;refine pU 9 15 ?_;refine dU ?_;have p243:0 ≤ (x21_1:Int):=tD;have q243:x21_1 < (l1.length:Int):=tD;obtain ⟨ad243,e243,hx243_0⟩:=Kd.at_bool HR1.out x21_1 p243 q243;cases e243;replace hx243_0:=uC HB hx243_0;replace p243:=eq_true p243;replace q243:=eq_true q243;have M25:=nP NB239_236;have M26:=nP NB239_237;have M27:=nP NB239_238;have Z28:=bd2 BK239;(try go_wp2_with (first|((with_reducible refine gate_builtin (b:=.append) (xs:=#[.tmp 55,.tmp 57]) rfl ?_);at_builtin;refine Kd.R_append Kd.bool (w0:=w) w.heap.size rfl (.tmp 55) (.tmp 57) 32 4 (.bool false) 1 rfl Try.underlying32 info4 rfl (by decide) (by omega) u240000 x240000_1 (!(rdOf false l1 x21_1)) [.bool (!(rdOf false l1 x21_1))] (fun _=>True) (fun _=>False) rfl rfl ?aP (fun _ hk=>hk.elim) ?aF ?aO ?aB ?aS ?aL ?_;(case aP=>exact rfl);(case aB=>exact uB);(case aF=>exact (fun _ _=>trivial));(case aO=>exact (kR HO_240000));(case aS=>exact (below_size uB));(case aL=>have:=LMc21.out;omega);intro v245 w29 ho hb hg hat;rw [← Ny244.out] at ho;have HO246:=Sd.mk ho;replace BK236:=uW BK236 (Kd.R_ne HO_240000.out BK236.out (by decide)) hg;replace BK237:=uW BK237 (Kd.R_ne HO_240000.out BK237.out (by decide)) hg;replace BK238:=uW BK238 (Kd.R_ne HO_240000.out BK238.out (by decide)) hg;replace BK239:=uW BK239 (Kd.R_ne HO_240000.out BK239.out (by decide)) hg;replace HB:=Sd.mk hb;clear ho hb hg hat;obtain ⟨Ao30,co30,eo30⟩:=Kd.R_slice HO246.out;subst eo30;have Z31:=bd2 BK239)));go_roundg k1
         case measure=>have:=HK1.out;omega
         case rel=>exact ⟨(wrap64 (x21_1 + 1)),(y244),(.slice Ao30 y244.length co30),tSS,H',⟨by have:=HK1.out;omega⟩,⟨kE (fR1 HO246 BK239)⟩,kH (bF1 BK236 NB236_239),kH (bF1 BK237 NB237_239),kH (bF1 BK238 NB238_239),kH (bP1 BK239),uA⟩
        ·exact absurd H (by simp)
       ·exact absurd H (by simp)
      ·clear c19;replace H:=iD H;rcases H with ⟨c32,c32b0,H⟩ | ⟨c32,c32b0,H⟩
       ·clear c32;replace H:=iB H;rcases H with ⟨c33,H⟩ | ⟨c33,H⟩
        ·have LMc33:=Sd.mk c33;clear c33;obtain ⟨y247,hy247⟩:∃ y_:List Bool,y_=(x240000_1 ++ [true]):=⟨_,rfl⟩;replace H:(pairs_apart.l0 k1 l1 a3 a4 l20 (l20.length:Int) (wrap64 (x21_1 + 1)) l00 l01 l02 l03 l04 l20 l21 y247)=some (r1,r2):=yR hy247 H;have Ny247:=Sd.mk hy247;clear hy247;have H':=Sd.mk H;clear H;have p240:0 ≤ (x21_1:Int):=tD;have q240:x21_1 < (l20.length:Int):=tD;obtain ⟨ad240,e240,hx240_0⟩:=Kd.at_bool HR20.out x21_1 p240 q240;cases e240;replace hx240_0:=uC HB hx240_0;replace p240:=eq_true p240;replace q240:=eq_true q240;(try go_wp2);replace HO_240000:=Sd.mk (Kd.R_drew HO_240000.out);replace BK236:=uE BK236;replace BK237:=uE BK237;replace BK238:=uE BK238;replace BK239:=uE BK239;replace HB:=uI HB;refine start_ (n:=10) (S:=fun w'=>w'.cell? ⟨gb236,0,none⟩=some (.slice A0_0 l00.length c0_0)∧w'.cell? ⟨gb236,1,none⟩=some (.slice A0_1 l01.length c0_1)∧w'.cell? ⟨gb236,2,none⟩=some (.slice A0_2 l02.length c0_2)∧w'.cell? ⟨gb236,3,none⟩=some (.slice A0_3 l03.length c0_3)∧w'.cell? ⟨gb236,4,none⟩=some (.slice A0_4 l04.length c0_4)) (ds:=[]) (ab 10 0) (by kernel_rfl) rfl rfl ⟨cB BK236 0,cB BK236 1,cB BK236 2,cB BK236 3,cB BK236 4⟩ (fun hH=>?_);refine with_tabW pairs_apart.tab5 pairs_apart.bits5 (fun HT_ HW_=>?_);generalize wr.drew=w34 at HO_240000 BK236 BK237 BK238 BK239 HB hH ⊢;refine pU 1 27 ?_;refine pU 2 28 ?_;refine pU 5 31 ?_;refine pU 6 32 ?_;refine tU 0 26 ?_;refine tU 4 30 ?_;refine oU (N:=some 29) 3 (fun K hK=>?_);refine gO Try.func53 #[.agg #[.slice A0_0 l00.length c0_0,.slice A0_1 l01.length c0_1,.slice A0_2 l02.length c0_2,.slice A0_3 l03.length c0_3,.slice A0_4 l04.length c0_4],.int .i64 a3,.int .i64 x21_1] ?_;(with_reducible refine (wp_Make.calls k1 _ _ l00 _ _ l01 _ _ l02 _ _ l03 _ _ l04 a3 x21_1 t241 _ (sC HR00) J00.out (sC HR01) J01.out (sC HR02) J02.out (sC HR03) J03.out (sC HR04) J04.out A17.out).mono ?_);rintro e w35 ⟨rfl,hb⟩;refine ⟨_,rfl,?_⟩;replace HO_240000:=Sd.mk (Kd.R_below (kR HO_240000) hb);replace BK236:=uK BK236 hb;replace BK237:=uK BK237 hb;replace BK238:=uK BK238 hb;replace BK239:=uK BK239 hb;replace HB:=uH hb;(try clear hb);(try clear hb2);(try clear hk);(try clear hi);refine hK.out _ _ ⟨cB BK236 0,cB BK236 1,cB BK236 2,cB BK236 3,cB BK236 4⟩ (fun hH=>?_);clear hK K;refine nU ?_;refine oU (N:=some 33) 7 (fun K hK=>?_);refine gO Try.func53 #[.agg #[.slice A0_0 l00.length c0_0,.slice A0_1 l01.length c0_1,.slice A0_2 l02.length c0_2,.slice A0_3 l03.length c0_3,.slice A0_4 l04.length c0_4],.int .i64 a4,.int .i64 x21_1] ?_;(with_reducible refine (wp_Make.calls k1 _ _ l00 _ _ l01 _ _ l02 _ _ l03 _ _ l04 a4 x21_1 t242 _ (sC HR00) J00.out (sC HR01) J01.out (sC HR02) J02.out (sC HR03) J03.out (sC HR04) J04.out A18.out).mono ?_);rintro e w36 ⟨rfl,hb⟩;refine ⟨_,rfl,?_⟩;replace HO_240000:=Sd.mk (Kd.R_below (kR HO_240000) hb);replace BK236:=uK BK236 hb;replace BK237:=uK BK237 hb;replace BK238:=uK BK238 hb;replace BK239:=uK BK239 hb;replace HB:=uH hb;(try clear hb);(try clear hb2);(try clear hk);(try clear hi);refine hK.out _ _ ⟨cB BK236 0,cB BK236 1,cB BK236 2,cB BK236 3,cB BK236 4⟩ (fun hH=>?_);clear hK K;refine nU ?_;refine pU 8 14 ?_;refine pU 9 15 ?_;refine dU ?_;have M37:=nP NB239_236;have M38:=nP NB239_237;have M39:=nP NB239_238;have Z40:=bd2 BK239;(try go_wp2_with (first|((with_reducible refine gate_builtin (b:=.append) (xs:=#[.tmp 55,.tmp 57]) rfl ?_);at_builtin;refine Kd.R_append Kd.bool (w0:=w) w.heap.size rfl (.tmp 55) (.tmp 57) 32 4 (.bool false) 1 rfl Try.underlying32 info4 rfl (by decide) (by omega) u240000 x240000_1 true [.bool true] (fun _=>True) (fun _=>False) rfl rfl ?aP (fun _ hk=>hk.elim) ?aF ?aO ?aB ?aS ?aL ?_;(case aP=>exact rfl);(case aB=>exact uB);(case aF=>exact (fun _ _=>trivial));(case aO=>exact (kR HO_240000));(case aS=>exact (below_size uB));(case aL=>have:=LMc33.out;omega);intro v248 w41 ho hb hg hat;rw [← Ny247.out] at ho;have HO249:=Sd.mk ho;replace BK236:=uW BK236 (Kd.R_ne HO_240000.out BK236.out (by decide)) hg;replace BK237:=uW BK237 (Kd.R_ne HO_240000.out BK237.out (by decide)) hg;replace BK238:=uW BK238 (Kd.R_ne HO_240000.out BK238.out (by decide)) hg;replace BK239:=uW BK239 (Kd.R_ne HO_240000.out BK239.out (by decide)) hg;replace HB:=Sd.mk hb;clear ho hb hg hat;obtain ⟨Ao42,co42,eo42⟩:=Kd.R_slice HO249.out;subst eo42;have Z43:=bd2 BK239)));go_roundg k1
         case measure=>have:=HK1.out;omega
         case rel=>exact ⟨(wrap64 (x21_1 + 1)),(y247),(.slice Ao42 y247.length co42),tSS,H',⟨by have:=HK1.out;omega⟩,⟨kE (fR1 HO249 BK239)⟩,kH (bF1 BK236 NB236_239),kH (bF1 BK237 NB237_239),kH (bF1 BK238 NB238_239),kH (bP1 BK239),uA⟩
        ·exact absurd H (by simp)
       ·clear c32;replace H:=iD H;rcases H with ⟨c44,c44b0,H⟩ | ⟨c44,c44b0,H⟩
        ·clear c44;replace H:=iB H;rcases H with ⟨c45,H⟩ | ⟨c45,H⟩
         ·have LMc45:=Sd.mk c45;clear c45;obtain ⟨y250,hy250⟩:∃ y_:List Bool,y_=(x240000_1 ++ [false]):=⟨_,rfl⟩;replace H:(pairs_apart.l0 k1 l1 a3 a4 l20 (l20.length:Int) (wrap64 (x21_1 + 1)) l00 l01 l02 l03 l04 l20 l21 y250)=some (r1,r2):=yR hy250 H;have Ny250:=Sd.mk hy250;clear hy250;have H':=Sd.mk H;clear H;have p240:0 ≤ (x21_1:Int):=tD;have q240:x21_1 < (l20.length:Int):=tD;obtain ⟨ad240,e240,hx240_0⟩:=Kd.at_bool HR20.out x21_1 p240 q240;cases e240;replace hx240_0:=uC HB hx240_0;replace p240:=eq_true p240;replace q240:=eq_true q240;(try go_wp2);replace HO_240000:=Sd.mk (Kd.R_drew HO_240000.out);replace BK236:=uE BK236;replace BK237:=uE BK237;replace BK238:=uE BK238;replace BK239:=uE BK239;replace HB:=uI HB;refine start_ (n:=10) (S:=fun w'=>w'.cell? ⟨gb236,0,none⟩=some (.slice A0_0 l00.length c0_0)∧w'.cell? ⟨gb236,1,none⟩=some (.slice A0_1 l01.length c0_1)∧w'.cell? ⟨gb236,2,none⟩=some (.slice A0_2 l02.length c0_2)∧w'.cell? ⟨gb236,3,none⟩=some (.slice A0_3 l03.length c0_3)∧w'.cell? ⟨gb236,4,none⟩=some (.slice A0_4 l04.length c0_4)) (ds:=[]) (ab 10 0) (by kernel_rfl) rfl rfl ⟨cB BK236 0,cB BK236 1,cB BK236 2,cB BK236 3,cB BK236 4⟩ (fun hH=>?_);refine with_tabW pairs_apart.tab5 pairs_apart.bits5 (fun HT_ HW_=>?_);generalize wr.drew=w46 at HO_240000 BK236 BK237 BK238 BK239 HB hH ⊢;refine pU 1 27 ?_;refine pU 2 28 ?_;refine pU 5 31 ?_;refine pU 6 32 ?_;refine tU 0 26 ?_;refine tU 4 30 ?_;refine oU (N:=some 29) 3 (fun K hK=>?_);refine gO Try.func53 #[.agg #[.slice A0_0 l00.length c0_0,.slice A0_1 l01.length c0_1,.slice A0_2 l02.length c0_2,.slice A0_3 l03.length c0_3,.slice A0_4 l04.length c0_4],.int .i64 a3,.int .i64 x21_1] ?_;(with_reducible refine (wp_Make.calls k1 _ _ l00 _ _ l01 _ _ l02 _ _ l03 _ _ l04 a3 x21_1 t241 _ (sC HR00) J00.out (sC HR01) J01.out (sC HR02) J02.out (sC HR03) J03.out (sC HR04) J04.out A17.out).mono ?_);rintro e w47 ⟨rfl,hb⟩;refine ⟨_,rfl,?_⟩;replace HO_240000:=Sd.mk (Kd.R_below (kR HO_240000) hb);replace BK236:=uK BK236 hb;replace BK237:=uK BK237 hb;replace BK238:=uK BK238 hb;replace BK239:=uK BK239 hb;replace HB:=uH hb;(try clear hb);(try clear hb2);(try clear hk);(try clear hi);refine hK.out _ _ ⟨cB BK236 0,cB BK236 1,cB BK236 2,cB BK236 3,cB BK236 4⟩ (fun hH=>?_);clear hK K;refine nU ?_;refine oU (N:=some 33) 7 (fun K hK=>?_);refine gO Try.func53 #[.agg #[.slice A0_0 l00.length c0_0,.slice A0_1 l01.length c0_1,.slice A0_2 l02.length c0_2,.slice A0_3 l03.length c0_3,.slice A0_4 l04.length c0_4],.int .i64 a4,.int .i64 x21_1] ?_;(with_reducible refine (wp_Make.calls k1 _ _ l00 _ _ l01 _ _ l02 _ _ l03 _ _ l04 a4 x21_1 t242 _ (sC HR00) J00.out (sC HR01) J01.out (sC HR02) J02.out (sC HR03) J03.out (sC HR04) J04.out A18.out).mono ?_);rintro e w48 ⟨rfl,hb⟩;refine ⟨_,rfl,?_⟩;replace HO_240000:=Sd.mk (Kd.R_below (kR HO_240000) hb);replace BK236:=uK BK236 hb;replace BK237:=uK BK237 hb;replace BK238:=uK BK238 hb;replace BK239:=uK BK239 hb;replace HB:=uH hb;(try clear hb);(try clear hb2);(try clear hk);(try clear hi);refine hK.out _ _ ⟨cB BK236 0,cB BK236 1,cB BK236 2,cB BK236 3,cB BK236 4⟩ (fun hH=>?_);clear hK K;refine nU ?_;refine pU 8 14 ?_;refine pU 9 15 ?_;refine dU ?_;have M49:=nP NB239_236;have M50:=nP NB239_237;have M51:=nP NB239_238;have Z52:=bd2 BK239;(try go_wp2_with (first|((with_reducible refine gate_builtin (b:=.append) (xs:=#[.tmp 55,.tmp 57]) rfl ?_);at_builtin;refine Kd.R_append Kd.bool (w0:=w) w.heap.size rfl (.tmp 55) (.tmp 57) 32 4 (.bool false) 1 rfl Try.underlying32 info4 rfl (by decide) (by omega) u240000 x240000_1 false [.bool false] (fun _=>True) (fun _=>False) rfl rfl ?aP (fun _ hk=>hk.elim) ?aF ?aO ?aB ?aS ?aL ?_;(case aP=>exact rfl);(case aB=>exact uB);(case aF=>exact (fun _ _=>trivial));(case aO=>exact (kR HO_240000));(case aS=>exact (below_size uB));(case aL=>have:=LMc45.out;omega);intro v251 w53 ho hb hg hat;rw [← Ny250.out] at ho;have HO252:=Sd.mk ho;replace BK236:=uW BK236 (Kd.R_ne HO_240000.out BK236.out (by decide)) hg;replace BK237:=uW BK237 (Kd.R_ne HO_240000.out BK237.out (by decide)) hg;replace BK238:=uW BK238 (Kd.R_ne HO_240000.out BK238.out (by decide)) hg;replace BK239:=uW BK239 (Kd.R_ne HO_240000.out BK239.out (by decide)) hg;replace HB:=Sd.mk hb;clear ho hb hg hat;obtain ⟨Ao54,co54,eo54⟩:=Kd.R_slice HO252.out;subst eo54;have Z55:=bd2 BK239)));go_roundg k1
          case measure=>have:=HK1.out;omega
          case rel=>exact ⟨(wrap64 (x21_1 + 1)),(y250),(.slice Ao54 y250.length co54),tSS,H',⟨by have:=HK1.out;omega⟩,⟨kE (fR1 HO252 BK239)⟩,kH (bF1 BK236 NB236_239),kH (bF1 BK237 NB237_239),kH (bF1 BK238 NB238_239),kH (bP1 BK239),uA⟩
         ·exact absurd H (by simp)
        ·clear c44;replace H:=iB H;rcases H with ⟨c56,H⟩ | ⟨c56,H⟩
         ·have LMc56:=Sd.mk c56;clear c56;obtain ⟨y253,hy253⟩:∃ y_:List Bool,y_=(x240000_1 ++ [rdOf false l20 x21_1]):=⟨_,rfl⟩;replace H:(pairs_apart.l0 k1 l1 a3 a4 l20 (l20.length:Int) (wrap64 (x21_1 + 1)) l00 l01 l02 l03 l04 l20 l21 y253)=some (r1,r2):=yR hy253 H;have Ny253:=Sd.mk hy253;clear hy253;have H':=Sd.mk H;clear H;have p240:0 ≤ (x21_1:Int):=tD;have q240:x21_1 < (l20.length:Int):=tD;obtain ⟨ad240,e240,hx240_0⟩:=Kd.at_bool HR20.out x21_1 p240 q240;cases e240;replace hx240_0:=uC HB hx240_0;replace p240:=eq_true p240;replace q240:=eq_true q240;(try go_wp2);replace HO_240000:=Sd.mk (Kd.R_drew HO_240000.out);replace BK236:=uE BK236;replace BK237:=uE BK237;replace BK238:=uE BK238;replace BK239:=uE BK239;replace HB:=uI HB;refine start_ (n:=10) (S:=fun w'=>w'.cell? ⟨gb236,0,none⟩=some (.slice A0_0 l00.length c0_0)∧w'.cell? ⟨gb236,1,none⟩=some (.slice A0_1 l01.length c0_1)∧w'.cell? ⟨gb236,2,none⟩=some (.slice A0_2 l02.length c0_2)∧w'.cell? ⟨gb236,3,none⟩=some (.slice A0_3 l03.length c0_3)∧w'.cell? ⟨gb236,4,none⟩=some (.slice A0_4 l04.length c0_4)) (ds:=[]) (ab 10 0) (by kernel_rfl) rfl rfl ⟨cB BK236 0,cB BK236 1,cB BK236 2,cB BK236 3,cB BK236 4⟩ (fun hH=>?_);refine with_tabW pairs_apart.tab5 pairs_apart.bits5 (fun HT_ HW_=>?_);generalize wr.drew=w57 at HO_240000 BK236 BK237 BK238 BK239 HB hH ⊢;refine pU 1 27 ?_;refine pU 2 28 ?_;refine pU 5 31 ?_;refine pU 6 32 ?_;refine tU 0 26 ?_;refine tU 4 30 ?_;refine oU (N:=some 29) 3 (fun K hK=>?_);refine gO Try.func53 #[.agg #[.slice A0_0 l00.length c0_0,.slice A0_1 l01.length c0_1,.slice A0_2 l02.length c0_2,.slice A0_3 l03.length c0_3,.slice A0_4 l04.length c0_4],.int .i64 a3,.int .i64 x21_1] ?_;(with_reducible refine (wp_Make.calls k1 _ _ l00 _ _ l01 _ _ l02 _ _ l03 _ _ l04 a3 x21_1 t241 _ (sC HR00) J00.out (sC HR01) J01.out (sC HR02) J02.out (sC HR03) J03.out (sC HR04) J04.out A17.out).mono ?_);rintro e w58 ⟨rfl,hb⟩;refine ⟨_,rfl,?_⟩;replace HO_240000:=Sd.mk (Kd.R_below (kR HO_240000) hb);replace BK236:=uK BK236 hb;replace BK237:=uK BK237 hb;replace BK238:=uK BK238 hb;replace BK239:=uK BK239 hb;replace HB:=uH hb;(try clear hb);(try clear hb2);(try clear hk);(try clear hi);refine hK.out _ _ ⟨cB BK236 0,cB BK236 1,cB BK236 2,cB BK236 3,cB BK236 4⟩ (fun hH=>?_);clear hK K;refine nU ?_;refine oU (N:=some 33) 7 (fun K hK=>?_);refine gO Try.func53 #[.agg #[.slice A0_0 l00.length c0_0,.slice A0_1 l01.length c0_1,.slice A0_2 l02.length c0_2,.slice A0_3 l03.length c0_3,.slice A0_4 l04.length c0_4],.int .i64 a4,.int .i64 x21_1] ?_;(with_reducible refine (wp_Make.calls k1 _ _ l00 _ _ l01 _ _ l02 _ _ l03 _ _ l04 a4 x21_1 t242 _ (sC HR00) J00.out (sC HR01) J01.out (sC HR02) J02.out (sC HR03) J03.out (sC HR04) J04.out A18.out).mono ?_);rintro e w59 ⟨rfl,hb⟩;refine ⟨_,rfl,?_⟩;replace HO_240000:=Sd.mk (Kd.R_below (kR HO_240000) hb);replace BK236:=uK BK236 hb;replace BK237:=uK BK237 hb;replace BK238:=uK BK238 hb;replace BK239:=uK BK239 hb;replace HB:=uH hb;(try clear hb);(try clear hb2);(try clear hk);(try clear hi);refine hK.out _ _ ⟨cB BK236 0,cB BK236 1,cB BK236 2,cB BK236 3,cB BK236 4⟩ (fun hH=>?_);clear hK K;refine nU ?_;refine pU 8 14 ?_;refine pU 9 15 ?_;refine dU ?_;have M60:=nP NB239_236;have M61:=nP NB239_237;have M62:=nP NB239_238;have Z63:=bd2 BK239;(try go_wp2_with (first|((with_reducible refine gate_builtin (b:=.append) (xs:=#[.tmp 55,.tmp 57]) rfl ?_);at_builtin;refine Kd.R_append Kd.bool (w0:=w) w.heap.size rfl (.tmp 55) (.tmp 57) 32 4 (.bool false) 1 rfl Try.underlying32 info4 rfl (by decide) (by omega) u240000 x240000_1 (rdOf false l20 x21_1) [.bool (rdOf false l20 x21_1)] (fun _=>True) (fun _=>False) rfl rfl ?aP (fun _ hk=>hk.elim) ?aF ?aO ?aB ?aS ?aL ?_;(case aP=>exact rfl);(case aB=>exact uB);(case aF=>exact (fun _ _=>trivial));(case aO=>exact (kR HO_240000));(case aS=>exact (below_size uB));(case aL=>have:=LMc56.out;omega);intro v254 w64 ho hb hg hat;rw [← Ny253.out] at ho;have HO255:=Sd.mk ho;replace BK236:=uW BK236 (Kd.R_ne HO_240000.out BK236.out (by decide)) hg;replace BK237:=uW BK237 (Kd.R_ne HO_240000.out BK237.out (by decide)) hg;replace BK238:=uW BK238 (Kd.R_ne HO_240000.out BK238.out (by decide)) hg;replace BK239:=uW BK239 (Kd.R_ne HO_240000.out BK239.out (by decide)) hg;replace HB:=Sd.mk hb;clear ho hb hg hat;obtain ⟨Ao65,co65,eo65⟩:=Kd.R_slice HO255.out;subst eo65;have Z66:=bd2 BK239)));go_roundg k1
          case measure=>have:=HK1.out;omega
          case rel=>exact ⟨(wrap64 (x21_1 + 1)),(y253),(.slice Ao65 y253.length co65),tSS,H',⟨by have:=HK1.out;omega⟩,⟨kE (fR1 HO255 BK239)⟩,kH (bF1 BK236 NB236_239),kH (bF1 BK237 NB237_239),kH (bF1 BK238 NB238_239),kH (bP1 BK239),uA⟩
         ·exact absurd H (by simp)
     ·exact absurd H (by simp)
    ·exact absurd H (by simp)
   ·clear c14;have H':=Sd.mk H;clear H;have M67:=nP NB237_236;have M68:=nP NB237_238;have M69:=nP NB237_239;have Z70:=bd2 BK237;go_wp2;go_loopg [64] k1 (fun kq v64 w'=>∃ (x64_2:Int) (x240001_2:List Int) (u240001:Value),v64 = .int .i64 x64_2∧Sd (pairs_apart.l1 kq a3 a4 l21 (l21.length:Int) x64_2 l00 l01 l02 l03 l04 x240000_1 x240001_2=some (r1,r2))∧Sd (kq ≤ k1)∧Sd (Kd.R Kd.bool 4 w' w.heap.size (fun _=>True) u240000 x240000_1)∧Sd (Kd.R (Kd.int .i64) 3 w' w.heap.size (fun _=>True) u240001 x240001_2)∧Sd (w'.heap[gb236]? = some (.cells #[(.slice A0_0 l00.length c0_0),(.slice A0_1 l01.length c0_1),(.slice A0_2 l02.length c0_2),(.slice A0_3 l03.length c0_3),(.slice A0_4 l04.length c0_4)] 26 (0,0)))∧Sd (w'.heap[gb237]? = some (.cells #[(.slice A2_0 l20.length c2_0),(.slice A2_1 l21.length c2_1)] 38 (0,0)))∧Sd (w'.heap[gb238]? = some (.cells #[(.slice none 0 0),(.slice none 0 0)] 38 (0,0)))∧Sd (w'.heap[gb239]? = some (.cells #[u240000,u240001] 38 (0,0)))∧Sd (Below w.heap.size w w'))
    case atStart=>exact ⟨(0),(([]:List Int)),(.slice none 0 0),tSS,H',⟨Nat.le_refl _⟩,kS HO_240000,⟨tZ⟩,kA BK236,kA BK237,kA BK238,kA BK239,uA⟩
    case round =>
     clear H';(try clear c1);(try clear c2);(try clear p2);(try clear q2);(try clear hx2);(try clear c3);(try clear c4);(try clear c5);(try clear c6);(try clear p6);(try clear c14);(try clear c14b0);(try clear c15);(try clear c16);(try clear p24);(try clear q24);(try clear hx24);(try clear c32);(try clear c32b0);(try clear c33);(try clear c37);(try clear c38);(try clear c39);(try clear c44);(try clear c44b0);(try clear c45);(try clear c49);(try clear c50);(try clear c51);(try clear c53);(try clear c56);(try clear c60);(try clear c61);(try clear c62);(try clear p64);(try clear c67);(try clear c68);(try clear c69);(try clear Z40);(try clear Z43);(try clear Z52);(try clear Z55);(try clear Z63);(try clear Z66);(try clear Z70);(try clear hx240_0);(try clear p240);(try clear q240);obtain ⟨x64_2,x240001_2,u240001,rfl,HA,HK2,HO_240000,HO_240001,BK236,BK237,BK238,BK239,HB⟩:=hrel;cases gk with
     | zero=>exact absurd HA.out (by simp [pairs_apart.l1])
     | succ k2 =>
      have H:=HA.out;clear HA;simp only [pairs_apart.l1] at H;replace H:=iD H;rcases H with ⟨c71,c71b0,H⟩ | ⟨c71,c71b0,H⟩
      ·clear c71;replace H:=iB H;rcases H with ⟨c72,H⟩ | ⟨c72,H⟩
       ·have c72b0:=dTr c72;clear c72;replace H:=iB H;rcases H with ⟨c73,H⟩ | ⟨c73,H⟩
        ·have c73b0:=dTr c73;clear c73;obtain ⟨t257,A74,H⟩:=oB H;obtain ⟨t258,A75,H⟩:=oB H;replace H:=iB H;rcases H with ⟨c76,H⟩ | ⟨c76,H⟩
         ·have LMc76:=Sd.mk c76;clear c76;obtain ⟨y259,hy259⟩:∃ y_:List Int,y_=(x240001_2 ++ [wrap64 ((wrap64 ((rd l21 x64_2) + t257)) + t258)]):=⟨_,rfl⟩;replace H:(pairs_apart.l1 k2 a3 a4 l21 (l21.length:Int) (wrap64 (x64_2 + 1)) l00 l01 l02 l03 l04 x240000_1 y259)=some (r1,r2):=yR hy259 H;have Ny259:=Sd.mk hy259;clear hy259;have H':=Sd.mk H;clear H;have p256:0 ≤ (x64_2:Int):=tD;have q256:x64_2 < (l21.length:Int):=tD;obtain ⟨ad256,e256,hx256_0⟩:=Kd.at_int HR21.out x64_2 p256 q256;cases e256;replace hx256_0:=uC HB hx256_0;replace p256:=eq_true p256;replace q256:=eq_true q256;(try go_wp2);replace HO_240000:=Sd.mk (Kd.R_drew HO_240000.out);replace HO_240001:=Sd.mk (Kd.R_drew HO_240001.out);replace BK236:=uE BK236;replace BK237:=uE BK237;replace BK238:=uE BK238;replace BK239:=uE BK239;replace HB:=uI HB;refine start_ (n:=17) (S:=fun w'=>w'.cell? ⟨gb239,0,none⟩=some (u240000)∧w'.cell? ⟨gb239,1,none⟩=some (u240001)∧w'.cell? ⟨gb236,0,none⟩=some (.slice A0_0 l00.length c0_0)∧w'.cell? ⟨gb236,1,none⟩=some (.slice A0_1 l01.length c0_1)∧w'.cell? ⟨gb236,2,none⟩=some (.slice A0_2 l02.length c0_2)∧w'.cell? ⟨gb236,3,none⟩=some (.slice A0_3 l03.length c0_3)∧w'.cell? ⟨gb236,4,none⟩=some (.slice A0_4 l04.length c0_4)) (ds:=[16]) (ab 17 0) (by kernel_rfl) rfl rfl ⟨cB BK239 0,cB BK239 1,cB BK236 0,cB BK236 1,cB BK236 2,cB BK236 3,cB BK236 4⟩ (fun hH=>?_);refine with_tabW pairs_apart.tab17 pairs_apart.bits17 (fun HT_ HW_=>?_);generalize wr.drew=w77 at HO_240000 HO_240001 BK236 BK237 BK238 BK239 HB hH ⊢;refine pU 0 69 ?_;refine pU 2 71 ?_;refine pU 4 73 ?_;refine pU 5 74 ?_;refine pU 9 78 ?_;refine pU 10 79 ?_;refine tU 1 70 ?_;refine tU 3 72 ?_;refine tU 8 77 ?_;refine oU (N:=some 75) 6 (fun K hK=>?_);refine gO Try.func104 #[.agg #[.slice A0_0 l00.length c0_0,.slice A0_1 l01.length c0_1,.slice A0_2 l02.length c0_2,.slice A0_3 l03.length c0_3,.slice A0_4 l04.length c0_4],.int .i64 a3,.int .i64 x64_2] ?_;(with_reducible refine (wp_More.calls k2 _ _ l00 _ _ l01 _ _ l02 _ _ l03 _ _ l04 a3 x64_2 t257 _ (sC HR00) J00.out (sC HR01) J01.out (sC HR02) J02.out (sC HR03) J03.out (sC HR04) J04.out A74.out).mono ?_);rintro e w78 ⟨rfl,hb⟩;refine ⟨_,rfl,?_⟩;replace HO_240000:=Sd.mk (Kd.R_below (kR HO_240000) hb);replace HO_240001:=Sd.mk (Kd.R_below (kR HO_240001) hb);replace BK236:=uK BK236 hb;replace BK237:=uK BK237 hb;replace BK238:=uK BK238 hb;replace BK239:=uK BK239 hb;replace HB:=uH hb;(try clear hb);(try clear hb2);(try clear hk);(try clear hi);refine hK.out _ _ ⟨cB BK239 0,cB BK239 1,cB BK236 0,cB BK236 1,cB BK236 2,cB BK236 3,cB BK236 4⟩ (fun hH=>?_);clear hK K;refine nU ?_;refine pU 7 76 ?_;refine oU (N:=some 80) 11 (fun K hK=>?_);refine gO Try.func104 #[.agg #[.slice A0_0 l00.length c0_0,.slice A0_1 l01.length c0_1,.slice A0_2 l02.length c0_2,.slice A0_3 l03.length c0_3,.slice A0_4 l04.length c0_4],.int .i64 a4,.int .i64 x64_2] ?_;(with_reducible refine (wp_More.calls k2 _ _ l00 _ _ l01 _ _ l02 _ _ l03 _ _ l04 a4 x64_2 t258 _ (sC HR00) J00.out (sC HR01) J01.out (sC HR02) J02.out (sC HR03) J03.out (sC HR04) J04.out A75.out).mono ?_);rintro e w79 ⟨rfl,hb⟩;refine ⟨_,rfl,?_⟩;replace HO_240000:=Sd.mk (Kd.R_below (kR HO_240000) hb);replace HO_240001:=Sd.mk (Kd.R_below (kR HO_240001) hb);replace BK236:=uK BK236 hb;replace BK237:=uK BK237 hb;replace BK238:=uK BK238 hb;replace BK239:=uK BK239 hb;replace HB:=uH hb;(try clear hb);(try clear hb2);(try clear hk);(try clear hi);refine hK.out _ _ ⟨cB BK239 0,cB BK239 1,cB BK236 0,cB BK236 1,cB BK236 2,cB BK236 3,cB BK236 4⟩ (fun hH=>?_);clear hK K;refine nU ?_;refine pU 12 81 ?_;refine oU (N:=some 82) 13 (fun K hK=>?_);refine value_ (w1:=?_) (v:=?_) (by rfl) rfl ?_ ?_;rotate_left 2
          ·go_simp;constructor
           ·rfl
           ·rfl
          refine hK.out _ _ ⟨(blk_cell (blk_alloc BK239.out _) 0).trans rfl,(blk_cell (blk_alloc BK239.out _) 1).trans rfl,(blk_cell (blk_alloc BK236.out _) 0).trans rfl,(blk_cell (blk_alloc BK236.out _) 1).trans rfl,(blk_cell (blk_alloc BK236.out _) 2).trans rfl,(blk_cell (blk_alloc BK236.out _) 3).trans rfl,(blk_cell (blk_alloc BK236.out _) 4).trans rfl⟩ (fun hH=>?_);clear hK K;refine nU ?_;refine oU (N:=some 83) 14 (fun K hK=>?_);refine Kd.R_append_step (Kd.int .i64) (w0:=w) w.heap.size (by rfl) (.tmp 70) (.tmp 82) 36 3 (.int .i64 0) 8 rfl Try.underlying36 info3 rfl (by decide) (by omega) u240001 x240001_2 (wrap64 ((wrap64 ((rd l21 x64_2) + t257)) + t258)) [.int .i64 (wrap64 ((wrap64 ((rd l21 x64_2) + t257)) + t258))] (fun _=>True) (fun _=>False) rfl rfl ?aP (fun _ hk=>hk.elim) ?aF ?aO ?aB ?aS ?aL ?_;(case aP=>exact rfl);(case aB=>exact uB);(case aF=>exact (fun _ _=>trivial));(case aO=>exact (kR HO_240001));(case aS=>exact (below_size uB));(case aL=>have:=LMc76.out;omega);intro v260 w80 ho hb hg hat
          rw [← Ny259.out] at ho;have HO261:=Sd.mk ho;replace HO_240000:=Sd.mk (Kd.R_over' (kR HO_240000) (Kd.R_typed (kR HO_240001)) (by decide) hg);replace BK236:=uW BK236 (Kd.R_ne HO_240001.out BK236.out (by decide)) hg;replace BK237:=uW BK237 (Kd.R_ne HO_240001.out BK237.out (by decide)) hg;replace BK238:=uW BK238 (Kd.R_ne HO_240001.out BK238.out (by decide)) hg;replace BK239:=uW BK239 (Kd.R_ne HO_240001.out BK239.out (by decide)) hg;replace HB:=Sd.mk hb;clear ho hb hg hat
          obtain ⟨Ao81,co81,eo81⟩:=Kd.R_slice HO261.out;(first|subst eo81|(injection eo81 with f1_ f2_ f3_;have f4_:=f1_.symm;have f5_:=f3_.symm;clear f1_ f2_ f3_;subst f4_;subst f5_));refine hK.out _ _ ⟨cB BK239 0,cB BK239 1,cB BK236 0,cB BK236 1,cB BK236 2,cB BK236 3,cB BK236 4⟩ (fun hH=>?_);clear hK K;refine nU ?_;refine pU 15 84 ?_;refine last_ (i:=16) (N:=none) (ab 17 131071) rfl rfl (one_of HT_.out (by kernel_rfl)) (by decide) (fun K hK=>?_);have hs82:w80.cell? ⟨gb239,1,none⟩=some (u240001):=(blk_cell BK239.out 1).trans rfl;have hfs82:=blk_frozen BK239.out 1;have hns82_0:=NB236_239.out;have hns82_1:=NB237_239.out;have hns82_2:=NB238_239.out;have hms82_0:=NB239_236.out;have hms82_1:=NB239_237.out;have hms82_2:=NB239_238.out;refine skip_ (w1:=?_) (by rfl) rfl ?_ ?_;rotate_left
          ·go_simp;rfl
          refine hK.out _ _ ?_;clear hK K;refine dU ?_;(try go_wp2);go_roundg k2
          case measure=>have:=HK1.out;have:=HK2.out;omega
          case rel=>exact ⟨(wrap64 (x64_2 + 1)),(y259),(.slice Ao81 y259.length co81),tSS,H',⟨by have:=HK1.out;have:=HK2.out;omega⟩,⟨kE (fR1 HO_240000 BK239)⟩,⟨kE (fR1 HO261 BK239)⟩,kH (bF1 BK236 NB236_239),kH (bF1 BK237 NB237_239),kH (bF1 BK238 NB238_239),kH (bP1 BK239),uA⟩
         ·exact absurd H (by simp)
        ·exact absurd H (by simp)
       ·exact absurd H (by simp)
      ·clear c71;simp only [Option.some.injEq,Prod.mk.injEq] at H;obtain ⟨rfl,rfl⟩:=H;have M83:=nP NB239_236;have M84:=nP NB239_237;have M85:=nP NB239_238;have Z86:=bd2 BK239;obtain ⟨Ao87,co87,eo87⟩:=Kd.R_slice HO_240000.out;subst eo87;have M88:=nP NB238_236;have M89:=nP NB238_237;have Z90:=bd2 BK238;obtain ⟨Ao91,co91,eo91⟩:=Kd.R_slice HO_240001.out;subst eo91;go_wp2;refine bodyPost_ret (results_cell_row rfl _ _ gb238 38 #[.slice Ao87 x240000_1.length co87,.slice Ao91 x240001_2.length co91] (0,0) _ rfl (kG (bQ2 BK238)) Try.underlying38 rfl (by kernel_rfl)) rfl ?_;exact ⟨_,_,tW,kE (fR2 HO_240000 BK238),kE (fR2 HO_240001 BK238),uB⟩
end Go.Proofs.Ytjbjbeihkoeciaa.X
namespace Go.Proofs.Ytjbjbeihkoeciaa.X
open Go.RowKit Go.Proofs.YtjbjbeihkoeciaaW.PrintWords Go.Proofs.YtjbjbeihkoeciaaW.PrintLast Go.Proofs.YtjbjbeihkoeciaaW.PrintMore
theorem rdCe_at (l:List Ce) (pos:Nat):rd_T135 l (pos:Int)=l.getD pos z135:=by simp [rd_T135]
def makeL:List Dg → Int → Int
 | [],_=>0
 | d :: r,s=>if d.f1=s then (if d.f0=1 then 1 else if d.f0=2 then -1 else makeL r s) else makeL r s
def moreL:List Dg → Int → Int
 | [],_=>0
 | d :: r,s=>if d.f1=s then (if d.f0=3 then d.f2 else if d.f0=4 then -d.f2 else moreL r s) else moreL r s
def doesO (l4:List Op_) (o:Int):List Dg:=if 0 ≤ o∧o < (l4.length:Int) then (rd_T66 l4 o).f1 else []
def makeN (l4:List Op_) (o s:Int):Int:=makeL (doesO l4 o) s
def moreN (l4:List Op_) (o s:Int):Int:=moreL (doesO l4 o) s
theorem makeL_is (l:List Dg) (s:Int):makeL l s=1 ∨ makeL l s=0 ∨ makeL l s = -1:=by
 induction l with
 | nil=>exact .inr (.inl rfl)
 | cons d r ih =>
  unfold makeL;split
  ·split
   ·exact .inl rfl
   ·split
    ·exact .inr (.inr rfl)
    ·exact ih
  ·exact ih
theorem moreL_le (l:List Dg) (s:Int) (h:∀ d ∈ l,-1000 ≤ d.f2∧d.f2 ≤ 1000) : -1000 ≤ moreL l s∧moreL l s ≤ 1000:=by
 induction l with
 | nil=>exact ⟨by show (-1000:Int) ≤ 0;decide,by show (0:Int) ≤ 1000;decide⟩
 | cons d r ih =>
  have h1:=h d List.mem_cons_self;have h2:=ih (fun d hd=>h d (List.mem_cons_of_mem _ hd));unfold moreL;split
  ·split
   ·exact h1
   ·split
    ·omega
    ·exact h2
  ·exact h2
theorem there_f (l0 l1 l2:List ByteArray) (l3:List Cl) (l4:List Op_) (o:Int):wp_there.f l0 l1 l2 l3 l4 o=some (decide (0 ≤ o∧o < (l4.length:Int))):=by
 unfold wp_there.f;by_cases h:o ≥ 0
 ·rw [if_pos h];congr 1;simp;omega
 ·rw [if_neg h,decide_eq_false (by omega)]
theorem pthere_f (l0 l1 l2:List ByteArray) (l3:List Cl) (l4:List Op_) (o:Int):pairs_there.f l0 l1 l2 l3 l4 o=some (decide (0 ≤ o∧o < (l4.length:Int))):=by
 unfold pairs_there.f;by_cases h:o ≥ 0
 ·rw [if_pos h];congr 1;simp;omega
 ·rw [if_neg h,decide_eq_false (by omega)]
section
variable (l0 l1 l2:List ByteArray) (l3:List Cl) (l4:List Op_)
theorem make_ev (o s:Int) (hd:∀ x ∈ l4,x.f1.length ≤ 4000000000):Ev (fun k=>wp_Make.f k l0 l1 l2 l3 l4 o s) (makeN l4 o s):=by
 unfold wp_Make.f makeN doesO;refine Ev.bind1 (there_f _ _ _ _ _ _) ?_;by_cases h:0 ≤ o∧o < (l4.length:Int)
 ·rw [decide_eq_true h,if_pos h];refine Ev.yes rfl (Ev.yes h.1 (Ev.yes h.2 ?_));have hl:(rd_T66 l4 o).f1.length ≤ 4000000000:=hd _ (getD_at l4 z66 o.toNat (by omega));generalize (rd_T66 l4 o).f1=L at *;refine Ev.loop (g:=fun k pos=>wp_Make.l0 k s L (L.length:Int) (pos:Int)) (spec:=fun pos=>makeL (L.drop pos) s) L.length ?_ ?_ 0 (by omega)
  ·refine Ev.succ ?_;simp only [wp_Make.l0,List.drop_length];exact Ev.no (by omega) (Ev.now _)
  ·intro pos hp ih;refine Ev.succ ?_;simp only [wp_Make.l0,rdDg_at];rw [wrap_up pos (by omega),drop_getD L z84 pos hp,makeL];generalize L.getD pos z84=d at *;refine Ev.yes (by omega) (Ev.yes (by omega) (Ev.yes (by omega) ?_));by_cases h1:d.f1=s
   ·rw [if_pos h1];refine Ev.yes h1 ?_;by_cases h2:d.f0=1
    ·rw [if_pos h2];exact Ev.yes h2 (Ev.now _)
    ·rw [if_neg h2];refine Ev.no h2 ?_;by_cases h3:d.f0=2
     ·rw [if_pos h3];exact Ev.yes h3 (Ev.now _)
     ·rw [if_neg h3];exact Ev.no h3 ih
   ·rw [if_neg h1];exact Ev.no h1 ih
 ·rw [decide_eq_false h,if_neg h];exact Ev.no (by decide) (Ev.now _)
theorem more_ev (o s:Int) (hd:∀ x ∈ l4,x.f1.length ≤ 4000000000) (hb:∀ x ∈ l4,∀ d ∈ x.f1,-1000 ≤ d.f2∧d.f2 ≤ 1000):Ev (fun k=>wp_More.f k l0 l1 l2 l3 l4 o s) (moreN l4 o s):=by
 unfold wp_More.f moreN doesO;refine Ev.bind1 (there_f _ _ _ _ _ _) ?_;by_cases h:0 ≤ o∧o < (l4.length:Int)
 ·rw [decide_eq_true h,if_pos h];refine Ev.yes rfl (Ev.yes h.1 (Ev.yes h.2 ?_));have hm:=getD_at l4 z66 o.toNat (by omega);have hl:(rd_T66 l4 o).f1.length ≤ 4000000000:=hd _ hm;have hbl:∀ d ∈ (rd_T66 l4 o).f1,-1000 ≤ d.f2∧d.f2 ≤ 1000:=hb _ hm;generalize (rd_T66 l4 o).f1=L at *;refine Ev.loop (g:=fun k pos=>wp_More.l0 k s L (L.length:Int) (pos:Int)) (spec:=fun pos=>moreL (L.drop pos) s) L.length ?_ ?_ 0 (by omega)
  ·refine Ev.succ ?_;simp only [wp_More.l0,List.drop_length];exact Ev.no (by omega) (Ev.now _)
  ·intro pos hp ih;refine Ev.succ ?_;simp only [wp_More.l0,rdDg_at];have hdb:=hbl _ (getD_at L z84 pos hp);rw [wrap_up pos (by omega),drop_getD L z84 pos hp,moreL];generalize L.getD pos z84=d at *;refine Ev.yes (by omega) (Ev.yes (by omega) (Ev.yes (by omega) ?_));by_cases h1:d.f1=s
   ·rw [if_pos h1];refine Ev.yes h1 ?_;by_cases h2:d.f0=3
    ·rw [if_pos h2];exact Ev.yes h2 (Ev.now _)
    ·rw [if_neg h2];refine Ev.no h2 ?_;by_cases h3:d.f0=4
     ·rw [if_pos h3];exact Ev.yes h3 (Ev.is (by unfold wrap64;omega))
     ·rw [if_neg h3];exact Ev.no h3 ih
   ·rw [if_neg h1];exact Ev.no h1 ih
 ·rw [decide_eq_false h,if_neg h];exact Ev.no (by decide) (Ev.now _)
def manyN:Nat:=if checkB l0 l1 l2 l3 l4=true∧l0.length ≤ 4∧l1.length ≤ 3 then 2 ^ l0.length * 3 ^ l1.length else 0
def bitsL:Nat → Nat → List Bool
 | 0,_=>[]
 | k + 1,n=>(n % 2 == 1) :: bitsL k (n / 2)
def digsL:Nat → Nat → List Int
 | 0,_=>[]
 | k + 1,n=>((n % 3:Nat):Int) :: digsL k (n / 3)
def halfs:Nat → Nat → Nat
 | 0,n=>n
 | k + 1,n=>halfs k (n / 2)
def stN (n0 n1 n:Nat):Sm:=⟨bitsL n0 n,digsL n1 (halfs n0 n)⟩
theorem bitsL_len (k n:Nat):(bitsL k n).length=k:=by induction k generalizing n with|zero=>rfl|succ k ih=>simp [bitsL,ih]
theorem digsL_len (k n:Nat):(digsL k n).length=k:=by induction k generalizing n with|zero=>rfl|succ k ih=>simp [digsL,ih]
theorem digsL_le (k n:Nat):∀ x ∈ digsL k n,0 ≤ x∧x ≤ 2:=by
 induction k generalizing n with
 | zero=>intro x hx;simp [digsL] at hx
 | succ k ih =>
  intro x hx;rcases List.mem_cons.1 hx with rfl|hx
  ·omega
  ·exact ih _ x hx
theorem many_le:manyN l0 l1 l2 l3 l4 ≤ 1000:=by
 unfold manyN;split
 ·rename_i h;have h1:2 ^ l0.length ≤ 2 ^ 4:=Nat.pow_le_pow_right (by decide) h.2.1;have h2:3 ^ l1.length ≤ 3 ^ 3:=Nat.pow_le_pow_right (by decide) h.2.2;calc 2 ^ l0.length * 3 ^ l1.length ≤ 2 ^ 4 * 3 ^ 3:=Nat.mul_le_mul h1 h2
   _ ≤ 1000:=by decide
 ·exact Nat.zero_le _
theorem many_ev (hru:RuOk l0 l1 l2 l3 l4):Ev (fun k=>pairs_Many.f k l0 l1 l2 l3 l4) ((manyN l0 l1 l2 l3 l4:Nat):Int):=by
 have hz:∀ b,b=true → manyN l0 l1 l2 l3 l4=0 → Ev (fun k=>pairs_Many.j0 k b l0 l1 l2 l3 l4) ((manyN l0 l1 l2 l3 l4:Nat):Int):=by
  rintro b rfl h;refine Ev.succ ?_;simp only [pairs_Many.j0];rw [h];exact Ev.yes (by first|trivial|rfl) (Ev.now _)
 unfold pairs_Many.f;refine Ev.bind1 (show sorts_Check.f l0 l1 l2 l3 l4=some (checkE l0 l1 l2 l3 l4) by unfold sorts_Check.f;rw [if_pos hru]) ?_;unfold checkE;cases hck:checkB l0 l1 l2 l3 l4
 ·exact Ev.no (by decide) (hz true rfl (by unfold manyN;rw [if_neg (by simp [hck])]))
 ·refine Ev.yes rfl ?_;by_cases h0:l0.length ≤ 4
  ·refine Ev.no (by omega) ?_;by_cases h1:l1.length ≤ 3
   ·rw [decide_eq_false (by omega)];refine Ev.succ ?_;simp only [pairs_Many.j0];refine Ev.no (by decide) ?_;have hs:shl .i64 1 (l0.length:Int)=((2 ^ l0.length:Nat):Int):=by
     (have:l0.length=0 ∨ l0.length=1 ∨ l0.length=2 ∨ l0.length=3 ∨ l0.length=4:=by omega);rcases this with h|h|h|h|h <;> rw [h] <;> rfl
    rw [hs];have hm:manyN l0 l1 l2 l3 l4=2 ^ l0.length * 3 ^ l1.length:=if_pos ⟨hck,h0,h1⟩;rw [hm];have hb:2 ^ l0.length ≤ 16:=(Nat.pow_le_pow_right (by decide) h0:2 ^ l0.length ≤ 2 ^ 4);generalize 2 ^ l0.length=B at *;have h3:∀ (m B:Nat),m ≤ 3 → B ≤ 16 * 3 ^ (3 - m) → ∀ p:Nat,p + m=l1.length → Ev (fun k=>pairs_Many.l0 k (B:Int) (l1.length:Int) (p:Int)) ((B * 3 ^ m:Nat):Int):=by
     intro m;induction m with
     | zero =>
      intro B _ _ p hp;refine Ev.succ ?_;simp only [pairs_Many.l0];exact Ev.no (by omega) (Ev.is (by simp))
     | succ m ih =>
      intro B hm hB p hp;refine Ev.succ ?_;simp only [pairs_Many.l0];have hB2:B * 3 ≤ 16 * 3 ^ (3 - m):=by
       (have e:3 - m=(3 - (m + 1)) + 1:=by omega);rw [e,Nat.pow_succ];have:=Nat.mul_le_mul_right 3 hB;rwa [Nat.mul_assoc] at this
      have hB3:16 * 3 ^ (3 - m) ≤ 432:=Nat.le_trans (Nat.mul_le_mul_left 16 (Nat.pow_le_pow_right (by decide) (show 3 - m ≤ 3 by omega))) (by decide);(have e1:wrap64 ((B:Int) * 3)=((B * 3:Nat):Int):=by unfold wrap64;omega);rw [e1,wrap_up p (by omega)];refine Ev.yes (by omega) ?_;have h4:=ih (B * 3) (by omega) hB2 (p + 1) (by omega);rwa [show B * 3 * 3 ^ m=B * 3 ^ (m + 1) by rw [Nat.pow_succ,Nat.mul_assoc,Nat.mul_comm 3]] at h4
    exact h3 l1.length B h1 (Nat.le_trans hb (Nat.le_mul_of_pos_right _ (Nat.pow_pos (by decide)))) 0 (by omega)
   ·rw [decide_eq_true (by omega)];exact hz true rfl (by unfold manyN;rw [if_neg (by omega)])
  ·exact Ev.yes (by omega) (hz true rfl (by unfold manyN;rw [if_neg (by omega)]))
def mayN (drops:List Bool) (a b:Int):Bool:=decide (0 < manyN l0 l1 l2 l3 l4) && (decide (drops.length=l0.length) && (decide (0 ≤ a∧a < (l4.length:Int)) && decide (0 ≤ b∧b < (l4.length:Int))))
theorem may_ev2 (hru:RuOk l0 l1 l2 l3 l4) (drops:List Bool) (a b:Int):Ev (fun k=>pairs_may.f k l0 l1 l2 l3 l4 drops a b) (mayN l0 l1 l2 l3 l4 drops a b):=by
 unfold pairs_may.f mayN;refine Ev.bind (many_ev l0 l1 l2 l3 l4 hru) ?_;by_cases h0:0 < manyN l0 l1 l2 l3 l4
 ·rw [decide_eq_true h0];refine Ev.yes (by omega) ?_;by_cases h1:drops.length=l0.length
  ·rw [decide_eq_true h1];refine Ev.yes (by omega) (Ev.bind1 (pthere_f _ _ _ _ _ _) ?_);cases ha:decide (0 ≤ a∧a < (l4.length:Int))
   ·exact Ev.no (by decide) (Ev.is rfl)
   ·exact Ev.yes rfl (Ev.bind1 (pthere_f _ _ _ _ _ _) (Ev.is rfl))
  ·rw [decide_eq_false h1];exact Ev.no (by omega) (Ev.is rfl)
 ·rw [decide_eq_false h0];exact Ev.no (by omega) (Ev.is rfl)
theorem state_ev (h0:l0.length ≤ 1000) (h1:l1.length ≤ 1000) (n:Nat) (hn:n ≤ 1000000):Ev (fun k=>pairs_state.f k l0 l1 l2 l3 l4 (n:Int)) ((stN l0.length l1.length n).f0,(stN l0.length l1.length n).f1):=by
 have hdigs:∀ (m:Nat) (n:Nat) (bs:List Bool) (acc:List Int),n ≤ 1000000 → ∀ p:Nat,p + m=l1.length → acc.length=p → Ev (fun k=>pairs_state.l1 k (n:Int) (l1.length:Int) (p:Int) bs acc) (bs,acc ++ digsL m n):=by
  intro m;induction m with
  | zero =>
   intro n bs acc hn p hp ha;refine Ev.succ ?_;simp only [pairs_state.l1];exact Ev.no (by omega) (Ev.is (by simp [digsL]))
  | succ m ih =>
   intro n bs acc hn p hp ha;refine Ev.succ ?_;simp only [pairs_state.l1];have e1:wrap64 (Int.tdiv (n:Int) 3)=((n / 3:Nat):Int):=by
    rw [Int.tdiv_eq_ediv_of_nonneg (by omega)];unfold wrap64;omega
   have e2:Int.tmod (n:Int) 3=((n % 3:Nat):Int):=by
    rw [Int.tmod_eq_emod_of_nonneg (by omega)];omega
   rw [e1,e2,wrap_up p (by omega)];refine Ev.yes (by omega) (Ev.yes (by omega) ?_);have h:=ih (n / 3) bs (acc ++ [((n % 3:Nat):Int)]) (by omega) (p + 1) (by omega) (by simp [ha]);rwa [List.append_assoc,List.singleton_append] at h
 have hbits:∀ (m:Nat) (n:Nat) (acc:List Bool),n ≤ 1000000 → ∀ p:Nat,p + m=l0.length → acc.length=p → Ev (fun k=>pairs_state.l0 k (n:Int) (l0.length:Int) (p:Int) l0 l1 l2 l3 l4 acc) (acc ++ bitsL m n,digsL l1.length (halfs m n)):=by
  intro m;induction m with
  | zero =>
   intro n acc hn p hp ha;refine Ev.succ ?_;simp only [pairs_state.l0];refine Ev.no (by omega) ?_;have h:=hdigs l1.length n acc [] hn 0 (by omega) rfl;simpa [bitsL,halfs] using h
  | succ m ih =>
   intro n acc hn p hp ha;refine Ev.succ ?_;simp only [pairs_state.l0];have e1:wrap64 (Int.tdiv (n:Int) 2)=((n / 2:Nat):Int):=by
    rw [Int.tdiv_eq_ediv_of_nonneg (by omega)];unfold wrap64;omega
   have e2:(Int.tmod (n:Int) 2 == 1)=(n % 2 == 1):=by
    rw [Int.tmod_eq_emod_of_nonneg (by omega)];by_cases h:n % 2=1
    ·rw [beq_iff_eq.2 h,beq_iff_eq.2 (by omega)]
    ·rw [beq_eq_false_iff_ne.2 h,beq_eq_false_iff_ne.2 (by omega)]
   rw [e1,e2,wrap_up p (by omega)];refine Ev.yes (by omega) (Ev.yes (by omega) ?_);have h:=ih (n / 2) (acc ++ [n % 2 == 1]) (by omega) (p + 1) (by omega) (by simp [ha]);rwa [List.append_assoc,List.singleton_append] at h
 unfold pairs_state.f stN;have h:=hbits l0.length n [] hn 0 (by omega) rfl;simpa using h
end
end Go.Proofs.Ytjbjbeihkoeciaa.X
namespace Go.Proofs.Ytjbjbeihkoeciaa.X
open Go.RowKit Go.Proofs.YtjbjbeihkoeciaaW.PrintWords Go.Proofs.YtjbjbeihkoeciaaW.PrintLast Go.Proofs.YtjbjbeihkoeciaaW.PrintMore
def kB:ByteArray:=⟨#[107]⟩
def wS (l:List Bool):List (List ByteArray):=l.map fun b=>if b=true then [kB] else []
def wC (l:List Int):List (List Ce):=l.map fun n=>if n=0 then [] else [⟨kB,n⟩]
theorem set_mid {α:Type} (A:List α) (z y:α) (R:List α):(A ++ z :: R).set A.length y=A ++ y :: R:=by
 induction A with
 | nil=>rfl
 | cons a r ih=>simp [ih]
theorem wide_ev (s:Sm) (h0:s.f0.length ≤ 1000) (h1:s.f1.length ≤ 1000):Ev (fun k=>pairs_wide.f k s.f0 s.f1) (wS s.f0,wC s.f1):=by
 obtain ⟨f0,f1⟩:=s;simp only at h0 h1 ⊢;have hcs:Ev (fun k=>pairs_wide.l1 k f1 (f1.length:Int) ((0:Nat):Int) (wS f0) (wC (f1.take 0) ++ List.replicate (f1.length - 0) [])) (wS f0,wC f1):=by
  refine Ev.loop (g:=fun k pos=>pairs_wide.l1 k f1 (f1.length:Int) (pos:Int) (wS f0) (wC (f1.take pos) ++ List.replicate (f1.length - pos) [])) (spec:=fun _=>(wS f0,wC f1)) f1.length ?_ ?_ 0 (by omega)
  ·refine Ev.succ ?_;simp only [pairs_wide.l1,List.take_length,Nat.sub_self,List.replicate_zero,List.append_nil];exact Ev.no (by omega) (Ev.now _)
  ·intro pos hp ih;refine Ev.succ ?_;simp only [pairs_wide.l1];(have hrd:rd f1 (pos:Int)=f1.getD pos 0:=by simp [rd]);rw [hrd,wrap_up pos (by omega)];(have hlen:(wC (f1.take pos)).length=pos:=by simp [wC];omega);have hrep:List.replicate (f1.length - pos) ([]:List Ce) = [] :: List.replicate (f1.length - (pos + 1)) []:=by
    rw [show f1.length - pos=(f1.length - (pos + 1)) + 1 by omega,List.replicate_succ]
   have htk:wC (f1.take (pos + 1))=wC (f1.take pos) ++ [if f1.getD pos 0=0 then [] else [⟨kB,f1.getD pos 0⟩]]:=by
    unfold wC;rw [List.take_succ_eq_append_getElem hp,List.map_append];simp [List.getD,hp]
   rw [htk] at ih;refine Ev.yes (by omega) (Ev.yes (by omega) (Ev.yes (by omega) ?_));by_cases hz:f1.getD pos 0=0
   ·refine Ev.yes hz ?_;rw [hrep];rw [if_pos hz,List.append_assoc,List.singleton_append] at ih;exact ih
   ·refine Ev.no hz (Ev.yes (by rw [List.length_append,hlen,List.length_replicate];omega) ?_);rw [if_neg hz,List.append_assoc,List.singleton_append] at ih;have hset:(wC (f1.take pos) ++ List.replicate (f1.length - pos) []).set ((pos:Int)).toNat [⟨kB,f1.getD pos 0⟩]=wC (f1.take pos) ++ [⟨kB,f1.getD pos 0⟩] :: List.replicate (f1.length - (pos + 1)) []:=by
     rw [hrep,Int.toNat_natCast];(conv=>lhs;rw [← hlen]);rw [hlen];have:=set_mid (wC (f1.take pos)) [] [(⟨kB,f1.getD pos 0⟩:Ce)] (List.replicate (f1.length - (pos + 1)) []);rw [hlen] at this;exact this
    rw [show ((⟨#[107]⟩:ByteArray))=kB from rfl,hset];exact ih
 have hss:Ev (fun k=>pairs_wide.l0 k f0 (f0.length:Int) ((0:Nat):Int) f0 f1 (wS (f0.take 0) ++ List.replicate (f0.length - 0) []) (wC (f1.take 0) ++ List.replicate (f1.length - 0) [])) (wS f0,wC f1):=by
  refine Ev.loop (g:=fun k pos=>pairs_wide.l0 k f0 (f0.length:Int) (pos:Int) f0 f1 (wS (f0.take pos) ++ List.replicate (f0.length - pos) []) (wC (f1.take 0) ++ List.replicate (f1.length - 0) [])) (spec:=fun _=>(wS f0,wC f1)) f0.length ?_ ?_ 0 (by omega)
  ·refine Ev.succ ?_;simp only [pairs_wide.l0,List.take_length,Nat.sub_self,List.replicate_zero,List.append_nil];exact Ev.no (by omega) hcs
  ·intro pos hp ih;refine Ev.succ ?_;simp only [pairs_wide.l0,rdOf_at];rw [wrap_up pos (by omega)];(have hlen:(wS (f0.take pos)).length=pos:=by simp [wS];omega);have hrep:List.replicate (f0.length - pos) ([]:List ByteArray) = [] :: List.replicate (f0.length - (pos + 1)) []:=by
    rw [show f0.length - pos=(f0.length - (pos + 1)) + 1 by omega,List.replicate_succ]
   have htk:wS (f0.take (pos + 1))=wS (f0.take pos) ++ [if f0.getD pos false=true then [kB] else []]:=by
    unfold wS;rw [List.take_succ_eq_append_getElem hp,List.map_append];simp [List.getD,hp]
   rw [htk] at ih;refine Ev.yes (by omega) (Ev.yes (by omega) (Ev.yes (by omega) ?_));cases hz:f0.getD pos false
   ·refine Ev.no (by decide) ?_;rw [hrep];rw [hz,if_neg (by decide),List.append_assoc,List.singleton_append] at ih;exact ih
   ·refine Ev.yes rfl (Ev.yes (by rw [List.length_append,hlen,List.length_replicate];omega) ?_);rw [hz,if_pos rfl,List.append_assoc,List.singleton_append] at ih;have hset:(wS (f0.take pos) ++ List.replicate (f0.length - pos) []).set ((pos:Int)).toNat [kB]=wS (f0.take pos) ++ [kB] :: List.replicate (f0.length - (pos + 1)) []:=by
     rw [hrep,Int.toNat_natCast];have:=set_mid (wS (f0.take pos)) [] [kB] (List.replicate (f0.length - (pos + 1)) []);rw [hlen] at this;exact this
    rw [show ((⟨#[107]⟩:ByteArray))=kB from rfl,hset];exact ih
 unfold pairs_wide.f;refine Ev.yes (by omega) (Ev.yes (by rw [Int.toNat_natCast];omega) (Ev.yes (by omega) (Ev.yes (by rw [Int.toNat_natCast];omega) ?_)));simpa [wS,wC] using hss
def apIn (x y:Int) (drop i:Bool):Bool:=if x * y < 0 then !drop else if x + y > 0 then true else if x + y < 0 then false else i
def apartS (l4:List Op_) (drops:List Bool) (s:Sm) (a b:Int):Sm :=
 ⟨(List.range s.f0.length).map fun (i:Nat)=>apIn (makeN l4 a (i:Int)) (makeN l4 b (i:Int)) (drops.getD i false) (s.f0.getD i false),(List.range s.f1.length).map fun (i:Nat)=>s.f1.getD i 0 + moreN l4 a (i:Int) + moreN l4 b (i:Int)⟩
theorem apartS_comm (l4:List Op_) (drops:List Bool) (s:Sm) (a b:Int):apartS l4 drops s a b=apartS l4 drops s b a:=by
 unfold apartS;congr 1
 ·apply List.map_congr_left;intro i _;unfold apIn;rw [Int.mul_comm,Int.add_comm]
 ·apply List.map_congr_left;intro i _;omega
theorem apartS_len (l4:List Op_) (drops:List Bool) (s:Sm) (a b:Int):(apartS l4 drops s a b).f0.length=s.f0.length∧(apartS l4 drops s a b).f1.length=s.f1.length:=by simp [apartS]
section
variable (l0 l1 l2:List ByteArray) (l3:List Cl) (l4:List Op_) (hd:∀ x ∈ l4,x.f1.length ≤ 4000000000) (hb:∀ x ∈ l4,∀ d ∈ x.f1,-1000 ≤ d.f2∧d.f2 ≤ 1000)
include hb in
theorem moreN_le (o s:Int) : -1000 ≤ moreN l4 o s∧moreN l4 o s ≤ 1000:=by
 unfold moreN doesO;split
 ·rename_i h;exact moreL_le _ _ (hb _ (getD_at l4 z66 o.toNat (by omega)))
 ·exact ⟨by show (-1000:Int) ≤ 0;decide,by show (0:Int) ≤ 1000;decide⟩
include hb in
theorem apartS_le (drops:List Bool) (s:Sm) (a b:Int) (hs:∀ x ∈ s.f1,-1000000 ≤ x∧x ≤ 1000000):∀ x ∈ (apartS l4 drops s a b).f1,-1002000 ≤ x∧x ≤ 1002000:=by
 intro x hx;simp only [apartS,List.mem_map,List.mem_range] at hx;obtain ⟨i,hi,rfl⟩:=hx;have h1:=moreN_le l4 hb a (i:Int);have h2:=moreN_le l4 hb b (i:Int);have h3:=hs _ (getD_at s.f1 0 i hi);omega
include hd hb in
theorem apart_ev (drops:List Bool) (s:Sm) (a b:Int) (h0:s.f0.length ≤ 1000) (h1:s.f1.length ≤ 1000) (hdr:drops.length=s.f0.length) (hs:∀ x ∈ s.f1,-1000000 ≤ x∧x ≤ 1000000) :
  Ev (fun k=>pairs_apart.f k l0 l1 l2 l3 l4 drops s.f0 s.f1 a b) ((apartS l4 drops s a b).f0,(apartS l4 drops s a b).f1):=by
 obtain ⟨f0,f1⟩:=s;simp only at h0 h1 hs hdr ⊢;generalize hI:(fun i:Nat=>apIn (makeN l4 a (i:Int)) (makeN l4 b (i:Int)) (drops.getD i false) (f0.getD i false))=I;generalize hN:(fun i:Nat=>f1.getD i 0 + moreN l4 a (i:Int) + moreN l4 b (i:Int))=Nn;(have e:apartS l4 drops ⟨f0,f1⟩ a b=⟨(List.range f0.length).map I,(List.range f1.length).map Nn⟩:=by unfold apartS;rw [← hI,← hN]);rw [e];simp only;have hcs:Ev (fun k=>pairs_apart.l1 k a b f1 (f1.length:Int) ((0:Nat):Int) l0 l1 l2 l3 l4 ((List.range f0.length).map I) ((List.range 0).map Nn)) ((List.range f0.length).map I,(List.range f1.length).map Nn):=by
  refine Ev.loop (g:=fun k pos=>pairs_apart.l1 k a b f1 (f1.length:Int) (pos:Int) l0 l1 l2 l3 l4 ((List.range f0.length).map I) ((List.range pos).map Nn)) (spec:=fun _=>((List.range f0.length).map I,(List.range f1.length).map Nn)) f1.length ?_ ?_ 0 (by omega)
  ·refine Ev.succ ?_;simp only [pairs_apart.l1];exact Ev.no (by omega) (Ev.now _)
  ·intro pos hp ih;refine Ev.succ ?_;simp only [pairs_apart.l1];(have hrd:rd f1 (pos:Int)=f1.getD pos 0:=by simp [rd]);rw [hrd,wrap_up pos (by omega)];have m1:=moreN_le l4 hb a (pos:Int);have m2:=moreN_le l4 hb b (pos:Int);have m3:=hs _ (getD_at f1 0 pos hp);refine Ev.yes (by omega) (Ev.yes (by omega) (Ev.yes (by omega) (Ev.bind (more_ev l0 l1 l2 l3 l4 a (pos:Int) hd hb) (Ev.bind (more_ev l0 l1 l2 l3 l4 b (pos:Int) hd hb) (Ev.yes (by rw [List.length_map,List.length_range];omega) ?_)))));have ew:wrap64 (wrap64 (f1.getD pos 0 + moreN l4 a (pos:Int)) + moreN l4 b (pos:Int))=Nn pos:=by
    (have e2:Nn pos=f1.getD pos 0 + moreN l4 a (pos:Int) + moreN l4 b (pos:Int):=by rw [← hN]);rw [e2];unfold wrap64;omega
   rw [ew];rw [List.range_succ,List.map_append] at ih;exact ih
 have hss:Ev (fun k=>pairs_apart.l0 k drops a b f0 (f0.length:Int) ((0:Nat):Int) l0 l1 l2 l3 l4 f0 f1 ((List.range 0).map I)) ((List.range f0.length).map I,(List.range f1.length).map Nn):=by
  refine Ev.loop (g:=fun k pos=>pairs_apart.l0 k drops a b f0 (f0.length:Int) (pos:Int) l0 l1 l2 l3 l4 f0 f1 ((List.range pos).map I)) (spec:=fun _=>((List.range f0.length).map I,(List.range f1.length).map Nn)) f0.length ?_ ?_ 0 (by omega)
  ·refine Ev.succ ?_;simp only [pairs_apart.l0];exact Ev.no (by omega) hcs
  ·intro pos hp ih;refine Ev.succ ?_;simp only [pairs_apart.l0,rdOf_at];rw [wrap_up pos (by omega)];refine Ev.yes (by omega) (Ev.yes (by omega) (Ev.yes (by omega) (Ev.bind (make_ev l0 l1 l2 l3 l4 a (pos:Int) hd) (Ev.bind (make_ev l0 l1 l2 l3 l4 b (pos:Int) hd) ?_))));have x1:=makeL_is (doesO l4 a) (pos:Int);have x2:=makeL_is (doesO l4 b) (pos:Int);(have hIp:I pos=apIn (makeN l4 a (pos:Int)) (makeN l4 b (pos:Int)) (drops.getD pos false) (f0.getD pos false):=by rw [← hI]);unfold makeN at hIp ⊢;generalize makeL (doesO l4 a) (pos:Int)=x at *;generalize makeL (doesO l4 b) (pos:Int)=y at *;(have hw:∀ z,-2 ≤ z → z ≤ 2 → wrap64 z=z:=fun z h1 h2=>by unfold wrap64;omega);(have hxy : -1 ≤ x * y∧x * y ≤ 1:=by rcases x1 with rfl|rfl|rfl <;> rcases x2 with rfl|rfl|rfl <;> decide);rw [hw (x * y) (by omega) (by omega),hw (x + y) (by omega) (by omega)];rw [List.range_succ,List.map_append,List.map_singleton,hIp] at ih;(have hl:((List.range pos).map I).length < 140737488355328:=by rw [List.length_map,List.length_range];omega);unfold apIn at ih;by_cases c1:x * y < 0
   ·rw [if_pos c1] at ih;exact Ev.yes c1 (Ev.yes (by omega) (Ev.yes hl ih))
   ·rw [if_neg c1] at ih;refine Ev.no c1 ?_;by_cases c2:x + y > 0
    ·rw [if_pos c2] at ih;exact Ev.yes c2 (Ev.yes hl ih)
    ·rw [if_neg c2] at ih;refine Ev.no c2 ?_;by_cases c3:x + y < 0
     ·rw [if_pos c3] at ih;exact Ev.yes c3 (Ev.yes hl ih)
     ·rw [if_neg c3] at ih;exact Ev.no c3 (Ev.yes hl ih)
 unfold pairs_apart.f;exact hss
end
end Go.Proofs.Ytjbjbeihkoeciaa.X
namespace Go.Proofs.Ytjbjbeihkoeciaa.X
open Go.RowKit Go.Proofs.YtjbjbeihkoeciaaW.PrintWords Go.Proofs.YtjbjbeihkoeciaaW.PrintLast Go.Proofs.YtjbjbeihkoeciaaW.PrintMore
abbrev Nd:=S48
theorem key_k:keyB kB=true:=by kernel_rfl
theorem set_nil:setB []=true:=by kernel_rfl
theorem set_k:setB [kB]=true:=by kernel_rfl
theorem cnt_nil:cntB []=true:=by kernel_rfl
theorem cnt_k (n:Int) (h0:n ≠ 0) (h1 : -1048576 ≤ n) (h2:n ≤ 1048576):cntB [⟨kB,n⟩]=true:=by
 show ((cntAt [⟨kB,n⟩] 0 && true) && decide (1 ≤ 4000))=true;rw [Bool.and_eq_true,Bool.and_eq_true];refine ⟨⟨?_,rfl⟩,rfl⟩;unfold cntAt;show (keyB kB && ((decide (0=0) || _) && (n != 0 && (decide (n ≤ 1048576) && decide (-1048576 ≤ n)))))=true;rw [key_k,decide_eq_true h1,decide_eq_true h2,bne_iff_ne.2 h0];rfl
theorem wS_len (l:List Bool):(wS l).length=l.length:=by simp [wS]
theorem wC_len (l:List Int):(wC l).length=l.length:=by simp [wC]
theorem wS_mem {l:List Bool} {x:List ByteArray} (h:x ∈ wS l):x = [kB] ∨ x = []:=by
 simp only [wS,List.mem_map] at h;obtain ⟨b,_,rfl⟩:=h;split
 ·exact .inl rfl
 ·exact .inr rfl
theorem wC_mem {l:List Int} {x:List Ce} (h:x ∈ wC l):x = [] ∨ ∃ n,n ∈ l∧n ≠ 0∧x = [⟨kB,n⟩]:=by
 simp only [wC,List.mem_map] at h;obtain ⟨n,hn,rfl⟩:=h;by_cases hz:n=0
 ·rw [if_pos hz];exact .inl rfl
 ·rw [if_neg hz];exact .inr ⟨n,hn,hz,rfl⟩
theorem wide_ok (s:Sm) (h0:s.f0.length ≤ 1000) (h1:s.f1.length ≤ 1000):StOk (wS s.f0) (wC s.f1):=by
 refine ⟨⟨by rw [wS_len];omega,by rw [wC_len];omega⟩,fun l hl=>?_,fun l hl=>?_⟩
 ·rcases wS_mem hl with rfl|rfl <;> simp
 ·rcases wC_mem hl with rfl | ⟨_,_,_,rfl⟩ <;> simp
theorem wide_may (s:Sm) (hs:∀ x ∈ s.f1,-1048576 ≤ x∧x ≤ 1048576):mayS s.f0.length s.f1.length (wS s.f0) (wC s.f1)=true:=by
 unfold mayS;rw [decide_eq_true (wS_len _),decide_eq_true (wC_len _),Bool.true_and,Bool.true_and,Bool.and_eq_true,List.all_eq_true,List.all_eq_true];refine ⟨fun l hl=>?_,fun l hl=>?_⟩
 ·rcases wS_mem hl with rfl|rfl
  ·exact set_k
  ·exact set_nil
 ·rcases wC_mem hl with rfl | ⟨n,hn,hz,rfl⟩
  ·exact cnt_nil
  ·exact cnt_k n hz (hs n hn).1 (hs n hn).2
theorem mayS_ord {ns nc:Nat} {ss:List (List ByteArray)} {cs:List (List Ce)} (h:mayS ns nc ss cs=true):ss.length=ns∧cs.length=nc∧∀ l ∈ ss,OrdK l:=by
 unfold mayS at h;rw [Bool.and_eq_true,Bool.and_eq_true,Bool.and_eq_true,List.all_eq_true] at h;exact ⟨of_decide_eq_true h.1,of_decide_eq_true h.2.1,fun l hl=>setB_ord (h.2.2.1 l hl)⟩
theorem holds_ok {ns nc:Nat} {ss:List (List ByteArray)} {cs:List (List Ce)} {c:Cl} (hst:StOk ss cs) (h:mayS ns nc ss cs=true) (hc:clB ns nc c=true):HoldsOk ss cs c:=by
 obtain ⟨h0,h1,h2⟩:=mayS_ord h;refine ⟨hst,h2,?_⟩;unfold clB at hc;have w:∀ {n lo hi:Int},wB n lo hi=true → lo ≤ n∧n ≤ hi:=fun h=>by
  unfold wB at h;rw [Bool.and_eq_true] at h;exact ⟨of_decide_eq_true h.1,of_decide_eq_true h.2⟩
 (have r:∀ {i:Int} {n:Nat},wB i 0 ((n:Int) - 1)=true → inR i n:=fun h=>by have:=w h;unfold inR;omega);split at hc
 ·rename_i hk;simp only [Bool.and_eq_true] at hc;have a:=r hc.1;have b:=r hc.2.1;rw [← h0] at a b;rcases hk with hk|hk
  ·exact .inl ⟨hk,a,b⟩
  ·exact .inr (.inl ⟨hk,a,b⟩)
 split at hc
 ·rename_i hk;simp only [Bool.and_eq_true] at hc;have a:=r hc.1;have b:=r hc.2.1;rw [← h1] at a;rw [← h0] at b;exact .inr (.inr (.inr (.inr (.inr ⟨hk,a,b⟩))))
 split at hc
 ·rename_i hk;simp only [Bool.and_eq_true] at hc;have a:=r hc.1;rw [← h0] at a;exact .inr (.inr (.inl ⟨hk,a⟩))
 split at hc
 ·rename_i hk;simp only [Bool.and_eq_true] at hc;have a:=r hc.1;rw [← h1] at a;exact .inr (.inr (.inr (.inl ⟨hk,a⟩)))
 split at hc
 ·rename_i hk;simp only [Bool.and_eq_true] at hc;have a:=r hc.1;rw [← h1] at a;exact .inr (.inr (.inr (.inr (.inl ⟨hk,a⟩))))
 ·cases hc
def brL (l3:List Cl) (ss:List (List ByteArray)) (cs:List (List Ce)):List Int:=((List.range l3.length).filter fun i=>!holdsB ss cs (l3.getD i z70)).map fun (i:Nat)=>(i:Int)
def refN (c:Cl) (a b:Int):Int × Int × Int × Int:=if a = -1 ∨ b=1 then (0,0,0,0) else if a=1∧b = -1 then (1,0,0,0) else if a=1 then (2,c.f3,0,0) else if b = -1 then (3,c.f2,0,0) else (0,0,0,0)
def bothN (c:Cl) (a b:Int):Int × Int × Int × Int:=if a = -1 ∨ b = -1 then (0,0,0,0) else if a=1∧b=1 then (1,0,0,0) else if a=1 then (3,c.f3,0,0) else if b=1 then (3,c.f2,0,0) else (0,0,0,0)
def needsN (c:Cl) (d b:Int):Int × Int × Int × Int:=if b=1 then (0,0,0,0) else if b = -1 then (5,c.f2,-d,0) else if d > 0 then (7,c.f2,-d,c.f3) else (0,0,0,0)
def ofN (l4:List Op_) (o:Int) (c:Cl):Int × Int × Int × Int :=
 if c.f0=4 then refN c (makeN l4 o c.f2) (makeN l4 o c.f3) else if c.f0=5 then bothN c (makeN l4 o c.f2) (makeN l4 o c.f3) else if c.f0=9 then needsN c (moreN l4 o c.f2) (makeN l4 o c.f3)
 else if c.f0=6 then (if makeN l4 o c.f2=1 then (4,c.f2,c.f4,0) else (0,0,0,0)) else if c.f0=7 then (if moreN l4 o c.f2 > 0 then (5,c.f2,c.f4 - moreN l4 o c.f2,0) else (0,0,0,0))
 else if c.f0=8 then (if moreN l4 o c.f2 < 0 then (6,c.f2,c.f4 - moreN l4 o c.f2,0) else (0,0,0,0)) else (0,0,0,0)
def needsR (l4:List Op_) (o:Int):List Cl → Nat → List Nd
 | [],_=>[]
 | c :: r,i=>if (ofN l4 o c).1=0 then needsR l4 o r (i + 1) else ⟨(i:Int),(ofN l4 o c).1,(ofN l4 o c).2.1,(ofN l4 o c).2.2.1,(ofN l4 o c).2.2.2⟩ :: needsR l4 o r (i + 1)
def inS (ss:List (List ByteArray)) (i:Int) (key:ByteArray):Bool:=decide (0 ≤ i∧i < (ss.length:Int)) && inB (ss.getD i.toNat []) key
def numL:List Ce → ByteArray → Int
 | [],_=>0
 | c :: r,key=>if c.f0.toList=key.toList then c.f1 else numL r key
def numS (cs:List (List Ce)) (i:Int) (key:ByteArray):Int:=if 0 ≤ i∧i < (cs.length:Int) then numL (cs.getD i.toNat []) key else 0
def metB (ss:List (List ByteArray)) (cs:List (List Ce)) (key:ByteArray) (n:Nd):Bool :=
 if n.f1=2 then inS ss n.f2 key else if n.f1=3 then !inS ss n.f2 key else if n.f1=4 then inS ss n.f2 key || (decide (0 ≤ n.f2∧n.f2 < (ss.length:Int)) && decide (((ss.getD n.f2.toNat []).length:Int) < n.f3))
 else if n.f1=5 then decide (numS cs n.f2 key ≤ n.f3) else if n.f1=6 then decide (numS cs n.f2 key ≥ n.f3) else if n.f1=7 then decide (numS cs n.f2 key ≤ n.f3) || inS ss n.f4 key else false
def firstM (ss:List (List ByteArray)) (cs:List (List Ce)) (key:ByteArray):List Nd → Int
 | []=>-1
 | n :: r=>if metB ss cs key n=true then firstM ss cs key r else n.f0
theorem in_any (l:List ByteArray) (key:ByteArray) (hl:l.length ≤ 4000000000):Ev (fun k=>slices_Contains_string.f k l key) (inB l key):=by
 have h:Ev (fun k=>slices_Index_string.f k l key) (idxF (fun x=>decide (x.toList=key.toList)) l):=by
  unfold slices_Index_string.f;have h2:∀ (m pos:Nat),pos + m=l.length → Ev (fun k=>slices_Index_string.l0 k l key (l.length:Int) (pos:Int)) (match (l.drop pos).findIdx? (fun x=>decide (x.toList=key.toList)) with|some i=>((pos + i:Nat):Int)|none=>-1):=by
   intro m;induction m with
   | zero =>
    intro pos hp;(obtain rfl:pos=l.length:=by omega);refine Ev.succ ?_;simp only [slices_Index_string.l0,List.drop_length];exact Ev.no (by omega) (Ev.now _)
   | succ m ih =>
    intro pos hp;refine Ev.succ ?_;simp only [slices_Index_string.l0,rdOf_at];have ihp:=ih (pos + 1) (by omega);rw [wrap_up pos (by omega),drop_getD l ByteArray.empty pos (by omega),List.findIdx?_cons];refine Ev.yes (by omega) (Ev.yes (by omega) (Ev.yes (by omega) ?_));by_cases he:(l.getD pos ByteArray.empty).toList=key.toList
    ·rw [decide_eq_true he];exact Ev.yes he.symm (Ev.is (by simp))
    ·rw [decide_eq_false he];refine Ev.no (fun h=>he h.symm) ?_;simp only [Bool.false_eq_true,if_false];cases hf:(l.drop (pos + 1)).findIdx? (fun x=>decide (x.toList=key.toList)) with
     | none=>rw [hf] at ihp;exact ihp
     | some j =>
      rw [hf] at ihp;(have e:((pos + 1 + j:Nat):Int)=((pos + (j + 1):Nat):Int):=by omega);simp only [Option.map_some];rw [← e];exact ihp
  have h3:=h2 l.length 0 (by omega);rw [List.drop_zero] at h3;unfold idxF;have h4:(match l.findIdx? (fun x=>decide (x.toList=key.toList)) with|some i=>((0 + i:Nat):Int)|none=>-1)=(match l.findIdx? (fun x=>decide (x.toList=key.toList)) with|some i=>(i:Int)|none=>-1):=by
   cases l.findIdx? (fun x=>decide (x.toList=key.toList)) <;> simp
  rw [h4] at h3;exact h3
 unfold slices_Contains_string.f;refine Ev.bind h (Ev.is ?_);unfold inB;rw [← idxF_any]
section
variable (ss:List (List ByteArray)) (cs:List (List Ce)) (hst:StOk ss cs)
include hst
theorem In_ev (i:Int) (key:ByteArray):Ev (fun k=>eval_In.f k ss cs i key) (inS ss i key):=by
 unfold eval_In.f inS;by_cases h0:0 ≤ i
 ·by_cases h1:i < (ss.length:Int)
  ·rw [decide_eq_true ⟨h0,h1⟩,Bool.true_and];have hm:=getD_at ss [] i.toNat (by omega);exact Ev.yes h0 (Ev.yes h1 (Ev.yes h0 (Ev.bind (in_any _ key (hst.2.1 _ hm)) (Ev.now _))))
  ·rw [decide_eq_false (by omega)];exact Ev.yes h0 (Ev.no h1 (Ev.now _))
 ·rw [decide_eq_false (by omega)];exact Ev.no h0 (Ev.now _)
theorem Num_ev (i:Int) (key:ByteArray):Ev (fun k=>eval_Number.f k ss cs i key) (numS cs i key):=by
 unfold eval_Number.f numS;by_cases h0:i < 0
 ·rw [if_neg (by omega)];refine Ev.yes h0 (Ev.succ ?_);simp only [eval_Number.j0];exact Ev.yes (by first|trivial|rfl) (Ev.now _)
 ·refine Ev.no h0 (Ev.succ ?_);simp only [eval_Number.j0];by_cases h1:i < (cs.length:Int)
  ·rw [if_pos ⟨by omega,h1⟩,decide_eq_false (by omega)];refine Ev.no (by decide) (Ev.yes (by omega) (Ev.yes h1 ?_));have hm:=getD_at cs [] i.toNat (by omega);have hl:=hst.2.2 _ hm;have e:rd_L15 cs i=cs.getD i.toNat []:=rfl;rw [e];generalize cs.getD i.toNat []=L at *;refine Ev.loop (g:=fun k pos=>eval_Number.l0 k key L (L.length:Int) (pos:Int)) (spec:=fun pos=>numL (L.drop pos) key) L.length ?_ ?_ 0 (by omega)
   ·refine Ev.succ ?_;simp only [eval_Number.l0,List.drop_length];exact Ev.no (by omega) (Ev.now _)
   ·intro pos hp ih;refine Ev.succ ?_;simp only [eval_Number.l0,rdCe_at];rw [wrap_up pos (by omega),drop_getD L z135 pos hp,numL];refine Ev.yes (by omega) (Ev.yes (by omega) (Ev.yes (by omega) ?_));by_cases he:(L.getD pos z135).f0.toList=key.toList
    ·rw [if_pos he];exact Ev.yes he (Ev.now _)
    ·rw [if_neg he];exact Ev.no he ih
  ·rw [if_neg (by omega),decide_eq_true (by omega)];exact Ev.yes rfl (Ev.now _)
theorem met_ev (key:ByteArray) (n:Nd):Ev (fun k=>wp_Met.f k ss cs key n.f0 n.f1 n.f2 n.f3 n.f4) (metB ss cs key n):=by
 unfold wp_Met.f metB;(have hi:=fun i=>In_ev ss cs hst i key);(have hn:=fun i=>Num_ev ss cs hst i key);by_cases h2:n.f1=2
 ·rw [if_pos h2];exact Ev.yes h2 (Ev.bind (hi _) (Ev.now _))
 rw [if_neg h2];refine Ev.no h2 ?_;by_cases h3:n.f1=3
 ·rw [if_pos h3];exact Ev.yes h3 (Ev.bind (hi _) (Ev.now _))
 rw [if_neg h3];refine Ev.no h3 ?_;by_cases h4:n.f1=4
 ·rw [if_pos h4];refine Ev.yes h4 (Ev.bind (hi _) ?_);cases hb:inS ss n.f2 key
  ·refine Ev.no (by decide) ?_;rw [Bool.false_or];by_cases h0:n.f2 ≥ 0
   ·by_cases h1:n.f2 < (ss.length:Int)
    ·rw [decide_eq_true (show 0 ≤ n.f2∧n.f2 < (ss.length:Int) from ⟨h0,h1⟩),Bool.true_and];exact Ev.yes h0 (Ev.yes h1 (Ev.yes h0 (Ev.is rfl)))
    ·rw [decide_eq_false (show ¬ (0 ≤ n.f2∧n.f2 < (ss.length:Int)) by omega)];exact Ev.yes h0 (Ev.no h1 (Ev.is rfl))
   ·rw [decide_eq_false (show ¬ (0 ≤ n.f2∧n.f2 < (ss.length:Int)) by omega)];exact Ev.no h0 (Ev.is rfl)
  ·exact Ev.yes rfl (Ev.now _)
 rw [if_neg h4];refine Ev.no h4 ?_;by_cases h5:n.f1=5
 ·rw [if_pos h5];exact Ev.yes h5 (Ev.bind (hn _) (Ev.now _))
 rw [if_neg h5];refine Ev.no h5 ?_;by_cases h6:n.f1=6
 ·rw [if_pos h6];exact Ev.yes h6 (Ev.bind (hn _) (Ev.now _))
 rw [if_neg h6];refine Ev.no h6 ?_;by_cases h7:n.f1=7
 ·rw [if_pos h7];refine Ev.yes h7 (Ev.bind (hn _) ?_);by_cases hle:numS cs n.f2 key ≤ n.f3
  ·rw [decide_eq_true hle];exact Ev.yes hle (Ev.now _)
  ·rw [decide_eq_false hle,Bool.false_or];exact Ev.no hle (Ev.bind (hi _) (Ev.now _))
 rw [if_neg h7];exact Ev.no h7 (Ev.now _)
end
end Go.Proofs.Ytjbjbeihkoeciaa.X
namespace Go.Proofs.Ytjbjbeihkoeciaa.X
open Go.RowKit Go.Proofs.YtjbjbeihkoeciaaW.PrintWords Go.Proofs.YtjbjbeihkoeciaaW.PrintLast Go.Proofs.YtjbjbeihkoeciaaW.PrintMore
theorem infoSm:(Try.prog.info? 38).map (fun i=>(i.zero,i.size,i.bytes))=some (some (.agg #[.slice none 0 0,.slice none 0 0]),2,48):=by kernel_rfl
theorem zero_bools (w:World):(zeroValue 32).run Try.prog w = .ok (.slice none 0 0) w:=by kernel_rfl
set_option maxHeartbeats 16000000 in
set_option maxRecDepth 100000 in
theorem tabled_walk (A0:Option Addr) (n0 c0:Nat) (A1:Option Addr) (n1 c1:Nat) (A2:Option Addr) (n2 c2:Nat) (A3:Option Addr) (n3 c3:Nat) (A4:Option Addr) (n4 c4:Nat) (Ao:Option Addr) (co:Nat) (os:List Int) (w:World)
  (N:Nat) (st:Nat → Sm) (wd:Nat → List (List ByteArray) × List (List Ce)) (br:Nat → List Int) (fi:Int → Nat → Int) (fr:Int → Nat → Bool)
  (hro:Kd.C (Kd.int .i64) w Ao os.length os) (hco:os.length ≤ co) (hos:os.length ≤ 1000) (hN:N ≤ 1000)
  (hfr:∀ o n,fr o n=decide ((if br n = [] then fi o n else 0) < 0))
  (hmany:∀ w',Below w.heap.size w w' → Calls Try.prog 48 #[.agg #[.slice A0 n0 c0,.slice A1 n1 c1,.slice A2 n2 c2,.slice A3 n3 c3,.slice A4 n4 c4]] w' fun e w''=>e = .returned (.int .i64 (N:Int))∧Below w'.heap.size w' w'')
  (hst:∀ n:Nat,n < N → ∀ w',Below w.heap.size w w' → Calls Try.prog 80 #[.agg #[.slice A0 n0 c0,.slice A1 n1 c1,.slice A2 n2 c2,.slice A3 n3 c3,.slice A4 n4 c4],.int .i64 (n:Int)] w' fun e w''=>∃ v0 v1:Value,e = .returned (.agg #[v0,v1])∧Kd.R Kd.bool 4 w'' w'.heap.size (fun _=>True) v0 (st n).f0∧Kd.R (Kd.int .i64) 3 w'' w'.heap.size (fun _=>True) v1 (st n).f1∧Below w'.heap.size w' w'')
  (hwd:∀ n:Nat,n < N → ∀ w' B0 d0 B1 d1,Kd.C Kd.bool w' B0 (st n).f0.length (st n).f0 → (st n).f0.length ≤ d0 → Kd.C (Kd.int .i64) w' B1 (st n).f1.length (st n).f1 → (st n).f1.length ≤ d1 → Calls Try.prog 81 #[.agg #[.slice B0 (st n).f0.length d0,.slice B1 (st n).f1.length d1]] w' fun e w''=>∃ v0 v1:Value,e = .returned (.agg #[v0,v1])∧Kd.R (Kd.slice 9 Kd.string) 22 w'' w'.heap.size (fun _=>True) v0 (wd n).1∧Kd.R (Kd.slice 135 k135) 99 w'' w'.heap.size (fun _=>True) v1 (wd n).2∧Below w'.heap.size w' w'')
  (hbr:∀ n:Nat,n < N → ∀ w' B0 d0 B1 d1,Below w.heap.size w w' → Kd.C (Kd.slice 9 Kd.string) w' B0 (wd n).1.length (wd n).1 → (wd n).1.length ≤ d0 → Kd.C (Kd.slice 135 k135) w' B1 (wd n).2.length (wd n).2 → (wd n).2.length ≤ d1 → Calls Try.prog 23 #[.agg #[.slice A0 n0 c0,.slice A1 n1 c1,.slice A2 n2 c2,.slice A3 n3 c3,.slice A4 n4 c4],.agg #[.slice B0 (wd n).1.length d0,.slice B1 (wd n).2.length d1]] w' fun e w''=>∃ v:Value,e = .returned v∧Kd.R (Kd.int .i64) 3 w'' w'.heap.size (fun _=>True) v (br n)∧Below w'.heap.size w' w'')
  (hfi:∀ n:Nat,n < N → ∀ o,o ∈ os → br n = [] → ∀ w' B0 d0 B1 d1,Below w.heap.size w w' → Kd.C (Kd.slice 9 Kd.string) w' B0 (wd n).1.length (wd n).1 → (wd n).1.length ≤ d0 → Kd.C (Kd.slice 135 k135) w' B1 (wd n).2.length (wd n).2 → (wd n).2.length ≤ d1 → Calls Try.prog 20 #[.agg #[.slice A0 n0 c0,.slice A1 n1 c1,.slice A2 n2 c2,.slice A3 n3 c3,.slice A4 n4 c4],.agg #[.slice B0 (wd n).1.length d0,.slice B1 (wd n).2.length d1],.int .i64 o,.string ⟨#[107]⟩] w' fun e w''=>∃ er:Int,e = .returned (.tuple #[.int .i64 (fi o n),.int .i64 er])∧Below w'.heap.size w' w'') :
  Calls Try.prog 50 #[.agg #[.slice A0 n0 c0,.slice A1 n1 c1,.slice A2 n2 c2,.slice A3 n3 c3,.slice A4 n4 c4],.slice Ao os.length co] w fun e w'=>∃ vs mb fs,e = .returned (.agg #[vs,.map (some mb)])∧TabW w.heap.size w' mb fs (valT os fr N 0) vs ((List.range N).map st)∧Below w.heap.size w w':=by
 have HRO:=Sd.mk hro;have HMANY:=Sd.mk hmany;have HST:=Sd.mk hst;have HWD:=Sd.mk hwd;have HBR:=Sd.mk hbr;have HFI:=Sd.mk hfi;have HFR:=Sd.mk hfr;clear hro hmany hst hwd hbr hfi hfr;have HOL:Sd (os.length=os.length):=⟨rfl⟩;generalize hno:os.length=no at *;have HNO:=Sd.mk hno;clear hno HOL;have hmm:=@run_makeMap Try.prog;go_enter Try.func50,Try.ntmps50;go_upto_region 1 with (first|((with_reducible refine gate_dst (N:=2) rfl ?_);refine box_event ?hg (N:=2) ?hd (cs:=#[.slice A0 n0 c0,.slice A1 n1 c1,.slice A2 n2 c2,.slice A3 n3 c3,.slice A4 n4 c4]) (t:=26) ?hr ?_;(case hd=>rfl);(case hg=>rfl);(case hr=>first|(go_simp;done)|(go_simp;rfl));intro g hg w3 hbox hb;have HB:=Sd.mk hb;have BK:=Sd.mk hbox;clear hb hbox hg)|((with_reducible refine gate_dst (N:=4) rfl ?_);refine box_event ?hg (N:=4) ?hd (cs:=#[.slice none 0 0,.map none]) (t:=96) ?hr ?_;(case hd=>rfl);(case hg=>rfl);(case hr=>first|(go_simp;done)|(go_simp;rfl));intro g4 hg w4 hbox hb;have HB4:=Sd.mk (below_step HB.out hb);have BKr:=Sd.mk (blk_below BK.out hb);have BK4:=Sd.mk hbox;have HG4a:Sd (w.heap.size ≤ g4):=⟨by rw [hg];exact below_size HB.out⟩;clear hb hbox hg));go_upto_region 2 with (((with_reducible refine gate_dst (N:=5) rfl ?_);refine box_event ?hg (N:=5) ?hd (cs:=#[.slice none 0 0,.map none]) (t:=96) ?hr ?_;(case hd=>rfl);(case hg=>rfl);(case hr=>first|(go_simp;done)|(go_simp;rfl));intro g5 hg5 w5 hbox hb;have HB5:=Sd.mk hb;have BK5:=Sd.mk hbox;have HG5:=Sd.mk hg5;have hcz0:=(blk_cell hbox 0);have hcz1:=(blk_cell hbox 1);have hfz0:=blk_frozen hbox 0;have hfz1:=blk_frozen hbox 1;clear hb hbox hg5));have HB5w:=Sd.mk (below_set (j:=1) (v:=.map (some w4.heap.size)) (below_set (j:=0) (v:=.slice none 0 0) (below_step (below_alloc HB4.out (.map #[] 0)) HB5.out) (show w.heap.size ≤ g5 by rw [HG5.out];exact below_size (below_alloc HB4.out (.map #[] 0)))) (show w.heap.size ≤ g5 by rw [HG5.out];exact below_size (below_alloc HB4.out (.map #[] 0))));have BK5w:Sd (((w5.setCell ⟨g5,0,none⟩ (.slice none 0 0)).setCell ⟨g5,1,none⟩ (.map (some w4.heap.size))).heap[g5]? = some (.cells #[.slice none 0 0,.map (some w4.heap.size)] 96 (0,0))):=⟨by
  refine blk_put (cs:=#[.slice none 0 0,.map none]) ?_ 1 _ rfl
  exact blk_put BK5.out 0 _ rfl⟩
 (have hg5m:g5 ≠ w4.heap.size:=by rw [HG5.out];simp);have HM5:Sd (IMap ((w5.setCell ⟨g5,0,none⟩ (.slice none 0 0)).setCell ⟨g5,1,none⟩ (.map (some w4.heap.size))) w4.heap.size []):=⟨(((IMap.made w4).below HB5.out).setCell (fun e=>hg5m e.symm) _).setCell (fun e=>hg5m e.symm) _⟩;have HKw:Sd (Below (w4.alloc (.map #[] 0)).heap.size (w4.alloc (.map #[] 0)) ((w5.setCell ⟨g5,0,none⟩ (.slice none 0 0)).setCell ⟨g5,1,none⟩ (.map (some w4.heap.size)))):=⟨below_set (below_set HB5.out (by rw [HG5.out];exact Nat.le_refl _)) (by rw [HG5.out];exact Nat.le_refl _)⟩;have BK4w:=Sd.mk (blk_below (blk_alloc BK4.out _) HKw.out);have BKrw:=Sd.mk (blk_below (blk_alloc BKr.out _) HKw.out);have HG4Z:Sd (w.heap.size ≤ g4):=HG4a;have HG5W:Sd (w.heap.size ≤ g5):=⟨by rw [HG5.out];exact below_size (below_alloc HB4.out (.map #[] 0))⟩;have HN45:Sd (g4 ≠ g5∧g ≠ g5):=⟨by
  have h4:=lt_of_some BK4.out
  have h5:=lt_of_some BKr.out
  have h6:g5=w4.heap.size + 1:=by rw [HG5.out];exact Array.size_push ..
  omega⟩
 have HMB:Sd (w.heap.size ≤ w4.heap.size):=⟨below_size HB4.out⟩;generalize ((w5.setCell ⟨g5,0,none⟩ (.slice none 0 0)).setCell ⟨g5,1,none⟩ (.map (some w4.heap.size)))=w6 at *;generalize w4.heap.size=mb at *;clear hcz0 hcz1 hfz0 hfz1 hg5m HKw HB5 HB4 HB BK BK4 BKr BK5 HG5;obtain ⟨ha0,ha1,ha2,ha3,ha4⟩:=bc5 BKrw.out;go_wp2_with fail;refine (HMANY.out _ HB5w.out).mono ?_;rintro e w7 ⟨rfl,hb7⟩;have HB7:=Sd.mk (below_step HB5w.out hb7);have BK5a:=Sd.mk (blk_below BK5w.out hb7);have BK4a:=Sd.mk (blk_below BK4w.out hb7);have BKra:=Sd.mk (blk_below BKrw.out hb7);have HM7:=Sd.mk (HM5.out.below hb7);clear hb7 ha0 ha1 ha2 ha3 ha4 BK5w BK4w BKrw HM5 HB5w;go_wp2_with fail;go_loopw [17] (fun v17 wr=>∃ (n:Nat) (vs:Value) (fs:List (Int × Value)),v17 = .int .i64 (n:Int)∧n ≤ N∧Sd (TabW w.heap.size wr mb fs (valT os fr n 0) vs ((List.range n).map st))∧Sd (wr.heap[g5]? = some (.cells #[vs,.map (some mb)] 96 (0,0)))∧Sd (wr.heap[g4]? = some (.cells #[.slice none 0 0,.map none] 96 (0,0)))∧Sd (wr.heap[g]? = some (.cells #[.slice A0 n0 c0,.slice A1 n1 c1,.slice A2 n2 c2,.slice A3 n3 c3,.slice A4 n4 c4] 26 (0,0)))∧Sd (Below w.heap.size w wr)) (fun v17 _=>((N:Int) - intV v17).toNat)
 case atStart=>exact ⟨0,_,[],rfl,Nat.zero_le _,⟨by rw [valT_first];exact TabW.made w mb HM7.out _⟩,BK5a,BK4a,BKra,HB7⟩
 case round =>
  obtain ⟨n,vs,fs,rfl,hn,HT,B5,B4,Br,HBr⟩:=hrel;clear HM7 BK5a BK4a BKra HB7;by_cases hlt:n < N
  ·(have hlt':decide ((n:Int) < (N:Int))=true:=by simp;omega);obtain ⟨ha0,ha1,ha2,ha3,ha4⟩:=bc5 Br.out;go_wp2_with fail;refine (HST.out n hlt _ HBr.out).mono ?_;rintro e w8 ⟨v0,v1,rfl,hv0,hv1,hb8⟩;have HV0:=Sd.mk hv0;have HV1:=Sd.mk hv1;have HB8:=Sd.mk hb8;obtain ⟨D0,d0,rfl,_,_⟩:=Kd.R_reads hv0;obtain ⟨D1,d1,rfl,_,_⟩:=Kd.R_reads hv1;clear hv0 hv1 hb8 ha0 ha1 ha2 ha3 ha4;generalize hs0:(st n).f0.length=s0 at *;generalize hs1:(st n).f1.length=s1 at *;have HS0:=Sd.mk hs0;have HS1:=Sd.mk hs1;clear hs0 hs1;go_upto_region 6 with (((with_reducible refine gate_dst (N:=7) rfl ?_);refine box_event ?hg (N:=7) ?hd (cs:=#[.slice none 0 0,.slice none 0 0]) (t:=38) ?hr ?_;(case hd=>rfl);(case hg=>rfl);(case hr=>first|(go_simp;done)|(go_simp;rfl));intro g7 hg7 w9 hbox hb;have HB9:=Sd.mk hb;have BK9:=Sd.mk hbox;have HG7:=Sd.mk hg7;have hcz0:=(blk_cell hbox 0);have hcz1:=(blk_cell hbox 1);have hfz0:=blk_frozen hbox 0;have hfz1:=blk_frozen hbox 1;clear hb hbox hg7));(have hgs:w8.heap.size ≤ g7:=by rw [HG7.out];exact Nat.le_refl _);have HBA:Sd (Below w8.heap.size w8 ((w9.setCell ⟨g7,0,none⟩ (.slice D0 s0 d0)).setCell ⟨g7,1,none⟩ (.slice D1 s1 d1))):=⟨below_set (below_set HB9.out hgs) hgs⟩;have BKs:Sd (((w9.setCell ⟨g7,0,none⟩ (.slice D0 s0 d0)).setCell ⟨g7,1,none⟩ (.slice D1 s1 d1)).heap[g7]? = some (.cells #[.slice D0 s0 d0,.slice D1 s1 d1] 38 (0,0))):=⟨by
    refine blk_put (cs:=#[.slice D0 s0 d0,.slice none 0 0]) ?_ 1 _ rfl
    exact blk_put BK9.out 0 _ rfl⟩
   generalize ((w9.setCell ⟨g7,0,none⟩ (.slice D0 s0 d0)).setCell ⟨g7,1,none⟩ (.slice D1 s1 d1))=wA at *;clear hcz0 hcz1 hfz0 hfz1 hgs BK9 HB9 HG7;have HBrA:Sd (Below wr.heap.size wr wA):=⟨below_step HB8.out HBA.out⟩;have HWA:=Sd.mk (below_step HBr.out HBrA.out);have HV0A:=Sd.mk (Kd.R_below HV0.out HBA.out);have HV1A:=Sd.mk (Kd.R_below HV1.out HBA.out);have HTA:=Sd.mk (HT.out.below HBrA.out);have HPA:Sd (PendW w.heap.size wA fs vs (st n) [.slice D0 s0 d0,.slice D1 s1 d1]):=⟨by
    have hbase:w.heap.size ≤ wr.heap.size:=below_size HBr.out
    have hnew:∀ k,wr.heap.size ≤ k → FrOff fs k∧some k ≠ vs.ownBlock:=fun k hk=>⟨fun q hq he=>by have:=Kd.R_lt (HT.out.rows q hq) k he;omega,fun he=>by have:=Kd.R_lt HT.out.sts k he.symm;omega⟩
    refine k38_mkM _ _ _ (st n) ?_ ?_
    ·exact Kd.R_lower (Kd.R_mono (Kd.R_bound HV0A.out) (fun k hk=>hnew k hk.2.1)) hbase
    ·exact Kd.R_lower (Kd.R_mono (Kd.R_bound HV1A.out) (fun k hk=>hnew k hk.2.1)) hbase⟩
   have B5A:=Sd.mk (blk_below B5.out HBrA.out);have B4A:=Sd.mk (blk_below B4.out HBrA.out);have BrA:=Sd.mk (blk_below Br.out HBrA.out);have HWD2:Sd (∀ w',Below wA.heap.size wA w' → Calls Try.prog 81 #[.agg #[.slice D0 s0 d0,.slice D1 s1 d1]] w' fun e w''=>∃ v0 v1:Value,e = .returned (.agg #[v0,v1])∧Kd.R (Kd.slice 9 Kd.string) 22 w'' w'.heap.size (fun _=>True) v0 (wd n).1∧Kd.R (Kd.slice 135 k135) 99 w'' w'.heap.size (fun _=>True) v1 (wd n).2∧Below w'.heap.size w' w''):=⟨fun w' hw=>by
    obtain ⟨_,l0,C0⟩:=Kd.R_reads' HV0A.out
    obtain ⟨_,l1,C1⟩:=Kd.R_reads' HV1A.out
    have:=HWD.out n hlt w' D0 d0 D1 d1 (Kd.C_below C0 hw) (by rw [HS0.out];exact l0) (Kd.C_below C1 hw) (by rw [HS1.out];exact l1)
    rw [HS0.out,HS1.out] at this
    exact this⟩
   clear HV0 HV1 HT B5 B4 Br HB8 HBA;obtain ⟨hb0,hb1⟩:=bc2 BKs.out;go_wp2_with fail;refine (HWD2.out _ (Below.refl _ _)).mono ?_;rintro e wB ⟨u0,u1,rfl,hu0,hu1,hbB⟩;have HU0:=Sd.mk hu0;have HU1:=Sd.mk hu1;have HBB:=Sd.mk hbB;obtain ⟨E0,f0,rfl,_,_⟩:=Kd.R_reads hu0;obtain ⟨E1,f1,rfl,_,_⟩:=Kd.R_reads hu1;clear hu0 hu1 hbB hb0 hb1;generalize ht0:(wd n).1.length=t0 at *;generalize ht1:(wd n).2.length=t1 at *;have HT0:=Sd.mk ht0;have HT1:=Sd.mk ht1;clear ht0 ht1;go_upto_region 7 with (((with_reducible refine gate_dst (N:=8) rfl ?_);refine box_event ?hg (N:=8) ?hd (cs:=#[.slice none 0 0,.slice none 0 0]) (t:=46) ?hr ?_;(case hd=>rfl);(case hg=>rfl);(case hr=>first|(go_simp;done)|(go_simp;rfl));intro g8 hg8 wC hbox hb;have HBC:=Sd.mk hb;have BKC:=Sd.mk hbox;have HG8:=Sd.mk hg8;have hcz0:=(blk_cell hbox 0);have hcz1:=(blk_cell hbox 1);have hfz0:=blk_frozen hbox 0;have hfz1:=blk_frozen hbox 1;clear hb hbox hg8));(have hgs:wB.heap.size ≤ g8:=by rw [HG8.out];exact Nat.le_refl _);have HBD:Sd (Below wB.heap.size wB ((wC.setCell ⟨g8,0,none⟩ (.slice E0 t0 f0)).setCell ⟨g8,1,none⟩ (.slice E1 t1 f1))):=⟨below_set (below_set HBC.out hgs) hgs⟩;have BKw:Sd (((wC.setCell ⟨g8,0,none⟩ (.slice E0 t0 f0)).setCell ⟨g8,1,none⟩ (.slice E1 t1 f1)).heap[g8]? = some (.cells #[.slice E0 t0 f0,.slice E1 t1 f1] 46 (0,0))):=⟨by
    refine blk_put (cs:=#[.slice E0 t0 f0,.slice none 0 0]) ?_ 1 _ rfl
    exact blk_put BKC.out 0 _ rfl⟩
   generalize ((wC.setCell ⟨g8,0,none⟩ (.slice E0 t0 f0)).setCell ⟨g8,1,none⟩ (.slice E1 t1 f1))=wD at *;clear hcz0 hcz1 hfz0 hfz1 hgs BKC HBC HG8;have HBAD:Sd (Below wA.heap.size wA wD):=⟨below_step HBB.out HBD.out⟩;have HWDw:=Sd.mk (below_step HWA.out HBAD.out);have HU0D:=Sd.mk (Kd.R_below HU0.out HBD.out);have HU1D:=Sd.mk (Kd.R_below HU1.out HBD.out);have BKsD:=Sd.mk (blk_below BKs.out HBAD.out);have B5D:=Sd.mk (blk_below B5A.out HBAD.out);have B4D:=Sd.mk (blk_below B4A.out HBAD.out);have BrD:=Sd.mk (blk_below BrA.out HBAD.out);have HTD:=Sd.mk (HTA.out.below HBAD.out);have HPD:=Sd.mk (HPA.out.below HBAD.out);clear HU0 HU1 BKs B5A B4A BrA HTA HPA HBB HBD HWD2 HV0A HV1A HWA HBrA;obtain ⟨ha0,ha1,ha2,ha3,ha4⟩:=bc5 BrD.out;obtain ⟨hb0,hb1⟩:=bc2 BKw.out;have HR2:Sd (∀ w',Kd.R (Kd.slice 9 Kd.string) 22 w' wA.heap.size (fun _=>True) (.slice E0 t0 f0) (wd n).1 → Kd.R (Kd.slice 135 k135) 99 w' wA.heap.size (fun _=>True) (.slice E1 t1 f1) (wd n).2 → (Kd.C (Kd.slice 9 Kd.string) w' E0 (wd n).1.length (wd n).1∧(wd n).1.length ≤ f0)∧(Kd.C (Kd.slice 135 k135) w' E1 (wd n).2.length (wd n).2∧(wd n).2.length ≤ f1)):=⟨fun w' h0 h1=>by
    obtain ⟨_,l0,C0⟩:=Kd.R_reads' h0
    obtain ⟨_,l1,C1⟩:=Kd.R_reads' h1
    exact ⟨⟨C0,by rw [HT0.out];exact l0⟩,⟨C1,by rw [HT1.out];exact l1⟩⟩⟩
   have HBRD:=Sd.mk (HBR.out n hlt wD E0 f0 E1 f1 HWDw.out (HR2.out wD HU0D.out HU1D.out).1.1 (HR2.out wD HU0D.out HU1D.out).1.2 (HR2.out wD HU0D.out HU1D.out).2.1 (HR2.out wD HU0D.out HU1D.out).2.2);rw [HT0.out,HT1.out] at HBRD;go_wp2_with fail;refine HBRD.out.mono ?_;rintro e wE ⟨v,rfl,hv,hbE⟩;obtain ⟨F0,h0,rfl,_,_⟩:=Kd.R_reads hv;have HBE:=Sd.mk hbE;clear hv hbE hb0 hb1 HBRD ha0 ha1 ha2 ha3 ha4;obtain ⟨hd,hhd⟩:∃ b:Bool,b=decide (br n = []):=⟨_,rfl⟩;(have hd0:(((br n).length:Int) == 0)=hd:=by rw [hhd];cases br n <;> simp;try omega);(have hd1:((br n).length == 0)=hd:=by rw [hhd];cases br n <;> simp);(have hd2:decide ((br n).length=0)=hd:=by rw [hhd];cases br n <;> simp);have HHD:=Sd.mk hhd;clear hhd;generalize (br n).length=lb at *;have HWE:=Sd.mk (below_step HWDw.out HBE.out);have HU0E:=Sd.mk (Kd.R_below HU0D.out HBE.out);have HU1E:=Sd.mk (Kd.R_below HU1D.out HBE.out);have BKsE:=Sd.mk (blk_below BKsD.out HBE.out);have BKwE:=Sd.mk (blk_below BKw.out HBE.out);have B5E:=Sd.mk (blk_below B5D.out HBE.out);have B4E:=Sd.mk (blk_below B4D.out HBE.out);have BrE:=Sd.mk (blk_below BrD.out HBE.out);have HTE:=Sd.mk (HTD.out.below HBE.out);have HPE:=Sd.mk (HPD.out.below HBE.out);clear HU0D HU1D BKsD BKw B5D B4D BrD HTD HPD HBE HWDw HBAD;go_wp2_with fail;clear hd0 hd1 hd2;go_loopw [32] (fun v32 wr=>∃ (q:Nat) (fs:List (Int × Value)),v32 = .int .i64 (q:Int)∧q ≤ no∧Sd (TabW w.heap.size wr mb fs (valT os fr n q) vs ((List.range n).map st))∧Sd (PendW w.heap.size wr fs vs (st n) [.slice D0 s0 d0,.slice D1 s1 d1])∧Sd (Keep4 wE wr)∧Sd (Below w.heap.size w wr)) (fun v32 _=>((no:Int) - intV v32).toNat)
   case atStart=>exact ⟨0,fs,rfl,Nat.zero_le _,HTE,HPE,⟨Keep4.refl _⟩,HWE⟩
   case round =>
    obtain ⟨q,fs,rfl,hq,HTq,HPq,HKq,HBq⟩:=hrel;clear HTE HPE HWE;have B5q:=Sd.mk (HKq.out.cell B5E.out (by decide));by_cases hlq:q < no
    ·(have hlq':decide ((q:Int) < (no:Int))=true:=by simp;omega);(have p1:0 ≤ (q:Int):=by omega);(have p2:(q:Int) < (no:Int):=by omega);obtain ⟨ad,e0,hx0⟩:=Kd.at_int (Kd.C_below HRO.out HBq.out) (q:Int) p1 p2;cases e0;simp only [Int.toNat_natCast] at hx0;replace p1:=eq_true p1;replace p2:=eq_true p2;have HO:Sd (os.getD q 0=rd os (q:Int)):=⟨by unfold rd;simp only [Int.toNat_natCast]⟩;have HOM:Sd (rd os (q:Int) ∈ os):=⟨by rw [← HO.out];exact getD_at os 0 q (by rw [HNO.out];exact hlq)⟩;generalize rd os (q:Int)=o at *;have hlk:=HTq.out.map.look (t:=94) Try.underlying94 Try.underlying3 (zero_bools wr) o;obtain ⟨Av,cv,hv,_,_⟩:=Kd.R_reads (HTq.out.look o);rw [valT_len] at hv;have HGV:Sd (getF nilV fs o = .slice Av (cntT os n q o) cv):=⟨hv⟩;have HCN:Sd ((o ∈ os.take q → cntT os n q o=n + 1)∧(¬ o ∈ os.take q → cntT os n q o=n)):=⟨by unfold cntT;exact ⟨fun h=>if_pos h,fun h=>by rw [if_neg h,if_pos HOM.out]⟩⟩;have HCE:Sd ((valT os fr n q o).length=cntT os n q o):=⟨valT_len _ _ _ _ _⟩;change (Instr.lookup 94 (.map (some mb)) (.int .i64 o) false).run Try.prog wr = .ok (getF nilV fs o) wr at hlk;rw [hv] at hlk;clear hv;generalize cntT os n q o=cn at *;have hb5:wr.cell? ⟨g5,1,none⟩=some (.map (some mb)):=(blk_cell B5q.out 1).trans rfl;by_cases hin:o ∈ os.take q
     ·have hcn:cn=n + 1:=HCN.out.1 hin;(have hc1:decide ((n:Int) < (cn:Int))=true:=by simp;omega);(have hc2:decide (n < cn)=true:=by simp;omega);have HIN:=Sd.mk hin;clear hin hcn HCN;go_wp2_with fail;go_roundw
      case measure=>simp [intV];omega
      case rel=>exact ⟨q + 1,fs,by simp,by omega,⟨by rw [valT_skip os fr n q (by rw [HNO.out];exact hlq) (by rw [HO.out];exact HIN.out)];exact HTq.out⟩,HPq,HKq,HBq⟩
     ·have hcn:cn=n:=HCN.out.2 hin;(have hc1:decide ((n:Int) < (cn:Int))=false:=by simp;omega);(have hc2:decide (n < cn)=false:=by simp;omega);have HNI:=Sd.mk hin;have HCN2:=Sd.mk hcn;clear hin hcn HCN;have HFO:=Sd.mk (HFR.out o n);have HFB:Sd (∃ b:Bool,b=fr o n):=⟨⟨_,rfl⟩⟩;obtain ⟨bb,hbb⟩:=HFB.out;rw [← hbb] at HFO;have HBBq:=Sd.mk hbb;clear hbb HFB;cases hd with
      | false =>
       (have hb0:bb=false:=by rw [HFO.out,if_neg (of_decide_eq_false HHD.out.symm)];rfl);subst hb0;go_wp2_with fail;have fc0:wr.drew.cell? ⟨g5,1,none⟩=some (.map (some mb)):=(blk_cell (w:=wr.drew) B5q.out 1).trans rfl;have HTd:Sd (TabW w.heap.size wr.drew mb fs (valT os fr n q) vs ((List.range n).map st)):=⟨HTq.out.below (below_drew (Below.refl _ _))⟩;have HPd:Sd (PendW w.heap.size wr.drew fs vs (st n) [.slice D0 s0 d0,.slice D1 s1 d1]):=⟨HPq.out.below (below_drew (Below.refl _ _))⟩;have HBd:Sd (Below w.heap.size w wr.drew):=⟨below_drew HBq.out⟩;have HKd:Sd (Keep4 wE wr.drew):=⟨HKq.out.trans (Keep4.below (below_drew (Below.refl _ _)))⟩;have fc1:(Instr.lookup 94 (.map (some mb)) (.int .i64 o) false).run Try.prog wr.drew = .ok (.slice Av cn cv) wr.drew:=by
        have h:=HTd.out.map.look (t:=94) Try.underlying94 Try.underlying3 (zero_bools wr.drew) o;change _=Result.ok (getF nilV fs o) _ at h;rw [HGV.out] at h;exact h
       have HOd:Sd (Kd.R Kd.bool 4 wr.drew w.heap.size (fun _=>True) (.slice Av cn cv) (valT os fr n q o)):=⟨by have h:=HTd.out.look o;rw [HGV.out] at h;exact h⟩;have HMN:Sd (some mb ≠ (Value.slice Av cn cv).ownBlock):=⟨fun e=>by
        obtain ⟨c,hc⟩:=Kd.R_typed HOd.out mb e.symm
        obtain ⟨es,cl,h3,_⟩:=HTd.out.map
        rw [hc] at h3;cases h3⟩
       have HLK:Sd (∀ W',IMap W' mb fs → (Instr.lookup 94 (.map (some mb)) (.int .i64 o) false).run Try.prog W' = .ok (.slice Av cn cv) W'):=⟨fun W' hW'=>by
        have h:=hW'.look (t:=94) Try.underlying94 Try.underlying3 (zero_bools W') o
        change _=Result.ok (getF nilV fs o) _ at h
        rw [HGV.out] at h
        exact h⟩
       have B5d:Sd (wr.drew.heap[g5]? = some (.cells #[vs,.map (some mb)] 96 (0,0))):=⟨B5q.out⟩;clear hlk hb5;refine start_ (n:=12) (S:=fun w'=>w'.cell? ⟨g5,1,none⟩=some (.map (some mb))∧(Instr.lookup 94 (.map (some mb)) (.int .i64 o) false).run Try.prog w' = .ok (.slice Av cn cv) w') (ds:=[11]) (ab 12 0) (by kernel_rfl) rfl rfl ⟨fc0,fc1⟩ (fun hH=>?_);refine pure_ (i:=0) (N:=some 51) (v:=?_) (a':=?_) (ab 12 1) rfl rfl (by kernel_rfl) (fun _ _ _ h=>h) (Or.inl ⟨by rfl,?_⟩) ?_ ?_;rotate_left
       ·intro w';go_simp;with_reducible rfl
       rotate_left
       ·simp only [Act.put,q1_,q2_,q3_,i64_w,i32_w];rfl
       refine pure_ (i:=2) (N:=some 53) (v:=?_) (a':=?_) (ab 12 5) rfl rfl (by kernel_rfl) (fun _ _ _ h=>h) (Or.inl ⟨by rfl,?_⟩) ?_ ?_;rotate_left
       ·intro w';go_simp;with_reducible rfl
       rotate_left
       ·simp only [Act.put,q1_,q2_,q3_,i64_w,i32_w];rfl
       refine pure_ (i:=3) (N:=some 54) (v:=?_) (a':=?_) (ab 12 13) rfl rfl (by kernel_rfl) (fun _ _ _ h=>h) (Or.inl ⟨by rfl,?_⟩) ?_ ?_;rotate_left
       ·intro w';go_simp;with_reducible rfl
       rotate_left
       ·simp only [Act.put,q1_,q2_,q3_,i64_w,i32_w];rfl
       refine pure_ (i:=5) (N:=some 56) (v:=?_) (a':=?_) (ab 12 45) rfl rfl (by kernel_rfl) (fun _ _ _ h=>h) (Or.inl ⟨by rfl,?_⟩) ?_ ?_;rotate_left
       ·intro w';go_simp;with_reducible rfl
       rotate_left
       ·simp only [Act.put,q1_,q2_,q3_,i64_w,i32_w];rfl
       refine pure_ (i:=7) (N:=some 58) (v:=?_) (a':=?_) (ab 12 173) rfl rfl (by kernel_rfl) (fun _ _ _ h=>h) (Or.inl ⟨by rfl,?_⟩) ?_ ?_;rotate_left
       ·intro w';go_simp;with_reducible rfl
       rotate_left
       ·simp only [Act.put,q1_,q2_,q3_,i64_w,i32_w];rfl
       refine pure_ (i:=8) (N:=some 59) (v:=?_) (a':=?_) (ab 12 429) rfl rfl (by kernel_rfl) (fun _ _ _ h=>h) (Or.inl ⟨by rfl,?_⟩) ?_ ?_;rotate_left
       ·intro w';go_simp;with_reducible rfl
       rotate_left
       ·simp only [Act.put,q1_,q2_,q3_,i64_w,i32_w];rfl
       refine take_ (i:=1) (N:=some 52) (v:=?_) (a':=?_) (ab 12 431) rfl rfl (by kernel_rfl) (fun _ _ _ h=>h) (Or.inl ⟨by rfl,?_⟩) hH ?_ ?_;rotate_left
       ·rintro w' ⟨s0,s1⟩;go_simp;with_reducible rfl
       rotate_left
       ·simp only [Act.put,q1_,q2_,q3_,i64_w,i32_w];rfl
       refine take_ (i:=4) (N:=some 55) (v:=?_) (a':=?_) (ab 12 447) rfl rfl (by kernel_rfl) (fun _ _ _ h=>h) (Or.inl ⟨by rfl,?_⟩) hH ?_ ?_;rotate_left
       ·rintro w' ⟨s0,s1⟩;go_simp;with_reducible rfl
       rotate_left
       ·simp only [Act.put,q1_,q2_,q3_,i64_w,i32_w];rfl
       refine take_ (i:=6) (N:=some 57) (v:=?_) (a':=?_) (ab 12 511) rfl rfl (by kernel_rfl) (fun _ _ _ h=>h) (Or.inl ⟨by rfl,?_⟩) hH ?_ ?_;rotate_left
       ·rintro w' ⟨s0,s1⟩;go_simp;with_reducible rfl
       rotate_left
       ·simp only [Act.put,q1_,q2_,q3_,i64_w,i32_w];rfl
       refine one_ (i:=9) (N:=some 60) (ab 12 1023) rfl rfl (by kernel_rfl) (by decide) (fun K hK=>?_);refine value_ (w1:=?_) (v:=?_) (by rfl) rfl ?_ ?_;rotate_left 2
       ·go_simp;constructor
        ·rfl
        ·rfl
       refine hK.out _ _ ⟨(pw_cell_below (below_alloc (Below.refl _ _) _) fc0),(HLK.out _ (HTd.out.map.below (below_alloc (Below.refl _ _) _)))⟩ (fun hH=>?_);clear hK K;refine norm_ (a':=?_) ?_ ?_;rotate_left
       ·show Act.put _ (some 60) _=_;simp only [Act.put,q1_,q2_,q3_,i64_w,i32_w];rfl
       refine one_ (i:=10) (N:=some 61) (ab 12 2047) rfl rfl (by kernel_rfl) (by decide) (fun K hK=>?_);refine Kd.R_append_step Kd.bool (w0:=w) w.heap.size (by rfl) (.tmp 57) (.tmp 60) 32 4 (.bool false) 1 rfl Try.underlying32 info4 rfl (by decide) (by decide) (.slice Av cn cv) (valT os fr n q o) false [.bool false] (fun _=>True) (fun _=>False) rfl (by simp [Act.eval]) rfl (fun _ h=>h.elim) (fun _ _=>trivial) HOd.out HBd.out (below_size HBd.out) (by have h1:=HCE.out;have h2:=HCN2.out;rw [h1];omega) ?_;intro v1 w1 hO1 hB1 hG1 hA1;have fd0:w1.cell? ⟨g5,1,none⟩=some (.map (some mb)):=(blk_cell (blk_grown B5d.out hG1 (Kd.R_ne HOd.out B5d.out (by decide))) 1).trans rfl;have fd1:=HLK.out w1 (HTd.out.map.grown hG1 HMN.out);refine hK.out _ _ ⟨fd0,fd1⟩ (fun hH=>?_);clear hK K;refine norm_ (a':=?_) ?_ ?_;rotate_left
       ·show Act.put _ (some 61) _=_;simp only [Act.put,q1_,q2_,q3_,i64_w,i32_w];rfl
       refine last_ (i:=11) (N:=none) (ab 12 4095) rfl rfl (by kernel_rfl) (by decide) (fun K hK=>?_);obtain ⟨w2,hput,hm2,hg2,hj2⟩:=(HTd.out.map.grown hG1 HMN.out).put (t:=94) Try.underlying94 Try.underlying3 o v1;refine skip_ (w1:=?_) (by rfl) rfl ?_ ?_;rotate_left
       ·go_simp;rfl
       refine hK.out _ _ ?_;clear hK K;refine done_ (by kernel_rfl) ?_;have HPUT:=Sd.mk (HTd.out.put o false (v1:=v1) (W2:=w2) hO1 (by rw [HGV.out];exact hG1) (by rw [HGV.out];exact hA1) hm2 hj2);have HB2:Sd (Below w.heap.size w w2):=⟨hB1.grown hg2 (below_size hB1) (by intro k hk;cases hk;exact HMB.out)⟩;clear hput hm2 hg2 hj2 hO1 hB1 hG1 hA1 fc0 fc1 fd0 fd1 hH;go_wp2_with fail;go_roundw
       case measure=>simp [intV];omega
       case rel=>exact ⟨q + 1,putF fs o v1,by simp,by omega,⟨by rw [← valT_put os fr n q (by rw [HNO.out];exact hlq) (by rw [HO.out];exact HNI.out),HO.out,← HBBq.out];exact HPUT.out.1⟩,⟨HPUT.out.2.1 _ _ HPd.out⟩,⟨HKd.out.trans HPUT.out.2.2⟩,HB2⟩
      | true =>
       have hbr:br n = []:=of_decide_eq_true HHD.out.symm;rw [if_pos hbr] at HFO;have HBRN:=Sd.mk hbr;clear hbr;have Brq:=Sd.mk (HKq.out.cell BrE.out (by decide));have BKwr:=Sd.mk (HKq.out.cell BKwE.out (by decide));have HC2:=Sd.mk (HR2.out wr (HKq.out.R HU0E.out (by decide)) (HKq.out.R HU1E.out (by decide)));have HFq:=Sd.mk (HFI.out n hlt o HOM.out HBRN.out wr E0 f0 E1 f1 HBq.out HC2.out.1.1 HC2.out.1.2 HC2.out.2.1 HC2.out.2.2);rw [HT0.out,HT1.out] at HFq;obtain ⟨ha0,ha1,ha2,ha3,ha4⟩:=bc5 Brq.out;obtain ⟨hb0,hb1⟩:=bc2 BKwr.out;generalize fi o n=z at *;have hz:decide (z < 0)=bb:=HFO.out.symm;go_wp2_with fail;refine HFq.out.mono ?_;rintro e wF ⟨er,rfl,hbF⟩;have HTF:=Sd.mk (HTq.out.below hbF);have HPF:=Sd.mk (HPq.out.below hbF);have HKF:=Sd.mk (HKq.out.trans (Keep4.below hbF));have HBF:=Sd.mk (below_step HBq.out hbF);have B5F:=Sd.mk (blk_below B5q.out hbF);clear hbF hb0 hb1 HFq HC2 hlk hb5 ha0 ha1 ha2 ha3 ha4;have hlk:True:=trivial;have hb5:True:=trivial;go_wp2_with fail;have fc0:wF.drew.cell? ⟨g5,1,none⟩=some (.map (some mb)):=(blk_cell (w:=wF.drew) B5F.out 1).trans rfl;have HTd:Sd (TabW w.heap.size wF.drew mb fs (valT os fr n q) vs ((List.range n).map st)):=⟨HTF.out.below (below_drew (Below.refl _ _))⟩;have HPd:Sd (PendW w.heap.size wF.drew fs vs (st n) [.slice D0 s0 d0,.slice D1 s1 d1]):=⟨HPF.out.below (below_drew (Below.refl _ _))⟩;have HBd:Sd (Below w.heap.size w wF.drew):=⟨below_drew HBF.out⟩;have HKd:Sd (Keep4 wE wF.drew):=⟨HKF.out.trans (Keep4.below (below_drew (Below.refl _ _)))⟩;have fc1:(Instr.lookup 94 (.map (some mb)) (.int .i64 o) false).run Try.prog wF.drew = .ok (.slice Av cn cv) wF.drew:=by
        have h:=HTd.out.map.look (t:=94) Try.underlying94 Try.underlying3 (zero_bools wF.drew) o;change _=Result.ok (getF nilV fs o) _ at h;rw [HGV.out] at h;exact h
       have HOd:Sd (Kd.R Kd.bool 4 wF.drew w.heap.size (fun _=>True) (.slice Av cn cv) (valT os fr n q o)):=⟨by have h:=HTd.out.look o;rw [HGV.out] at h;exact h⟩;have HMN:Sd (some mb ≠ (Value.slice Av cn cv).ownBlock):=⟨fun e=>by
        obtain ⟨c,hc⟩:=Kd.R_typed HOd.out mb e.symm
        obtain ⟨es,cl,h3,_⟩:=HTd.out.map
        rw [hc] at h3;cases h3⟩
       have HLK:Sd (∀ W',IMap W' mb fs → (Instr.lookup 94 (.map (some mb)) (.int .i64 o) false).run Try.prog W' = .ok (.slice Av cn cv) W'):=⟨fun W' hW'=>by
        have h:=hW'.look (t:=94) Try.underlying94 Try.underlying3 (zero_bools W') o
        change _=Result.ok (getF nilV fs o) _ at h
        rw [HGV.out] at h
        exact h⟩
       have B5d:Sd (wF.drew.heap[g5]? = some (.cells #[vs,.map (some mb)] 96 (0,0))):=⟨B5F.out⟩;clear hlk hb5;refine start_ (n:=12) (S:=fun w'=>w'.cell? ⟨g5,1,none⟩=some (.map (some mb))∧(Instr.lookup 94 (.map (some mb)) (.int .i64 o) false).run Try.prog w' = .ok (.slice Av cn cv) w') (ds:=[11]) (ab 12 0) (by kernel_rfl) rfl rfl ⟨fc0,fc1⟩ (fun hH=>?_);refine pure_ (i:=0) (N:=some 51) (v:=?_) (a':=?_) (ab 12 1) rfl rfl (by kernel_rfl) (fun _ _ _ h=>h) (Or.inl ⟨by rfl,?_⟩) ?_ ?_;rotate_left
       ·intro w';go_simp;with_reducible rfl
       rotate_left
       ·simp only [Act.put,q1_,q2_,q3_,i64_w,i32_w];rfl
       refine pure_ (i:=2) (N:=some 53) (v:=?_) (a':=?_) (ab 12 5) rfl rfl (by kernel_rfl) (fun _ _ _ h=>h) (Or.inl ⟨by rfl,?_⟩) ?_ ?_;rotate_left
       ·intro w';go_simp;with_reducible rfl
       rotate_left
       ·simp only [Act.put,q1_,q2_,q3_,i64_w,i32_w];rfl
       refine pure_ (i:=3) (N:=some 54) (v:=?_) (a':=?_) (ab 12 13) rfl rfl (by kernel_rfl) (fun _ _ _ h=>h) (Or.inl ⟨by rfl,?_⟩) ?_ ?_;rotate_left
       ·intro w';go_simp;with_reducible rfl
       rotate_left
       ·simp only [Act.put,q1_,q2_,q3_,i64_w,i32_w];rfl
       refine pure_ (i:=5) (N:=some 56) (v:=?_) (a':=?_) (ab 12 45) rfl rfl (by kernel_rfl) (fun _ _ _ h=>h) (Or.inl ⟨by rfl,?_⟩) ?_ ?_;rotate_left
       ·intro w';go_simp;with_reducible rfl
       rotate_left
       ·simp only [Act.put,q1_,q2_,q3_,i64_w,i32_w];rfl
       refine pure_ (i:=7) (N:=some 58) (v:=?_) (a':=?_) (ab 12 173) rfl rfl (by kernel_rfl) (fun _ _ _ h=>h) (Or.inl ⟨by rfl,?_⟩) ?_ ?_;rotate_left
       ·intro w';go_simp;with_reducible rfl
       rotate_left
       ·simp only [Act.put,q1_,q2_,q3_,i64_w,i32_w];rfl
       refine pure_ (i:=8) (N:=some 59) (v:=?_) (a':=?_) (ab 12 429) rfl rfl (by kernel_rfl) (fun _ _ _ h=>h) (Or.inl ⟨by rfl,?_⟩) ?_ ?_;rotate_left
       ·intro w';go_simp;with_reducible rfl
       rotate_left
       ·simp only [Act.put,q1_,q2_,q3_,i64_w,i32_w];rfl
       refine take_ (i:=1) (N:=some 52) (v:=?_) (a':=?_) (ab 12 431) rfl rfl (by kernel_rfl) (fun _ _ _ h=>h) (Or.inl ⟨by rfl,?_⟩) hH ?_ ?_;rotate_left
       ·rintro w' ⟨s0,s1⟩;go_simp;with_reducible rfl
       rotate_left
       ·simp only [Act.put,q1_,q2_,q3_,i64_w,i32_w];rfl
       refine take_ (i:=4) (N:=some 55) (v:=?_) (a':=?_) (ab 12 447) rfl rfl (by kernel_rfl) (fun _ _ _ h=>h) (Or.inl ⟨by rfl,?_⟩) hH ?_ ?_;rotate_left
       ·rintro w' ⟨s0,s1⟩;go_simp;with_reducible rfl
       rotate_left
       ·simp only [Act.put,q1_,q2_,q3_,i64_w,i32_w];rfl
       refine take_ (i:=6) (N:=some 57) (v:=?_) (a':=?_) (ab 12 511) rfl rfl (by kernel_rfl) (fun _ _ _ h=>h) (Or.inl ⟨by rfl,?_⟩) hH ?_ ?_;rotate_left
       ·rintro w' ⟨s0,s1⟩;go_simp;with_reducible rfl
       rotate_left
       ·simp only [Act.put,q1_,q2_,q3_,i64_w,i32_w];rfl
       refine one_ (i:=9) (N:=some 60) (ab 12 1023) rfl rfl (by kernel_rfl) (by decide) (fun K hK=>?_);refine value_ (w1:=?_) (v:=?_) (by rfl) rfl ?_ ?_;rotate_left 2
       ·go_simp;constructor
        ·rfl
        ·rfl
       refine hK.out _ _ ⟨(pw_cell_below (below_alloc (Below.refl _ _) _) fc0),(HLK.out _ (HTd.out.map.below (below_alloc (Below.refl _ _) _)))⟩ (fun hH=>?_);clear hK K;refine norm_ (a':=?_) ?_ ?_;rotate_left
       ·show Act.put _ (some 60) _=_;simp only [Act.put,q1_,q2_,q3_,i64_w,i32_w];rfl
       refine one_ (i:=10) (N:=some 61) (ab 12 2047) rfl rfl (by kernel_rfl) (by decide) (fun K hK=>?_);refine Kd.R_append_step Kd.bool (w0:=w) w.heap.size (by rfl) (.tmp 57) (.tmp 60) 32 4 (.bool false) 1 rfl Try.underlying32 info4 rfl (by decide) (by decide) (.slice Av cn cv) (valT os fr n q o) bb [.bool bb] (fun _=>True) (fun _=>False) rfl (by simp [Act.eval]) rfl (fun _ h=>h.elim) (fun _ _=>trivial) HOd.out HBd.out (below_size HBd.out) (by have h1:=HCE.out;have h2:=HCN2.out;rw [h1];omega) ?_;intro v1 w1 hO1 hB1 hG1 hA1;have fd0:w1.cell? ⟨g5,1,none⟩=some (.map (some mb)):=(blk_cell (blk_grown B5d.out hG1 (Kd.R_ne HOd.out B5d.out (by decide))) 1).trans rfl;have fd1:=HLK.out w1 (HTd.out.map.grown hG1 HMN.out);refine hK.out _ _ ⟨fd0,fd1⟩ (fun hH=>?_);clear hK K;refine norm_ (a':=?_) ?_ ?_;rotate_left
       ·show Act.put _ (some 61) _=_;simp only [Act.put,q1_,q2_,q3_,i64_w,i32_w];rfl
       refine last_ (i:=11) (N:=none) (ab 12 4095) rfl rfl (by kernel_rfl) (by decide) (fun K hK=>?_);obtain ⟨w2,hput,hm2,hg2,hj2⟩:=(HTd.out.map.grown hG1 HMN.out).put (t:=94) Try.underlying94 Try.underlying3 o v1;refine skip_ (w1:=?_) (by rfl) rfl ?_ ?_;rotate_left
       ·go_simp;rfl
       refine hK.out _ _ ?_;clear hK K;refine done_ (by kernel_rfl) ?_;have HPUT:=Sd.mk (HTd.out.put o bb (v1:=v1) (W2:=w2) hO1 (by rw [HGV.out];exact hG1) (by rw [HGV.out];exact hA1) hm2 hj2);have HB2:Sd (Below w.heap.size w w2):=⟨hB1.grown hg2 (below_size hB1) (by intro k hk;cases hk;exact HMB.out)⟩;clear hput hm2 hg2 hj2 hO1 hB1 hG1 hA1 fc0 fc1 fd0 fd1 hH;go_wp2_with fail;go_roundw
       case measure=>simp [intV];omega
       case rel=>exact ⟨q + 1,putF fs o v1,by simp,by omega,⟨by rw [← valT_put os fr n q (by rw [HNO.out];exact hlq) (by rw [HO.out];exact HNI.out),HO.out,← HBBq.out];exact HPUT.out.1⟩,⟨HPUT.out.2.1 _ _ HPd.out⟩,⟨HKd.out.trans HPUT.out.2.2⟩,HB2⟩
    ·(have hlq':decide ((q:Int) < (no:Int))=false:=by simp;omega);(obtain rfl:q=no:=by omega);have BKs7:=Sd.mk (HKq.out.cell BKsE.out (by decide));have B4q:=Sd.mk (HKq.out.cell B4E.out (by decide));have Brq:=Sd.mk (HKq.out.cell BrE.out (by decide));obtain ⟨hb0,hb1⟩:=bc2 BKs7.out;have hb5:wr.cell? ⟨g5,0,none⟩=some vs:=(blk_cell B5q.out 0).trans rfl;have HSL:Sd (((List.range n).map st).length ≤ 1000):=⟨by rw [List.length_map,List.length_range];omega⟩;clear BKsE BKwE B5E B4E BrE HU0E HU1E HR2;obtain ⟨Avs,cvs,hvs⟩:=Kd.R_slice HTq.out.sts;subst hvs;generalize hL:((List.range n).map st)=L at *;have HL:=Sd.mk hL;clear hL;generalize hLn:L.length=ln at *;have HLN:=Sd.mk hLn;clear hLn;go_wp2_with (((with_reducible refine gate_builtin (b:=.append) (xs:=#[.tmp 64,.tmp 66]) rfl ?_);at_builtin;refine Kd.R_append kSm (w0:=w) w.heap.size rfl (.tmp 64) (.tmp 66) 93 38 (.agg #[.slice none 0 0,.slice none 0 0]) 48 rfl Try.underlying93 infoSm rfl (by decide) (by omega) (.slice Avs ln cvs) L (st n) [.slice D0 s0 d0,.slice D1 s1 d1] (FrOff fs) (fun k=>FrOff fs k∧some k ≠ (Value.slice Avs ln cvs).ownBlock) rfl rfl ?aP (fun _ hk=>hk) ?aF ?aO ?aB ?aS ?aL ?_;(case aP=>exact HPq.out);(case aB=>exact HBq.out);(case aF=>exact fun k hk q hq he=>by have:=Kd.R_lt (HTq.out.rows q hq) k he;omega);(case aO=>exact HTq.out.sts);(case aS=>exact below_size HBq.out);(case aL=>have h1:=HSL.out;have h2:=HLN.out;omega);intro vn wG ho hb hg hat;obtain ⟨An,cp,rfl⟩:=Kd.R_slice ho;have HTG:=Sd.mk (HTq.out.push ho hg);have HBG:=Sd.mk hb;have B5G:=Sd.mk (HTq.out.keep_push hg B5q.out (by decide));have B4G:=Sd.mk (HTq.out.keep_push hg B4q.out (by decide));have BrG:=Sd.mk (HTq.out.keep_push hg Brq.out (by decide));have hcz0:wG.cell? ⟨g5,0,none⟩=some (.slice Avs ln cvs):=(blk_cell B5G.out 0).trans rfl;have hfz0:=blk_frozen B5G.out 0;clear ho hb hg hat hb0 hb1 hb5));go_roundw
     case measure=>simp [intV];omega
     case rel =>
      refine ⟨n + 1,.slice An (L.length + 1) cp,fs,by simp,by omega,⟨?_⟩,⟨?_⟩,⟨?_⟩,⟨?_⟩,⟨?_⟩⟩
      ·have h1:=HTG.out.set B5G.out (by decide) 0 (.slice An (L ++ [st n]).length cp);(have h2:(List.range (n + 1)).map st=L ++ [st n]:=by rw [List.range_succ,List.map_append,HL.out];rfl);(have h3:(L ++ [st n]).length=L.length + 1:=by rw [List.length_append];rfl);rw [h3] at h1;rw [h2,← valT_next,HNO.out];exact h1
      ·exact blk_put (cs:=#[.slice Avs ln cvs,.map (some mb)]) B5G.out 0 _ rfl
      ·exact blk_far B4G.out HN45.out.1 _
      ·exact blk_far BrG.out HN45.out.2 _
      ·exact below_set HBG.out HG5W.out
  ·(have hlt':decide ((n:Int) < (N:Int))=false:=by simp;omega);(obtain rfl:n=N:=by omega);have hb5:wr.cell? ⟨g5,0,none⟩=some vs:=(blk_cell B5.out 0).trans rfl;have hb51:wr.cell? ⟨g5,1,none⟩=some (.map (some mb)):=(blk_cell B5.out 1).trans rfl;obtain ⟨hb4,hb41⟩:=bc2 B4.out;obtain ⟨hf4,hf41⟩:=bf2 B4.out;have hn45:=HN45.out.1;(have hn54:g5 ≠ g4:=fun e=>hn45 e.symm);have HG4W:Sd (w.heap.size ≤ g4):=HG4Z;obtain ⟨Avs,cvs,hvs⟩:=Kd.R_slice HT.out.sts;subst hvs;have HLN:Sd (((List.range n).map st).length=n):=⟨by simp⟩;generalize hLn:((List.range n).map st).length=ln at *;go_wp2_with fail;refine bodyPost_ret (results_cell_row rfl _ _ g4 96 #[.slice Avs ln cvs,.map (some mb)] (0,0) _ rfl (by refine blk_put (cs:=#[.slice Avs ln cvs,.map none]) ?_ 1 _ rfl;refine blk_put (cs:=#[.slice none 0 0,.map none]) ?_ 0 _ rfl;exact B4.out) Try.underlying96 rfl (by kernel_rfl)) rfl ?_;refine ⟨_,mb,fs,rfl,?_,below_set (below_set HBr.out HG4W.out) HG4W.out⟩;have h1:=HT.out.set B4.out (by decide) 0 (.slice Avs ln cvs);exact h1.set (blk_put (cs:=#[.slice none 0 0,.map none]) B4.out 0 _ rfl) (by decide) 1 _
theorem sm_at {W:World} {base:Nat} {ok:Nat → Prop} {A:Option Addr} {n c:Nat} {sts:List Sm} (h:Kd.R kSm 38 W base ok (.slice A n c) sts) (i:Nat) (hi:i < n) :
  ∃ ad D0 d0 D1 d1,A=some ad∧W.cell? (ad.add (i * 2))=some (.slice D0 (sts.getD i z38).f0.length d0)∧W.cell? ⟨(ad.add (i * 2)).block,(ad.add (i * 2)).off + 1,none⟩=some (.slice D1 (sts.getD i z38).f1.length d1) ∧
   Kd.R Kd.bool 4 W base (fun _=>True) (.slice D0 (sts.getD i z38).f0.length d0) (sts.getD i z38).f0∧Kd.R (Kd.int .i64) 3 W base (fun _=>True) (.slice D1 (sts.getD i z38).f1.length d1) (sts.getD i z38).f1:=by
 obtain ⟨hn,hnc,hC⟩:=Kd.R_reads' h;obtain ⟨g,cap,hv,_⟩:=Kd.R_form h (by omega);injection hv with hA _ _;subst hA;obtain ⟨cs,hcl,hM,hcc,_⟩:=Kd.R_elem h z38 (i:Int) (by omega) (by omega);simp only [Int.toNat_natCast] at hM hcc;obtain ⟨v0,v1,rfl,r0,r1⟩:=k38_openM hM;obtain ⟨D0,d0,rfl,_,_⟩:=Kd.R_reads r0;obtain ⟨D1,d1,rfl,_,_⟩:=Kd.R_reads r1;have h0:=hcc 0 _ rfl;have h1:=hcc 1 _ rfl;have e:(⟨g,0,none⟩:Addr).add (i * 2)=⟨g,i * 2,none⟩:=add_plain _ _;refine ⟨_,D0,d0,D1,d1,rfl,?_,?_,Kd.R_mono r0 (fun _ _=>trivial),Kd.R_mono r1 (fun _ _=>trivial)⟩
 ·rw [e];exact h0
 ·rw [e];exact h1
theorem TabW.told {w0s:Nat} {W:World} {mb:Nat} {fs:List (Int × Value)} {val:Int → List Bool} {vs:Value} {sts:List Sm} (h:TabW w0s W mb fs val vs sts) (o:Int) (n:Nat) (hn:(val o).length=n) :
  ∃ A c,(∀ W',Below W.heap.size W W' → (Instr.lookup 94 (.map (some mb)) (.int .i64 o) false).run Try.prog W' = .ok (.slice A n c) W')∧Kd.C Kd.bool W A n (val o):=by
 obtain ⟨A,c,hv,_,hC⟩:=Kd.R_reads (h.look o);rw [hn] at hv hC;refine ⟨A,c,fun W' hW'=>?_,hC⟩;have h2:=(h.map.below hW').look (t:=94) Try.underlying94 Try.underlying3 (zero_bools W') o;change _=Result.ok (getF nilV fs o) _ at h2;rw [hv] at h2;exact h2
theorem find_range (p:Nat → Bool) (N n:Nat) (hn:n < N) (hm:∀ m,m < n → p m=false) (h:p n=true):(List.range N).find? p=some n:=by
 rw [List.find?_eq_some_iff_getElem];refine ⟨h,n,by simpa using hn,by simp,fun j hj=>?_⟩;simp [hm j hj]
set_option maxHeartbeats 16000000 in
set_option maxRecDepth 100000 in
theorem attab_walk (A0:Option Addr) (n0 c0:Nat) (A1:Option Addr) (n1 c1:Nat) (A2:Option Addr) (n2 c2:Nat) (A3:Option Addr) (n3 c3:Nat) (A4:Option Addr) (n4 c4:Nat) (Ad:Option Addr) (nd cd:Nat) (a b cl:Int) (w:World)
  (w0s mb:Nat) (fs:List (Int × Value)) (val:Int → List Bool) (vs:Value) (N:Nat) (st:Nat → Sm) (fr:Int → Nat → Bool) (ap wa:Nat → List Bool × List Int) (wd:Nat → List (List ByteArray) × List (List Ce)) (ho:Nat → Bool)
  (hT:TabW w0s w mb fs val vs ((List.range N).map st)) (hb0:w0s ≤ w.heap.size) (hN:N ≤ 1000) (hva:val a=(List.range N).map (fr a)) (hvb:val b=(List.range N).map (fr b))
  (hap:∀ n:Nat,n < N → fr a n=true → fr b n=true → ∀ w' D0 d0 D1 d1,Below w.heap.size w w' → Kd.C Kd.bool w' D0 (st n).f0.length (st n).f0 → (st n).f0.length ≤ d0 → Kd.C (Kd.int .i64) w' D1 (st n).f1.length (st n).f1 → (st n).f1.length ≤ d1 → Calls Try.prog 82 #[.agg #[.slice A0 n0 c0,.slice A1 n1 c1,.slice A2 n2 c2,.slice A3 n3 c3,.slice A4 n4 c4],.slice Ad nd cd,.agg #[.slice D0 (st n).f0.length d0,.slice D1 (st n).f1.length d1],.int .i64 a,.int .i64 b] w' fun e w''=>∃ v0 v1:Value,e = .returned (.agg #[v0,v1])∧Kd.R Kd.bool 4 w'' w'.heap.size (fun _=>True) v0 (ap n).1∧Kd.R (Kd.int .i64) 3 w'' w'.heap.size (fun _=>True) v1 (ap n).2∧Below w'.heap.size w' w'')
  (hwd:∀ n:Nat,n < N → fr a n=true → fr b n=true → ∀ w' D0 d0 D1 d1,Kd.C Kd.bool w' D0 (ap n).1.length (ap n).1 → (ap n).1.length ≤ d0 → Kd.C (Kd.int .i64) w' D1 (ap n).2.length (ap n).2 → (ap n).2.length ≤ d1 → Calls Try.prog 81 #[.agg #[.slice D0 (ap n).1.length d0,.slice D1 (ap n).2.length d1]] w' fun e w''=>∃ v0 v1:Value,e = .returned (.agg #[v0,v1])∧Kd.R (Kd.slice 9 Kd.string) 22 w'' w'.heap.size (fun _=>True) v0 (wd n).1∧Kd.R (Kd.slice 135 k135) 99 w'' w'.heap.size (fun _=>True) v1 (wd n).2∧Below w'.heap.size w' w'')
  (hho:∀ n:Nat,n < N → fr a n=true → fr b n=true → ∀ w' D0 d0 D1 d1,Below w.heap.size w w' → Kd.C (Kd.slice 9 Kd.string) w' D0 (wd n).1.length (wd n).1 → (wd n).1.length ≤ d0 → Kd.C (Kd.slice 135 k135) w' D1 (wd n).2.length (wd n).2 → (wd n).2.length ≤ d1 → Calls Try.prog 22 #[.agg #[.slice A0 n0 c0,.slice A1 n1 c1,.slice A2 n2 c2,.slice A3 n3 c3,.slice A4 n4 c4],.agg #[.slice D0 (wd n).1.length d0,.slice D1 (wd n).2.length d1],.int .i64 cl] w' fun e w''=>e = .returned (.bool (ho n))∧Below w'.heap.size w' w'') :
  Calls Try.prog 51 #[.agg #[vs,.map (some mb)],.agg #[.slice A0 n0 c0,.slice A1 n1 c1,.slice A2 n2 c2,.slice A3 n3 c3,.slice A4 n4 c4],.slice Ad nd cd,.int .i64 a,.int .i64 b,.int .i64 cl] w fun e w'=>∃ v0 v1:Value,e = .returned (.tuple #[.agg #[v0,v1],.bool (((List.range N).find? fun n=>fr a n && (fr b n && !ho n)).isSome)]) ∧
   Kd.R Kd.bool 4 w' w0s (fun _=>True) v0 (match (List.range N).find? (fun n=>fr a n && (fr b n && !ho n)) with|some n=>(st n).f0|none=>[])∧Kd.R (Kd.int .i64) 3 w' w0s (fun _=>True) v1 (match (List.range N).find? (fun n=>fr a n && (fr b n && !ho n)) with|some n=>(st n).f1|none=>[])∧Below w.heap.size w w':=by
 have HT:=Sd.mk hT;have HAP:=Sd.mk hap;have HWD:=Sd.mk hwd;have HHO:=Sd.mk hho;have HFY:Sd (∀ n,n < N → (∀ m,m < n → (fr a m && (fr b m && !ho m))=false) → (fr a n && (fr b n && !ho n))=true → (List.range N).find? (fun n=>fr a n && (fr b n && !ho n))=some n):=⟨fun n hn hm h=>find_range _ N n hn hm h⟩;have HFN:Sd ((∀ m,m < N → (fr a m && (fr b m && !ho m))=false) → (List.range N).find? (fun n=>fr a n && (fr b n && !ho n))=none):=⟨fun hm=>by
  rw [List.find?_eq_none]
  intro x hx
  rw [hm x (List.mem_range.1 hx)]
  decide⟩
 generalize (List.range N).find? (fun n=>fr a n && (fr b n && !ho n))=FF at *;obtain ⟨Avs,cvs,hvs⟩:=Kd.R_slice hT.sts;subst hvs;(have hln:((List.range N).map st).length=N:=by simp);rw [hln] at HT hT ⊢;obtain ⟨Aa,ca,hla,hCa⟩:=hT.told a N (by rw [hva];simp);obtain ⟨Ab,cb,hlb,hCb⟩:=hT.told b N (by rw [hvb];simp);have HLA:=Sd.mk hla;have HLB:=Sd.mk hlb;have HCA:Sd (Kd.C Kd.bool w Aa N ((List.range N).map (fr a))):=⟨by rw [← hva];exact hCa⟩;have HCB:Sd (Kd.C Kd.bool w Ab N ((List.range N).map (fr b))):=⟨by rw [← hvb];exact hCb⟩;have HST:Sd (∀ n,n < N → ((List.range N).map st).getD n z38=st n):=⟨fun n hn=>by simp [List.getD,hn]⟩;have HBA:Sd (∀ (f:Nat → Bool) n,n < N → rdOf false ((List.range N).map f) (n:Int)=f n):=⟨fun f n hn=>by simp [rdOf,List.getD,hn]⟩;have HW0:=Sd.mk hb0;generalize hL:(List.range N).map st=L at *;have HL:=Sd.mk hL;clear hT hap hwd hho hva hvb hla hlb hCa hCb hL hln hb0;go_enter Try.func51,Try.ntmps51;go_upto_region 1 with (first|((with_reducible refine gate_dst (N:=6) rfl ?_);refine box_event ?hg (N:=6) ?hd (cs:=#[.slice Avs N cvs,.map (some mb)]) (t:=96) ?hr ?_;(case hd=>rfl);(case hg=>rfl);(case hr=>first|(go_simp;done)|(go_simp;rfl));intro g6 hg w3 hbox hb;have HB3:=Sd.mk hb;have BK6:=Sd.mk hbox;clear hb hbox hg)|((with_reducible refine gate_dst (N:=7) rfl ?_);refine box_event ?hg (N:=7) ?hd (cs:=#[.slice A0 n0 c0,.slice A1 n1 c1,.slice A2 n2 c2,.slice A3 n3 c3,.slice A4 n4 c4]) (t:=26) ?hr ?_;(case hd=>rfl);(case hg=>rfl);(case hr=>first|(go_simp;done)|(go_simp;rfl));intro g7 hg w4 hbox hb;have HB4:=Sd.mk (below_step HB3.out hb);have BK6b:=Sd.mk (blk_below BK6.out hb);have BK7:=Sd.mk hbox;clear hb hbox hg)|((with_reducible refine gate_dst (N:=12) rfl ?_);refine box_event ?hg (N:=12) ?hd (cs:=#[.slice none 0 0,.slice none 0 0]) (t:=38) ?hr ?_;(case hd=>rfl);(case hg=>rfl);(case hr=>first|(go_simp;done)|(go_simp;rfl));intro g12 hg w5 hbox hb;have HG12:Sd (w.heap.size ≤ g12):=⟨by rw [hg];exact below_size HB4.out⟩;have HB5:=Sd.mk (below_step HB4.out hb);have BK6c:=Sd.mk (blk_below BK6b.out hb);have BK7c:=Sd.mk (blk_below BK7.out hb);have BK12:=Sd.mk hbox;clear hb hbox hg));have hb60:w5.cell? ⟨g6,0,none⟩=some (.slice Avs N cvs):=(blk_cell BK6c.out 0).trans rfl;clear BK6 BK6b BK7 HB3 HB4;go_wp2_with fail;clear hb60;go_loopw [19] (fun v19 wr=>∃ n:Nat,v19 = .int .i64 (n:Int)∧n ≤ N∧Sd (∀ m,m < n → (fr a m && (fr b m && !ho m))=false)∧Sd (Below w5.heap.size w5 wr)) (fun v19 _=>((N:Int) - intV v19).toNat)
 case atStart=>exact ⟨0,rfl,Nat.zero_le _,⟨fun m hm=>absurd hm (by omega)⟩,⟨Below.refl _ _⟩⟩
 case round =>
  obtain ⟨n,rfl,hn,HNO,HB5r⟩:=hrel;have HBr:=Sd.mk (below_step HB5.out HB5r.out);by_cases hlt:n < N
  ·(have hlt':decide ((n:Int) < (N:Int))=true:=by simp;omega);have p1:(0 ≤ (n:Int))=True:=eq_true (by omega);have p2:((n:Int) < (N:Int))=True:=eq_true (by omega);obtain ⟨ad,D0,d0,D1,d1,hAv,hx0,hx1,hr0,hr1⟩:=sm_at (Kd.R_below HT.out.sts HBr.out) n hlt;rw [HST.out n hlt] at hx0 hx1 hr0 hr1;have HR0:=Sd.mk hr0;have HR1:=Sd.mk hr1;subst hAv;clear hr0 hr1;generalize hs0:(st n).f0.length=s0 at *;generalize hs1:(st n).f1.length=s1 at *;have HS0:=Sd.mk hs0;have HS1:=Sd.mk hs1;clear hs0 hs1;go_upto_region 4 with (((with_reducible refine gate_dst (N:=15) rfl ?_);refine box_event ?hg (N:=15) ?hd (cs:=#[.slice none 0 0,.slice none 0 0]) (t:=38) ?hr ?_;(case hd=>rfl);(case hg=>rfl);(case hr=>first|(go_simp;done)|(go_simp;rfl));intro g9 hg9 w9 hbox hb;have HB9:=Sd.mk hb;have BK9:=Sd.mk hbox;have HNE9:g9 ≠ g12:=(by have h1:=lt_of_some BK12.out;have h2:=HB5r.out.size;omega);have HG9:=Sd.mk hg9;have hcz0:=(blk_cell hbox 0);have hcz1:=(blk_cell hbox 1);have hfz0:=blk_frozen hbox 0;have hfz1:=blk_frozen hbox 1;clear hb hbox hg9));(have hgs:wr.heap.size ≤ g9:=by rw [HG9.out];exact Nat.le_refl _);have HBrA:Sd (Below wr.heap.size wr ((w9.setCell ⟨g9,0,none⟩ (.slice D0 s0 d0)).setCell ⟨g9,1,none⟩ (.slice D1 s1 d1))):=⟨below_set (below_set HB9.out hgs) hgs⟩;have BKs:Sd (((w9.setCell ⟨g9,0,none⟩ (.slice D0 s0 d0)).setCell ⟨g9,1,none⟩ (.slice D1 s1 d1)).heap[g9]? = some (.cells #[.slice D0 s0 d0,.slice D1 s1 d1] 38 (0,0))):=⟨by
    refine blk_put (cs:=#[.slice D0 s0 d0,.slice none 0 0]) ?_ 1 _ rfl
    exact blk_put BK9.out 0 _ rfl⟩
   generalize ((w9.setCell ⟨g9,0,none⟩ (.slice D0 s0 d0)).setCell ⟨g9,1,none⟩ (.slice D1 s1 d1))=wA at *;clear hcz0 hcz1 hfz0 hfz1 hgs BK9 HB9 HG9 hx0 hx1;have HWA:=Sd.mk (below_step HBr.out HBrA.out);have HB5A:=Sd.mk (below_step HB5r.out HBrA.out);have B6A:=Sd.mk (blk_below BK6c.out HB5A.out);have B7A:=Sd.mk (blk_below BK7c.out HB5A.out);have B12A:=Sd.mk (blk_below BK12.out HB5A.out);have HR0A:=Sd.mk (Kd.R_below HR0.out HBrA.out);have HR1A:=Sd.mk (Kd.R_below HR1.out HBrA.out);clear HR0 HR1 HBr HB5r HBrA;obtain ⟨ada,ea,hya⟩:=Kd.at_bool (Kd.C_below HCA.out HWA.out) (n:Int) (by omega) (by omega);obtain ⟨adb,eb,hyb⟩:=Kd.at_bool (Kd.C_below HCB.out HWA.out) (n:Int) (by omega) (by omega);subst ea;subst eb;rw [HBA.out _ n hlt] at hya hyb;simp only [Int.toNat_natCast] at hya hyb;have hk6:wA.cell? ⟨g6,1,none⟩=some (.map (some mb)):=(blk_cell B6A.out 1).trans rfl;(have hqa:∀ m,(Instr.lookup 94 (.map (some mb)) (.int .i64 a) false).run Try.prog (wA.drewN m) = .ok (.slice (some ada) N ca) (wA.drewN m):=fun m=>HLA.out _ (pw_below_drewN HWA.out m));(have hqb:∀ m,(Instr.lookup 94 (.map (some mb)) (.int .i64 b) false).run Try.prog (wA.drewN m) = .ok (.slice (some adb) N cb) (wA.drewN m):=fun m=>HLB.out _ (pw_below_drewN HWA.out m));have HPN:Sd (∀ v,(fr a n && (fr b n && !ho n))=v → v=false → ∀ m,m < n + 1 → (fr a m && (fr b m && !ho m))=false):=⟨fun v h1 h2 m hm=>by
    rcases Nat.lt_or_ge m n with h|h
    ·exact HNO.out m h
    ·obtain rfl:m=n:=by omega
     rw [h1,h2]⟩
   cases hfa:fr a n with
   | false =>
    rw [hfa] at hya;have HFA:=Sd.mk hfa;clear hfa hyb hqb;go_quiet (fail);go_wp2_with fail;go_roundw
    case measure=>simp [intV];omega
    case rel=>exact ⟨n + 1,by simp,by omega,⟨HPN.out _ (by rw [HFA.out];rfl) rfl⟩,⟨pw_below_drewN HB5A.out _⟩⟩
   | true =>
    rw [hfa] at hya;have HFA:=Sd.mk hfa;clear hfa;cases hfb:fr b n with
    | false =>
     rw [hfb] at hyb;have HFB:=Sd.mk hfb;clear hfb;go_quiet (fail);go_wp2_with fail;go_roundw
     case measure=>simp [intV];omega
     case rel=>exact ⟨n + 1,by simp,by omega,⟨HPN.out _ (by rw [HFA.out,HFB.out];rfl) rfl⟩,⟨pw_below_drewN HB5A.out _⟩⟩
    | true =>
     rw [hfb] at hyb;have HFB:=Sd.mk hfb;clear hfb hqa hqb;have HD:Sd (Below wA.heap.size wA wA.drew):=⟨below_drew (Below.refl _ _)⟩;have HALL:Sd (∀ w',Below wA.heap.size wA w' → (w'.cell? ⟨g6,1,none⟩=some (.map (some mb)))∧((Instr.lookup 94 (.map (some mb)) (.int .i64 a) false).run Try.prog w' = .ok (.slice (some ada) N ca) w')∧((Instr.lookup 94 (.map (some mb)) (.int .i64 b) false).run Try.prog w' = .ok (.slice (some adb) N cb) w')∧(w'.cell? (ada.add n)=some (.bool true))∧(w'.cell? (adb.add n)=some (.bool true))∧(w'.cell? ⟨g7,0,none⟩=some (.slice A0 n0 c0))∧(w'.cell? ⟨g7,1,none⟩=some (.slice A1 n1 c1))∧(w'.cell? ⟨g7,2,none⟩=some (.slice A2 n2 c2))∧(w'.cell? ⟨g7,3,none⟩=some (.slice A3 n3 c3))∧(w'.cell? ⟨g7,4,none⟩=some (.slice A4 n4 c4))∧(w'.cell? ⟨g9,0,none⟩=some (.slice D0 s0 d0))∧(w'.cell? ⟨g9,1,none⟩=some (.slice D1 s1 d1))):=⟨fun w' hw=>⟨(blk_cell (blk_below B6A.out hw) 1).trans rfl,HLA.out _ (below_step HWA.out hw),HLB.out _ (below_step HWA.out hw),(hw.cell (World.block_lt_of_cell? _ _ hya)).trans hya,(hw.cell (World.block_lt_of_cell? _ _ hyb)).trans hyb,(blk_cell (blk_below B7A.out hw) 0).trans rfl,(blk_cell (blk_below B7A.out hw) 1).trans rfl,(blk_cell (blk_below B7A.out hw) 2).trans rfl,(blk_cell (blk_below B7A.out hw) 3).trans rfl,(blk_cell (blk_below B7A.out hw) 4).trans rfl,(blk_cell (blk_below BKs.out hw) 0).trans rfl,(blk_cell (blk_below BKs.out hw) 1).trans rfl⟩⟩;obtain ⟨fc0,fc1,fc2,fc3,fc4,fc5,fc6,fc7,fc8,fc9,fc10,fc11⟩:=HALL.out _ HD.out;have HAPc:Sd (Calls Try.prog 82 #[.agg #[.slice A0 n0 c0,.slice A1 n1 c1,.slice A2 n2 c2,.slice A3 n3 c3,.slice A4 n4 c4],.slice Ad nd cd,.agg #[.slice D0 s0 d0,.slice D1 s1 d1],.int .i64 a,.int .i64 b] wA.drew fun e w''=>∃ v0 v1:Value,e = .returned (.agg #[v0,v1])∧Kd.R Kd.bool 4 w'' wA.drew.heap.size (fun _=>True) v0 (ap n).1∧Kd.R (Kd.int .i64) 3 w'' wA.drew.heap.size (fun _=>True) v1 (ap n).2∧Below wA.drew.heap.size wA.drew w''):=⟨by
      obtain ⟨_,l0,C0⟩:=Kd.R_reads' (Kd.R_below HR0A.out HD.out)
      obtain ⟨_,l1,C1⟩:=Kd.R_reads' (Kd.R_below HR1A.out HD.out)
      have:=HAP.out n hlt HFA.out HFB.out wA.drew D0 d0 D1 d1 (below_step HWA.out HD.out) C0 (by rw [HS0.out];exact l0) C1 (by rw [HS1.out];exact l1)
      rw [HS0.out,HS1.out] at this
      exact this⟩
     have HWDc:Sd (∀ W E0 f0 E1 f1,Kd.R Kd.bool 4 W wA.drew.heap.size (fun _=>True) (.slice E0 (ap n).1.length f0) (ap n).1 → Kd.R (Kd.int .i64) 3 W wA.drew.heap.size (fun _=>True) (.slice E1 (ap n).2.length f1) (ap n).2 → Calls Try.prog 81 #[.agg #[.slice E0 (ap n).1.length f0,.slice E1 (ap n).2.length f1]] W fun e w''=>∃ v0 v1:Value,e = .returned (.agg #[v0,v1])∧Kd.R (Kd.slice 9 Kd.string) 22 w'' W.heap.size (fun _=>True) v0 (wd n).1∧Kd.R (Kd.slice 135 k135) 99 w'' W.heap.size (fun _=>True) v1 (wd n).2∧Below W.heap.size W w''):=⟨fun W E0 f0 E1 f1 h0 h1=>by
      obtain ⟨_,l0,C0⟩:=Kd.R_reads' h0
      obtain ⟨_,l1,C1⟩:=Kd.R_reads' h1
      exact HWD.out n hlt HFA.out HFB.out W E0 f0 E1 f1 C0 l0 C1 l1⟩
     have HHOc:Sd (∀ W B E0 f0 E1 f1,Below wA.heap.size wA W → Kd.R (Kd.slice 9 Kd.string) 22 W B (fun _=>True) (.slice E0 (wd n).1.length f0) (wd n).1 → Kd.R (Kd.slice 135 k135) 99 W B (fun _=>True) (.slice E1 (wd n).2.length f1) (wd n).2 → Calls Try.prog 22 #[.agg #[.slice A0 n0 c0,.slice A1 n1 c1,.slice A2 n2 c2,.slice A3 n3 c3,.slice A4 n4 c4],.agg #[.slice E0 (wd n).1.length f0,.slice E1 (wd n).2.length f1],.int .i64 cl] W fun e w''=>e = .returned (.bool (ho n))∧Below W.heap.size W w''):=⟨fun W B E0 f0 E1 f1 hW h0 h1=>by
      obtain ⟨_,l0,C0⟩:=Kd.R_reads' h0
      obtain ⟨_,l1,C1⟩:=Kd.R_reads' h1
      exact HHO.out n hlt HFA.out HFB.out W E0 f0 E1 f1 (below_step HWA.out hW) C0 l0 C1 l1⟩
     clear hya hyb hk6;refine start_ (n:=29) (S:=fun w'=>w'.cell? ⟨g6,1,none⟩=some (.map (some mb))∧(Instr.lookup 94 (.map (some mb)) (.int .i64 a) false).run Try.prog w' = .ok (.slice (some ada) N ca) w'∧(Instr.lookup 94 (.map (some mb)) (.int .i64 b) false).run Try.prog w' = .ok (.slice (some adb) N cb) w'∧w'.cell? (ada.add n)=some (.bool true)∧w'.cell? (adb.add n)=some (.bool true)∧w'.cell? ⟨g7,0,none⟩=some (.slice A0 n0 c0)∧w'.cell? ⟨g7,1,none⟩=some (.slice A1 n1 c1)∧w'.cell? ⟨g7,2,none⟩=some (.slice A2 n2 c2)∧w'.cell? ⟨g7,3,none⟩=some (.slice A3 n3 c3)∧w'.cell? ⟨g7,4,none⟩=some (.slice A4 n4 c4)∧w'.cell? ⟨g9,0,none⟩=some (.slice D0 s0 d0)∧w'.cell? ⟨g9,1,none⟩=some (.slice D1 s1 d1)) (ds:=[26]) (ab 29 0) (by kernel_rfl) rfl rfl ⟨fc0,fc1,fc2,fc3,fc4,fc5,fc6,fc7,fc8,fc9,fc10,fc11⟩ (fun hH=>?_);refine pure_ (i:=0) (N:=some 24) (v:=?_) (a':=?_) (ab 29 1) rfl rfl (by kernel_rfl) (fun _ _ _ h=>h) (Or.inl ⟨by rfl,?_⟩) ?_ ?_;rotate_left
     ·intro w';go_simp;with_reducible rfl
     rotate_left
     ·simp only [Act.put,q1_,q2_,q3_,i64_w,i32_w];rfl
     refine pure_ (i:=2) (N:=some 26) (v:=?_) (a':=?_) (ab 29 5) rfl rfl (by kernel_rfl) (fun _ _ _ h=>h) (Or.inl ⟨by rfl,?_⟩) ?_ ?_;rotate_left
     ·intro w';go_simp;with_reducible rfl
     rotate_left
     ·simp only [Act.put,q1_,q2_,q3_,i64_w,i32_w];rfl
     refine pure_ (i:=4) (N:=some 28) (v:=?_) (a':=?_) (ab 29 21) rfl rfl (by kernel_rfl) (fun _ _ _ h=>h) (Or.inl ⟨by rfl,?_⟩) ?_ ?_;rotate_left
     ·intro w';go_simp;with_reducible rfl
     rotate_left
     ·simp only [Act.put,q1_,q2_,q3_,i64_w,i32_w];rfl
     refine take_ (i:=1) (N:=some 25) (v:=?_) (a':=?_) (ab 29 23) rfl rfl (by kernel_rfl) (fun _ _ _ h=>h) (Or.inl ⟨by rfl,?_⟩) hH ?_ ?_;rotate_left
     ·rintro w' ⟨s0,s1,s2,s3,s4,s5,s6,s7,s8,s9,s10,s11⟩;go_simp;with_reducible rfl
     rotate_left
     ·simp only [Act.put,q1_,q2_,q3_,i64_w,i32_w];rfl
     refine take_ (i:=3) (N:=some 27) (v:=?_) (a':=?_) (ab 29 31) rfl rfl (by kernel_rfl) (fun _ _ _ h=>h) (Or.inl ⟨by rfl,?_⟩) hH ?_ ?_;rotate_left
     ·rintro w' ⟨s0,s1,s2,s3,s4,s5,s6,s7,s8,s9,s10,s11⟩;go_simp;with_reducible rfl
     rotate_left
     ·simp only [Act.put,q1_,q2_,q3_,i64_w,i32_w];rfl
     refine pure_ (i:=5) (N:=some 29) (v:=?_) (a':=?_) (ab 29 63) rfl rfl (by kernel_rfl) (fun _ _ _ h=>h) (Or.inl ⟨by rfl,?_⟩) ?_ ?_;rotate_left
     ·intro w';go_simp;with_reducible rfl
     rotate_left
     ·simp only [Act.put,q1_,q2_,q3_,i64_w,i32_w];rfl
     refine take_ (i:=6) (N:=some 30) (v:=?_) (a':=?_) (ab 29 127) rfl rfl (by kernel_rfl) (fun _ _ _ h=>h) (Or.inl ⟨by rfl,?_⟩) hH ?_ ?_;rotate_left
     ·rintro w' ⟨s0,s1,s2,s3,s4,s5,s6,s7,s8,s9,s10,s11⟩;go_simp;with_reducible rfl
     rotate_left
     ·simp only [Act.put,q1_,q2_,q3_,i64_w,i32_w];rfl
     refine pure_ (i:=7) (N:=some 31) (v:=?_) (a':=?_) (ab 29 255) rfl rfl (by kernel_rfl) (fun _ _ _ h=>h) (Or.inl ⟨by rfl,?_⟩) ?_ ?_;rotate_left
     ·intro w';go_simp;with_reducible rfl
     rotate_left
     ·simp only [Act.put,q1_,q2_,q3_,i64_w,i32_w];rfl
     refine pure_ (i:=8) (N:=some 32) (v:=?_) (a':=?_) (ab 29 511) rfl rfl (by kernel_rfl) (fun _ _ _ h=>h) (Or.inl ⟨by rfl,?_⟩) ?_ ?_;rotate_left
     ·intro w';go_simp;with_reducible rfl
     rotate_left
     ·simp only [Act.put,q1_,q2_,q3_,i64_w,i32_w];rfl
     refine pure_ (i:=10) (N:=some 34) (v:=?_) (a':=?_) (ab 29 1535) rfl rfl (by kernel_rfl) (fun _ _ _ h=>h) (Or.inl ⟨by rfl,?_⟩) ?_ ?_;rotate_left
     ·intro w';go_simp;with_reducible rfl
     rotate_left
     ·simp only [Act.put,q1_,q2_,q3_,i64_w,i32_w];rfl
     refine pure_ (i:=12) (N:=some 36) (v:=?_) (a':=?_) (ab 29 5631) rfl rfl (by kernel_rfl) (fun _ _ _ h=>h) (Or.inl ⟨by rfl,?_⟩) ?_ ?_;rotate_left
     ·intro w';go_simp;with_reducible rfl
     rotate_left
     ·simp only [Act.put,q1_,q2_,q3_,i64_w,i32_w];rfl
     refine take_ (i:=9) (N:=some 33) (v:=?_) (a':=?_) (ab 29 6143) rfl rfl (by kernel_rfl) (fun _ _ _ h=>h) (Or.inl ⟨by rfl,?_⟩) hH ?_ ?_;rotate_left
     ·rintro w' ⟨s0,s1,s2,s3,s4,s5,s6,s7,s8,s9,s10,s11⟩;go_simp;with_reducible rfl
     rotate_left
     ·simp only [Act.put,q1_,q2_,q3_,i64_w,i32_w];rfl
     refine take_ (i:=11) (N:=some 35) (v:=?_) (a':=?_) (ab 29 8191) rfl rfl (by kernel_rfl) (fun _ _ _ h=>h) (Or.inl ⟨by rfl,?_⟩) hH ?_ ?_;rotate_left
     ·rintro w' ⟨s0,s1,s2,s3,s4,s5,s6,s7,s8,s9,s10,s11⟩;go_simp;with_reducible rfl
     rotate_left
     ·simp only [Act.put,q1_,q2_,q3_,i64_w,i32_w];rfl
     refine pure_ (i:=13) (N:=some 37) (v:=?_) (a':=?_) (ab 29 16383) rfl rfl (by kernel_rfl) (fun _ _ _ h=>h) (Or.inl ⟨by rfl,?_⟩) ?_ ?_;rotate_left
     ·intro w';go_simp;with_reducible rfl
     rotate_left
     ·simp only [Act.put,q1_,q2_,q3_,i64_w,i32_w];rfl
     refine take_ (i:=14) (N:=some 38) (v:=?_) (a':=?_) (ab 29 32767) rfl rfl (by kernel_rfl) (fun _ _ _ h=>h) (Or.inl ⟨by rfl,?_⟩) hH ?_ ?_;rotate_left
     ·rintro w' ⟨s0,s1,s2,s3,s4,s5,s6,s7,s8,s9,s10,s11⟩;go_simp;with_reducible rfl
     rotate_left
     ·simp only [Act.put,q1_,q2_,q3_,i64_w,i32_w];rfl
     refine pure_ (i:=15) (N:=some 39) (v:=?_) (a':=?_) (ab 29 65535) rfl rfl (by kernel_rfl) (fun _ _ _ h=>h) (Or.inl ⟨by rfl,?_⟩) ?_ ?_;rotate_left
     ·intro w';go_simp;with_reducible rfl
     rotate_left
     ·simp only [Act.put,q1_,q2_,q3_,i64_w,i32_w];rfl
     refine pure_ (i:=16) (N:=some 40) (v:=?_) (a':=?_) (ab 29 131071) rfl rfl (by kernel_rfl) (fun _ _ _ h=>h) (Or.inl ⟨by rfl,?_⟩) ?_ ?_;rotate_left
     ·intro w';go_simp;with_reducible rfl
     rotate_left
     ·simp only [Act.put,q1_,q2_,q3_,i64_w,i32_w];rfl
     refine pure_ (i:=19) (N:=some 43) (v:=?_) (a':=?_) (ab 29 655359) rfl rfl (by kernel_rfl) (fun _ _ _ h=>h) (Or.inl ⟨by rfl,?_⟩) ?_ ?_;rotate_left
     ·intro w';go_simp;with_reducible rfl
     rotate_left
     ·simp only [Act.put,q1_,q2_,q3_,i64_w,i32_w];rfl
     refine pure_ (i:=21) (N:=some 45) (v:=?_) (a':=?_) (ab 29 2752511) rfl rfl (by kernel_rfl) (fun _ _ _ h=>h) (Or.inl ⟨by rfl,?_⟩) ?_ ?_;rotate_left
     ·intro w';go_simp;with_reducible rfl
     rotate_left
     ·simp only [Act.put,q1_,q2_,q3_,i64_w,i32_w];rfl
     refine pure_ (i:=22) (N:=some 46) (v:=?_) (a':=?_) (ab 29 6946815) rfl rfl (by kernel_rfl) (fun _ _ _ h=>h) (Or.inl ⟨by rfl,?_⟩) ?_ ?_;rotate_left
     ·intro w';go_simp;with_reducible rfl
     rotate_left
     ·simp only [Act.put,q1_,q2_,q3_,i64_w,i32_w];rfl
     refine pure_ (i:=25) (N:=some 49) (v:=?_) (a':=?_) (ab 29 40501247) rfl rfl (by kernel_rfl) (fun _ _ _ h=>h) (Or.inl ⟨by rfl,?_⟩) ?_ ?_;rotate_left
     ·intro w';go_simp;with_reducible rfl
     rotate_left
     ·simp only [Act.put,q1_,q2_,q3_,i64_w,i32_w];rfl
     refine take_ (i:=17) (N:=some 41) (v:=?_) (a':=?_) (ab 29 40632319) rfl rfl (by kernel_rfl) (fun _ _ _ h=>h) (Or.inl ⟨by rfl,?_⟩) hH ?_ ?_;rotate_left
     ·rintro w' ⟨s0,s1,s2,s3,s4,s5,s6,s7,s8,s9,s10,s11⟩;go_simp;with_reducible rfl
     rotate_left
     ·simp only [Act.put,q1_,q2_,q3_,i64_w,i32_w];rfl
     refine take_ (i:=18) (N:=some 42) (v:=?_) (a':=?_) (ab 29 40894463) rfl rfl (by kernel_rfl) (fun _ _ _ h=>h) (Or.inl ⟨by rfl,?_⟩) hH ?_ ?_;rotate_left
     ·rintro w' ⟨s0,s1,s2,s3,s4,s5,s6,s7,s8,s9,s10,s11⟩;go_simp;with_reducible rfl
     rotate_left
     ·simp only [Act.put,q1_,q2_,q3_,i64_w,i32_w];rfl
     refine take_ (i:=20) (N:=some 44) (v:=?_) (a':=?_) (ab 29 41943039) rfl rfl (by kernel_rfl) (fun _ _ _ h=>h) (Or.inl ⟨by rfl,?_⟩) hH ?_ ?_;rotate_left
     ·rintro w' ⟨s0,s1,s2,s3,s4,s5,s6,s7,s8,s9,s10,s11⟩;go_simp;with_reducible rfl
     rotate_left
     ·simp only [Act.put,q1_,q2_,q3_,i64_w,i32_w];rfl
     refine one_ (i:=23) (N:=some 47) (ab 29 50331647) rfl rfl (by kernel_rfl) (by decide) (fun K hK=>?_);refine goes_ Try.func82 (by kernel_rfl) rfl #[.agg #[.slice A0 n0 c0,.slice A1 n1 c1,.slice A2 n2 c2,.slice A3 n3 c3,.slice A4 n4 c4],.slice Ad nd cd,.agg #[.slice D0 s0 d0,.slice D1 s1 d1],.int .i64 a,.int .i64 b] (by rfl) rfl rfl (by simp only [List.map_toArray,List.map_cons,List.map_nil];rfl) ?_;(with_reducible refine (HAPc.out).mono ?_);rintro e wB ⟨x0,x1,rfl,hu0,hu1,hbB⟩;refine ⟨_,rfl,?_⟩;obtain ⟨E0,f0,rfl,_,_⟩:=Kd.R_reads hu0;obtain ⟨E1,f1,rfl,_,_⟩:=Kd.R_reads hu1;have HU0:=Sd.mk hu0;have HU1:=Sd.mk hu1;have HBB:=Sd.mk (below_step HD.out hbB);have HF1:=Sd.mk (HALL.out _ HBB.out);clear hu0 hu1 hbB;refine hK.out _ _ ⟨(HF1.out).1,(HF1.out).2.1,(HF1.out).2.2.1,(HF1.out).2.2.2.1,(HF1.out).2.2.2.2.1,(HF1.out).2.2.2.2.2.1,(HF1.out).2.2.2.2.2.2.1,(HF1.out).2.2.2.2.2.2.2.1,(HF1.out).2.2.2.2.2.2.2.2.1,(HF1.out).2.2.2.2.2.2.2.2.2.1,(HF1.out).2.2.2.2.2.2.2.2.2.2.1,(HF1.out).2.2.2.2.2.2.2.2.2.2.2⟩ (fun hH=>?_);clear hK K;refine norm_ (a':=?_) ?_ ?_;rotate_left
     ·show Act.put _ (some 47) _=_;simp only [Act.put,q1_,q2_,q3_,i64_w,i32_w];rfl
     refine one_ (i:=24) (N:=some 48) (ab 29 67108863) rfl rfl (by kernel_rfl) (by decide) (fun K hK=>?_);refine goes_ Try.func81 (by kernel_rfl) rfl #[.agg #[.slice E0 (ap n).1.length f0,.slice E1 (ap n).2.length f1]] (by rfl) rfl rfl (by simp only [List.map_toArray,List.map_cons,List.map_nil];rfl) ?_;(with_reducible refine ((HWDc.out _ E0 f0 E1 f1 HU0.out HU1.out)).mono ?_);rintro e wC ⟨y0,y1,rfl,hu0,hu1,hbC⟩;refine ⟨_,rfl,?_⟩;obtain ⟨G0,k0,rfl,_,_⟩:=Kd.R_reads hu0;obtain ⟨G1,k1,rfl,_,_⟩:=Kd.R_reads hu1;have HX0:=Sd.mk hu0;have HX1:=Sd.mk hu1;have HBC:=Sd.mk (below_step HBB.out hbC);have HF2:=Sd.mk (HALL.out _ HBC.out);clear hu0 hu1 hbC;refine hK.out _ _ ⟨(HF2.out).1,(HF2.out).2.1,(HF2.out).2.2.1,(HF2.out).2.2.2.1,(HF2.out).2.2.2.2.1,(HF2.out).2.2.2.2.2.1,(HF2.out).2.2.2.2.2.2.1,(HF2.out).2.2.2.2.2.2.2.1,(HF2.out).2.2.2.2.2.2.2.2.1,(HF2.out).2.2.2.2.2.2.2.2.2.1,(HF2.out).2.2.2.2.2.2.2.2.2.2.1,(HF2.out).2.2.2.2.2.2.2.2.2.2.2⟩ (fun hH=>?_);clear hK K;refine norm_ (a':=?_) ?_ ?_;rotate_left
     ·show Act.put _ (some 48) _=_;simp only [Act.put,q1_,q2_,q3_,i64_w,i32_w];rfl
     refine last_ (i:=26) (N:=some 50) (ab 29 134217727) rfl rfl (by kernel_rfl) (by decide) (fun K hK=>?_);refine goes_ Try.func22 (by kernel_rfl) rfl #[.agg #[.slice A0 n0 c0,.slice A1 n1 c1,.slice A2 n2 c2,.slice A3 n3 c3,.slice A4 n4 c4],.agg #[.slice G0 (wd n).1.length k0,.slice G1 (wd n).2.length k1],.int .i64 cl] (by rfl) rfl rfl (by simp only [List.map_toArray,List.map_cons,List.map_nil];rfl) ?_;(with_reducible refine ((HHOc.out _ _ G0 k0 G1 k1 HBC.out HX0.out HX1.out)).mono ?_);rintro e wE ⟨rfl,hbE⟩;refine ⟨_,rfl,?_⟩;have HBE:=Sd.mk (below_step HBC.out hbE);clear hbE;refine hK.out _ _ ?_;clear hK K;refine norm_ (a':=?_) ?_ ?_;rotate_left
     ·show Act.put _ (some 50) _=_;simp only [Act.put,q1_,q2_,q3_,i64_w,i32_w];rfl
     refine pure_ (i:=27) (N:=some 51) (v:=?_) (a':=?_) (ab 29 268435455) rfl rfl (by kernel_rfl) (fun _ _ _ h=>h) (Or.inl ⟨by rfl,?_⟩) ?_ ?_;rotate_left
     ·intro w';go_simp;with_reducible rfl
     rotate_left
     ·simp only [Act.put,q1_,q2_,q3_,i64_w,i32_w];rfl
     refine pure_ (i:=28) (N:=some 52) (v:=?_) (a':=?_) (ab 29 536870911) rfl rfl (by kernel_rfl) (fun _ _ _ h=>h) (Or.inl ⟨by rfl,?_⟩) ?_ ?_;rotate_left
     ·intro w';go_simp;with_reducible rfl
     rotate_left
     ·simp only [Act.put,q1_,q2_,q3_,i64_w,i32_w];rfl
     refine done_ (by kernel_rfl) ?_;clear hH fc0 fc1 fc2 fc3 fc4 fc5 fc6 fc7 fc8 fc9 fc10 fc11 HF1 HF2 HU0 HU1 HX0 HX1 HBB HBC HAPc HWDc HHOc;cases hho:ho n with
     | true =>
      have HH:=Sd.mk hho;clear hho;go_wp2_with fail;go_roundw
      case measure=>simp [intV];omega
      case rel=>exact ⟨n + 1,by simp,by omega,⟨HPN.out _ (by rw [HFA.out,HFB.out,HH.out];rfl) rfl⟩,⟨below_step HB5A.out HBE.out⟩⟩
     | false =>
      have HH:=Sd.mk hho;clear hho;have hff:FF=some n:=HFY.out n hlt HNO.out (by rw [HFA.out,HFB.out,HH.out];rfl);subst hff;have BKe:=Sd.mk (blk_below BKs.out HBE.out);have B12e:=Sd.mk (blk_below B12A.out HBE.out);obtain ⟨hb0,hb1⟩:=bc2 BKe.out;have hc0:=(blk_cell B12e.out 0);have hc1:=(blk_cell B12e.out 1);obtain ⟨hf0,hf1⟩:=bf2 B12e.out;have hne:g9 ≠ g12:=HNE9;(have hne2:g12 ≠ g9:=fun e=>hne e.symm);go_wp2_with fail;refine bodyPost_ret (results_ct rfl _ _ g12 38 #[.slice D0 s0 d0,.slice D1 s1 d1] (0,0) _ rfl (by refine blk_put (cs:=#[.slice D0 s0 d0,.slice none 0 0]) ?_ 1 _ rfl;refine blk_put (cs:=#[.slice none 0 0,.slice none 0 0]) ?_ 0 _ rfl;exact B12e.out) Try.underlying38 rfl (by kernel_rfl)) rfl ?_;refine ⟨_,_,rfl,?_,?_,below_set (below_set (below_step HWA.out HBE.out) HG12.out) HG12.out⟩
      ·exact Kd.R_set (Kd.R_set (Kd.R_below HR0A.out HBE.out) B12e.out (by decide) 0 _) (blk_put (cs:=#[.slice none 0 0,.slice none 0 0]) B12e.out 0 _ rfl) (by decide) 1 _
      ·exact Kd.R_set (Kd.R_set (Kd.R_below HR1A.out HBE.out) B12e.out (by decide) 0 _) (blk_put (cs:=#[.slice none 0 0,.slice none 0 0]) B12e.out 0 _ rfl) (by decide) 1 _
  ·(have hlt':decide ((n:Int) < (N:Int))=false:=by simp;omega);(obtain rfl:n=N:=by omega);have hff:FF=none:=HFN.out HNO.out;subst hff;have B12e:=Sd.mk (blk_below BK12.out HB5r.out);have hc0:=(blk_cell B12e.out 0);have hc1:=(blk_cell B12e.out 1);obtain ⟨hf0,hf1⟩:=bf2 B12e.out;(have hbl:∀ w:World,(Instr.build 38 #[]).run Try.prog w = .ok (.agg #[.slice none 0 0,.slice none 0 0]) w:=fun _=>by kernel_rfl);go_wp2_with fail;refine bodyPost_ret (results_ct rfl _ _ g12 38 #[.slice none 0 0,.slice none 0 0] (0,0) _ rfl (by refine blk_put (cs:=#[.slice none 0 0,.slice none 0 0]) ?_ 1 _ rfl;refine blk_put (cs:=#[.slice none 0 0,.slice none 0 0]) ?_ 0 _ rfl;exact B12e.out) Try.underlying38 rfl (by kernel_rfl)) rfl ?_;exact ⟨_,_,rfl,Kd.R_nil _ _ _ _ _,Kd.R_nil _ _ _ _ _,below_set (below_set HBr.out HG12.out) HG12.out⟩
end Go.Proofs.Ytjbjbeihkoeciaa.X

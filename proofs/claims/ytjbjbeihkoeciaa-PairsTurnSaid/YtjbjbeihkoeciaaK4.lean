/- Joined texts of this session, without what nothing needs: Xhucksterref16May, Xhucksterlaw16Light, RuP, RuQ, Xevalright, Xevalset, XcmpisNaNstring, XcmpLessstring, XslicesisNaNstring, XslicesBinarySearchstring, Xevalin, EvP, EvIn, EvCount, EvStrs, IdxStrs0, EvCells, IdxCells0, EvMay, EvStr, IdxStr2, EvCell, IdxCell1, IdxCell2. -/
import Derived.Deep.QuietTactic
import Derived.BigQuiet
import Derived.Test.YtjbjbeihkoeciaaK1
import Derived.Test.YtjbjbeihkoeciaaK2
import Derived.Test.YtjbjbeihkoeciaaK3
namespace Go.Proofs.Ytjbjbeihkoeciaa.X
open Go.RowKit Go.Proofs.YtjbjbeihkoeciaaW.PrintWords Go.Proofs.YtjbjbeihkoeciaaW.PrintLast Go.Proofs.YtjbjbeihkoeciaaW.PrintMore
attribute [local go_sem] max2_int min2_int max_two min_two max_three min_three max_four min_four
set_option linter.unusedVariables false
set_option linter.unusedSimpArgs false
mutual
def hucksterref16_May.j0:Nat → Bool → List ByteArray → List ByteArray → List ByteArray → List (S70) → List (S66) → Option (Bool)
 | 0,_,_,_,_,_,_=>none
 | k + 1,x44,x162000,x162001,x162002,x162003,x162004=>if x44=true then (some false) else (hucksterref16_May.l0 k 0 x162000 x162001 x162002 x162003 x162004)
def hucksterref16_May.l0:Nat → Int → List ByteArray → List ByteArray → List ByteArray → List (S70) → List (S66) → Option (Bool)
 | 0,_,_,_,_,_,_=>none
 | k + 1,x3,x162000,x162001,x162002,x162003,x162004=>if x3 < (x162003.length:Int) then (if 0 ≤ x3 then ((hucksterref16_Clause.f k x162000 x162001 x162002 x162003 x162004 ((rd_T70 x162003 x3).f0) ((rd_T70 x162003 x3).f1) ((rd_T70 x162003 x3).f2) ((rd_T70 x162003 x3).f3) ((rd_T70 x162003 x3).f4)).bind fun t168=>(if t168=true then (hucksterref16_May.l0 k (wrap64 (x3 + 1)) x162000 x162001 x162002 x162003 x162004) else (some false))) else (none)) else (hucksterref16_May.l1 k 0 x162000 x162001 x162002 x162003 x162004)
def hucksterref16_May.l1:Nat → Int → List ByteArray → List ByteArray → List ByteArray → List (S70) → List (S66) → Option (Bool)
 | 0,_,_,_,_,_,_=>none
 | k + 1,x4,x162000,x162001,x162002,x162003,x162004=>if x4 < (x162004.length:Int) then (if 0 ≤ x4 then ((hucksterref16_Oper.f k x162000 x162001 x162002 x162003 x162004 ((rd_T66 x162004 x4).f0) ((rd_T66 x162004 x4).f1)).bind fun t170=>(if t170=true then (hucksterref16_May.l1 k (wrap64 (x4 + 1)) x162000 x162001 x162002 x162003 x162004) else (some false))) else (none)) else (some true)
end
def hucksterref16_May.f (k:Nat) (l0_0:List ByteArray) (l0_1:List ByteArray) (l0_2:List ByteArray) (l0_3:List (S70)) (l0_4:List (S66)):Option (Bool):=if (l0_0.length:Int) > 6 then (hucksterref16_May.j0 k true l0_0 l0_1 l0_2 l0_3 l0_4) else (if (l0_1.length:Int) > 4 then (hucksterref16_May.j0 k true l0_0 l0_1 l0_2 l0_3 l0_4) else (if (l0_2.length:Int) > 3 then (hucksterref16_May.j0 k true l0_0 l0_1 l0_2 l0_3 l0_4) else (if (l0_4.length:Int) > 16 then (hucksterref16_May.j0 k true l0_0 l0_1 l0_2 l0_3 l0_4) else (if (l0_3.length:Int) > 12 then (hucksterref16_May.j0 k true l0_0 l0_1 l0_2 l0_3 l0_4) else ((hucksterref16_All.f k l0_0 l0_1 l0_2 l0_3 l0_4).bind fun t162=>((hucksterref16_Unlike.f k t162).bind fun t165=>(if t165=true then ((hucksterref16_floors.f k l0_3).bind fun t166=>(hucksterref16_May.j0 k (!t166) l0_0 l0_1 l0_2 l0_3 l0_4)) else (hucksterref16_May.j0 k true l0_0 l0_1 l0_2 l0_3 l0_4))))))))
def hucksterref16_May.T6:Bool × List (List Nat × List Nat):=(true,[([],[]),([],[]),([1],[1]),([],[]),([2,3],[2,3]),([4],[4]),([0,5],[0,5]),([6],[6])])
def hucksterref16_May.B6:List Nat:=[0,0,2,0,14,30,63,127]
theorem hucksterref16_May.tab6:rtab .any (opsOf Try.f9 6)=hucksterref16_May.T6:=by kernel_rfl
theorem hucksterref16_May.bits6:waitsOk hucksterref16_May.T6.2 hucksterref16_May.B6=true:=by kernel_rfl
def hucksterref16_May.T11:Bool × List (List Nat × List Nat):=(true,[([],[]),([],[]),([1],[1]),([],[]),([2,3],[2,3]),([4],[4]),([0,5],[0,5]),([6],[6])])
def hucksterref16_May.B11:List Nat:=[0,0,2,0,14,30,63,127]
theorem hucksterref16_May.tab11:rtab .any (opsOf Try.f9 11)=hucksterref16_May.T11:=by kernel_rfl
theorem hucksterref16_May.bits11:waitsOk hucksterref16_May.T11.2 hucksterref16_May.B11=true:=by kernel_rfl
set_option maxHeartbeats 8000000 in
set_option maxRecDepth 100000 in
theorem hucksterref16_May.calls (k:Nat) (A0_0:Option Addr) (c0_0:Nat) (l0_0:List ByteArray) (A0_1:Option Addr) (c0_1:Nat) (l0_1:List ByteArray) (A0_2:Option Addr) (c0_2:Nat) (l0_2:List ByteArray) (A0_3:Option Addr) (c0_3:Nat) (l0_3:List (S70)) (A0_4:Option Addr) (c0_4:Nat) (l0_4:List (S66)) (r:Bool) (w:World) (hr0_0:Kd.C Kd.string w A0_0 l0_0.length l0_0) (hc0_0:l0_0.length ≤ c0_0) (hr0_1:Kd.C Kd.string w A0_1 l0_1.length l0_1) (hc0_1:l0_1.length ≤ c0_1) (hr0_2:Kd.C Kd.string w A0_2 l0_2.length l0_2) (hc0_2:l0_2.length ≤ c0_2) (hr0_3:Kd.C k70 w A0_3 l0_3.length l0_3) (hc0_3:l0_3.length ≤ c0_3) (hr0_4:Kd.C k66 w A0_4 l0_4.length l0_4) (hc0_4:l0_4.length ≤ c0_4) (h:hucksterref16_May.f k l0_0 l0_1 l0_2 l0_3 l0_4=some r) :
  Calls Try.prog 9 #[.agg #[.slice A0_0 l0_0.length c0_0,.slice A0_1 l0_1.length c0_1,.slice A0_2 l0_2.length c0_2,.slice A0_3 l0_3.length c0_3,.slice A0_4 l0_4.length c0_4]] w fun e w'=>e = .returned (.bool r)∧Below w.heap.size w w':=by
 have hu26:=Try.underlying26;have hu70:=Try.underlying70;have hu66:=Try.underlying66;have HR0_0:=Aside0.mk hr0_0;have HC0_0:=Aside0.mk hc0_0;clear hr0_0 hc0_0;have HR0_1:=Aside0.mk hr0_1;have HC0_1:=Aside0.mk hc0_1;clear hr0_1 hc0_1;have HR0_2:=Aside0.mk hr0_2;have HC0_2:=Aside0.mk hc0_2;clear hr0_2 hc0_2;have HR0_3:=Aside0.mk hr0_3;have HC0_3:=Aside0.mk hc0_3;clear hr0_3 hc0_3;have HR0_4:=Aside0.mk hr0_4;have HC0_4:=Aside0.mk hc0_4;clear hr0_4 hc0_4;have HB:=Aside0.mk (Below.refl w.heap.size w);have H:(if (l0_0.length:Int) > 6 then (hucksterref16_May.j0 k true l0_0 l0_1 l0_2 l0_3 l0_4) else (if (l0_1.length:Int) > 4 then (hucksterref16_May.j0 k true l0_0 l0_1 l0_2 l0_3 l0_4) else (if (l0_2.length:Int) > 3 then (hucksterref16_May.j0 k true l0_0 l0_1 l0_2 l0_3 l0_4) else (if (l0_4.length:Int) > 16 then (hucksterref16_May.j0 k true l0_0 l0_1 l0_2 l0_3 l0_4) else (if (l0_3.length:Int) > 12 then (hucksterref16_May.j0 k true l0_0 l0_1 l0_2 l0_3 l0_4) else ((hucksterref16_All.f k l0_0 l0_1 l0_2 l0_3 l0_4).bind fun t162=>((hucksterref16_Unlike.f k t162).bind fun t165=>(if t165=true then ((hucksterref16_floors.f k l0_3).bind fun t166=>(hucksterref16_May.j0 k (!t166) l0_0 l0_1 l0_2 l0_3 l0_4)) else (hucksterref16_May.j0 k true l0_0 l0_1 l0_2 l0_3 l0_4)))))))))=some r:=h;clear h;have HC2:=Aside0.mk H;clear H;go_enter Try.func9,Try.ntmps9;go_upto_region 1 with (first|((with_reducible refine gate_dst (N:=1) rfl ?_);(try (refine gate_guard (by rfl) ?_;dsimp only));refine uX 1 (cs:=#[.slice A0_0 l0_0.length c0_0,.slice A0_1 l0_1.length c0_1,.slice A0_2 l0_2.length c0_2,.slice A0_3 l0_3.length c0_3,.slice A0_4 l0_4.length c0_4]) (t:=26) fun gb161 hg w3 hbox hb=>?_;have BK161:=Aside0.mk hbox;have GW161:Aside0 (w.heap.size ≤ gb161):=uG hg;have GE161:Aside0 (w.heap.size ≤ gb161):=uG hg;replace HB:=uH hb;clear hb hbox hg));(try simp only [Act.put,q1_,q2_,q3_]);go_cut [44] (fun v44 wc=>∃ (kq:Nat) (x44_1:Bool),v44 = .bool x44_1∧Aside0 (hucksterref16_May.j0 kq x44_1 l0_0 l0_1 l0_2 l0_3 l0_4=some r)∧Aside0 (kq ≤ k)∧Aside0 (wc.heap[gb161]? = some (.cells #[(.slice A0_0 l0_0.length c0_0),(.slice A0_1 l0_1.length c0_1),(.slice A0_2 l0_2.length c0_2),(.slice A0_3 l0_3.length c0_3),(.slice A0_4 l0_4.length c0_4)] 26 (0,0)))∧Aside0 (Below w.heap.size w wc))
 case first =>
  have H:=HC2.out;clear HC2;by_cases c4:(l0_0.length:Int) > 6
  ·rw [if_pos c4] at H;have c4b0:=decide_eq_true c4;have c4b1:decide (6 < l0_0.length)=true:=decide_eq_true (by omega);clear c4;(first|rw [c4b0]|(simp only [i64_w,i32_w];rw [c4b0])|skip);have H':=Aside0.mk H;clear H;obtain ⟨hcz5_0,hcz5_1,hcz5_2,hcz5_3,hcz5_4,hfz5_0,hfz5_1,hfz5_2,hfz5_3,hfz5_4⟩:=bd5 BK161;go_wp2;go_meet
   case rel=>exact ⟨_,(true),tS,H',⟨tO⟩,kA BK161,uA⟩
  ·rw [if_neg c4] at H;have c4b0:decide (6 < (l0_0.length:Int))=false:=decide_eq_false c4;have c4b1:decide (6 < l0_0.length)=false:=decide_eq_false (by omega);clear c4;(first|rw [c4b0]|(simp only [i64_w,i32_w];rw [c4b0])|skip);by_cases c6:(l0_1.length:Int) > 4
   ·rw [if_pos c6] at H;have c6b0:=decide_eq_true c6;have c6b1:decide (4 < l0_1.length)=true:=decide_eq_true (by omega);clear c6;have H':=Aside0.mk H;clear H;obtain ⟨hcz7_0,hcz7_1,hcz7_2,hcz7_3,hcz7_4,hfz7_0,hfz7_1,hfz7_2,hfz7_3,hfz7_4⟩:=bd5 BK161;go_wp2;go_meet
    case rel=>exact ⟨_,(true),tS,H',⟨tO⟩,kA BK161,uA⟩
   ·rw [if_neg c6] at H;have c6b0:decide (4 < (l0_1.length:Int))=false:=decide_eq_false c6;have c6b1:decide (4 < l0_1.length)=false:=decide_eq_false (by omega);clear c6;by_cases c8:(l0_2.length:Int) > 3
    ·rw [if_pos c8] at H;have c8b0:=decide_eq_true c8;have c8b1:decide (3 < l0_2.length)=true:=decide_eq_true (by omega);clear c8;have H':=Aside0.mk H;clear H;obtain ⟨hcz9_0,hcz9_1,hcz9_2,hcz9_3,hcz9_4,hfz9_0,hfz9_1,hfz9_2,hfz9_3,hfz9_4⟩:=bd5 BK161;go_wp2;go_meet
     case rel=>exact ⟨_,(true),tS,H',⟨tO⟩,kA BK161,uA⟩
    ·rw [if_neg c8] at H;have c8b0:decide (3 < (l0_2.length:Int))=false:=decide_eq_false c8;have c8b1:decide (3 < l0_2.length)=false:=decide_eq_false (by omega);clear c8;by_cases c10:(l0_4.length:Int) > 16
     ·rw [if_pos c10] at H;have c10b0:=decide_eq_true c10;have c10b1:decide (16 < l0_4.length)=true:=decide_eq_true (by omega);clear c10;have H':=Aside0.mk H;clear H;obtain ⟨hcz11_0,hcz11_1,hcz11_2,hcz11_3,hcz11_4,hfz11_0,hfz11_1,hfz11_2,hfz11_3,hfz11_4⟩:=bd5 BK161;go_wp2;go_meet
      case rel=>exact ⟨_,(true),tS,H',⟨tO⟩,kA BK161,uA⟩
     ·rw [if_neg c10] at H;have c10b0:decide (16 < (l0_4.length:Int))=false:=decide_eq_false c10;have c10b1:decide (16 < l0_4.length)=false:=decide_eq_false (by omega);clear c10;by_cases c12:(l0_3.length:Int) > 12
      ·rw [if_pos c12] at H;have c12b0:=decide_eq_true c12;have c12b1:decide (12 < l0_3.length)=true:=decide_eq_true (by omega);clear c12;have H':=Aside0.mk H;clear H;obtain ⟨hcz13_0,hcz13_1,hcz13_2,hcz13_3,hcz13_4,hfz13_0,hfz13_1,hfz13_2,hfz13_3,hfz13_4⟩:=bd5 BK161;go_wp2;go_meet
       case rel=>exact ⟨_,(true),tS,H',⟨tO⟩,kA BK161,uA⟩
      ·rw [if_neg c12] at H;have c12b0:decide (12 < (l0_3.length:Int))=false:=decide_eq_false c12;have c12b1:decide (12 < l0_3.length)=false:=decide_eq_false (by omega);clear c12;replace H:=Option.bind_eq_some_iff.mp H;obtain ⟨t162,A140,H⟩:=H;replace H:((hucksterref16_Unlike.f k t162).bind fun t165=>(if t165=true then ((hucksterref16_floors.f k l0_3).bind fun t166=>(hucksterref16_May.j0 k (!t166) l0_0 l0_1 l0_2 l0_3 l0_4)) else (hucksterref16_May.j0 k true l0_0 l0_1 l0_2 l0_3 l0_4)))=some r:=H;have A14:=Aside0.mk A140;clear A140;replace H:=Option.bind_eq_some_iff.mp H;obtain ⟨t165,A150,H⟩:=H;replace H:(if t165=true then ((hucksterref16_floors.f k l0_3).bind fun t166=>(hucksterref16_May.j0 k (!t166) l0_0 l0_1 l0_2 l0_3 l0_4)) else (hucksterref16_May.j0 k true l0_0 l0_1 l0_2 l0_3 l0_4))=some r:=H;have A15:=Aside0.mk A150;clear A150;by_cases c16:t165=true
       ·subst c16;(have H1:((hucksterref16_floors.f k l0_3).bind fun t166=>(hucksterref16_May.j0 k (!t166) l0_0 l0_1 l0_2 l0_3 l0_4))=some r:=by rw [if_pos rfl] at H;exact H);clear H;have H:=H1;clear H1;replace H:=Option.bind_eq_some_iff.mp H;obtain ⟨t166,A170,H⟩:=H;replace H:(hucksterref16_May.j0 k (!t166) l0_0 l0_1 l0_2 l0_3 l0_4)=some r:=H;have A17:=Aside0.mk A170;clear A170;have H':=Aside0.mk H;clear H;obtain ⟨hcz18_0,hcz18_1,hcz18_2,hcz18_3,hcz18_4,hfz18_0,hfz18_1,hfz18_2,hfz18_3,hfz18_4⟩:=bd5 BK161;go_wp2_with (first|(go_at_call 24;(with_reducible refine (hucksterref16_All.calls k _ _ l0_0 _ _ l0_1 _ _ l0_2 _ _ l0_3 _ _ l0_4 t162 _ (sC HR0_0) HC0_0.out (sC HR0_1) HC0_1.out (sC HR0_2) HC0_2.out (sC HR0_3) HC0_3.out (sC HR0_4) HC0_4.out A14.out).mono ?_);rintro e w19 ⟨v163,rfl,ho0,hb⟩;have HO164:=Aside0.mk (Kd.R_lower ho0 (below_size uB));replace BK161:=uK BK161 hb;replace HB:=uH hb;(try clear hb);(try clear hb2);(try clear hk);(try clear hi);(try clear ho0);obtain ⟨Ao20,co20,eo20⟩:=Kd.R_slice HO164.out;subst eo20)|(go_at_call 35;(with_reducible refine (hucksterref16_Unlike.calls k _ _ t162 true _ ?side1 ?side2 A15.out).mono ?_);(case side1=>repeat (first|exact (Kd.R_reads' HO164.out).2.2|(with_reducible refine Kd.C_alloc ?_ _)|(with_reducible refine Kd.C_drewN ?_ _)|(with_reducible refine Kd.C_drew ?_)));(case side2=>exact (Kd.R_reads' HO164.out).2.1);rintro e w21 ⟨rfl,hb⟩;replace HO164:=Aside0.mk (Kd.R_below (kR HO164) hb);replace BK161:=uK BK161 hb;replace HB:=uH hb;(try clear hb);(try clear hb2);(try clear hk);(try clear hi);obtain ⟨hcz22_0,hcz22_1,hcz22_2,hcz22_3,hcz22_4,hfz22_0,hfz22_1,hfz22_2,hfz22_3,hfz22_4⟩:=bd5 BK161)|(go_at_call 36;(with_reducible refine (hucksterref16_floors.calls k _ _ l0_3 t166 _ (sC HR0_3) HC0_3.out A17.out).mono ?_);rintro e w' ⟨rfl,⟨nd,rfl⟩⟩));go_meet
        case rel=>exact ⟨_,(!t166),tS,H',⟨tO⟩,kA BK161,uA⟩
       ·replace c16:=Bool.eq_false_iff.mpr c16;subst c16;(have H1:(hucksterref16_May.j0 k true l0_0 l0_1 l0_2 l0_3 l0_4)=some r:=by rw [if_neg (show ¬ (false=true) by decide)] at H;exact H);clear H;have H:=H1;clear H1;have H':=Aside0.mk H;clear H;obtain ⟨hcz23_0,hcz23_1,hcz23_2,hcz23_3,hcz23_4,hfz23_0,hfz23_1,hfz23_2,hfz23_3,hfz23_4⟩:=bd5 BK161;go_wp2_with (first|(go_at_call 24;(with_reducible refine (hucksterref16_All.calls k _ _ l0_0 _ _ l0_1 _ _ l0_2 _ _ l0_3 _ _ l0_4 t162 _ (sC HR0_0) HC0_0.out (sC HR0_1) HC0_1.out (sC HR0_2) HC0_2.out (sC HR0_3) HC0_3.out (sC HR0_4) HC0_4.out A14.out).mono ?_);rintro e w24 ⟨v163,rfl,ho0,hb⟩;have HO164:=Aside0.mk (Kd.R_lower ho0 (below_size uB));replace BK161:=uK BK161 hb;replace HB:=uH hb;(try clear hb);(try clear hb2);(try clear hk);(try clear hi);(try clear ho0);obtain ⟨Ao25,co25,eo25⟩:=Kd.R_slice HO164.out;subst eo25)|(go_at_call 35;(with_reducible refine (hucksterref16_Unlike.calls k _ _ t162 false _ ?side1 ?side2 A15.out).mono ?_);(case side1=>repeat (first|exact (Kd.R_reads' HO164.out).2.2|(with_reducible refine Kd.C_alloc ?_ _)|(with_reducible refine Kd.C_drewN ?_ _)|(with_reducible refine Kd.C_drew ?_)));(case side2=>exact (Kd.R_reads' HO164.out).2.1);rintro e w26 ⟨rfl,hb⟩;replace HO164:=Aside0.mk (Kd.R_below (kR HO164) hb);replace BK161:=uK BK161 hb;replace HB:=uH hb;(try clear hb);(try clear hb2);(try clear hk);(try clear hi)));go_meet
        case rel=>exact ⟨_,(true),tS,H',⟨tO⟩,kA BK161,uA⟩
 case rest =>
  clear HC2;(try clear c1);(try clear p2);(try clear c4);(try clear c4b0);(try clear c4b1);(try clear c6);(try clear c6b0);(try clear c6b1);(try clear c8);(try clear c8b0);(try clear c8b1);(try clear c9);(try clear c10);(try clear c10b0);(try clear c10b1);(try clear c12);(try clear c12b0);(try clear c12b1);(try clear c16);(try clear hcz11_0 hcz11_1 hcz11_2 hcz11_3 hcz11_4 hfz11_0 hfz11_1 hfz11_2 hfz11_3 hfz11_4);(try clear hcz13_0 hcz13_1 hcz13_2 hcz13_3 hcz13_4 hfz13_0 hfz13_1 hfz13_2 hfz13_3 hfz13_4);(try clear hcz18_0 hcz18_1 hcz18_2 hcz18_3 hcz18_4 hfz18_0 hfz18_1 hfz18_2 hfz18_3 hfz18_4);(try clear hcz22_0 hcz22_1 hcz22_2 hcz22_3 hcz22_4 hfz22_0 hfz22_1 hfz22_2 hfz22_3 hfz22_4);(try clear hcz23_0 hcz23_1 hcz23_2 hcz23_3 hcz23_4 hfz23_0 hfz23_1 hfz23_2 hfz23_3 hfz23_4);(try clear hcz5_0 hcz5_1 hcz5_2 hcz5_3 hcz5_4 hfz5_0 hfz5_1 hfz5_2 hfz5_3 hfz5_4);(try clear hcz7_0 hcz7_1 hcz7_2 hcz7_3 hcz7_4 hfz7_0 hfz7_1 hfz7_2 hfz7_3 hfz7_4);(try clear hcz9_0 hcz9_1 hcz9_2 hcz9_3 hcz9_4 hfz9_0 hfz9_1 hfz9_2 hfz9_3 hfz9_4);obtain ⟨kq,x44_1,rfl,HA,HJ1,BK161,HB⟩:=hcut;cases kq with
  | zero=>exact absurd HA.out (by simp [hucksterref16_May.j0])
  | succ kj1 =>
   have H:=HA.out;clear HA;simp only [hucksterref16_May.j0] at H;by_cases c27:x44_1=true
   ·subst c27;(have H1:(some false)=some r:=by rw [if_pos rfl] at H;exact H);clear H;have H:=H1;clear H1;obtain rfl:=Option.some.inj H;go_wp2;go_ret;exact ⟨tW,uB⟩
   ·replace c27:=Bool.eq_false_iff.mpr c27;subst c27;(have H1:(hucksterref16_May.l0 kj1 0 l0_0 l0_1 l0_2 l0_3 l0_4)=some r:=by rw [if_neg (show ¬ (false=true) by decide)] at H;exact H);clear H;have H:=H1;clear H1;have H':=Aside0.mk H;clear H;go_wp2;go_loopg [3] kj1 (fun kq v3 w'=>∃ (x3_2:Int),v3 = .int .i64 x3_2∧Aside0 (hucksterref16_May.l0 kq x3_2 l0_0 l0_1 l0_2 l0_3 l0_4=some r)∧Aside0 (kq ≤ kj1)∧Aside0 (w'.heap[gb161]? = some (.cells #[(.slice A0_0 l0_0.length c0_0),(.slice A0_1 l0_1.length c0_1),(.slice A0_2 l0_2.length c0_2),(.slice A0_3 l0_3.length c0_3),(.slice A0_4 l0_4.length c0_4)] 26 (0,0)))∧Aside0 (Below w.heap.size w w'))
    case atStart=>exact ⟨(0),tS,H',⟨Nat.le_refl _⟩,kA BK161,uA⟩
    case round =>
     clear H';(try clear c1);(try clear c2);(try clear p2);(try clear c4);(try clear c4b0);(try clear c4b1);(try clear c6);(try clear c6b0);(try clear c6b1);(try clear c8);(try clear c8b0);(try clear c8b1);(try clear c9);(try clear c10);(try clear c10b0);(try clear c10b1);(try clear c12);(try clear c12b0);(try clear c12b1);(try clear c16);(try clear c27);(try clear hcz11_0 hcz11_1 hcz11_2 hcz11_3 hcz11_4 hfz11_0 hfz11_1 hfz11_2 hfz11_3 hfz11_4);(try clear hcz13_0 hcz13_1 hcz13_2 hcz13_3 hcz13_4 hfz13_0 hfz13_1 hfz13_2 hfz13_3 hfz13_4);(try clear hcz18_0 hcz18_1 hcz18_2 hcz18_3 hcz18_4 hfz18_0 hfz18_1 hfz18_2 hfz18_3 hfz18_4);(try clear hcz22_0 hcz22_1 hcz22_2 hcz22_3 hcz22_4 hfz22_0 hfz22_1 hfz22_2 hfz22_3 hfz22_4);(try clear hcz23_0 hcz23_1 hcz23_2 hcz23_3 hcz23_4 hfz23_0 hfz23_1 hfz23_2 hfz23_3 hfz23_4);(try clear hcz5_0 hcz5_1 hcz5_2 hcz5_3 hcz5_4 hfz5_0 hfz5_1 hfz5_2 hfz5_3 hfz5_4);(try clear hcz7_0 hcz7_1 hcz7_2 hcz7_3 hcz7_4 hfz7_0 hfz7_1 hfz7_2 hfz7_3 hfz7_4);(try clear hcz9_0 hcz9_1 hcz9_2 hcz9_3 hcz9_4 hfz9_0 hfz9_1 hfz9_2 hfz9_3 hfz9_4);(try clear p2);obtain ⟨x3_2,rfl,HA,HK2,BK161,HB⟩:=hrel;cases gk with
     | zero=>exact absurd HA.out (by simp [hucksterref16_May.l0])
     | succ k2 =>
      have H:=HA.out;clear HA;simp only [hucksterref16_May.l0] at H;by_cases c28:x3_2 < (l0_3.length:Int)
      ·rw [if_pos c28] at H;have c28b0:=decide_eq_true c28;clear c28;by_cases c29:0 ≤ x3_2
       ·rw [if_pos c29] at H;have c29b0:=decide_eq_true c29;clear c29;replace H:=Option.bind_eq_some_iff.mp H;obtain ⟨t168,A300,H⟩:=H;replace H:(if t168=true then (hucksterref16_May.l0 k2 (wrap64 (x3_2 + 1)) l0_0 l0_1 l0_2 l0_3 l0_4) else (some false))=some r:=H;have A30:=Aside0.mk A300;clear A300;by_cases c31:t168=true
        ·subst c31;(have H1:(hucksterref16_May.l0 k2 (wrap64 (x3_2 + 1)) l0_0 l0_1 l0_2 l0_3 l0_4)=some r:=by rw [if_pos rfl] at H;exact H);clear H;have H:=H1;clear H1;have H':=Aside0.mk H;clear H;obtain ⟨hcz32_0,hcz32_1,hcz32_2,hcz32_3,hcz32_4,hfz32_0,hfz32_1,hfz32_2,hfz32_3,hfz32_4⟩:=bd5 BK161;(try go_wp2);replace BK161:=uE BK161;replace HB:=uI HB;have p167:0 ≤ (x3_2:Int):=tD;have q167:x3_2 < (l0_3.length:Int):=tD;obtain ⟨ad167,e167,hx167_0,hx167_1,hx167_2,hx167_3,hx167_4⟩:=at_T70 HR0_3.out x3_2 p167 q167;have hw167_4:=hx167_4;have hw167_3:=hx167_3;have hw167_2:=hx167_2;have hw167_1:=hx167_1;have hw167_0:=hx167_0;cases e167;replace hx167_0:=uC HB hx167_0;replace hx167_1:=uC HB hx167_1;replace hx167_2:=uC HB hx167_2;replace hx167_3:=uC HB hx167_3;replace hx167_4:=uC HB hx167_4;replace p167:=eq_true p167;replace q167:=eq_true q167;refine start_ (n:=8) (S:=fun w'=>w'.cell? ⟨gb161,0,none⟩=some (.slice A0_0 l0_0.length c0_0)∧w'.cell? ⟨gb161,1,none⟩=some (.slice A0_1 l0_1.length c0_1)∧w'.cell? ⟨gb161,2,none⟩=some (.slice A0_2 l0_2.length c0_2)∧w'.cell? ⟨gb161,3,none⟩=some (.slice (some ad167) l0_3.length c0_3)∧w'.cell? ⟨gb161,4,none⟩=some (.slice A0_4 l0_4.length c0_4)∧w'.cell? (ad167.add ((x3_2).toNat * 5))=some (.int .i64 ((rd_T70 l0_3 x3_2).f0))∧w'.cell? ⟨(ad167.add ((x3_2).toNat * 5)).block,(ad167.add ((x3_2).toNat * 5)).off + 1,none⟩=some (.bool ((rd_T70 l0_3 x3_2).f1))∧w'.cell? ⟨(ad167.add ((x3_2).toNat * 5)).block,(ad167.add ((x3_2).toNat * 5)).off + 2,none⟩=some (.int .i64 ((rd_T70 l0_3 x3_2).f2))∧w'.cell? ⟨(ad167.add ((x3_2).toNat * 5)).block,(ad167.add ((x3_2).toNat * 5)).off + 3,none⟩=some (.int .i64 ((rd_T70 l0_3 x3_2).f3))∧w'.cell? ⟨(ad167.add ((x3_2).toNat * 5)).block,(ad167.add ((x3_2).toNat * 5)).off + 4,none⟩=some (.int .i64 ((rd_T70 l0_3 x3_2).f4))) (ds:=[]) (ab 8 0) (by kernel_rfl) rfl rfl ⟨cB BK161 0,cB BK161 1,cB BK161 2,cB BK161 3,cB BK161 4,uV hw167_0,uV hw167_1,uV hw167_2,uV hw167_3,uV hw167_4⟩ (fun hHeld=>?_);refine with_tabW hucksterref16_May.tab6 hucksterref16_May.bits6 (fun HT_ HW_=>?_);generalize wr.drew=w33 at BK161 HB hx167_0 hx167_1 hx167_2 hx167_3 hx167_4 hHeld ⊢;refine pU 1 53 ?_;refine pU 3 55 ?_;refine tU 0 52 ?_;refine tU 2 54 ?_;refine pU 4 56 ?_;refine tU 5 57 ?_;refine oU (N:=some 58) 6 (fun K hK=>?_);refine gO Try.func37 #[.agg #[.slice A0_0 l0_0.length c0_0,.slice A0_1 l0_1.length c0_1,.slice A0_2 l0_2.length c0_2,.slice (some ad167) l0_3.length c0_3,.slice A0_4 l0_4.length c0_4],.agg #[.int .i64 ((rd_T70 l0_3 x3_2).f0),.bool ((rd_T70 l0_3 x3_2).f1),.int .i64 ((rd_T70 l0_3 x3_2).f2),.int .i64 ((rd_T70 l0_3 x3_2).f3),.int .i64 ((rd_T70 l0_3 x3_2).f4)]] ?_;(with_reducible refine (hucksterref16_Clause.calls k2 _ _ l0_0 _ _ l0_1 _ _ l0_2 _ _ l0_3 _ _ l0_4 ((rd_T70 l0_3 x3_2).f0) ((rd_T70 l0_3 x3_2).f1) ((rd_T70 l0_3 x3_2).f2) ((rd_T70 l0_3 x3_2).f3) ((rd_T70 l0_3 x3_2).f4) true _ (sC HR0_0) HC0_0.out (sC HR0_1) HC0_1.out (sC HR0_2) HC0_2.out (sC HR0_3) HC0_3.out (sC HR0_4) HC0_4.out A30.out).mono ?_);rintro e w34 ⟨rfl,hb⟩;refine ⟨_,rfl,?_⟩;replace BK161:=uK BK161 hb;replace HB:=uH hb;(try clear hb);(try clear hb2);(try clear hk);(try clear hi);refine hK.out _ _ ⟨cB BK161 0,cB BK161 1,cB BK161 2,cB BK161 3,cB BK161 4,uV hw167_0,uV hw167_1,uV hw167_2,uV hw167_3,uV hw167_4⟩ (fun hHeld=>?_);clear hK K;refine nU ?_;refine pU 7 59 ?_;refine dU ?_;(try go_wp2);go_roundg k2
         case measure=>have:=HJ1.out;have:=HK2.out;omega
         case rel=>exact ⟨(wrap64 (x3_2 + 1)),tS,H',⟨by have:=HJ1.out;have:=HK2.out;omega⟩,kA BK161,uA⟩
        ·replace c31:=Bool.eq_false_iff.mpr c31;subst c31;(have H1:(some false)=some r:=by rw [if_neg (show ¬ (false=true) by decide)] at H;exact H);clear H;have H:=H1;clear H1;obtain rfl:=Option.some.inj H;obtain ⟨hcz35_0,hcz35_1,hcz35_2,hcz35_3,hcz35_4,hfz35_0,hfz35_1,hfz35_2,hfz35_3,hfz35_4⟩:=bd5 BK161;(try go_wp2);replace BK161:=uE BK161;replace HB:=uI HB;have p167:0 ≤ (x3_2:Int):=tD;have q167:x3_2 < (l0_3.length:Int):=tD;obtain ⟨ad167,e167,hx167_0,hx167_1,hx167_2,hx167_3,hx167_4⟩:=at_T70 HR0_3.out x3_2 p167 q167;have hw167_4:=hx167_4;have hw167_3:=hx167_3;have hw167_2:=hx167_2;have hw167_1:=hx167_1;have hw167_0:=hx167_0;cases e167;replace hx167_0:=uC HB hx167_0;replace hx167_1:=uC HB hx167_1;replace hx167_2:=uC HB hx167_2;replace hx167_3:=uC HB hx167_3;replace hx167_4:=uC HB hx167_4;replace p167:=eq_true p167;replace q167:=eq_true q167;refine start_ (n:=8) (S:=fun w'=>w'.cell? ⟨gb161,0,none⟩=some (.slice A0_0 l0_0.length c0_0)∧w'.cell? ⟨gb161,1,none⟩=some (.slice A0_1 l0_1.length c0_1)∧w'.cell? ⟨gb161,2,none⟩=some (.slice A0_2 l0_2.length c0_2)∧w'.cell? ⟨gb161,3,none⟩=some (.slice (some ad167) l0_3.length c0_3)∧w'.cell? ⟨gb161,4,none⟩=some (.slice A0_4 l0_4.length c0_4)∧w'.cell? (ad167.add ((x3_2).toNat * 5))=some (.int .i64 ((rd_T70 l0_3 x3_2).f0))∧w'.cell? ⟨(ad167.add ((x3_2).toNat * 5)).block,(ad167.add ((x3_2).toNat * 5)).off + 1,none⟩=some (.bool ((rd_T70 l0_3 x3_2).f1))∧w'.cell? ⟨(ad167.add ((x3_2).toNat * 5)).block,(ad167.add ((x3_2).toNat * 5)).off + 2,none⟩=some (.int .i64 ((rd_T70 l0_3 x3_2).f2))∧w'.cell? ⟨(ad167.add ((x3_2).toNat * 5)).block,(ad167.add ((x3_2).toNat * 5)).off + 3,none⟩=some (.int .i64 ((rd_T70 l0_3 x3_2).f3))∧w'.cell? ⟨(ad167.add ((x3_2).toNat * 5)).block,(ad167.add ((x3_2).toNat * 5)).off + 4,none⟩=some (.int .i64 ((rd_T70 l0_3 x3_2).f4))) (ds:=[]) (ab 8 0) (by kernel_rfl) rfl rfl ⟨cB BK161 0,cB BK161 1,cB BK161 2,cB BK161 3,cB BK161 4,uV hw167_0,uV hw167_1,uV hw167_2,uV hw167_3,uV hw167_4⟩ (fun hHeld=>?_);refine with_tabW hucksterref16_May.tab6 hucksterref16_May.bits6 (fun HT_ HW_=>?_);generalize wr.drew=w36 at BK161 HB hx167_0 hx167_1 hx167_2 hx167_3 hx167_4 hHeld ⊢;refine pU 1 53 ?_;refine pU 3 55 ?_;refine tU 0 52 ?_;refine tU 2 54 ?_;refine pU 4 56 ?_;refine tU 5 57 ?_;refine oU (N:=some 58) 6 (fun K hK=>?_);refine gO Try.func37 #[.agg #[.slice A0_0 l0_0.length c0_0,.slice A0_1 l0_1.length c0_1,.slice A0_2 l0_2.length c0_2,.slice (some ad167) l0_3.length c0_3,.slice A0_4 l0_4.length c0_4],.agg #[.int .i64 ((rd_T70 l0_3 x3_2).f0),.bool ((rd_T70 l0_3 x3_2).f1),.int .i64 ((rd_T70 l0_3 x3_2).f2),.int .i64 ((rd_T70 l0_3 x3_2).f3),.int .i64 ((rd_T70 l0_3 x3_2).f4)]] ?_;(with_reducible refine (hucksterref16_Clause.calls k2 _ _ l0_0 _ _ l0_1 _ _ l0_2 _ _ l0_3 _ _ l0_4 ((rd_T70 l0_3 x3_2).f0) ((rd_T70 l0_3 x3_2).f1) ((rd_T70 l0_3 x3_2).f2) ((rd_T70 l0_3 x3_2).f3) ((rd_T70 l0_3 x3_2).f4) false _ (sC HR0_0) HC0_0.out (sC HR0_1) HC0_1.out (sC HR0_2) HC0_2.out (sC HR0_3) HC0_3.out (sC HR0_4) HC0_4.out A30.out).mono ?_);rintro e w37 ⟨rfl,hb⟩;refine ⟨_,rfl,?_⟩;replace BK161:=uK BK161 hb;replace HB:=uH hb;(try clear hb);(try clear hb2);(try clear hk);(try clear hi);refine hK.out _ _ ⟨cB BK161 0,cB BK161 1,cB BK161 2,cB BK161 3,cB BK161 4,uV hw167_0,uV hw167_1,uV hw167_2,uV hw167_3,uV hw167_4⟩ (fun hHeld=>?_);clear hK K;refine nU ?_;refine pU 7 59 ?_;refine dU ?_;(try go_wp2);go_ret;exact ⟨tW,uB⟩
       ·rw [if_neg c29] at H;exact absurd H (by simp)
      ·rw [if_neg c28] at H;have c28b0:decide (x3_2 < (l0_3.length:Int))=false:=decide_eq_false c28;clear c28;have H':=Aside0.mk H;clear H;obtain ⟨hcz38_0,hcz38_1,hcz38_2,hcz38_3,hcz38_4,hfz38_0,hfz38_1,hfz38_2,hfz38_3,hfz38_4⟩:=bd5 BK161;go_wp2;go_loopg [4] k2 (fun kq v4 w'=>∃ (x4_3:Int),v4 = .int .i64 x4_3∧Aside0 (hucksterref16_May.l1 kq x4_3 l0_0 l0_1 l0_2 l0_3 l0_4=some r)∧Aside0 (kq ≤ k2)∧Aside0 (w'.heap[gb161]? = some (.cells #[(.slice A0_0 l0_0.length c0_0),(.slice A0_1 l0_1.length c0_1),(.slice A0_2 l0_2.length c0_2),(.slice A0_3 l0_3.length c0_3),(.slice A0_4 l0_4.length c0_4)] 26 (0,0)))∧Aside0 (Below w.heap.size w w'))
       case atStart=>exact ⟨(0),tS,H',⟨Nat.le_refl _⟩,kA BK161,uA⟩
       case round =>
        clear H';(try clear c1);(try clear p1);(try clear q1);(try clear hx1);(try clear c2);(try clear p2);(try clear c3);(try clear c4);(try clear c4b0);(try clear c4b1);(try clear c6);(try clear c6b0);(try clear c6b1);(try clear p6);(try clear c8);(try clear c8b0);(try clear c8b1);(try clear c9);(try clear c10);(try clear c10b0);(try clear c10b1);(try clear c12);(try clear c12b0);(try clear c12b1);(try clear c16);(try clear p16);(try clear q16);(try clear hx16);(try clear c27);(try clear c28);(try clear c28b0);(try clear c29);(try clear c29b0);(try clear c31);(try clear c37);(try clear hcz11_0 hcz11_1 hcz11_2 hcz11_3 hcz11_4 hfz11_0 hfz11_1 hfz11_2 hfz11_3 hfz11_4);(try clear hcz13_0 hcz13_1 hcz13_2 hcz13_3 hcz13_4 hfz13_0 hfz13_1 hfz13_2 hfz13_3 hfz13_4);(try clear hcz18_0 hcz18_1 hcz18_2 hcz18_3 hcz18_4 hfz18_0 hfz18_1 hfz18_2 hfz18_3 hfz18_4);(try clear hcz22_0 hcz22_1 hcz22_2 hcz22_3 hcz22_4 hfz22_0 hfz22_1 hfz22_2 hfz22_3 hfz22_4);(try clear hcz23_0 hcz23_1 hcz23_2 hcz23_3 hcz23_4 hfz23_0 hfz23_1 hfz23_2 hfz23_3 hfz23_4);(try clear hcz32_0 hcz32_1 hcz32_2 hcz32_3 hcz32_4 hfz32_0 hfz32_1 hfz32_2 hfz32_3 hfz32_4);(try clear hcz35_0 hcz35_1 hcz35_2 hcz35_3 hcz35_4 hfz35_0 hfz35_1 hfz35_2 hfz35_3 hfz35_4);(try clear hcz38_0 hcz38_1 hcz38_2 hcz38_3 hcz38_4 hfz38_0 hfz38_1 hfz38_2 hfz38_3 hfz38_4);(try clear hcz5_0 hcz5_1 hcz5_2 hcz5_3 hcz5_4 hfz5_0 hfz5_1 hfz5_2 hfz5_3 hfz5_4);(try clear hcz7_0 hcz7_1 hcz7_2 hcz7_3 hcz7_4 hfz7_0 hfz7_1 hfz7_2 hfz7_3 hfz7_4);(try clear hcz9_0 hcz9_1 hcz9_2 hcz9_3 hcz9_4 hfz9_0 hfz9_1 hfz9_2 hfz9_3 hfz9_4);(try clear hx167_0);(try clear hx167_1);(try clear hx167_2);(try clear hx167_3);(try clear hx167_4);(try clear p167);(try clear p2);(try clear q167);obtain ⟨x4_3,rfl,HA,HK3,BK161,HB⟩:=hrel;cases gk with
        | zero=>exact absurd HA.out (by simp [hucksterref16_May.l1])
        | succ k3 =>
         have H:=HA.out;clear HA;simp only [hucksterref16_May.l1] at H;by_cases c39:x4_3 < (l0_4.length:Int)
         ·rw [if_pos c39] at H;have c39b0:=decide_eq_true c39;clear c39;by_cases c40:0 ≤ x4_3
          ·rw [if_pos c40] at H;have c40b0:=decide_eq_true c40;clear c40;replace H:=Option.bind_eq_some_iff.mp H;obtain ⟨t170,A410,H⟩:=H;replace H:(if t170=true then (hucksterref16_May.l1 k3 (wrap64 (x4_3 + 1)) l0_0 l0_1 l0_2 l0_3 l0_4) else (some false))=some r:=H;have A41:=Aside0.mk A410;clear A410;by_cases c42:t170=true
           ·subst c42;(have H1:(hucksterref16_May.l1 k3 (wrap64 (x4_3 + 1)) l0_0 l0_1 l0_2 l0_3 l0_4)=some r:=by rw [if_pos rfl] at H;exact H);clear H;have H:=H1;clear H1;have H':=Aside0.mk H;clear H;obtain ⟨hcz43_0,hcz43_1,hcz43_2,hcz43_3,hcz43_4,hfz43_0,hfz43_1,hfz43_2,hfz43_3,hfz43_4⟩:=bd5 BK161;(try go_wp2);replace BK161:=uE BK161;replace HB:=uI HB;have p169:0 ≤ (x4_3:Int):=tD;have q169:x4_3 < (l0_4.length:Int):=tD;obtain ⟨ad169,A169_1,c169_1,e169,hx169_0,hx169_1,hl169_1,hi169_1⟩:=at_T66 HR0_4.out x4_3 p169 q169;have hw169_1:=hx169_1;have hw169_0:=hx169_0;cases e169;replace hx169_0:=uC HB hx169_0;replace hx169_1:=uC HB hx169_1;have HR169_1:=Aside0.mk hi169_1;have HC169_1:=Aside0.mk hl169_1;clear hi169_1 hl169_1;replace p169:=eq_true p169;replace q169:=eq_true q169;refine start_ (n:=8) (S:=fun w'=>w'.cell? ⟨gb161,0,none⟩=some (.slice A0_0 l0_0.length c0_0)∧w'.cell? ⟨gb161,1,none⟩=some (.slice A0_1 l0_1.length c0_1)∧w'.cell? ⟨gb161,2,none⟩=some (.slice A0_2 l0_2.length c0_2)∧w'.cell? ⟨gb161,3,none⟩=some (.slice A0_3 l0_3.length c0_3)∧w'.cell? ⟨gb161,4,none⟩=some (.slice (some ad169) l0_4.length c0_4)∧w'.cell? (ad169.add ((x4_3).toNat * 2))=some (.string ((rd_T66 l0_4 x4_3).f0))∧w'.cell? ⟨(ad169.add ((x4_3).toNat * 2)).block,(ad169.add ((x4_3).toNat * 2)).off + 1,none⟩=some (.slice A169_1 ((rd_T66 l0_4 x4_3).f1).length c169_1)) (ds:=[]) (ab 8 0) (by kernel_rfl) rfl rfl ⟨cB BK161 0,cB BK161 1,cB BK161 2,cB BK161 3,cB BK161 4,uV hw169_0,uV hw169_1⟩ (fun hHeld=>?_);refine with_tabW hucksterref16_May.tab11 hucksterref16_May.bits11 (fun HT_ HW_=>?_);generalize wr.drew=w44 at BK161 HB HR169_1 hx169_0 hx169_1 hHeld ⊢;refine pU 1 68 ?_;refine pU 3 70 ?_;refine tU 0 67 ?_;refine tU 2 69 ?_;refine pU 4 71 ?_;refine tU 5 72 ?_;refine oU (N:=some 73) 6 (fun K hK=>?_);refine gO Try.func38 #[.agg #[.slice A0_0 l0_0.length c0_0,.slice A0_1 l0_1.length c0_1,.slice A0_2 l0_2.length c0_2,.slice A0_3 l0_3.length c0_3,.slice (some ad169) l0_4.length c0_4],.agg #[.string ((rd_T66 l0_4 x4_3).f0),.slice A169_1 ((rd_T66 l0_4 x4_3).f1).length c169_1]] ?_;(with_reducible refine (hucksterref16_Oper.calls k3 _ _ l0_0 _ _ l0_1 _ _ l0_2 _ _ l0_3 _ _ l0_4 ((rd_T66 l0_4 x4_3).f0) _ _ ((rd_T66 l0_4 x4_3).f1) true _ (sC HR0_0) HC0_0.out (sC HR0_1) HC0_1.out (sC HR0_2) HC0_2.out (sC HR0_3) HC0_3.out (sC HR0_4) HC0_4.out (sC HR169_1) HC169_1.out A41.out).mono ?_);rintro e w45 ⟨rfl,hb⟩;refine ⟨_,rfl,?_⟩;replace BK161:=uK BK161 hb;replace HB:=uH hb;(try clear hb);(try clear hb2);(try clear hk);(try clear hi);refine hK.out _ _ ⟨cB BK161 0,cB BK161 1,cB BK161 2,cB BK161 3,cB BK161 4,uV hw169_0,uV hw169_1⟩ (fun hHeld=>?_);clear hK K;refine nU ?_;refine pU 7 74 ?_;refine dU ?_;(try go_wp2);go_roundg k3
            case measure=>have:=HJ1.out;have:=HK2.out;have:=HK3.out;omega
            case rel=>exact ⟨(wrap64 (x4_3 + 1)),tS,H',⟨by have:=HJ1.out;have:=HK2.out;have:=HK3.out;omega⟩,kA BK161,uA⟩
           ·replace c42:=Bool.eq_false_iff.mpr c42;subst c42;(have H1:(some false)=some r:=by rw [if_neg (show ¬ (false=true) by decide)] at H;exact H);clear H;have H:=H1;clear H1;obtain rfl:=Option.some.inj H;obtain ⟨hcz46_0,hcz46_1,hcz46_2,hcz46_3,hcz46_4,hfz46_0,hfz46_1,hfz46_2,hfz46_3,hfz46_4⟩:=bd5 BK161;(try go_wp2);replace BK161:=uE BK161;replace HB:=uI HB;have p169:0 ≤ (x4_3:Int):=tD;have q169:x4_3 < (l0_4.length:Int):=tD;obtain ⟨ad169,A169_1,c169_1,e169,hx169_0,hx169_1,hl169_1,hi169_1⟩:=at_T66 HR0_4.out x4_3 p169 q169;have hw169_1:=hx169_1;have hw169_0:=hx169_0;cases e169;replace hx169_0:=uC HB hx169_0;replace hx169_1:=uC HB hx169_1;have HR169_1:=Aside0.mk hi169_1;have HC169_1:=Aside0.mk hl169_1;clear hi169_1 hl169_1;replace p169:=eq_true p169;replace q169:=eq_true q169;refine start_ (n:=8) (S:=fun w'=>w'.cell? ⟨gb161,0,none⟩=some (.slice A0_0 l0_0.length c0_0)∧w'.cell? ⟨gb161,1,none⟩=some (.slice A0_1 l0_1.length c0_1)∧w'.cell? ⟨gb161,2,none⟩=some (.slice A0_2 l0_2.length c0_2)∧w'.cell? ⟨gb161,3,none⟩=some (.slice A0_3 l0_3.length c0_3)∧w'.cell? ⟨gb161,4,none⟩=some (.slice (some ad169) l0_4.length c0_4)∧w'.cell? (ad169.add ((x4_3).toNat * 2))=some (.string ((rd_T66 l0_4 x4_3).f0))∧w'.cell? ⟨(ad169.add ((x4_3).toNat * 2)).block,(ad169.add ((x4_3).toNat * 2)).off + 1,none⟩=some (.slice A169_1 ((rd_T66 l0_4 x4_3).f1).length c169_1)) (ds:=[]) (ab 8 0) (by kernel_rfl) rfl rfl ⟨cB BK161 0,cB BK161 1,cB BK161 2,cB BK161 3,cB BK161 4,uV hw169_0,uV hw169_1⟩ (fun hHeld=>?_);refine with_tabW hucksterref16_May.tab11 hucksterref16_May.bits11 (fun HT_ HW_=>?_);generalize wr.drew=w47 at BK161 HB HR169_1 hx169_0 hx169_1 hHeld ⊢;refine pU 1 68 ?_;refine pU 3 70 ?_;refine tU 0 67 ?_;refine tU 2 69 ?_;refine pU 4 71 ?_;refine tU 5 72 ?_;refine oU (N:=some 73) 6 (fun K hK=>?_);refine gO Try.func38 #[.agg #[.slice A0_0 l0_0.length c0_0,.slice A0_1 l0_1.length c0_1,.slice A0_2 l0_2.length c0_2,.slice A0_3 l0_3.length c0_3,.slice (some ad169) l0_4.length c0_4],.agg #[.string ((rd_T66 l0_4 x4_3).f0),.slice A169_1 ((rd_T66 l0_4 x4_3).f1).length c169_1]] ?_;(with_reducible refine (hucksterref16_Oper.calls k3 _ _ l0_0 _ _ l0_1 _ _ l0_2 _ _ l0_3 _ _ l0_4 ((rd_T66 l0_4 x4_3).f0) _ _ ((rd_T66 l0_4 x4_3).f1) false _ (sC HR0_0) HC0_0.out (sC HR0_1) HC0_1.out (sC HR0_2) HC0_2.out (sC HR0_3) HC0_3.out (sC HR0_4) HC0_4.out (sC HR169_1) HC169_1.out A41.out).mono ?_);rintro e w48 ⟨rfl,hb⟩;refine ⟨_,rfl,?_⟩;replace BK161:=uK BK161 hb;replace HB:=uH hb;(try clear hb);(try clear hb2);(try clear hk);(try clear hi);refine hK.out _ _ ⟨cB BK161 0,cB BK161 1,cB BK161 2,cB BK161 3,cB BK161 4,uV hw169_0,uV hw169_1⟩ (fun hHeld=>?_);clear hK K;refine nU ?_;refine pU 7 74 ?_;refine dU ?_;(try go_wp2);go_ret;exact ⟨tW,uB⟩
          ·rw [if_neg c40] at H;exact absurd H (by simp)
         ·rw [if_neg c39] at H;have c39b0:decide (x4_3 < (l0_4.length:Int))=false:=decide_eq_false c39;clear c39;obtain rfl:=Option.some.inj H;obtain ⟨hcz49_0,hcz49_1,hcz49_2,hcz49_3,hcz49_4,hfz49_0,hfz49_1,hfz49_2,hfz49_3,hfz49_4⟩:=bd5 BK161;go_wp2;go_ret;exact ⟨tW,uB⟩
end Go.Proofs.Ytjbjbeihkoeciaa.X
namespace Go.Proofs.Ytjbjbeihkoeciaa.X
open Go.RowKit Go.Proofs.YtjbjbeihkoeciaaW.PrintWords Go.Proofs.YtjbjbeihkoeciaaW.PrintLast Go.Proofs.YtjbjbeihkoeciaaW.PrintMore
attribute [local go_sem] max2_int min2_int max_two min_two max_three min_three max_four min_four
set_option linter.unusedVariables false
set_option linter.unusedSimpArgs false
mutual
def hucksterlaw16_Light.j0:Nat → Bool → List ByteArray → List ByteArray → List ByteArray → List (S70) → List (S66) → Option (Bool)
 | 0,_,_,_,_,_,_=>none
 | k + 1,x33,x172000,x172001,x172002,x172003,x172004=>if x33=true then (some false) else ((hucksterref16_All.f k x172000 x172001 x172002 x172003 x172004).bind fun t172=>(hucksterlaw16_Light.l0 k t172 0 x172000 x172001 x172002 x172003 x172004))
def hucksterlaw16_Light.l0:Nat → List ByteArray → Int → List ByteArray → List ByteArray → List ByteArray → List (S70) → List (S66) → Option (Bool)
 | 0,_,_,_,_,_,_,_=>none
 | k + 1,x3,x4,x172000,x172001,x172002,x172003,x172004=>if x4 < (x3.length:Int) then (if 0 ≤ x4 then (if ((rdOf ByteArray.empty x3 x4).size:Int) > 100 then (some false) else (hucksterlaw16_Light.l0 k x3 (wrap64 (x4 + 1)) x172000 x172001 x172002 x172003 x172004)) else (none)) else (hucksterlaw16_Light.l1 k 0 x172000 x172001 x172002 x172003 x172004)
def hucksterlaw16_Light.l1:Nat → Int → List ByteArray → List ByteArray → List ByteArray → List (S70) → List (S66) → Option (Bool)
 | 0,_,_,_,_,_,_=>none
 | k + 1,x5,x172000,x172001,x172002,x172003,x172004=>if x5 < (x172004.length:Int) then (if 0 ≤ x5 then (if (((rd_T66 x172004 x5).f1).length:Int) > 20 then (some false) else (hucksterlaw16_Light.l1 k (wrap64 (x5 + 1)) x172000 x172001 x172002 x172003 x172004)) else (none)) else (some true)
end
def hucksterlaw16_Light.f (k:Nat) (l0_0:List ByteArray) (l0_1:List ByteArray) (l0_2:List ByteArray) (l0_3:List (S70)) (l0_4:List (S66)):Option (Bool):=if (l0_0.length:Int) > 20 then (hucksterlaw16_Light.j0 k true l0_0 l0_1 l0_2 l0_3 l0_4) else (if (l0_1.length:Int) > 20 then (hucksterlaw16_Light.j0 k true l0_0 l0_1 l0_2 l0_3 l0_4) else (if (l0_2.length:Int) > 20 then (hucksterlaw16_Light.j0 k true l0_0 l0_1 l0_2 l0_3 l0_4) else (if (l0_3.length:Int) > 30 then (hucksterlaw16_Light.j0 k true l0_0 l0_1 l0_2 l0_3 l0_4) else (hucksterlaw16_Light.j0 k (decide ((l0_4.length:Int) > 30)) l0_0 l0_1 l0_2 l0_3 l0_4))))
set_option maxHeartbeats 8000000 in
set_option maxRecDepth 100000 in
theorem hucksterlaw16_Light.calls (k:Nat) (A0_0:Option Addr) (c0_0:Nat) (l0_0:List ByteArray) (A0_1:Option Addr) (c0_1:Nat) (l0_1:List ByteArray) (A0_2:Option Addr) (c0_2:Nat) (l0_2:List ByteArray) (A0_3:Option Addr) (c0_3:Nat) (l0_3:List (S70)) (A0_4:Option Addr) (c0_4:Nat) (l0_4:List (S66)) (r:Bool) (w:World) (hr0_0:Kd.C Kd.string w A0_0 l0_0.length l0_0) (hc0_0:l0_0.length ≤ c0_0) (hr0_1:Kd.C Kd.string w A0_1 l0_1.length l0_1) (hc0_1:l0_1.length ≤ c0_1) (hr0_2:Kd.C Kd.string w A0_2 l0_2.length l0_2) (hc0_2:l0_2.length ≤ c0_2) (hr0_3:Kd.C k70 w A0_3 l0_3.length l0_3) (hc0_3:l0_3.length ≤ c0_3) (hr0_4:Kd.C k66 w A0_4 l0_4.length l0_4) (hc0_4:l0_4.length ≤ c0_4) (h:hucksterlaw16_Light.f k l0_0 l0_1 l0_2 l0_3 l0_4=some r) :
  Calls Try.prog 6 #[.agg #[.slice A0_0 l0_0.length c0_0,.slice A0_1 l0_1.length c0_1,.slice A0_2 l0_2.length c0_2,.slice A0_3 l0_3.length c0_3,.slice A0_4 l0_4.length c0_4]] w fun e w'=>e = .returned (.bool r)∧Below w.heap.size w w':=by
 have hu26:=Try.underlying26;have HR0_0:=Aside0.mk hr0_0;have HC0_0:=Aside0.mk hc0_0;clear hr0_0 hc0_0;have HR0_1:=Aside0.mk hr0_1;have HC0_1:=Aside0.mk hc0_1;clear hr0_1 hc0_1;have HR0_2:=Aside0.mk hr0_2;have HC0_2:=Aside0.mk hc0_2;clear hr0_2 hc0_2;have HR0_3:=Aside0.mk hr0_3;have HC0_3:=Aside0.mk hc0_3;clear hr0_3 hc0_3;have HR0_4:=Aside0.mk hr0_4;have HC0_4:=Aside0.mk hc0_4;clear hr0_4 hc0_4;have HB:=Aside0.mk (Below.refl w.heap.size w);have H:(if (l0_0.length:Int) > 20 then (hucksterlaw16_Light.j0 k true l0_0 l0_1 l0_2 l0_3 l0_4) else (if (l0_1.length:Int) > 20 then (hucksterlaw16_Light.j0 k true l0_0 l0_1 l0_2 l0_3 l0_4) else (if (l0_2.length:Int) > 20 then (hucksterlaw16_Light.j0 k true l0_0 l0_1 l0_2 l0_3 l0_4) else (if (l0_3.length:Int) > 30 then (hucksterlaw16_Light.j0 k true l0_0 l0_1 l0_2 l0_3 l0_4) else (hucksterlaw16_Light.j0 k (decide ((l0_4.length:Int) > 30)) l0_0 l0_1 l0_2 l0_3 l0_4)))))=some r:=h;clear h;have HC2:=Aside0.mk H;clear H;go_enter Try.func6,Try.ntmps6;go_upto_region 1 with (first|((with_reducible refine gate_dst (N:=1) rfl ?_);(try (refine gate_guard (by rfl) ?_;dsimp only));refine uX 1 (cs:=#[.slice A0_0 l0_0.length c0_0,.slice A0_1 l0_1.length c0_1,.slice A0_2 l0_2.length c0_2,.slice A0_3 l0_3.length c0_3,.slice A0_4 l0_4.length c0_4]) (t:=26) fun gb171 hg w3 hbox hb=>?_;have BK171:=Aside0.mk hbox;have GW171:Aside0 (w.heap.size ≤ gb171):=uG hg;have GE171:Aside0 (w.heap.size ≤ gb171):=uG hg;replace HB:=uH hb;clear hb hbox hg));(try simp only [Act.put,q1_,q2_,q3_]);go_cut [33] (fun v33 wc=>∃ (kq:Nat) (x33_1:Bool),v33 = .bool x33_1∧Aside0 (hucksterlaw16_Light.j0 kq x33_1 l0_0 l0_1 l0_2 l0_3 l0_4=some r)∧Aside0 (kq ≤ k)∧Aside0 (wc.heap[gb171]? = some (.cells #[(.slice A0_0 l0_0.length c0_0),(.slice A0_1 l0_1.length c0_1),(.slice A0_2 l0_2.length c0_2),(.slice A0_3 l0_3.length c0_3),(.slice A0_4 l0_4.length c0_4)] 26 (0,0)))∧Aside0 (Below w.heap.size w wc))
 case first =>
  have H:=HC2.out;clear HC2;by_cases c4:(l0_0.length:Int) > 20
  ·rw [if_pos c4] at H;have c4b0:=decide_eq_true c4;have c4b1:decide (20 < l0_0.length)=true:=decide_eq_true (by omega);clear c4;(first|rw [c4b0]|(simp only [i64_w,i32_w];rw [c4b0])|skip);have H':=Aside0.mk H;clear H;obtain ⟨hcz5_0,hcz5_1,hcz5_2,hcz5_3,hcz5_4,hfz5_0,hfz5_1,hfz5_2,hfz5_3,hfz5_4⟩:=bd5 BK171;go_wp2;go_meet
   case rel=>exact ⟨_,(true),tS,H',⟨tO⟩,kA BK171,uA⟩
  ·rw [if_neg c4] at H;have c4b0:decide (20 < (l0_0.length:Int))=false:=decide_eq_false c4;have c4b1:decide (20 < l0_0.length)=false:=decide_eq_false (by omega);clear c4;(first|rw [c4b0]|(simp only [i64_w,i32_w];rw [c4b0])|skip);by_cases c6:(l0_1.length:Int) > 20
   ·rw [if_pos c6] at H;have c6b0:=decide_eq_true c6;have c6b1:decide (20 < l0_1.length)=true:=decide_eq_true (by omega);clear c6;have H':=Aside0.mk H;clear H;obtain ⟨hcz7_0,hcz7_1,hcz7_2,hcz7_3,hcz7_4,hfz7_0,hfz7_1,hfz7_2,hfz7_3,hfz7_4⟩:=bd5 BK171;go_wp2;go_meet
    case rel=>exact ⟨_,(true),tS,H',⟨tO⟩,kA BK171,uA⟩
   ·rw [if_neg c6] at H;have c6b0:decide (20 < (l0_1.length:Int))=false:=decide_eq_false c6;have c6b1:decide (20 < l0_1.length)=false:=decide_eq_false (by omega);clear c6;by_cases c8:(l0_2.length:Int) > 20
    ·rw [if_pos c8] at H;have c8b0:=decide_eq_true c8;have c8b1:decide (20 < l0_2.length)=true:=decide_eq_true (by omega);clear c8;have H':=Aside0.mk H;clear H;obtain ⟨hcz9_0,hcz9_1,hcz9_2,hcz9_3,hcz9_4,hfz9_0,hfz9_1,hfz9_2,hfz9_3,hfz9_4⟩:=bd5 BK171;go_wp2;go_meet
     case rel=>exact ⟨_,(true),tS,H',⟨tO⟩,kA BK171,uA⟩
    ·rw [if_neg c8] at H;have c8b0:decide (20 < (l0_2.length:Int))=false:=decide_eq_false c8;have c8b1:decide (20 < l0_2.length)=false:=decide_eq_false (by omega);clear c8;by_cases c10:(l0_3.length:Int) > 30
     ·rw [if_pos c10] at H;have c10b0:=decide_eq_true c10;have c10b1:decide (30 < l0_3.length)=true:=decide_eq_true (by omega);clear c10;have H':=Aside0.mk H;clear H;obtain ⟨hcz11_0,hcz11_1,hcz11_2,hcz11_3,hcz11_4,hfz11_0,hfz11_1,hfz11_2,hfz11_3,hfz11_4⟩:=bd5 BK171;go_wp2;go_meet
      case rel=>exact ⟨_,(true),tS,H',⟨tO⟩,kA BK171,uA⟩
     ·rw [if_neg c10] at H;have c10b0:decide (30 < (l0_3.length:Int))=false:=decide_eq_false c10;have c10b1:decide (30 < l0_3.length)=false:=decide_eq_false (by omega);clear c10;have H':=Aside0.mk H;clear H;obtain ⟨hcz12_0,hcz12_1,hcz12_2,hcz12_3,hcz12_4,hfz12_0,hfz12_1,hfz12_2,hfz12_3,hfz12_4⟩:=bd5 BK171;go_wp2;go_meet
      case rel=>exact ⟨_,(decide ((l0_4.length:Int) > 30)),tS,H',⟨tO⟩,kA BK171,uA⟩
 case rest =>
  clear HC2;(try clear c1);(try clear p2);(try clear c4);(try clear c4b0);(try clear c4b1);(try clear c6);(try clear c6b0);(try clear c6b1);(try clear c8);(try clear c8b0);(try clear c8b1);(try clear c10);(try clear c10b0);(try clear c10b1);(try clear hcz11_0 hcz11_1 hcz11_2 hcz11_3 hcz11_4 hfz11_0 hfz11_1 hfz11_2 hfz11_3 hfz11_4);(try clear hcz12_0 hcz12_1 hcz12_2 hcz12_3 hcz12_4 hfz12_0 hfz12_1 hfz12_2 hfz12_3 hfz12_4);(try clear hcz5_0 hcz5_1 hcz5_2 hcz5_3 hcz5_4 hfz5_0 hfz5_1 hfz5_2 hfz5_3 hfz5_4);(try clear hcz7_0 hcz7_1 hcz7_2 hcz7_3 hcz7_4 hfz7_0 hfz7_1 hfz7_2 hfz7_3 hfz7_4);(try clear hcz9_0 hcz9_1 hcz9_2 hcz9_3 hcz9_4 hfz9_0 hfz9_1 hfz9_2 hfz9_3 hfz9_4);obtain ⟨kq,x33_1,rfl,HA,HJ1,BK171,HB⟩:=hcut;cases kq with
  | zero=>exact absurd HA.out (by simp [hucksterlaw16_Light.j0])
  | succ kj1 =>
   have H:=HA.out;clear HA;simp only [hucksterlaw16_Light.j0] at H;by_cases c13:x33_1=true
   ·subst c13;(have H1:(some false)=some r:=by rw [if_pos rfl] at H;exact H);clear H;have H:=H1;clear H1;obtain rfl:=Option.some.inj H;go_wp2;go_ret;exact ⟨tW,uB⟩
   ·replace c13:=Bool.eq_false_iff.mpr c13;subst c13;(have H1:((hucksterref16_All.f kj1 l0_0 l0_1 l0_2 l0_3 l0_4).bind fun t172=>(hucksterlaw16_Light.l0 kj1 t172 0 l0_0 l0_1 l0_2 l0_3 l0_4))=some r:=by rw [if_neg (show ¬ (false=true) by decide)] at H;exact H);clear H;have H:=H1;clear H1;replace H:=Option.bind_eq_some_iff.mp H;obtain ⟨t172,A140,H⟩:=H;replace H:(hucksterlaw16_Light.l0 kj1 t172 0 l0_0 l0_1 l0_2 l0_3 l0_4)=some r:=H;have A14:=Aside0.mk A140;clear A140;have H':=Aside0.mk H;clear H;obtain ⟨hcz15_0,hcz15_1,hcz15_2,hcz15_3,hcz15_4,hfz15_0,hfz15_1,hfz15_2,hfz15_3,hfz15_4⟩:=bd5 BK171;go_wp2_with (first|((with_reducible refine gate_callee (f:=24) rfl ?_);refine gL Try.func24 (some 35) #[.agg #[.slice A0_0 l0_0.length c0_0,.slice A0_1 l0_1.length c0_1,.slice A0_2 l0_2.length c0_2,.slice A0_3 l0_3.length c0_3,.slice A0_4 l0_4.length c0_4]] ?_;(with_reducible refine (hucksterref16_All.calls kj1 _ _ l0_0 _ _ l0_1 _ _ l0_2 _ _ l0_3 _ _ l0_4 t172 _ (sC HR0_0) HC0_0.out (sC HR0_1) HC0_1.out (sC HR0_2) HC0_2.out (sC HR0_3) HC0_3.out (sC HR0_4) HC0_4.out A14.out).mono ?_);rintro e w16 ⟨v173,rfl,ho0,hb⟩;refine ⟨_,rfl,?_⟩;have HO174:=Aside0.mk (Kd.R_lower ho0 (below_size uB));replace BK171:=uK BK171 hb;replace HB:=uH hb;(try clear hb);(try clear hb2);(try clear hk);(try clear hi);(try clear ho0)));go_loopg [4] kj1 (fun kq v4 w'=>∃ (x4_2:Int),v4 = .int .i64 x4_2∧Aside0 (hucksterlaw16_Light.l0 kq t172 x4_2 l0_0 l0_1 l0_2 l0_3 l0_4=some r)∧Aside0 (kq ≤ kj1)∧Aside0 (Kd.R Kd.string 9 w' w.heap.size (fun _=>True) v173 t172)∧Aside0 (w'.heap[gb171]? = some (.cells #[(.slice A0_0 l0_0.length c0_0),(.slice A0_1 l0_1.length c0_1),(.slice A0_2 l0_2.length c0_2),(.slice A0_3 l0_3.length c0_3),(.slice A0_4 l0_4.length c0_4)] 26 (0,0)))∧Aside0 (Below w.heap.size w w'))
    case atStart=>exact ⟨(0),tS,H',⟨Nat.le_refl _⟩,kS HO174,kA BK171,uA⟩
    case round =>
     clear H';(try clear c1);(try clear c2);(try clear p2);(try clear c4);(try clear c4b0);(try clear c4b1);(try clear c6);(try clear c6b0);(try clear c6b1);(try clear c8);(try clear c8b0);(try clear c8b1);(try clear c10);(try clear c10b0);(try clear c10b1);(try clear c13);(try clear hcz11_0 hcz11_1 hcz11_2 hcz11_3 hcz11_4 hfz11_0 hfz11_1 hfz11_2 hfz11_3 hfz11_4);(try clear hcz12_0 hcz12_1 hcz12_2 hcz12_3 hcz12_4 hfz12_0 hfz12_1 hfz12_2 hfz12_3 hfz12_4);(try clear hcz15_0 hcz15_1 hcz15_2 hcz15_3 hcz15_4 hfz15_0 hfz15_1 hfz15_2 hfz15_3 hfz15_4);(try clear hcz5_0 hcz5_1 hcz5_2 hcz5_3 hcz5_4 hfz5_0 hfz5_1 hfz5_2 hfz5_3 hfz5_4);(try clear hcz7_0 hcz7_1 hcz7_2 hcz7_3 hcz7_4 hfz7_0 hfz7_1 hfz7_2 hfz7_3 hfz7_4);(try clear hcz9_0 hcz9_1 hcz9_2 hcz9_3 hcz9_4 hfz9_0 hfz9_1 hfz9_2 hfz9_3 hfz9_4);(try clear p2);obtain ⟨x4_2,rfl,HA,HK2,HO_3,BK171,HB⟩:=hrel;cases gk with
     | zero=>exact absurd HA.out (by simp [hucksterlaw16_Light.l0])
     | succ k2 =>
      have H:=HA.out;clear HA;simp only [hucksterlaw16_Light.l0] at H;by_cases c17:x4_2 < (t172.length:Int)
      ·rw [if_pos c17] at H;have c17b0:=decide_eq_true c17;clear c17;by_cases c18:0 ≤ x4_2
       ·rw [if_pos c18] at H;have c18b0:=decide_eq_true c18;clear c18;by_cases c19:((rdOf ByteArray.empty t172 x4_2).size:Int) > 100
        ·rw [if_pos c19] at H;have c19b0:=decide_eq_true c19;have c19b1:decide (100 < (rdOf ByteArray.empty t172 x4_2).size)=true:=decide_eq_true (by omega);clear c19;obtain rfl:=Option.some.inj H;obtain ⟨Ao20,co20,eo20⟩:=Kd.R_slice HO_3.out;subst eo20;have p175:0 ≤ (x4_2:Int):=tD;have q175:x4_2 < (t172.length:Int):=tD;obtain ⟨ad175,e175,hx175_0⟩:=Kd.at_string (Kd.R_reads' HO_3.out).2.2 x4_2 p175 q175;cases e175;replace p175:=eq_true p175;replace q175:=eq_true q175;go_wp2;go_ret;exact ⟨tW,uB⟩
        ·rw [if_neg c19] at H;have c19b0:decide (100 < ((rdOf ByteArray.empty t172 x4_2).size:Int))=false:=decide_eq_false c19;have c19b1:decide (100 < (rdOf ByteArray.empty t172 x4_2).size)=false:=decide_eq_false (by omega);clear c19;have H':=Aside0.mk H;clear H;obtain ⟨Ao21,co21,eo21⟩:=Kd.R_slice HO_3.out;subst eo21;have p175:0 ≤ (x4_2:Int):=tD;have q175:x4_2 < (t172.length:Int):=tD;obtain ⟨ad175,e175,hx175_0⟩:=Kd.at_string (Kd.R_reads' HO_3.out).2.2 x4_2 p175 q175;cases e175;replace p175:=eq_true p175;replace q175:=eq_true q175;go_wp2;go_roundg k2
         case measure=>have:=HJ1.out;have:=HK2.out;omega
         case rel=>exact ⟨(wrap64 (x4_2 + 1)),tS,H',⟨by have:=HJ1.out;have:=HK2.out;omega⟩,kS HO_3,kA BK171,uA⟩
       ·rw [if_neg c18] at H;exact absurd H (by simp)
      ·rw [if_neg c17] at H;have c17b0:decide (x4_2 < (t172.length:Int))=false:=decide_eq_false c17;clear c17;have H':=Aside0.mk H;clear H;obtain ⟨Ao22,co22,eo22⟩:=Kd.R_slice HO_3.out;subst eo22;go_wp2;go_loopg [5] k2 (fun kq v5 w'=>∃ (x5_3:Int),v5 = .int .i64 x5_3∧Aside0 (hucksterlaw16_Light.l1 kq x5_3 l0_0 l0_1 l0_2 l0_3 l0_4=some r)∧Aside0 (kq ≤ k2)∧Aside0 (w'.heap[gb171]? = some (.cells #[(.slice A0_0 l0_0.length c0_0),(.slice A0_1 l0_1.length c0_1),(.slice A0_2 l0_2.length c0_2),(.slice A0_3 l0_3.length c0_3),(.slice A0_4 l0_4.length c0_4)] 26 (0,0)))∧Aside0 (Below w.heap.size w w'))
       case atStart=>exact ⟨(0),tS,H',⟨Nat.le_refl _⟩,kA BK171,uA⟩
       case round =>
        clear H';(try clear c1);(try clear p1);(try clear q1);(try clear hx1);(try clear c2);(try clear p2);(try clear c4);(try clear c4b0);(try clear c4b1);(try clear c6);(try clear c6b0);(try clear c6b1);(try clear p6);(try clear c8);(try clear c8b0);(try clear c8b1);(try clear c10);(try clear c10b0);(try clear c10b1);(try clear c13);(try clear c17);(try clear c17b0);(try clear p17);(try clear q17);(try clear hx17);(try clear c18);(try clear c18b0);(try clear c19);(try clear c19b0);(try clear c19b1);(try clear hcz11_0 hcz11_1 hcz11_2 hcz11_3 hcz11_4 hfz11_0 hfz11_1 hfz11_2 hfz11_3 hfz11_4);(try clear hcz12_0 hcz12_1 hcz12_2 hcz12_3 hcz12_4 hfz12_0 hfz12_1 hfz12_2 hfz12_3 hfz12_4);(try clear hcz15_0 hcz15_1 hcz15_2 hcz15_3 hcz15_4 hfz15_0 hfz15_1 hfz15_2 hfz15_3 hfz15_4);(try clear hcz5_0 hcz5_1 hcz5_2 hcz5_3 hcz5_4 hfz5_0 hfz5_1 hfz5_2 hfz5_3 hfz5_4);(try clear hcz7_0 hcz7_1 hcz7_2 hcz7_3 hcz7_4 hfz7_0 hfz7_1 hfz7_2 hfz7_3 hfz7_4);(try clear hcz9_0 hcz9_1 hcz9_2 hcz9_3 hcz9_4 hfz9_0 hfz9_1 hfz9_2 hfz9_3 hfz9_4);(try clear hx175_0);(try clear p175);(try clear p2);(try clear q175);obtain ⟨x5_3,rfl,HA,HK3,BK171,HB⟩:=hrel;cases gk with
        | zero=>exact absurd HA.out (by simp [hucksterlaw16_Light.l1])
        | succ k3 =>
         have H:=HA.out;clear HA;simp only [hucksterlaw16_Light.l1] at H;by_cases c23:x5_3 < (l0_4.length:Int)
         ·rw [if_pos c23] at H;have c23b0:=decide_eq_true c23;clear c23;by_cases c24:0 ≤ x5_3
          ·rw [if_pos c24] at H;have c24b0:=decide_eq_true c24;clear c24;by_cases c25:(((rd_T66 l0_4 x5_3).f1).length:Int) > 20
           ·rw [if_pos c25] at H;have c25b0:=decide_eq_true c25;have c25b1:decide (20 < ((rd_T66 l0_4 x5_3).f1).length)=true:=decide_eq_true (by omega);clear c25;obtain rfl:=Option.some.inj H;obtain ⟨hcz26_0,hcz26_1,hcz26_2,hcz26_3,hcz26_4,hfz26_0,hfz26_1,hfz26_2,hfz26_3,hfz26_4⟩:=bd5 BK171;have p176:0 ≤ (x5_3:Int):=tD;have q176:x5_3 < (l0_4.length:Int):=tD;obtain ⟨ad176,A176_1,c176_1,e176,hx176_0,hx176_1,hl176_1,hi176_1⟩:=at_T66 HR0_4.out x5_3 p176 q176;cases e176;replace hx176_0:=uC HB hx176_0;replace hx176_1:=uC HB hx176_1;have HR176_1:=Aside0.mk hi176_1;have HC176_1:=Aside0.mk hl176_1;clear hi176_1 hl176_1;replace p176:=eq_true p176;replace q176:=eq_true q176;go_wp2;go_ret;exact ⟨tW,uB⟩
           ·rw [if_neg c25] at H;have c25b0:decide (20 < (((rd_T66 l0_4 x5_3).f1).length:Int))=false:=decide_eq_false c25;have c25b1:decide (20 < ((rd_T66 l0_4 x5_3).f1).length)=false:=decide_eq_false (by omega);clear c25;have H':=Aside0.mk H;clear H;obtain ⟨hcz27_0,hcz27_1,hcz27_2,hcz27_3,hcz27_4,hfz27_0,hfz27_1,hfz27_2,hfz27_3,hfz27_4⟩:=bd5 BK171;have p176:0 ≤ (x5_3:Int):=tD;have q176:x5_3 < (l0_4.length:Int):=tD;obtain ⟨ad176,A176_1,c176_1,e176,hx176_0,hx176_1,hl176_1,hi176_1⟩:=at_T66 HR0_4.out x5_3 p176 q176;cases e176;replace hx176_0:=uC HB hx176_0;replace hx176_1:=uC HB hx176_1;have HR176_1:=Aside0.mk hi176_1;have HC176_1:=Aside0.mk hl176_1;clear hi176_1 hl176_1;replace p176:=eq_true p176;replace q176:=eq_true q176;go_wp2;go_roundg k3
            case measure=>have:=HJ1.out;have:=HK2.out;have:=HK3.out;omega
            case rel=>exact ⟨(wrap64 (x5_3 + 1)),tS,H',⟨by have:=HJ1.out;have:=HK2.out;have:=HK3.out;omega⟩,kA BK171,uA⟩
          ·rw [if_neg c24] at H;exact absurd H (by simp)
         ·rw [if_neg c23] at H;have c23b0:decide (x5_3 < (l0_4.length:Int))=false:=decide_eq_false c23;clear c23;obtain rfl:=Option.some.inj H;obtain ⟨hcz28_0,hcz28_1,hcz28_2,hcz28_3,hcz28_4,hfz28_0,hfz28_1,hfz28_2,hfz28_3,hfz28_4⟩:=bd5 BK171;go_wp2;go_ret;exact ⟨tW,uB⟩
end Go.Proofs.Ytjbjbeihkoeciaa.X
set_option linter.unusedSimpArgs false
set_option linter.unusedVariables false
namespace Go.Proofs.Ytjbjbeihkoeciaa.X
open Go.RowKit Go.Proofs.YtjbjbeihkoeciaaW.PrintWords Go.Proofs.YtjbjbeihkoeciaaW.PrintLast Go.Proofs.YtjbjbeihkoeciaaW.PrintMore
theorem rdCl_at (l:List Cl) (pos:Nat):rd_T70 l (pos:Int)=l.getD pos z70:=by simp [rd_T70]
theorem rdOp_at (l:List Op_) (pos:Nat):rd_T66 l (pos:Int)=l.getD pos z66:=by simp [rd_T66]
theorem rdDg_at (l:List Dg) (pos:Nat):rd_T84 l (pos:Int)=l.getD pos z84:=by simp [rd_T84]
theorem getD_mem {α:Type} (l:List α) (z:α) (k:Nat) (h:k < l.length):l.getD k z ∈ l:=by
 simp only [List.getD_eq_getElem?_getD,List.getElem?_eq_getElem h,Option.getD_some];exact List.getElem_mem h
theorem take_getD {α:Type} (l:List α) (z:α) (k:Nat) (h:k < l.length):l.take (k + 1)=l.take k ++ [l.getD k z]:=by
 rw [List.take_add_one,List.getElem?_eq_getElem h];simp [List.getD_eq_getElem?_getD,List.getElem?_eq_getElem h]
theorem letter_f (c:Int):hucksterref14_letter.f c=some (letB c):=by
 unfold hucksterref14_letter.f letB;by_cases h:c ≥ 97
 ·rw [if_pos h];simp;omega
 ·rw [if_neg h];simp;omega
theorem digit_f (c:Int):hucksterref14_digit.f c=some (digB c):=by
 unfold hucksterref14_digit.f digB;by_cases h:c ≥ 48
 ·rw [if_pos h];simp;omega
 ·rw [if_neg h];simp;omega
theorem bt_byt (s:ByteArray) (i:Nat):bt s (i:Int)=byt s i:=by
 unfold bt byt;simp
theorem word_ev (s:ByteArray) (hs:s.size ≤ maxLen):Ev (fun k=>hucksterref14_Word.f k s) (wordB s):=by
 (have hm:maxLen ≤ 9223372036854775807:=by decide);have h:=Ev.loop (g:=fun k pos=>hucksterref14_Word.l0 k s (pos:Int)) (spec:=fun pos=>wordFrom s (s.size - pos) pos && decide (1 ≤ s.size∧s.size ≤ 16)) s.size ?_ ?_ 0 (by omega)
 ·(have e:(wordFrom s (s.size - 0) 0 && decide (1 ≤ s.size∧s.size ≤ 16))=wordB s:=by unfold wordB;rw [Bool.and_comm,Nat.sub_zero]);rw [← e];exact h
 ·refine Ev.succ ?_;simp only [hucksterref14_Word.l0];refine Ev.no (by omega) ?_;rw [Nat.sub_self,show wordFrom s 0 s.size=true from rfl,Bool.true_and];by_cases h1:(s.size:Int) ≥ 1
  ·exact Ev.yes h1 (Ev.is (by congr 1;apply propext;omega))
  ·exact Ev.no h1 (Ev.is (by symm;rw [decide_eq_false_iff_not];omega))
 ·intro pos hp ih;refine Ev.succ ?_;simp only [hucksterref14_Word.l0,letter_f,digit_f,bt_byt];obtain ⟨b,hb⟩:∃ b,s.size - pos=b + 1:=⟨s.size - pos - 1,by omega⟩;(have hb':s.size - (pos + 1)=b:=by omega);rw [wrap_up pos (by omega)];rw [hb'] at ih;rw [hb];(have e:wordFrom s (b + 1) pos=(wchar s pos && wordFrom s b (pos + 1)):=by simp [wordFrom,hp]);rw [e];refine Ev.yes (by omega) (Ev.yes (by omega) (Ev.bind1 rfl ?_));unfold wchar;cases hl:letB (byt s pos)
  ·refine Ev.no (by decide) (Ev.bind1 rfl ?_);cases hd:digB (byt s pos)
   ·refine Ev.no (by decide) ?_;rw [Bool.and_false];exact Ev.now _
   ·refine Ev.yes rfl ?_;by_cases h0:(pos:Int) > 0
    ·refine Ev.yes h0 ?_;rw [decide_eq_true (by omega)];exact ih
    ·refine Ev.no h0 ?_;rw [decide_eq_false (by omega)];exact Ev.now _
  ·exact Ev.yes rfl ih
theorem hasB_cons (x:ByteArray) (l:List ByteArray) (a:ByteArray):hasB (x :: l) a=(decide (x=a) || hasB l a):=rfl
theorem kept_ev (s:ByteArray):Ev (fun k=>hucksterref15_Kept.f k s) (hasB kwords s):=by
 unfold hucksterref15_Kept.f;refine Ev.bind1 (a:=kwords) rfl ?_;(have hl:kwords.length=17:=by decide);refine Ev.loop (g:=fun k pos=>hucksterref15_Kept.l0 k s kwords (pos:Int)) (spec:=fun pos=>hasB (kwords.drop pos) s) kwords.length ?_ ?_ 0 (by omega)
 ·refine Ev.succ ?_;simp only [hucksterref15_Kept.l0];rw [List.drop_length];exact Ev.no (by omega) (Ev.now _)
 ·intro pos hp ih;refine Ev.succ ?_;simp only [hucksterref15_Kept.l0,rdOf_at];rw [wrap_up pos (by omega),drop_getD kwords ByteArray.empty pos hp,hasB_cons];refine Ev.yes (by omega) (Ev.yes (by omega) ?_);by_cases he:(kwords.getD pos ByteArray.empty).toList=s.toList
  ·refine Ev.yes he ?_;rw [decide_eq_true (ba_toList_inj he)];exact Ev.now _
  ·refine Ev.no he ?_;rw [decide_eq_false (fun h=>he (by rw [h])),Bool.false_or];exact ih
theorem name_ev (s:ByteArray) (hs:s.size ≤ maxLen):Ev (fun k=>hucksterref15_Name.f k s) (nmB s):=by
 unfold hucksterref15_Name.f nmB;refine Ev.bind (word_ev s hs) ?_;cases wordB s
 ·exact Ev.no (by decide) (Ev.now _)
 ·exact Ev.yes rfl (Ev.bind (kept_ev s) (Ev.now _))
def idxI:List ByteArray → ByteArray → Nat → Int
 | [],_,_=>-1
 | x :: r,s,n=>if x=s then (n:Int) else idxI r s (n + 1)
theorem idxI_has (l:List ByteArray) (s:ByteArray):∀ n,decide (idxI l s n ≥ 0)=hasB l s:=by
 induction l with
 | nil=>intro n;rfl
 | cons x r ih =>
  intro n;rw [hasB_cons,idxI];by_cases h:x=s
  ·rw [if_pos h,decide_eq_true h,decide_eq_true (by omega)];rfl
  ·rw [if_neg h,decide_eq_false h,ih];rfl
theorem at_ev (l:List ByteArray) (s:ByteArray) (hl:l.length ≤ 4000000000):Ev (fun k=>hucksterref16_At.f k l s) (idxI l s 0):=by
 unfold hucksterref16_At.f;refine Ev.loop (g:=fun k pos=>hucksterref16_At.l0 k l s (pos:Int)) (spec:=fun pos=>idxI (l.drop pos) s pos) l.length ?_ ?_ 0 (by omega)
 ·refine Ev.succ ?_;simp only [hucksterref16_At.l0];rw [List.drop_length];exact Ev.no (by omega) (Ev.now _)
 ·intro pos hp ih;refine Ev.succ ?_;simp only [hucksterref16_At.l0,rdOf_at];rw [wrap_up pos (by omega),drop_getD l ByteArray.empty pos hp,idxI];refine Ev.yes (by omega) (Ev.yes (by omega) ?_);by_cases he:(l.getD pos ByteArray.empty).toList=s.toList
  ·rw [if_pos (ba_toList_inj he)];exact Ev.yes he (Ev.now _)
  ·rw [if_neg (fun h=>he (by rw [h]))];exact Ev.no he ih
theorem hasB_congr {l m:List ByteArray} (h:∀ x,x ∈ l ↔ x ∈ m) (a:ByteArray):hasB l a=hasB m a:=by
 unfold hasB;rw [Bool.eq_iff_iff];simp [h]
theorem unlike_ev (l:List ByteArray) (hl:l.length ≤ 4000000000) (hs:∀ s ∈ l,s.size ≤ maxLen):Ev (fun k=>hucksterref16_Unlike.f k l) (namedOk l):=by
 unfold hucksterref16_Unlike.f;refine Ev.loop (g:=fun k pos=>hucksterref16_Unlike.l0 k l (pos:Int)) (spec:=fun pos=>namedU (l.take pos).reverse (l.drop pos)) l.length ?_ ?_ 0 (by omega)
 ·refine Ev.succ ?_;simp only [hucksterref16_Unlike.l0];rw [List.drop_length];exact Ev.no (by omega) (Ev.now _)
 ·intro pos hp ih;refine Ev.succ ?_;simp only [hucksterref16_Unlike.l0,rdOf_at,Int.toNat_natCast];rw [wrap_up pos (by omega),drop_getD l ByteArray.empty pos hp,namedU];have hm:=getD_mem l ByteArray.empty pos hp;rw [take_getD l ByteArray.empty pos hp,List.reverse_append] at ih;generalize hx:l.getD pos ByteArray.empty=x at *;refine Ev.yes (by omega) (Ev.yes (by omega) (Ev.bind (name_ev x (hs x hm)) ?_));cases nmB x
  ·exact Ev.no (by decide) (Ev.now _)
  ·refine Ev.yes rfl (Ev.yes (by omega) (Ev.bind (at_ev (l.take pos) x (by rw [List.length_take];omega)) ?_));have e:=idxI_has (l.take pos) x 0;rw [hasB_congr (m:=(l.take pos).reverse) (fun y=>by simp) x] at e;rw [← e];by_cases h0:idxI (l.take pos) x 0 ≥ 0
   ·refine Ev.yes h0 ?_;rw [decide_eq_true h0];exact Ev.now _
   ·refine Ev.no h0 ?_;rw [decide_eq_false h0];exact ih
theorem all_ev (l0 l1 l2:List ByteArray) (l3:List Cl) (l4:List Op_) (h0:l0.length ≤ 1000000) (h1:l1.length ≤ 1000000) (h2:l2.length ≤ 1000000) (h4:l4.length ≤ 1000000) :
  Ev (fun k=>hucksterref16_All.f k l0 l1 l2 l3 l4) (namesL l0 l1 l2 l4):=by
 unfold hucksterref16_All.f;refine Ev.bind1 rfl (Ev.yes (by simp;omega) (Ev.bind1 rfl (Ev.yes (by simp;omega) (Ev.bind1 rfl (Ev.yes (by simp;omega) ?_)))));(have e:namesL l0 l1 l2 l4=(((([]:List ByteArray) ++ l0) ++ l1) ++ l2) ++ (l4.take l4.length).map (·.f0):=by rw [List.take_length];rfl);refine Ev.loop (g:=fun k pos=>hucksterref16_All.l0 k (((([]:List ByteArray) ++ l0) ++ l1) ++ l2 ++ (l4.take pos).map (·.f0)) (pos:Int) l0 l1 l2 l3 l4) (spec:=fun _=>namesL l0 l1 l2 l4) l4.length ?_ ?_ 0 (by omega) |> fun h=>by simpa using h
 ·refine Ev.succ ?_;simp only [hucksterref16_All.l0];rw [← e];exact Ev.no (by omega) (Ev.now _)
 ·intro pos hp ih;refine Ev.succ ?_;simp only [hucksterref16_All.l0,rdOp_at];rw [wrap_up pos (by omega)];rw [take_getD l4 z66 pos hp,List.map_append,← List.append_assoc] at ih;exact Ev.yes (by omega) (Ev.yes (by omega) (Ev.yes (by simp;omega) ih))
def flS (l:List Cl):List Int:=(l.filter (fun c=>decide (c.f0=8))).map (·.f2)
theorem leastU_congr (l:List Cl):∀ (s t:List Int),(∀ x,s.contains x=t.contains x) → leastU s l=leastU t l:=by
 induction l with
 | nil=>intro s t _;rfl
 | cons c l ih =>
  intro s t h;unfold leastU;rw [h c.f2,ih s t h,ih (c.f2 :: s) (c.f2 :: t) (fun x=>by rw [List.contains_cons,List.contains_cons,h x])]
theorem flS_snoc (l:List Cl) (c:Cl):flS (l ++ [c])=if c.f0=8 then flS l ++ [c.f2] else flS l:=by
 unfold flS;rw [List.filter_append,List.map_append];by_cases h:c.f0=8
 ·simp [h]
 ·simp [h]
theorem leastU_at (l:List Cl) (c:Cl) (r:List Cl):leastU (flS l) (c :: r)=if c.f0=8∧(flS l).contains c.f2=true then false else leastU (flS (l ++ [c])) r:=by
 rw [flS_snoc,show leastU (flS l) (c :: r)=(if c.f0=8 then (if (flS l).contains c.f2 then false else leastU (c.f2 :: flS l) r) else leastU (flS l) r) from rfl];by_cases h:c.f0=8
 ·rw [if_pos h,if_pos h];by_cases h2:(flS l).contains c.f2=true
  ·rw [if_pos h2,if_pos ⟨h,h2⟩]
  ·rw [if_neg h2,if_neg (fun x=>h2 x.2)];exact leastU_congr r _ _ (fun x=>by rw [Bool.eq_iff_iff];simp;exact or_comm)
 ·rw [if_neg h,if_neg h,if_neg (fun x=>h x.1)]
theorem floors_ev (l:List Cl) (hl:l.length ≤ 4000000000):Ev (fun k=>hucksterref16_floors.f k l) (leastOk l):=by
 unfold hucksterref16_floors.f;refine Ev.loop (g:=fun k pos=>hucksterref16_floors.l0 k l (pos:Int)) (spec:=fun pos=>leastU (flS (l.take pos)) (l.drop pos)) l.length ?_ ?_ 0 (by omega)
 ·refine Ev.succ ?_;simp only [hucksterref16_floors.l0];rw [List.drop_length];exact Ev.no (by omega) (Ev.now _)
 ·intro pos hp ih;refine Ev.succ ?_;simp only [hucksterref16_floors.l0];refine Ev.yes (by omega) ?_;rw [take_getD l z70 pos hp] at ih;have hrd:rd_T70 l (pos:Int)=l.getD pos z70:=rdCl_at l pos;rw [drop_getD l z70 pos hp,leastU_at];generalize l.getD pos z70=c at *;have h:=Ev.loop (g:=fun k j=>hucksterref16_floors.l1 k l (pos:Int) (j:Int)) (spec:=fun j=>if c.f0=8∧(flS ((l.take pos).drop j)).contains c.f2=true then false else leastU (flS (l.take pos ++ [c])) (l.drop (pos + 1))) pos ?_ ?_ 0 (by omega)
  ·rw [List.drop_zero] at h;exact h
  ·refine Ev.succ ?_;simp only [hucksterref16_floors.l1];rw [wrap_up pos (by omega)];rw [List.drop_eq_nil_of_le (by rw [List.length_take];omega),if_neg (by simp [flS])];exact Ev.no (by omega) ih
  ·intro j hj ihj;refine Ev.succ ?_;simp only [hucksterref16_floors.l1];(have hjt:j < (l.take pos).length:=by rw [List.length_take];omega);have hrj:rd_T70 l (j:Int)=(l.take pos).getD j z70:=by
    rw [rdCl_at];simp [List.getD_eq_getElem?_getD,List.getElem?_take,hj]
   rw [wrap_up j (by omega),hrd,hrj,drop_getD (l.take pos) z70 j hjt];generalize (l.take pos).getD j z70=e at *;refine Ev.yes (by omega) (Ev.yes (by omega) (Ev.yes (by omega) ?_));have hfl:flS (e :: (l.take pos).drop (j + 1))=if e.f0=8 then e.f2 :: flS ((l.take pos).drop (j + 1)) else flS ((l.take pos).drop (j + 1)):=by
    unfold flS;by_cases h:e.f0=8 <;> simp [h]
   rw [hfl];by_cases hc:c.f0=8
   ·refine Ev.yes hc (Ev.yes (by omega) (Ev.yes (by omega) ?_));by_cases he:e.f0=8
    ·rw [if_pos he];refine Ev.yes he ?_;by_cases hq:c.f2=e.f2
     ·rw [if_pos ⟨hc,by simp [hq]⟩];exact Ev.yes hq (Ev.now _)
     ·refine Ev.no hq ?_;have:(e.f2 :: flS ((l.take pos).drop (j + 1))).contains c.f2=(flS ((l.take pos).drop (j + 1))).contains c.f2:=by
       rw [List.contains_cons];simp [hq]
      rw [this];exact ihj
    ·rw [if_neg he];exact Ev.no he ihj
   ·rw [if_neg (fun x=>hc x.1)] at ihj ⊢;exact Ev.no hc ihj
theorem in_f (n m:Int):hucksterref16_in.f n m=some (wB n 0 (m - 1)):=by
 unfold hucksterref16_in.f wB;by_cases h:n ≥ 0
 ·rw [if_pos h,decide_eq_true (by omega:0 ≤ n),Bool.true_and];congr 2;apply propext;omega
 ·rw [if_neg h,decide_eq_false (by omega:¬ 0 ≤ n)];rfl
theorem clause_ev (l0 l1 l2:List ByteArray) (l3:List Cl) (l4:List Op_) (c:Cl) :
  Ev (fun k=>hucksterref16_Clause.f k l0 l1 l2 l3 l4 c.f0 c.f1 c.f2 c.f3 c.f4) (clB l0.length l1.length c):=by
 obtain ⟨k0,st,a,b,n⟩:=c;refine Ev.succ (Ev.congr (f:=fun _=>some (clB l0.length l1.length ⟨k0,st,a,b,n⟩)) (fun k=>?_) (Ev.now _));simp only [hucksterref16_Clause.f,hucksterref16_Clause.j0,in_f,Option.bind_some,clB];(have hw:∀ lo hi:Int,wB n lo hi=(decide (lo ≤ n) && decide (n ≤ hi)):=fun _ _=>rfl);rw [hw,hw];generalize wB a 0 (↑l0.length - 1)=p1;generalize wB b 0 (↑l0.length - 1)=p2;generalize wB a 0 (↑l1.length - 1)=p3;by_cases h4:k0=4
 ·subst h4;by_cases hab:a=b <;> cases p1 <;> cases p2 <;> simp [hab]
 ·by_cases h5:k0=5
  ·subst h5;by_cases hab:a=b <;> cases p1 <;> cases p2 <;> simp [hab]
  ·by_cases h9:k0=9
   ·subst h9;cases p3 <;> cases p2 <;> simp
   ·by_cases h6:k0=6
    ·subst h6;by_cases hb:b=0 <;> by_cases hn:0 ≤ n <;> by_cases hm:n ≤ 1000 <;> cases p1 <;> simp [hb,hn,hm]
    ·by_cases h7:k0=7
     ·subst h7;by_cases hb:b=0 <;> by_cases hn:0 ≤ n <;> by_cases hm:n ≤ 1000 <;> cases p3 <;> simp [hb,hn,hm]
     ·by_cases h8:k0=8
      ·subst h8;by_cases hb:b=0 <;> by_cases hn : -1000 ≤ n <;> by_cases hm:n ≤ 0 <;> cases p3 <;> simp [hb,hn,hm]
      ·simp [h4,h5,h6,h7,h8,h9]
def srt (k:Int):Int:=if k=1 ∨ k=2 then 1 else if k=3 ∨ k=4 then 2 else if k=6 then 3 else 0
theorem sort_ev (k0:Int):Ev (fun k=>hucksterref16_Sort.f k k0) (srt k0):=by
 refine Ev.succ (Ev.succ (Ev.congr (f:=fun _=>some (srt k0)) (fun k=>?_) (Ev.now _)));simp only [hucksterref16_Sort.f,hucksterref16_Sort.j0,hucksterref16_Sort.j1,srt];by_cases h1:k0=1 <;> by_cases h2:k0=2 <;> by_cases h3:k0=3 <;> by_cases h4:k0=4 <;> by_cases h6:k0=6 <;> simp [h1,h2,h3,h4,h6]
theorem doB_kinds {ns nc nn:Nat} {d:Dg} (h:doB ns nc nn d=true):d.f0=1 ∨ d.f0=2 ∨ d.f0=3 ∨ d.f0=4 ∨ d.f0=6:=by
 unfold doB at h;by_cases h1:d.f0=1 ∨ d.f0=2
 ·omega
 ·by_cases h3:d.f0=3 ∨ d.f0=4
  ·omega
  ·by_cases h6:d.f0=6
   ·omega
   ·rw [if_neg h1,if_neg h3,if_neg h6] at h;cases h
theorem th_srt {ns nc nn:Nat} {d e:Dg} (h:doB ns nc nn d=true) (g:doB ns nc nn e=true):toTh d=toTh e ↔ srt e.f0=srt d.f0∧e.f1=d.f1:=by
 have h1:=doB_kinds h;have h2:=doB_kinds g;unfold toTh srt;rcases h1 with h1|h1|h1|h1|h1 <;> rcases h2 with h2|h2|h2|h2|h2 <;> simp [h1,h2] <;> exact eq_comm
theorem oper_ev (l0 l1 l2:List ByteArray) (l3:List Cl) (l4:List Op_) (nm:ByteArray) (l:List Dg) (hl:l.length ≤ 4000000000) :
  Ev (fun k=>hucksterref16_Oper.f k l0 l1 l2 l3 l4 nm l) (operOk l0.length l1.length l2.length l):=by
 unfold hucksterref16_Oper.f;have hw:operOk l0.length l1.length l2.length l=(operU l0.length l1.length l2.length ((l.take 0).map toTh).reverse (l.drop 0) && wB l.length 1 16):=by
  unfold operOk;rw [Bool.and_comm];rfl
 rw [hw];have main:∀ (m pos:Nat),pos + m=l.length → (∀ e ∈ l.take pos,doB l0.length l1.length l2.length e=true) →
   Ev (fun k=>hucksterref16_Oper.l0 k [0,(l0.length:Int),(l1.length:Int),(l2.length:Int)] (pos:Int) nm l) (operU l0.length l1.length l2.length ((l.take pos).map toTh).reverse (l.drop pos) && wB l.length 1 16):=by
  intro m;induction m with
  | zero =>
   intro pos hp _;refine Ev.succ ?_;simp only [hucksterref16_Oper.l0];refine Ev.no (by omega) ?_;rw [List.drop_eq_nil_of_le (by omega),operU,Bool.true_and];unfold wB;by_cases h1:(l.length:Int) ≥ 1
   ·refine Ev.yes h1 (Ev.is ?_);rw [decide_eq_true (by omega:(1:Int) ≤ l.length),Bool.true_and]
   ·refine Ev.no h1 (Ev.is ?_);rw [decide_eq_false (by omega:¬ (1:Int) ≤ l.length),Bool.false_and]
  | succ m ih =>
   intro pos hp hd;(have hlt:pos < l.length:=by omega);refine Ev.succ ?_;simp only [hucksterref16_Oper.l0];have hrd:rd_T84 l (pos:Int)=l.getD pos z84:=rdDg_at l pos;have ih':=ih (pos + 1) (by omega);rw [take_getD l z84 pos hlt] at ih';rw [hrd,drop_getD l z84 pos hlt];generalize l.getD pos z84=d at *;refine Ev.yes (by omega) (Ev.yes (by omega) (Ev.bind (sort_ev d.f0) ?_));(have hs:0 ≤ srt d.f0∧srt d.f0 < 4:=by unfold srt;split <;> (try split) <;> (try split) <;> omega);refine Ev.yes hs.1 (Ev.yes (by simpa using hs.2) ?_);have hj1:∀ b,b = !doB l0.length l1.length l2.length d → Ev (fun k=>hucksterref16_Oper.j1 k [0,(l0.length:Int),(l1.length:Int),(l2.length:Int)] (pos:Int) (srt d.f0) b nm l d.f0 d.f1 d.f2)
     (operU l0.length l1.length l2.length ((l.take pos).map toTh).reverse (d :: l.drop (pos + 1)) && wB l.length 1 16):=by
    rintro b rfl;refine Ev.succ ?_;simp only [hucksterref16_Oper.j1];rw [operU];cases hdo:doB l0.length l1.length l2.length d
    ·exact Ev.yes rfl (Ev.now _)
    ·refine Ev.no (by simp) ?_;rw [Bool.true_and];have ih2:=ih' (fun e he=>by
      rcases List.mem_append.1 he with h|h
      ·exact hd e h
      ·rw [List.mem_singleton.1 h];exact hdo)
     rw [List.map_append,List.reverse_append] at ih2;have hseen:((l.take pos).map toTh).reverse.contains (toTh d)=((l.take pos).drop 0).any (fun e=>decide (srt e.f0=srt d.f0∧e.f1=d.f1)):=by
      rw [List.drop_zero,Bool.eq_iff_iff,List.contains_iff_mem,List.mem_reverse,List.mem_map,List.any_eq_true];constructor
      ·rintro ⟨e,he,hq⟩;exact ⟨e,he,decide_eq_true ((th_srt hdo (hd e he)).1 hq.symm)⟩
      ·rintro ⟨e,he,hq⟩;exact ⟨e,he,((th_srt hdo (hd e he)).2 (of_decide_eq_true hq)).symm⟩
     rw [hseen];refine Ev.loop (g:=fun k j=>hucksterref16_Oper.l1 k [0,(l0.length:Int),(l1.length:Int),(l2.length:Int)] (pos:Int) (srt d.f0) (j:Int) nm l d.f0 d.f1 d.f2)
      (spec:=fun j=>(!((l.take pos).drop j).any (fun e=>decide (srt e.f0=srt d.f0∧e.f1=d.f1)) && operU l0.length l1.length l2.length (toTh d :: ((l.take pos).map toTh).reverse) (l.drop (pos + 1))) && wB l.length 1 16) pos ?_ ?_ 0 (by omega)
     ·refine Ev.succ ?_;simp only [hucksterref16_Oper.l1];rw [wrap_up pos (by omega)];refine Ev.no (by omega) ?_;rw [List.drop_eq_nil_of_le (by rw [List.length_take];omega)];exact ih2
     ·intro j hj ihj;refine Ev.succ ?_;simp only [hucksterref16_Oper.l1];(have hjt:j < (l.take pos).length:=by rw [List.length_take];omega);have hrj:rd_T84 l (j:Int)=(l.take pos).getD j z84:=by
       rw [rdDg_at];simp [List.getD_eq_getElem?_getD,List.getElem?_take,hj]
      rw [wrap_up j (by omega),hrj,drop_getD (l.take pos) z84 j hjt];generalize (l.take pos).getD j z84=e at *;refine Ev.yes (by omega) (Ev.yes (by omega) (Ev.yes (by omega) (Ev.bind (sort_ev e.f0) ?_)));rw [List.any_cons];by_cases hq:srt e.f0=srt d.f0
      ·refine Ev.yes hq ?_;by_cases hq2:e.f1=d.f1
       ·rw [decide_eq_true ⟨hq,hq2⟩];exact Ev.yes hq2 (Ev.now _)
       ·rw [decide_eq_false (fun x=>hq2 x.2),Bool.false_or];exact Ev.no hq2 ihj
      ·rw [decide_eq_false (fun x=>hq x.1),Bool.false_or];exact Ev.no hq ihj
   rw [show hucksterref16_in.f d.f1 (rd [0,(l0.length:Int),(l1.length:Int),(l2.length:Int)] (srt d.f0))=_ from in_f _ _];refine Ev.bind1 rfl ?_;(have hwB:∀ lo hi:Int,wB d.f2 lo hi=(decide (lo ≤ d.f2) && decide (d.f2 ≤ hi)):=fun _ _=>rfl);by_cases h1:d.f0=1 ∨ d.f0=2
   ·(have hsr:srt d.f0=1:=by unfold srt;rw [if_pos h1]);(have hdo:doB l0.length l1.length l2.length d=(wB d.f1 0 ((l0.length:Int) - 1) && d.f2 == 0):=by unfold doB;rw [if_pos h1]);rw [hsr] at hj1 ⊢;rw [show rd [0,(l0.length:Int),(l1.length:Int),(l2.length:Int)] 1=l0.length from rfl];cases hin:wB d.f1 0 ((l0.length:Int) - 1)
    ·exact Ev.no (by simp) (hj1 true (by rw [hdo,hin];rfl))
    ·exact Ev.yes rfl (Ev.no (by decide) (hj1 _ (by rw [hdo,hin];rfl)))
   ·by_cases h3:d.f0=3 ∨ d.f0=4
    ·(have hsr:srt d.f0=2:=by unfold srt;rw [if_neg h1,if_pos h3]);(have hdo:doB l0.length l1.length l2.length d=(wB d.f1 0 ((l1.length:Int) - 1) && wB d.f2 1 1000):=by unfold doB;rw [if_neg h1,if_pos h3]);rw [hsr] at hj1 ⊢;rw [show rd [0,(l0.length:Int),(l1.length:Int),(l2.length:Int)] 2=l1.length from rfl];cases hin:wB d.f1 0 ((l1.length:Int) - 1)
     ·exact Ev.no (by simp) (hj1 true (by rw [hdo,hin];rfl))
     ·refine Ev.yes rfl (Ev.yes rfl ?_);by_cases hlo:d.f2 < 1
      ·exact Ev.yes hlo (hj1 true (by rw [hdo,hin,hwB,decide_eq_false (by omega:¬ 1 ≤ d.f2)];rfl))
      ·refine Ev.no hlo ?_;by_cases hhi:d.f2 > 1000
       ·exact Ev.yes hhi (hj1 true (by rw [hdo,hin,hwB,decide_eq_false (by omega:¬ d.f2 ≤ 1000),Bool.and_false];rfl))
       ·exact Ev.no hhi (hj1 false (by rw [hdo,hin,hwB,decide_eq_true (by omega:d.f2 ≤ 1000),decide_eq_true (by omega:1 ≤ d.f2)];rfl))
    ·by_cases h6:d.f0=6
     ·(have hsr:srt d.f0=3:=by unfold srt;rw [if_neg h1,if_neg h3,if_pos h6]);(have hdo:doB l0.length l1.length l2.length d=(wB d.f1 0 ((l2.length:Int) - 1) && d.f2 == 0):=by unfold doB;rw [if_neg h1,if_neg h3,if_pos h6]);rw [hsr] at hj1 ⊢;rw [show rd [0,(l0.length:Int),(l1.length:Int),(l2.length:Int)] 3=l2.length from rfl];cases hin:wB d.f1 0 ((l2.length:Int) - 1)
      ·exact Ev.no (by simp) (hj1 true (by rw [hdo,hin];rfl))
      ·exact Ev.yes rfl (Ev.no (by decide) (hj1 _ (by rw [hdo,hin];rfl)))
     ·(have hsr:srt d.f0=0:=by unfold srt;rw [if_neg h1,if_neg h3,if_neg h6]);(have hdo:doB l0.length l1.length l2.length d=false:=by unfold doB;rw [if_neg h1,if_neg h3,if_neg h6]);rw [hsr] at hj1 ⊢;rw [show rd [0,(l0.length:Int),(l1.length:Int),(l2.length:Int)] 0=0 from rfl];have hin:wB d.f1 0 (0 - 1)=false:=by
       unfold wB;by_cases h0:0 ≤ d.f1
       ·rw [decide_eq_false (by omega:¬ d.f1 ≤ 0 - 1),Bool.and_false]
       ·rw [decide_eq_false h0,Bool.false_and]
      rw [hin];exact Ev.no (by simp) (hj1 true (by rw [hdo];rfl))
 exact main l.length 0 (by omega) (fun e he=>by simp at he)
end Go.Proofs.Ytjbjbeihkoeciaa.X
set_option linter.unusedSimpArgs false
set_option linter.unusedVariables false
namespace Go.Proofs.Ytjbjbeihkoeciaa.X
open Go.RowKit Go.Proofs.YtjbjbeihkoeciaaW.PrintWords Go.Proofs.YtjbjbeihkoeciaaW.PrintLast Go.Proofs.YtjbjbeihkoeciaaW.PrintMore
theorem may_ev (l0 l1 l2:List ByteArray) (l3:List Cl) (l4:List Op_) (hs:∀ s ∈ namesL l0 l1 l2 l4,s.size ≤ maxLen) (hd:∀ o ∈ l4,o.f1.length ≤ 4000000000) :
  Ev (fun k=>hucksterref16_May.f k l0 l1 l2 l3 l4) (checkB l0 l1 l2 l3 l4):=by
 have hno:∀ b,b=true → checkB l0 l1 l2 l3 l4=false → Ev (fun k=>hucksterref16_May.j0 k b l0 l1 l2 l3 l4) (checkB l0 l1 l2 l3 l4):=by
  rintro b rfl h;refine Ev.succ ?_;simp only [hucksterref16_May.j0];rw [h];exact Ev.yes (by first|trivial|rfl) (Ev.now _)
 unfold hucksterref16_May.f;by_cases h0:6 < l0.length
 ·exact Ev.yes (by omega) (hno true rfl (by unfold checkB;rw [if_pos h0]))
 by_cases h1:4 < l1.length
 ·exact Ev.no (by omega) (Ev.yes (by omega) (hno true rfl (by unfold checkB;rw [if_neg h0,if_pos h1])))
 by_cases h2:3 < l2.length
 ·exact Ev.no (by omega) (Ev.no (by omega) (Ev.yes (by omega) (hno true rfl (by unfold checkB;rw [if_neg h0,if_neg h1,if_pos h2]))))
 by_cases h4:16 < l4.length
 ·exact Ev.no (by omega) (Ev.no (by omega) (Ev.no (by omega) (Ev.yes (by omega) (hno true rfl (by unfold checkB;rw [if_neg h0,if_neg h1,if_neg h2,if_pos h4])))))
 by_cases h3:12 < l3.length
 ·exact Ev.no (by omega) (Ev.no (by omega) (Ev.no (by omega) (Ev.no (by omega) (Ev.yes (by omega) (hno true rfl (by unfold checkB;rw [if_neg h0,if_neg h1,if_neg h2,if_neg h4,if_pos h3]))))))
 refine Ev.no (by omega) (Ev.no (by omega) (Ev.no (by omega) (Ev.no (by omega) (Ev.no (by omega) ?_))));have hcb:=checkB_at (l3:=l3) h0 h1 h2 h4 h3;(have hnl:(namesL l0 l1 l2 l4).length ≤ 4000000000:=by unfold namesL;simp;omega);refine Ev.bind (all_ev l0 l1 l2 l3 l4 (by omega) (by omega) (by omega) (by omega)) (Ev.bind (unlike_ev _ hnl hs) ?_);cases hn:namedOk (namesL l0 l1 l2 l4)
 ·exact Ev.no (by decide) (hno true rfl (by rw [hcb,hn,Bool.false_and]))
 refine Ev.yes rfl (Ev.bind (floors_ev l3 (by omega)) ?_);cases hf:leastOk l3
 ·exact hno _ rfl (by rw [hcb,hn,hf,Bool.false_and,Bool.and_false])
 refine Ev.succ ?_;simp only [hucksterref16_May.j0];refine Ev.no (by decide) ?_;rw [hcb,hn,hf,Bool.true_and,Bool.true_and];have hop:Ev (fun k=>hucksterref16_May.l1 k 0 l0 l1 l2 l3 l4) (!l4.any (fun x=>!operOk l0.length l1.length l2.length x.f1)):=by
  refine Ev.loop (g:=fun k pos=>hucksterref16_May.l1 k (pos:Int) l0 l1 l2 l3 l4) (spec:=fun pos=>!(l4.drop pos).any (fun x=>!operOk l0.length l1.length l2.length x.f1)) l4.length ?_ ?_ 0 (by omega)
  ·refine Ev.succ ?_;simp only [hucksterref16_May.l1];rw [List.drop_length];exact Ev.no (by omega) (Ev.now _)
  ·intro pos hp ih;refine Ev.succ ?_;simp only [hucksterref16_May.l1,rdOp_at];have hm:=getD_mem l4 z66 pos hp;rw [wrap_up pos (by omega),drop_getD l4 z66 pos hp,List.any_cons];generalize l4.getD pos z66=o at *;refine Ev.yes (by omega) (Ev.yes (by omega) (Ev.bind (oper_ev l0 l1 l2 l3 l4 o.f0 o.f1 (hd o hm)) ?_));cases operOk l0.length l1.length l2.length o.f1
   ·exact Ev.no (by decide) (Ev.now _)
   ·exact Ev.yes rfl ih
 refine Ev.loop (g:=fun k pos=>hucksterref16_May.l0 k (pos:Int) l0 l1 l2 l3 l4) (spec:=fun pos=>!(l3.drop pos).any (fun x=>!clB l0.length l1.length x) && !l4.any (fun x=>!operOk l0.length l1.length l2.length x.f1)) l3.length ?_ ?_ 0 (by omega)
 ·refine Ev.succ ?_;simp only [hucksterref16_May.l0];rw [List.drop_length];exact Ev.no (by omega) hop
 ·intro pos hp ih;refine Ev.succ ?_;simp only [hucksterref16_May.l0,rdCl_at];rw [wrap_up pos (by omega),drop_getD l3 z70 pos hp,List.any_cons];generalize l3.getD pos z70=c at *;refine Ev.yes (by omega) (Ev.yes (by omega) (Ev.bind (clause_ev l0 l1 l2 l3 l4 c) ?_));cases clB l0.length l1.length c
  ·exact Ev.no (by decide) (Ev.now _)
  ·exact Ev.yes rfl ih
def lightB (l0 l1 l2:List ByteArray) (l3:List Cl) (l4:List Op_):Bool :=
 if 20 < l0.length then false else if 20 < l1.length then false else if 20 < l2.length then false else if 30 < l3.length then false else if 30 < l4.length then false
 else (namesL l0 l1 l2 l4).all (fun s=>decide (s.size ≤ 100)) && l4.all (fun o=>decide (o.f1.length ≤ 20))
theorem lightB_ok {l0 l1 l2:List ByteArray} {l3:List Cl} {l4:List Op_} (h:lightB l0 l1 l2 l3 l4=true) :
  l0.length ≤ 20∧l1.length ≤ 20∧l2.length ≤ 20∧l3.length ≤ 30∧l4.length ≤ 30∧(∀ s ∈ namesL l0 l1 l2 l4,s.size ≤ 100)∧∀ o ∈ l4,o.f1.length ≤ 20:=by
 unfold lightB at h;(split at h;· cases h);(split at h;· cases h);(split at h;· cases h);(split at h;· cases h);(split at h;· cases h);rw [Bool.and_eq_true,List.all_eq_true,List.all_eq_true] at h;exact ⟨by omega,by omega,by omega,by omega,by omega,fun s hs=>of_decide_eq_true (h.1 s hs),fun o ho=>of_decide_eq_true (h.2 o ho)⟩
theorem light_ev (l0 l1 l2:List ByteArray) (l3:List Cl) (l4:List Op_):Ev (fun k=>hucksterlaw16_Light.f k l0 l1 l2 l3 l4) (lightB l0 l1 l2 l3 l4):=by
 have hno:∀ b,b=true → lightB l0 l1 l2 l3 l4=false → Ev (fun k=>hucksterlaw16_Light.j0 k b l0 l1 l2 l3 l4) (lightB l0 l1 l2 l3 l4):=by
  rintro b rfl h;refine Ev.succ ?_;simp only [hucksterlaw16_Light.j0];rw [h];exact Ev.yes (by first|trivial|rfl) (Ev.now _)
 unfold hucksterlaw16_Light.f;by_cases h0:20 < l0.length
 ·exact Ev.yes (by omega) (hno true rfl (by unfold lightB;rw [if_pos h0]))
 by_cases h1:20 < l1.length
 ·exact Ev.no (by omega) (Ev.yes (by omega) (hno true rfl (by unfold lightB;rw [if_neg h0,if_pos h1])))
 by_cases h2:20 < l2.length
 ·exact Ev.no (by omega) (Ev.no (by omega) (Ev.yes (by omega) (hno true rfl (by unfold lightB;rw [if_neg h0,if_neg h1,if_pos h2]))))
 by_cases h3:30 < l3.length
 ·exact Ev.no (by omega) (Ev.no (by omega) (Ev.no (by omega) (Ev.yes (by omega) (hno true rfl (by unfold lightB;rw [if_neg h0,if_neg h1,if_neg h2,if_pos h3])))))
 refine Ev.no (by omega) (Ev.no (by omega) (Ev.no (by omega) (Ev.no (by omega) ?_)));by_cases h4:30 < l4.length
 ·exact hno _ (decide_eq_true (by omega)) (by unfold lightB;rw [if_neg h0,if_neg h1,if_neg h2,if_neg h3,if_pos h4])
 rw [decide_eq_false (by omega:¬ (l4.length:Int) > 30)];refine Ev.succ ?_;simp only [hucksterlaw16_Light.j0];refine Ev.no (by decide) (Ev.bind (all_ev l0 l1 l2 l3 l4 (by omega) (by omega) (by omega) (by omega)) ?_);(have hu:lightB l0 l1 l2 l3 l4=((namesL l0 l1 l2 l4).all (fun s=>decide (s.size ≤ 100)) && l4.all (fun o=>decide (o.f1.length ≤ 20))):=by unfold lightB;rw [if_neg h0,if_neg h1,if_neg h2,if_neg h3,if_neg h4]);(have hnl:(namesL l0 l1 l2 l4).length ≤ 4000000000:=by unfold namesL;simp;omega);rw [hu];generalize namesL l0 l1 l2 l4=nl at *;have hop:Ev (fun k=>hucksterlaw16_Light.l1 k 0 l0 l1 l2 l3 l4) (l4.all (fun o=>decide (o.f1.length ≤ 20))):=by
  refine Ev.loop (g:=fun k pos=>hucksterlaw16_Light.l1 k (pos:Int) l0 l1 l2 l3 l4) (spec:=fun pos=>(l4.drop pos).all (fun o=>decide (o.f1.length ≤ 20))) l4.length ?_ ?_ 0 (by omega)
  ·refine Ev.succ ?_;simp only [hucksterlaw16_Light.l1];rw [List.drop_length];exact Ev.no (by omega) (Ev.now _)
  ·intro pos hp ih;refine Ev.succ ?_;simp only [hucksterlaw16_Light.l1,rdOp_at];rw [wrap_up pos (by omega),drop_getD l4 z66 pos hp,List.all_cons];generalize l4.getD pos z66=o at *;refine Ev.yes (by omega) (Ev.yes (by omega) ?_);by_cases hq:o.f1.length ≤ 20
   ·rw [decide_eq_true hq,Bool.true_and];exact Ev.no (by omega) ih
   ·rw [decide_eq_false hq];exact Ev.yes (by omega) (Ev.now _)
 refine Ev.loop (g:=fun k pos=>hucksterlaw16_Light.l0 k nl (pos:Int) l0 l1 l2 l3 l4) (spec:=fun pos=>(nl.drop pos).all (fun s=>decide (s.size ≤ 100)) && l4.all (fun o=>decide (o.f1.length ≤ 20))) nl.length ?_ ?_ 0 (by omega)
 ·refine Ev.succ ?_;simp only [hucksterlaw16_Light.l0];rw [List.drop_length];exact Ev.no (by omega) hop
 ·intro pos hp ih;refine Ev.succ ?_;simp only [hucksterlaw16_Light.l0,rdOf_at];rw [wrap_up pos (by omega),drop_getD nl ByteArray.empty pos hp,List.all_cons];generalize nl.getD pos ByteArray.empty=s at *;refine Ev.yes (by omega) (Ev.yes (by omega) ?_);by_cases hq:s.size ≤ 100
  ·rw [decide_eq_true hq,Bool.true_and];exact Ev.no (by omega) ih
  ·rw [decide_eq_false hq];exact Ev.yes (by omega) (Ev.now _)
end Go.Proofs.Ytjbjbeihkoeciaa.X
namespace Go.Proofs.Ytjbjbeihkoeciaa.X
open Go.RowKit Go.Proofs.YtjbjbeihkoeciaaW.PrintWords Go.Proofs.YtjbjbeihkoeciaaW.PrintLast Go.Proofs.YtjbjbeihkoeciaaW.PrintMore
attribute [local go_sem] max2_int min2_int max_two min_two max_three min_three max_four min_four
set_option linter.unusedVariables false
set_option linter.unusedSimpArgs false
def eval_right.f (a0:ByteArray):Option (Bool):=if a0.toList=([]:List UInt8) then (some false) else (some (decide ((a0.size:Int) ≤ 32)))
set_option maxHeartbeats 8000000 in
set_option maxRecDepth 100000 in
theorem eval_right.calls (a0:ByteArray) (r:Bool) (w:World) (h:eval_right.f a0=some r) :
  Calls Try.prog 55 #[.string a0] w fun e w'=>e = .returned (.bool r)∧Drawn0 w w':=by
 have H:(if a0.toList=([]:List UInt8) then (some false) else (some (decide ((a0.size:Int) ≤ 32))))=some r:=h;clear h;by_cases c2:a0.toList=([]:List UInt8)
 ·rw [if_pos c2] at H;have c2b0:(a0.toList == ([]:List UInt8))=true:=beq_iff_eq.mpr c2;have c2b1:(a0.toList != ([]:List UInt8))=false:=bne_eq_false_iff_eq.mpr c2;clear c2;obtain rfl:=Option.some.inj H;go_enter Try.func55,Try.ntmps55;go_wp2;go_ret;exact ⟨by first|rfl|(simp;done)|(simp [*];done),tR⟩
 ·rw [if_neg c2] at H;have c2b0:(a0.toList == ([]:List UInt8))=false:=beq_eq_false_iff_ne.mpr c2;have c2b1:(a0.toList != ([]:List UInt8))=true:=bne_iff_ne.mpr c2;obtain rfl:=Option.some.inj H;go_enter Try.func55,Try.ntmps55;go_wp2;go_ret;exact ⟨by first|rfl|(simp;done)|(simp [*];done),tR⟩
end Go.Proofs.Ytjbjbeihkoeciaa.X
namespace Go.Proofs.Ytjbjbeihkoeciaa.X
open Go.RowKit Go.Proofs.YtjbjbeihkoeciaaW.PrintWords Go.Proofs.YtjbjbeihkoeciaaW.PrintLast Go.Proofs.YtjbjbeihkoeciaaW.PrintMore
attribute [local go_sem] max2_int min2_int max_two min_two max_three min_three max_four min_four
set_option linter.unusedVariables false
set_option linter.unusedSimpArgs false
def eval_set.l0:Nat → List ByteArray → List ByteArray → Int → Int → Option (Bool)
 | 0,_,_,_,_=>none
 | k + 1,x0,x5,x6,x7=>if x7 < x6 then (if 0 ≤ x7 then (if x7 < (x5.length:Int) then ((eval_right.f (rdOf ByteArray.empty x5 x7)).bind fun t274=>(if t274=true then (if x7 > 0 then (if 0 ≤ (wrap64 (x7 - 1)) then (if (wrap64 (x7 - 1)) < (x0.length:Int) then (if ((Op.bytesLess ((rdOf ByteArray.empty x0 (wrap64 (x7 - 1))).toList) ((rdOf ByteArray.empty x5 x7).toList))=true) then (eval_set.l0 k x0 x5 x6 (wrap64 (x7 + 1))) else (some false)) else (none)) else (none)) else (eval_set.l0 k x0 x5 x6 (wrap64 (x7 + 1)))) else (some false))) else (none)) else (none)) else (some (decide ((x0.length:Int) ≤ 4000)))
def eval_set.f (k:Nat) (l0:List ByteArray):Option (Bool):=eval_set.l0 k l0 l0 (l0.length:Int) 0
set_option maxHeartbeats 8000000 in
set_option maxRecDepth 100000 in
theorem eval_set.calls (k:Nat) (A0:Option Addr) (c0:Nat) (l0:List ByteArray) (r:Bool) (w:World) (hr0:Kd.C Kd.string w A0 l0.length l0) (hc0:l0.length ≤ c0) (h:eval_set.f k l0=some r) :
  Calls Try.prog 97 #[.slice A0 l0.length c0] w fun e w'=>e = .returned (.bool r)∧Drawn0 w w':=by
 have HR0:=Aside0.mk hr0;have HC0:=Aside0.mk hc0;clear hr0 hc0;have H:(eval_set.l0 k l0 l0 (l0.length:Int) 0)=some r:=h;clear h;have H':=Aside0.mk H;clear H;go_enter Try.func97,Try.ntmps97;go_wp2;go_loopg [7] k (fun kq v7 w'=>∃ (x7_1:Int),v7 = .int .i64 x7_1∧Aside0 (eval_set.l0 kq l0 l0 (l0.length:Int) x7_1=some r)∧Aside0 (kq ≤ k)∧Drawn0 w w')
 case atStart=>exact ⟨(0),tS,H',⟨Nat.le_refl _⟩,tR⟩
 case round =>
  clear H';obtain ⟨x7_1,rfl,HA,HK1,⟨m1,rfl⟩⟩:=hrel;cases gk with
  | zero=>exact absurd HA.out (by simp [eval_set.l0])
  | succ k1 =>
   have H:=HA.out;clear HA;simp only [eval_set.l0] at H;by_cases c2:x7_1 < (l0.length:Int)
   ·rw [if_pos c2] at H;have c2b0:=decide_eq_true c2;clear c2;by_cases c3:0 ≤ x7_1
    ·rw [if_pos c3] at H;have c3b0:=decide_eq_true c3;clear c3;by_cases c4:x7_1 < (l0.length:Int)
     ·rw [if_pos c4] at H;have c4b0:=decide_eq_true c4;clear c4;replace H:=Option.bind_eq_some_iff.mp H;obtain ⟨t274,A50,H⟩:=H;replace H:(if t274=true then (if x7_1 > 0 then (if 0 ≤ (wrap64 (x7_1 - 1)) then (if (wrap64 (x7_1 - 1)) < (l0.length:Int) then (if ((Op.bytesLess ((rdOf ByteArray.empty l0 (wrap64 (x7_1 - 1))).toList) ((rdOf ByteArray.empty l0 x7_1).toList))=true) then (eval_set.l0 k1 l0 l0 (l0.length:Int) (wrap64 (x7_1 + 1))) else (some false)) else (none)) else (none)) else (eval_set.l0 k1 l0 l0 (l0.length:Int) (wrap64 (x7_1 + 1)))) else (some false))=some r:=H;have A5:=Aside0.mk A50;clear A50;by_cases c6:t274=true
      ·subst c6;(have H1:(if x7_1 > 0 then (if 0 ≤ (wrap64 (x7_1 - 1)) then (if (wrap64 (x7_1 - 1)) < (l0.length:Int) then (if ((Op.bytesLess ((rdOf ByteArray.empty l0 (wrap64 (x7_1 - 1))).toList) ((rdOf ByteArray.empty l0 x7_1).toList))=true) then (eval_set.l0 k1 l0 l0 (l0.length:Int) (wrap64 (x7_1 + 1))) else (some false)) else (none)) else (none)) else (eval_set.l0 k1 l0 l0 (l0.length:Int) (wrap64 (x7_1 + 1))))=some r:=by rw [if_pos rfl] at H;exact H);clear H;have H:=H1;clear H1;by_cases c7:x7_1 > 0
       ·rw [if_pos c7] at H;have c7b0:=decide_eq_true c7;clear c7;obtain ⟨ji8,hji8⟩:∃ j_:Int,(wrap64 (x7_1 - 1))=j_:=⟨_,rfl⟩;(replace H:(if 0 ≤ (ji8) then (if (ji8) < (l0.length:Int) then (if ((Op.bytesLess ((rdOf ByteArray.empty l0 (ji8)).toList) ((rdOf ByteArray.empty l0 x7_1).toList))=true) then (eval_set.l0 k1 l0 l0 (l0.length:Int) (wrap64 (x7_1 + 1))) else (some false)) else (none)) else (none))=some r:=by first|(rw [hji8] at H;exact H)|(simp only [hji8] at H ⊢;exact H));(try rw [hji8] at A5);have hji8w:(IntKind.i64.wrap (x7_1 - 1))=ji8:=(i64_w _).trans hji8;by_cases c9:0 ≤ (ji8)
        ·rw [if_pos c9] at H;have c9b0:=decide_eq_true c9;clear c9;by_cases c10:(ji8) < (l0.length:Int)
         ·rw [if_pos c10] at H;have c10b0:=decide_eq_true c10;clear c10;by_cases c11:((Op.bytesLess ((rdOf ByteArray.empty l0 (ji8)).toList) ((rdOf ByteArray.empty l0 x7_1).toList))=true)
          ·rw [if_pos c11] at H;have c11b0:(Op.bytesLess ((rdOf ByteArray.empty l0 (ji8)).toList) ((rdOf ByteArray.empty l0 x7_1).toList))=true:=c11;clear c11;have H':=Aside0.mk H;clear H;have p273:0 ≤ (x7_1:Int):=tD;have q273:x7_1 < (l0.length:Int):=tD;obtain ⟨ad273,e273,hx273_0⟩:=Kd.at_string HR0.out x7_1 p273 q273;cases e273;replace p273:=eq_true p273;replace q273:=eq_true q273;go_wp2_with (first|((with_reducible refine gate_callee (f:=55) rfl ?_);refine gL Try.func55 (some 13) #[.string (rdOf ByteArray.empty l0 x7_1)] ?_;(with_reducible refine (eval_right.calls (rdOf ByteArray.empty l0 x7_1) true _ A5.out).mono ?_);rintro e w' ⟨rfl,⟨nd,rfl⟩⟩;refine ⟨_,rfl,?_⟩;have p275:0 ≤ ((ji8):Int):=tD;have q275:(ji8) < (l0.length:Int):=tD;obtain ⟨ad275,e275,hx275_0⟩:=Kd.at_string HR0.out (ji8) p275 q275;obtain rfl:ad273=ad275:=(by injection e275);replace p275:=eq_true p275;replace q275:=eq_true q275));go_roundg k1
           case measure=>have:=HK1.out;omega
           case rel=>exact ⟨(wrap64 (x7_1 + 1)),tS,H',⟨by have:=HK1.out;omega⟩,tR⟩
          ·rw [if_neg c11] at H;(have c11b0:(Op.bytesLess ((rdOf ByteArray.empty l0 (ji8)).toList) ((rdOf ByteArray.empty l0 x7_1).toList))=false:=by simpa using c11);clear c11;obtain rfl:=Option.some.inj H;have p273:0 ≤ (x7_1:Int):=tD;have q273:x7_1 < (l0.length:Int):=tD;obtain ⟨ad273,e273,hx273_0⟩:=Kd.at_string HR0.out x7_1 p273 q273;cases e273;replace p273:=eq_true p273;replace q273:=eq_true q273;go_wp2_with (first|((with_reducible refine gate_callee (f:=55) rfl ?_);refine gL Try.func55 (some 13) #[.string (rdOf ByteArray.empty l0 x7_1)] ?_;(with_reducible refine (eval_right.calls (rdOf ByteArray.empty l0 x7_1) true _ A5.out).mono ?_);rintro e w' ⟨rfl,⟨nd,rfl⟩⟩;refine ⟨_,rfl,?_⟩;have p275:0 ≤ ((ji8):Int):=tD;have q275:(ji8) < (l0.length:Int):=tD;obtain ⟨ad275,e275,hx275_0⟩:=Kd.at_string HR0.out (ji8) p275 q275;obtain rfl:ad273=ad275:=(by injection e275);replace p275:=eq_true p275;replace q275:=eq_true q275));go_ret;exact ⟨by first|rfl|(simp;done)|(simp only [← hji8] <;> (first|rfl|simp))|(simp [*];done),tR⟩
         ·rw [if_neg c10] at H;exact absurd H (by simp)
        ·rw [if_neg c9] at H;exact absurd H (by simp)
       ·rw [if_neg c7] at H;have c7b0:decide (0 < x7_1)=false:=decide_eq_false c7;clear c7;have H':=Aside0.mk H;clear H;have p273:0 ≤ (x7_1:Int):=tD;have q273:x7_1 < (l0.length:Int):=tD;obtain ⟨ad273,e273,hx273_0⟩:=Kd.at_string HR0.out x7_1 p273 q273;cases e273;replace p273:=eq_true p273;replace q273:=eq_true q273;go_wp2_with (first|((with_reducible refine gate_callee (f:=55) rfl ?_);refine gL Try.func55 (some 13) #[.string (rdOf ByteArray.empty l0 x7_1)] ?_;(with_reducible refine (eval_right.calls (rdOf ByteArray.empty l0 x7_1) true _ A5.out).mono ?_);rintro e w' ⟨rfl,⟨nd,rfl⟩⟩;refine ⟨_,rfl,?_⟩));go_roundg k1
        case measure=>have:=HK1.out;omega
        case rel=>exact ⟨(wrap64 (x7_1 + 1)),tS,H',⟨by have:=HK1.out;omega⟩,tR⟩
      ·replace c6:=Bool.eq_false_iff.mpr c6;subst c6;(have H1:(some false)=some r:=by rw [if_neg (show ¬ (false=true) by decide)] at H;exact H);clear H;have H:=H1;clear H1;obtain rfl:=Option.some.inj H;have p273:0 ≤ (x7_1:Int):=tD;have q273:x7_1 < (l0.length:Int):=tD;obtain ⟨ad273,e273,hx273_0⟩:=Kd.at_string HR0.out x7_1 p273 q273;cases e273;replace p273:=eq_true p273;replace q273:=eq_true q273;go_wp2_with (first|((with_reducible refine gate_callee (f:=55) rfl ?_);refine gL Try.func55 (some 13) #[.string (rdOf ByteArray.empty l0 x7_1)] ?_;(with_reducible refine (eval_right.calls (rdOf ByteArray.empty l0 x7_1) false _ A5.out).mono ?_);rintro e w' ⟨rfl,⟨nd,rfl⟩⟩;refine ⟨_,rfl,?_⟩));go_ret;exact ⟨by first|rfl|(simp;done)|(simp [*];done),tR⟩
     ·rw [if_neg c4] at H;exact absurd H (by simp)
    ·rw [if_neg c3] at H;exact absurd H (by simp)
   ·rw [if_neg c2] at H;have c2b0:decide (x7_1 < (l0.length:Int))=false:=decide_eq_false c2;clear c2;obtain rfl:=Option.some.inj H;go_wp2;go_ret;exact ⟨by first|rfl|(simp;done)|(simp [*];done),tR⟩
end Go.Proofs.Ytjbjbeihkoeciaa.X
namespace Go.Proofs.Ytjbjbeihkoeciaa.X
open Go.RowKit Go.Proofs.YtjbjbeihkoeciaaW.PrintWords Go.Proofs.YtjbjbeihkoeciaaW.PrintLast Go.Proofs.YtjbjbeihkoeciaaW.PrintMore
attribute [local go_sem] max2_int min2_int max_two min_two max_three min_three max_four min_four
set_option linter.unusedVariables false
set_option linter.unusedSimpArgs false
def cmp_isNaN_string.f (a0:ByteArray):Option (Bool):=some (a0.toList != a0.toList)
set_option maxHeartbeats 8000000 in
set_option maxRecDepth 100000 in
theorem cmp_isNaN_string.calls (a0:ByteArray) (r:Bool) (w:World) (h:cmp_isNaN_string.f a0=some r) :
  Calls Try.prog 153 #[.string a0] w fun e w'=>e = .returned (.bool r)∧Drawn0 w w':=by
 have H:(some (a0.toList != a0.toList))=some r:=h;clear h;obtain rfl:=Option.some.inj H;go_enter Try.func153,Try.ntmps153;go_wp2;go_ret;exact ⟨by first|rfl|(simp;done)|(simp [*];done),tR⟩
end Go.Proofs.Ytjbjbeihkoeciaa.X
namespace Go.Proofs.Ytjbjbeihkoeciaa.X
open Go.RowKit Go.Proofs.YtjbjbeihkoeciaaW.PrintWords Go.Proofs.YtjbjbeihkoeciaaW.PrintLast Go.Proofs.YtjbjbeihkoeciaaW.PrintMore
attribute [local go_sem] max2_int min2_int max_two min_two max_three min_three max_four min_four
set_option linter.unusedVariables false
set_option linter.unusedSimpArgs false
def cmp_Less_string.f (a0:ByteArray) (a1:ByteArray):Option (Bool):=(cmp_isNaN_string.f a0).bind fun t370=>(if t370=true then ((cmp_isNaN_string.f a1).bind fun t371=>(if t371=true then (some (Op.bytesLess a0.toList a1.toList)) else (some true))) else (some (Op.bytesLess a0.toList a1.toList)))
set_option maxHeartbeats 8000000 in
set_option maxRecDepth 100000 in
theorem cmp_Less_string.calls (a0:ByteArray) (a1:ByteArray) (r:Bool) (w:World) (h:cmp_Less_string.f a0 a1=some r) :
  Calls Try.prog 126 #[.string a0,.string a1] w fun e w'=>e = .returned (.bool r)∧Drawn0 w w':=by
 have H:((cmp_isNaN_string.f a0).bind fun t370=>(if t370=true then ((cmp_isNaN_string.f a1).bind fun t371=>(if t371=true then (some (Op.bytesLess a0.toList a1.toList)) else (some true))) else (some (Op.bytesLess a0.toList a1.toList))))=some r:=h;clear h;replace H:=Option.bind_eq_some_iff.mp H;obtain ⟨t370,A30,H⟩:=H;replace H:(if t370=true then ((cmp_isNaN_string.f a1).bind fun t371=>(if t371=true then (some (Op.bytesLess a0.toList a1.toList)) else (some true))) else (some (Op.bytesLess a0.toList a1.toList)))=some r:=H;have A3:=Aside0.mk A30;clear A30;by_cases c4:t370=true
 ·subst c4;(have H1:((cmp_isNaN_string.f a1).bind fun t371=>(if t371=true then (some (Op.bytesLess a0.toList a1.toList)) else (some true)))=some r:=by rw [if_pos rfl] at H;exact H);clear H;have H:=H1;clear H1;replace H:=Option.bind_eq_some_iff.mp H;obtain ⟨t371,A50,H⟩:=H;replace H:(if t371=true then (some (Op.bytesLess a0.toList a1.toList)) else (some true))=some r:=H;have A5:=Aside0.mk A50;clear A50;by_cases c6:t371=true
  ·subst c6;(have H1:(some (Op.bytesLess a0.toList a1.toList))=some r:=by rw [if_pos rfl] at H;exact H);clear H;have H:=H1;clear H1;obtain rfl:=Option.some.inj H;go_enter Try.func126,Try.ntmps126;go_wp2_with (first|((with_reducible refine gate_callee (f:=153) rfl ?_);refine gL Try.func153 (some 6) #[.string a0] ?_;(with_reducible refine (cmp_isNaN_string.calls a0 true _ A3.out).mono ?_);rintro e w' ⟨rfl,⟨nd,rfl⟩⟩;refine ⟨_,rfl,?_⟩)|(go_at_call 153;(with_reducible refine (cmp_isNaN_string.calls a1 true _ A5.out).mono ?_);rintro e w' ⟨rfl,⟨nd,rfl⟩⟩));go_ret;exact ⟨by first|rfl|(simp;done)|(simp [*];done),tR⟩
  ·replace c6:=Bool.eq_false_iff.mpr c6;subst c6;(have H1:(some true)=some r:=by rw [if_neg (show ¬ (false=true) by decide)] at H;exact H);clear H;have H:=H1;clear H1;obtain rfl:=Option.some.inj H;go_enter Try.func126,Try.ntmps126;go_wp2_with (first|((with_reducible refine gate_callee (f:=153) rfl ?_);refine gL Try.func153 (some 6) #[.string a0] ?_;(with_reducible refine (cmp_isNaN_string.calls a0 true _ A3.out).mono ?_);rintro e w' ⟨rfl,⟨nd,rfl⟩⟩;refine ⟨_,rfl,?_⟩)|(go_at_call 153;(with_reducible refine (cmp_isNaN_string.calls a1 false _ A5.out).mono ?_);rintro e w' ⟨rfl,⟨nd,rfl⟩⟩));go_ret;exact ⟨by first|rfl|(simp;done)|(simp [*];done),tR⟩
 ·replace c4:=Bool.eq_false_iff.mpr c4;subst c4;(have H1:(some (Op.bytesLess a0.toList a1.toList))=some r:=by rw [if_neg (show ¬ (false=true) by decide)] at H;exact H);clear H;have H:=H1;clear H1;obtain rfl:=Option.some.inj H;go_enter Try.func126,Try.ntmps126;go_wp2_with (first|((with_reducible refine gate_callee (f:=153) rfl ?_);refine gL Try.func153 (some 6) #[.string a0] ?_;(with_reducible refine (cmp_isNaN_string.calls a0 false _ A3.out).mono ?_);rintro e w' ⟨rfl,⟨nd,rfl⟩⟩;refine ⟨_,rfl,?_⟩));go_ret;exact ⟨by first|rfl|(simp;done)|(simp [*];done),tR⟩
end Go.Proofs.Ytjbjbeihkoeciaa.X
namespace Go.Proofs.Ytjbjbeihkoeciaa.X
open Go.RowKit Go.Proofs.YtjbjbeihkoeciaaW.PrintWords Go.Proofs.YtjbjbeihkoeciaaW.PrintLast Go.Proofs.YtjbjbeihkoeciaaW.PrintMore
attribute [local go_sem] max2_int min2_int max_two min_two max_three min_three max_four min_four
set_option linter.unusedVariables false
set_option linter.unusedSimpArgs false
def slices_isNaN_string.f (a0:ByteArray):Option (Bool):=some (a0.toList != a0.toList)
set_option maxHeartbeats 8000000 in
set_option maxRecDepth 100000 in
theorem slices_isNaN_string.calls (a0:ByteArray) (r:Bool) (w:World) (h:slices_isNaN_string.f a0=some r) :
  Calls Try.prog 127 #[.string a0] w fun e w'=>e = .returned (.bool r)∧Drawn0 w w':=by
 have H:(some (a0.toList != a0.toList))=some r:=h;clear h;obtain rfl:=Option.some.inj H;go_enter Try.func127,Try.ntmps127;go_wp2;go_ret;exact ⟨by first|rfl|(simp;done)|(simp [*];done),tR⟩
end Go.Proofs.Ytjbjbeihkoeciaa.X
namespace Go.Proofs.Ytjbjbeihkoeciaa.X
open Go.RowKit Go.Proofs.YtjbjbeihkoeciaaW.PrintWords Go.Proofs.YtjbjbeihkoeciaaW.PrintLast Go.Proofs.YtjbjbeihkoeciaaW.PrintMore
attribute [local go_sem] max2_int min2_int max_two min_two max_three min_three max_four min_four
set_option linter.unusedVariables false
set_option linter.unusedSimpArgs false
def slices_BinarySearch_string.l0:Nat → List ByteArray → ByteArray → Int → Int → Int → Option (Int × Bool)
 | 0,_,_,_,_,_=>none
 | k + 1,x0,x1,x6,x7,x8=>if x7 < x8 then (if 0 ≤ (wrap64 ((IntKind.u64.wrap (wrap64 (x7 + x8))) / 2)) then (if (wrap64 ((IntKind.u64.wrap (wrap64 (x7 + x8))) / 2)) < (x0.length:Int) then ((cmp_Less_string.f (rdOf ByteArray.empty x0 (wrap64 ((IntKind.u64.wrap (wrap64 (x7 + x8))) / 2))) x1).bind fun t373=>(if t373=true then (slices_BinarySearch_string.l0 k x0 x1 x6 (wrap64 ((wrap64 ((IntKind.u64.wrap (wrap64 (x7 + x8))) / 2)) + 1)) x8) else (slices_BinarySearch_string.l0 k x0 x1 x6 x7 (wrap64 ((IntKind.u64.wrap (wrap64 (x7 + x8))) / 2))))) else (none)) else (none)) else (if x7 < x6 then (if 0 ≤ x7 then (if x7 < (x0.length:Int) then (if (rdOf ByteArray.empty x0 x7).toList=x1.toList then (some (x7,true)) else ((slices_isNaN_string.f (rdOf ByteArray.empty x0 x7)).bind fun t376=>(if t376=true then ((slices_isNaN_string.f x1).bind fun t377=>(some (x7,t377))) else (some (x7,false))))) else (none)) else (none)) else (some (x7,false)))
def slices_BinarySearch_string.f (k:Nat) (l0:List ByteArray) (a1:ByteArray):Option (Int × Bool):=slices_BinarySearch_string.l0 k l0 a1 (l0.length:Int) 0 (l0.length:Int)
set_option maxHeartbeats 8000000 in
set_option maxRecDepth 100000 in
theorem slices_BinarySearch_string.calls (k:Nat) (A0:Option Addr) (c0:Nat) (l0:List ByteArray) (a1:ByteArray) (r1:Int) (r2:Bool) (w:World) (hr0:Kd.C Kd.string w A0 l0.length l0) (hc0:l0.length ≤ c0) (h:slices_BinarySearch_string.f k l0 a1=some (r1,r2)) :
  Calls Try.prog 87 #[.slice A0 l0.length c0,.string a1] w fun e w'=>e = .returned (.tuple #[.int .i64 r1,.bool r2])∧Drawn0 w w':=by
 have HR0:=Aside0.mk hr0;have HC0:=Aside0.mk hc0;clear hr0 hc0;have H:(slices_BinarySearch_string.l0 k l0 a1 (l0.length:Int) 0 (l0.length:Int))=some (r1,r2):=h;clear h;have H':=Aside0.mk H;clear H;go_enter Try.func87,Try.ntmps87;go_wp2;go_loopg [7,8] k (fun kq v7 v8 w'=>∃ (x7_1:Int) (x8_1:Int),v7 = .int .i64 x7_1∧v8 = .int .i64 x8_1∧Aside0 (slices_BinarySearch_string.l0 kq l0 a1 (l0.length:Int) x7_1 x8_1=some (r1,r2))∧Aside0 (kq ≤ k)∧Drawn0 w w')
 case atStart=>exact ⟨(0),((l0.length:Int)),tS,tS,H',⟨Nat.le_refl _⟩,tR⟩
 case round =>
  clear H';(try clear p2);obtain ⟨x7_1,x8_1,rfl,rfl,HA,HK1,⟨m1,rfl⟩⟩:=hrel;cases gk with
  | zero=>exact absurd HA.out (by simp [slices_BinarySearch_string.l0])
  | succ k1 =>
   have H:=HA.out;clear HA;simp only [slices_BinarySearch_string.l0] at H;by_cases c3:x7_1 < x8_1
   ·rw [if_pos c3] at H;have c3b0:=decide_eq_true c3;clear c3;obtain ⟨ji4,hji4⟩:∃ j_:Int,(wrap64 ((IntKind.u64.wrap (wrap64 (x7_1 + x8_1))) / 2))=j_:=⟨_,rfl⟩;(replace H:(if 0 ≤ (ji4) then (if (ji4) < (l0.length:Int) then ((cmp_Less_string.f (rdOf ByteArray.empty l0 (ji4)) a1).bind fun t373=>(if t373=true then (slices_BinarySearch_string.l0 k1 l0 a1 (l0.length:Int) (wrap64 ((ji4) + 1)) x8_1) else (slices_BinarySearch_string.l0 k1 l0 a1 (l0.length:Int) x7_1 ji4))) else (none)) else (none))=some (r1,r2):=by first|(rw [hji4] at H;exact H)|(simp only [hji4] at H ⊢;exact H));have hji4w:(IntKind.i64.wrap ((IntKind.u64.wrap (wrap64 (x7_1 + x8_1))) / 2))=ji4:=(i64_w _).trans hji4;by_cases c5:0 ≤ (ji4)
    ·rw [if_pos c5] at H;have c5b0:=decide_eq_true c5;clear c5;by_cases c6:(ji4) < (l0.length:Int)
     ·rw [if_pos c6] at H;have c6b0:=decide_eq_true c6;clear c6;replace H:=Option.bind_eq_some_iff.mp H;obtain ⟨t373,A70,H⟩:=H;replace H:(if t373=true then (slices_BinarySearch_string.l0 k1 l0 a1 (l0.length:Int) (wrap64 ((ji4) + 1)) x8_1) else (slices_BinarySearch_string.l0 k1 l0 a1 (l0.length:Int) x7_1 ji4))=some (r1,r2):=H;have A7:=Aside0.mk A70;clear A70;by_cases c8:t373=true
      ·subst c8;(have H1:(slices_BinarySearch_string.l0 k1 l0 a1 (l0.length:Int) (wrap64 ((ji4) + 1)) x8_1)=some (r1,r2):=by rw [if_pos rfl] at H;exact H);clear H;have H:=H1;clear H1;have H':=Aside0.mk H;clear H;have p372:0 ≤ ((ji4):Int):=tD;have q372:(ji4) < (l0.length:Int):=tD;obtain ⟨ad372,e372,hx372_0⟩:=Kd.at_string HR0.out (ji4) p372 q372;cases e372;replace p372:=eq_true p372;replace q372:=eq_true q372;go_wp2_with (first|((with_reducible refine gate_callee (f:=126) rfl ?_);refine goesL_ (some 27) rfl rfl Try.func126 (by kernel_rfl) rfl #[.string (rdOf ByteArray.empty l0 (ji4)),.string a1] rfl (by (try simp only [List.map_toArray,List.map_cons,List.map_nil]);first|done|(simp only [hji4];rfl)|rfl|(simp only [List.length_drop,List.length_take];rfl)) ?_;(with_reducible refine (cmp_Less_string.calls (rdOf ByteArray.empty l0 (ji4)) a1 true _ A7.out).mono ?_);rintro e w' ⟨rfl,⟨nd,rfl⟩⟩;refine ⟨_,rfl,?_⟩));go_roundg k1
       case measure=>have:=HK1.out;omega
       case rel=>exact ⟨(wrap64 ((ji4) + 1)),(x8_1),(by first|rfl|(simp;done)|(simp only [← hji4] <;> (first|rfl|simp))|(simp [*];done)),tS,H',⟨by have:=HK1.out;omega⟩,tR⟩
      ·replace c8:=Bool.eq_false_iff.mpr c8;subst c8;(have H1:(slices_BinarySearch_string.l0 k1 l0 a1 (l0.length:Int) x7_1 ji4)=some (r1,r2):=by rw [if_neg (show ¬ (false=true) by decide)] at H;exact H);clear H;have H:=H1;clear H1;have H':=Aside0.mk H;clear H;have p372:0 ≤ ((ji4):Int):=tD;have q372:(ji4) < (l0.length:Int):=tD;obtain ⟨ad372,e372,hx372_0⟩:=Kd.at_string HR0.out (ji4) p372 q372;cases e372;replace p372:=eq_true p372;replace q372:=eq_true q372;go_wp2_with (first|((with_reducible refine gate_callee (f:=126) rfl ?_);refine goesL_ (some 27) rfl rfl Try.func126 (by kernel_rfl) rfl #[.string (rdOf ByteArray.empty l0 (ji4)),.string a1] rfl (by (try simp only [List.map_toArray,List.map_cons,List.map_nil]);first|done|(simp only [hji4];rfl)|rfl|(simp only [List.length_drop,List.length_take];rfl)) ?_;(with_reducible refine (cmp_Less_string.calls (rdOf ByteArray.empty l0 (ji4)) a1 false _ A7.out).mono ?_);rintro e w' ⟨rfl,⟨nd,rfl⟩⟩;refine ⟨_,rfl,?_⟩));go_roundg k1
       case measure=>have:=HK1.out;omega
       case rel=>exact ⟨(x7_1),(ji4),tS,(by first|rfl|(simp;done)|(simp only [← hji4] <;> (first|rfl|simp))|(simp [*];done)),H',⟨by have:=HK1.out;omega⟩,tR⟩
     ·rw [if_neg c6] at H;exact absurd H (by simp)
    ·rw [if_neg c5] at H;exact absurd H (by simp)
   ·rw [if_neg c3] at H;have c3b0:decide (x7_1 < x8_1)=false:=decide_eq_false c3;clear c3;by_cases c9:x7_1 < (l0.length:Int)
    ·rw [if_pos c9] at H;have c9b0:=decide_eq_true c9;clear c9;by_cases c10:0 ≤ x7_1
     ·rw [if_pos c10] at H;have c10b0:=decide_eq_true c10;clear c10;by_cases c11:x7_1 < (l0.length:Int)
      ·rw [if_pos c11] at H;have c11b0:=decide_eq_true c11;clear c11;by_cases c12:(rdOf ByteArray.empty l0 x7_1).toList=a1.toList
       ·rw [if_pos c12] at H;have c12b0:((rdOf ByteArray.empty l0 x7_1).toList == a1.toList)=true:=beq_iff_eq.mpr c12;have c12b1:((rdOf ByteArray.empty l0 x7_1).toList != a1.toList)=false:=bne_eq_false_iff_eq.mpr c12;clear c12;simp only [Option.some.injEq,Prod.mk.injEq] at H;obtain ⟨rfl,rfl⟩:=H;have p374:0 ≤ (x7_1:Int):=tD;have q374:x7_1 < (l0.length:Int):=tD;obtain ⟨ad374,e374,hx374_0⟩:=Kd.at_string HR0.out x7_1 p374 q374;cases e374;replace p374:=eq_true p374;replace q374:=eq_true q374;go_wp2;go_ret2;exact ⟨by first|rfl|(simp;done)|(simp [*];done),tR⟩
       ·rw [if_neg c12] at H;have c12b0:((rdOf ByteArray.empty l0 x7_1).toList == a1.toList)=false:=beq_eq_false_iff_ne.mpr c12;have c12b1:((rdOf ByteArray.empty l0 x7_1).toList != a1.toList)=true:=bne_iff_ne.mpr c12;replace H:=Option.bind_eq_some_iff.mp H;obtain ⟨t376,A130,H⟩:=H;replace H:(if t376=true then ((slices_isNaN_string.f a1).bind fun t377=>(some (x7_1,t377))) else (some (x7_1,false)))=some (r1,r2):=H;have A13:=Aside0.mk A130;clear A130;by_cases c14:t376=true
        ·subst c14;(have H1:((slices_isNaN_string.f a1).bind fun t377=>(some (x7_1,t377)))=some (r1,r2):=by rw [if_pos rfl] at H;exact H);clear H;have H:=H1;clear H1;replace H:=Option.bind_eq_some_iff.mp H;obtain ⟨t377,A150,H⟩:=H;replace H:(some (x7_1,t377))=some (r1,r2):=H;have A15:=Aside0.mk A150;clear A150;simp only [Option.some.injEq,Prod.mk.injEq] at H;obtain ⟨rfl,rfl⟩:=H;have p374:0 ≤ (x7_1:Int):=tD;have q374:x7_1 < (l0.length:Int):=tD;obtain ⟨ad374,e374,hx374_0⟩:=Kd.at_string HR0.out x7_1 p374 q374;cases e374;replace p374:=eq_true p374;replace q374:=eq_true q374;have p375:0 ≤ (x7_1:Int):=tD;have q375:x7_1 < (l0.length:Int):=tD;obtain ⟨ad375,e375,hx375_0⟩:=Kd.at_string HR0.out x7_1 p375 q375;obtain rfl:ad374=ad375:=(by injection e375);replace p375:=eq_true p375;replace q375:=eq_true q375;go_wp2_with (first|(go_at_call 127;(with_reducible refine (slices_isNaN_string.calls (rdOf ByteArray.empty l0 x7_1) true _ A13.out).mono ?_);rintro e w' ⟨rfl,⟨nd,rfl⟩⟩)|(go_at_call 127;(with_reducible refine (slices_isNaN_string.calls a1 t377 _ A15.out).mono ?_);rintro e w' ⟨rfl,⟨nd,rfl⟩⟩));go_ret2;exact ⟨by first|rfl|(simp;done)|(simp [*];done),tR⟩
        ·replace c14:=Bool.eq_false_iff.mpr c14;subst c14;(have H1:(some (x7_1,false))=some (r1,r2):=by rw [if_neg (show ¬ (false=true) by decide)] at H;exact H);clear H;have H:=H1;clear H1;simp only [Option.some.injEq,Prod.mk.injEq] at H;obtain ⟨rfl,rfl⟩:=H;have p374:0 ≤ (x7_1:Int):=tD;have q374:x7_1 < (l0.length:Int):=tD;obtain ⟨ad374,e374,hx374_0⟩:=Kd.at_string HR0.out x7_1 p374 q374;cases e374;replace p374:=eq_true p374;replace q374:=eq_true q374;have p375:0 ≤ (x7_1:Int):=tD;have q375:x7_1 < (l0.length:Int):=tD;obtain ⟨ad375,e375,hx375_0⟩:=Kd.at_string HR0.out x7_1 p375 q375;obtain rfl:ad374=ad375:=(by injection e375);replace p375:=eq_true p375;replace q375:=eq_true q375;go_wp2_with (first|(go_at_call 127;(with_reducible refine (slices_isNaN_string.calls (rdOf ByteArray.empty l0 x7_1) false _ A13.out).mono ?_);rintro e w' ⟨rfl,⟨nd,rfl⟩⟩));go_ret2;exact ⟨by first|rfl|(simp;done)|(simp [*];done),tR⟩
      ·rw [if_neg c11] at H;exact absurd H (by simp)
     ·rw [if_neg c10] at H;exact absurd H (by simp)
    ·rw [if_neg c9] at H;have c9b0:decide (x7_1 < (l0.length:Int))=false:=decide_eq_false c9;clear c9;simp only [Option.some.injEq,Prod.mk.injEq] at H;obtain ⟨rfl,rfl⟩:=H;go_wp2;go_ret2;exact ⟨by first|rfl|(simp;done)|(simp [*];done),tR⟩
end Go.Proofs.Ytjbjbeihkoeciaa.X
namespace Go.Proofs.Ytjbjbeihkoeciaa.X
open Go.RowKit Go.Proofs.YtjbjbeihkoeciaaW.PrintWords Go.Proofs.YtjbjbeihkoeciaaW.PrintLast Go.Proofs.YtjbjbeihkoeciaaW.PrintMore
attribute [local go_sem] max2_int min2_int max_two min_two max_three min_three max_four min_four
set_option linter.unusedVariables false
set_option linter.unusedSimpArgs false
def eval_in.f (k:Nat) (l0:List ByteArray) (a1:ByteArray):Option (Bool):=(slices_BinarySearch_string.f k l0 a1).bind fun bt378=>(some bt378.2)
set_option maxHeartbeats 8000000 in
set_option maxRecDepth 100000 in
theorem eval_in.calls (k:Nat) (A0:Option Addr) (c0:Nat) (l0:List ByteArray) (a1:ByteArray) (r:Bool) (w:World) (hr0:Kd.C Kd.string w A0 l0.length l0) (hc0:l0.length ≤ c0) (h:eval_in.f k l0 a1=some r) :
  Calls Try.prog 108 #[.slice A0 l0.length c0,.string a1] w fun e w'=>e = .returned (.bool r)∧Drawn0 w w':=by
 have HR0:=Aside0.mk hr0;have HC0:=Aside0.mk hc0;clear hr0 hc0;have H:((slices_BinarySearch_string.f k l0 a1).bind fun bt378=>(some bt378.2))=some r:=h;clear h;replace H:=Option.bind_eq_some_iff.mp H;obtain ⟨⟨t378,t379⟩,A30,H⟩:=H;replace H:(some t379)=some r:=H;have A3:=Aside0.mk A30;clear A30;obtain rfl:=Option.some.inj H;go_enter Try.func108,Try.ntmps108;go_wp2_with (first|((with_reducible refine gate_callee (f:=87) rfl ?_);refine gL Try.func87 (some 10) #[.slice A0 l0.length c0,.string a1] ?_;(with_reducible refine (slices_BinarySearch_string.calls k _ _ l0 a1 t378 t379 _ (sD HR0) HC0.out A3.out).mono ?_);rintro e w' ⟨rfl,⟨nd,rfl⟩⟩;refine ⟨_,rfl,?_⟩));go_ret;exact ⟨by first|rfl|(simp;done)|(simp [*];done),tR⟩
end Go.Proofs.Ytjbjbeihkoeciaa.X
set_option linter.unusedSimpArgs false
set_option linter.unusedVariables false
namespace Go.Proofs.Ytjbjbeihkoeciaa.X
open Go.RowKit Go.Proofs.YtjbjbeihkoeciaaW.PrintWords Go.Proofs.YtjbjbeihkoeciaaW.PrintLast Go.Proofs.YtjbjbeihkoeciaaW.PrintMore
abbrev Ce:=S135
def keyB (s:ByteArray):Bool:=!decide (s.toList=([]:List UInt8)) && decide ((s.size:Int) ≤ 32)
def allFrom (p:Nat → Bool):Nat → Nat → Bool
 | _,0=>true
 | pos,m + 1=>p pos && allFrom p (pos + 1) m
theorem allFrom_step (p:Nat → Bool) (n pos:Nat) (h:pos < n):allFrom p pos (n - pos)=(p pos && allFrom p (pos + 1) (n - (pos + 1))):=by
 obtain ⟨m,hm⟩:∃ m,n - pos=m + 1:=⟨n - pos - 1,by omega⟩;rw [hm,allFrom,show n - (pos + 1)=m by omega]
theorem allFrom_stop (p:Nat → Bool) (n:Nat):allFrom p n (n - n)=true:=by rw [Nat.sub_self];rfl
theorem allFrom_iff (p:Nat → Bool):∀ m pos,allFrom p pos m=true ↔ ∀ j,pos ≤ j → j < pos + m → p j=true
 | 0,pos=>by simp [allFrom];omega
 | m + 1,pos=>by
  rw [allFrom,Bool.and_eq_true,allFrom_iff p m (pos + 1)];constructor
  ·rintro ⟨h1,h2⟩ j h3 h4;rcases Nat.lt_or_ge pos j with h|h
   ·exact h2 j (by omega) (by omega)
   ·(obtain rfl:j=pos:=by omega);exact h1
  ·intro h;exact ⟨h pos (by omega) (by omega),fun j h3 h4=>h j (by omega) (by omega)⟩
def setAt (l:List ByteArray) (pos:Nat):Bool:=keyB (l.getD pos ByteArray.empty) && (decide (pos=0) || blt (l.getD (pos - 1) ByteArray.empty) (l.getD pos ByteArray.empty))
def setB (l:List ByteArray):Bool:=allFrom (setAt l) 0 l.length && decide (l.length ≤ 4000)
def cntAt (l:List Ce) (pos:Nat):Bool :=
 keyB (l.getD pos z135).f0 && ((decide (pos=0) || blt (l.getD (pos - 1) z135).f0 (l.getD pos z135).f0) && ((l.getD pos z135).f1 != 0 && (decide ((l.getD pos z135).f1 ≤ 1048576) && decide (-1048576 ≤ (l.getD pos z135).f1))))
def cntB (l:List Ce):Bool:=allFrom (cntAt l) 0 l.length && decide (l.length ≤ 4000)
def mayS (ns nc:Nat) (ss:List (List ByteArray)) (cs:List (List Ce)):Bool:=decide (ss.length=ns) && (decide (cs.length=nc) && (ss.all setB && cs.all cntB))
theorem right_f (s:ByteArray):eval_right.f s=some (keyB s):=by
 unfold eval_right.f keyB;by_cases h:s.toList=([]:List UInt8)
 ·rw [if_pos h,decide_eq_true h];rfl
 ·rw [if_neg h,decide_eq_false h];rfl
theorem right_quiet (s:ByteArray) (w:World):Calls Try.prog 55 #[.string s] w fun e w'=>e = .returned (.bool (keyB s))∧∃ m,w' = w.drewN m :=
 (eval_right.calls s (keyB s) w (right_f s)).mono fun e w' ⟨he,m,hm⟩=>⟨he,m,hm⟩
end Go.Proofs.Ytjbjbeihkoeciaa.X
set_option linter.unusedSimpArgs false
set_option linter.unusedVariables false
namespace Go.Proofs.Ytjbjbeihkoeciaa.X
open Go.RowKit Go.Proofs.YtjbjbeihkoeciaaW.PrintWords Go.Proofs.YtjbjbeihkoeciaaW.PrintLast Go.Proofs.YtjbjbeihkoeciaaW.PrintMore
def inB (l:List ByteArray) (key:ByteArray):Bool:=l.any fun x=>decide (x.toList=key.toList)
theorem inB_iff (l:List ByteArray) (key:ByteArray):inB l key=true ↔ key ∈ l:=by
 unfold inB;rw [List.any_eq_true];constructor
 ·rintro ⟨x,hx,h⟩;have e:x=key:=bytes_eq (of_decide_eq_true h);exact e ▸ hx
 ·intro h;exact ⟨key,h,decide_eq_true rfl⟩
theorem inB_no {l:List ByteArray} {key:ByteArray} (h:¬ key ∈ l):inB l key=false:=by
 cases hb:inB l key
 ·rfl
 ·exact absurd ((inB_iff l key).1 hb) h
theorem mid_eq (i j:Nat) (h:i + j ≤ 9000000000):wrap64 ((IntKind.u64.wrap (wrap64 ((i:Int) + (j:Int)))) / 2)=(((i + j) / 2:Nat):Int):=by
 (have h1:wrap64 ((i:Int) + (j:Int))=((i + j:Nat):Int):=by unfold wrap64;omega);have h2:IntKind.u64.wrap ((i + j:Nat):Int)=((i + j:Nat):Int):=by
  simp [IntKind.wrap,IntKind.bits,IntKind.signed];omega
 rw [h1,h2];unfold wrap64;omega
theorem less_f (a b:ByteArray):cmp_Less_string.f a b=some (blt a b):=by
 unfold cmp_Less_string.f cmp_isNaN_string.f blt;simp
theorem ordK_in {l:List ByteArray} {key:ByteArray} (ho:OrdK l) (m:Nat) (hm:m < l.length) (h:l[m]=key):posK l key=m :=
 posK_of l key m (by omega) (fun k hk hkm=>by rw [← h];exact ordK_get ho k m hkm hm) (fun _=>by rw [h];exact blt_irrefl key)
set_option maxHeartbeats 1000000 in
theorem bs_loop (l:List ByteArray) (key:ByteArray) (hn:l.length ≤ 4000000000) (ho:OrdK l):∀ (m i j:Nat),j - i ≤ m → i ≤ j → (hj:j ≤ l.length) → (∀ k (hk:k < l.length),k < i → blt l[k] key=true) → (∀ k (hk:k < l.length),j ≤ k → blt l[k] key=false) →
  Ev (fun k=>slices_BinarySearch_string.l0 k l key (l.length:Int) (i:Int) (j:Int)) ((posK l key:Int),inB l key):=by
 intro m;induction m with
 | zero =>
  intro i j h1 h2 hj ha hb;(obtain rfl:i=j:=by omega);have hp:posK l key=i:=posK_of l key i hj ha (fun hk=>hb i hk (Nat.le_refl _));rw [hp];refine Ev.succ ?_;simp only [slices_BinarySearch_string.l0,rdOf_at];refine Ev.no (by omega) ?_;by_cases hi:i < l.length
  ·(have hg:l.getD i ByteArray.empty=l[i]:=by simp [List.getD,hi]);rw [hg];refine Ev.yes (by omega) (Ev.yes (by omega) (Ev.yes (by omega) ?_));by_cases he:l[i]=key
   ·refine Ev.yes (by rw [he]) (Ev.is ?_);have:inB l key=true:=(inB_iff l key).2 (by rw [← he];exact List.getElem_mem hi);rw [this]
   ·refine Ev.no (fun h=>he (bytes_eq h)) (Ev.bind1 rfl (Ev.no (by simp) (Ev.is ?_)));have:inB l key=false:=inB_no (fun hm=>by
     obtain ⟨k,hk,hke⟩:=List.mem_iff_getElem.1 hm
     have:=ordK_in ho k hk hke
     rw [hp] at this
     subst this
     exact he hke)
    rw [this]
  ·refine Ev.no (by omega) (Ev.is ?_);have:inB l key=false:=inB_no (fun hm=>by
    obtain ⟨k,hk,hke⟩:=List.mem_iff_getElem.1 hm
    have:=ordK_in ho k hk hke
    omega)
   rw [this]
 | succ m ih =>
  intro i j h1 h2 hj ha hb;by_cases hij:i < j
  ·refine Ev.succ ?_;simp only [slices_BinarySearch_string.l0];rw [mid_eq i j (by omega)];(have hh:(i + j) / 2 < l.length:=by omega);rw [rdOf_at];refine Ev.yes (by omega) (Ev.yes (by omega) (Ev.yes (by omega) (Ev.bind1 (less_f _ _) ?_)));(have hg:l.getD ((i + j) / 2) ByteArray.empty=l[(i + j) / 2]:=by simp [List.getD,hh]);rw [hg];cases hlt:blt l[(i + j) / 2] key
   ·refine Ev.no (by decide) (ih i ((i + j) / 2) (by omega) (by omega) (by omega) ha (fun k hk hmk=>?_));rcases Nat.lt_or_ge ((i + j) / 2) k with h|h
    ·cases hk2:blt l[k] key
     ·rfl
     ·have h3:=blt_trans (ordK_get ho _ k h hk) hk2;rw [hlt] at h3;cases h3
    ·(obtain rfl:k=(i + j) / 2:=by omega);exact hlt
   ·rw [wrap_up _ (by omega)];refine Ev.yes rfl (ih ((i + j) / 2 + 1) j (by omega) (by omega) hj (fun k hk hmk=>?_) hb);rcases Nat.lt_or_ge k ((i + j) / 2) with h|h
    ·exact blt_trans (ordK_get ho k _ h hh) hlt
    ·(obtain rfl:k=(i + j) / 2:=by omega);exact hlt
  ·(obtain rfl:i=j:=by omega);exact ih i i (by omega) (by omega) hj ha hb
theorem bs_ev (l:List ByteArray) (key:ByteArray) (hn:l.length ≤ 4000000000) (ho:OrdK l):Ev (fun k=>slices_BinarySearch_string.f k l key) ((posK l key:Int),inB l key) :=
 bs_loop l key hn ho l.length 0 l.length (by omega) (by omega) (Nat.le_refl _) (fun k hk h=>absurd h (by omega)) (fun k hk h=>absurd h (by omega))
theorem in_ev (l:List ByteArray) (key:ByteArray) (hn:l.length ≤ 4000000000) (ho:OrdK l):Ev (fun k=>eval_in.f k l key) (inB l key):=by
 unfold eval_in.f;exact Ev.bind (bs_ev l key hn ho) (Ev.now _)
theorem in_quiet (A:Option Addr) (c:Nat) (l:List ByteArray) (key:ByteArray) (w:World) (hr:Kd.C Kd.string w A l.length l) (hc:l.length ≤ c) (hn:l.length ≤ 4000000000) (ho:OrdK l) :
  Calls Try.prog 108 #[.slice A l.length c,.string key] w fun e w'=>e = .returned (.bool (inB l key))∧∃ m,w' = w.drewN m:=by
 obtain ⟨k,hk⟩:=Ev.rounds (g:=fun k=>eval_in.f k l key) (in_ev l key hn ho);exact (eval_in.calls k A c l key (inB l key) w hr hc hk).mono fun e w' ⟨he,m,hm⟩=>⟨he,m,hm⟩
theorem setB_ord {l:List ByteArray} (h:setB l=true):OrdK l:=by
 unfold setB at h;rw [Bool.and_eq_true,allFrom_iff] at h;have hs:∀ j (hj:j + 1 < l.length),blt (l[j]'(by omega)) l[j + 1]=true:=fun j hj=>by
  have:=h.1 (j + 1) (by omega) (by omega);unfold setAt at this;rw [Bool.and_eq_true,Bool.or_eq_true] at this;have h2:=this.2.resolve_left (by simp);simp only [Nat.add_sub_cancel] at h2;(have e1:l.getD j ByteArray.empty=l[j]'(by omega):=by simp [List.getD,show j < l.length by omega]);(have e2:l.getD (j + 1) ByteArray.empty=l[j + 1]:=by simp [List.getD,hj]);rwa [e1,e2] at h2
 unfold OrdK;rw [List.pairwise_iff_getElem];intro i j hi hj hij;obtain ⟨d,rfl⟩:∃ d,j=i + 1 + d:=⟨j - i - 1,by omega⟩;clear hij;induction d with
 | zero=>exact hs i hj
 | succ d ih=>exact blt_trans (ih (by omega)) (hs (i + 1 + d) hj)
end Go.Proofs.Ytjbjbeihkoeciaa.X
set_option linter.unusedSimpArgs false
set_option linter.unusedVariables false
namespace Go.Proofs.Ytjbjbeihkoeciaa.X
open Go.RowKit Go.Proofs.YtjbjbeihkoeciaaW.PrintWords Go.Proofs.YtjbjbeihkoeciaaW.PrintLast Go.Proofs.YtjbjbeihkoeciaaW.PrintMore
theorem cntB_eq (l:List Ce) (n:Nat) (h:l.length=n):cntB l=(allFrom (cntAt l) 0 n && decide (n ≤ 4000)):=by subst h;rfl
set_option maxHeartbeats 8000000 in
set_option maxRecDepth 100000 in
theorem count_call (A:Option Addr) (c:Nat) (l:List Ce) (w:World) (hr:Kd.C k135 w A l.length l) (hc:l.length ≤ c) (hn:l.length ≤ 4000000000) :
  Calls Try.prog 100 #[.slice A l.length c] w fun e w'=>e = .returned (.bool (cntB l))∧Below w.heap.size w w':=by
 have hB:=cntB_eq l l.length rfl;generalize l.length=n at *;generalize hR:cntB l=R at *;have HB0:=Aside0.mk hB;have HR:=Aside0.mk hr;clear hr hB hR;go_enter Try.func100,Try.ntmps100;go_wp2_with fail;go_loopw [7] (fun v7 wr=>∃ pos:Nat,v7 = .int .i64 (pos:Int)∧pos ≤ n∧Aside0 (allFrom (cntAt l) pos (n - pos)=allFrom (cntAt l) 0 n)∧Aside0 (Below w.heap.size w wr)) (fun v7 _=>((n:Int) - intV v7).toNat)
 case atStart=>exact ⟨0,rfl,Nat.zero_le _,⟨rfl⟩,⟨Below.refl _ _⟩⟩
 case round =>
  obtain ⟨pos,rfl,hpos,HE,HBr⟩:=hrel;by_cases hlt:pos < n
  ·(have hlt':decide ((pos:Int) < (n:Int))=true:=by simp;omega);(have p:0 ≤ (pos:Int):=by omega);(have q:(pos:Int) < (n:Int):=by omega);have HST:Aside0 ((cntAt l pos && allFrom (cntAt l) (pos + 1) (n - (pos + 1)))=allFrom (cntAt l) 0 n):=⟨by rw [← allFrom_step _ _ _ hlt];exact HE.out⟩;have HPREV:Aside0 (0 < pos → ∃ ad,A=some ad∧w.cell? (ad.add ((pos - 1) * 2))=some (.string (l.getD (pos - 1) z135).f0)):=⟨fun h0=>by
    obtain ⟨ad,e0,h1,_⟩:=at_T135 HR.out ((pos - 1:Nat):Int) (by omega) (by omega)
    refine ⟨ad,e0,?_⟩
    simpa [rd_T135] using h1⟩
   have HCA:Aside0 (cntAt l pos=(keyB (rd_T135 l (pos:Int)).f0 && ((decide (pos=0) || blt (l.getD (pos - 1) z135).f0 (rd_T135 l (pos:Int)).f0) && ((rd_T135 l (pos:Int)).f1 != 0 && (decide ((rd_T135 l (pos:Int)).f1 ≤ 1048576) && decide (-1048576 ≤ (rd_T135 l (pos:Int)).f1)))))):=⟨by unfold cntAt;simp only [rd_T135,Int.toNat_natCast];rfl⟩;obtain ⟨ad,e0,hx0,hx1⟩:=at_T135 (Kd.C_below HR.out HBr.out) (pos:Int) p q;cases e0;simp only [Int.toNat_natCast] at hx0 hx1;generalize rd_T135 l (pos:Int)=x at *;generalize cntAt l pos=ca at *;replace p:=eq_true p;replace q:=eq_true q;go_upto_region 4 with (((with_reducible refine gate_dst (N:=4) rfl ?_);refine box_event ?hg (N:=4) ?hd (cs:=#[.string ⟨#[]⟩,.int .i64 0]) (t:=135) ?hr ?_;(case hd=>rfl);(case hg=>rfl);(case hr=>first|(go_simp;done)|(go_simp;rfl));intro g1 hg1 w6 hbox1 hb1;have hcz0:w6.cell? ⟨g1,0,none⟩=some (.string ⟨#[]⟩):=(blk_cell hbox1 0).trans rfl;have hcz1:w6.cell? ⟨g1,1,none⟩=some (.int .i64 0):=(blk_cell hbox1 1).trans rfl;have hfz0:=blk_frozen hbox1 0;have hfz1:=blk_frozen hbox1 1;have HB1:=Aside0.mk hb1;have BK1:=Aside0.mk hbox1;have HG1:=Aside0.mk hg1;clear hb1 hbox1 hg1));(have hgw:w.heap.size ≤ g1:=by rw [HG1.out];exact below_size HBr.out);have HB7:=Aside0.mk (below_set (j:=1) (v:=.int .i64 x.f1) (below_set (j:=0) (v:=.string x.f0) (below_step HBr.out HB1.out) hgw) hgw);have HK7:Aside0 (((w6.setCell ⟨g1,0,none⟩ (.string x.f0)).setCell ⟨g1,1,none⟩ (.int .i64 x.f1)).heap[g1]? = some (.cells #[.string x.f0,.int .i64 x.f1] 135 (0,0))):=⟨by
    refine blk_put (cs:=#[.string x.f0,.int .i64 0]) ?_ 1 _ rfl
    exact blk_put BK1.out 0 _ rfl⟩
   generalize ((w6.setCell ⟨g1,0,none⟩ (.string x.f0)).setCell ⟨g1,1,none⟩ (.int .i64 x.f1))=w7 at *;clear hcz0 hcz1 hfz0 hfz1 hx0 hx1;obtain ⟨hd0,hd1⟩:=bc2 HK7.out;cases hk:keyB x.f0 with
   | false =>
    have HQ:Aside0 (R=false):=⟨by rw [HB0.out,← HST.out,HCA.out,hk];rfl⟩;have HRT:=Aside0.mk (right_quiet x.f0);rw [hk] at HRT;clear hk HB0 HST HCA;go_quiet (first|(go_at_call 55;refine Calls.quiet_of (HRT.out _)));go_wp2_with fail;go_ret;exact ⟨by rw [HQ.out];rfl,pw_below_drewN HB7.out _⟩
   | true =>
    have HRT:=Aside0.mk (right_quiet x.f0);rw [hk] at HRT HCA;clear hk;by_cases h0:pos=0
    ·have HC2:Aside0 (ca=(x.f1 != 0 && (decide (x.f1 ≤ 1048576) && decide (-1048576 ≤ x.f1)))):=⟨by rw [HCA.out,h0];simp⟩;clear HCA HPREV;have g0:decide (0 < pos)=false:=decide_eq_false (by omega);have g0':(0 < pos)=False:=eq_false (by omega);have HC3:=HC2;clear HC2 h0;by_cases hz:x.f1=0
     ·have z0:(x.f1 == 0)=true:=beq_iff_eq.mpr hz;have z1:(x.f1 != 0)=false:=bne_eq_false_iff_eq.mpr hz;have HQ:Aside0 (R=false):=⟨by rw [HB0.out,← HST.out,HC3.out];simp [hz]⟩;clear HB0 HST HC3;go_quiet (first|(go_at_call 55;refine Calls.quiet_of (HRT.out _)));go_wp2_with fail;go_ret;exact ⟨by rw [HQ.out];rfl,pw_below_drewN HB7.out _⟩
     have z0:(x.f1 == 0)=false:=beq_eq_false_iff_ne.mpr hz;have z1:(x.f1 != 0)=true:=bne_iff_ne.mpr hz;have HNZ:=Aside0.mk hz;clear hz;by_cases hz:1048576 < x.f1
     ·have z2:decide (1048576 < x.f1)=true:=decide_eq_true hz;(have hz':¬ x.f1 ≤ 1048576:=by omega);have HQ:Aside0 (R=false):=⟨by rw [HB0.out,← HST.out,HC3.out];rw [decide_eq_false hz'];simp⟩;clear HB0 HST HC3;go_quiet (first|(go_at_call 55;refine Calls.quiet_of (HRT.out _)));go_wp2_with fail;go_ret;exact ⟨by rw [HQ.out];rfl,pw_below_drewN HB7.out _⟩
     have z2:decide (1048576 < x.f1)=false:=decide_eq_false hz;have HN1:=Aside0.mk hz;clear hz;by_cases hz:x.f1 < -1048576
     ·have z3:decide (x.f1 < -1048576)=true:=decide_eq_true hz;(have hz':¬ -1048576 ≤ x.f1:=by omega);have HQ:Aside0 (R=false):=⟨by rw [HB0.out,← HST.out,HC3.out];rw [decide_eq_false hz'];simp⟩;clear HB0 HST HC3;go_quiet (first|(go_at_call 55;refine Calls.quiet_of (HRT.out _)));go_wp2_with fail;go_ret;exact ⟨by rw [HQ.out];rfl,pw_below_drewN HB7.out _⟩
     have z3:decide (x.f1 < -1048576)=false:=decide_eq_false hz;have HQ:Aside0 (ca=true):=⟨by rw [HC3.out,z1,decide_eq_true (show x.f1 ≤ 1048576 by have:=HN1.out;omega),decide_eq_true (show -1048576 ≤ x.f1 by omega)];rfl⟩;clear HC3 hz;go_quiet (first|(go_at_call 55;refine Calls.quiet_of (HRT.out _)));go_wp2_with fail;go_roundw
     case measure=>simp [intV];omega
     case rel=>exact ⟨pos + 1,by simp,by omega,⟨by rw [← HST.out,HQ.out];rfl⟩,⟨pw_below_drewN HB7.out _⟩⟩
    ·have HC2:Aside0 (ca=(blt (l.getD (pos - 1) z135).f0 x.f0 && (x.f1 != 0 && (decide (x.f1 ≤ 1048576) && decide (-1048576 ≤ x.f1))))):=⟨by rw [HCA.out,decide_eq_false h0];simp⟩;obtain ⟨ad2,e2,hy⟩:=HPREV.out (by omega);(obtain rfl:ad=ad2:=by simpa using e2);have hy0:=(HB7.out.cell (World.block_lt_of_cell? w _ hy)).trans hy;have g0:decide (0 < pos)=true:=decide_eq_true (by omega);have g0':(0 < pos)=True:=eq_true (by omega);(have gw:IntKind.i64.wrap ((pos:Int) - 1)=((pos - 1:Nat):Int):=by rw [i64_w];unfold wrap64;omega);have gq:(((pos - 1:Nat):Int) < (n:Int))=True:=eq_true (by omega);clear HCA HPREV hy e2;generalize l.getD (pos - 1) z135=y at *;generalize pos - 1=k at *;cases hb:blt y.f0 x.f0 with
     | false =>
      have HQ:Aside0 (R=false):=⟨by rw [HB0.out,← HST.out,HC2.out,hb];rfl⟩;have hb1:Op.bytesLess y.f0.toList x.f0.toList=false:=hb;clear hb HB0 HST HC2;go_quiet (first|(go_at_call 55;refine Calls.quiet_of (HRT.out _)));go_wp2_with fail;go_ret;exact ⟨by rw [HQ.out];rfl,pw_below_drewN HB7.out _⟩
     | true =>
      have hb1:Op.bytesLess y.f0.toList x.f0.toList=true:=hb;have HC3:Aside0 (ca=(x.f1 != 0 && (decide (x.f1 ≤ 1048576) && decide (-1048576 ≤ x.f1)))):=⟨by rw [HC2.out,hb];rfl⟩;clear HC2 hb h0;by_cases hz:x.f1=0
      ·have z0:(x.f1 == 0)=true:=beq_iff_eq.mpr hz;have z1:(x.f1 != 0)=false:=bne_eq_false_iff_eq.mpr hz;have HQ:Aside0 (R=false):=⟨by rw [HB0.out,← HST.out,HC3.out];simp [hz]⟩;clear HB0 HST HC3;go_quiet (first|(go_at_call 55;refine Calls.quiet_of (HRT.out _)));go_wp2_with fail;go_ret;exact ⟨by rw [HQ.out];rfl,pw_below_drewN HB7.out _⟩
      have z0:(x.f1 == 0)=false:=beq_eq_false_iff_ne.mpr hz;have z1:(x.f1 != 0)=true:=bne_iff_ne.mpr hz;have HNZ:=Aside0.mk hz;clear hz;by_cases hz:1048576 < x.f1
      ·have z2:decide (1048576 < x.f1)=true:=decide_eq_true hz;(have hz':¬ x.f1 ≤ 1048576:=by omega);have HQ:Aside0 (R=false):=⟨by rw [HB0.out,← HST.out,HC3.out];rw [decide_eq_false hz'];simp⟩;clear HB0 HST HC3;go_quiet (first|(go_at_call 55;refine Calls.quiet_of (HRT.out _)));go_wp2_with fail;go_ret;exact ⟨by rw [HQ.out];rfl,pw_below_drewN HB7.out _⟩
      have z2:decide (1048576 < x.f1)=false:=decide_eq_false hz;have HN1:=Aside0.mk hz;clear hz;by_cases hz:x.f1 < -1048576
      ·have z3:decide (x.f1 < -1048576)=true:=decide_eq_true hz;(have hz':¬ -1048576 ≤ x.f1:=by omega);have HQ:Aside0 (R=false):=⟨by rw [HB0.out,← HST.out,HC3.out];rw [decide_eq_false hz'];simp⟩;clear HB0 HST HC3;go_quiet (first|(go_at_call 55;refine Calls.quiet_of (HRT.out _)));go_wp2_with fail;go_ret;exact ⟨by rw [HQ.out];rfl,pw_below_drewN HB7.out _⟩
      have z3:decide (x.f1 < -1048576)=false:=decide_eq_false hz;have HQ:Aside0 (ca=true):=⟨by rw [HC3.out,z1,decide_eq_true (show x.f1 ≤ 1048576 by have:=HN1.out;omega),decide_eq_true (show -1048576 ≤ x.f1 by omega)];rfl⟩;clear HC3 hz;go_quiet (first|(go_at_call 55;refine Calls.quiet_of (HRT.out _)));go_wp2_with fail;go_roundw
      case measure=>simp [intV];omega
      case rel=>exact ⟨pos + 1,by simp,by omega,⟨by rw [← HST.out,HQ.out];rfl⟩,⟨pw_below_drewN HB7.out _⟩⟩
  ·(have hlt':decide ((pos:Int) < (n:Int))=false:=by simp;omega);(obtain rfl:n=pos:=by omega);have HQ:Aside0 (R=decide (n ≤ 4000)):=⟨by rw [HB0.out,← HE.out,allFrom_stop];rfl⟩;have HQ2:Aside0 (decide ((n:Int) ≤ 4000)=decide (n ≤ 4000)):=⟨by simp;omega⟩;clear HB0 HE;go_wp2_with fail;go_ret;exact ⟨by rw [HQ.out,← HQ2.out];rfl,HBr.out⟩
end Go.Proofs.Ytjbjbeihkoeciaa.X
set_option linter.unusedVariables false
namespace Go.Proofs.Ytjbjbeihkoeciaa.X
open Go.RowKit Go.Proofs.YtjbjbeihkoeciaaW.PrintWords Go.Proofs.YtjbjbeihkoeciaaW.PrintLast Go.Proofs.YtjbjbeihkoeciaaW.PrintMore
def EVStrs (w:World) (x:(List ByteArray)) (v:Value):Prop:=∃ (A1:Option Addr) (c1:Nat),v = .slice A1 x.length c1∧x.length ≤ c1∧Kd.string.C w A1 x.length x
theorem evStrs {w:World} {x:(List ByteArray)} {cs:List Value} (h:Kd.K (Kd.slice 9 Kd.string) w x cs):∃ (A1:Option Addr) (c1:Nat),cs = [.slice A1 x.length c1]∧EVStrs w x (.slice A1 x.length c1):=by
 obtain ⟨A1,c1,rfl,l1,g1⟩:=h;exact ⟨A1,c1,rfl,A1,c1,rfl,l1,g1⟩
end Go.Proofs.Ytjbjbeihkoeciaa.X
set_option linter.unusedSimpArgs false
set_option linter.unusedVariables false
namespace Go.Proofs.Ytjbjbeihkoeciaa.X
open Go.RowKit Go.Proofs.YtjbjbeihkoeciaaW.PrintWords Go.Proofs.YtjbjbeihkoeciaaW.PrintLast Go.Proofs.YtjbjbeihkoeciaaW.PrintMore
set_option maxHeartbeats 4000000 in
set_option maxRecDepth 100000 in
theorem idxFStrs0 (F:FuncId) (hF:∀ (args:Array Value) (w:World),(callFunc F args).run Try.prog w = .ok (.enter F args) w) (p:(List ByteArray) → Bool) (A:Option Addr) (c:Nat) (l:List (List ByteArray)) (w:World) (hr:Kd.C (Kd.slice 9 Kd.string) w A l.length l) (hc:l.length ≤ c) (hn:l.length ≤ 4000000000)
  (hp:∀ x ∈ l,∀ v,EVStrs w x v → ∀ w',Below w.heap.size w w' → Calls Try.prog F #[v] w' fun e w''=>e = .returned (.bool (p x))∧Below w'.heap.size w' w'') :
  Calls Try.prog 133 #[.slice A l.length c,.func (.func F) #[] #[]] w fun e w'=>e = .returned (.int .i64 (idxF p l))∧Below w.heap.size w w':=by
 generalize hnl:l.length=n at *;have HNL:=Aside0.mk hnl;have HR:=Aside0.mk hr;have HP:=Aside0.mk hp;clear hr hp hnl;go_enter Try.func133,Try.ntmps133;go_wp2_with fail;go_loopw [8] (fun v8 w'=>∃ i:Nat,v8 = .int .i64 (i:Int)∧i ≤ n∧Aside0 (∀ j,j < i → ∀ x,l[j]? = some x → p x=false)∧Aside0 (Below w.heap.size w w')) (fun v8 _=>((n:Int) - intV v8).toNat)
 case atStart=>exact ⟨0,rfl,Nat.zero_le _,⟨fun j hj=>absurd hj (by omega)⟩,⟨Below.refl _ _⟩⟩
 case round =>
  obtain ⟨i,rfl,hi,HA,HB⟩:=hrel;by_cases hlt:i < n
  ·(have hlt':decide ((i:Int) < (n:Int))=true:=by simp;omega);(have p0:0 ≤ (i:Int):=by omega);(have q0:(i:Int) < (n:Int):=by omega);obtain ⟨ad,cs,e0,_,hK,hc0⟩:=Kd.C_get HR.out ([]:List ByteArray) (i:Int) p0 q0;cases e0;(have hget:l[i]? = some (l.getD i ([]:List ByteArray)):=by rw [List.getD_eq_getElem?_getD,List.getElem?_eq_getElem (by rw [HNL.out];exact hlt)];rfl);simp only [Int.toNat_natCast] at hK hc0;generalize hx:l.getD i ([]:List ByteArray)=x at *;have HX:=Aside0.mk hget;have HM:Aside0 (x ∈ l):=⟨List.mem_of_getElem? hget⟩;clear hx hget;have hc1:∀ j u,cs[j]? = some u → w.cell? (ad.add (i * 1 + j))=some u:=hc0;have hEV:=evStrs hK;obtain ⟨A1,c1,rfl,hev⟩:=hEV;(have hx0:w.cell? (ad.add i)=some (.slice A1 x.length c1):=by have h_:=hc1 0 _ rfl;simpa using h_);replace hx0:=(HB.out.cell (World.block_lt_of_cell? w _ hx0)).trans hx0;clear hc1 hc0 hK;have HEV:=Aside0.mk hev;clear hev;replace p0:=eq_true p0;replace q0:=eq_true q0;cases hpx:p x with
   | true =>
    have HPX:=Aside0.mk hpx;clear hpx;go_wp2_with fail;refine (HP.out x HM.out _ HEV.out _ HB.out).mono ?_;rintro e w1 ⟨rfl,hb⟩;have HB1:=Aside0.mk (below_step HB.out hb);clear hb;have hpx:=HPX.out;go_wp2_with fail;go_ret;exact ⟨by rw [idxF_at p l i x HX.out HPX.out HA.out];rfl,HB1.out⟩
   | false =>
    have HPX:=Aside0.mk hpx;clear hpx;go_wp2_with fail;refine (HP.out x HM.out _ HEV.out _ HB.out).mono ?_;rintro e w1 ⟨rfl,hb⟩;have HB1:=Aside0.mk (below_step HB.out hb);clear hb;have hpx:=HPX.out;go_wp2_with fail;go_roundw
    case measure=>simp [intV];omega
    case rel =>
     refine ⟨i + 1,by simp,by omega,⟨fun j hj x' hx'=>?_⟩,HB1⟩;rcases Nat.lt_or_ge j i with h1|h1
     ·exact HA.out j h1 x' hx'
     ·(obtain rfl:j=i:=by omega);rw [HX.out] at hx';cases hx';exact HPX.out
  ·(have hlt':decide ((i:Int) < (n:Int))=false:=by simp;omega);go_wp2_with fail;go_ret;exact ⟨by rw [idxF_none p l (fun j x hx=>HA.out j (by have:=(List.getElem?_eq_some_iff.1 hx).1;have:=HNL.out;omega) x hx)];rfl,HB.out⟩
set_option maxHeartbeats 4000000 in
set_option maxRecDepth 100000 in
theorem hasFStrs0 (F:FuncId) (hF:∀ (args:Array Value) (w:World),(callFunc F args).run Try.prog w = .ok (.enter F args) w) (p:(List ByteArray) → Bool) (A:Option Addr) (c:Nat) (l:List (List ByteArray)) (w:World) (hr:Kd.C (Kd.slice 9 Kd.string) w A l.length l) (hc:l.length ≤ c) (hn:l.length ≤ 4000000000) (hp:∀ x ∈ l,∀ v,EVStrs w x v → ∀ w',Below w.heap.size w w' → Calls Try.prog F #[v] w' fun e w''=>e = .returned (.bool (p x))∧Below w'.heap.size w' w''):Calls Try.prog 95 #[.slice A l.length c,.func (.func F) #[] #[]] w fun e w'=>e = .returned (.bool (l.any p))∧Below w.heap.size w w':=by
 have HR:=Aside0.mk hr;have HP:=Aside0.mk hp;clear hr hp;go_enter Try.func95,Try.ntmps95;go_wp2_with fail;refine (idxFStrs0 F hF p A c l _ HR.out hc hn HP.out).mono ?_;rintro e w' ⟨rfl,hb⟩;go_wp2_with fail;go_ret;exact ⟨congrArg (fun b=>Ending.returned (.bool b)) (idxF_any p l),hb⟩
end Go.Proofs.Ytjbjbeihkoeciaa.X
set_option linter.unusedVariables false
namespace Go.Proofs.Ytjbjbeihkoeciaa.X
open Go.RowKit Go.Proofs.YtjbjbeihkoeciaaW.PrintWords Go.Proofs.YtjbjbeihkoeciaaW.PrintLast Go.Proofs.YtjbjbeihkoeciaaW.PrintMore
def EVCells (w:World) (x:(List S135)) (v:Value):Prop:=∃ (A1:Option Addr) (c1:Nat),v = .slice A1 x.length c1∧x.length ≤ c1∧k135.C w A1 x.length x
theorem evCells {w:World} {x:(List S135)} {cs:List Value} (h:Kd.K (Kd.slice 135 k135) w x cs):∃ (A1:Option Addr) (c1:Nat),cs = [.slice A1 x.length c1]∧EVCells w x (.slice A1 x.length c1):=by
 obtain ⟨A1,c1,rfl,l1,g1⟩:=h;exact ⟨A1,c1,rfl,A1,c1,rfl,l1,g1⟩
end Go.Proofs.Ytjbjbeihkoeciaa.X
set_option linter.unusedSimpArgs false
set_option linter.unusedVariables false
namespace Go.Proofs.Ytjbjbeihkoeciaa.X
open Go.RowKit Go.Proofs.YtjbjbeihkoeciaaW.PrintWords Go.Proofs.YtjbjbeihkoeciaaW.PrintLast Go.Proofs.YtjbjbeihkoeciaaW.PrintMore
set_option maxHeartbeats 4000000 in
set_option maxRecDepth 100000 in
theorem idxFCells0 (F:FuncId) (hF:∀ (args:Array Value) (w:World),(callFunc F args).run Try.prog w = .ok (.enter F args) w) (p:(List S135) → Bool) (A:Option Addr) (c:Nat) (l:List (List S135)) (w:World) (hr:Kd.C (Kd.slice 135 k135) w A l.length l) (hc:l.length ≤ c) (hn:l.length ≤ 4000000000)
  (hp:∀ x ∈ l,∀ v,EVCells w x v → ∀ w',Below w.heap.size w w' → Calls Try.prog F #[v] w' fun e w''=>e = .returned (.bool (p x))∧Below w'.heap.size w' w'') :
  Calls Try.prog 134 #[.slice A l.length c,.func (.func F) #[] #[]] w fun e w'=>e = .returned (.int .i64 (idxF p l))∧Below w.heap.size w w':=by
 generalize hnl:l.length=n at *;have HNL:=Aside0.mk hnl;have HR:=Aside0.mk hr;have HP:=Aside0.mk hp;clear hr hp hnl;go_enter Try.func134,Try.ntmps134;go_wp2_with fail;go_loopw [8] (fun v8 w'=>∃ i:Nat,v8 = .int .i64 (i:Int)∧i ≤ n∧Aside0 (∀ j,j < i → ∀ x,l[j]? = some x → p x=false)∧Aside0 (Below w.heap.size w w')) (fun v8 _=>((n:Int) - intV v8).toNat)
 case atStart=>exact ⟨0,rfl,Nat.zero_le _,⟨fun j hj=>absurd hj (by omega)⟩,⟨Below.refl _ _⟩⟩
 case round =>
  obtain ⟨i,rfl,hi,HA,HB⟩:=hrel;by_cases hlt:i < n
  ·(have hlt':decide ((i:Int) < (n:Int))=true:=by simp;omega);(have p0:0 ≤ (i:Int):=by omega);(have q0:(i:Int) < (n:Int):=by omega);obtain ⟨ad,cs,e0,_,hK,hc0⟩:=Kd.C_get HR.out ([]:List S135) (i:Int) p0 q0;cases e0;(have hget:l[i]? = some (l.getD i ([]:List S135)):=by rw [List.getD_eq_getElem?_getD,List.getElem?_eq_getElem (by rw [HNL.out];exact hlt)];rfl);simp only [Int.toNat_natCast] at hK hc0;generalize hx:l.getD i ([]:List S135)=x at *;have HX:=Aside0.mk hget;have HM:Aside0 (x ∈ l):=⟨List.mem_of_getElem? hget⟩;clear hx hget;have hc1:∀ j u,cs[j]? = some u → w.cell? (ad.add (i * 1 + j))=some u:=hc0;have hEV:=evCells hK;obtain ⟨A1,c1,rfl,hev⟩:=hEV;(have hx0:w.cell? (ad.add i)=some (.slice A1 x.length c1):=by have h_:=hc1 0 _ rfl;simpa using h_);replace hx0:=(HB.out.cell (World.block_lt_of_cell? w _ hx0)).trans hx0;clear hc1 hc0 hK;have HEV:=Aside0.mk hev;clear hev;replace p0:=eq_true p0;replace q0:=eq_true q0;cases hpx:p x with
   | true =>
    have HPX:=Aside0.mk hpx;clear hpx;go_wp2_with fail;refine (HP.out x HM.out _ HEV.out _ HB.out).mono ?_;rintro e w1 ⟨rfl,hb⟩;have HB1:=Aside0.mk (below_step HB.out hb);clear hb;have hpx:=HPX.out;go_wp2_with fail;go_ret;exact ⟨by rw [idxF_at p l i x HX.out HPX.out HA.out];rfl,HB1.out⟩
   | false =>
    have HPX:=Aside0.mk hpx;clear hpx;go_wp2_with fail;refine (HP.out x HM.out _ HEV.out _ HB.out).mono ?_;rintro e w1 ⟨rfl,hb⟩;have HB1:=Aside0.mk (below_step HB.out hb);clear hb;have hpx:=HPX.out;go_wp2_with fail;go_roundw
    case measure=>simp [intV];omega
    case rel =>
     refine ⟨i + 1,by simp,by omega,⟨fun j hj x' hx'=>?_⟩,HB1⟩;rcases Nat.lt_or_ge j i with h1|h1
     ·exact HA.out j h1 x' hx'
     ·(obtain rfl:j=i:=by omega);rw [HX.out] at hx';cases hx';exact HPX.out
  ·(have hlt':decide ((i:Int) < (n:Int))=false:=by simp;omega);go_wp2_with fail;go_ret;exact ⟨by rw [idxF_none p l (fun j x hx=>HA.out j (by have:=(List.getElem?_eq_some_iff.1 hx).1;have:=HNL.out;omega) x hx)];rfl,HB.out⟩
set_option maxHeartbeats 4000000 in
set_option maxRecDepth 100000 in
theorem hasFCells0 (F:FuncId) (hF:∀ (args:Array Value) (w:World),(callFunc F args).run Try.prog w = .ok (.enter F args) w) (p:(List S135) → Bool) (A:Option Addr) (c:Nat) (l:List (List S135)) (w:World) (hr:Kd.C (Kd.slice 135 k135) w A l.length l) (hc:l.length ≤ c) (hn:l.length ≤ 4000000000) (hp:∀ x ∈ l,∀ v,EVCells w x v → ∀ w',Below w.heap.size w w' → Calls Try.prog F #[v] w' fun e w''=>e = .returned (.bool (p x))∧Below w'.heap.size w' w''):Calls Try.prog 98 #[.slice A l.length c,.func (.func F) #[] #[]] w fun e w'=>e = .returned (.bool (l.any p))∧Below w.heap.size w w':=by
 have HR:=Aside0.mk hr;have HP:=Aside0.mk hp;clear hr hp;go_enter Try.func98,Try.ntmps98;go_wp2_with fail;refine (idxFCells0 F hF p A c l _ HR.out hc hn HP.out).mono ?_;rintro e w' ⟨rfl,hb⟩;go_wp2_with fail;go_ret;exact ⟨congrArg (fun b=>Ending.returned (.bool b)) (idxF_any p l),hb⟩
end Go.Proofs.Ytjbjbeihkoeciaa.X
set_option linter.unusedSimpArgs false
set_option linter.unusedVariables false
namespace Go.Proofs.Ytjbjbeihkoeciaa.X
open Go.RowKit Go.Proofs.YtjbjbeihkoeciaaW.PrintWords Go.Proofs.YtjbjbeihkoeciaaW.PrintLast Go.Proofs.YtjbjbeihkoeciaaW.PrintMore
theorem set_ev (l:List ByteArray) (hn:l.length ≤ 4000000000):Ev (fun k=>eval_set.f k l) (setB l):=by
 unfold eval_set.f;have h:Ev (fun k=>eval_set.l0 k l l (l.length:Int) ((0:Nat):Int)) (allFrom (setAt l) 0 (l.length - 0) && decide (l.length ≤ 4000)):=by
  refine Ev.loop (g:=fun k pos=>eval_set.l0 k l l (l.length:Int) (pos:Int)) (spec:=fun pos=>allFrom (setAt l) pos (l.length - pos) && decide (l.length ≤ 4000)) l.length ?_ ?_ 0 (by omega)
  ·refine Ev.succ ?_;simp only [eval_set.l0];rw [allFrom_stop,Bool.true_and];exact Ev.no (by omega) (Ev.is (by simp;omega))
  ·intro pos hp ih;refine Ev.succ ?_;simp only [eval_set.l0,rdOf_at];rw [wrap_up pos (by omega),allFrom_step _ _ _ hp];refine Ev.yes (by omega) (Ev.yes (by omega) (Ev.yes (by omega) (Ev.bind1 (right_f _) ?_)));rw [show setAt l pos=(keyB (l.getD pos ByteArray.empty) && (decide (pos=0) || blt (l.getD (pos - 1) ByteArray.empty) (l.getD pos ByteArray.empty))) from rfl];cases hk:keyB (l.getD pos ByteArray.empty)
   ·exact Ev.no (by decide) (Ev.is (by simp))
   ·refine Ev.yes rfl ?_;by_cases h0:pos=0
    ·rw [decide_eq_true h0];exact Ev.no (by omega) (by simpa using ih)
    ·(have e:wrap64 ((pos:Int) - 1)=((pos - 1:Nat):Int):=by unfold wrap64;omega);rw [e,rdOf_at,decide_eq_false h0];refine Ev.yes (by omega) (Ev.yes (by omega) (Ev.yes (by omega) ?_));cases hb:blt (l.getD (pos - 1) ByteArray.empty) (l.getD pos ByteArray.empty)
     ·exact Ev.no (by unfold blt at hb;rw [hb];decide) (Ev.is (by simp))
     ·exact Ev.yes hb (by simpa using ih)
 exact h
theorem set_call (A:Option Addr) (c:Nat) (l:List ByteArray) (w:World) (hr:Kd.C Kd.string w A l.length l) (hc:l.length ≤ c) (hn:l.length ≤ 4000000000) :
  Calls Try.prog 97 #[.slice A l.length c] w fun e w'=>e = .returned (.bool (setB l))∧Below w.heap.size w w':=by
 obtain ⟨k,hk⟩:=Ev.rounds (g:=fun k=>eval_set.f k l) (set_ev l hn);exact (eval_set.calls k A c l (setB l) w hr hc hk).mono fun e w' ⟨he,m,hm⟩=>⟨he,hm ▸ pw_below_drewN (Below.refl _ _) _⟩
theorem enter_may1 (args:Array Value) (w:World):(callFunc 96 args).run Try.prog w = .ok (.enter 96 args) w:=by kernel_rfl
theorem enter_may2 (args:Array Value) (w:World):(callFunc 99 args).run Try.prog w = .ok (.enter 99 args) w:=by kernel_rfl
set_option maxHeartbeats 4000000 in
set_option maxRecDepth 100000 in
theorem may1_call (A:Option Addr) (c:Nat) (l:List ByteArray) (w:World) (hr:Kd.C Kd.string w A l.length l) (hc:l.length ≤ c) (hn:l.length ≤ 4000000000) :
  Calls Try.prog 96 #[.slice A l.length c] w fun e w'=>e = .returned (.bool (!setB l))∧Below w.heap.size w w':=by
 have HS:=Aside0.mk (fun w' (hw:Below w.heap.size w w')=>set_call A c l w' (Kd.C_below hr hw) hc hn);clear hr hc hn;generalize l.length=n at *;generalize setB l=b at *;go_enter Try.func96,Try.ntmps96;go_wp2_with fail;refine (HS.out _ (Below.refl _ _)).mono ?_;rintro e w1 ⟨rfl,hb⟩;have HB:=Aside0.mk hb;clear hb;go_wp2_with fail;go_ret;exact ⟨rfl,HB.out⟩
set_option maxHeartbeats 4000000 in
set_option maxRecDepth 100000 in
theorem may2_call (A:Option Addr) (c:Nat) (l:List Ce) (w:World) (hr:Kd.C k135 w A l.length l) (hc:l.length ≤ c) (hn:l.length ≤ 4000000000) :
  Calls Try.prog 99 #[.slice A l.length c] w fun e w'=>e = .returned (.bool (!cntB l))∧Below w.heap.size w w':=by
 have HS:=Aside0.mk (fun w' (hw:Below w.heap.size w w')=>count_call A c l w' (Kd.C_below hr hw) hc hn);clear hr hc hn;generalize l.length=n at *;generalize cntB l=b at *;go_enter Try.func99,Try.ntmps99;go_wp2_with fail;refine (HS.out _ (Below.refl _ _)).mono ?_;rintro e w1 ⟨rfl,hb⟩;have HB:=Aside0.mk hb;clear hb;go_wp2_with fail;go_ret;exact ⟨rfl,HB.out⟩
def StOk (ss:List (List ByteArray)) (cs:List (List Ce)):Prop:=(ss.length ≤ 4000000000∧cs.length ≤ 4000000000)∧(∀ l ∈ ss,l.length ≤ 4000000000)∧∀ l ∈ cs,l.length ≤ 4000000000
instance (ss:List (List ByteArray)) (cs:List (List Ce)):Decidable (StOk ss cs):=by unfold StOk;infer_instance
set_option maxHeartbeats 8000000 in
set_option maxRecDepth 100000 in
theorem may_call (A0:Option Addr) (c0 n0:Nat) (A1:Option Addr) (c1 n1:Nat) (v2 v3 v4:Value) (B0:Option Addr) (d0:Nat) (ss:List (List ByteArray)) (B1:Option Addr) (d1:Nat) (cs:List (List Ce)) (w:World)
  (hr0:Kd.C (Kd.slice 9 Kd.string) w B0 ss.length ss) (hc0:ss.length ≤ d0) (hr1:Kd.C (Kd.slice 135 k135) w B1 cs.length cs) (hc1:cs.length ≤ d1) (hok:StOk ss cs) :
  Calls Try.prog 59 #[.agg #[.slice A0 n0 c0,.slice A1 n1 c1,v2,v3,v4],.agg #[.slice B0 ss.length d0,.slice B1 cs.length d1]] w fun e w'=>e = .returned (.bool (mayS n0 n1 ss cs))∧Below w.heap.size w w':=by
 have HSS:Aside0 (∀ w',Below w.heap.size w w' → Calls Try.prog 95 #[.slice B0 ss.length d0,.func (.func 96) #[] #[]] w' fun e w''=>e = .returned (.bool (ss.any fun l=>!setB l))∧Below w'.heap.size w' w'') :=
  ⟨fun w' hw=>hasFStrs0 _ enter_may1 _ B0 d0 ss w' (Kd.C_below hr0 hw) hc0 hok.1.1 (fun x hx v hv w2 hb2=>by
   obtain ⟨A5,c5,rfl,k5,g5⟩:=hv
   exact may1_call A5 c5 x w2 (Kd.C_below g5 hb2) k5 (hok.2.1 x hx))⟩
 have HCC:Aside0 (∀ w',Below w.heap.size w w' → Calls Try.prog 98 #[.slice B1 cs.length d1,.func (.func 99) #[] #[]] w' fun e w''=>e = .returned (.bool (cs.any fun l=>!cntB l))∧Below w'.heap.size w' w'') :=
  ⟨fun w' hw=>hasFCells0 _ enter_may2 _ B1 d1 cs w' (Kd.C_below hr1 hw) hc1 hok.1.2 (fun x hx v hv w2 hb2=>by
   obtain ⟨A5,c5,rfl,k5,g5⟩:=hv
   exact may2_call A5 c5 x w2 (Kd.C_below g5 hb2) k5 (hok.2.2 x hx))⟩
 have HM:Aside0 (mayS n0 n1 ss cs=(decide (ss.length=n0) && (decide (cs.length=n1) && (!(ss.any fun l=>!setB l) && !(cs.any fun l=>!cntB l))))):=⟨by
  unfold mayS
  rw [List.not_any_eq_all_not,List.not_any_eq_all_not]
  simp⟩
 clear hr0 hr1 hc0 hc1 hok;generalize mayS n0 n1 ss cs=R at *;generalize (ss.any fun l=>!setB l)=b1 at *;generalize (cs.any fun l=>!cntB l)=b2 at *;generalize ss.length=m0 at *;generalize cs.length=m1 at *;go_enter Try.func59,Try.ntmps59;go_upto_region 1 with (first|((with_reducible refine gate_dst (N:=2) rfl ?_);refine box_event ?hg (N:=2) ?hd (cs:=#[.slice A0 n0 c0,.slice A1 n1 c1,v2,v3,v4]) (t:=26) ?hr ?_;(case hd=>rfl);(case hg=>rfl);(case hr=>first|(go_simp;done)|(go_simp;rfl));intro g hg w3 hbox hb;have HB:=Aside0.mk hb;have BK:=Aside0.mk hbox;have HG:=Aside0.mk hg;clear hb hbox hg)|((with_reducible refine gate_dst (N:=3) rfl ?_);refine box_event ?hg (N:=3) ?hd (cs:=#[.slice B0 m0 d0,.slice B1 m1 d1]) (t:=46) ?hr ?_;(case hd=>rfl);(case hg=>rfl);(case hr=>first|(go_simp;done)|(go_simp;rfl));intro g2 hg w4 hbox hb;have HB2:=Aside0.mk (below_step HB.out hb);have BK1:=Aside0.mk (blk_below BK.out hb);have BK2:=Aside0.mk hbox;clear hb hbox hg));obtain ⟨ha0,ha1⟩:=bc2 BK1.out;obtain ⟨hb0,hb1⟩:=bc2 BK2.out;by_cases e0:m0=n0
 ·(have f0:((m0:Int) == (n0:Int))=true:=by simp [e0]);have E0:=Aside0.mk e0;clear e0;by_cases e1:m1=n1
  ·(have f1:((m1:Int) == (n1:Int))=true:=by simp [e1]);have HM2:Aside0 (R=(!b1 && !b2)):=⟨by rw [HM.out,decide_eq_true E0.out,decide_eq_true e1];rfl⟩;clear HM e1;go_wp2_with fail;refine (HSS.out _ HB2.out).mono ?_;rintro e w5 ⟨rfl,hb5⟩;have HB5:=Aside0.mk (below_step HB2.out hb5);have BK5:=Aside0.mk (blk_below BK2.out hb5);clear hb5 ha0 ha1 hb0 hb1;have hb1:w5.cell? ⟨g2,1,none⟩=some (.slice B1 m1 d1):=(blk_cell BK5.out 1).trans rfl;cases b1 with
   | true =>
    have HQ:Aside0 (R=false):=⟨by rw [HM2.out];rfl⟩;clear HM2;go_wp2_with fail;go_ret;exact ⟨by rw [HQ.out];rfl,HB5.out⟩
   | false =>
    have HQ:Aside0 (R = !b2):=⟨by rw [HM2.out];rfl⟩;clear HM2;go_wp2_with fail;refine (HCC.out _ HB5.out).mono ?_;rintro e w6 ⟨rfl,hb6⟩;have HB6:=Aside0.mk (below_step HB5.out hb6);clear hb6 hb1;go_wp2_with fail;go_ret;exact ⟨by rw [HQ.out];rfl,HB6.out⟩
  ·(have f1:((m1:Int) == (n1:Int))=false:=by simp;omega);have HQ:Aside0 (R=false):=⟨by rw [HM.out,decide_eq_true E0.out,decide_eq_false e1];rfl⟩;clear HM e1;go_wp2_with fail;go_ret;exact ⟨by rw [HQ.out];rfl,HB2.out⟩
 ·(have f0:((m0:Int) == (n0:Int))=false:=by simp;omega);have HQ:Aside0 (R=false):=⟨by rw [HM.out,decide_eq_false e0];rfl⟩;clear HM e0;go_wp2_with fail;go_ret;exact ⟨by rw [HQ.out];rfl,HB2.out⟩
def eval_may.f (l0 l1 l2:List ByteArray) (l3:List S70) (l4:List S66) (ss:List (List ByteArray)) (cs:List (List Ce)):Option Bool:=if StOk ss cs then some (mayS l0.length l1.length ss cs) else none
theorem eval_may.calls (A0:Option Addr) (c0:Nat) (l0:List ByteArray) (A1:Option Addr) (c1:Nat) (l1:List ByteArray) (A2:Option Addr) (c2:Nat) (l2:List ByteArray) (A3:Option Addr) (c3:Nat) (l3:List S70) (A4:Option Addr) (c4:Nat) (l4:List S66) (B0:Option Addr) (d0:Nat) (ss:List (List ByteArray)) (B1:Option Addr) (d1:Nat) (cs:List (List Ce)) (r:Bool) (w:World)
  (_:Kd.C Kd.string w A0 l0.length l0) (_:l0.length ≤ c0) (_:Kd.C Kd.string w A1 l1.length l1) (_:l1.length ≤ c1) (_:Kd.C Kd.string w A2 l2.length l2) (_:l2.length ≤ c2) (_:Kd.C k70 w A3 l3.length l3) (_:l3.length ≤ c3) (_:Kd.C k66 w A4 l4.length l4) (_:l4.length ≤ c4)
  (hr0:Kd.C (Kd.slice 9 Kd.string) w B0 ss.length ss) (hc0:ss.length ≤ d0) (hr1:Kd.C (Kd.slice 135 k135) w B1 cs.length cs) (hc1:cs.length ≤ d1) (h:eval_may.f l0 l1 l2 l3 l4 ss cs=some r) :
  Calls Try.prog 59 #[.agg #[.slice A0 l0.length c0,.slice A1 l1.length c1,.slice A2 l2.length c2,.slice A3 l3.length c3,.slice A4 l4.length c4],.agg #[.slice B0 ss.length d0,.slice B1 cs.length d1]] w fun e w'=>e = .returned (.bool r)∧Below w.heap.size w w':=by
 unfold eval_may.f at h;split at h
 ·rename_i hok;cases h;exact may_call A0 c0 l0.length A1 c1 l1.length _ _ _ B0 d0 ss B1 d1 cs w hr0 hc0 hr1 hc1 hok
 ·cases h
end Go.Proofs.Ytjbjbeihkoeciaa.X
set_option linter.unusedVariables false
namespace Go.Proofs.Ytjbjbeihkoeciaa.X
open Go.RowKit Go.Proofs.YtjbjbeihkoeciaaW.PrintWords Go.Proofs.YtjbjbeihkoeciaaW.PrintLast Go.Proofs.YtjbjbeihkoeciaaW.PrintMore
def EVStr (w:World) (x:ByteArray) (v:Value):Prop:=v = .string x
theorem evStr {w:World} {x:ByteArray} {cs:List Value} (h:Kd.K Kd.string w x cs):cs = [.string x]∧EVStr w x (.string x):=by
 obtain rfl:=h;exact ⟨rfl,rfl⟩
end Go.Proofs.Ytjbjbeihkoeciaa.X
set_option linter.unusedSimpArgs false
set_option linter.unusedVariables false
namespace Go.Proofs.Ytjbjbeihkoeciaa.X
open Go.RowKit Go.Proofs.YtjbjbeihkoeciaaW.PrintWords Go.Proofs.YtjbjbeihkoeciaaW.PrintLast Go.Proofs.YtjbjbeihkoeciaaW.PrintMore
set_option maxHeartbeats 4000000 in
set_option maxRecDepth 100000 in
theorem idxFStr2 (F:FuncId) (cv0:Value) (cv1:Value) (hF:∀ (args:Array Value) (w:World),(callFunc F args).run Try.prog w = .ok (.enter F args) w) (p:ByteArray → Bool) (A:Option Addr) (c:Nat) (l:List ByteArray) (w:World) (hr:Kd.C Kd.string w A l.length l) (hc:l.length ≤ c) (hn:l.length ≤ 4000000000)
  (hp:∀ x ∈ l,∀ v,EVStr w x v → ∀ w',Below w.heap.size w w' → Calls Try.prog F #[v,cv0,cv1] w' fun e w''=>e = .returned (.bool (p x))∧Below w'.heap.size w' w'') :
  Calls Try.prog 136 #[.slice A l.length c,.func (.func F) #[] #[cv0,cv1]] w fun e w'=>e = .returned (.int .i64 (idxF p l))∧Below w.heap.size w w':=by
 generalize hnl:l.length=n at *;have HNL:=Aside0.mk hnl;have HR:=Aside0.mk hr;have HP:=Aside0.mk hp;clear hr hp hnl;go_enter Try.func136,Try.ntmps136;go_wp2_with fail;go_loopw [8] (fun v8 w'=>∃ i:Nat,v8 = .int .i64 (i:Int)∧i ≤ n∧Aside0 (∀ j,j < i → ∀ x,l[j]? = some x → p x=false)∧Aside0 (Below w.heap.size w w')) (fun v8 _=>((n:Int) - intV v8).toNat)
 case atStart=>exact ⟨0,rfl,Nat.zero_le _,⟨fun j hj=>absurd hj (by omega)⟩,⟨Below.refl _ _⟩⟩
 case round =>
  obtain ⟨i,rfl,hi,HA,HB⟩:=hrel;by_cases hlt:i < n
  ·(have hlt':decide ((i:Int) < (n:Int))=true:=by simp;omega);(have p0:0 ≤ (i:Int):=by omega);(have q0:(i:Int) < (n:Int):=by omega);obtain ⟨ad,cs,e0,_,hK,hc0⟩:=Kd.C_get HR.out ByteArray.empty (i:Int) p0 q0;cases e0;(have hget:l[i]? = some (l.getD i ByteArray.empty):=by rw [List.getD_eq_getElem?_getD,List.getElem?_eq_getElem (by rw [HNL.out];exact hlt)];rfl);simp only [Int.toNat_natCast] at hK hc0;generalize hx:l.getD i ByteArray.empty=x at *;have HX:=Aside0.mk hget;have HM:Aside0 (x ∈ l):=⟨List.mem_of_getElem? hget⟩;clear hx hget;have hc1:∀ j u,cs[j]? = some u → w.cell? (ad.add (i * 1 + j))=some u:=hc0;have hEV:=evStr hK;obtain ⟨rfl,hev⟩:=hEV;(have hx0:w.cell? (ad.add i)=some (.string x):=by have h_:=hc1 0 _ rfl;simpa using h_);replace hx0:=(HB.out.cell (World.block_lt_of_cell? w _ hx0)).trans hx0;clear hc1 hc0 hK;have HEV:=Aside0.mk hev;clear hev;replace p0:=eq_true p0;replace q0:=eq_true q0;cases hpx:p x with
   | true =>
    have HPX:=Aside0.mk hpx;clear hpx;go_wp2_with fail;refine (HP.out x HM.out _ HEV.out _ HB.out).mono ?_;rintro e w1 ⟨rfl,hb⟩;have HB1:=Aside0.mk (below_step HB.out hb);clear hb;have hpx:=HPX.out;go_wp2_with fail;go_ret;exact ⟨by rw [idxF_at p l i x HX.out HPX.out HA.out];rfl,HB1.out⟩
   | false =>
    have HPX:=Aside0.mk hpx;clear hpx;go_wp2_with fail;refine (HP.out x HM.out _ HEV.out _ HB.out).mono ?_;rintro e w1 ⟨rfl,hb⟩;have HB1:=Aside0.mk (below_step HB.out hb);clear hb;have hpx:=HPX.out;go_wp2_with fail;go_roundw
    case measure=>simp [intV];omega
    case rel =>
     refine ⟨i + 1,by simp,by omega,⟨fun j hj x' hx'=>?_⟩,HB1⟩;rcases Nat.lt_or_ge j i with h1|h1
     ·exact HA.out j h1 x' hx'
     ·(obtain rfl:j=i:=by omega);rw [HX.out] at hx';cases hx';exact HPX.out
  ·(have hlt':decide ((i:Int) < (n:Int))=false:=by simp;omega);go_wp2_with fail;go_ret;exact ⟨by rw [idxF_none p l (fun j x hx=>HA.out j (by have:=(List.getElem?_eq_some_iff.1 hx).1;have:=HNL.out;omega) x hx)];rfl,HB.out⟩
set_option maxHeartbeats 4000000 in
set_option maxRecDepth 100000 in
theorem hasFStr2 (F:FuncId) (cv0:Value) (cv1:Value) (hF:∀ (args:Array Value) (w:World),(callFunc F args).run Try.prog w = .ok (.enter F args) w) (p:ByteArray → Bool) (A:Option Addr) (c:Nat) (l:List ByteArray) (w:World) (hr:Kd.C Kd.string w A l.length l) (hc:l.length ≤ c) (hn:l.length ≤ 4000000000) (hp:∀ x ∈ l,∀ v,EVStr w x v → ∀ w',Below w.heap.size w w' → Calls Try.prog F #[v,cv0,cv1] w' fun e w''=>e = .returned (.bool (p x))∧Below w'.heap.size w' w''):Calls Try.prog 106 #[.slice A l.length c,.func (.func F) #[] #[cv0,cv1]] w fun e w'=>e = .returned (.bool (l.any p))∧Below w.heap.size w w':=by
 have HR:=Aside0.mk hr;have HP:=Aside0.mk hp;clear hr hp;go_enter Try.func106,Try.ntmps106;go_wp2_with fail;refine (idxFStr2 F cv0 cv1 hF p A c l _ HR.out hc hn HP.out).mono ?_;rintro e w' ⟨rfl,hb⟩;go_wp2_with fail;go_ret;exact ⟨congrArg (fun b=>Ending.returned (.bool b)) (idxF_any p l),hb⟩
end Go.Proofs.Ytjbjbeihkoeciaa.X
set_option linter.unusedVariables false
namespace Go.Proofs.Ytjbjbeihkoeciaa.X
open Go.RowKit Go.Proofs.YtjbjbeihkoeciaaW.PrintWords Go.Proofs.YtjbjbeihkoeciaaW.PrintLast Go.Proofs.YtjbjbeihkoeciaaW.PrintMore
def EVCell (w:World) (x:S135) (v:Value):Prop:=v = .agg #[.string x.f0,.int .i64 x.f1]
theorem evCell {w:World} {x:S135} {cs:List Value} (h:Kd.K k135 w x cs):cs = [.string x.f0,.int .i64 x.f1]∧EVCell w x (.agg #[.string x.f0,.int .i64 x.f1]):=by
 obtain rfl:=k135_open h;exact ⟨rfl,rfl⟩
end Go.Proofs.Ytjbjbeihkoeciaa.X
set_option linter.unusedSimpArgs false
set_option linter.unusedVariables false
namespace Go.Proofs.Ytjbjbeihkoeciaa.X
open Go.RowKit Go.Proofs.YtjbjbeihkoeciaaW.PrintWords Go.Proofs.YtjbjbeihkoeciaaW.PrintLast Go.Proofs.YtjbjbeihkoeciaaW.PrintMore
set_option maxHeartbeats 4000000 in
set_option maxRecDepth 100000 in
theorem idxFCell1 (F:FuncId) (cv0:Value) (hF:∀ (args:Array Value) (w:World),(callFunc F args).run Try.prog w = .ok (.enter F args) w) (p:S135 → Bool) (A:Option Addr) (c:Nat) (l:List S135) (w:World) (hr:Kd.C k135 w A l.length l) (hc:l.length ≤ c) (hn:l.length ≤ 4000000000)
  (hp:∀ x ∈ l,∀ v,EVCell w x v → ∀ w',Below w.heap.size w w' → Calls Try.prog F #[v,cv0] w' fun e w''=>e = .returned (.bool (p x))∧Below w'.heap.size w' w'') :
  Calls Try.prog 137 #[.slice A l.length c,.func (.func F) #[] #[cv0]] w fun e w'=>e = .returned (.int .i64 (idxF p l))∧Below w.heap.size w w':=by
 generalize hnl:l.length=n at *;have HNL:=Aside0.mk hnl;have HR:=Aside0.mk hr;have HP:=Aside0.mk hp;clear hr hp hnl;go_enter Try.func137,Try.ntmps137;go_wp2_with fail;go_loopw [8] (fun v8 w'=>∃ i:Nat,v8 = .int .i64 (i:Int)∧i ≤ n∧Aside0 (∀ j,j < i → ∀ x,l[j]? = some x → p x=false)∧Aside0 (Below w.heap.size w w')) (fun v8 _=>((n:Int) - intV v8).toNat)
 case atStart=>exact ⟨0,rfl,Nat.zero_le _,⟨fun j hj=>absurd hj (by omega)⟩,⟨Below.refl _ _⟩⟩
 case round =>
  obtain ⟨i,rfl,hi,HA,HB⟩:=hrel;by_cases hlt:i < n
  ·(have hlt':decide ((i:Int) < (n:Int))=true:=by simp;omega);(have p0:0 ≤ (i:Int):=by omega);(have q0:(i:Int) < (n:Int):=by omega);obtain ⟨ad,cs,e0,_,hK,hc0⟩:=Kd.C_get HR.out z135 (i:Int) p0 q0;cases e0;(have hget:l[i]? = some (l.getD i z135):=by rw [List.getD_eq_getElem?_getD,List.getElem?_eq_getElem (by rw [HNL.out];exact hlt)];rfl);simp only [Int.toNat_natCast] at hK hc0;generalize hx:l.getD i z135=x at *;have HX:=Aside0.mk hget;have HM:Aside0 (x ∈ l):=⟨List.mem_of_getElem? hget⟩;clear hx hget;have hc1:∀ j u,cs[j]? = some u → w.cell? (ad.add (i * 2 + j))=some u:=hc0;have hEV:=evCell hK;obtain ⟨rfl,hev⟩:=hEV;have hx0:w.cell? (ad.add (i * 2))=some (.string x.f0):=hc1 0 _ rfl;(have hx1:w.cell? ⟨(ad.add (i * 2)).block,(ad.add (i * 2)).off + 1,none⟩=some (.int .i64 x.f1):=by rw [← add_field _ _ 1 (by omega)];exact hc1 1 _ rfl);replace hx0:=(HB.out.cell (World.block_lt_of_cell? w _ hx0)).trans hx0;replace hx1:=(HB.out.cell (World.block_lt_of_cell? w _ hx1)).trans hx1;clear hc1 hc0 hK;have HEV:=Aside0.mk hev;clear hev;replace p0:=eq_true p0;replace q0:=eq_true q0;cases hpx:p x with
   | true =>
    have HPX:=Aside0.mk hpx;clear hpx;go_wp2_with fail;refine (HP.out x HM.out _ HEV.out _ HB.out).mono ?_;rintro e w1 ⟨rfl,hb⟩;have HB1:=Aside0.mk (below_step HB.out hb);clear hb;have hpx:=HPX.out;go_wp2_with fail;go_ret;exact ⟨by rw [idxF_at p l i x HX.out HPX.out HA.out];rfl,HB1.out⟩
   | false =>
    have HPX:=Aside0.mk hpx;clear hpx;go_wp2_with fail;refine (HP.out x HM.out _ HEV.out _ HB.out).mono ?_;rintro e w1 ⟨rfl,hb⟩;have HB1:=Aside0.mk (below_step HB.out hb);clear hb;have hpx:=HPX.out;go_wp2_with fail;go_roundw
    case measure=>simp [intV];omega
    case rel =>
     refine ⟨i + 1,by simp,by omega,⟨fun j hj x' hx'=>?_⟩,HB1⟩;rcases Nat.lt_or_ge j i with h1|h1
     ·exact HA.out j h1 x' hx'
     ·(obtain rfl:j=i:=by omega);rw [HX.out] at hx';cases hx';exact HPX.out
  ·(have hlt':decide ((i:Int) < (n:Int))=false:=by simp;omega);go_wp2_with fail;go_ret;exact ⟨by rw [idxF_none p l (fun j x hx=>HA.out j (by have:=(List.getElem?_eq_some_iff.1 hx).1;have:=HNL.out;omega) x hx)];rfl,HB.out⟩
set_option maxHeartbeats 4000000 in
set_option maxRecDepth 100000 in
theorem hasFCell1 (F:FuncId) (cv0:Value) (hF:∀ (args:Array Value) (w:World),(callFunc F args).run Try.prog w = .ok (.enter F args) w) (p:S135 → Bool) (A:Option Addr) (c:Nat) (l:List S135) (w:World) (hr:Kd.C k135 w A l.length l) (hc:l.length ≤ c) (hn:l.length ≤ 4000000000) (hp:∀ x ∈ l,∀ v,EVCell w x v → ∀ w',Below w.heap.size w w' → Calls Try.prog F #[v,cv0] w' fun e w''=>e = .returned (.bool (p x))∧Below w'.heap.size w' w''):Calls Try.prog 110 #[.slice A l.length c,.func (.func F) #[] #[cv0]] w fun e w'=>e = .returned (.bool (l.any p))∧Below w.heap.size w w':=by
 have HR:=Aside0.mk hr;have HP:=Aside0.mk hp;clear hr hp;go_enter Try.func110,Try.ntmps110;go_wp2_with fail;refine (idxFCell1 F cv0 hF p A c l _ HR.out hc hn HP.out).mono ?_;rintro e w' ⟨rfl,hb⟩;go_wp2_with fail;go_ret;exact ⟨congrArg (fun b=>Ending.returned (.bool b)) (idxF_any p l),hb⟩
end Go.Proofs.Ytjbjbeihkoeciaa.X
set_option linter.unusedSimpArgs false
set_option linter.unusedVariables false
namespace Go.Proofs.Ytjbjbeihkoeciaa.X
open Go.RowKit Go.Proofs.YtjbjbeihkoeciaaW.PrintWords Go.Proofs.YtjbjbeihkoeciaaW.PrintLast Go.Proofs.YtjbjbeihkoeciaaW.PrintMore
set_option maxHeartbeats 4000000 in
set_option maxRecDepth 100000 in
theorem idxFCell2 (F:FuncId) (cv0:Value) (cv1:Value) (hF:∀ (args:Array Value) (w:World),(callFunc F args).run Try.prog w = .ok (.enter F args) w) (p:S135 → Bool) (A:Option Addr) (c:Nat) (l:List S135) (w:World) (hr:Kd.C k135 w A l.length l) (hc:l.length ≤ c) (hn:l.length ≤ 4000000000)
  (hp:∀ x ∈ l,∀ v,EVCell w x v → ∀ w',Below w.heap.size w w' → Calls Try.prog F #[v,cv0,cv1] w' fun e w''=>e = .returned (.bool (p x))∧Below w'.heap.size w' w'') :
  Calls Try.prog 137 #[.slice A l.length c,.func (.func F) #[] #[cv0,cv1]] w fun e w'=>e = .returned (.int .i64 (idxF p l))∧Below w.heap.size w w':=by
 generalize hnl:l.length=n at *;have HNL:=Aside0.mk hnl;have HR:=Aside0.mk hr;have HP:=Aside0.mk hp;clear hr hp hnl;go_enter Try.func137,Try.ntmps137;go_wp2_with fail;go_loopw [8] (fun v8 w'=>∃ i:Nat,v8 = .int .i64 (i:Int)∧i ≤ n∧Aside0 (∀ j,j < i → ∀ x,l[j]? = some x → p x=false)∧Aside0 (Below w.heap.size w w')) (fun v8 _=>((n:Int) - intV v8).toNat)
 case atStart=>exact ⟨0,rfl,Nat.zero_le _,⟨fun j hj=>absurd hj (by omega)⟩,⟨Below.refl _ _⟩⟩
 case round =>
  obtain ⟨i,rfl,hi,HA,HB⟩:=hrel;by_cases hlt:i < n
  ·(have hlt':decide ((i:Int) < (n:Int))=true:=by simp;omega);(have p0:0 ≤ (i:Int):=by omega);(have q0:(i:Int) < (n:Int):=by omega);obtain ⟨ad,cs,e0,_,hK,hc0⟩:=Kd.C_get HR.out z135 (i:Int) p0 q0;cases e0;(have hget:l[i]? = some (l.getD i z135):=by rw [List.getD_eq_getElem?_getD,List.getElem?_eq_getElem (by rw [HNL.out];exact hlt)];rfl);simp only [Int.toNat_natCast] at hK hc0;generalize hx:l.getD i z135=x at *;have HX:=Aside0.mk hget;have HM:Aside0 (x ∈ l):=⟨List.mem_of_getElem? hget⟩;clear hx hget;have hc1:∀ j u,cs[j]? = some u → w.cell? (ad.add (i * 2 + j))=some u:=hc0;have hEV:=evCell hK;obtain ⟨rfl,hev⟩:=hEV;have hx0:w.cell? (ad.add (i * 2))=some (.string x.f0):=hc1 0 _ rfl;(have hx1:w.cell? ⟨(ad.add (i * 2)).block,(ad.add (i * 2)).off + 1,none⟩=some (.int .i64 x.f1):=by rw [← add_field _ _ 1 (by omega)];exact hc1 1 _ rfl);replace hx0:=(HB.out.cell (World.block_lt_of_cell? w _ hx0)).trans hx0;replace hx1:=(HB.out.cell (World.block_lt_of_cell? w _ hx1)).trans hx1;clear hc1 hc0 hK;have HEV:=Aside0.mk hev;clear hev;replace p0:=eq_true p0;replace q0:=eq_true q0;cases hpx:p x with
   | true =>
    have HPX:=Aside0.mk hpx;clear hpx;go_wp2_with fail;refine (HP.out x HM.out _ HEV.out _ HB.out).mono ?_;rintro e w1 ⟨rfl,hb⟩;have HB1:=Aside0.mk (below_step HB.out hb);clear hb;have hpx:=HPX.out;go_wp2_with fail;go_ret;exact ⟨by rw [idxF_at p l i x HX.out HPX.out HA.out];rfl,HB1.out⟩
   | false =>
    have HPX:=Aside0.mk hpx;clear hpx;go_wp2_with fail;refine (HP.out x HM.out _ HEV.out _ HB.out).mono ?_;rintro e w1 ⟨rfl,hb⟩;have HB1:=Aside0.mk (below_step HB.out hb);clear hb;have hpx:=HPX.out;go_wp2_with fail;go_roundw
    case measure=>simp [intV];omega
    case rel =>
     refine ⟨i + 1,by simp,by omega,⟨fun j hj x' hx'=>?_⟩,HB1⟩;rcases Nat.lt_or_ge j i with h1|h1
     ·exact HA.out j h1 x' hx'
     ·(obtain rfl:j=i:=by omega);rw [HX.out] at hx';cases hx';exact HPX.out
  ·(have hlt':decide ((i:Int) < (n:Int))=false:=by simp;omega);go_wp2_with fail;go_ret;exact ⟨by rw [idxF_none p l (fun j x hx=>HA.out j (by have:=(List.getElem?_eq_some_iff.1 hx).1;have:=HNL.out;omega) x hx)];rfl,HB.out⟩
set_option maxHeartbeats 4000000 in
set_option maxRecDepth 100000 in
theorem hasFCell2 (F:FuncId) (cv0:Value) (cv1:Value) (hF:∀ (args:Array Value) (w:World),(callFunc F args).run Try.prog w = .ok (.enter F args) w) (p:S135 → Bool) (A:Option Addr) (c:Nat) (l:List S135) (w:World) (hr:Kd.C k135 w A l.length l) (hc:l.length ≤ c) (hn:l.length ≤ 4000000000) (hp:∀ x ∈ l,∀ v,EVCell w x v → ∀ w',Below w.heap.size w w' → Calls Try.prog F #[v,cv0,cv1] w' fun e w''=>e = .returned (.bool (p x))∧Below w'.heap.size w' w''):Calls Try.prog 110 #[.slice A l.length c,.func (.func F) #[] #[cv0,cv1]] w fun e w'=>e = .returned (.bool (l.any p))∧Below w.heap.size w w':=by
 have HR:=Aside0.mk hr;have HP:=Aside0.mk hp;clear hr hp;go_enter Try.func110,Try.ntmps110;go_wp2_with fail;refine (idxFCell2 F cv0 cv1 hF p A c l _ HR.out hc hn HP.out).mono ?_;rintro e w' ⟨rfl,hb⟩;go_wp2_with fail;go_ret;exact ⟨congrArg (fun b=>Ending.returned (.bool b)) (idxF_any p l),hb⟩
end Go.Proofs.Ytjbjbeihkoeciaa.X

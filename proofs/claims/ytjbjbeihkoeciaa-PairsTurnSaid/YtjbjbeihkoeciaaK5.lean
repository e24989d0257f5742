/- Joined texts of this session, without what nothing needs: Xhucksterref16At, Xhucksterref16Unlike, Xhucksterref16floors, Xhucksterref16May, Xhucksterlaw16Light, RuP, RuQ, Xevalright, Xevalset, XcmpisNaNstring, XcmpLessstring, XslicesisNaNstring, XslicesBinarySearchstring, Xevalin, EvP, EvIn, EvCount, EvStrs, IdxStrs0, EvCells, IdxCells0. -/
import Derived.Deep.QuietTactic
import Derived.BigQuiet
import Derived.Test.YtjbjbeihkoeciaaK1
import Derived.Test.YtjbjbeihkoeciaaK3
import Derived.Test.YtjbjbeihkoeciaaK4
set_option linter.unusedVariables false
set_option linter.unusedSimpArgs false
namespace Go.Proofs.Ytjbjbeihkoeciaa.X
open Go.RowKit Go.Proofs.YtjbjbeihkoeciaaW.PrintWords Go.Proofs.YtjbjbeihkoeciaaW.PrintLast Go.Proofs.YtjbjbeihkoeciaaW.PrintMore
attribute [local go_sem] max2_int min2_int max_two min_two max_three min_three max_four min_four
def r16_At.l0:Nat → List ByteArray → ByteArray → Int → Option (Int)
 | 0,_,_,_=>none
 | k + 1,x0,x1,x5=>if x5 < (x0.length:Int) then (if 0 ≤ x5 then (if (rdOf ByteArray.empty x0 x5).toList=x1.toList then (some x5) else (r16_At.l0 k x0 x1 (wrap64 (x5 + 1)))) else (none)) else (some (-1))
def r16_At.f (k:Nat) (l0:List ByteArray) (a1:ByteArray):Option (Int):=r16_At.l0 k l0 a1 0
set_option maxHeartbeats 8000000 in
set_option maxRecDepth 100000 in
theorem r16_At.calls (k:Nat) (A0:Option Addr) (c0:Nat) (l0:List ByteArray) (a1:ByteArray) (r:Int) (w:World) (hr0:Kd.C Kd.string w A0 l0.length l0) (hc0:l0.length ≤ c0) (h:r16_At.f k l0 a1=some r) :
  Calls Try.prog 76 #[.slice A0 l0.length c0,.string a1] w fun e w'=>e = .returned (.int .i64 r)∧Drawn0 w w':=by
 have HR0:=Sd.mk hr0;have HC0:=Sd.mk hc0;clear hr0 hc0;have H:=h;clear h;unfold r16_At.f at H;have H':=Sd.mk H;clear H;go_enter Try.func76,Try.ntmps76;go_wp2;go_loopg [5] k (fun kq v5 w'=>∃ (x5_1:Int),v5 = .int .i64 x5_1∧Sd (r16_At.l0 kq l0 a1 x5_1=some r)∧Sd (kq ≤ k)∧Drawn0 w w')
 case atStart=>exact ⟨(0),tSS,H',⟨Nat.le_refl _⟩,tR⟩
 case round =>
  clear H';(try clear p2);obtain ⟨x5_1,rfl,HA,HK1,⟨m1,rfl⟩⟩:=hrel;cases gk with
  | zero=>exact absurd HA.out (by simp [r16_At.l0])
  | succ k1 =>
   have H:=HA.out;clear HA;simp only [r16_At.l0] at H;by_cases c3:x5_1 < (l0.length:Int)
   ·rw [if_pos c3] at H;have c3b0:=dTr c3;clear c3;by_cases c4:0 ≤ x5_1
    ·rw [if_pos c4] at H;have c4b0:=dTr c4;clear c4;by_cases c5:(rdOf ByteArray.empty l0 x5_1).toList=a1.toList
     ·rw [if_pos c5] at H;obtain ⟨c5b0,c5b1⟩:=bT c5;clear c5;obtain rfl:=sI H;have p129:0 ≤ (x5_1:Int):=tD;have q129:x5_1 < (l0.length:Int):=tD;obtain ⟨ad129,e129,hx129_0⟩:=Kd.at_string HR0.out x5_1 p129 q129;cases e129;replace p129:=eq_true p129;replace q129:=eq_true q129;go_wp2;go_ret;exact ⟨by first|rfl|(simp;done)|(simp [*];done),tR⟩
     ·rw [if_neg c5] at H;obtain ⟨c5b0,c5b1⟩:=bN c5;have H':=Sd.mk H;clear H;have p129:0 ≤ (x5_1:Int):=tD;have q129:x5_1 < (l0.length:Int):=tD;obtain ⟨ad129,e129,hx129_0⟩:=Kd.at_string HR0.out x5_1 p129 q129;cases e129;replace p129:=eq_true p129;replace q129:=eq_true q129;go_wp2;go_roundg k1
      case measure=>have:=HK1.out;omega
      case rel=>exact ⟨(wrap64 (x5_1 + 1)),tSS,H',⟨by have:=HK1.out;omega⟩,tR⟩
    ·rw [if_neg c4] at H;exact absurd H (by simp)
   ·rw [if_neg c3] at H;have c3b0:=dFa c3;clear c3;obtain rfl:=sI H;go_wp2;go_ret;exact ⟨by first|rfl|(simp;done)|(simp [*];done),tR⟩
def r16_Unlike.l0:Nat → List ByteArray → Int → Option (Bool)
 | 0,_,_=>none
 | k + 1,x0,x3=>if x3 < (x0.length:Int) then (if 0 ≤ x3 then ((r15_Name.f k (rdOf ByteArray.empty x0 x3)).bind fun t131=>(if t131=true then (if x3 ≤ (x0.length:Int) then ((r16_At.f k (x0.take (x3:Int).toNat) (rdOf ByteArray.empty x0 x3)).bind fun t134=>(if t134 ≥ 0 then (some false) else (r16_Unlike.l0 k x0 (wrap64 (x3 + 1))))) else (none)) else (some false))) else (none)) else (some true)
def r16_Unlike.f (k:Nat) (l0:List ByteArray):Option (Bool):=r16_Unlike.l0 k l0 0
def r16_Unlike.T4:Bool × List (List Nat × List Nat):=(true,[([],[]),([],[]),([0,1],[0,1]),([2],[2]),([3],[3]),([4],[4]),([5,4],[5]),([6],[6]),([6],[6]),([7,8,6],[6,7,8]),([6],[6]),([6],[6]),([10,11,6],[6,10,11]),([12,6],[6,12]),([9,13,6,6],[6,9,13]),([14,6],[6,14]),([6,15],[6,15])])
def r16_Unlike.B4:List Nat:=[0,0,3,7,15,31,63,127,127,511,127,127,3199,7295,16383,32767,65535]
theorem r16_Unlike.tab4:rtab .any (opsOf Try.f35 4)=r16_Unlike.T4:=by kernel_rfl
theorem r16_Unlike.bits4:waitsOk r16_Unlike.T4.2 r16_Unlike.B4=true:=by kernel_rfl
set_option maxHeartbeats 8000000 in
set_option maxRecDepth 100000 in
theorem r16_Unlike.calls (k:Nat) (A0:Option Addr) (c0:Nat) (l0:List ByteArray) (r:Bool) (w:World) (hr0:Kd.C Kd.string w A0 l0.length l0) (hc0:l0.length ≤ c0) (h:r16_Unlike.f k l0=some r) :
  Calls Try.prog 35 #[.slice A0 l0.length c0] w fun e w'=>e = .returned (.bool r)∧Below w.heap.size w w':=by
 have HR0:=Sd.mk hr0;have HC0:=Sd.mk hc0;clear hr0 hc0;have HB:=Sd.mk (Below.refl w.heap.size w);have H:=h;clear h;unfold r16_Unlike.f at H;have H':=Sd.mk H;clear H;go_enter Try.func35,Try.ntmps35;go_wp2;go_loopg [3] k (fun kq v3 w'=>∃ (x3_1:Int),v3 = .int .i64 x3_1∧Sd (r16_Unlike.l0 kq l0 x3_1=some r)∧Sd (kq ≤ k)∧Sd (Below w.heap.size w w'))
 case atStart=>exact ⟨(0),tSS,H',⟨Nat.le_refl _⟩,uA⟩
 case round =>
  clear H';obtain ⟨x3_1,rfl,HA,HK1,HB⟩:=hrel;cases gk with
  | zero=>exact absurd HA.out (by simp [r16_Unlike.l0])
  | succ k1 =>
   have H:=HA.out;clear HA;simp only [r16_Unlike.l0] at H;by_cases c2:x3_1 < (l0.length:Int)
   ·rw [if_pos c2] at H;have c2b0:=dTr c2;clear c2;by_cases c3:0 ≤ x3_1
    ·rw [if_pos c3] at H;have c3b0:=dTr c3;clear c3;obtain ⟨t131,A4,H⟩:=oB H;by_cases c5:t131=true
     ·subst c5;replace H:=iT H;have c6b0:=eq_true (tD:0 ≤ x3_1);by_cases c7:x3_1 ≤ (l0.length:Int)
      ·rw [if_pos c7] at H;have c7b0:=eq_true c7;have c7b1:=dTr c7;clear c7;obtain ⟨t134,A8,H⟩:=oB H;by_cases c9:t134 ≥ 0
       ·rw [if_pos c9] at H;have c9b0:=dTr c9;clear c9;obtain rfl:=sI H;(try go_wp2);replace HB:=uI HB;have p130:0 ≤ (x3_1:Int):=tD;have q130:x3_1 < (l0.length:Int):=tD;obtain ⟨ad130,e130,hx130_0⟩:=Kd.at_string HR0.out x3_1 p130 q130;have hw130_0:=hx130_0;cases e130;replace hx130_0:=uC HB hx130_0;replace p130:=eq_true p130;replace q130:=eq_true q130;have p133:0 ≤ (x3_1:Int):=tD;have q133:x3_1 < (l0.length:Int):=tD;obtain ⟨ad133,e133,hx133_0⟩:=Kd.at_string HR0.out x3_1 p133 q133;have hw133_0:=hx133_0;obtain rfl:ad130=ad133:=(by injection e133);replace hx133_0:=uC HB hx133_0;replace p133:=eq_true p133;replace q133:=eq_true q133;refine start_ (n:=17) (S:=fun w'=>w'.cell? (ad130.add (x3_1).toNat)=some (.string (rdOf ByteArray.empty l0 x3_1))∧w'.cell? (ad130.add (x3_1).toNat)=some (.string (rdOf ByteArray.empty l0 x3_1))) (ds:=[]) (ab 17 0) (by kernel_rfl) rfl rfl ⟨uV hw130_0,uV hw133_0⟩ (fun hH=>?_);refine with_tabW r16_Unlike.tab4 r16_Unlike.bits4 (fun HT_ HW_=>?_);generalize wr.drew=w10 at HB hx130_0 hx133_0 hH ⊢;refine pU 0 10 ?_;refine pU 1 11 ?_;refine pU 2 12 ?_;refine tU 3 13 ?_;refine oU (N:=some 14) 4 (fun K hK=>?_);refine gO Try.func75 #[.string (rdOf ByteArray.empty l0 x3_1)] ?_;(with_reducible refine (r15_Name.calls k1 (rdOf ByteArray.empty l0 x3_1) true _ A4.out).mono ?_);rintro e w11 ⟨rfl,hb⟩;refine ⟨_,rfl,?_⟩;replace HB:=uH hb;(try clear hb);(try clear hb2);(try clear hk);(try clear hi);obtain ⟨i012,hi012,_,hsz12,_⟩:=info_parts info9;obtain ⟨hcut12,hA12,hC12⟩:=print_take_of (P:=Try.prog) Value.string (⟨#[]⟩:ByteArray) 22 9 .i64 Try.underlying22 hi012 hsz12 (some ad130) c0 l0 x3_1 (tD) (tD) HC0.out;have HR132:=Sd.mk (Kd.C_of_reads (h1:=fun _=>rfl) (hA12 _ (Kd.reads_of_C HR0.out)));have HC132:=Sd.mk hC12;clear hA12 hC12 hi012 hsz12;refine hK.out _ _ ⟨uV hw130_0,uV hw133_0⟩ (fun hH=>?_);clear hK K;refine nU ?_;refine pU 5 15 ?_;refine pU 6 16 ?_;refine pU 7 17 ?_;refine pU 8 18 ?_;refine pU 9 19 ?_;refine pU 10 20 ?_;refine pU 11 21 ?_;refine pU 12 22 ?_;refine tU 13 23 ?_;refine oU (N:=some 24) 14 (fun K hK=>?_);refine goes_ Try.func76 (by kernel_rfl) rfl #[.slice (some ad130) (l0.take (x3_1:Int).toNat).length c0,.string (rdOf ByteArray.empty l0 x3_1)] (by rfl) rfl rfl (by (try simp only [List.map_toArray,List.map_cons,List.map_nil]);first|done|(rw [show (l0.take (x3_1:Int).toNat).length=x3_1.toNat from (by rw [List.length_take];have h_:(x3_1:Int) ≤ (l0.length:Int):=tD;omega)] <;> rfl)|rfl|(simp only [List.length_drop,List.length_take];rfl)) ?_;(with_reducible refine (r16_At.calls k1 _ _ (l0.take (x3_1:Int).toNat) (rdOf ByteArray.empty l0 x3_1) t134 _ ?side1 HC132.out A8.out).mono ?_);(case side1=>exact sC HR132);rintro e w' ⟨rfl,⟨nd,rfl⟩⟩;refine ⟨_,rfl,?_⟩;refine hK.out _ _ ⟨uV hw130_0,uV hw133_0⟩ (fun hH=>?_);clear hK K;refine nU ?_;refine pU 15 25 ?_;refine pU 16 26 ?_;refine dU ?_;(try go_wp2);go_ret;exact ⟨tW,uB⟩
       ·rw [if_neg c9] at H;have c9b0:=dFa c9;clear c9;have H':=Sd.mk H;clear H;(try go_wp2);replace HB:=uI HB;have p130:0 ≤ (x3_1:Int):=tD;have q130:x3_1 < (l0.length:Int):=tD;obtain ⟨ad130,e130,hx130_0⟩:=Kd.at_string HR0.out x3_1 p130 q130;have hw130_0:=hx130_0;cases e130;replace hx130_0:=uC HB hx130_0;replace p130:=eq_true p130;replace q130:=eq_true q130;have p133:0 ≤ (x3_1:Int):=tD;have q133:x3_1 < (l0.length:Int):=tD;obtain ⟨ad133,e133,hx133_0⟩:=Kd.at_string HR0.out x3_1 p133 q133;have hw133_0:=hx133_0;obtain rfl:ad130=ad133:=(by injection e133);replace hx133_0:=uC HB hx133_0;replace p133:=eq_true p133;replace q133:=eq_true q133;refine start_ (n:=17) (S:=fun w'=>w'.cell? (ad130.add (x3_1).toNat)=some (.string (rdOf ByteArray.empty l0 x3_1))∧w'.cell? (ad130.add (x3_1).toNat)=some (.string (rdOf ByteArray.empty l0 x3_1))) (ds:=[]) (ab 17 0) (by kernel_rfl) rfl rfl ⟨uV hw130_0,uV hw133_0⟩ (fun hH=>?_);refine with_tabW r16_Unlike.tab4 r16_Unlike.bits4 (fun HT_ HW_=>?_);generalize wr.drew=w13 at HB hx130_0 hx133_0 hH ⊢;refine pU 0 10 ?_;refine pU 1 11 ?_;refine pU 2 12 ?_;refine tU 3 13 ?_;refine oU (N:=some 14) 4 (fun K hK=>?_);refine gO Try.func75 #[.string (rdOf ByteArray.empty l0 x3_1)] ?_;(with_reducible refine (r15_Name.calls k1 (rdOf ByteArray.empty l0 x3_1) true _ A4.out).mono ?_);rintro e w14 ⟨rfl,hb⟩;refine ⟨_,rfl,?_⟩;replace HB:=uH hb;(try clear hb);(try clear hb2);(try clear hk);(try clear hi);obtain ⟨i015,hi015,_,hsz15,_⟩:=info_parts info9;obtain ⟨hcut15,hA15,hC15⟩:=print_take_of (P:=Try.prog) Value.string (⟨#[]⟩:ByteArray) 22 9 .i64 Try.underlying22 hi015 hsz15 (some ad130) c0 l0 x3_1 (tD) (tD) HC0.out;have HR132:=Sd.mk (Kd.C_of_reads (h1:=fun _=>rfl) (hA15 _ (Kd.reads_of_C HR0.out)));have HC132:=Sd.mk hC15;clear hA15 hC15 hi015 hsz15;refine hK.out _ _ ⟨uV hw130_0,uV hw133_0⟩ (fun hH=>?_);clear hK K;refine nU ?_;refine pU 5 15 ?_;refine pU 6 16 ?_;refine pU 7 17 ?_;refine pU 8 18 ?_;refine pU 9 19 ?_;refine pU 10 20 ?_;refine pU 11 21 ?_;refine pU 12 22 ?_;refine tU 13 23 ?_;refine oU (N:=some 24) 14 (fun K hK=>?_);refine goes_ Try.func76 (by kernel_rfl) rfl #[.slice (some ad130) (l0.take (x3_1:Int).toNat).length c0,.string (rdOf ByteArray.empty l0 x3_1)] (by rfl) rfl rfl (by (try simp only [List.map_toArray,List.map_cons,List.map_nil]);first|done|(rw [show (l0.take (x3_1:Int).toNat).length=x3_1.toNat from (by rw [List.length_take];have h_:(x3_1:Int) ≤ (l0.length:Int):=tD;omega)] <;> rfl)|rfl|(simp only [List.length_drop,List.length_take];rfl)) ?_;(with_reducible refine (r16_At.calls k1 _ _ (l0.take (x3_1:Int).toNat) (rdOf ByteArray.empty l0 x3_1) t134 _ ?side1 HC132.out A8.out).mono ?_);(case side1=>exact sC HR132);rintro e w' ⟨rfl,⟨nd,rfl⟩⟩;refine ⟨_,rfl,?_⟩;refine hK.out _ _ ⟨uV hw130_0,uV hw133_0⟩ (fun hH=>?_);clear hK K;refine nU ?_;refine pU 15 25 ?_;refine pU 16 26 ?_;refine dU ?_;(try go_wp2);go_roundg k1
        case measure=>have:=HK1.out;omega
        case rel=>exact ⟨(wrap64 (x3_1 + 1)),tSS,H',⟨by have:=HK1.out;omega⟩,uA⟩
      ·rw [if_neg c7] at H;exact absurd H (by simp)
     ·replace c5:=Bool.eq_false_iff.mpr c5;subst c5;replace H:=iF H;obtain rfl:=sI H;(try go_wp2);replace HB:=uI HB;have p130:0 ≤ (x3_1:Int):=tD;have q130:x3_1 < (l0.length:Int):=tD;obtain ⟨ad130,e130,hx130_0⟩:=Kd.at_string HR0.out x3_1 p130 q130;have hw130_0:=hx130_0;cases e130;replace hx130_0:=uC HB hx130_0;replace p130:=eq_true p130;replace q130:=eq_true q130;refine start_ (n:=17) (S:=fun w'=>w'.cell? (ad130.add (x3_1).toNat)=some (.string (rdOf ByteArray.empty l0 x3_1))) (ds:=[]) (ab 17 0) (by kernel_rfl) rfl rfl ((uC HB hw130_0)) (fun hH=>?_);refine with_tabW r16_Unlike.tab4 r16_Unlike.bits4 (fun HT_ HW_=>?_);generalize wr.drew=w16 at HB hx130_0 hH ⊢;refine pU 0 10 ?_;refine pU 1 11 ?_;refine pU 2 12 ?_;refine take_ (i:=3) (N:=some 13) (v:=?_) (a':=?_) (ab 17 15) rfl rfl (take_ofW HT_.out HW_.out (by kernel_rfl)) (fun _ _ _ h=>h) (Or.inl ⟨by rfl,?_⟩) hH ?_ ?_;rotate_left
      ·intro w' s0;go_simp;with_reducible rfl
      rotate_left
      ·simp only [Act.put,q1_,q2_,q3_,i64_w,i32_w];rfl
      refine oU (N:=some 14) 4 (fun K hK=>?_);refine gO Try.func75 #[.string (rdOf ByteArray.empty l0 x3_1)] ?_;(with_reducible refine (r15_Name.calls k1 (rdOf ByteArray.empty l0 x3_1) false _ A4.out).mono ?_);rintro e w17 ⟨rfl,hb⟩;refine ⟨_,rfl,?_⟩;replace HB:=uH hb;(try clear hb);(try clear hb2);(try clear hk);(try clear hi);refine hK.out _ _ ((uC HB hw130_0)) (fun hH=>?_);clear hK K;refine nU ?_;refine pU 5 15 ?_;refine pU 6 16 ?_;refine pV 7 17 ?_;refine pV 8 18 ?_;refine pV 9 19 ?_;refine pV 10 20 ?_;refine pV 11 21 ?_;refine pV 12 22 ?_;refine pV 13 23 ?_;refine pV 14 24 ?_;refine pV 15 25 ?_;refine pU 16 26 ?_;refine dU ?_;(try go_wp2);go_ret;exact ⟨tW,uB⟩
    ·rw [if_neg c3] at H;exact absurd H (by simp)
   ·rw [if_neg c2] at H;have c2b0:=dFa c2;clear c2;obtain rfl:=sI H;go_wp2;go_ret;exact ⟨tW,uB⟩
mutual
def r16_floors.l0:Nat → List (S70) → Int → Option (Bool)
 | 0,_,_=>none
 | k + 1,x0,x3=>if x3 < (x0.length:Int) then (r16_floors.l1 k x0 x3 0) else (some true)
def r16_floors.l1:Nat → List (S70) → Int → Int → Option (Bool)
 | 0,_,_,_=>none
 | k + 1,x0,x3,x4=>if x4 < x3 then (if 0 ≤ x3 then (if x3 < (x0.length:Int) then (if ((rd_T70 x0 x3).f0)=8 then (if 0 ≤ x4 then (if x4 < (x0.length:Int) then (if ((rd_T70 x0 x4).f0)=8 then (if ((rd_T70 x0 x3).f2)=((rd_T70 x0 x4).f2) then (some false) else (r16_floors.l1 k x0 x3 (wrap64 (x4 + 1)))) else (r16_floors.l1 k x0 x3 (wrap64 (x4 + 1)))) else (none)) else (none)) else (r16_floors.l1 k x0 x3 (wrap64 (x4 + 1)))) else (none)) else (none)) else (r16_floors.l0 k x0 (wrap64 (x3 + 1)))
end
def r16_floors.f (k:Nat) (l0:List (S70)):Option (Bool):=r16_floors.l0 k l0 0
set_option maxHeartbeats 8000000 in
set_option maxRecDepth 100000 in
theorem r16_floors.calls (k:Nat) (A0:Option Addr) (c0:Nat) (l0:List (S70)) (r:Bool) (w:World) (hr0:Kd.C k70 w A0 l0.length l0) (hc0:l0.length ≤ c0) (h:r16_floors.f k l0=some r) :
  Calls Try.prog 36 #[.slice A0 l0.length c0] w fun e w'=>e = .returned (.bool r)∧Drawn0 w w':=by
 have HR0:=Sd.mk hr0;have HC0:=Sd.mk hc0;clear hr0 hc0;have H:=h;clear h;unfold r16_floors.f at H;have H':=Sd.mk H;clear H;go_enter Try.func36,Try.ntmps36;go_wp2;(repeat (go_quiet (fail);try go_wp2));go_loopg [3] k (fun kq v3 w'=>∃ (x3_1:Int),v3 = .int .i64 x3_1∧Sd (r16_floors.l0 kq l0 x3_1=some r)∧Sd (kq ≤ k)∧Drawn0 w w')
 case atStart=>exact ⟨(0),tSS,H',⟨Nat.le_refl _⟩,tR⟩
 case round =>
  clear H';obtain ⟨x3_1,rfl,HA,HK1,⟨m1,rfl⟩⟩:=hrel;cases gk with
  | zero=>exact absurd HA.out (by simp [r16_floors.l0])
  | succ k1 =>
   have H:=HA.out;clear HA;simp only [r16_floors.l0] at H;by_cases c2:x3_1 < (l0.length:Int)
   ·rw [if_pos c2] at H;have c2b0:=dTr c2;clear c2;have H':=Sd.mk H;clear H;go_wp2;(repeat (go_quiet (fail);try go_wp2));go_loopg [4] k1 (fun kq v4 w'=>∃ (x4_2:Int),v4 = .int .i64 x4_2∧Sd (r16_floors.l1 kq l0 x3_1 x4_2=some r)∧Sd (kq ≤ k1)∧Drawn0 w w')
    case atStart=>exact ⟨(0),tSS,H',⟨Nat.le_refl _⟩,tR⟩
    case round =>
     clear H';(try clear c2);(try clear c2b0);(try clear p2);obtain ⟨x4_2,rfl,HA,HK2,⟨m2,rfl⟩⟩:=hrel;cases gk with
     | zero=>exact absurd HA.out (by simp [r16_floors.l1])
     | succ k2 =>
      have H:=HA.out;clear HA;simp only [r16_floors.l1] at H;by_cases c3:x4_2 < x3_1
      ·rw [if_pos c3] at H;have c3b0:=dTr c3;clear c3;by_cases c4:0 ≤ x3_1
       ·rw [if_pos c4] at H;have c4b0:=dTr c4;clear c4;by_cases c5:x3_1 < (l0.length:Int)
        ·rw [if_pos c5] at H;have c5b0:=dTr c5;clear c5;by_cases c6:((rd_T70 l0 x3_1).f0)=8
         ·rw [if_pos c6] at H;obtain ⟨c6b0,c6b1⟩:=bT c6;clear c6;by_cases c7:0 ≤ x4_2
          ·rw [if_pos c7] at H;have c7b0:=dTr c7;clear c7;by_cases c8:x4_2 < (l0.length:Int)
           ·rw [if_pos c8] at H;have c8b0:=dTr c8;clear c8;by_cases c9:((rd_T70 l0 x4_2).f0)=8
            ·rw [if_pos c9] at H;obtain ⟨c9b0,c9b1⟩:=bT c9;clear c9;by_cases c10:((rd_T70 l0 x3_1).f2)=((rd_T70 l0 x4_2).f2)
             ·rw [if_pos c10] at H;obtain ⟨c10b0,c10b1⟩:=bT c10;clear c10;obtain rfl:=sI H;have p135:0 ≤ (x3_1:Int):=tD;have q135:x3_1 < (l0.length:Int):=tD;obtain ⟨ad135,e135,hx135_0,hx135_1,hx135_2,hx135_3,hx135_4⟩:=at_T70 HR0.out x3_1 p135 q135;cases e135;replace p135:=eq_true p135;replace q135:=eq_true q135;have p136:0 ≤ (x4_2:Int):=tD;have q136:x4_2 < (l0.length:Int):=tD;obtain ⟨ad136,e136,hx136_0,hx136_1,hx136_2,hx136_3,hx136_4⟩:=at_T70 HR0.out x4_2 p136 q136;obtain rfl:ad135=ad136:=(by injection e136);replace p136:=eq_true p136;replace q136:=eq_true q136;have p137:0 ≤ (x3_1:Int):=tD;have q137:x3_1 < (l0.length:Int):=tD;obtain ⟨ad137,e137,hx137_0,hx137_1,hx137_2,hx137_3,hx137_4⟩:=at_T70 HR0.out x3_1 p137 q137;obtain rfl:ad135=ad137:=(by injection e137);replace p137:=eq_true p137;replace q137:=eq_true q137;have p138:0 ≤ (x4_2:Int):=tD;have q138:x4_2 < (l0.length:Int):=tD;obtain ⟨ad138,e138,hx138_0,hx138_1,hx138_2,hx138_3,hx138_4⟩:=at_T70 HR0.out x4_2 p138 q138;obtain rfl:ad135=ad138:=(by injection e138);replace p138:=eq_true p138;replace q138:=eq_true q138;go_wp2;(repeat (go_quiet (fail);try go_wp2));go_ret;exact ⟨by first|rfl|(simp;done)|(simp [*];done),tR⟩
             ·rw [if_neg c10] at H;obtain ⟨c10b0,c10b1⟩:=bN c10;have H':=Sd.mk H;clear H;have p135:0 ≤ (x3_1:Int):=tD;have q135:x3_1 < (l0.length:Int):=tD;obtain ⟨ad135,e135,hx135_0,hx135_1,hx135_2,hx135_3,hx135_4⟩:=at_T70 HR0.out x3_1 p135 q135;cases e135;replace p135:=eq_true p135;replace q135:=eq_true q135;have p136:0 ≤ (x4_2:Int):=tD;have q136:x4_2 < (l0.length:Int):=tD;obtain ⟨ad136,e136,hx136_0,hx136_1,hx136_2,hx136_3,hx136_4⟩:=at_T70 HR0.out x4_2 p136 q136;obtain rfl:ad135=ad136:=(by injection e136);replace p136:=eq_true p136;replace q136:=eq_true q136;have p137:0 ≤ (x3_1:Int):=tD;have q137:x3_1 < (l0.length:Int):=tD;obtain ⟨ad137,e137,hx137_0,hx137_1,hx137_2,hx137_3,hx137_4⟩:=at_T70 HR0.out x3_1 p137 q137;obtain rfl:ad135=ad137:=(by injection e137);replace p137:=eq_true p137;replace q137:=eq_true q137;have p138:0 ≤ (x4_2:Int):=tD;have q138:x4_2 < (l0.length:Int):=tD;obtain ⟨ad138,e138,hx138_0,hx138_1,hx138_2,hx138_3,hx138_4⟩:=at_T70 HR0.out x4_2 p138 q138;obtain rfl:ad135=ad138:=(by injection e138);replace p138:=eq_true p138;replace q138:=eq_true q138;go_wp2;(repeat (go_quiet (fail);try go_wp2));go_roundg k2
              case measure=>have:=HK1.out;have:=HK2.out;omega
              case rel=>exact ⟨(wrap64 (x4_2 + 1)),tSS,H',⟨by have:=HK1.out;have:=HK2.out;omega⟩,tR⟩
            ·rw [if_neg c9] at H;obtain ⟨c9b0,c9b1⟩:=bN c9;have H':=Sd.mk H;clear H;have p135:0 ≤ (x3_1:Int):=tD;have q135:x3_1 < (l0.length:Int):=tD;obtain ⟨ad135,e135,hx135_0,hx135_1,hx135_2,hx135_3,hx135_4⟩:=at_T70 HR0.out x3_1 p135 q135;cases e135;replace p135:=eq_true p135;replace q135:=eq_true q135;have p136:0 ≤ (x4_2:Int):=tD;have q136:x4_2 < (l0.length:Int):=tD;obtain ⟨ad136,e136,hx136_0,hx136_1,hx136_2,hx136_3,hx136_4⟩:=at_T70 HR0.out x4_2 p136 q136;obtain rfl:ad135=ad136:=(by injection e136);replace p136:=eq_true p136;replace q136:=eq_true q136;go_wp2;(repeat (go_quiet (fail);try go_wp2));go_roundg k2
             case measure=>have:=HK1.out;have:=HK2.out;omega
             case rel=>exact ⟨(wrap64 (x4_2 + 1)),tSS,H',⟨by have:=HK1.out;have:=HK2.out;omega⟩,tR⟩
           ·rw [if_neg c8] at H;exact absurd H (by simp)
          ·rw [if_neg c7] at H;exact absurd H (by simp)
         ·rw [if_neg c6] at H;obtain ⟨c6b0,c6b1⟩:=bN c6;have H':=Sd.mk H;clear H;have p135:0 ≤ (x3_1:Int):=tD;have q135:x3_1 < (l0.length:Int):=tD;obtain ⟨ad135,e135,hx135_0,hx135_1,hx135_2,hx135_3,hx135_4⟩:=at_T70 HR0.out x3_1 p135 q135;cases e135;replace p135:=eq_true p135;replace q135:=eq_true q135;go_wp2;(repeat (go_quiet (fail);try go_wp2));go_roundg k2
          case measure=>have:=HK1.out;have:=HK2.out;omega
          case rel=>exact ⟨(wrap64 (x4_2 + 1)),tSS,H',⟨by have:=HK1.out;have:=HK2.out;omega⟩,tR⟩
        ·rw [if_neg c5] at H;exact absurd H (by simp)
       ·rw [if_neg c4] at H;exact absurd H (by simp)
      ·rw [if_neg c3] at H;have c3b0:=dFa c3;clear c3;have H':=Sd.mk H;clear H;go_wp2;(repeat (go_quiet (fail);try go_wp2));go_roundg k2
       case measure=>have:=HK1.out;have:=HK2.out;omega
       case rel=>exact ⟨(wrap64 (x3_1 + 1)),tSS,H',⟨by have:=HK1.out;have:=HK2.out;omega⟩,tR⟩
   ·rw [if_neg c2] at H;have c2b0:=dFa c2;clear c2;obtain rfl:=sI H;go_wp2;(repeat (go_quiet (fail);try go_wp2));go_ret;exact ⟨by first|rfl|(simp;done)|(simp [*];done),tR⟩
mutual
def r16_May.j0:Nat → Bool → List ByteArray → List ByteArray → List ByteArray → List (S70) → List (S66) → Option (Bool)
 | 0,_,_,_,_,_,_=>none
 | k + 1,x44,Xba,Xbb,Xbc,Xbd,Xbe=>if x44=true then (some false) else (r16_May.l0 k 0 Xba Xbb Xbc Xbd Xbe)
def r16_May.l0:Nat → Int → List ByteArray → List ByteArray → List ByteArray → List (S70) → List (S66) → Option (Bool)
 | 0,_,_,_,_,_,_=>none
 | k + 1,x3,Xba,Xbb,Xbc,Xbd,Xbe=>if x3 < (Xbd.length:Int) then (if 0 ≤ x3 then ((r16_Clause.f k Xba Xbb Xbc Xbd Xbe ((rd_T70 Xbd x3).f0) ((rd_T70 Xbd x3).f1) ((rd_T70 Xbd x3).f2) ((rd_T70 Xbd x3).f3) ((rd_T70 Xbd x3).f4)).bind fun t168=>(if t168=true then (r16_May.l0 k (wrap64 (x3 + 1)) Xba Xbb Xbc Xbd Xbe) else (some false))) else (none)) else (r16_May.l1 k 0 Xba Xbb Xbc Xbd Xbe)
def r16_May.l1:Nat → Int → List ByteArray → List ByteArray → List ByteArray → List (S70) → List (S66) → Option (Bool)
 | 0,_,_,_,_,_,_=>none
 | k + 1,x4,Xba,Xbb,Xbc,Xbd,Xbe=>if x4 < (Xbe.length:Int) then (if 0 ≤ x4 then ((r16_Oper.f k Xba Xbb Xbc Xbd Xbe ((rd_T66 Xbe x4).f0) ((rd_T66 Xbe x4).f1)).bind fun t170=>(if t170=true then (r16_May.l1 k (wrap64 (x4 + 1)) Xba Xbb Xbc Xbd Xbe) else (some false))) else (none)) else (some true)
end
def r16_May.f (k:Nat) (l00:List ByteArray) (l01:List ByteArray) (l02:List ByteArray) (l03:List (S70)) (l04:List (S66)):Option (Bool):=if (l00.length:Int) > 6 then (r16_May.j0 k true l00 l01 l02 l03 l04) else (if (l01.length:Int) > 4 then (r16_May.j0 k true l00 l01 l02 l03 l04) else (if (l02.length:Int) > 3 then (r16_May.j0 k true l00 l01 l02 l03 l04) else (if (l04.length:Int) > 16 then (r16_May.j0 k true l00 l01 l02 l03 l04) else (if (l03.length:Int) > 12 then (r16_May.j0 k true l00 l01 l02 l03 l04) else ((r16_All.f k l00 l01 l02 l03 l04).bind fun t162=>((r16_Unlike.f k t162).bind fun t165=>(if t165=true then ((r16_floors.f k l03).bind fun t166=>(r16_May.j0 k (!t166) l00 l01 l02 l03 l04)) else (r16_May.j0 k true l00 l01 l02 l03 l04))))))))
def r16_May.T6:Bool × List (List Nat × List Nat):=(true,[([],[]),([],[]),([1],[1]),([],[]),([2,3],[2,3]),([4],[4]),([0,5],[0,5]),([6],[6])])
def r16_May.B6:List Nat:=[0,0,2,0,14,30,63,127]
theorem r16_May.tab6:rtab .any (opsOf Try.f9 6)=r16_May.T6:=by kernel_rfl
theorem r16_May.bits6:waitsOk r16_May.T6.2 r16_May.B6=true:=by kernel_rfl
def r16_May.T11:Bool × List (List Nat × List Nat):=(true,[([],[]),([],[]),([1],[1]),([],[]),([2,3],[2,3]),([4],[4]),([0,5],[0,5]),([6],[6])])
def r16_May.B11:List Nat:=[0,0,2,0,14,30,63,127]
theorem r16_May.tab11:rtab .any (opsOf Try.f9 11)=r16_May.T11:=by kernel_rfl
theorem r16_May.bits11:waitsOk r16_May.T11.2 r16_May.B11=true:=by kernel_rfl
set_option maxHeartbeats 8000000 in
set_option maxRecDepth 100000 in
theorem r16_May.calls (k:Nat) (A0_0:Option Addr) (c0_0:Nat) (l00:List ByteArray) (A0_1:Option Addr) (c0_1:Nat) (l01:List ByteArray) (A0_2:Option Addr) (c0_2:Nat) (l02:List ByteArray) (A0_3:Option Addr) (c0_3:Nat) (l03:List (S70)) (A0_4:Option Addr) (c0_4:Nat) (l04:List (S66)) (r:Bool) (w:World) (hr00:Kd.C Kd.string w A0_0 l00.length l00) (hc00:l00.length ≤ c0_0) (hr01:Kd.C Kd.string w A0_1 l01.length l01) (hc01:l01.length ≤ c0_1) (hr02:Kd.C Kd.string w A0_2 l02.length l02) (hc02:l02.length ≤ c0_2) (hr03:Kd.C k70 w A0_3 l03.length l03) (hc03:l03.length ≤ c0_3) (hr04:Kd.C k66 w A0_4 l04.length l04) (hc04:l04.length ≤ c0_4) (h:r16_May.f k l00 l01 l02 l03 l04=some r) :
  Calls Try.prog 9 #[.agg #[.slice A0_0 l00.length c0_0,.slice A0_1 l01.length c0_1,.slice A0_2 l02.length c0_2,.slice A0_3 l03.length c0_3,.slice A0_4 l04.length c0_4]] w fun e w'=>e = .returned (.bool r)∧Below w.heap.size w w':=by
 have hu26:=Try.underlying26;have hu70:=Try.underlying70;have hu66:=Try.underlying66;have HR00:=Sd.mk hr00;have J00:=Sd.mk hc00;clear hr00 hc00;have HR01:=Sd.mk hr01;have J01:=Sd.mk hc01;clear hr01 hc01;have HR02:=Sd.mk hr02;have J02:=Sd.mk hc02;clear hr02 hc02;have HR03:=Sd.mk hr03;have J03:=Sd.mk hc03;clear hr03 hc03;have HR04:=Sd.mk hr04;have J04:=Sd.mk hc04;clear hr04 hc04;have HB:=Sd.mk (Below.refl w.heap.size w);have H:=h;clear h;unfold r16_May.f at H;have HC2:=Sd.mk H;clear H;go_enter Try.func9,Try.ntmps9;go_upto_region 1 with (first|((with_reducible refine gate_dst (N:=1) rfl ?_);(try (refine gate_guard (by rfl) ?_;dsimp only));refine uY 1 (cs:=#[.slice A0_0 l00.length c0_0,.slice A0_1 l01.length c0_1,.slice A0_2 l02.length c0_2,.slice A0_3 l03.length c0_3,.slice A0_4 l04.length c0_4]) (t:=26) fun gb161 hg w3 BK161 hb GE161 HB=>?_;clear hb hg));(try simp only [Act.put,q1_,q2_,q3_]);go_cut [44] (fun v44 wc=>∃ (kq:Nat) (x44_1:Bool),v44 = .bool x44_1∧Sd (r16_May.j0 kq x44_1 l00 l01 l02 l03 l04=some r)∧Sd (kq ≤ k)∧Sd (wc.heap[gb161]? = some (.cells #[(.slice A0_0 l00.length c0_0),(.slice A0_1 l01.length c0_1),(.slice A0_2 l02.length c0_2),(.slice A0_3 l03.length c0_3),(.slice A0_4 l04.length c0_4)] 26 (0,0)))∧Sd (Below w.heap.size w wc))
 case first =>
  have H:=HC2.out;clear HC2;replace H:=iD H;rcases H with ⟨c4,c4b0,H⟩ | ⟨c4,c4b0,H⟩
  ·have c4b1:decide (6 < l00.length)=true:=decide_eq_true (by omega);clear c4;(first|rw [c4b0]|(simp only [i64_w,i32_w];rw [c4b0])|skip);have H':=Sd.mk H;clear H;have Z5:=bd5 BK161;go_wp2;go_meet
   case rel=>exact ⟨_,(true),tSS,H',⟨tO⟩,kA BK161,uA⟩
  ·have c4b1:decide (6 < l00.length)=false:=decide_eq_false (by omega);clear c4;(first|rw [c4b0]|(simp only [i64_w,i32_w];rw [c4b0])|skip);replace H:=iD H;rcases H with ⟨c6,c6b0,H⟩ | ⟨c6,c6b0,H⟩
   ·have c6b1:decide (4 < l01.length)=true:=decide_eq_true (by omega);clear c6;have H':=Sd.mk H;clear H;have Z7:=bd5 BK161;go_wp2;go_meet
    case rel=>exact ⟨_,(true),tSS,H',⟨tO⟩,kA BK161,uA⟩
   ·have c6b1:decide (4 < l01.length)=false:=decide_eq_false (by omega);clear c6;replace H:=iD H;rcases H with ⟨c8,c8b0,H⟩ | ⟨c8,c8b0,H⟩
    ·have c8b1:decide (3 < l02.length)=true:=decide_eq_true (by omega);clear c8;have H':=Sd.mk H;clear H;have Z9:=bd5 BK161;go_wp2;go_meet
     case rel=>exact ⟨_,(true),tSS,H',⟨tO⟩,kA BK161,uA⟩
    ·have c8b1:decide (3 < l02.length)=false:=decide_eq_false (by omega);clear c8;replace H:=iD H;rcases H with ⟨c10,c10b0,H⟩ | ⟨c10,c10b0,H⟩
     ·have c10b1:decide (16 < l04.length)=true:=decide_eq_true (by omega);clear c10;have H':=Sd.mk H;clear H;have Z11:=bd5 BK161;go_wp2;go_meet
      case rel=>exact ⟨_,(true),tSS,H',⟨tO⟩,kA BK161,uA⟩
     ·have c10b1:decide (16 < l04.length)=false:=decide_eq_false (by omega);clear c10;replace H:=iD H;rcases H with ⟨c12,c12b0,H⟩ | ⟨c12,c12b0,H⟩
      ·have c12b1:decide (12 < l03.length)=true:=decide_eq_true (by omega);clear c12;have H':=Sd.mk H;clear H;have Z13:=bd5 BK161;go_wp2;go_meet
       case rel=>exact ⟨_,(true),tSS,H',⟨tO⟩,kA BK161,uA⟩
      ·have c12b1:decide (12 < l03.length)=false:=decide_eq_false (by omega);clear c12;obtain ⟨t162,A14,H⟩:=oB H;obtain ⟨t165,A15,H⟩:=oB H;by_cases c16:t165=true
       ·subst c16;replace H:=iT H;obtain ⟨t166,A17,H⟩:=oB H;have H':=Sd.mk H;clear H;have Z18:=bd5 BK161;go_wp2_with (first|(go_at_call 24;(with_reducible refine (r16_All.calls k _ _ l00 _ _ l01 _ _ l02 _ _ l03 _ _ l04 t162 _ (sC HR00) J00.out (sC HR01) J01.out (sC HR02) J02.out (sC HR03) J03.out (sC HR04) J04.out A14.out).mono ?_);rintro e w19 ⟨v163,rfl,ho0,hb⟩;have HO164:=Sd.mk (Kd.R_lower ho0 (below_size uB));replace BK161:=uK BK161 hb;replace HB:=uH hb;(try clear hb);(try clear hb2);(try clear hk);(try clear hi);(try clear ho0);obtain ⟨Ao20,co20,eo20⟩:=Kd.R_slice HO164.out;subst eo20)|(go_at_call 35;(with_reducible refine (r16_Unlike.calls k _ _ t162 true _ ?side1 ?side2 A15.out).mono ?_);(case side1=>exact sE (Kd.R_reads' HO164.out).2.2);(case side2=>exact (Kd.R_reads' HO164.out).2.1);rintro e w21 ⟨rfl,hb⟩;replace HO164:=Sd.mk (Kd.R_below (kR HO164) hb);replace BK161:=uK BK161 hb;replace HB:=uH hb;(try clear hb);(try clear hb2);(try clear hk);(try clear hi);have Z22:=bd5 BK161)|(go_at_call 36;(with_reducible refine (r16_floors.calls k _ _ l03 t166 _ (sC HR03) J03.out A17.out).mono ?_);rintro e w' ⟨rfl,⟨nd,rfl⟩⟩));go_meet
        case rel=>exact ⟨_,(!t166),tSS,H',⟨tO⟩,kA BK161,uA⟩
       ·replace c16:=Bool.eq_false_iff.mpr c16;subst c16;replace H:=iF H;have H':=Sd.mk H;clear H;have Z23:=bd5 BK161;go_wp2_with (first|(go_at_call 24;(with_reducible refine (r16_All.calls k _ _ l00 _ _ l01 _ _ l02 _ _ l03 _ _ l04 t162 _ (sC HR00) J00.out (sC HR01) J01.out (sC HR02) J02.out (sC HR03) J03.out (sC HR04) J04.out A14.out).mono ?_);rintro e w24 ⟨v163,rfl,ho0,hb⟩;have HO164:=Sd.mk (Kd.R_lower ho0 (below_size uB));replace BK161:=uK BK161 hb;replace HB:=uH hb;(try clear hb);(try clear hb2);(try clear hk);(try clear hi);(try clear ho0);obtain ⟨Ao25,co25,eo25⟩:=Kd.R_slice HO164.out;subst eo25)|(go_at_call 35;(with_reducible refine (r16_Unlike.calls k _ _ t162 false _ ?side1 ?side2 A15.out).mono ?_);(case side1=>exact sE (Kd.R_reads' HO164.out).2.2);(case side2=>exact (Kd.R_reads' HO164.out).2.1);rintro e w26 ⟨rfl,hb⟩;replace HO164:=Sd.mk (Kd.R_below (kR HO164) hb);replace BK161:=uK BK161 hb;replace HB:=uH hb;(try clear hb);(try clear hb2);(try clear hk);(try clear hi)));go_meet
        case rel=>exact ⟨_,(true),tSS,H',⟨tO⟩,kA BK161,uA⟩
 case rest =>
  clear HC2;(try clear c1);(try clear p2);(try clear c4);(try clear c4b0);(try clear c4b1);(try clear c6);(try clear c6b0);(try clear c6b1);(try clear c8);(try clear c8b0);(try clear c8b1);(try clear c9);(try clear c10);(try clear c10b0);(try clear c10b1);(try clear c12);(try clear c12b0);(try clear c12b1);(try clear c16);(try clear Z11);(try clear Z13);(try clear Z18);(try clear Z22);(try clear Z23);(try clear Z5);(try clear Z7);(try clear Z9);obtain ⟨kq,x44_1,rfl,HA,HJ1,BK161,HB⟩:=hcut;cases kq with
  | zero=>exact absurd HA.out (by simp [r16_May.j0])
  | succ kj1 =>
   have H:=HA.out;clear HA;simp only [r16_May.j0] at H;by_cases c27:x44_1=true
   ·subst c27;replace H:=iT H;obtain rfl:=sI H;go_wp2;go_ret;exact ⟨tW,uB⟩
   ·replace c27:=Bool.eq_false_iff.mpr c27;subst c27;replace H:=iF H;have H':=Sd.mk H;clear H;go_wp2;go_loopg [3] kj1 (fun kq v3 w'=>∃ (x3_2:Int),v3 = .int .i64 x3_2∧Sd (r16_May.l0 kq x3_2 l00 l01 l02 l03 l04=some r)∧Sd (kq ≤ kj1)∧Sd (w'.heap[gb161]? = some (.cells #[(.slice A0_0 l00.length c0_0),(.slice A0_1 l01.length c0_1),(.slice A0_2 l02.length c0_2),(.slice A0_3 l03.length c0_3),(.slice A0_4 l04.length c0_4)] 26 (0,0)))∧Sd (Below w.heap.size w w'))
    case atStart=>exact ⟨(0),tSS,H',⟨Nat.le_refl _⟩,kA BK161,uA⟩
    case round =>
     clear H';(try clear c1);(try clear c2);(try clear p2);(try clear c4);(try clear c4b0);(try clear c4b1);(try clear c6);(try clear c6b0);(try clear c6b1);(try clear c8);(try clear c8b0);(try clear c8b1);(try clear c9);(try clear c10);(try clear c10b0);(try clear c10b1);(try clear c12);(try clear c12b0);(try clear c12b1);(try clear c16);(try clear c27);(try clear Z11);(try clear Z13);(try clear Z18);(try clear Z22);(try clear Z23);(try clear Z5);(try clear Z7);(try clear Z9);(try clear p2);obtain ⟨x3_2,rfl,HA,HK2,BK161,HB⟩:=hrel;cases gk with
     | zero=>exact absurd HA.out (by simp [r16_May.l0])
     | succ k2 =>
      have H:=HA.out;clear HA;simp only [r16_May.l0] at H;replace H:=iD H;rcases H with ⟨c28,c28b0,H⟩ | ⟨c28,c28b0,H⟩
      ·clear c28;replace H:=iB H;rcases H with ⟨c29,H⟩ | ⟨c29,H⟩
       ·have c29b0:=dTr c29;clear c29;obtain ⟨t168,A30,H⟩:=oB H;by_cases c31:t168=true
        ·subst c31;replace H:=iT H;have H':=Sd.mk H;clear H;have Z32:=bd5 BK161;(try go_wp2);replace BK161:=uE BK161;replace HB:=uI HB;have p167:0 ≤ (x3_2:Int):=tD;have q167:x3_2 < (l03.length:Int):=tD;obtain ⟨ad167,e167,hx167_0,hx167_1,hx167_2,hx167_3,hx167_4⟩:=at_T70 HR03.out x3_2 p167 q167;have hw167_4:=hx167_4;have hw167_3:=hx167_3;have hw167_2:=hx167_2;have hw167_1:=hx167_1;have hw167_0:=hx167_0;cases e167;replace hx167_0:=uC HB hx167_0;replace hx167_1:=uC HB hx167_1;replace hx167_2:=uC HB hx167_2;replace hx167_3:=uC HB hx167_3;replace hx167_4:=uC HB hx167_4;replace p167:=eq_true p167;replace q167:=eq_true q167;refine start_ (n:=8) (S:=fun w'=>w'.cell? ⟨gb161,0,none⟩=some (.slice A0_0 l00.length c0_0)∧w'.cell? ⟨gb161,1,none⟩=some (.slice A0_1 l01.length c0_1)∧w'.cell? ⟨gb161,2,none⟩=some (.slice A0_2 l02.length c0_2)∧w'.cell? ⟨gb161,3,none⟩=some (.slice (some ad167) l03.length c0_3)∧w'.cell? ⟨gb161,4,none⟩=some (.slice A0_4 l04.length c0_4)∧w'.cell? (ad167.add ((x3_2).toNat * 5))=some (.int .i64 ((rd_T70 l03 x3_2).f0))∧w'.cell? ⟨(ad167.add ((x3_2).toNat * 5)).block,(ad167.add ((x3_2).toNat * 5)).off + 1,none⟩=some (.bool ((rd_T70 l03 x3_2).f1))∧w'.cell? ⟨(ad167.add ((x3_2).toNat * 5)).block,(ad167.add ((x3_2).toNat * 5)).off + 2,none⟩=some (.int .i64 ((rd_T70 l03 x3_2).f2))∧w'.cell? ⟨(ad167.add ((x3_2).toNat * 5)).block,(ad167.add ((x3_2).toNat * 5)).off + 3,none⟩=some (.int .i64 ((rd_T70 l03 x3_2).f3))∧w'.cell? ⟨(ad167.add ((x3_2).toNat * 5)).block,(ad167.add ((x3_2).toNat * 5)).off + 4,none⟩=some (.int .i64 ((rd_T70 l03 x3_2).f4))) (ds:=[]) (ab 8 0) (by kernel_rfl) rfl rfl ⟨cB BK161 0,cB BK161 1,cB BK161 2,cB BK161 3,cB BK161 4,uV hw167_0,uV hw167_1,uV hw167_2,uV hw167_3,uV hw167_4⟩ (fun hH=>?_);refine with_tabW r16_May.tab6 r16_May.bits6 (fun HT_ HW_=>?_);generalize wr.drew=w33 at BK161 HB hx167_0 hx167_1 hx167_2 hx167_3 hx167_4 hH ⊢;refine pU 1 53 ?_;refine pU 3 55 ?_;refine tU 0 52 ?_;refine tU 2 54 ?_;refine pU 4 56 ?_;refine tU 5 57 ?_;refine oU (N:=some 58) 6 (fun K hK=>?_);refine gO Try.func37 #[.agg #[.slice A0_0 l00.length c0_0,.slice A0_1 l01.length c0_1,.slice A0_2 l02.length c0_2,.slice (some ad167) l03.length c0_3,.slice A0_4 l04.length c0_4],.agg #[.int .i64 ((rd_T70 l03 x3_2).f0),.bool ((rd_T70 l03 x3_2).f1),.int .i64 ((rd_T70 l03 x3_2).f2),.int .i64 ((rd_T70 l03 x3_2).f3),.int .i64 ((rd_T70 l03 x3_2).f4)]] ?_;(with_reducible refine (r16_Clause.calls k2 _ _ l00 _ _ l01 _ _ l02 _ _ l03 _ _ l04 ((rd_T70 l03 x3_2).f0) ((rd_T70 l03 x3_2).f1) ((rd_T70 l03 x3_2).f2) ((rd_T70 l03 x3_2).f3) ((rd_T70 l03 x3_2).f4) true _ (sC HR00) J00.out (sC HR01) J01.out (sC HR02) J02.out (sC HR03) J03.out (sC HR04) J04.out A30.out).mono ?_);rintro e w34 ⟨rfl,hb⟩;refine ⟨_,rfl,?_⟩;replace BK161:=uK BK161 hb;replace HB:=uH hb;(try clear hb);(try clear hb2);(try clear hk);(try clear hi);refine hK.out _ _ ⟨cB BK161 0,cB BK161 1,cB BK161 2,cB BK161 3,cB BK161 4,uV hw167_0,uV hw167_1,uV hw167_2,uV hw167_3,uV hw167_4⟩ (fun hH=>?_);clear hK K;refine nU ?_;refine pU 7 59 ?_;refine dU ?_;(try go_wp2);go_roundg k2
         case measure=>have:=HJ1.out;have:=HK2.out;omega
         case rel=>exact ⟨(wrap64 (x3_2 + 1)),tSS,H',⟨by have:=HJ1.out;have:=HK2.out;omega⟩,kA BK161,uA⟩
        ·replace c31:=Bool.eq_false_iff.mpr c31;subst c31;replace H:=iF H;obtain rfl:=sI H;have Z35:=bd5 BK161;(try go_wp2);replace BK161:=uE BK161;replace HB:=uI HB;have p167:0 ≤ (x3_2:Int):=tD;have q167:x3_2 < (l03.length:Int):=tD;obtain ⟨ad167,e167,hx167_0,hx167_1,hx167_2,hx167_3,hx167_4⟩:=at_T70 HR03.out x3_2 p167 q167;have hw167_4:=hx167_4;have hw167_3:=hx167_3;have hw167_2:=hx167_2;have hw167_1:=hx167_1;have hw167_0:=hx167_0;cases e167;replace hx167_0:=uC HB hx167_0;replace hx167_1:=uC HB hx167_1;replace hx167_2:=uC HB hx167_2;replace hx167_3:=uC HB hx167_3;replace hx167_4:=uC HB hx167_4;replace p167:=eq_true p167;replace q167:=eq_true q167;refine start_ (n:=8) (S:=fun w'=>w'.cell? ⟨gb161,0,none⟩=some (.slice A0_0 l00.length c0_0)∧w'.cell? ⟨gb161,1,none⟩=some (.slice A0_1 l01.length c0_1)∧w'.cell? ⟨gb161,2,none⟩=some (.slice A0_2 l02.length c0_2)∧w'.cell? ⟨gb161,3,none⟩=some (.slice (some ad167) l03.length c0_3)∧w'.cell? ⟨gb161,4,none⟩=some (.slice A0_4 l04.length c0_4)∧w'.cell? (ad167.add ((x3_2).toNat * 5))=some (.int .i64 ((rd_T70 l03 x3_2).f0))∧w'.cell? ⟨(ad167.add ((x3_2).toNat * 5)).block,(ad167.add ((x3_2).toNat * 5)).off + 1,none⟩=some (.bool ((rd_T70 l03 x3_2).f1))∧w'.cell? ⟨(ad167.add ((x3_2).toNat * 5)).block,(ad167.add ((x3_2).toNat * 5)).off + 2,none⟩=some (.int .i64 ((rd_T70 l03 x3_2).f2))∧w'.cell? ⟨(ad167.add ((x3_2).toNat * 5)).block,(ad167.add ((x3_2).toNat * 5)).off + 3,none⟩=some (.int .i64 ((rd_T70 l03 x3_2).f3))∧w'.cell? ⟨(ad167.add ((x3_2).toNat * 5)).block,(ad167.add ((x3_2).toNat * 5)).off + 4,none⟩=some (.int .i64 ((rd_T70 l03 x3_2).f4))) (ds:=[]) (ab 8 0) (by kernel_rfl) rfl rfl ⟨cB BK161 0,cB BK161 1,cB BK161 2,cB BK161 3,cB BK161 4,uV hw167_0,uV hw167_1,uV hw167_2,uV hw167_3,uV hw167_4⟩ (fun hH=>?_);refine with_tabW r16_May.tab6 r16_May.bits6 (fun HT_ HW_=>?_);generalize wr.drew=w36 at BK161 HB hx167_0 hx167_1 hx167_2 hx167_3 hx167_4 hH ⊢;refine pU 1 53 ?_;refine pU 3 55 ?_;refine tU 0 52 ?_;refine tU 2 54 ?_;refine pU 4 56 ?_;refine tU 5 57 ?_;refine oU (N:=some 58) 6 (fun K hK=>?_);refine gO Try.func37 #[.agg #[.slice A0_0 l00.length c0_0,.slice A0_1 l01.length c0_1,.slice A0_2 l02.length c0_2,.slice (some ad167) l03.length c0_3,.slice A0_4 l04.length c0_4],.agg #[.int .i64 ((rd_T70 l03 x3_2).f0),.bool ((rd_T70 l03 x3_2).f1),.int .i64 ((rd_T70 l03 x3_2).f2),.int .i64 ((rd_T70 l03 x3_2).f3),.int .i64 ((rd_T70 l03 x3_2).f4)]] ?_;(with_reducible refine (r16_Clause.calls k2 _ _ l00 _ _ l01 _ _ l02 _ _ l03 _ _ l04 ((rd_T70 l03 x3_2).f0) ((rd_T70 l03 x3_2).f1) ((rd_T70 l03 x3_2).f2) ((rd_T70 l03 x3_2).f3) ((rd_T70 l03 x3_2).f4) false _ (sC HR00) J00.out (sC HR01) J01.out (sC HR02) J02.out (sC HR03) J03.out (sC HR04) J04.out A30.out).mono ?_);rintro e w37 ⟨rfl,hb⟩;refine ⟨_,rfl,?_⟩;replace BK161:=uK BK161 hb;replace HB:=uH hb;(try clear hb);(try clear hb2);(try clear hk);(try clear hi);refine hK.out _ _ ⟨cB BK161 0,cB BK161 1,cB BK161 2,cB BK161 3,cB BK161 4,uV hw167_0,uV hw167_1,uV hw167_2,uV hw167_3,uV hw167_4⟩ (fun hH=>?_);clear hK K;refine nU ?_;refine pU 7 59 ?_;refine dU ?_;(try go_wp2);go_ret;exact ⟨tW,uB⟩
       ·exact absurd H (by simp)
      ·clear c28;have H':=Sd.mk H;clear H;have Z38:=bd5 BK161;go_wp2;go_loopg [4] k2 (fun kq v4 w'=>∃ (x4_3:Int),v4 = .int .i64 x4_3∧Sd (r16_May.l1 kq x4_3 l00 l01 l02 l03 l04=some r)∧Sd (kq ≤ k2)∧Sd (w'.heap[gb161]? = some (.cells #[(.slice A0_0 l00.length c0_0),(.slice A0_1 l01.length c0_1),(.slice A0_2 l02.length c0_2),(.slice A0_3 l03.length c0_3),(.slice A0_4 l04.length c0_4)] 26 (0,0)))∧Sd (Below w.heap.size w w'))
       case atStart=>exact ⟨(0),tSS,H',⟨Nat.le_refl _⟩,kA BK161,uA⟩
       case round =>
        clear H';(try clear c1);(try clear p1);(try clear q1);(try clear hx1);(try clear c2);(try clear p2);(try clear c3);(try clear c4);(try clear c4b0);(try clear c4b1);(try clear c6);(try clear c6b0);(try clear c6b1);(try clear p6);(try clear c8);(try clear c8b0);(try clear c8b1);(try clear c9);(try clear c10);(try clear c10b0);(try clear c10b1);(try clear c12);(try clear c12b0);(try clear c12b1);(try clear c16);(try clear p16);(try clear q16);(try clear hx16);(try clear c27);(try clear c28);(try clear c28b0);(try clear c29);(try clear c29b0);(try clear c31);(try clear c37);(try clear Z11);(try clear Z13);(try clear Z18);(try clear Z22);(try clear Z23);(try clear Z32);(try clear Z35);(try clear Z38);(try clear Z5);(try clear Z7);(try clear Z9);(try clear hx167_0);(try clear hx167_1);(try clear hx167_2);(try clear hx167_3);(try clear hx167_4);(try clear p167);(try clear p2);(try clear q167);obtain ⟨x4_3,rfl,HA,HK3,BK161,HB⟩:=hrel;cases gk with
        | zero=>exact absurd HA.out (by simp [r16_May.l1])
        | succ k3 =>
         have H:=HA.out;clear HA;simp only [r16_May.l1] at H;replace H:=iD H;rcases H with ⟨c39,c39b0,H⟩ | ⟨c39,c39b0,H⟩
         ·clear c39;replace H:=iB H;rcases H with ⟨c40,H⟩ | ⟨c40,H⟩
          ·have c40b0:=dTr c40;clear c40;obtain ⟨t170,A41,H⟩:=oB H;by_cases c42:t170=true
           ·subst c42;replace H:=iT H;have H':=Sd.mk H;clear H;have Z43:=bd5 BK161;(try go_wp2);replace BK161:=uE BK161;replace HB:=uI HB;have p169:0 ≤ (x4_3:Int):=tD;have q169:x4_3 < (l04.length:Int):=tD;obtain ⟨ad169,A169_1,c169_1,e169,hx169_0,hx169_1,hl169_1,hi169_1⟩:=at_T66 HR04.out x4_3 p169 q169;have hw169_1:=hx169_1;have hw169_0:=hx169_0;cases e169;replace hx169_0:=uC HB hx169_0;replace hx169_1:=uC HB hx169_1;have HR169_1:=Sd.mk hi169_1;have HC169_1:=Sd.mk hl169_1;clear hi169_1 hl169_1;replace p169:=eq_true p169;replace q169:=eq_true q169;refine start_ (n:=8) (S:=fun w'=>w'.cell? ⟨gb161,0,none⟩=some (.slice A0_0 l00.length c0_0)∧w'.cell? ⟨gb161,1,none⟩=some (.slice A0_1 l01.length c0_1)∧w'.cell? ⟨gb161,2,none⟩=some (.slice A0_2 l02.length c0_2)∧w'.cell? ⟨gb161,3,none⟩=some (.slice A0_3 l03.length c0_3)∧w'.cell? ⟨gb161,4,none⟩=some (.slice (some ad169) l04.length c0_4)∧w'.cell? (ad169.add ((x4_3).toNat * 2))=some (.string ((rd_T66 l04 x4_3).f0))∧w'.cell? ⟨(ad169.add ((x4_3).toNat * 2)).block,(ad169.add ((x4_3).toNat * 2)).off + 1,none⟩=some (.slice A169_1 ((rd_T66 l04 x4_3).f1).length c169_1)) (ds:=[]) (ab 8 0) (by kernel_rfl) rfl rfl ⟨cB BK161 0,cB BK161 1,cB BK161 2,cB BK161 3,cB BK161 4,uV hw169_0,uV hw169_1⟩ (fun hH=>?_);refine with_tabW r16_May.tab11 r16_May.bits11 (fun HT_ HW_=>?_);generalize wr.drew=w44 at BK161 HB HR169_1 hx169_0 hx169_1 hH ⊢;refine pU 1 68 ?_;refine pU 3 70 ?_;refine tU 0 67 ?_;refine tU 2 69 ?_;refine pU 4 71 ?_;refine tU 5 72 ?_;refine oU (N:=some 73) 6 (fun K hK=>?_);refine gO Try.func38 #[.agg #[.slice A0_0 l00.length c0_0,.slice A0_1 l01.length c0_1,.slice A0_2 l02.length c0_2,.slice A0_3 l03.length c0_3,.slice (some ad169) l04.length c0_4],.agg #[.string ((rd_T66 l04 x4_3).f0),.slice A169_1 ((rd_T66 l04 x4_3).f1).length c169_1]] ?_;(with_reducible refine (r16_Oper.calls k3 _ _ l00 _ _ l01 _ _ l02 _ _ l03 _ _ l04 ((rd_T66 l04 x4_3).f0) _ _ ((rd_T66 l04 x4_3).f1) true _ (sC HR00) J00.out (sC HR01) J01.out (sC HR02) J02.out (sC HR03) J03.out (sC HR04) J04.out (sC HR169_1) HC169_1.out A41.out).mono ?_);rintro e w45 ⟨rfl,hb⟩;refine ⟨_,rfl,?_⟩;replace BK161:=uK BK161 hb;replace HB:=uH hb;(try clear hb);(try clear hb2);(try clear hk);(try clear hi);refine hK.out _ _ ⟨cB BK161 0,cB BK161 1,cB BK161 2,cB BK161 3,cB BK161 4,uV hw169_0,uV hw169_1⟩ (fun hH=>?_);clear hK K;refine nU ?_;refine pU 7 74 ?_;refine dU ?_;(try go_wp2);go_roundg k3
            case measure=>have:=HJ1.out;have:=HK2.out;have:=HK3.out;omega
            case rel=>exact ⟨(wrap64 (x4_3 + 1)),tSS,H',⟨by have:=HJ1.out;have:=HK2.out;have:=HK3.out;omega⟩,kA BK161,uA⟩
           ·replace c42:=Bool.eq_false_iff.mpr c42;subst c42;replace H:=iF H;obtain rfl:=sI H;have Z46:=bd5 BK161;(try go_wp2);replace BK161:=uE BK161;replace HB:=uI HB;have p169:0 ≤ (x4_3:Int):=tD;have q169:x4_3 < (l04.length:Int):=tD;obtain ⟨ad169,A169_1,c169_1,e169,hx169_0,hx169_1,hl169_1,hi169_1⟩:=at_T66 HR04.out x4_3 p169 q169;have hw169_1:=hx169_1;have hw169_0:=hx169_0;cases e169;replace hx169_0:=uC HB hx169_0;replace hx169_1:=uC HB hx169_1;have HR169_1:=Sd.mk hi169_1;have HC169_1:=Sd.mk hl169_1;clear hi169_1 hl169_1;replace p169:=eq_true p169;replace q169:=eq_true q169;refine start_ (n:=8) (S:=fun w'=>w'.cell? ⟨gb161,0,none⟩=some (.slice A0_0 l00.length c0_0)∧w'.cell? ⟨gb161,1,none⟩=some (.slice A0_1 l01.length c0_1)∧w'.cell? ⟨gb161,2,none⟩=some (.slice A0_2 l02.length c0_2)∧w'.cell? ⟨gb161,3,none⟩=some (.slice A0_3 l03.length c0_3)∧w'.cell? ⟨gb161,4,none⟩=some (.slice (some ad169) l04.length c0_4)∧w'.cell? (ad169.add ((x4_3).toNat * 2))=some (.string ((rd_T66 l04 x4_3).f0))∧w'.cell? ⟨(ad169.add ((x4_3).toNat * 2)).block,(ad169.add ((x4_3).toNat * 2)).off + 1,none⟩=some (.slice A169_1 ((rd_T66 l04 x4_3).f1).length c169_1)) (ds:=[]) (ab 8 0) (by kernel_rfl) rfl rfl ⟨cB BK161 0,cB BK161 1,cB BK161 2,cB BK161 3,cB BK161 4,uV hw169_0,uV hw169_1⟩ (fun hH=>?_);refine with_tabW r16_May.tab11 r16_May.bits11 (fun HT_ HW_=>?_);generalize wr.drew=w47 at BK161 HB HR169_1 hx169_0 hx169_1 hH ⊢;refine pU 1 68 ?_;refine pU 3 70 ?_;refine tU 0 67 ?_;refine tU 2 69 ?_;refine pU 4 71 ?_;refine tU 5 72 ?_;refine oU (N:=some 73) 6 (fun K hK=>?_);refine gO Try.func38 #[.agg #[.slice A0_0 l00.length c0_0,.slice A0_1 l01.length c0_1,.slice A0_2 l02.length c0_2,.slice A0_3 l03.length c0_3,.slice (some ad169) l04.length c0_4],.agg #[.string ((rd_T66 l04 x4_3).f0),.slice A169_1 ((rd_T66 l04 x4_3).f1).length c169_1]] ?_;(with_reducible refine (r16_Oper.calls k3 _ _ l00 _ _ l01 _ _ l02 _ _ l03 _ _ l04 ((rd_T66 l04 x4_3).f0) _ _ ((rd_T66 l04 x4_3).f1) false _ (sC HR00) J00.out (sC HR01) J01.out (sC HR02) J02.out (sC HR03) J03.out (sC HR04) J04.out (sC HR169_1) HC169_1.out A41.out).mono ?_);rintro e w48 ⟨rfl,hb⟩;refine ⟨_,rfl,?_⟩;replace BK161:=uK BK161 hb;replace HB:=uH hb;(try clear hb);(try clear hb2);(try clear hk);(try clear hi);refine hK.out _ _ ⟨cB BK161 0,cB BK161 1,cB BK161 2,cB BK161 3,cB BK161 4,uV hw169_0,uV hw169_1⟩ (fun hH=>?_);clear hK K;refine nU ?_;refine pU 7 74 ?_;refine dU ?_;(try go_wp2);go_ret;exact ⟨tW,uB⟩
          ·exact absurd H (by simp)
         ·clear c39;obtain rfl:=sI H;have Z49:=bd5 BK161;go_wp2;go_ret;exact ⟨tW,uB⟩
mutual
def q16_Light.j0:Nat → Bool → List ByteArray → List ByteArray → List ByteArray → List (S70) → List (S66) → Option (Bool)
 | 0,_,_,_,_,_,_=>none
 | k + 1,x33,Xbf,Xbg,Xbh,Xbi,Xbj=>if x33=true then (some false) else ((r16_All.f k Xbf Xbg Xbh Xbi Xbj).bind fun t172=>(q16_Light.l0 k t172 0 Xbf Xbg Xbh Xbi Xbj))
def q16_Light.l0:Nat → List ByteArray → Int → List ByteArray → List ByteArray → List ByteArray → List (S70) → List (S66) → Option (Bool)
 | 0,_,_,_,_,_,_,_=>none
 | k + 1,x3,x4,Xbf,Xbg,Xbh,Xbi,Xbj=>if x4 < (x3.length:Int) then (if 0 ≤ x4 then (if ((rdOf ByteArray.empty x3 x4).size:Int) > 100 then (some false) else (q16_Light.l0 k x3 (wrap64 (x4 + 1)) Xbf Xbg Xbh Xbi Xbj)) else (none)) else (q16_Light.l1 k 0 Xbf Xbg Xbh Xbi Xbj)
def q16_Light.l1:Nat → Int → List ByteArray → List ByteArray → List ByteArray → List (S70) → List (S66) → Option (Bool)
 | 0,_,_,_,_,_,_=>none
 | k + 1,x5,Xbf,Xbg,Xbh,Xbi,Xbj=>if x5 < (Xbj.length:Int) then (if 0 ≤ x5 then (if (((rd_T66 Xbj x5).f1).length:Int) > 20 then (some false) else (q16_Light.l1 k (wrap64 (x5 + 1)) Xbf Xbg Xbh Xbi Xbj)) else (none)) else (some true)
end
def q16_Light.f (k:Nat) (l00:List ByteArray) (l01:List ByteArray) (l02:List ByteArray) (l03:List (S70)) (l04:List (S66)):Option (Bool):=if (l00.length:Int) > 20 then (q16_Light.j0 k true l00 l01 l02 l03 l04) else (if (l01.length:Int) > 20 then (q16_Light.j0 k true l00 l01 l02 l03 l04) else (if (l02.length:Int) > 20 then (q16_Light.j0 k true l00 l01 l02 l03 l04) else (if (l03.length:Int) > 30 then (q16_Light.j0 k true l00 l01 l02 l03 l04) else (q16_Light.j0 k (decide ((l04.length:Int) > 30)) l00 l01 l02 l03 l04))))
set_option maxHeartbeats 8000000 in
set_option maxRecDepth 100000 in
theorem q16_Light.calls (k:Nat) (A0_0:Option Addr) (c0_0:Nat) (l00:List ByteArray) (A0_1:Option Addr) (c0_1:Nat) (l01:List ByteArray) (A0_2:Option Addr) (c0_2:Nat) (l02:List ByteArray) (A0_3:Option Addr) (c0_3:Nat) (l03:List (S70)) (A0_4:Option Addr) (c0_4:Nat) (l04:List (S66)) (r:Bool) (w:World) (hr00:Kd.C Kd.string w A0_0 l00.length l00) (hc00:l00.length ≤ c0_0) (hr01:Kd.C Kd.string w A0_1 l01.length l01) (hc01:l01.length ≤ c0_1) (hr02:Kd.C Kd.string w A0_2 l02.length l02) (hc02:l02.length ≤ c0_2) (hr03:Kd.C k70 w A0_3 l03.length l03) (hc03:l03.length ≤ c0_3) (hr04:Kd.C k66 w A0_4 l04.length l04) (hc04:l04.length ≤ c0_4) (h:q16_Light.f k l00 l01 l02 l03 l04=some r) :
  Calls Try.prog 6 #[.agg #[.slice A0_0 l00.length c0_0,.slice A0_1 l01.length c0_1,.slice A0_2 l02.length c0_2,.slice A0_3 l03.length c0_3,.slice A0_4 l04.length c0_4]] w fun e w'=>e = .returned (.bool r)∧Below w.heap.size w w':=by
 have hu26:=Try.underlying26;have HR00:=Sd.mk hr00;have J00:=Sd.mk hc00;clear hr00 hc00;have HR01:=Sd.mk hr01;have J01:=Sd.mk hc01;clear hr01 hc01;have HR02:=Sd.mk hr02;have J02:=Sd.mk hc02;clear hr02 hc02;have HR03:=Sd.mk hr03;have J03:=Sd.mk hc03;clear hr03 hc03;have HR04:=Sd.mk hr04;have J04:=Sd.mk hc04;clear hr04 hc04;have HB:=Sd.mk (Below.refl w.heap.size w);have H:=h;clear h;unfold q16_Light.f at H;have HC2:=Sd.mk H;clear H;go_enter Try.func6,Try.ntmps6;go_upto_region 1 with (first|((with_reducible refine gate_dst (N:=1) rfl ?_);(try (refine gate_guard (by rfl) ?_;dsimp only));refine uX 1 (cs:=#[.slice A0_0 l00.length c0_0,.slice A0_1 l01.length c0_1,.slice A0_2 l02.length c0_2,.slice A0_3 l03.length c0_3,.slice A0_4 l04.length c0_4]) (t:=26) fun gb171 hg w3 BK171 hb=>?_;have GW171:Sd (w.heap.size ≤ gb171):=uG hg;have GE171:=GW171;replace HB:=uH hb;clear hb hg));(try simp only [Act.put,q1_,q2_,q3_]);go_cut [33] (fun v33 wc=>∃ (kq:Nat) (x33_1:Bool),v33 = .bool x33_1∧Sd (q16_Light.j0 kq x33_1 l00 l01 l02 l03 l04=some r)∧Sd (kq ≤ k)∧Sd (wc.heap[gb171]? = some (.cells #[(.slice A0_0 l00.length c0_0),(.slice A0_1 l01.length c0_1),(.slice A0_2 l02.length c0_2),(.slice A0_3 l03.length c0_3),(.slice A0_4 l04.length c0_4)] 26 (0,0)))∧Sd (Below w.heap.size w wc))
 case first =>
  have H:=HC2.out;clear HC2;by_cases c4:(l00.length:Int) > 20
  ·rw [if_pos c4] at H;have c4b0:=dTr c4;have c4b1:decide (20 < l00.length)=true:=decide_eq_true (by omega);clear c4;(first|rw [c4b0]|(simp only [i64_w,i32_w];rw [c4b0])|skip);have H':=Sd.mk H;clear H;obtain ⟨Z5_0,Z5_1,Z5_2,Z5_3,Z5_4,Y5_0,Y5_1,Y5_2,Y5_3,Y5_4⟩:=bd5 BK171;go_wp2;go_meet
   case rel=>exact ⟨_,(true),tSS,H',⟨tO⟩,kA BK171,uA⟩
  ·rw [if_neg c4] at H;have c4b0:=dFa c4;have c4b1:decide (20 < l00.length)=false:=decide_eq_false (by omega);clear c4;(first|rw [c4b0]|(simp only [i64_w,i32_w];rw [c4b0])|skip);by_cases c6:(l01.length:Int) > 20
   ·rw [if_pos c6] at H;have c6b0:=dTr c6;have c6b1:decide (20 < l01.length)=true:=decide_eq_true (by omega);clear c6;have H':=Sd.mk H;clear H;obtain ⟨Z7_0,Z7_1,Z7_2,Z7_3,Z7_4,Y7_0,Y7_1,Y7_2,Y7_3,Y7_4⟩:=bd5 BK171;go_wp2;go_meet
    case rel=>exact ⟨_,(true),tSS,H',⟨tO⟩,kA BK171,uA⟩
   ·rw [if_neg c6] at H;have c6b0:=dFa c6;have c6b1:decide (20 < l01.length)=false:=decide_eq_false (by omega);clear c6;by_cases c8:(l02.length:Int) > 20
    ·rw [if_pos c8] at H;have c8b0:=dTr c8;have c8b1:decide (20 < l02.length)=true:=decide_eq_true (by omega);clear c8;have H':=Sd.mk H;clear H;obtain ⟨Z9_0,Z9_1,Z9_2,Z9_3,Z9_4,Y9_0,Y9_1,Y9_2,Y9_3,Y9_4⟩:=bd5 BK171;go_wp2;go_meet
     case rel=>exact ⟨_,(true),tSS,H',⟨tO⟩,kA BK171,uA⟩
    ·rw [if_neg c8] at H;have c8b0:=dFa c8;have c8b1:decide (20 < l02.length)=false:=decide_eq_false (by omega);clear c8;by_cases c10:(l03.length:Int) > 30
     ·rw [if_pos c10] at H;have c10b0:=dTr c10;have c10b1:decide (30 < l03.length)=true:=decide_eq_true (by omega);clear c10;have H':=Sd.mk H;clear H;obtain ⟨Z11_0,Z11_1,Z11_2,Z11_3,Z11_4,Y11_0,Y11_1,Y11_2,Y11_3,Y11_4⟩:=bd5 BK171;go_wp2;go_meet
      case rel=>exact ⟨_,(true),tSS,H',⟨tO⟩,kA BK171,uA⟩
     ·rw [if_neg c10] at H;have c10b0:=dFa c10;have c10b1:decide (30 < l03.length)=false:=decide_eq_false (by omega);clear c10;have H':=Sd.mk H;clear H;obtain ⟨Z12_0,Z12_1,Z12_2,Z12_3,Z12_4,Y12_0,Y12_1,Y12_2,Y12_3,Y12_4⟩:=bd5 BK171;go_wp2;go_meet
      case rel=>exact ⟨_,(decide ((l04.length:Int) > 30)),tSS,H',⟨tO⟩,kA BK171,uA⟩
 case rest =>
  clear HC2;(try clear c1);(try clear p2);(try clear c4);(try clear c4b0);(try clear c4b1);(try clear c6);(try clear c6b0);(try clear c6b1);(try clear c8);(try clear c8b0);(try clear c8b1);(try clear c10);(try clear c10b0);(try clear c10b1);(try clear Z11_0 Z11_1 Z11_2 Z11_3 Z11_4 Y11_0 Y11_1 Y11_2 Y11_3 Y11_4);(try clear Z12_0 Z12_1 Z12_2 Z12_3 Z12_4 Y12_0 Y12_1 Y12_2 Y12_3 Y12_4);(try clear Z5_0 Z5_1 Z5_2 Z5_3 Z5_4 Y5_0 Y5_1 Y5_2 Y5_3 Y5_4);(try clear Z7_0 Z7_1 Z7_2 Z7_3 Z7_4 Y7_0 Y7_1 Y7_2 Y7_3 Y7_4);(try clear Z9_0 Z9_1 Z9_2 Z9_3 Z9_4 Y9_0 Y9_1 Y9_2 Y9_3 Y9_4);obtain ⟨kq,x33_1,rfl,HA,HJ1,BK171,HB⟩:=hcut;cases kq with
  | zero=>exact absurd HA.out (by simp [q16_Light.j0])
  | succ kj1 =>
   have H:=HA.out;clear HA;simp only [q16_Light.j0] at H;by_cases c13:x33_1=true
   ·subst c13;replace H:=iT H;obtain rfl:=sI H;go_wp2;go_ret;exact ⟨tW,uB⟩
   ·replace c13:=Bool.eq_false_iff.mpr c13;subst c13;replace H:=iF H;obtain ⟨t172,A14,H⟩:=oB H;have H':=Sd.mk H;clear H;obtain ⟨Z15_0,Z15_1,Z15_2,Z15_3,Z15_4,Y15_0,Y15_1,Y15_2,Y15_3,Y15_4⟩:=bd5 BK171;go_wp2_with (first|((with_reducible refine gate_callee (f:=24) rfl ?_);refine gL Try.func24 (some 35) #[.agg #[.slice A0_0 l00.length c0_0,.slice A0_1 l01.length c0_1,.slice A0_2 l02.length c0_2,.slice A0_3 l03.length c0_3,.slice A0_4 l04.length c0_4]] ?_;(with_reducible refine (r16_All.calls kj1 _ _ l00 _ _ l01 _ _ l02 _ _ l03 _ _ l04 t172 _ (sC HR00) J00.out (sC HR01) J01.out (sC HR02) J02.out (sC HR03) J03.out (sC HR04) J04.out A14.out).mono ?_);rintro e w16 ⟨v173,rfl,ho0,hb⟩;refine ⟨_,rfl,?_⟩;have HO174:=Sd.mk (Kd.R_lower ho0 (below_size uB));replace BK171:=uK BK171 hb;replace HB:=uH hb;(try clear hb);(try clear hb2);(try clear hk);(try clear hi);(try clear ho0)));go_loopg [4] kj1 (fun kq v4 w'=>∃ (x4_2:Int),v4 = .int .i64 x4_2∧Sd (q16_Light.l0 kq t172 x4_2 l00 l01 l02 l03 l04=some r)∧Sd (kq ≤ kj1)∧Sd (Kd.R Kd.string 9 w' w.heap.size (fun _=>True) v173 t172)∧Sd (w'.heap[gb171]? = some (.cells #[(.slice A0_0 l00.length c0_0),(.slice A0_1 l01.length c0_1),(.slice A0_2 l02.length c0_2),(.slice A0_3 l03.length c0_3),(.slice A0_4 l04.length c0_4)] 26 (0,0)))∧Sd (Below w.heap.size w w'))
    case atStart=>exact ⟨(0),tSS,H',⟨Nat.le_refl _⟩,kS HO174,kA BK171,uA⟩
    case round =>
     clear H';(try clear c1);(try clear c2);(try clear p2);(try clear c4);(try clear c4b0);(try clear c4b1);(try clear c6);(try clear c6b0);(try clear c6b1);(try clear c8);(try clear c8b0);(try clear c8b1);(try clear c10);(try clear c10b0);(try clear c10b1);(try clear c13);(try clear Z11_0 Z11_1 Z11_2 Z11_3 Z11_4 Y11_0 Y11_1 Y11_2 Y11_3 Y11_4);(try clear Z12_0 Z12_1 Z12_2 Z12_3 Z12_4 Y12_0 Y12_1 Y12_2 Y12_3 Y12_4);(try clear Z15_0 Z15_1 Z15_2 Z15_3 Z15_4 Y15_0 Y15_1 Y15_2 Y15_3 Y15_4);(try clear Z5_0 Z5_1 Z5_2 Z5_3 Z5_4 Y5_0 Y5_1 Y5_2 Y5_3 Y5_4);(try clear Z7_0 Z7_1 Z7_2 Z7_3 Z7_4 Y7_0 Y7_1 Y7_2 Y7_3 Y7_4);(try clear Z9_0 Z9_1 Z9_2 Z9_3 Z9_4 Y9_0 Y9_1 Y9_2 Y9_3 Y9_4);(try clear p2);obtain ⟨x4_2,rfl,HA,HK2,HO_3,BK171,HB⟩:=hrel;cases gk with
     | zero=>exact absurd HA.out (by simp [q16_Light.l0])
     | succ k2 =>
      have H:=HA.out;clear HA;simp only [q16_Light.l0] at H;by_cases c17:x4_2 < (t172.length:Int)
      ·rw [if_pos c17] at H;have c17b0:=dTr c17;clear c17;by_cases c18:0 ≤ x4_2
       ·rw [if_pos c18] at H;have c18b0:=dTr c18;clear c18;by_cases c19:((rdOf ByteArray.empty t172 x4_2).size:Int) > 100
        ·rw [if_pos c19] at H;have c19b0:=dTr c19;have c19b1:decide (100 < (rdOf ByteArray.empty t172 x4_2).size)=true:=decide_eq_true (by omega);clear c19;obtain rfl:=sI H;obtain ⟨Ao20,co20,eo20⟩:=Kd.R_slice HO_3.out;subst eo20;have p175:0 ≤ (x4_2:Int):=tD;have q175:x4_2 < (t172.length:Int):=tD;obtain ⟨ad175,e175,hx175_0⟩:=Kd.at_string (Kd.R_reads' HO_3.out).2.2 x4_2 p175 q175;cases e175;replace p175:=eq_true p175;replace q175:=eq_true q175;go_wp2;go_ret;exact ⟨tW,uB⟩
        ·rw [if_neg c19] at H;have c19b0:=dFa c19;have c19b1:decide (100 < (rdOf ByteArray.empty t172 x4_2).size)=false:=decide_eq_false (by omega);clear c19;have H':=Sd.mk H;clear H;obtain ⟨Ao21,co21,eo21⟩:=Kd.R_slice HO_3.out;subst eo21;have p175:0 ≤ (x4_2:Int):=tD;have q175:x4_2 < (t172.length:Int):=tD;obtain ⟨ad175,e175,hx175_0⟩:=Kd.at_string (Kd.R_reads' HO_3.out).2.2 x4_2 p175 q175;cases e175;replace p175:=eq_true p175;replace q175:=eq_true q175;go_wp2;go_roundg k2
         case measure=>have:=HJ1.out;have:=HK2.out;omega
         case rel=>exact ⟨(wrap64 (x4_2 + 1)),tSS,H',⟨by have:=HJ1.out;have:=HK2.out;omega⟩,kS HO_3,kA BK171,uA⟩
       ·rw [if_neg c18] at H;exact absurd H (by simp)
      ·rw [if_neg c17] at H;have c17b0:=dFa c17;clear c17;have H':=Sd.mk H;clear H;obtain ⟨Ao22,co22,eo22⟩:=Kd.R_slice HO_3.out;subst eo22;go_wp2;go_loopg [5] k2 (fun kq v5 w'=>∃ (x5_3:Int),v5 = .int .i64 x5_3∧Sd (q16_Light.l1 kq x5_3 l00 l01 l02 l03 l04=some r)∧Sd (kq ≤ k2)∧Sd (w'.heap[gb171]? = some (.cells #[(.slice A0_0 l00.length c0_0),(.slice A0_1 l01.length c0_1),(.slice A0_2 l02.length c0_2),(.slice A0_3 l03.length c0_3),(.slice A0_4 l04.length c0_4)] 26 (0,0)))∧Sd (Below w.heap.size w w'))
       case atStart=>exact ⟨(0),tSS,H',⟨Nat.le_refl _⟩,kA BK171,uA⟩
       case round =>
        clear H';(try clear c1);(try clear p1);(try clear q1);(try clear hx1);(try clear c2);(try clear p2);(try clear c4);(try clear c4b0);(try clear c4b1);(try clear c6);(try clear c6b0);(try clear c6b1);(try clear p6);(try clear c8);(try clear c8b0);(try clear c8b1);(try clear c10);(try clear c10b0);(try clear c10b1);(try clear c13);(try clear c17);(try clear c17b0);(try clear p17);(try clear q17);(try clear hx17);(try clear c18);(try clear c18b0);(try clear c19);(try clear c19b0);(try clear c19b1);(try clear Z11_0 Z11_1 Z11_2 Z11_3 Z11_4 Y11_0 Y11_1 Y11_2 Y11_3 Y11_4);(try clear Z12_0 Z12_1 Z12_2 Z12_3 Z12_4 Y12_0 Y12_1 Y12_2 Y12_3 Y12_4);(try clear Z15_0 Z15_1 Z15_2 Z15_3 Z15_4 Y15_0 Y15_1 Y15_2 Y15_3 Y15_4);(try clear Z5_0 Z5_1 Z5_2 Z5_3 Z5_4 Y5_0 Y5_1 Y5_2 Y5_3 Y5_4);(try clear Z7_0 Z7_1 Z7_2 Z7_3 Z7_4 Y7_0 Y7_1 Y7_2 Y7_3 Y7_4);(try clear Z9_0 Z9_1 Z9_2 Z9_3 Z9_4 Y9_0 Y9_1 Y9_2 Y9_3 Y9_4);(try clear hx175_0);(try clear p175);(try clear p2);(try clear q175);obtain ⟨x5_3,rfl,HA,HK3,BK171,HB⟩:=hrel;cases gk with
        | zero=>exact absurd HA.out (by simp [q16_Light.l1])
        | succ k3 =>
         have H:=HA.out;clear HA;simp only [q16_Light.l1] at H;by_cases c23:x5_3 < (l04.length:Int)
         ·rw [if_pos c23] at H;have c23b0:=dTr c23;clear c23;by_cases c24:0 ≤ x5_3
          ·rw [if_pos c24] at H;have c24b0:=dTr c24;clear c24;by_cases c25:(((rd_T66 l04 x5_3).f1).length:Int) > 20
           ·rw [if_pos c25] at H;have c25b0:=dTr c25;have c25b1:decide (20 < ((rd_T66 l04 x5_3).f1).length)=true:=decide_eq_true (by omega);clear c25;obtain rfl:=sI H;obtain ⟨Z26_0,Z26_1,Z26_2,Z26_3,Z26_4,Y26_0,Y26_1,Y26_2,Y26_3,Y26_4⟩:=bd5 BK171;have p176:0 ≤ (x5_3:Int):=tD;have q176:x5_3 < (l04.length:Int):=tD;obtain ⟨ad176,A176_1,c176_1,e176,hx176_0,hx176_1,hl176_1,hi176_1⟩:=at_T66 HR04.out x5_3 p176 q176;cases e176;replace hx176_0:=uC HB hx176_0;replace hx176_1:=uC HB hx176_1;have HR176_1:=Sd.mk hi176_1;have HC176_1:=Sd.mk hl176_1;clear hi176_1 hl176_1;replace p176:=eq_true p176;replace q176:=eq_true q176;go_wp2;go_ret;exact ⟨tW,uB⟩
           ·rw [if_neg c25] at H;have c25b0:=dFa c25;have c25b1:decide (20 < ((rd_T66 l04 x5_3).f1).length)=false:=decide_eq_false (by omega);clear c25;have H':=Sd.mk H;clear H;obtain ⟨Z27_0,Z27_1,Z27_2,Z27_3,Z27_4,Y27_0,Y27_1,Y27_2,Y27_3,Y27_4⟩:=bd5 BK171;have p176:0 ≤ (x5_3:Int):=tD;have q176:x5_3 < (l04.length:Int):=tD;obtain ⟨ad176,A176_1,c176_1,e176,hx176_0,hx176_1,hl176_1,hi176_1⟩:=at_T66 HR04.out x5_3 p176 q176;cases e176;replace hx176_0:=uC HB hx176_0;replace hx176_1:=uC HB hx176_1;have HR176_1:=Sd.mk hi176_1;have HC176_1:=Sd.mk hl176_1;clear hi176_1 hl176_1;replace p176:=eq_true p176;replace q176:=eq_true q176;go_wp2;go_roundg k3
            case measure=>have:=HJ1.out;have:=HK2.out;have:=HK3.out;omega
            case rel=>exact ⟨(wrap64 (x5_3 + 1)),tSS,H',⟨by have:=HJ1.out;have:=HK2.out;have:=HK3.out;omega⟩,kA BK171,uA⟩
          ·rw [if_neg c24] at H;exact absurd H (by simp)
         ·rw [if_neg c23] at H;have c23b0:=dFa c23;clear c23;obtain rfl:=sI H;obtain ⟨Z28_0,Z28_1,Z28_2,Z28_3,Z28_4,Y28_0,Y28_1,Y28_2,Y28_3,Y28_4⟩:=bd5 BK171;go_wp2;go_ret;exact ⟨tW,uB⟩
end Go.Proofs.Ytjbjbeihkoeciaa.X
namespace Go.Proofs.Ytjbjbeihkoeciaa.X
open Go.RowKit Go.Proofs.YtjbjbeihkoeciaaW.PrintWords Go.Proofs.YtjbjbeihkoeciaaW.PrintLast Go.Proofs.YtjbjbeihkoeciaaW.PrintMore
theorem rdCl_at (l:List Cl) (pos:Nat):rd_T70 l (pos:Int)=l.getD pos z70:=by simp [rd_T70]
theorem rdOp_at (l:List Op_) (pos:Nat):rd_T66 l (pos:Int)=l.getD pos z66:=by simp [rd_T66]
theorem rdDg_at (l:List Dg) (pos:Nat):rd_T84 l (pos:Int)=l.getD pos z84:=by simp [rd_T84]
theorem getD_mem {α:Type} (l:List α) (z:α) (k:Nat) (h:k < l.length):l.getD k z ∈ l:=by
 simp only [List.getD_eq_getElem?_getD,List.getElem?_eq_getElem h,Option.getD_some];exact List.getElem_mem h
theorem take_getD {α:Type} (l:List α) (z:α) (k:Nat) (h:k < l.length):l.take (k + 1)=l.take k ++ [l.getD k z]:=by
 rw [List.take_add_one,List.getElem?_eq_getElem h];simp [List.getD_eq_getElem?_getD,List.getElem?_eq_getElem h]
theorem letter_f (c:Int):r14_letter.f c=some (letB c):=by
 unfold r14_letter.f letB;by_cases h:c ≥ 97
 ·rw [if_pos h];simp;omega
 ·rw [if_neg h];simp;omega
theorem digit_f (c:Int):r14_digit.f c=some (digB c):=by
 unfold r14_digit.f digB;by_cases h:c ≥ 48
 ·rw [if_pos h];simp;omega
 ·rw [if_neg h];simp;omega
theorem bt_byt (s:ByteArray) (i:Nat):bt s (i:Int)=byt s i:=by
 unfold bt byt;simp
theorem word_ev (s:ByteArray) (hs:s.size ≤ maxLen):Ev (fun k=>r14_Word.f k s) (wordB s):=by
 (have hm:maxLen ≤ 9223372036854775807:=by decide);have h:=Ev.loop (g:=fun k pos=>r14_Word.l0 k s (pos:Int)) (spec:=fun pos=>wordFrom s (s.size - pos) pos && decide (1 ≤ s.size∧s.size ≤ 16)) s.size ?_ ?_ 0 (by omega)
 ·(have e:(wordFrom s (s.size - 0) 0 && decide (1 ≤ s.size∧s.size ≤ 16))=wordB s:=by unfold wordB;rw [Bool.and_comm,Nat.sub_zero]);rw [← e];exact h
 ·refine Ev.succ ?_;simp only [r14_Word.l0];refine Ev.no (by omega) ?_;rw [Nat.sub_self,show wordFrom s 0 s.size=true from rfl,Bool.true_and];by_cases h1:(s.size:Int) ≥ 1
  ·exact Ev.yes h1 (Ev.is (by congr 1;apply propext;omega))
  ·exact Ev.no h1 (Ev.is (by symm;rw [decide_eq_false_iff_not];omega))
 ·intro pos hp ih;refine Ev.succ ?_;simp only [r14_Word.l0,letter_f,digit_f,bt_byt];obtain ⟨b,hb⟩:∃ b,s.size - pos=b + 1:=⟨s.size - pos - 1,by omega⟩;(have hb':s.size - (pos + 1)=b:=by omega);rw [wrap_up pos (by omega)];rw [hb'] at ih;rw [hb];(have e:wordFrom s (b + 1) pos=(wchar s pos && wordFrom s b (pos + 1)):=by simp [wordFrom,hp]);rw [e];refine Ev.yes (by omega) (Ev.yes (by omega) (Ev.bind1 rfl ?_));unfold wchar;cases hl:letB (byt s pos)
  ·refine Ev.no (by decide) (Ev.bind1 rfl ?_);cases hd:digB (byt s pos)
   ·refine Ev.no (by decide) ?_;rw [Bool.and_false];exact Ev.now _
   ·refine Ev.yes rfl ?_;by_cases h0:(pos:Int) > 0
    ·refine Ev.yes h0 ?_;rw [decide_eq_true (by omega)];exact ih
    ·refine Ev.no h0 ?_;rw [decide_eq_false (by omega)];exact Ev.now _
  ·exact Ev.yes rfl ih
theorem hasB_cons (x:ByteArray) (l:List ByteArray) (a:ByteArray):hasB (x :: l) a=(decide (x=a) || hasB l a):=rfl
theorem kept_ev (s:ByteArray):Ev (fun k=>r15_Kept.f k s) (hasB kwords s):=by
 unfold r15_Kept.f;refine Ev.bind1 (a:=kwords) rfl ?_;(have hl:kwords.length=17:=by decide);refine Ev.loop (g:=fun k pos=>r15_Kept.l0 k s kwords (pos:Int)) (spec:=fun pos=>hasB (kwords.drop pos) s) kwords.length ?_ ?_ 0 (by omega)
 ·refine Ev.succ ?_;simp only [r15_Kept.l0];rw [List.drop_length];exact Ev.no (by omega) (Ev.now _)
 ·intro pos hp ih;refine Ev.succ ?_;simp only [r15_Kept.l0,rdOf_at];rw [wrap_up pos (by omega),drop_getD kwords ByteArray.empty pos hp,hasB_cons];refine Ev.yes (by omega) (Ev.yes (by omega) ?_);by_cases he:(kwords.getD pos ByteArray.empty).toList=s.toList
  ·refine Ev.yes he ?_;rw [decide_eq_true (ba_toList_inj he)];exact Ev.now _
  ·refine Ev.no he ?_;rw [decide_eq_false (fun h=>he (by rw [h])),Bool.false_or];exact ih
theorem name_ev (s:ByteArray) (hs:s.size ≤ maxLen):Ev (fun k=>r15_Name.f k s) (nmB s):=by
 unfold r15_Name.f nmB;refine Ev.bind (word_ev s hs) ?_;cases wordB s
 ·exact Ev.no (by decide) (Ev.now _)
 ·exact Ev.yes rfl (Ev.bind (kept_ev s) (Ev.now _))
def idxI:List ByteArray → ByteArray → Nat → Int
 | [],_,_=>-1
 | x :: r,s,n=>if x=s then (n:Int) else idxI r s (n + 1)
theorem idxI_has (l:List ByteArray) (s:ByteArray):∀ n,decide (idxI l s n ≥ 0)=hasB l s:=by
 induction l with
 | nil=>intro n;rfl
 | cons x r ih =>
  intro n;rw [hasB_cons,idxI];by_cases h:x=s
  ·rw [if_pos h,decide_eq_true h,decide_eq_true (by omega)];rfl
  ·rw [if_neg h,decide_eq_false h,ih];rfl
theorem at_ev (l:List ByteArray) (s:ByteArray) (hl:l.length ≤ 4000000000):Ev (fun k=>r16_At.f k l s) (idxI l s 0):=by
 unfold r16_At.f;refine Ev.loop (g:=fun k pos=>r16_At.l0 k l s (pos:Int)) (spec:=fun pos=>idxI (l.drop pos) s pos) l.length ?_ ?_ 0 (by omega)
 ·refine Ev.succ ?_;simp only [r16_At.l0];rw [List.drop_length];exact Ev.no (by omega) (Ev.now _)
 ·intro pos hp ih;refine Ev.succ ?_;simp only [r16_At.l0,rdOf_at];rw [wrap_up pos (by omega),drop_getD l ByteArray.empty pos hp,idxI];refine Ev.yes (by omega) (Ev.yes (by omega) ?_);by_cases he:(l.getD pos ByteArray.empty).toList=s.toList
  ·rw [if_pos (ba_toList_inj he)];exact Ev.yes he (Ev.now _)
  ·rw [if_neg (fun h=>he (by rw [h]))];exact Ev.no he ih
theorem hasB_congr {l m:List ByteArray} (h:∀ x,x ∈ l ↔ x ∈ m) (a:ByteArray):hasB l a=hasB m a:=by
 unfold hasB;rw [Bool.eq_iff_iff];simp [h]
theorem unlike_ev (l:List ByteArray) (hl:l.length ≤ 4000000000) (hs:∀ s ∈ l,s.size ≤ maxLen):Ev (fun k=>r16_Unlike.f k l) (namedOk l):=by
 unfold r16_Unlike.f;refine Ev.loop (g:=fun k pos=>r16_Unlike.l0 k l (pos:Int)) (spec:=fun pos=>namedU (l.take pos).reverse (l.drop pos)) l.length ?_ ?_ 0 (by omega)
 ·refine Ev.succ ?_;simp only [r16_Unlike.l0];rw [List.drop_length];exact Ev.no (by omega) (Ev.now _)
 ·intro pos hp ih;refine Ev.succ ?_;simp only [r16_Unlike.l0,rdOf_at,Int.toNat_natCast];rw [wrap_up pos (by omega),drop_getD l ByteArray.empty pos hp,namedU];have hm:=getD_mem l ByteArray.empty pos hp;rw [take_getD l ByteArray.empty pos hp,List.reverse_append] at ih;generalize hx:l.getD pos ByteArray.empty=x at *;refine Ev.yes (by omega) (Ev.yes (by omega) (Ev.bind (name_ev x (hs x hm)) ?_));cases nmB x
  ·exact Ev.no (by decide) (Ev.now _)
  ·refine Ev.yes rfl (Ev.yes (by omega) (Ev.bind (at_ev (l.take pos) x (by rw [List.length_take];omega)) ?_));have e:=idxI_has (l.take pos) x 0;rw [hasB_congr (m:=(l.take pos).reverse) (fun y=>by simp) x] at e;rw [← e];by_cases h0:idxI (l.take pos) x 0 ≥ 0
   ·refine Ev.yes h0 ?_;rw [decide_eq_true h0];exact Ev.now _
   ·refine Ev.no h0 ?_;rw [decide_eq_false h0];exact ih
theorem all_ev (l0 l1 l2:List ByteArray) (l3:List Cl) (l4:List Op_) (h0:l0.length ≤ 1000000) (h1:l1.length ≤ 1000000) (h2:l2.length ≤ 1000000) (h4:l4.length ≤ 1000000) :
  Ev (fun k=>r16_All.f k l0 l1 l2 l3 l4) (namesL l0 l1 l2 l4):=by
 unfold r16_All.f;refine Ev.bind1 rfl (Ev.yes (by simp;omega) (Ev.bind1 rfl (Ev.yes (by simp;omega) (Ev.bind1 rfl (Ev.yes (by simp;omega) ?_)))));(have e:namesL l0 l1 l2 l4=(((([]:List ByteArray) ++ l0) ++ l1) ++ l2) ++ (l4.take l4.length).map (·.f0):=by rw [List.take_length];rfl);refine Ev.loop (g:=fun k pos=>r16_All.l0 k (((([]:List ByteArray) ++ l0) ++ l1) ++ l2 ++ (l4.take pos).map (·.f0)) (pos:Int) l0 l1 l2 l3 l4) (spec:=fun _=>namesL l0 l1 l2 l4) l4.length ?_ ?_ 0 (by omega) |> fun h=>by simpa using h
 ·refine Ev.succ ?_;simp only [r16_All.l0];rw [← e];exact Ev.no (by omega) (Ev.now _)
 ·intro pos hp ih;refine Ev.succ ?_;simp only [r16_All.l0,rdOp_at];rw [wrap_up pos (by omega)];rw [take_getD l4 z66 pos hp,List.map_append,← List.append_assoc] at ih;exact Ev.yes (by omega) (Ev.yes (by omega) (Ev.yes (by simp;omega) ih))
def flS (l:List Cl):List Int:=(l.filter (fun c=>decide (c.f0=8))).map (·.f2)
theorem leastU_congr (l:List Cl):∀ (s t:List Int),(∀ x,s.contains x=t.contains x) → leastU s l=leastU t l:=by
 induction l with
 | nil=>intro s t _;rfl
 | cons c l ih =>
  intro s t h;unfold leastU;rw [h c.f2,ih s t h,ih (c.f2 :: s) (c.f2 :: t) (fun x=>by rw [List.contains_cons,List.contains_cons,h x])]
theorem flS_snoc (l:List Cl) (c:Cl):flS (l ++ [c])=if c.f0=8 then flS l ++ [c.f2] else flS l:=by
 unfold flS;rw [List.filter_append,List.map_append];by_cases h:c.f0=8
 ·simp [h]
 ·simp [h]
theorem leastU_at (l:List Cl) (c:Cl) (r:List Cl):leastU (flS l) (c :: r)=if c.f0=8∧(flS l).contains c.f2=true then false else leastU (flS (l ++ [c])) r:=by
 rw [flS_snoc,show leastU (flS l) (c :: r)=(if c.f0=8 then (if (flS l).contains c.f2 then false else leastU (c.f2 :: flS l) r) else leastU (flS l) r) from rfl];by_cases h:c.f0=8
 ·rw [if_pos h,if_pos h];by_cases h2:(flS l).contains c.f2=true
  ·rw [if_pos h2,if_pos ⟨h,h2⟩]
  ·rw [if_neg h2,if_neg (fun x=>h2 x.2)];exact leastU_congr r _ _ (fun x=>by rw [Bool.eq_iff_iff];simp;exact or_comm)
 ·rw [if_neg h,if_neg h,if_neg (fun x=>h x.1)]
theorem floors_ev (l:List Cl) (hl:l.length ≤ 4000000000):Ev (fun k=>r16_floors.f k l) (leastOk l):=by
 unfold r16_floors.f;refine Ev.loop (g:=fun k pos=>r16_floors.l0 k l (pos:Int)) (spec:=fun pos=>leastU (flS (l.take pos)) (l.drop pos)) l.length ?_ ?_ 0 (by omega)
 ·refine Ev.succ ?_;simp only [r16_floors.l0];rw [List.drop_length];exact Ev.no (by omega) (Ev.now _)
 ·intro pos hp ih;refine Ev.succ ?_;simp only [r16_floors.l0];refine Ev.yes (by omega) ?_;rw [take_getD l z70 pos hp] at ih;have hrd:rd_T70 l (pos:Int)=l.getD pos z70:=rdCl_at l pos;rw [drop_getD l z70 pos hp,leastU_at];generalize l.getD pos z70=c at *;have h:=Ev.loop (g:=fun k j=>r16_floors.l1 k l (pos:Int) (j:Int)) (spec:=fun j=>if c.f0=8∧(flS ((l.take pos).drop j)).contains c.f2=true then false else leastU (flS (l.take pos ++ [c])) (l.drop (pos + 1))) pos ?_ ?_ 0 (by omega)
  ·rw [List.drop_zero] at h;exact h
  ·refine Ev.succ ?_;simp only [r16_floors.l1];rw [wrap_up pos (by omega)];rw [List.drop_eq_nil_of_le (by rw [List.length_take];omega),if_neg (by simp [flS])];exact Ev.no (by omega) ih
  ·intro j hj ihj;refine Ev.succ ?_;simp only [r16_floors.l1];(have hjt:j < (l.take pos).length:=by rw [List.length_take];omega);have hrj:rd_T70 l (j:Int)=(l.take pos).getD j z70:=by
    rw [rdCl_at];simp [List.getD_eq_getElem?_getD,List.getElem?_take,hj]
   rw [wrap_up j (by omega),hrd,hrj,drop_getD (l.take pos) z70 j hjt];generalize (l.take pos).getD j z70=e at *;refine Ev.yes (by omega) (Ev.yes (by omega) (Ev.yes (by omega) ?_));have hfl:flS (e :: (l.take pos).drop (j + 1))=if e.f0=8 then e.f2 :: flS ((l.take pos).drop (j + 1)) else flS ((l.take pos).drop (j + 1)):=by
    unfold flS;by_cases h:e.f0=8 <;> simp [h]
   rw [hfl];by_cases hc:c.f0=8
   ·refine Ev.yes hc (Ev.yes (by omega) (Ev.yes (by omega) ?_));by_cases he:e.f0=8
    ·rw [if_pos he];refine Ev.yes he ?_;by_cases hq:c.f2=e.f2
     ·rw [if_pos ⟨hc,by simp [hq]⟩];exact Ev.yes hq (Ev.now _)
     ·refine Ev.no hq ?_;have:(e.f2 :: flS ((l.take pos).drop (j + 1))).contains c.f2=(flS ((l.take pos).drop (j + 1))).contains c.f2:=by
       rw [List.contains_cons];simp [hq]
      rw [this];exact ihj
    ·rw [if_neg he];exact Ev.no he ihj
   ·rw [if_neg (fun x=>hc x.1)] at ihj ⊢;exact Ev.no hc ihj
theorem in_f (n m:Int):r16_in.f n m=some (wB n 0 (m - 1)):=by
 unfold r16_in.f wB;by_cases h:n ≥ 0
 ·rw [if_pos h,decide_eq_true (by omega:0 ≤ n),Bool.true_and];congr 2;apply propext;omega
 ·rw [if_neg h,decide_eq_false (by omega:¬ 0 ≤ n)];rfl
theorem clause_ev (l0 l1 l2:List ByteArray) (l3:List Cl) (l4:List Op_) (c:Cl) :
  Ev (fun k=>r16_Clause.f k l0 l1 l2 l3 l4 c.f0 c.f1 c.f2 c.f3 c.f4) (clB l0.length l1.length c):=by
 obtain ⟨k0,st,a,b,n⟩:=c;refine Ev.succ (Ev.congr (f:=fun _=>some (clB l0.length l1.length ⟨k0,st,a,b,n⟩)) (fun k=>?_) (Ev.now _));simp only [r16_Clause.f,r16_Clause.j0,in_f,Option.bind_some,clB];(have hw:∀ lo hi:Int,wB n lo hi=(decide (lo ≤ n) && decide (n ≤ hi)):=fun _ _=>rfl);rw [hw,hw];generalize wB a 0 (↑l0.length - 1)=p1;generalize wB b 0 (↑l0.length - 1)=p2;generalize wB a 0 (↑l1.length - 1)=p3;by_cases h4:k0=4
 ·subst h4;by_cases hab:a=b <;> cases p1 <;> cases p2 <;> simp [hab]
 ·by_cases h5:k0=5
  ·subst h5;by_cases hab:a=b <;> cases p1 <;> cases p2 <;> simp [hab]
  ·by_cases h9:k0=9
   ·subst h9;cases p3 <;> cases p2 <;> simp
   ·by_cases h6:k0=6
    ·subst h6;by_cases hb:b=0 <;> by_cases hn:0 ≤ n <;> by_cases hm:n ≤ 1000 <;> cases p1 <;> simp [hb,hn,hm]
    ·by_cases h7:k0=7
     ·subst h7;by_cases hb:b=0 <;> by_cases hn:0 ≤ n <;> by_cases hm:n ≤ 1000 <;> cases p3 <;> simp [hb,hn,hm]
     ·by_cases h8:k0=8
      ·subst h8;by_cases hb:b=0 <;> by_cases hn : -1000 ≤ n <;> by_cases hm:n ≤ 0 <;> cases p3 <;> simp [hb,hn,hm]
      ·simp [h4,h5,h6,h7,h8,h9]
def srt (k:Int):Int:=if k=1 ∨ k=2 then 1 else if k=3 ∨ k=4 then 2 else if k=6 then 3 else 0
theorem sort_ev (k0:Int):Ev (fun k=>r16_Sort.f k k0) (srt k0):=by
 refine Ev.succ (Ev.succ (Ev.congr (f:=fun _=>some (srt k0)) (fun k=>?_) (Ev.now _)));simp only [r16_Sort.f,r16_Sort.j0,r16_Sort.j1,srt];by_cases h1:k0=1 <;> by_cases h2:k0=2 <;> by_cases h3:k0=3 <;> by_cases h4:k0=4 <;> by_cases h6:k0=6 <;> simp [h1,h2,h3,h4,h6]
theorem doB_kinds {ns nc nn:Nat} {d:Dg} (h:doB ns nc nn d=true):d.f0=1 ∨ d.f0=2 ∨ d.f0=3 ∨ d.f0=4 ∨ d.f0=6:=by
 unfold doB at h;by_cases h1:d.f0=1 ∨ d.f0=2
 ·omega
 ·by_cases h3:d.f0=3 ∨ d.f0=4
  ·omega
  ·by_cases h6:d.f0=6
   ·omega
   ·rw [if_neg h1,if_neg h3,if_neg h6] at h;cases h
theorem th_srt {ns nc nn:Nat} {d e:Dg} (h:doB ns nc nn d=true) (g:doB ns nc nn e=true):toTh d=toTh e ↔ srt e.f0=srt d.f0∧e.f1=d.f1:=by
 have h1:=doB_kinds h;have h2:=doB_kinds g;unfold toTh srt;rcases h1 with h1|h1|h1|h1|h1 <;> rcases h2 with h2|h2|h2|h2|h2 <;> simp [h1,h2] <;> exact eq_comm
theorem oper_ev (l0 l1 l2:List ByteArray) (l3:List Cl) (l4:List Op_) (nm:ByteArray) (l:List Dg) (hl:l.length ≤ 4000000000) :
  Ev (fun k=>r16_Oper.f k l0 l1 l2 l3 l4 nm l) (operOk l0.length l1.length l2.length l):=by
 unfold r16_Oper.f;have hw:operOk l0.length l1.length l2.length l=(operU l0.length l1.length l2.length ((l.take 0).map toTh).reverse (l.drop 0) && wB l.length 1 16):=by
  unfold operOk;rw [Bool.and_comm];rfl
 rw [hw];have main:∀ (m pos:Nat),pos + m=l.length → (∀ e ∈ l.take pos,doB l0.length l1.length l2.length e=true) →
   Ev (fun k=>r16_Oper.l0 k [0,(l0.length:Int),(l1.length:Int),(l2.length:Int)] (pos:Int) nm l) (operU l0.length l1.length l2.length ((l.take pos).map toTh).reverse (l.drop pos) && wB l.length 1 16):=by
  intro m;induction m with
  | zero =>
   intro pos hp _;refine Ev.succ ?_;simp only [r16_Oper.l0];refine Ev.no (by omega) ?_;rw [List.drop_eq_nil_of_le (by omega),operU,Bool.true_and];unfold wB;by_cases h1:(l.length:Int) ≥ 1
   ·refine Ev.yes h1 (Ev.is ?_);rw [decide_eq_true (by omega:(1:Int) ≤ l.length),Bool.true_and]
   ·refine Ev.no h1 (Ev.is ?_);rw [decide_eq_false (by omega:¬ (1:Int) ≤ l.length),Bool.false_and]
  | succ m ih =>
   intro pos hp hd;(have hlt:pos < l.length:=by omega);refine Ev.succ ?_;simp only [r16_Oper.l0];have hrd:rd_T84 l (pos:Int)=l.getD pos z84:=rdDg_at l pos;have ih':=ih (pos + 1) (by omega);rw [take_getD l z84 pos hlt] at ih';rw [hrd,drop_getD l z84 pos hlt];generalize l.getD pos z84=d at *;refine Ev.yes (by omega) (Ev.yes (by omega) (Ev.bind (sort_ev d.f0) ?_));(have hs:0 ≤ srt d.f0∧srt d.f0 < 4:=by unfold srt;split <;> (try split) <;> (try split) <;> omega);refine Ev.yes hs.1 (Ev.yes (by simpa using hs.2) ?_);have hj1:∀ b,b = !doB l0.length l1.length l2.length d → Ev (fun k=>r16_Oper.j1 k [0,(l0.length:Int),(l1.length:Int),(l2.length:Int)] (pos:Int) (srt d.f0) b nm l d.f0 d.f1 d.f2)
     (operU l0.length l1.length l2.length ((l.take pos).map toTh).reverse (d :: l.drop (pos + 1)) && wB l.length 1 16):=by
    rintro b rfl;refine Ev.succ ?_;simp only [r16_Oper.j1];rw [operU];cases hdo:doB l0.length l1.length l2.length d
    ·exact Ev.yes rfl (Ev.now _)
    ·refine Ev.no (by simp) ?_;rw [Bool.true_and];have ih2:=ih' (fun e he=>by
      rcases List.mem_append.1 he with h|h
      ·exact hd e h
      ·rw [List.mem_singleton.1 h];exact hdo)
     rw [List.map_append,List.reverse_append] at ih2;have hseen:((l.take pos).map toTh).reverse.contains (toTh d)=((l.take pos).drop 0).any (fun e=>decide (srt e.f0=srt d.f0∧e.f1=d.f1)):=by
      rw [List.drop_zero,Bool.eq_iff_iff,List.contains_iff_mem,List.mem_reverse,List.mem_map,List.any_eq_true];constructor
      ·rintro ⟨e,he,hq⟩;exact ⟨e,he,decide_eq_true ((th_srt hdo (hd e he)).1 hq.symm)⟩
      ·rintro ⟨e,he,hq⟩;exact ⟨e,he,((th_srt hdo (hd e he)).2 (of_decide_eq_true hq)).symm⟩
     rw [hseen];refine Ev.loop (g:=fun k j=>r16_Oper.l1 k [0,(l0.length:Int),(l1.length:Int),(l2.length:Int)] (pos:Int) (srt d.f0) (j:Int) nm l d.f0 d.f1 d.f2)
      (spec:=fun j=>(!((l.take pos).drop j).any (fun e=>decide (srt e.f0=srt d.f0∧e.f1=d.f1)) && operU l0.length l1.length l2.length (toTh d :: ((l.take pos).map toTh).reverse) (l.drop (pos + 1))) && wB l.length 1 16) pos ?_ ?_ 0 (by omega)
     ·refine Ev.succ ?_;simp only [r16_Oper.l1];rw [wrap_up pos (by omega)];refine Ev.no (by omega) ?_;rw [List.drop_eq_nil_of_le (by rw [List.length_take];omega)];exact ih2
     ·intro j hj ihj;refine Ev.succ ?_;simp only [r16_Oper.l1];(have hjt:j < (l.take pos).length:=by rw [List.length_take];omega);have hrj:rd_T84 l (j:Int)=(l.take pos).getD j z84:=by
       rw [rdDg_at];simp [List.getD_eq_getElem?_getD,List.getElem?_take,hj]
      rw [wrap_up j (by omega),hrj,drop_getD (l.take pos) z84 j hjt];generalize (l.take pos).getD j z84=e at *;refine Ev.yes (by omega) (Ev.yes (by omega) (Ev.yes (by omega) (Ev.bind (sort_ev e.f0) ?_)));rw [List.any_cons];by_cases hq:srt e.f0=srt d.f0
      ·refine Ev.yes hq ?_;by_cases hq2:e.f1=d.f1
       ·rw [decide_eq_true ⟨hq,hq2⟩];exact Ev.yes hq2 (Ev.now _)
       ·rw [decide_eq_false (fun x=>hq2 x.2),Bool.false_or];exact Ev.no hq2 ihj
      ·rw [decide_eq_false (fun x=>hq x.1),Bool.false_or];exact Ev.no hq ihj
   rw [show r16_in.f d.f1 (rd [0,(l0.length:Int),(l1.length:Int),(l2.length:Int)] (srt d.f0))=_ from in_f _ _];refine Ev.bind1 rfl ?_;(have hwB:∀ lo hi:Int,wB d.f2 lo hi=(decide (lo ≤ d.f2) && decide (d.f2 ≤ hi)):=fun _ _=>rfl);by_cases h1:d.f0=1 ∨ d.f0=2
   ·(have hsr:srt d.f0=1:=by unfold srt;rw [if_pos h1]);(have hdo:doB l0.length l1.length l2.length d=(wB d.f1 0 ((l0.length:Int) - 1) && d.f2 == 0):=by unfold doB;rw [if_pos h1]);rw [hsr] at hj1 ⊢;rw [show rd [0,(l0.length:Int),(l1.length:Int),(l2.length:Int)] 1=l0.length from rfl];cases hin:wB d.f1 0 ((l0.length:Int) - 1)
    ·exact Ev.no (by simp) (hj1 true (by rw [hdo,hin];rfl))
    ·exact Ev.yes rfl (Ev.no (by decide) (hj1 _ (by rw [hdo,hin];rfl)))
   ·by_cases h3:d.f0=3 ∨ d.f0=4
    ·(have hsr:srt d.f0=2:=by unfold srt;rw [if_neg h1,if_pos h3]);(have hdo:doB l0.length l1.length l2.length d=(wB d.f1 0 ((l1.length:Int) - 1) && wB d.f2 1 1000):=by unfold doB;rw [if_neg h1,if_pos h3]);rw [hsr] at hj1 ⊢;rw [show rd [0,(l0.length:Int),(l1.length:Int),(l2.length:Int)] 2=l1.length from rfl];cases hin:wB d.f1 0 ((l1.length:Int) - 1)
     ·exact Ev.no (by simp) (hj1 true (by rw [hdo,hin];rfl))
     ·refine Ev.yes rfl (Ev.yes rfl ?_);by_cases hlo:d.f2 < 1
      ·exact Ev.yes hlo (hj1 true (by rw [hdo,hin,hwB,decide_eq_false (by omega:¬ 1 ≤ d.f2)];rfl))
      ·refine Ev.no hlo ?_;by_cases hhi:d.f2 > 1000
       ·exact Ev.yes hhi (hj1 true (by rw [hdo,hin,hwB,decide_eq_false (by omega:¬ d.f2 ≤ 1000),Bool.and_false];rfl))
       ·exact Ev.no hhi (hj1 false (by rw [hdo,hin,hwB,decide_eq_true (by omega:d.f2 ≤ 1000),decide_eq_true (by omega:1 ≤ d.f2)];rfl))
    ·by_cases h6:d.f0=6
     ·(have hsr:srt d.f0=3:=by unfold srt;rw [if_neg h1,if_neg h3,if_pos h6]);(have hdo:doB l0.length l1.length l2.length d=(wB d.f1 0 ((l2.length:Int) - 1) && d.f2 == 0):=by unfold doB;rw [if_neg h1,if_neg h3,if_pos h6]);rw [hsr] at hj1 ⊢;rw [show rd [0,(l0.length:Int),(l1.length:Int),(l2.length:Int)] 3=l2.length from rfl];cases hin:wB d.f1 0 ((l2.length:Int) - 1)
      ·exact Ev.no (by simp) (hj1 true (by rw [hdo,hin];rfl))
      ·exact Ev.yes rfl (Ev.no (by decide) (hj1 _ (by rw [hdo,hin];rfl)))
     ·(have hsr:srt d.f0=0:=by unfold srt;rw [if_neg h1,if_neg h3,if_neg h6]);(have hdo:doB l0.length l1.length l2.length d=false:=by unfold doB;rw [if_neg h1,if_neg h3,if_neg h6]);rw [hsr] at hj1 ⊢;rw [show rd [0,(l0.length:Int),(l1.length:Int),(l2.length:Int)] 0=0 from rfl];have hin:wB d.f1 0 (0 - 1)=false:=by
       unfold wB;by_cases h0:0 ≤ d.f1
       ·rw [decide_eq_false (by omega:¬ d.f1 ≤ 0 - 1),Bool.and_false]
       ·rw [decide_eq_false h0,Bool.false_and]
      rw [hin];exact Ev.no (by simp) (hj1 true (by rw [hdo];rfl))
 exact main l.length 0 (by omega) (fun e he=>by simp at he)
theorem may_ev (l0 l1 l2:List ByteArray) (l3:List Cl) (l4:List Op_) (hs:∀ s ∈ namesL l0 l1 l2 l4,s.size ≤ maxLen) (hd:∀ o ∈ l4,o.f1.length ≤ 4000000000) :
  Ev (fun k=>r16_May.f k l0 l1 l2 l3 l4) (checkB l0 l1 l2 l3 l4):=by
 have hno:∀ b,b=true → checkB l0 l1 l2 l3 l4=false → Ev (fun k=>r16_May.j0 k b l0 l1 l2 l3 l4) (checkB l0 l1 l2 l3 l4):=by
  rintro b rfl h;refine Ev.succ ?_;simp only [r16_May.j0];rw [h];exact Ev.yes (by first|trivial|rfl) (Ev.now _)
 unfold r16_May.f;by_cases h0:6 < l0.length
 ·exact Ev.yes (by omega) (hno true rfl (by unfold checkB;rw [if_pos h0]))
 by_cases h1:4 < l1.length
 ·exact Ev.no (by omega) (Ev.yes (by omega) (hno true rfl (by unfold checkB;rw [if_neg h0,if_pos h1])))
 by_cases h2:3 < l2.length
 ·exact Ev.no (by omega) (Ev.no (by omega) (Ev.yes (by omega) (hno true rfl (by unfold checkB;rw [if_neg h0,if_neg h1,if_pos h2]))))
 by_cases h4:16 < l4.length
 ·exact Ev.no (by omega) (Ev.no (by omega) (Ev.no (by omega) (Ev.yes (by omega) (hno true rfl (by unfold checkB;rw [if_neg h0,if_neg h1,if_neg h2,if_pos h4])))))
 by_cases h3:12 < l3.length
 ·exact Ev.no (by omega) (Ev.no (by omega) (Ev.no (by omega) (Ev.no (by omega) (Ev.yes (by omega) (hno true rfl (by unfold checkB;rw [if_neg h0,if_neg h1,if_neg h2,if_neg h4,if_pos h3]))))))
 refine Ev.no (by omega) (Ev.no (by omega) (Ev.no (by omega) (Ev.no (by omega) (Ev.no (by omega) ?_))));have hcb:=checkB_at (l3:=l3) h0 h1 h2 h4 h3;(have hnl:(namesL l0 l1 l2 l4).length ≤ 4000000000:=by unfold namesL;simp;omega);refine Ev.bind (all_ev l0 l1 l2 l3 l4 (by omega) (by omega) (by omega) (by omega)) (Ev.bind (unlike_ev _ hnl hs) ?_);cases hn:namedOk (namesL l0 l1 l2 l4)
 ·exact Ev.no (by decide) (hno true rfl (by rw [hcb,hn,Bool.false_and]))
 refine Ev.yes rfl (Ev.bind (floors_ev l3 (by omega)) ?_);cases hf:leastOk l3
 ·exact hno _ rfl (by rw [hcb,hn,hf,Bool.false_and,Bool.and_false])
 refine Ev.succ ?_;simp only [r16_May.j0];refine Ev.no (by decide) ?_;rw [hcb,hn,hf,Bool.true_and,Bool.true_and];have hop:Ev (fun k=>r16_May.l1 k 0 l0 l1 l2 l3 l4) (!l4.any (fun x=>!operOk l0.length l1.length l2.length x.f1)):=by
  refine Ev.loop (g:=fun k pos=>r16_May.l1 k (pos:Int) l0 l1 l2 l3 l4) (spec:=fun pos=>!(l4.drop pos).any (fun x=>!operOk l0.length l1.length l2.length x.f1)) l4.length ?_ ?_ 0 (by omega)
  ·refine Ev.succ ?_;simp only [r16_May.l1];rw [List.drop_length];exact Ev.no (by omega) (Ev.now _)
  ·intro pos hp ih;refine Ev.succ ?_;simp only [r16_May.l1,rdOp_at];have hm:=getD_mem l4 z66 pos hp;rw [wrap_up pos (by omega),drop_getD l4 z66 pos hp,List.any_cons];generalize l4.getD pos z66=o at *;refine Ev.yes (by omega) (Ev.yes (by omega) (Ev.bind (oper_ev l0 l1 l2 l3 l4 o.f0 o.f1 (hd o hm)) ?_));cases operOk l0.length l1.length l2.length o.f1
   ·exact Ev.no (by decide) (Ev.now _)
   ·exact Ev.yes rfl ih
 refine Ev.loop (g:=fun k pos=>r16_May.l0 k (pos:Int) l0 l1 l2 l3 l4) (spec:=fun pos=>!(l3.drop pos).any (fun x=>!clB l0.length l1.length x) && !l4.any (fun x=>!operOk l0.length l1.length l2.length x.f1)) l3.length ?_ ?_ 0 (by omega)
 ·refine Ev.succ ?_;simp only [r16_May.l0];rw [List.drop_length];exact Ev.no (by omega) hop
 ·intro pos hp ih;refine Ev.succ ?_;simp only [r16_May.l0,rdCl_at];rw [wrap_up pos (by omega),drop_getD l3 z70 pos hp,List.any_cons];generalize l3.getD pos z70=c at *;refine Ev.yes (by omega) (Ev.yes (by omega) (Ev.bind (clause_ev l0 l1 l2 l3 l4 c) ?_));cases clB l0.length l1.length c
  ·exact Ev.no (by decide) (Ev.now _)
  ·exact Ev.yes rfl ih
def lightB (l0 l1 l2:List ByteArray) (l3:List Cl) (l4:List Op_):Bool :=
 if 20 < l0.length then false else if 20 < l1.length then false else if 20 < l2.length then false else if 30 < l3.length then false else if 30 < l4.length then false
 else (namesL l0 l1 l2 l4).all (fun s=>decide (s.size ≤ 100)) && l4.all (fun o=>decide (o.f1.length ≤ 20))
theorem lightB_ok {l0 l1 l2:List ByteArray} {l3:List Cl} {l4:List Op_} (h:lightB l0 l1 l2 l3 l4=true) :
  l0.length ≤ 20∧l1.length ≤ 20∧l2.length ≤ 20∧l3.length ≤ 30∧l4.length ≤ 30∧(∀ s ∈ namesL l0 l1 l2 l4,s.size ≤ 100)∧∀ o ∈ l4,o.f1.length ≤ 20:=by
 unfold lightB at h;(split at h;· cases h);(split at h;· cases h);(split at h;· cases h);(split at h;· cases h);(split at h;· cases h);rw [Bool.and_eq_true,List.all_eq_true,List.all_eq_true] at h;exact ⟨by omega,by omega,by omega,by omega,by omega,fun s hs=>of_decide_eq_true (h.1 s hs),fun o ho=>of_decide_eq_true (h.2 o ho)⟩
theorem light_ev (l0 l1 l2:List ByteArray) (l3:List Cl) (l4:List Op_):Ev (fun k=>q16_Light.f k l0 l1 l2 l3 l4) (lightB l0 l1 l2 l3 l4):=by
 have hno:∀ b,b=true → lightB l0 l1 l2 l3 l4=false → Ev (fun k=>q16_Light.j0 k b l0 l1 l2 l3 l4) (lightB l0 l1 l2 l3 l4):=by
  rintro b rfl h;refine Ev.succ ?_;simp only [q16_Light.j0];rw [h];exact Ev.yes (by first|trivial|rfl) (Ev.now _)
 unfold q16_Light.f;by_cases h0:20 < l0.length
 ·exact Ev.yes (by omega) (hno true rfl (by unfold lightB;rw [if_pos h0]))
 by_cases h1:20 < l1.length
 ·exact Ev.no (by omega) (Ev.yes (by omega) (hno true rfl (by unfold lightB;rw [if_neg h0,if_pos h1])))
 by_cases h2:20 < l2.length
 ·exact Ev.no (by omega) (Ev.no (by omega) (Ev.yes (by omega) (hno true rfl (by unfold lightB;rw [if_neg h0,if_neg h1,if_pos h2]))))
 by_cases h3:30 < l3.length
 ·exact Ev.no (by omega) (Ev.no (by omega) (Ev.no (by omega) (Ev.yes (by omega) (hno true rfl (by unfold lightB;rw [if_neg h0,if_neg h1,if_neg h2,if_pos h3])))))
 refine Ev.no (by omega) (Ev.no (by omega) (Ev.no (by omega) (Ev.no (by omega) ?_)));by_cases h4:30 < l4.length
 ·exact hno _ (decide_eq_true (by omega)) (by unfold lightB;rw [if_neg h0,if_neg h1,if_neg h2,if_neg h3,if_pos h4])
 rw [decide_eq_false (by omega:¬ (l4.length:Int) > 30)];refine Ev.succ ?_;simp only [q16_Light.j0];refine Ev.no (by decide) (Ev.bind (all_ev l0 l1 l2 l3 l4 (by omega) (by omega) (by omega) (by omega)) ?_);(have hu:lightB l0 l1 l2 l3 l4=((namesL l0 l1 l2 l4).all (fun s=>decide (s.size ≤ 100)) && l4.all (fun o=>decide (o.f1.length ≤ 20))):=by unfold lightB;rw [if_neg h0,if_neg h1,if_neg h2,if_neg h3,if_neg h4]);(have hnl:(namesL l0 l1 l2 l4).length ≤ 4000000000:=by unfold namesL;simp;omega);rw [hu];generalize namesL l0 l1 l2 l4=nl at *;have hop:Ev (fun k=>q16_Light.l1 k 0 l0 l1 l2 l3 l4) (l4.all (fun o=>decide (o.f1.length ≤ 20))):=by
  refine Ev.loop (g:=fun k pos=>q16_Light.l1 k (pos:Int) l0 l1 l2 l3 l4) (spec:=fun pos=>(l4.drop pos).all (fun o=>decide (o.f1.length ≤ 20))) l4.length ?_ ?_ 0 (by omega)
  ·refine Ev.succ ?_;simp only [q16_Light.l1];rw [List.drop_length];exact Ev.no (by omega) (Ev.now _)
  ·intro pos hp ih;refine Ev.succ ?_;simp only [q16_Light.l1,rdOp_at];rw [wrap_up pos (by omega),drop_getD l4 z66 pos hp,List.all_cons];generalize l4.getD pos z66=o at *;refine Ev.yes (by omega) (Ev.yes (by omega) ?_);by_cases hq:o.f1.length ≤ 20
   ·rw [decide_eq_true hq,Bool.true_and];exact Ev.no (by omega) ih
   ·rw [decide_eq_false hq];exact Ev.yes (by omega) (Ev.now _)
 refine Ev.loop (g:=fun k pos=>q16_Light.l0 k nl (pos:Int) l0 l1 l2 l3 l4) (spec:=fun pos=>(nl.drop pos).all (fun s=>decide (s.size ≤ 100)) && l4.all (fun o=>decide (o.f1.length ≤ 20))) nl.length ?_ ?_ 0 (by omega)
 ·refine Ev.succ ?_;simp only [q16_Light.l0];rw [List.drop_length];exact Ev.no (by omega) hop
 ·intro pos hp ih;refine Ev.succ ?_;simp only [q16_Light.l0,rdOf_at];rw [wrap_up pos (by omega),drop_getD nl ByteArray.empty pos hp,List.all_cons];generalize nl.getD pos ByteArray.empty=s at *;refine Ev.yes (by omega) (Ev.yes (by omega) ?_);by_cases hq:s.size ≤ 100
  ·rw [decide_eq_true hq,Bool.true_and];exact Ev.no (by omega) ih
  ·rw [decide_eq_false hq];exact Ev.yes (by omega) (Ev.now _)
end Go.Proofs.Ytjbjbeihkoeciaa.X
namespace Go.Proofs.Ytjbjbeihkoeciaa.X
open Go.RowKit Go.Proofs.YtjbjbeihkoeciaaW.PrintWords Go.Proofs.YtjbjbeihkoeciaaW.PrintLast Go.Proofs.YtjbjbeihkoeciaaW.PrintMore
attribute [local go_sem] max2_int min2_int max_two min_two max_three min_three max_four min_four
def eval_right.f (a0:ByteArray):Option (Bool):=if a0.toList=([]:List UInt8) then (some false) else (some (decide ((a0.size:Int) ≤ 32)))
set_option maxHeartbeats 8000000 in
set_option maxRecDepth 100000 in
theorem eval_right.calls (a0:ByteArray) (r:Bool) (w:World) (h:eval_right.f a0=some r) :
  Calls Try.prog 55 #[.string a0] w fun e w'=>e = .returned (.bool r)∧Drawn0 w w':=by
 have H:=h;clear h;unfold eval_right.f at H;by_cases c2:a0.toList=([]:List UInt8)
 ·rw [if_pos c2] at H;obtain ⟨c2b0,c2b1⟩:=bT c2;clear c2;obtain rfl:=sI H;go_enter Try.func55,Try.ntmps55;go_wp2;go_ret;exact ⟨by first|rfl|(simp;done)|(simp [*];done),tR⟩
 ·rw [if_neg c2] at H;obtain ⟨c2b0,c2b1⟩:=bN c2;obtain rfl:=sI H;go_enter Try.func55,Try.ntmps55;go_wp2;go_ret;exact ⟨by first|rfl|(simp;done)|(simp [*];done),tR⟩
def eval_set.l0:Nat → List ByteArray → List ByteArray → Int → Int → Option (Bool)
 | 0,_,_,_,_=>none
 | k + 1,x0,x5,x6,x7=>if x7 < x6 then (if 0 ≤ x7 then (if x7 < (x5.length:Int) then ((eval_right.f (rdOf ByteArray.empty x5 x7)).bind fun t274=>(if t274=true then (if x7 > 0 then (if 0 ≤ (wrap64 (x7 - 1)) then (if (wrap64 (x7 - 1)) < (x0.length:Int) then (if ((Op.bytesLess ((rdOf ByteArray.empty x0 (wrap64 (x7 - 1))).toList) ((rdOf ByteArray.empty x5 x7).toList))=true) then (eval_set.l0 k x0 x5 x6 (wrap64 (x7 + 1))) else (some false)) else (none)) else (none)) else (eval_set.l0 k x0 x5 x6 (wrap64 (x7 + 1)))) else (some false))) else (none)) else (none)) else (some (decide ((x0.length:Int) ≤ 4000)))
def eval_set.f (k:Nat) (l0:List ByteArray):Option (Bool):=eval_set.l0 k l0 l0 (l0.length:Int) 0
set_option maxHeartbeats 8000000 in
set_option maxRecDepth 100000 in
theorem eval_set.calls (k:Nat) (A0:Option Addr) (c0:Nat) (l0:List ByteArray) (r:Bool) (w:World) (hr0:Kd.C Kd.string w A0 l0.length l0) (hc0:l0.length ≤ c0) (h:eval_set.f k l0=some r) :
  Calls Try.prog 97 #[.slice A0 l0.length c0] w fun e w'=>e = .returned (.bool r)∧Drawn0 w w':=by
 have HR0:=Sd.mk hr0;have HC0:=Sd.mk hc0;clear hr0 hc0;have H:=h;clear h;unfold eval_set.f at H;have H':=Sd.mk H;clear H;go_enter Try.func97,Try.ntmps97;go_wp2;go_loopg [7] k (fun kq v7 w'=>∃ (x7_1:Int),v7 = .int .i64 x7_1∧Sd (eval_set.l0 kq l0 l0 (l0.length:Int) x7_1=some r)∧Sd (kq ≤ k)∧Drawn0 w w')
 case atStart=>exact ⟨(0),tSS,H',⟨Nat.le_refl _⟩,tR⟩
 case round =>
  clear H';obtain ⟨x7_1,rfl,HA,HK1,⟨m1,rfl⟩⟩:=hrel;cases gk with
  | zero=>exact absurd HA.out (by simp [eval_set.l0])
  | succ k1 =>
   have H:=HA.out;clear HA;simp only [eval_set.l0] at H;by_cases c2:x7_1 < (l0.length:Int)
   ·rw [if_pos c2] at H;have c2b0:=dTr c2;clear c2;by_cases c3:0 ≤ x7_1
    ·rw [if_pos c3] at H;have c3b0:=dTr c3;clear c3;by_cases c4:x7_1 < (l0.length:Int)
     ·rw [if_pos c4] at H;have c4b0:=dTr c4;clear c4;obtain ⟨t274,A5,H⟩:=oB H;by_cases c6:t274=true
      ·subst c6;replace H:=iT H;by_cases c7:x7_1 > 0
       ·rw [if_pos c7] at H;have c7b0:=dTr c7;clear c7;obtain ⟨ji8,hji8⟩:∃ j_:Int,(wrap64 (x7_1 - 1))=j_:=⟨_,rfl⟩;(replace H:(if 0 ≤ (ji8) then (if (ji8) < (l0.length:Int) then (if ((Op.bytesLess ((rdOf ByteArray.empty l0 (ji8)).toList) ((rdOf ByteArray.empty l0 x7_1).toList))=true) then (eval_set.l0 k1 l0 l0 (l0.length:Int) (wrap64 (x7_1 + 1))) else (some false)) else (none)) else (none))=some r:=by first|(rw [hji8] at H;exact H)|(simp only [hji8] at H ⊢;exact H));(try rw [hji8] at A5);have hji8w:(IntKind.i64.wrap (x7_1 - 1))=ji8:=(i64_w _).trans hji8;by_cases c9:0 ≤ (ji8)
        ·rw [if_pos c9] at H;have c9b0:=dTr c9;clear c9;by_cases c10:(ji8) < (l0.length:Int)
         ·rw [if_pos c10] at H;have c10b0:=dTr c10;clear c10;by_cases c11:((Op.bytesLess ((rdOf ByteArray.empty l0 (ji8)).toList) ((rdOf ByteArray.empty l0 x7_1).toList))=true)
          ·rw [if_pos c11] at H;have c11b0:(Op.bytesLess ((rdOf ByteArray.empty l0 (ji8)).toList) ((rdOf ByteArray.empty l0 x7_1).toList))=true:=c11;clear c11;have H':=Sd.mk H;clear H;have p273:0 ≤ (x7_1:Int):=tD;have q273:x7_1 < (l0.length:Int):=tD;obtain ⟨ad273,e273,hx273_0⟩:=Kd.at_string HR0.out x7_1 p273 q273;cases e273;replace p273:=eq_true p273;replace q273:=eq_true q273;go_wp2_with (first|((with_reducible refine gate_callee (f:=55) rfl ?_);refine gL Try.func55 (some 13) #[.string (rdOf ByteArray.empty l0 x7_1)] ?_;(with_reducible refine (eval_right.calls (rdOf ByteArray.empty l0 x7_1) true _ A5.out).mono ?_);rintro e w' ⟨rfl,⟨nd,rfl⟩⟩;refine ⟨_,rfl,?_⟩;have p275:0 ≤ ((ji8):Int):=tD;have q275:(ji8) < (l0.length:Int):=tD;obtain ⟨ad275,e275,hx275_0⟩:=Kd.at_string HR0.out (ji8) p275 q275;obtain rfl:ad273=ad275:=(by injection e275);replace p275:=eq_true p275;replace q275:=eq_true q275));go_roundg k1
           case measure=>have:=HK1.out;omega
           case rel=>exact ⟨(wrap64 (x7_1 + 1)),tSS,H',⟨by have:=HK1.out;omega⟩,tR⟩
          ·rw [if_neg c11] at H;(have c11b0:(Op.bytesLess ((rdOf ByteArray.empty l0 (ji8)).toList) ((rdOf ByteArray.empty l0 x7_1).toList))=false:=by simpa using c11);clear c11;obtain rfl:=sI H;have p273:0 ≤ (x7_1:Int):=tD;have q273:x7_1 < (l0.length:Int):=tD;obtain ⟨ad273,e273,hx273_0⟩:=Kd.at_string HR0.out x7_1 p273 q273;cases e273;replace p273:=eq_true p273;replace q273:=eq_true q273;go_wp2_with (first|((with_reducible refine gate_callee (f:=55) rfl ?_);refine gL Try.func55 (some 13) #[.string (rdOf ByteArray.empty l0 x7_1)] ?_;(with_reducible refine (eval_right.calls (rdOf ByteArray.empty l0 x7_1) true _ A5.out).mono ?_);rintro e w' ⟨rfl,⟨nd,rfl⟩⟩;refine ⟨_,rfl,?_⟩;have p275:0 ≤ ((ji8):Int):=tD;have q275:(ji8) < (l0.length:Int):=tD;obtain ⟨ad275,e275,hx275_0⟩:=Kd.at_string HR0.out (ji8) p275 q275;obtain rfl:ad273=ad275:=(by injection e275);replace p275:=eq_true p275;replace q275:=eq_true q275));go_ret;exact ⟨by first|rfl|(simp;done)|(simp only [← hji8] <;> (first|rfl|simp))|(simp [*];done),tR⟩
         ·rw [if_neg c10] at H;exact absurd H (by simp)
        ·rw [if_neg c9] at H;exact absurd H (by simp)
       ·rw [if_neg c7] at H;have c7b0:=dFa c7;clear c7;have H':=Sd.mk H;clear H;have p273:0 ≤ (x7_1:Int):=tD;have q273:x7_1 < (l0.length:Int):=tD;obtain ⟨ad273,e273,hx273_0⟩:=Kd.at_string HR0.out x7_1 p273 q273;cases e273;replace p273:=eq_true p273;replace q273:=eq_true q273;go_wp2_with (first|((with_reducible refine gate_callee (f:=55) rfl ?_);refine gL Try.func55 (some 13) #[.string (rdOf ByteArray.empty l0 x7_1)] ?_;(with_reducible refine (eval_right.calls (rdOf ByteArray.empty l0 x7_1) true _ A5.out).mono ?_);rintro e w' ⟨rfl,⟨nd,rfl⟩⟩;refine ⟨_,rfl,?_⟩));go_roundg k1
        case measure=>have:=HK1.out;omega
        case rel=>exact ⟨(wrap64 (x7_1 + 1)),tSS,H',⟨by have:=HK1.out;omega⟩,tR⟩
      ·replace c6:=Bool.eq_false_iff.mpr c6;subst c6;replace H:=iF H;obtain rfl:=sI H;have p273:0 ≤ (x7_1:Int):=tD;have q273:x7_1 < (l0.length:Int):=tD;obtain ⟨ad273,e273,hx273_0⟩:=Kd.at_string HR0.out x7_1 p273 q273;cases e273;replace p273:=eq_true p273;replace q273:=eq_true q273;go_wp2_with (first|((with_reducible refine gate_callee (f:=55) rfl ?_);refine gL Try.func55 (some 13) #[.string (rdOf ByteArray.empty l0 x7_1)] ?_;(with_reducible refine (eval_right.calls (rdOf ByteArray.empty l0 x7_1) false _ A5.out).mono ?_);rintro e w' ⟨rfl,⟨nd,rfl⟩⟩;refine ⟨_,rfl,?_⟩));go_ret;exact ⟨by first|rfl|(simp;done)|(simp [*];done),tR⟩
     ·rw [if_neg c4] at H;exact absurd H (by simp)
    ·rw [if_neg c3] at H;exact absurd H (by simp)
   ·rw [if_neg c2] at H;have c2b0:=dFa c2;clear c2;obtain rfl:=sI H;go_wp2;go_ret;exact ⟨by first|rfl|(simp;done)|(simp [*];done),tR⟩
def cmp_isNaN_string.f (a0:ByteArray):Option (Bool):=some (a0.toList != a0.toList)
set_option maxHeartbeats 8000000 in
set_option maxRecDepth 100000 in
theorem cmp_isNaN_string.calls (a0:ByteArray) (r:Bool) (w:World) (h:cmp_isNaN_string.f a0=some r) :
  Calls Try.prog 153 #[.string a0] w fun e w'=>e = .returned (.bool r)∧Drawn0 w w':=by
 have H:=h;clear h;unfold cmp_isNaN_string.f at H;obtain rfl:=sI H;go_enter Try.func153,Try.ntmps153;go_wp2;go_ret;exact ⟨by first|rfl|(simp;done)|(simp [*];done),tR⟩
def cmp_Less_string.f (a0:ByteArray) (a1:ByteArray):Option (Bool):=(cmp_isNaN_string.f a0).bind fun t370=>(if t370=true then ((cmp_isNaN_string.f a1).bind fun t371=>(if t371=true then (some (Op.bytesLess a0.toList a1.toList)) else (some true))) else (some (Op.bytesLess a0.toList a1.toList)))
set_option maxHeartbeats 8000000 in
set_option maxRecDepth 100000 in
theorem cmp_Less_string.calls (a0:ByteArray) (a1:ByteArray) (r:Bool) (w:World) (h:cmp_Less_string.f a0 a1=some r) :
  Calls Try.prog 126 #[.string a0,.string a1] w fun e w'=>e = .returned (.bool r)∧Drawn0 w w':=by
 have H:=h;clear h;unfold cmp_Less_string.f at H;obtain ⟨t370,A3,H⟩:=oB H;by_cases c4:t370=true
 ·subst c4;replace H:=iT H;obtain ⟨t371,A5,H⟩:=oB H;by_cases c6:t371=true
  ·subst c6;replace H:=iT H;obtain rfl:=sI H;go_enter Try.func126,Try.ntmps126;go_wp2_with (first|((with_reducible refine gate_callee (f:=153) rfl ?_);refine gL Try.func153 (some 6) #[.string a0] ?_;(with_reducible refine (cmp_isNaN_string.calls a0 true _ A3.out).mono ?_);rintro e w' ⟨rfl,⟨nd,rfl⟩⟩;refine ⟨_,rfl,?_⟩)|(go_at_call 153;(with_reducible refine (cmp_isNaN_string.calls a1 true _ A5.out).mono ?_);rintro e w' ⟨rfl,⟨nd,rfl⟩⟩));go_ret;exact ⟨by first|rfl|(simp;done)|(simp [*];done),tR⟩
  ·replace c6:=Bool.eq_false_iff.mpr c6;subst c6;replace H:=iF H;obtain rfl:=sI H;go_enter Try.func126,Try.ntmps126;go_wp2_with (first|((with_reducible refine gate_callee (f:=153) rfl ?_);refine gL Try.func153 (some 6) #[.string a0] ?_;(with_reducible refine (cmp_isNaN_string.calls a0 true _ A3.out).mono ?_);rintro e w' ⟨rfl,⟨nd,rfl⟩⟩;refine ⟨_,rfl,?_⟩)|(go_at_call 153;(with_reducible refine (cmp_isNaN_string.calls a1 false _ A5.out).mono ?_);rintro e w' ⟨rfl,⟨nd,rfl⟩⟩));go_ret;exact ⟨by first|rfl|(simp;done)|(simp [*];done),tR⟩
 ·replace c4:=Bool.eq_false_iff.mpr c4;subst c4;replace H:=iF H;obtain rfl:=sI H;go_enter Try.func126,Try.ntmps126;go_wp2_with (first|((with_reducible refine gate_callee (f:=153) rfl ?_);refine gL Try.func153 (some 6) #[.string a0] ?_;(with_reducible refine (cmp_isNaN_string.calls a0 false _ A3.out).mono ?_);rintro e w' ⟨rfl,⟨nd,rfl⟩⟩;refine ⟨_,rfl,?_⟩));go_ret;exact ⟨by first|rfl|(simp;done)|(simp [*];done),tR⟩
def slices_isNaN_string.f (a0:ByteArray):Option (Bool):=some (a0.toList != a0.toList)
set_option maxHeartbeats 8000000 in
set_option maxRecDepth 100000 in
theorem slices_isNaN_string.calls (a0:ByteArray) (r:Bool) (w:World) (h:slices_isNaN_string.f a0=some r) :
  Calls Try.prog 127 #[.string a0] w fun e w'=>e = .returned (.bool r)∧Drawn0 w w':=by
 have H:=h;clear h;unfold slices_isNaN_string.f at H;obtain rfl:=sI H;go_enter Try.func127,Try.ntmps127;go_wp2;go_ret;exact ⟨by first|rfl|(simp;done)|(simp [*];done),tR⟩
def slices_BinarySearch_string.l0:Nat → List ByteArray → ByteArray → Int → Int → Int → Option (Int × Bool)
 | 0,_,_,_,_,_=>none
 | k + 1,x0,x1,x6,x7,x8=>if x7 < x8 then (if 0 ≤ (wrap64 ((IntKind.u64.wrap (wrap64 (x7 + x8))) / 2)) then (if (wrap64 ((IntKind.u64.wrap (wrap64 (x7 + x8))) / 2)) < (x0.length:Int) then ((cmp_Less_string.f (rdOf ByteArray.empty x0 (wrap64 ((IntKind.u64.wrap (wrap64 (x7 + x8))) / 2))) x1).bind fun t373=>(if t373=true then (slices_BinarySearch_string.l0 k x0 x1 x6 (wrap64 ((wrap64 ((IntKind.u64.wrap (wrap64 (x7 + x8))) / 2)) + 1)) x8) else (slices_BinarySearch_string.l0 k x0 x1 x6 x7 (wrap64 ((IntKind.u64.wrap (wrap64 (x7 + x8))) / 2))))) else (none)) else (none)) else (if x7 < x6 then (if 0 ≤ x7 then (if x7 < (x0.length:Int) then (if (rdOf ByteArray.empty x0 x7).toList=x1.toList then (some (x7,true)) else ((slices_isNaN_string.f (rdOf ByteArray.empty x0 x7)).bind fun t376=>(if t376=true then ((slices_isNaN_string.f x1).bind fun t377=>(some (x7,t377))) else (some (x7,false))))) else (none)) else (none)) else (some (x7,false)))
def slices_BinarySearch_string.f (k:Nat) (l0:List ByteArray) (a1:ByteArray):Option (Int × Bool):=slices_BinarySearch_string.l0 k l0 a1 (l0.length:Int) 0 (l0.length:Int)
set_option maxHeartbeats 8000000 in
set_option maxRecDepth 100000 in
theorem slices_BinarySearch_string.calls (k:Nat) (A0:Option Addr) (c0:Nat) (l0:List ByteArray) (a1:ByteArray) (r1:Int) (r2:Bool) (w:World) (hr0:Kd.C Kd.string w A0 l0.length l0) (hc0:l0.length ≤ c0) (h:slices_BinarySearch_string.f k l0 a1=some (r1,r2)) :
  Calls Try.prog 87 #[.slice A0 l0.length c0,.string a1] w fun e w'=>e = .returned (.tuple #[.int .i64 r1,.bool r2])∧Drawn0 w w':=by
 have HR0:=Sd.mk hr0;have HC0:=Sd.mk hc0;clear hr0 hc0;have H:=h;clear h;unfold slices_BinarySearch_string.f at H;have H':=Sd.mk H;clear H;go_enter Try.func87,Try.ntmps87;go_wp2;go_loopg [7,8] k (fun kq v7 v8 w'=>∃ (x7_1:Int) (x8_1:Int),v7 = .int .i64 x7_1∧v8 = .int .i64 x8_1∧Sd (slices_BinarySearch_string.l0 kq l0 a1 (l0.length:Int) x7_1 x8_1=some (r1,r2))∧Sd (kq ≤ k)∧Drawn0 w w')
 case atStart=>exact ⟨(0),((l0.length:Int)),tSS,tSS,H',⟨Nat.le_refl _⟩,tR⟩
 case round =>
  clear H';(try clear p2);obtain ⟨x7_1,x8_1,rfl,rfl,HA,HK1,⟨m1,rfl⟩⟩:=hrel;cases gk with
  | zero=>exact absurd HA.out (by simp [slices_BinarySearch_string.l0])
  | succ k1 =>
   have H:=HA.out;clear HA;simp only [slices_BinarySearch_string.l0] at H;by_cases c3:x7_1 < x8_1
   ·rw [if_pos c3] at H;have c3b0:=dTr c3;clear c3;obtain ⟨ji4,hji4⟩:∃ j_:Int,(wrap64 ((IntKind.u64.wrap (wrap64 (x7_1 + x8_1))) / 2))=j_:=⟨_,rfl⟩;(replace H:(if 0 ≤ (ji4) then (if (ji4) < (l0.length:Int) then ((cmp_Less_string.f (rdOf ByteArray.empty l0 (ji4)) a1).bind fun t373=>(if t373=true then (slices_BinarySearch_string.l0 k1 l0 a1 (l0.length:Int) (wrap64 ((ji4) + 1)) x8_1) else (slices_BinarySearch_string.l0 k1 l0 a1 (l0.length:Int) x7_1 ji4))) else (none)) else (none))=some (r1,r2):=by first|(rw [hji4] at H;exact H)|(simp only [hji4] at H ⊢;exact H));have hji4w:(IntKind.i64.wrap ((IntKind.u64.wrap (wrap64 (x7_1 + x8_1))) / 2))=ji4:=(i64_w _).trans hji4;by_cases c5:0 ≤ (ji4)
    ·rw [if_pos c5] at H;have c5b0:=dTr c5;clear c5;by_cases c6:(ji4) < (l0.length:Int)
     ·rw [if_pos c6] at H;have c6b0:=dTr c6;clear c6;obtain ⟨t373,A7,H⟩:=oB H;by_cases c8:t373=true
      ·subst c8;replace H:=iT H;have H':=Sd.mk H;clear H;have p372:0 ≤ ((ji4):Int):=tD;have q372:(ji4) < (l0.length:Int):=tD;obtain ⟨ad372,e372,hx372_0⟩:=Kd.at_string HR0.out (ji4) p372 q372;cases e372;replace p372:=eq_true p372;replace q372:=eq_true q372;go_wp2_with (first|((with_reducible refine gate_callee (f:=126) rfl ?_);refine goesL_ (some 27) rfl rfl Try.func126 (by kernel_rfl) rfl #[.string (rdOf ByteArray.empty l0 (ji4)),.string a1] rfl (by (try simp only [List.map_toArray,List.map_cons,List.map_nil]);first|done|(simp only [hji4];rfl)|rfl|(simp only [List.length_drop,List.length_take];rfl)) ?_;(with_reducible refine (cmp_Less_string.calls (rdOf ByteArray.empty l0 (ji4)) a1 true _ A7.out).mono ?_);rintro e w' ⟨rfl,⟨nd,rfl⟩⟩;refine ⟨_,rfl,?_⟩));go_roundg k1
       case measure=>have:=HK1.out;omega
       case rel=>exact ⟨(wrap64 ((ji4) + 1)),(x8_1),(by first|rfl|(simp;done)|(simp only [← hji4] <;> (first|rfl|simp))|(simp [*];done)),tSS,H',⟨by have:=HK1.out;omega⟩,tR⟩
      ·replace c8:=Bool.eq_false_iff.mpr c8;subst c8;replace H:=iF H;have H':=Sd.mk H;clear H;have p372:0 ≤ ((ji4):Int):=tD;have q372:(ji4) < (l0.length:Int):=tD;obtain ⟨ad372,e372,hx372_0⟩:=Kd.at_string HR0.out (ji4) p372 q372;cases e372;replace p372:=eq_true p372;replace q372:=eq_true q372;go_wp2_with (first|((with_reducible refine gate_callee (f:=126) rfl ?_);refine goesL_ (some 27) rfl rfl Try.func126 (by kernel_rfl) rfl #[.string (rdOf ByteArray.empty l0 (ji4)),.string a1] rfl (by (try simp only [List.map_toArray,List.map_cons,List.map_nil]);first|done|(simp only [hji4];rfl)|rfl|(simp only [List.length_drop,List.length_take];rfl)) ?_;(with_reducible refine (cmp_Less_string.calls (rdOf ByteArray.empty l0 (ji4)) a1 false _ A7.out).mono ?_);rintro e w' ⟨rfl,⟨nd,rfl⟩⟩;refine ⟨_,rfl,?_⟩));go_roundg k1
       case measure=>have:=HK1.out;omega
       case rel=>exact ⟨(x7_1),(ji4),tSS,(by first|rfl|(simp;done)|(simp only [← hji4] <;> (first|rfl|simp))|(simp [*];done)),H',⟨by have:=HK1.out;omega⟩,tR⟩
     ·rw [if_neg c6] at H;exact absurd H (by simp)
    ·rw [if_neg c5] at H;exact absurd H (by simp)
   ·rw [if_neg c3] at H;have c3b0:=dFa c3;clear c3;by_cases c9:x7_1 < (l0.length:Int)
    ·rw [if_pos c9] at H;have c9b0:=dTr c9;clear c9;by_cases c10:0 ≤ x7_1
     ·rw [if_pos c10] at H;have c10b0:=dTr c10;clear c10;by_cases c11:x7_1 < (l0.length:Int)
      ·rw [if_pos c11] at H;have c11b0:=dTr c11;clear c11;by_cases c12:(rdOf ByteArray.empty l0 x7_1).toList=a1.toList
       ·rw [if_pos c12] at H;obtain ⟨c12b0,c12b1⟩:=bT c12;clear c12;simp only [Option.some.injEq,Prod.mk.injEq] at H;obtain ⟨rfl,rfl⟩:=H;have p374:0 ≤ (x7_1:Int):=tD;have q374:x7_1 < (l0.length:Int):=tD;obtain ⟨ad374,e374,hx374_0⟩:=Kd.at_string HR0.out x7_1 p374 q374;cases e374;replace p374:=eq_true p374;replace q374:=eq_true q374;go_wp2;go_ret2;exact ⟨by first|rfl|(simp;done)|(simp [*];done),tR⟩
       ·rw [if_neg c12] at H;obtain ⟨c12b0,c12b1⟩:=bN c12;obtain ⟨t376,A13,H⟩:=oB H;by_cases c14:t376=true
        ·subst c14;replace H:=iT H;obtain ⟨t377,A15,H⟩:=oB H;simp only [Option.some.injEq,Prod.mk.injEq] at H;obtain ⟨rfl,rfl⟩:=H;have p374:0 ≤ (x7_1:Int):=tD;have q374:x7_1 < (l0.length:Int):=tD;obtain ⟨ad374,e374,hx374_0⟩:=Kd.at_string HR0.out x7_1 p374 q374;cases e374;replace p374:=eq_true p374;replace q374:=eq_true q374;have p375:0 ≤ (x7_1:Int):=tD;have q375:x7_1 < (l0.length:Int):=tD;obtain ⟨ad375,e375,hx375_0⟩:=Kd.at_string HR0.out x7_1 p375 q375;obtain rfl:ad374=ad375:=(by injection e375);replace p375:=eq_true p375;replace q375:=eq_true q375;go_wp2_with (first|(go_at_call 127;(with_reducible refine (slices_isNaN_string.calls (rdOf ByteArray.empty l0 x7_1) true _ A13.out).mono ?_);rintro e w' ⟨rfl,⟨nd,rfl⟩⟩)|(go_at_call 127;(with_reducible refine (slices_isNaN_string.calls a1 t377 _ A15.out).mono ?_);rintro e w' ⟨rfl,⟨nd,rfl⟩⟩));go_ret2;exact ⟨by first|rfl|(simp;done)|(simp [*];done),tR⟩
        ·replace c14:=Bool.eq_false_iff.mpr c14;subst c14;replace H:=iF H;simp only [Option.some.injEq,Prod.mk.injEq] at H;obtain ⟨rfl,rfl⟩:=H;have p374:0 ≤ (x7_1:Int):=tD;have q374:x7_1 < (l0.length:Int):=tD;obtain ⟨ad374,e374,hx374_0⟩:=Kd.at_string HR0.out x7_1 p374 q374;cases e374;replace p374:=eq_true p374;replace q374:=eq_true q374;have p375:0 ≤ (x7_1:Int):=tD;have q375:x7_1 < (l0.length:Int):=tD;obtain ⟨ad375,e375,hx375_0⟩:=Kd.at_string HR0.out x7_1 p375 q375;obtain rfl:ad374=ad375:=(by injection e375);replace p375:=eq_true p375;replace q375:=eq_true q375;go_wp2_with (first|(go_at_call 127;(with_reducible refine (slices_isNaN_string.calls (rdOf ByteArray.empty l0 x7_1) false _ A13.out).mono ?_);rintro e w' ⟨rfl,⟨nd,rfl⟩⟩));go_ret2;exact ⟨by first|rfl|(simp;done)|(simp [*];done),tR⟩
      ·rw [if_neg c11] at H;exact absurd H (by simp)
     ·rw [if_neg c10] at H;exact absurd H (by simp)
    ·rw [if_neg c9] at H;have c9b0:=dFa c9;clear c9;simp only [Option.some.injEq,Prod.mk.injEq] at H;obtain ⟨rfl,rfl⟩:=H;go_wp2;go_ret2;exact ⟨by first|rfl|(simp;done)|(simp [*];done),tR⟩
def eval_in.f (k:Nat) (l0:List ByteArray) (a1:ByteArray):Option (Bool):=(slices_BinarySearch_string.f k l0 a1).bind fun bt378=>(some bt378.2)
set_option maxHeartbeats 8000000 in
set_option maxRecDepth 100000 in
theorem eval_in.calls (k:Nat) (A0:Option Addr) (c0:Nat) (l0:List ByteArray) (a1:ByteArray) (r:Bool) (w:World) (hr0:Kd.C Kd.string w A0 l0.length l0) (hc0:l0.length ≤ c0) (h:eval_in.f k l0 a1=some r) :
  Calls Try.prog 108 #[.slice A0 l0.length c0,.string a1] w fun e w'=>e = .returned (.bool r)∧Drawn0 w w':=by
 have HR0:=Sd.mk hr0;have HC0:=Sd.mk hc0;clear hr0 hc0;have H:=h;clear h;unfold eval_in.f at H;obtain ⟨⟨t378,t379⟩,A3,H⟩:=oB H;(try dsimp only at H);obtain rfl:=sI H;go_enter Try.func108,Try.ntmps108;go_wp2_with (first|((with_reducible refine gate_callee (f:=87) rfl ?_);refine gL Try.func87 (some 10) #[.slice A0 l0.length c0,.string a1] ?_;(with_reducible refine (slices_BinarySearch_string.calls k _ _ l0 a1 t378 t379 _ (sD HR0) HC0.out A3.out).mono ?_);rintro e w' ⟨rfl,⟨nd,rfl⟩⟩;refine ⟨_,rfl,?_⟩));go_ret;exact ⟨by first|rfl|(simp;done)|(simp [*];done),tR⟩
end Go.Proofs.Ytjbjbeihkoeciaa.X
namespace Go.Proofs.Ytjbjbeihkoeciaa.X
open Go.RowKit Go.Proofs.YtjbjbeihkoeciaaW.PrintWords Go.Proofs.YtjbjbeihkoeciaaW.PrintLast Go.Proofs.YtjbjbeihkoeciaaW.PrintMore
abbrev Ce:=S135
def keyB (s:ByteArray):Bool:=!decide (s.toList=([]:List UInt8)) && decide ((s.size:Int) ≤ 32)
def allFrom (p:Nat → Bool):Nat → Nat → Bool
 | _,0=>true
 | pos,m + 1=>p pos && allFrom p (pos + 1) m
theorem allFrom_step (p:Nat → Bool) (n pos:Nat) (h:pos < n):allFrom p pos (n - pos)=(p pos && allFrom p (pos + 1) (n - (pos + 1))):=by
 obtain ⟨m,hm⟩:∃ m,n - pos=m + 1:=⟨n - pos - 1,by omega⟩;rw [hm,allFrom,show n - (pos + 1)=m by omega]
theorem allFrom_stop (p:Nat → Bool) (n:Nat):allFrom p n (n - n)=true:=by rw [Nat.sub_self];rfl
theorem allFrom_iff (p:Nat → Bool):∀ m pos,allFrom p pos m=true ↔ ∀ j,pos ≤ j → j < pos + m → p j=true
 | 0,pos=>by simp [allFrom];omega
 | m + 1,pos=>by
  rw [allFrom,Bool.and_eq_true,allFrom_iff p m (pos + 1)];constructor
  ·rintro ⟨h1,h2⟩ j h3 h4;rcases Nat.lt_or_ge pos j with h|h
   ·exact h2 j (by omega) (by omega)
   ·(obtain rfl:j=pos:=by omega);exact h1
  ·intro h;exact ⟨h pos (by omega) (by omega),fun j h3 h4=>h j (by omega) (by omega)⟩
def setAt (l:List ByteArray) (pos:Nat):Bool:=keyB (l.getD pos ByteArray.empty) && (decide (pos=0) || blt (l.getD (pos - 1) ByteArray.empty) (l.getD pos ByteArray.empty))
def setB (l:List ByteArray):Bool:=allFrom (setAt l) 0 l.length && decide (l.length ≤ 4000)
def cntAt (l:List Ce) (pos:Nat):Bool :=
 keyB (l.getD pos z135).f0 && ((decide (pos=0) || blt (l.getD (pos - 1) z135).f0 (l.getD pos z135).f0) && ((l.getD pos z135).f1 != 0 && (decide ((l.getD pos z135).f1 ≤ 1048576) && decide (-1048576 ≤ (l.getD pos z135).f1))))
def cntB (l:List Ce):Bool:=allFrom (cntAt l) 0 l.length && decide (l.length ≤ 4000)
def mayS (ns nc:Nat) (ss:List (List ByteArray)) (cs:List (List Ce)):Bool:=decide (ss.length=ns) && (decide (cs.length=nc) && (ss.all setB && cs.all cntB))
theorem right_f (s:ByteArray):eval_right.f s=some (keyB s):=by
 unfold eval_right.f keyB;by_cases h:s.toList=([]:List UInt8)
 ·rw [if_pos h,decide_eq_true h];rfl
 ·rw [if_neg h,decide_eq_false h];rfl
theorem right_quiet (s:ByteArray) (w:World):Calls Try.prog 55 #[.string s] w fun e w'=>e = .returned (.bool (keyB s))∧∃ m,w' = w.drewN m :=
 (eval_right.calls s (keyB s) w (right_f s)).mono fun e w' ⟨he,m,hm⟩=>⟨he,m,hm⟩
def inB (l:List ByteArray) (key:ByteArray):Bool:=l.any fun x=>decide (x.toList=key.toList)
theorem inB_iff (l:List ByteArray) (key:ByteArray):inB l key=true ↔ key ∈ l:=by
 unfold inB;rw [List.any_eq_true];constructor
 ·rintro ⟨x,hx,h⟩;have e:x=key:=bytes_eq (of_decide_eq_true h);exact e ▸ hx
 ·intro h;exact ⟨key,h,decide_eq_true rfl⟩
theorem inB_no {l:List ByteArray} {key:ByteArray} (h:¬ key ∈ l):inB l key=false:=by
 cases hb:inB l key
 ·rfl
 ·exact absurd ((inB_iff l key).1 hb) h
theorem mid_eq (i j:Nat) (h:i + j ≤ 9000000000):wrap64 ((IntKind.u64.wrap (wrap64 ((i:Int) + (j:Int)))) / 2)=(((i + j) / 2:Nat):Int):=by
 (have h1:wrap64 ((i:Int) + (j:Int))=((i + j:Nat):Int):=by unfold wrap64;omega);have h2:IntKind.u64.wrap ((i + j:Nat):Int)=((i + j:Nat):Int):=by
  simp [IntKind.wrap,IntKind.bits,IntKind.signed];omega
 rw [h1,h2];unfold wrap64;omega
theorem less_f (a b:ByteArray):cmp_Less_string.f a b=some (blt a b):=by
 unfold cmp_Less_string.f cmp_isNaN_string.f blt;simp
theorem ordK_in {l:List ByteArray} {key:ByteArray} (ho:OrdK l) (m:Nat) (hm:m < l.length) (h:l[m]=key):posK l key=m :=
 posK_of l key m (by omega) (fun k hk hkm=>by rw [← h];exact ordK_get ho k m hkm hm) (fun _=>by rw [h];exact blt_irrefl key)
set_option maxHeartbeats 1000000 in
theorem bs_loop (l:List ByteArray) (key:ByteArray) (hn:l.length ≤ 4000000000) (ho:OrdK l):∀ (m i j:Nat),j - i ≤ m → i ≤ j → (hj:j ≤ l.length) → (∀ k (hk:k < l.length),k < i → blt l[k] key=true) → (∀ k (hk:k < l.length),j ≤ k → blt l[k] key=false) →
  Ev (fun k=>slices_BinarySearch_string.l0 k l key (l.length:Int) (i:Int) (j:Int)) ((posK l key:Int),inB l key):=by
 intro m;induction m with
 | zero =>
  intro i j h1 h2 hj ha hb;(obtain rfl:i=j:=by omega);have hp:posK l key=i:=posK_of l key i hj ha (fun hk=>hb i hk (Nat.le_refl _));rw [hp];refine Ev.succ ?_;simp only [slices_BinarySearch_string.l0,rdOf_at];refine Ev.no (by omega) ?_;by_cases hi:i < l.length
  ·(have hg:l.getD i ByteArray.empty=l[i]:=by simp [List.getD,hi]);rw [hg];refine Ev.yes (by omega) (Ev.yes (by omega) (Ev.yes (by omega) ?_));by_cases he:l[i]=key
   ·refine Ev.yes (by rw [he]) (Ev.is ?_);have:inB l key=true:=(inB_iff l key).2 (by rw [← he];exact List.getElem_mem hi);rw [this]
   ·refine Ev.no (fun h=>he (bytes_eq h)) (Ev.bind1 rfl (Ev.no (by simp) (Ev.is ?_)));have:inB l key=false:=inB_no (fun hm=>by
     obtain ⟨k,hk,hke⟩:=List.mem_iff_getElem.1 hm
     have:=ordK_in ho k hk hke
     rw [hp] at this
     subst this
     exact he hke)
    rw [this]
  ·refine Ev.no (by omega) (Ev.is ?_);have:inB l key=false:=inB_no (fun hm=>by
    obtain ⟨k,hk,hke⟩:=List.mem_iff_getElem.1 hm
    have:=ordK_in ho k hk hke
    omega)
   rw [this]
 | succ m ih =>
  intro i j h1 h2 hj ha hb;by_cases hij:i < j
  ·refine Ev.succ ?_;simp only [slices_BinarySearch_string.l0];rw [mid_eq i j (by omega)];(have hh:(i + j) / 2 < l.length:=by omega);rw [rdOf_at];refine Ev.yes (by omega) (Ev.yes (by omega) (Ev.yes (by omega) (Ev.bind1 (less_f _ _) ?_)));(have hg:l.getD ((i + j) / 2) ByteArray.empty=l[(i + j) / 2]:=by simp [List.getD,hh]);rw [hg];cases hlt:blt l[(i + j) / 2] key
   ·refine Ev.no (by decide) (ih i ((i + j) / 2) (by omega) (by omega) (by omega) ha (fun k hk hmk=>?_));rcases Nat.lt_or_ge ((i + j) / 2) k with h|h
    ·cases hk2:blt l[k] key
     ·rfl
     ·have h3:=blt_trans (ordK_get ho _ k h hk) hk2;rw [hlt] at h3;cases h3
    ·(obtain rfl:k=(i + j) / 2:=by omega);exact hlt
   ·rw [wrap_up _ (by omega)];refine Ev.yes rfl (ih ((i + j) / 2 + 1) j (by omega) (by omega) hj (fun k hk hmk=>?_) hb);rcases Nat.lt_or_ge k ((i + j) / 2) with h|h
    ·exact blt_trans (ordK_get ho k _ h hh) hlt
    ·(obtain rfl:k=(i + j) / 2:=by omega);exact hlt
  ·(obtain rfl:i=j:=by omega);exact ih i i (by omega) (by omega) hj ha hb
theorem bs_ev (l:List ByteArray) (key:ByteArray) (hn:l.length ≤ 4000000000) (ho:OrdK l):Ev (fun k=>slices_BinarySearch_string.f k l key) ((posK l key:Int),inB l key) :=
 bs_loop l key hn ho l.length 0 l.length (by omega) (by omega) (Nat.le_refl _) (fun k hk h=>absurd h (by omega)) (fun k hk h=>absurd h (by omega))
theorem in_ev (l:List ByteArray) (key:ByteArray) (hn:l.length ≤ 4000000000) (ho:OrdK l):Ev (fun k=>eval_in.f k l key) (inB l key):=by
 unfold eval_in.f;exact Ev.bind (bs_ev l key hn ho) (Ev.now _)
theorem in_quiet (A:Option Addr) (c:Nat) (l:List ByteArray) (key:ByteArray) (w:World) (hr:Kd.C Kd.string w A l.length l) (hc:l.length ≤ c) (hn:l.length ≤ 4000000000) (ho:OrdK l) :
  Calls Try.prog 108 #[.slice A l.length c,.string key] w fun e w'=>e = .returned (.bool (inB l key))∧∃ m,w' = w.drewN m:=by
 obtain ⟨k,hk⟩:=Ev.rounds (g:=fun k=>eval_in.f k l key) (in_ev l key hn ho);exact (eval_in.calls k A c l key (inB l key) w hr hc hk).mono fun e w' ⟨he,m,hm⟩=>⟨he,m,hm⟩
theorem setB_ord {l:List ByteArray} (h:setB l=true):OrdK l:=by
 unfold setB at h;rw [Bool.and_eq_true,allFrom_iff] at h;have hs:∀ j (hj:j + 1 < l.length),blt (l[j]'(by omega)) l[j + 1]=true:=fun j hj=>by
  have:=h.1 (j + 1) (by omega) (by omega);unfold setAt at this;rw [Bool.and_eq_true,Bool.or_eq_true] at this;have h2:=this.2.resolve_left (by simp);simp only [Nat.add_sub_cancel] at h2;(have e1:l.getD j ByteArray.empty=l[j]'(by omega):=by simp [List.getD,show j < l.length by omega]);(have e2:l.getD (j + 1) ByteArray.empty=l[j + 1]:=by simp [List.getD,hj]);rwa [e1,e2] at h2
 unfold OrdK;rw [List.pairwise_iff_getElem];intro i j hi hj hij;obtain ⟨d,rfl⟩:∃ d,j=i + 1 + d:=⟨j - i - 1,by omega⟩;clear hij;induction d with
 | zero=>exact hs i hj
 | succ d ih=>exact blt_trans (ih (by omega)) (hs (i + 1 + d) hj)
theorem cntB_eq (l:List Ce) (n:Nat) (h:l.length=n):cntB l=(allFrom (cntAt l) 0 n && decide (n ≤ 4000)):=by subst h;rfl
set_option maxHeartbeats 8000000 in
set_option maxRecDepth 100000 in
theorem count_call (A:Option Addr) (c:Nat) (l:List Ce) (w:World) (hr:Kd.C k135 w A l.length l) (hc:l.length ≤ c) (hn:l.length ≤ 4000000000) :
  Calls Try.prog 100 #[.slice A l.length c] w fun e w'=>e = .returned (.bool (cntB l))∧Below w.heap.size w w':=by
 have hB:=cntB_eq l l.length rfl;generalize l.length=n at *;generalize hR:cntB l=R at *;have HB0:=Sd.mk hB;have HR:=Sd.mk hr;clear hr hB hR;go_enter Try.func100,Try.ntmps100;go_wp2_with fail;go_loopw [7] (fun v7 wr=>∃ pos:Nat,v7 = .int .i64 (pos:Int)∧pos ≤ n∧Sd (allFrom (cntAt l) pos (n - pos)=allFrom (cntAt l) 0 n)∧Sd (Below w.heap.size w wr)) (fun v7 _=>((n:Int) - intV v7).toNat)
 case atStart=>exact ⟨0,rfl,Nat.zero_le _,⟨rfl⟩,⟨Below.refl _ _⟩⟩
 case round =>
  obtain ⟨pos,rfl,hpos,HE,HBr⟩:=hrel;by_cases hlt:pos < n
  ·(have hlt':decide ((pos:Int) < (n:Int))=true:=by simp;omega);(have p:0 ≤ (pos:Int):=by omega);(have q:(pos:Int) < (n:Int):=by omega);have HST:Sd ((cntAt l pos && allFrom (cntAt l) (pos + 1) (n - (pos + 1)))=allFrom (cntAt l) 0 n):=⟨by rw [← allFrom_step _ _ _ hlt];exact HE.out⟩;have HPREV:Sd (0 < pos → ∃ ad,A=some ad∧w.cell? (ad.add ((pos - 1) * 2))=some (.string (l.getD (pos - 1) z135).f0)):=⟨fun h0=>by
    obtain ⟨ad,e0,h1,_⟩:=at_T135 HR.out ((pos - 1:Nat):Int) (by omega) (by omega)
    refine ⟨ad,e0,?_⟩
    simpa [rd_T135] using h1⟩
   have HCA:Sd (cntAt l pos=(keyB (rd_T135 l (pos:Int)).f0 && ((decide (pos=0) || blt (l.getD (pos - 1) z135).f0 (rd_T135 l (pos:Int)).f0) && ((rd_T135 l (pos:Int)).f1 != 0 && (decide ((rd_T135 l (pos:Int)).f1 ≤ 1048576) && decide (-1048576 ≤ (rd_T135 l (pos:Int)).f1)))))):=⟨by unfold cntAt;simp only [rd_T135,Int.toNat_natCast];rfl⟩;obtain ⟨ad,e0,hx0,hx1⟩:=at_T135 (Kd.C_below HR.out HBr.out) (pos:Int) p q;cases e0;simp only [Int.toNat_natCast] at hx0 hx1;generalize rd_T135 l (pos:Int)=x at *;generalize cntAt l pos=ca at *;replace p:=eq_true p;replace q:=eq_true q;go_upto_region 4 with (((with_reducible refine gate_dst (N:=4) rfl ?_);refine box_event ?hg (N:=4) ?hd (cs:=#[.string ⟨#[]⟩,.int .i64 0]) (t:=135) ?hr ?_;(case hd=>rfl);(case hg=>rfl);(case hr=>first|(go_simp;done)|(go_simp;rfl));intro g1 hg1 w6 hbox1 hb1;have hcz0:w6.cell? ⟨g1,0,none⟩=some (.string ⟨#[]⟩):=(blk_cell hbox1 0).trans rfl;have hcz1:w6.cell? ⟨g1,1,none⟩=some (.int .i64 0):=(blk_cell hbox1 1).trans rfl;have hfz0:=blk_frozen hbox1 0;have hfz1:=blk_frozen hbox1 1;have HB1:=Sd.mk hb1;have BK1:=Sd.mk hbox1;have HG1:=Sd.mk hg1;clear hb1 hbox1 hg1));(have hgw:w.heap.size ≤ g1:=by rw [HG1.out];exact below_size HBr.out);have HB7:=Sd.mk (below_set (j:=1) (v:=.int .i64 x.f1) (below_set (j:=0) (v:=.string x.f0) (below_step HBr.out HB1.out) hgw) hgw);have HK7:Sd (((w6.setCell ⟨g1,0,none⟩ (.string x.f0)).setCell ⟨g1,1,none⟩ (.int .i64 x.f1)).heap[g1]? = some (.cells #[.string x.f0,.int .i64 x.f1] 135 (0,0))):=⟨by
    refine blk_put (cs:=#[.string x.f0,.int .i64 0]) ?_ 1 _ rfl
    exact blk_put BK1.out 0 _ rfl⟩
   generalize ((w6.setCell ⟨g1,0,none⟩ (.string x.f0)).setCell ⟨g1,1,none⟩ (.int .i64 x.f1))=w7 at *;clear hcz0 hcz1 hfz0 hfz1 hx0 hx1;obtain ⟨hd0,hd1⟩:=bc2 HK7.out;cases hk:keyB x.f0 with
   | false =>
    have HQ:Sd (R=false):=⟨by rw [HB0.out,← HST.out,HCA.out,hk];rfl⟩;have HRT:=Sd.mk (right_quiet x.f0);rw [hk] at HRT;clear hk HB0 HST HCA;go_quiet (first|(go_at_call 55;refine Calls.quiet_of (HRT.out _)));go_wp2_with fail;go_ret;exact ⟨by rw [HQ.out];rfl,pw_below_drewN HB7.out _⟩
   | true =>
    have HRT:=Sd.mk (right_quiet x.f0);rw [hk] at HRT HCA;clear hk;by_cases h0:pos=0
    ·have HC2:Sd (ca=(x.f1 != 0 && (decide (x.f1 ≤ 1048576) && decide (-1048576 ≤ x.f1)))):=⟨by rw [HCA.out,h0];simp⟩;clear HCA HPREV;have g0:decide (0 < pos)=false:=decide_eq_false (by omega);have g0':(0 < pos)=False:=eq_false (by omega);have HC3:=HC2;clear HC2 h0;by_cases hz:x.f1=0
     ·have z0:(x.f1 == 0)=true:=beq_iff_eq.mpr hz;have z1:(x.f1 != 0)=false:=bne_eq_false_iff_eq.mpr hz;have HQ:Sd (R=false):=⟨by rw [HB0.out,← HST.out,HC3.out];simp [hz]⟩;clear HB0 HST HC3;go_quiet (first|(go_at_call 55;refine Calls.quiet_of (HRT.out _)));go_wp2_with fail;go_ret;exact ⟨by rw [HQ.out];rfl,pw_below_drewN HB7.out _⟩
     have z0:(x.f1 == 0)=false:=beq_eq_false_iff_ne.mpr hz;have z1:(x.f1 != 0)=true:=bne_iff_ne.mpr hz;have HNZ:=Sd.mk hz;clear hz;by_cases hz:1048576 < x.f1
     ·have z2:decide (1048576 < x.f1)=true:=decide_eq_true hz;(have hz':¬ x.f1 ≤ 1048576:=by omega);have HQ:Sd (R=false):=⟨by rw [HB0.out,← HST.out,HC3.out];rw [decide_eq_false hz'];simp⟩;clear HB0 HST HC3;go_quiet (first|(go_at_call 55;refine Calls.quiet_of (HRT.out _)));go_wp2_with fail;go_ret;exact ⟨by rw [HQ.out];rfl,pw_below_drewN HB7.out _⟩
     have z2:decide (1048576 < x.f1)=false:=decide_eq_false hz;have HN1:=Sd.mk hz;clear hz;by_cases hz:x.f1 < -1048576
     ·have z3:decide (x.f1 < -1048576)=true:=decide_eq_true hz;(have hz':¬ -1048576 ≤ x.f1:=by omega);have HQ:Sd (R=false):=⟨by rw [HB0.out,← HST.out,HC3.out];rw [decide_eq_false hz'];simp⟩;clear HB0 HST HC3;go_quiet (first|(go_at_call 55;refine Calls.quiet_of (HRT.out _)));go_wp2_with fail;go_ret;exact ⟨by rw [HQ.out];rfl,pw_below_drewN HB7.out _⟩
     have z3:decide (x.f1 < -1048576)=false:=decide_eq_false hz;have HQ:Sd (ca=true):=⟨by rw [HC3.out,z1,decide_eq_true (show x.f1 ≤ 1048576 by have:=HN1.out;omega),decide_eq_true (show -1048576 ≤ x.f1 by omega)];rfl⟩;clear HC3 hz;go_quiet (first|(go_at_call 55;refine Calls.quiet_of (HRT.out _)));go_wp2_with fail;go_roundw
     case measure=>simp [intV];omega
     case rel=>exact ⟨pos + 1,by simp,by omega,⟨by rw [← HST.out,HQ.out];rfl⟩,⟨pw_below_drewN HB7.out _⟩⟩
    ·have HC2:Sd (ca=(blt (l.getD (pos - 1) z135).f0 x.f0 && (x.f1 != 0 && (decide (x.f1 ≤ 1048576) && decide (-1048576 ≤ x.f1))))):=⟨by rw [HCA.out,decide_eq_false h0];simp⟩;obtain ⟨ad2,e2,hy⟩:=HPREV.out (by omega);(obtain rfl:ad=ad2:=by simpa using e2);have hy0:=(HB7.out.cell (World.block_lt_of_cell? w _ hy)).trans hy;have g0:decide (0 < pos)=true:=decide_eq_true (by omega);have g0':(0 < pos)=True:=eq_true (by omega);(have gw:IntKind.i64.wrap ((pos:Int) - 1)=((pos - 1:Nat):Int):=by rw [i64_w];unfold wrap64;omega);have gq:(((pos - 1:Nat):Int) < (n:Int))=True:=eq_true (by omega);clear HCA HPREV hy e2;generalize l.getD (pos - 1) z135=y at *;generalize pos - 1=k at *;cases hb:blt y.f0 x.f0 with
     | false =>
      have HQ:Sd (R=false):=⟨by rw [HB0.out,← HST.out,HC2.out,hb];rfl⟩;have hb1:Op.bytesLess y.f0.toList x.f0.toList=false:=hb;clear hb HB0 HST HC2;go_quiet (first|(go_at_call 55;refine Calls.quiet_of (HRT.out _)));go_wp2_with fail;go_ret;exact ⟨by rw [HQ.out];rfl,pw_below_drewN HB7.out _⟩
     | true =>
      have hb1:Op.bytesLess y.f0.toList x.f0.toList=true:=hb;have HC3:Sd (ca=(x.f1 != 0 && (decide (x.f1 ≤ 1048576) && decide (-1048576 ≤ x.f1)))):=⟨by rw [HC2.out,hb];rfl⟩;clear HC2 hb h0;by_cases hz:x.f1=0
      ·have z0:(x.f1 == 0)=true:=beq_iff_eq.mpr hz;have z1:(x.f1 != 0)=false:=bne_eq_false_iff_eq.mpr hz;have HQ:Sd (R=false):=⟨by rw [HB0.out,← HST.out,HC3.out];simp [hz]⟩;clear HB0 HST HC3;go_quiet (first|(go_at_call 55;refine Calls.quiet_of (HRT.out _)));go_wp2_with fail;go_ret;exact ⟨by rw [HQ.out];rfl,pw_below_drewN HB7.out _⟩
      have z0:(x.f1 == 0)=false:=beq_eq_false_iff_ne.mpr hz;have z1:(x.f1 != 0)=true:=bne_iff_ne.mpr hz;have HNZ:=Sd.mk hz;clear hz;by_cases hz:1048576 < x.f1
      ·have z2:decide (1048576 < x.f1)=true:=decide_eq_true hz;(have hz':¬ x.f1 ≤ 1048576:=by omega);have HQ:Sd (R=false):=⟨by rw [HB0.out,← HST.out,HC3.out];rw [decide_eq_false hz'];simp⟩;clear HB0 HST HC3;go_quiet (first|(go_at_call 55;refine Calls.quiet_of (HRT.out _)));go_wp2_with fail;go_ret;exact ⟨by rw [HQ.out];rfl,pw_below_drewN HB7.out _⟩
      have z2:decide (1048576 < x.f1)=false:=decide_eq_false hz;have HN1:=Sd.mk hz;clear hz;by_cases hz:x.f1 < -1048576
      ·have z3:decide (x.f1 < -1048576)=true:=decide_eq_true hz;(have hz':¬ -1048576 ≤ x.f1:=by omega);have HQ:Sd (R=false):=⟨by rw [HB0.out,← HST.out,HC3.out];rw [decide_eq_false hz'];simp⟩;clear HB0 HST HC3;go_quiet (first|(go_at_call 55;refine Calls.quiet_of (HRT.out _)));go_wp2_with fail;go_ret;exact ⟨by rw [HQ.out];rfl,pw_below_drewN HB7.out _⟩
      have z3:decide (x.f1 < -1048576)=false:=decide_eq_false hz;have HQ:Sd (ca=true):=⟨by rw [HC3.out,z1,decide_eq_true (show x.f1 ≤ 1048576 by have:=HN1.out;omega),decide_eq_true (show -1048576 ≤ x.f1 by omega)];rfl⟩;clear HC3 hz;go_quiet (first|(go_at_call 55;refine Calls.quiet_of (HRT.out _)));go_wp2_with fail;go_roundw
      case measure=>simp [intV];omega
      case rel=>exact ⟨pos + 1,by simp,by omega,⟨by rw [← HST.out,HQ.out];rfl⟩,⟨pw_below_drewN HB7.out _⟩⟩
  ·(have hlt':decide ((pos:Int) < (n:Int))=false:=by simp;omega);(obtain rfl:n=pos:=by omega);have HQ:Sd (R=decide (n ≤ 4000)):=⟨by rw [HB0.out,← HE.out,allFrom_stop];rfl⟩;have HQ2:Sd (decide ((n:Int) ≤ 4000)=decide (n ≤ 4000)):=⟨by simp;omega⟩;clear HB0 HE;go_wp2_with fail;go_ret;exact ⟨by rw [HQ.out,← HQ2.out];rfl,HBr.out⟩
def EVStrs (w:World) (x:(List ByteArray)) (v:Value):Prop:=∃ (A1:Option Addr) (c1:Nat),v = .slice A1 x.length c1∧x.length ≤ c1∧Kd.string.C w A1 x.length x
theorem evStrs {w:World} {x:(List ByteArray)} {cs:List Value} (h:Kd.K (Kd.slice 9 Kd.string) w x cs):∃ (A1:Option Addr) (c1:Nat),cs = [.slice A1 x.length c1]∧EVStrs w x (.slice A1 x.length c1):=by
 obtain ⟨A1,c1,rfl,l1,g1⟩:=h;exact ⟨A1,c1,rfl,A1,c1,rfl,l1,g1⟩
set_option maxHeartbeats 4000000 in
set_option maxRecDepth 100000 in
theorem idxFStrs0 (F:FuncId) (hF:∀ (args:Array Value) (w:World),(callFunc F args).run Try.prog w = .ok (.enter F args) w) (p:(List ByteArray) → Bool) (A:Option Addr) (c:Nat) (l:List (List ByteArray)) (w:World) (hr:Kd.C (Kd.slice 9 Kd.string) w A l.length l) (hc:l.length ≤ c) (hn:l.length ≤ 4000000000)
  (hp:∀ x ∈ l,∀ v,EVStrs w x v → ∀ w',Below w.heap.size w w' → Calls Try.prog F #[v] w' fun e w''=>e = .returned (.bool (p x))∧Below w'.heap.size w' w'') :
  Calls Try.prog 133 #[.slice A l.length c,.func (.func F) #[] #[]] w fun e w'=>e = .returned (.int .i64 (idxF p l))∧Below w.heap.size w w':=by
 generalize hnl:l.length=n at *;have HNL:=Sd.mk hnl;have HR:=Sd.mk hr;have HP:=Sd.mk hp;clear hr hp hnl;go_enter Try.func133,Try.ntmps133;go_wp2_with fail;go_loopw [8] (fun v8 w'=>∃ i:Nat,v8 = .int .i64 (i:Int)∧i ≤ n∧Sd (∀ j,j < i → ∀ x,l[j]? = some x → p x=false)∧Sd (Below w.heap.size w w')) (fun v8 _=>((n:Int) - intV v8).toNat)
 case atStart=>exact ⟨0,rfl,Nat.zero_le _,⟨fun j hj=>absurd hj (by omega)⟩,⟨Below.refl _ _⟩⟩
 case round =>
  obtain ⟨i,rfl,hi,HA,HB⟩:=hrel;by_cases hlt:i < n
  ·(have hlt':decide ((i:Int) < (n:Int))=true:=by simp;omega);(have p0:0 ≤ (i:Int):=by omega);(have q0:(i:Int) < (n:Int):=by omega);obtain ⟨ad,cs,e0,_,hK,hc0⟩:=Kd.C_get HR.out ([]:List ByteArray) (i:Int) p0 q0;cases e0;(have hget:l[i]? = some (l.getD i ([]:List ByteArray)):=by rw [List.getD_eq_getElem?_getD,List.getElem?_eq_getElem (by rw [HNL.out];exact hlt)];rfl);simp only [Int.toNat_natCast] at hK hc0;generalize hx:l.getD i ([]:List ByteArray)=x at *;have HX:=Sd.mk hget;have HM:Sd (x ∈ l):=⟨List.mem_of_getElem? hget⟩;clear hx hget;have hc1:∀ j u,cs[j]? = some u → w.cell? (ad.add (i * 1 + j))=some u:=hc0;have hEV:=evStrs hK;obtain ⟨A1,c1,rfl,hev⟩:=hEV;(have hx0:w.cell? (ad.add i)=some (.slice A1 x.length c1):=by have h_:=hc1 0 _ rfl;simpa using h_);replace hx0:=(HB.out.cell (World.block_lt_of_cell? w _ hx0)).trans hx0;clear hc1 hc0 hK;have HEV:=Sd.mk hev;clear hev;replace p0:=eq_true p0;replace q0:=eq_true q0;cases hpx:p x with
   | true =>
    have HPX:=Sd.mk hpx;clear hpx;go_wp2_with fail;refine (HP.out x HM.out _ HEV.out _ HB.out).mono ?_;rintro e w1 ⟨rfl,hb⟩;have HB1:=Sd.mk (below_step HB.out hb);clear hb;have hpx:=HPX.out;go_wp2_with fail;go_ret;exact ⟨by rw [idxF_at p l i x HX.out HPX.out HA.out];rfl,HB1.out⟩
   | false =>
    have HPX:=Sd.mk hpx;clear hpx;go_wp2_with fail;refine (HP.out x HM.out _ HEV.out _ HB.out).mono ?_;rintro e w1 ⟨rfl,hb⟩;have HB1:=Sd.mk (below_step HB.out hb);clear hb;have hpx:=HPX.out;go_wp2_with fail;go_roundw
    case measure=>simp [intV];omega
    case rel =>
     refine ⟨i + 1,by simp,by omega,⟨fun j hj x' hx'=>?_⟩,HB1⟩;rcases Nat.lt_or_ge j i with h1|h1
     ·exact HA.out j h1 x' hx'
     ·(obtain rfl:j=i:=by omega);rw [HX.out] at hx';cases hx';exact HPX.out
  ·(have hlt':decide ((i:Int) < (n:Int))=false:=by simp;omega);go_wp2_with fail;go_ret;exact ⟨by rw [idxF_none p l (fun j x hx=>HA.out j (by have:=(List.getElem?_eq_some_iff.1 hx).1;have:=HNL.out;omega) x hx)];rfl,HB.out⟩
set_option maxHeartbeats 4000000 in
set_option maxRecDepth 100000 in
theorem hasFStrs0 (F:FuncId) (hF:∀ (args:Array Value) (w:World),(callFunc F args).run Try.prog w = .ok (.enter F args) w) (p:(List ByteArray) → Bool) (A:Option Addr) (c:Nat) (l:List (List ByteArray)) (w:World) (hr:Kd.C (Kd.slice 9 Kd.string) w A l.length l) (hc:l.length ≤ c) (hn:l.length ≤ 4000000000) (hp:∀ x ∈ l,∀ v,EVStrs w x v → ∀ w',Below w.heap.size w w' → Calls Try.prog F #[v] w' fun e w''=>e = .returned (.bool (p x))∧Below w'.heap.size w' w''):Calls Try.prog 95 #[.slice A l.length c,.func (.func F) #[] #[]] w fun e w'=>e = .returned (.bool (l.any p))∧Below w.heap.size w w':=by
 have HR:=Sd.mk hr;have HP:=Sd.mk hp;clear hr hp;go_enter Try.func95,Try.ntmps95;go_wp2_with fail;refine (idxFStrs0 F hF p A c l _ HR.out hc hn HP.out).mono ?_;rintro e w' ⟨rfl,hb⟩;go_wp2_with fail;go_ret;exact ⟨congrArg (fun b=>Ending.returned (.bool b)) (idxF_any p l),hb⟩
def EVCells (w:World) (x:(List S135)) (v:Value):Prop:=∃ (A1:Option Addr) (c1:Nat),v = .slice A1 x.length c1∧x.length ≤ c1∧k135.C w A1 x.length x
theorem evCells {w:World} {x:(List S135)} {cs:List Value} (h:Kd.K (Kd.slice 135 k135) w x cs):∃ (A1:Option Addr) (c1:Nat),cs = [.slice A1 x.length c1]∧EVCells w x (.slice A1 x.length c1):=by
 obtain ⟨A1,c1,rfl,l1,g1⟩:=h;exact ⟨A1,c1,rfl,A1,c1,rfl,l1,g1⟩
set_option maxHeartbeats 4000000 in
set_option maxRecDepth 100000 in
theorem idxFCells0 (F:FuncId) (hF:∀ (args:Array Value) (w:World),(callFunc F args).run Try.prog w = .ok (.enter F args) w) (p:(List S135) → Bool) (A:Option Addr) (c:Nat) (l:List (List S135)) (w:World) (hr:Kd.C (Kd.slice 135 k135) w A l.length l) (hc:l.length ≤ c) (hn:l.length ≤ 4000000000)
  (hp:∀ x ∈ l,∀ v,EVCells w x v → ∀ w',Below w.heap.size w w' → Calls Try.prog F #[v] w' fun e w''=>e = .returned (.bool (p x))∧Below w'.heap.size w' w'') :
  Calls Try.prog 134 #[.slice A l.length c,.func (.func F) #[] #[]] w fun e w'=>e = .returned (.int .i64 (idxF p l))∧Below w.heap.size w w':=by
 generalize hnl:l.length=n at *;have HNL:=Sd.mk hnl;have HR:=Sd.mk hr;have HP:=Sd.mk hp;clear hr hp hnl;go_enter Try.func134,Try.ntmps134;go_wp2_with fail;go_loopw [8] (fun v8 w'=>∃ i:Nat,v8 = .int .i64 (i:Int)∧i ≤ n∧Sd (∀ j,j < i → ∀ x,l[j]? = some x → p x=false)∧Sd (Below w.heap.size w w')) (fun v8 _=>((n:Int) - intV v8).toNat)
 case atStart=>exact ⟨0,rfl,Nat.zero_le _,⟨fun j hj=>absurd hj (by omega)⟩,⟨Below.refl _ _⟩⟩
 case round =>
  obtain ⟨i,rfl,hi,HA,HB⟩:=hrel;by_cases hlt:i < n
  ·(have hlt':decide ((i:Int) < (n:Int))=true:=by simp;omega);(have p0:0 ≤ (i:Int):=by omega);(have q0:(i:Int) < (n:Int):=by omega);obtain ⟨ad,cs,e0,_,hK,hc0⟩:=Kd.C_get HR.out ([]:List S135) (i:Int) p0 q0;cases e0;(have hget:l[i]? = some (l.getD i ([]:List S135)):=by rw [List.getD_eq_getElem?_getD,List.getElem?_eq_getElem (by rw [HNL.out];exact hlt)];rfl);simp only [Int.toNat_natCast] at hK hc0;generalize hx:l.getD i ([]:List S135)=x at *;have HX:=Sd.mk hget;have HM:Sd (x ∈ l):=⟨List.mem_of_getElem? hget⟩;clear hx hget;have hc1:∀ j u,cs[j]? = some u → w.cell? (ad.add (i * 1 + j))=some u:=hc0;have hEV:=evCells hK;obtain ⟨A1,c1,rfl,hev⟩:=hEV;(have hx0:w.cell? (ad.add i)=some (.slice A1 x.length c1):=by have h_:=hc1 0 _ rfl;simpa using h_);replace hx0:=(HB.out.cell (World.block_lt_of_cell? w _ hx0)).trans hx0;clear hc1 hc0 hK;have HEV:=Sd.mk hev;clear hev;replace p0:=eq_true p0;replace q0:=eq_true q0;cases hpx:p x with
   | true =>
    have HPX:=Sd.mk hpx;clear hpx;go_wp2_with fail;refine (HP.out x HM.out _ HEV.out _ HB.out).mono ?_;rintro e w1 ⟨rfl,hb⟩;have HB1:=Sd.mk (below_step HB.out hb);clear hb;have hpx:=HPX.out;go_wp2_with fail;go_ret;exact ⟨by rw [idxF_at p l i x HX.out HPX.out HA.out];rfl,HB1.out⟩
   | false =>
    have HPX:=Sd.mk hpx;clear hpx;go_wp2_with fail;refine (HP.out x HM.out _ HEV.out _ HB.out).mono ?_;rintro e w1 ⟨rfl,hb⟩;have HB1:=Sd.mk (below_step HB.out hb);clear hb;have hpx:=HPX.out;go_wp2_with fail;go_roundw
    case measure=>simp [intV];omega
    case rel =>
     refine ⟨i + 1,by simp,by omega,⟨fun j hj x' hx'=>?_⟩,HB1⟩;rcases Nat.lt_or_ge j i with h1|h1
     ·exact HA.out j h1 x' hx'
     ·(obtain rfl:j=i:=by omega);rw [HX.out] at hx';cases hx';exact HPX.out
  ·(have hlt':decide ((i:Int) < (n:Int))=false:=by simp;omega);go_wp2_with fail;go_ret;exact ⟨by rw [idxF_none p l (fun j x hx=>HA.out j (by have:=(List.getElem?_eq_some_iff.1 hx).1;have:=HNL.out;omega) x hx)];rfl,HB.out⟩
set_option maxHeartbeats 4000000 in
set_option maxRecDepth 100000 in
theorem hasFCells0 (F:FuncId) (hF:∀ (args:Array Value) (w:World),(callFunc F args).run Try.prog w = .ok (.enter F args) w) (p:(List S135) → Bool) (A:Option Addr) (c:Nat) (l:List (List S135)) (w:World) (hr:Kd.C (Kd.slice 135 k135) w A l.length l) (hc:l.length ≤ c) (hn:l.length ≤ 4000000000) (hp:∀ x ∈ l,∀ v,EVCells w x v → ∀ w',Below w.heap.size w w' → Calls Try.prog F #[v] w' fun e w''=>e = .returned (.bool (p x))∧Below w'.heap.size w' w''):Calls Try.prog 98 #[.slice A l.length c,.func (.func F) #[] #[]] w fun e w'=>e = .returned (.bool (l.any p))∧Below w.heap.size w w':=by
 have HR:=Sd.mk hr;have HP:=Sd.mk hp;clear hr hp;go_enter Try.func98,Try.ntmps98;go_wp2_with fail;refine (idxFCells0 F hF p A c l _ HR.out hc hn HP.out).mono ?_;rintro e w' ⟨rfl,hb⟩;go_wp2_with fail;go_ret;exact ⟨congrArg (fun b=>Ending.returned (.bool b)) (idxF_any p l),hb⟩
end Go.Proofs.Ytjbjbeihkoeciaa.X

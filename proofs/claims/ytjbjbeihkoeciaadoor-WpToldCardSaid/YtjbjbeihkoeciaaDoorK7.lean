/- Joined texts of this session, without what nothing needs: Xhucksterref16Unlike, Xhucksterref16floors, Xhucksterref16May, Laid, Itoa, Digits, Xhucksterref20name. -/
import Derived.Shelf.Strings.OnBuilder
import Derived.Shelf.LaysM
import Derived.Shelf.Strconv.Itoa3
import Derived.Test.YtjbjbeihkoeciaaDoorProg
import Derived.Lib.ItoaLen
import Derived.Test.YtjbjbeihkoeciaaDoorK1
import Derived.Test.YtjbjbeihkoeciaaDoorK2
import Derived.Test.YtjbjbeihkoeciaaDoorK5
import Derived.Test.YtjbjbeihkoeciaaDoorK6
namespace Go.Proofs.YtjbjbeihkoeciaaDoor.X
open Go.RowKit Go.Proofs.YtjbjbeihkoeciaaDoorW.PrintWords Go.Proofs.YtjbjbeihkoeciaaDoorW.PrintLast Go.Proofs.YtjbjbeihkoeciaaDoorW.PrintMore
attribute [local go_sem] max2_int min2_int max_two min_two max_three min_three max_four min_four
set_option linter.unusedVariables false
set_option linter.unusedSimpArgs false
def hucksterref16_Unlike.l0:Nat → List ByteArray → Int → Option (Bool)
 | 0,_,_=>none
 | k + 1,x0,x3=>if x3 < (x0.length:Int) then (if 0 ≤ x3 then ((hucksterref15_Name.f k (rdOf ByteArray.empty x0 x3)).bind fun t137=>(if t137=true then (if x3 ≤ (x0.length:Int) then ((hucksterref16_At.f k (x0.take (x3:Int).toNat) (rdOf ByteArray.empty x0 x3)).bind fun t140=>(if t140 ≥ 0 then (some false) else (hucksterref16_Unlike.l0 k x0 (wrap64 (x3 + 1))))) else (none)) else (some false))) else (none)) else (some true)
def hucksterref16_Unlike.f (k:Nat) (l0:List ByteArray):Option (Bool):=hucksterref16_Unlike.l0 k l0 0
def hucksterref16_Unlike.T4:Bool × List (List Nat × List Nat):=(true,[([],[]),([],[]),([0,1],[0,1]),([2],[2]),([3],[3]),([4],[4]),([5,4],[5]),([6],[6]),([6],[6]),([7,8,6],[6,7,8]),([6],[6]),([6],[6]),([10,11,6],[6,10,11]),([12,6],[6,12]),([9,13,6,6],[6,9,13]),([14,6],[6,14]),([6,15],[6,15])])
def hucksterref16_Unlike.B4:List Nat:=[0,0,3,7,15,31,63,127,127,511,127,127,3199,7295,16383,32767,65535]
theorem hucksterref16_Unlike.tab4:rtab .any (opsOf Tryd.f26 4)=hucksterref16_Unlike.T4:=by kernel_rfl
theorem hucksterref16_Unlike.bits4:waitsOk hucksterref16_Unlike.T4.2 hucksterref16_Unlike.B4=true:=by kernel_rfl
set_option maxHeartbeats 8000000 in
set_option maxRecDepth 100000 in
theorem hucksterref16_Unlike.calls (k:Nat) (A0:Option Addr) (c0:Nat) (l0:List ByteArray) (r:Bool) (w:World) (hr0:Kd.C Kd.string w A0 l0.length l0) (hc0:l0.length ≤ c0) (h:hucksterref16_Unlike.f k l0=some r) :
  Calls Tryd.prog 26 #[.slice A0 l0.length c0] w fun e w'=>e = .returned (.bool r)∧Below w.heap.size w w':=by
 have HR0:=Aside0.mk hr0;have HC0:=Aside0.mk hc0;clear hr0 hc0;have HB:=Aside0.mk (Below.refl w.heap.size w);have H:(hucksterref16_Unlike.l0 k l0 0)=some r:=h;clear h;have H':=Aside0.mk H;clear H;go_enter Tryd.func26,Tryd.ntmps26;go_wp2;go_loopg [3] k (fun kq v3 w'=>∃ (x3_1:Int),v3 = .int .i64 x3_1∧Aside0 (hucksterref16_Unlike.l0 kq l0 x3_1=some r)∧Aside0 (kq ≤ k)∧Aside0 (Below w.heap.size w w'))
 case atStart=>exact ⟨(0),(by first|rfl|(simp;done)|(simp [*];done)),H',⟨Nat.le_refl _⟩,⟨by repeat (first|(with_reducible first|exact HB.out|apply below_alloc|apply pw_below_drewN|apply below_drew1)|exact HB.out)⟩⟩
 case round =>
  clear H';obtain ⟨x3_1,rfl,HA,HK1,HB⟩:=hrel;cases gk with
  | zero=>exact absurd HA.out (by simp [hucksterref16_Unlike.l0])
  | succ k1 =>
   have H:=HA.out;clear HA;simp only [hucksterref16_Unlike.l0] at H;by_cases c2:x3_1 < (l0.length:Int)
   ·rw [if_pos c2] at H;have c2b0:decide (x3_1 < (l0.length:Int))=true:=decide_eq_true c2;clear c2;by_cases c3:0 ≤ x3_1
    ·rw [if_pos c3] at H;have c3b0:decide (0 ≤ x3_1)=true:=decide_eq_true c3;clear c3;replace H:=Option.bind_eq_some_iff.mp H;obtain ⟨t137,A40,H⟩:=H;replace H:(if t137=true then (if x3_1 ≤ (l0.length:Int) then ((hucksterref16_At.f k1 (l0.take (x3_1:Int).toNat) (rdOf ByteArray.empty l0 x3_1)).bind fun t140=>(if t140 ≥ 0 then (some false) else (hucksterref16_Unlike.l0 k1 l0 (wrap64 (x3_1 + 1))))) else (none)) else (some false))=some r:=H;have A4:=Aside0.mk A40;clear A40;by_cases c5:t137=true
     ·subst c5;(have H1:(if x3_1 ≤ (l0.length:Int) then ((hucksterref16_At.f k1 (l0.take (x3_1:Int).toNat) (rdOf ByteArray.empty l0 x3_1)).bind fun t140=>(if t140 ≥ 0 then (some false) else (hucksterref16_Unlike.l0 k1 l0 (wrap64 (x3_1 + 1))))) else (none))=some r:=by rw [if_pos rfl] at H;exact H);clear H;have H:=H1;clear H1;have c6b0:=eq_true (of_decide_eq_true (by first|(with_reducible assumption)|assumption):0 ≤ x3_1);by_cases c7:x3_1 ≤ (l0.length:Int)
      ·rw [if_pos c7] at H;have c7b0:=eq_true c7;have c7b1:decide (x3_1 ≤ (l0.length:Int))=true:=decide_eq_true c7;clear c7;replace H:=Option.bind_eq_some_iff.mp H;obtain ⟨t140,A80,H⟩:=H;replace H:(if t140 ≥ 0 then (some false) else (hucksterref16_Unlike.l0 k1 l0 (wrap64 (x3_1 + 1))))=some r:=H;have A8:=Aside0.mk A80;clear A80;by_cases c9:t140 ≥ 0
       ·rw [if_pos c9] at H;have c9b0:decide (0 ≤ t140)=true:=decide_eq_true c9;clear c9;obtain rfl:=Option.some.inj H;(try go_wp2);have n0_:=Aside0.mk (below_drew1 HB.out);clear HB;have HB:=n0_;clear n0_;have p136:0 ≤ (x3_1:Int):=of_decide_eq_true (by first|(with_reducible assumption)|assumption);have q136:x3_1 < (l0.length:Int):=of_decide_eq_true (by first|(with_reducible assumption)|assumption);obtain ⟨ad136,e136,hx136_0⟩:=Kd.at_string HR0.out x3_1 p136 q136;have hw136_0:=hx136_0;cases e136;replace hx136_0:=(HB.out.cell (World.block_lt_of_cell? w _ hx136_0)).trans hx136_0;replace p136:=eq_true p136;replace q136:=eq_true q136;have p139:0 ≤ (x3_1:Int):=of_decide_eq_true (by first|(with_reducible assumption)|assumption);have q139:x3_1 < (l0.length:Int):=of_decide_eq_true (by first|(with_reducible assumption)|assumption);obtain ⟨ad139,e139,hx139_0⟩:=Kd.at_string HR0.out x3_1 p139 q139;have hw139_0:=hx139_0;obtain rfl:ad136=ad139:=(by injection e139);replace hx139_0:=(HB.out.cell (World.block_lt_of_cell? w _ hx139_0)).trans hx139_0;replace p139:=eq_true p139;replace q139:=eq_true q139;refine start_ (n:=17) (S:=fun w'=>w'.cell? (ad136.add (x3_1).toNat)=some (.string (rdOf ByteArray.empty l0 x3_1))∧w'.cell? (ad136.add (x3_1).toNat)=some (.string (rdOf ByteArray.empty l0 x3_1))) (ds:=[]) (ab 17 0) (by kernel_rfl) rfl rfl ⟨((HB.out.cell (World.block_lt_of_cell? w _ hw136_0)).trans hw136_0),((HB.out.cell (World.block_lt_of_cell? w _ hw139_0)).trans hw139_0)⟩ (fun hHeld=>?_);refine with_tabW hucksterref16_Unlike.tab4 hucksterref16_Unlike.bits4 (fun HT_ HW_=>?_);generalize wr.drew=w10 at HB hx136_0 hx139_0 hHeld ⊢;refine pure_ (i:=0) (N:=some 10) (v:=?_) (a':=?_) (ab 17 1) rfl rfl (any_of HT_.out (by kernel_rfl)) (fun _ _ _ h=>h) (Or.inl ⟨by rfl,?_⟩) ?_ ?_;rotate_left
        ·intro w';go_simp;with_reducible rfl
        rotate_left
        ·simp only [Act.put,q1_,q2_,q3_,i64_w,i32_w];rfl
        refine pure_ (i:=1) (N:=some 11) (v:=?_) (a':=?_) (ab 17 3) rfl rfl (any_of HT_.out (by kernel_rfl)) (fun _ _ _ h=>h) (Or.inl ⟨by rfl,?_⟩) ?_ ?_;rotate_left
        ·intro w';go_simp;with_reducible rfl
        rotate_left
        ·simp only [Act.put,q1_,q2_,q3_,i64_w,i32_w];rfl
        refine pure_ (i:=2) (N:=some 12) (v:=?_) (a':=?_) (ab 17 7) rfl rfl (any_of HT_.out (by kernel_rfl)) (fun _ _ _ h=>h) (Or.inl ⟨by rfl,?_⟩) ?_ ?_;rotate_left
        ·intro w';go_simp;with_reducible rfl
        rotate_left
        ·simp only [Act.put,q1_,q2_,q3_,i64_w,i32_w];rfl
        refine take_ (i:=3) (N:=some 13) (v:=?_) (a':=?_) (ab 17 15) rfl rfl (take_ofW HT_.out HW_.out (by kernel_rfl)) (fun _ _ _ h=>h) (Or.inl ⟨by rfl,?_⟩) hHeld ?_ ?_;rotate_left
        ·rintro w' ⟨s0,s1⟩;go_simp;with_reducible rfl
        rotate_left
        ·simp only [Act.put,q1_,q2_,q3_,i64_w,i32_w];rfl
        refine one_ (i:=4) (N:=some 14) (ab 17 31) rfl rfl (one_of HT_.out (by kernel_rfl)) (by decide) (fun K hK=>?_);refine goes_ Tryd.func48 (by kernel_rfl) rfl #[.string (rdOf ByteArray.empty l0 x3_1)] (by rfl) rfl rfl (by (try simp only [List.map_toArray,List.map_cons,List.map_nil]);first|done|rfl|(simp only [List.length_drop,List.length_take];rfl)) ?_;(with_reducible refine (hucksterref15_Name.calls k1 (rdOf ByteArray.empty l0 x3_1) true _ A4.out).mono ?_);rintro e w11 ⟨rfl,hb⟩;refine ⟨_,rfl,?_⟩;have n0_:=Aside0.mk (below_step (by repeat (first|(with_reducible first|exact HB.out|apply below_alloc|apply pw_below_drewN|apply below_drew1)|exact HB.out)) hb);clear HB;have HB:=n0_;clear n0_;(try clear hb);(try clear hb2);(try clear hk);(try clear hi);obtain ⟨i012,hi012,_,hsz12,_⟩:=info_parts info9;obtain ⟨hcut12,hA12,hC12⟩:=print_take_of (P:=Tryd.prog) Value.string (⟨#[]⟩:ByteArray) 22 9 .i64 Tryd.underlying22 hi012 hsz12 (some ad136) c0 l0 x3_1 (of_decide_eq_true (by first|(with_reducible assumption)|assumption)) (of_decide_eq_true (by first|(with_reducible assumption)|assumption)) HC0.out;have HR138:=Aside0.mk (Kd.C_of_reads (h1:=fun _=>rfl) (hA12 _ (Kd.reads_of_C HR0.out)));have HC138:=Aside0.mk hC12;clear hA12 hC12 hi012 hsz12;refine hK.out _ _ ⟨((HB.out.cell (World.block_lt_of_cell? w _ hw136_0)).trans hw136_0),((HB.out.cell (World.block_lt_of_cell? w _ hw139_0)).trans hw139_0)⟩ (fun hHeld=>?_);clear hK K;refine norm_ (a':=?_) ?_ ?_;rotate_left
        ·show Act.put _ (some 14) _=_;simp only [Act.put,q1_,q2_,q3_,i64_w,i32_w];rfl
        refine pure_ (i:=5) (N:=some 15) (v:=?_) (a':=?_) (ab 17 63) rfl rfl (any_of HT_.out (by kernel_rfl)) (fun _ _ _ h=>h) (Or.inl ⟨by rfl,?_⟩) ?_ ?_;rotate_left
        ·intro w';go_simp;with_reducible rfl
        rotate_left
        ·simp only [Act.put,q1_,q2_,q3_,i64_w,i32_w];rfl
        refine pure_ (i:=6) (N:=some 16) (v:=?_) (a':=?_) (ab 17 127) rfl rfl (any_of HT_.out (by kernel_rfl)) (fun _ _ _ h=>h) (Or.inl ⟨by rfl,?_⟩) ?_ ?_;rotate_left
        ·intro w';go_simp;with_reducible rfl
        rotate_left
        ·simp only [Act.put,q1_,q2_,q3_,i64_w,i32_w];rfl
        refine pure_ (i:=7) (N:=some 17) (v:=?_) (a':=?_) (ab 17 255) rfl rfl (any_of HT_.out (by kernel_rfl)) (fun _ _ _ h=>h) (Or.inl ⟨by rfl,?_⟩) ?_ ?_;rotate_left
        ·intro w';go_simp;with_reducible rfl
        rotate_left
        ·simp only [Act.put,q1_,q2_,q3_,i64_w,i32_w];rfl
        refine pure_ (i:=8) (N:=some 18) (v:=?_) (a':=?_) (ab 17 511) rfl rfl (any_of HT_.out (by kernel_rfl)) (fun _ _ _ h=>h) (Or.inl ⟨by rfl,?_⟩) ?_ ?_;rotate_left
        ·intro w';go_simp;with_reducible rfl
        rotate_left
        ·simp only [Act.put,q1_,q2_,q3_,i64_w,i32_w];rfl
        refine pure_ (i:=9) (N:=some 19) (v:=?_) (a':=?_) (ab 17 1023) rfl rfl (any_of HT_.out (by kernel_rfl)) (fun _ _ _ h=>h) (Or.inl ⟨by rfl,?_⟩) ?_ ?_;rotate_left
        ·intro w';go_simp;with_reducible rfl
        rotate_left
        ·simp only [Act.put,q1_,q2_,q3_,i64_w,i32_w];rfl
        refine pure_ (i:=10) (N:=some 20) (v:=?_) (a':=?_) (ab 17 2047) rfl rfl (any_of HT_.out (by kernel_rfl)) (fun _ _ _ h=>h) (Or.inl ⟨by rfl,?_⟩) ?_ ?_;rotate_left
        ·intro w';go_simp;with_reducible rfl
        rotate_left
        ·simp only [Act.put,q1_,q2_,q3_,i64_w,i32_w];rfl
        refine pure_ (i:=11) (N:=some 21) (v:=?_) (a':=?_) (ab 17 4095) rfl rfl (any_of HT_.out (by kernel_rfl)) (fun _ _ _ h=>h) (Or.inl ⟨by rfl,?_⟩) ?_ ?_;rotate_left
        ·intro w';go_simp;with_reducible rfl
        rotate_left
        ·simp only [Act.put,q1_,q2_,q3_,i64_w,i32_w];rfl
        refine pure_ (i:=12) (N:=some 22) (v:=?_) (a':=?_) (ab 17 8191) rfl rfl (any_of HT_.out (by kernel_rfl)) (fun _ _ _ h=>h) (Or.inl ⟨by rfl,?_⟩) ?_ ?_;rotate_left
        ·intro w';go_simp;with_reducible rfl
        rotate_left
        ·simp only [Act.put,q1_,q2_,q3_,i64_w,i32_w];rfl
        refine take_ (i:=13) (N:=some 23) (v:=?_) (a':=?_) (ab 17 16383) rfl rfl (take_ofW HT_.out HW_.out (by kernel_rfl)) (fun _ _ _ h=>h) (Or.inl ⟨by rfl,?_⟩) hHeld ?_ ?_;rotate_left
        ·rintro w' ⟨s0,s1⟩;go_simp;with_reducible rfl
        rotate_left
        ·simp only [Act.put,q1_,q2_,q3_,i64_w,i32_w];rfl
        refine one_ (i:=14) (N:=some 24) (ab 17 32767) rfl rfl (one_of HT_.out (by kernel_rfl)) (by decide) (fun K hK=>?_);refine goes_ Tryd.func49 (by kernel_rfl) rfl #[.slice (some ad136) (l0.take (x3_1:Int).toNat).length c0,.string (rdOf ByteArray.empty l0 x3_1)] (by rfl) rfl rfl (by (try simp only [List.map_toArray,List.map_cons,List.map_nil]);first|done|(rw [show (l0.take (x3_1:Int).toNat).length=x3_1.toNat from (by rw [List.length_take];have h_:(x3_1:Int) ≤ (l0.length:Int):=of_decide_eq_true (by first|(with_reducible assumption)|assumption);omega)] <;> rfl)|rfl|(simp only [List.length_drop,List.length_take];rfl)) ?_;(with_reducible refine (hucksterref16_At.calls k1 _ _ (l0.take (x3_1:Int).toNat) (rdOf ByteArray.empty l0 x3_1) t140 _ ?side1 ?side2 A8.out).mono ?_);(case side1=>repeat (first|exact (Kd.C_below HR138.out HB.out)|(with_reducible refine Kd.C_alloc ?_ _)|(with_reducible refine Kd.C_drewN ?_ _)|(with_reducible refine Kd.C_drew ?_)));(case side2=>exact HC138.out);rintro e w' ⟨rfl,⟨nd,rfl⟩⟩;refine ⟨_,rfl,?_⟩;refine hK.out _ _ ⟨((HB.out.cell (World.block_lt_of_cell? w _ hw136_0)).trans hw136_0),((HB.out.cell (World.block_lt_of_cell? w _ hw139_0)).trans hw139_0)⟩ (fun hHeld=>?_);clear hK K;refine norm_ (a':=?_) ?_ ?_;rotate_left
        ·show Act.put _ (some 24) _=_;simp only [Act.put,q1_,q2_,q3_,i64_w,i32_w];rfl
        refine pure_ (i:=15) (N:=some 25) (v:=?_) (a':=?_) (ab 17 65535) rfl rfl (any_of HT_.out (by kernel_rfl)) (fun _ _ _ h=>h) (Or.inl ⟨by rfl,?_⟩) ?_ ?_;rotate_left
        ·intro w';go_simp;with_reducible rfl
        rotate_left
        ·simp only [Act.put,q1_,q2_,q3_,i64_w,i32_w];rfl
        refine pure_ (i:=16) (N:=some 26) (v:=?_) (a':=?_) (ab 17 131071) rfl rfl (any_of HT_.out (by kernel_rfl)) (fun _ _ _ h=>h) (Or.inl ⟨by rfl,?_⟩) ?_ ?_;rotate_left
        ·intro w';go_simp;with_reducible rfl
        rotate_left
        ·simp only [Act.put,q1_,q2_,q3_,i64_w,i32_w];rfl
        refine done_ (done_of HT_.out (by kernel_rfl)) ?_;(try go_wp2);go_ret;exact ⟨by first|rfl|(simp [errW_none,errW_some] <;> rfl)|(simp [*,errW_none,errW_some] <;> rfl),by repeat (first|(with_reducible first|exact HB.out|apply below_alloc|apply pw_below_drewN|apply below_drew1)|exact HB.out)⟩
       ·rw [if_neg c9] at H;have c9b0:decide (0 ≤ t140)=false:=decide_eq_false c9;clear c9;have H':=Aside0.mk H;clear H;(try go_wp2);have n0_:=Aside0.mk (below_drew1 HB.out);clear HB;have HB:=n0_;clear n0_;have p136:0 ≤ (x3_1:Int):=of_decide_eq_true (by first|(with_reducible assumption)|assumption);have q136:x3_1 < (l0.length:Int):=of_decide_eq_true (by first|(with_reducible assumption)|assumption);obtain ⟨ad136,e136,hx136_0⟩:=Kd.at_string HR0.out x3_1 p136 q136;have hw136_0:=hx136_0;cases e136;replace hx136_0:=(HB.out.cell (World.block_lt_of_cell? w _ hx136_0)).trans hx136_0;replace p136:=eq_true p136;replace q136:=eq_true q136;have p139:0 ≤ (x3_1:Int):=of_decide_eq_true (by first|(with_reducible assumption)|assumption);have q139:x3_1 < (l0.length:Int):=of_decide_eq_true (by first|(with_reducible assumption)|assumption);obtain ⟨ad139,e139,hx139_0⟩:=Kd.at_string HR0.out x3_1 p139 q139;have hw139_0:=hx139_0;obtain rfl:ad136=ad139:=(by injection e139);replace hx139_0:=(HB.out.cell (World.block_lt_of_cell? w _ hx139_0)).trans hx139_0;replace p139:=eq_true p139;replace q139:=eq_true q139;refine start_ (n:=17) (S:=fun w'=>w'.cell? (ad136.add (x3_1).toNat)=some (.string (rdOf ByteArray.empty l0 x3_1))∧w'.cell? (ad136.add (x3_1).toNat)=some (.string (rdOf ByteArray.empty l0 x3_1))) (ds:=[]) (ab 17 0) (by kernel_rfl) rfl rfl ⟨((HB.out.cell (World.block_lt_of_cell? w _ hw136_0)).trans hw136_0),((HB.out.cell (World.block_lt_of_cell? w _ hw139_0)).trans hw139_0)⟩ (fun hHeld=>?_);refine with_tabW hucksterref16_Unlike.tab4 hucksterref16_Unlike.bits4 (fun HT_ HW_=>?_);generalize wr.drew=w13 at HB hx136_0 hx139_0 hHeld ⊢;refine pure_ (i:=0) (N:=some 10) (v:=?_) (a':=?_) (ab 17 1) rfl rfl (any_of HT_.out (by kernel_rfl)) (fun _ _ _ h=>h) (Or.inl ⟨by rfl,?_⟩) ?_ ?_;rotate_left
        ·intro w';go_simp;with_reducible rfl
        rotate_left
        ·simp only [Act.put,q1_,q2_,q3_,i64_w,i32_w];rfl
        refine pure_ (i:=1) (N:=some 11) (v:=?_) (a':=?_) (ab 17 3) rfl rfl (any_of HT_.out (by kernel_rfl)) (fun _ _ _ h=>h) (Or.inl ⟨by rfl,?_⟩) ?_ ?_;rotate_left
        ·intro w';go_simp;with_reducible rfl
        rotate_left
        ·simp only [Act.put,q1_,q2_,q3_,i64_w,i32_w];rfl
        refine pure_ (i:=2) (N:=some 12) (v:=?_) (a':=?_) (ab 17 7) rfl rfl (any_of HT_.out (by kernel_rfl)) (fun _ _ _ h=>h) (Or.inl ⟨by rfl,?_⟩) ?_ ?_;rotate_left
        ·intro w';go_simp;with_reducible rfl
        rotate_left
        ·simp only [Act.put,q1_,q2_,q3_,i64_w,i32_w];rfl
        refine take_ (i:=3) (N:=some 13) (v:=?_) (a':=?_) (ab 17 15) rfl rfl (take_ofW HT_.out HW_.out (by kernel_rfl)) (fun _ _ _ h=>h) (Or.inl ⟨by rfl,?_⟩) hHeld ?_ ?_;rotate_left
        ·rintro w' ⟨s0,s1⟩;go_simp;with_reducible rfl
        rotate_left
        ·simp only [Act.put,q1_,q2_,q3_,i64_w,i32_w];rfl
        refine one_ (i:=4) (N:=some 14) (ab 17 31) rfl rfl (one_of HT_.out (by kernel_rfl)) (by decide) (fun K hK=>?_);refine goes_ Tryd.func48 (by kernel_rfl) rfl #[.string (rdOf ByteArray.empty l0 x3_1)] (by rfl) rfl rfl (by (try simp only [List.map_toArray,List.map_cons,List.map_nil]);first|done|rfl|(simp only [List.length_drop,List.length_take];rfl)) ?_;(with_reducible refine (hucksterref15_Name.calls k1 (rdOf ByteArray.empty l0 x3_1) true _ A4.out).mono ?_);rintro e w14 ⟨rfl,hb⟩;refine ⟨_,rfl,?_⟩;have n0_:=Aside0.mk (below_step (by repeat (first|(with_reducible first|exact HB.out|apply below_alloc|apply pw_below_drewN|apply below_drew1)|exact HB.out)) hb);clear HB;have HB:=n0_;clear n0_;(try clear hb);(try clear hb2);(try clear hk);(try clear hi);obtain ⟨i015,hi015,_,hsz15,_⟩:=info_parts info9;obtain ⟨hcut15,hA15,hC15⟩:=print_take_of (P:=Tryd.prog) Value.string (⟨#[]⟩:ByteArray) 22 9 .i64 Tryd.underlying22 hi015 hsz15 (some ad136) c0 l0 x3_1 (of_decide_eq_true (by first|(with_reducible assumption)|assumption)) (of_decide_eq_true (by first|(with_reducible assumption)|assumption)) HC0.out;have HR138:=Aside0.mk (Kd.C_of_reads (h1:=fun _=>rfl) (hA15 _ (Kd.reads_of_C HR0.out)));have HC138:=Aside0.mk hC15;clear hA15 hC15 hi015 hsz15;refine hK.out _ _ ⟨((HB.out.cell (World.block_lt_of_cell? w _ hw136_0)).trans hw136_0),((HB.out.cell (World.block_lt_of_cell? w _ hw139_0)).trans hw139_0)⟩ (fun hHeld=>?_);clear hK K;refine norm_ (a':=?_) ?_ ?_;rotate_left
        ·show Act.put _ (some 14) _=_;simp only [Act.put,q1_,q2_,q3_,i64_w,i32_w];rfl
        refine pure_ (i:=5) (N:=some 15) (v:=?_) (a':=?_) (ab 17 63) rfl rfl (any_of HT_.out (by kernel_rfl)) (fun _ _ _ h=>h) (Or.inl ⟨by rfl,?_⟩) ?_ ?_;rotate_left
        ·intro w';go_simp;with_reducible rfl
        rotate_left
        ·simp only [Act.put,q1_,q2_,q3_,i64_w,i32_w];rfl
        refine pure_ (i:=6) (N:=some 16) (v:=?_) (a':=?_) (ab 17 127) rfl rfl (any_of HT_.out (by kernel_rfl)) (fun _ _ _ h=>h) (Or.inl ⟨by rfl,?_⟩) ?_ ?_;rotate_left
        ·intro w';go_simp;with_reducible rfl
        rotate_left
        ·simp only [Act.put,q1_,q2_,q3_,i64_w,i32_w];rfl
        refine pure_ (i:=7) (N:=some 17) (v:=?_) (a':=?_) (ab 17 255) rfl rfl (any_of HT_.out (by kernel_rfl)) (fun _ _ _ h=>h) (Or.inl ⟨by rfl,?_⟩) ?_ ?_;rotate_left
        ·intro w';go_simp;with_reducible rfl
        rotate_left
        ·simp only [Act.put,q1_,q2_,q3_,i64_w,i32_w];rfl
        refine pure_ (i:=8) (N:=some 18) (v:=?_) (a':=?_) (ab 17 511) rfl rfl (any_of HT_.out (by kernel_rfl)) (fun _ _ _ h=>h) (Or.inl ⟨by rfl,?_⟩) ?_ ?_;rotate_left
        ·intro w';go_simp;with_reducible rfl
        rotate_left
        ·simp only [Act.put,q1_,q2_,q3_,i64_w,i32_w];rfl
        refine pure_ (i:=9) (N:=some 19) (v:=?_) (a':=?_) (ab 17 1023) rfl rfl (any_of HT_.out (by kernel_rfl)) (fun _ _ _ h=>h) (Or.inl ⟨by rfl,?_⟩) ?_ ?_;rotate_left
        ·intro w';go_simp;with_reducible rfl
        rotate_left
        ·simp only [Act.put,q1_,q2_,q3_,i64_w,i32_w];rfl
        refine pure_ (i:=10) (N:=some 20) (v:=?_) (a':=?_) (ab 17 2047) rfl rfl (any_of HT_.out (by kernel_rfl)) (fun _ _ _ h=>h) (Or.inl ⟨by rfl,?_⟩) ?_ ?_;rotate_left
        ·intro w';go_simp;with_reducible rfl
        rotate_left
        ·simp only [Act.put,q1_,q2_,q3_,i64_w,i32_w];rfl
        refine pure_ (i:=11) (N:=some 21) (v:=?_) (a':=?_) (ab 17 4095) rfl rfl (any_of HT_.out (by kernel_rfl)) (fun _ _ _ h=>h) (Or.inl ⟨by rfl,?_⟩) ?_ ?_;rotate_left
        ·intro w';go_simp;with_reducible rfl
        rotate_left
        ·simp only [Act.put,q1_,q2_,q3_,i64_w,i32_w];rfl
        refine pure_ (i:=12) (N:=some 22) (v:=?_) (a':=?_) (ab 17 8191) rfl rfl (any_of HT_.out (by kernel_rfl)) (fun _ _ _ h=>h) (Or.inl ⟨by rfl,?_⟩) ?_ ?_;rotate_left
        ·intro w';go_simp;with_reducible rfl
        rotate_left
        ·simp only [Act.put,q1_,q2_,q3_,i64_w,i32_w];rfl
        refine take_ (i:=13) (N:=some 23) (v:=?_) (a':=?_) (ab 17 16383) rfl rfl (take_ofW HT_.out HW_.out (by kernel_rfl)) (fun _ _ _ h=>h) (Or.inl ⟨by rfl,?_⟩) hHeld ?_ ?_;rotate_left
        ·rintro w' ⟨s0,s1⟩;go_simp;with_reducible rfl
        rotate_left
        ·simp only [Act.put,q1_,q2_,q3_,i64_w,i32_w];rfl
        refine one_ (i:=14) (N:=some 24) (ab 17 32767) rfl rfl (one_of HT_.out (by kernel_rfl)) (by decide) (fun K hK=>?_);refine goes_ Tryd.func49 (by kernel_rfl) rfl #[.slice (some ad136) (l0.take (x3_1:Int).toNat).length c0,.string (rdOf ByteArray.empty l0 x3_1)] (by rfl) rfl rfl (by (try simp only [List.map_toArray,List.map_cons,List.map_nil]);first|done|(rw [show (l0.take (x3_1:Int).toNat).length=x3_1.toNat from (by rw [List.length_take];have h_:(x3_1:Int) ≤ (l0.length:Int):=of_decide_eq_true (by first|(with_reducible assumption)|assumption);omega)] <;> rfl)|rfl|(simp only [List.length_drop,List.length_take];rfl)) ?_;(with_reducible refine (hucksterref16_At.calls k1 _ _ (l0.take (x3_1:Int).toNat) (rdOf ByteArray.empty l0 x3_1) t140 _ ?side1 ?side2 A8.out).mono ?_);(case side1=>repeat (first|exact (Kd.C_below HR138.out HB.out)|(with_reducible refine Kd.C_alloc ?_ _)|(with_reducible refine Kd.C_drewN ?_ _)|(with_reducible refine Kd.C_drew ?_)));(case side2=>exact HC138.out);rintro e w' ⟨rfl,⟨nd,rfl⟩⟩;refine ⟨_,rfl,?_⟩;refine hK.out _ _ ⟨((HB.out.cell (World.block_lt_of_cell? w _ hw136_0)).trans hw136_0),((HB.out.cell (World.block_lt_of_cell? w _ hw139_0)).trans hw139_0)⟩ (fun hHeld=>?_);clear hK K;refine norm_ (a':=?_) ?_ ?_;rotate_left
        ·show Act.put _ (some 24) _=_;simp only [Act.put,q1_,q2_,q3_,i64_w,i32_w];rfl
        refine pure_ (i:=15) (N:=some 25) (v:=?_) (a':=?_) (ab 17 65535) rfl rfl (any_of HT_.out (by kernel_rfl)) (fun _ _ _ h=>h) (Or.inl ⟨by rfl,?_⟩) ?_ ?_;rotate_left
        ·intro w';go_simp;with_reducible rfl
        rotate_left
        ·simp only [Act.put,q1_,q2_,q3_,i64_w,i32_w];rfl
        refine pure_ (i:=16) (N:=some 26) (v:=?_) (a':=?_) (ab 17 131071) rfl rfl (any_of HT_.out (by kernel_rfl)) (fun _ _ _ h=>h) (Or.inl ⟨by rfl,?_⟩) ?_ ?_;rotate_left
        ·intro w';go_simp;with_reducible rfl
        rotate_left
        ·simp only [Act.put,q1_,q2_,q3_,i64_w,i32_w];rfl
        refine done_ (done_of HT_.out (by kernel_rfl)) ?_;(try go_wp2);go_roundg k1
        case measure=>have:=HK1.out;omega
        case rel=>exact ⟨(wrap64 (x3_1 + 1)),(by first|rfl|(simp;done)|(simp [*];done)),H',⟨by have:=HK1.out;omega⟩,⟨by repeat (first|(with_reducible first|exact HB.out|apply below_alloc|apply pw_below_drewN|apply below_drew1)|exact HB.out)⟩⟩
      ·rw [if_neg c7] at H;exact absurd H (by simp)
     ·replace c5:=Bool.eq_false_iff.mpr c5;subst c5;(have H1:(some false)=some r:=by rw [if_neg (show ¬ (false=true) by decide)] at H;exact H);clear H;have H:=H1;clear H1;obtain rfl:=Option.some.inj H;(try go_wp2);have n0_:=Aside0.mk (below_drew1 HB.out);clear HB;have HB:=n0_;clear n0_;have p136:0 ≤ (x3_1:Int):=of_decide_eq_true (by first|(with_reducible assumption)|assumption);have q136:x3_1 < (l0.length:Int):=of_decide_eq_true (by first|(with_reducible assumption)|assumption);obtain ⟨ad136,e136,hx136_0⟩:=Kd.at_string HR0.out x3_1 p136 q136;have hw136_0:=hx136_0;cases e136;replace hx136_0:=(HB.out.cell (World.block_lt_of_cell? w _ hx136_0)).trans hx136_0;replace p136:=eq_true p136;replace q136:=eq_true q136;refine start_ (n:=17) (S:=fun w'=>w'.cell? (ad136.add (x3_1).toNat)=some (.string (rdOf ByteArray.empty l0 x3_1))) (ds:=[]) (ab 17 0) (by kernel_rfl) rfl rfl (((HB.out.cell (World.block_lt_of_cell? w _ hw136_0)).trans hw136_0)) (fun hHeld=>?_);refine with_tabW hucksterref16_Unlike.tab4 hucksterref16_Unlike.bits4 (fun HT_ HW_=>?_);generalize wr.drew=w16 at HB hx136_0 hHeld ⊢;refine pure_ (i:=0) (N:=some 10) (v:=?_) (a':=?_) (ab 17 1) rfl rfl (any_of HT_.out (by kernel_rfl)) (fun _ _ _ h=>h) (Or.inl ⟨by rfl,?_⟩) ?_ ?_;rotate_left
      ·intro w';go_simp;with_reducible rfl
      rotate_left
      ·simp only [Act.put,q1_,q2_,q3_,i64_w,i32_w];rfl
      refine pure_ (i:=1) (N:=some 11) (v:=?_) (a':=?_) (ab 17 3) rfl rfl (any_of HT_.out (by kernel_rfl)) (fun _ _ _ h=>h) (Or.inl ⟨by rfl,?_⟩) ?_ ?_;rotate_left
      ·intro w';go_simp;with_reducible rfl
      rotate_left
      ·simp only [Act.put,q1_,q2_,q3_,i64_w,i32_w];rfl
      refine pure_ (i:=2) (N:=some 12) (v:=?_) (a':=?_) (ab 17 7) rfl rfl (any_of HT_.out (by kernel_rfl)) (fun _ _ _ h=>h) (Or.inl ⟨by rfl,?_⟩) ?_ ?_;rotate_left
      ·intro w';go_simp;with_reducible rfl
      rotate_left
      ·simp only [Act.put,q1_,q2_,q3_,i64_w,i32_w];rfl
      refine take_ (i:=3) (N:=some 13) (v:=?_) (a':=?_) (ab 17 15) rfl rfl (take_ofW HT_.out HW_.out (by kernel_rfl)) (fun _ _ _ h=>h) (Or.inl ⟨by rfl,?_⟩) hHeld ?_ ?_;rotate_left
      ·intro w' s0;go_simp;with_reducible rfl
      rotate_left
      ·simp only [Act.put,q1_,q2_,q3_,i64_w,i32_w];rfl
      refine one_ (i:=4) (N:=some 14) (ab 17 31) rfl rfl (one_of HT_.out (by kernel_rfl)) (by decide) (fun K hK=>?_);refine goes_ Tryd.func48 (by kernel_rfl) rfl #[.string (rdOf ByteArray.empty l0 x3_1)] (by rfl) rfl rfl (by (try simp only [List.map_toArray,List.map_cons,List.map_nil]);first|done|rfl|(simp only [List.length_drop,List.length_take];rfl)) ?_;(with_reducible refine (hucksterref15_Name.calls k1 (rdOf ByteArray.empty l0 x3_1) false _ A4.out).mono ?_);rintro e w17 ⟨rfl,hb⟩;refine ⟨_,rfl,?_⟩;have n0_:=Aside0.mk (below_step (by repeat (first|(with_reducible first|exact HB.out|apply below_alloc|apply pw_below_drewN|apply below_drew1)|exact HB.out)) hb);clear HB;have HB:=n0_;clear n0_;(try clear hb);(try clear hb2);(try clear hk);(try clear hi);refine hK.out _ _ (((HB.out.cell (World.block_lt_of_cell? w _ hw136_0)).trans hw136_0)) (fun hHeld=>?_);clear hK K;refine norm_ (a':=?_) ?_ ?_;rotate_left
      ·show Act.put _ (some 14) _=_;simp only [Act.put,q1_,q2_,q3_,i64_w,i32_w];rfl
      refine pure_ (i:=5) (N:=some 15) (v:=?_) (a':=?_) (ab 17 63) rfl rfl (any_of HT_.out (by kernel_rfl)) (fun _ _ _ h=>h) (Or.inl ⟨by rfl,?_⟩) ?_ ?_;rotate_left
      ·intro w';go_simp;with_reducible rfl
      rotate_left
      ·simp only [Act.put,q1_,q2_,q3_,i64_w,i32_w];rfl
      refine pure_ (i:=6) (N:=some 16) (v:=?_) (a':=?_) (ab 17 127) rfl rfl (any_of HT_.out (by kernel_rfl)) (fun _ _ _ h=>h) (Or.inl ⟨by rfl,?_⟩) ?_ ?_;rotate_left
      ·intro w';go_simp;with_reducible rfl
      rotate_left
      ·simp only [Act.put,q1_,q2_,q3_,i64_w,i32_w];rfl
      refine pure_ (i:=7) (N:=some 17) (v:=undef) (a':=?_) (ab 17 255) rfl rfl (any_of HT_.out (by kernel_rfl)) (fun _ _ _ h=>h) (Or.inr ⟨by rfl,rfl⟩) ?_ ?_;rotate_left
      ·simp only [Act.put,q1_,q2_,q3_,i64_w,i32_w];rfl
      refine pure_ (i:=8) (N:=some 18) (v:=undef) (a':=?_) (ab 17 511) rfl rfl (any_of HT_.out (by kernel_rfl)) (fun _ _ _ h=>h) (Or.inr ⟨by rfl,rfl⟩) ?_ ?_;rotate_left
      ·simp only [Act.put,q1_,q2_,q3_,i64_w,i32_w];rfl
      refine pure_ (i:=9) (N:=some 19) (v:=undef) (a':=?_) (ab 17 1023) rfl rfl (any_of HT_.out (by kernel_rfl)) (fun _ _ _ h=>h) (Or.inr ⟨by rfl,rfl⟩) ?_ ?_;rotate_left
      ·simp only [Act.put,q1_,q2_,q3_,i64_w,i32_w];rfl
      refine pure_ (i:=10) (N:=some 20) (v:=undef) (a':=?_) (ab 17 2047) rfl rfl (any_of HT_.out (by kernel_rfl)) (fun _ _ _ h=>h) (Or.inr ⟨by rfl,rfl⟩) ?_ ?_;rotate_left
      ·simp only [Act.put,q1_,q2_,q3_,i64_w,i32_w];rfl
      refine pure_ (i:=11) (N:=some 21) (v:=undef) (a':=?_) (ab 17 4095) rfl rfl (any_of HT_.out (by kernel_rfl)) (fun _ _ _ h=>h) (Or.inr ⟨by rfl,rfl⟩) ?_ ?_;rotate_left
      ·simp only [Act.put,q1_,q2_,q3_,i64_w,i32_w];rfl
      refine pure_ (i:=12) (N:=some 22) (v:=undef) (a':=?_) (ab 17 8191) rfl rfl (any_of HT_.out (by kernel_rfl)) (fun _ _ _ h=>h) (Or.inr ⟨by rfl,rfl⟩) ?_ ?_;rotate_left
      ·simp only [Act.put,q1_,q2_,q3_,i64_w,i32_w];rfl
      refine pure_ (i:=13) (N:=some 23) (v:=undef) (a':=?_) (ab 17 16383) rfl rfl (any_of HT_.out (by kernel_rfl)) (fun _ _ _ h=>h) (Or.inr ⟨by rfl,rfl⟩) ?_ ?_;rotate_left
      ·simp only [Act.put,q1_,q2_,q3_,i64_w,i32_w];rfl
      refine pure_ (i:=14) (N:=some 24) (v:=undef) (a':=?_) (ab 17 32767) rfl rfl (any_of HT_.out (by kernel_rfl)) (fun _ _ _ h=>h) (Or.inr ⟨by rfl,rfl⟩) ?_ ?_;rotate_left
      ·simp only [Act.put,q1_,q2_,q3_,i64_w,i32_w];rfl
      refine pure_ (i:=15) (N:=some 25) (v:=undef) (a':=?_) (ab 17 65535) rfl rfl (any_of HT_.out (by kernel_rfl)) (fun _ _ _ h=>h) (Or.inr ⟨by rfl,rfl⟩) ?_ ?_;rotate_left
      ·simp only [Act.put,q1_,q2_,q3_,i64_w,i32_w];rfl
      refine pure_ (i:=16) (N:=some 26) (v:=?_) (a':=?_) (ab 17 131071) rfl rfl (any_of HT_.out (by kernel_rfl)) (fun _ _ _ h=>h) (Or.inl ⟨by rfl,?_⟩) ?_ ?_;rotate_left
      ·intro w';go_simp;with_reducible rfl
      rotate_left
      ·simp only [Act.put,q1_,q2_,q3_,i64_w,i32_w];rfl
      refine done_ (done_of HT_.out (by kernel_rfl)) ?_;(try go_wp2);go_ret;exact ⟨by first|rfl|(simp [errW_none,errW_some] <;> rfl)|(simp [*,errW_none,errW_some] <;> rfl),by repeat (first|(with_reducible first|exact HB.out|apply below_alloc|apply pw_below_drewN|apply below_drew1)|exact HB.out)⟩
    ·rw [if_neg c3] at H;exact absurd H (by simp)
   ·rw [if_neg c2] at H;have c2b0:decide (x3_1 < (l0.length:Int))=false:=decide_eq_false c2;clear c2;obtain rfl:=Option.some.inj H;go_wp2;go_ret;exact ⟨by first|rfl|(simp [errW_none,errW_some] <;> rfl)|(simp [*,errW_none,errW_some] <;> rfl),by repeat (first|(with_reducible first|exact HB.out|apply below_alloc|apply pw_below_drewN|apply below_drew1)|exact HB.out)⟩
end Go.Proofs.YtjbjbeihkoeciaaDoor.X
namespace Go.Proofs.YtjbjbeihkoeciaaDoor.X
open Go.RowKit Go.Proofs.YtjbjbeihkoeciaaDoorW.PrintWords Go.Proofs.YtjbjbeihkoeciaaDoorW.PrintLast Go.Proofs.YtjbjbeihkoeciaaDoorW.PrintMore
attribute [local go_sem] max2_int min2_int max_two min_two max_three min_three max_four min_four
set_option linter.unusedVariables false
set_option linter.unusedSimpArgs false
mutual
def hucksterref16_floors.l0:Nat → List (S35) → Int → Option (Bool)
 | 0,_,_=>none
 | k + 1,x0,x3=>if x3 < (x0.length:Int) then (hucksterref16_floors.l1 k x0 x3 0) else (some true)
def hucksterref16_floors.l1:Nat → List (S35) → Int → Int → Option (Bool)
 | 0,_,_,_=>none
 | k + 1,x0,x3,x4=>if x4 < x3 then (if 0 ≤ x3 then (if x3 < (x0.length:Int) then (if ((rd_T35 x0 x3).f0)=8 then (if 0 ≤ x4 then (if x4 < (x0.length:Int) then (if ((rd_T35 x0 x4).f0)=8 then (if ((rd_T35 x0 x3).f2)=((rd_T35 x0 x4).f2) then (some false) else (hucksterref16_floors.l1 k x0 x3 (wrap64 (x4 + 1)))) else (hucksterref16_floors.l1 k x0 x3 (wrap64 (x4 + 1)))) else (none)) else (none)) else (hucksterref16_floors.l1 k x0 x3 (wrap64 (x4 + 1)))) else (none)) else (none)) else (hucksterref16_floors.l0 k x0 (wrap64 (x3 + 1)))
end
def hucksterref16_floors.f (k:Nat) (l0:List (S35)):Option (Bool):=hucksterref16_floors.l0 k l0 0
set_option maxHeartbeats 8000000 in
set_option maxRecDepth 100000 in
theorem hucksterref16_floors.calls (k:Nat) (A0:Option Addr) (c0:Nat) (l0:List (S35)) (r:Bool) (w:World) (hr0:Kd.C k35 w A0 l0.length l0) (hc0:l0.length ≤ c0) (h:hucksterref16_floors.f k l0=some r) :
  Calls Tryd.prog 27 #[.slice A0 l0.length c0] w fun e w'=>e = .returned (.bool r)∧Drawn0 w w':=by
 have HR0:=Aside0.mk hr0;have HC0:=Aside0.mk hc0;clear hr0 hc0;have H:(hucksterref16_floors.l0 k l0 0)=some r:=h;clear h;have H':=Aside0.mk H;clear H;go_enter Tryd.func27,Tryd.ntmps27;go_wp2;(repeat (go_quiet (fail);try go_wp2));go_loopg [3] k (fun kq v3 w'=>∃ (x3_1:Int),v3 = .int .i64 x3_1∧Aside0 (hucksterref16_floors.l0 kq l0 x3_1=some r)∧Aside0 (kq ≤ k)∧Drawn0 w w')
 case atStart=>exact ⟨(0),(by first|rfl|(simp;done)|(simp [*];done)),H',⟨Nat.le_refl _⟩,by repeat (first|exact Drawn0.refl _|apply Drawn0.step)⟩
 case round =>
  clear H';obtain ⟨x3_1,rfl,HA,HK1,⟨m1,rfl⟩⟩:=hrel;cases gk with
  | zero=>exact absurd HA.out (by simp [hucksterref16_floors.l0])
  | succ k1 =>
   have H:=HA.out;clear HA;simp only [hucksterref16_floors.l0] at H;by_cases c2:x3_1 < (l0.length:Int)
   ·rw [if_pos c2] at H;have c2b0:decide (x3_1 < (l0.length:Int))=true:=decide_eq_true c2;clear c2;have H':=Aside0.mk H;clear H;go_wp2;(repeat (go_quiet (fail);try go_wp2));go_loopg [4] k1 (fun kq v4 w'=>∃ (x4_2:Int),v4 = .int .i64 x4_2∧Aside0 (hucksterref16_floors.l1 kq l0 x3_1 x4_2=some r)∧Aside0 (kq ≤ k1)∧Drawn0 w w')
    case atStart=>exact ⟨(0),(by first|rfl|(simp;done)|(simp [*];done)),H',⟨Nat.le_refl _⟩,by repeat (first|exact Drawn0.refl _|apply Drawn0.step)⟩
    case round =>
     clear H';(try clear c2);(try clear c2b0);(try clear p2);obtain ⟨x4_2,rfl,HA,HK2,⟨m2,rfl⟩⟩:=hrel;cases gk with
     | zero=>exact absurd HA.out (by simp [hucksterref16_floors.l1])
     | succ k2 =>
      have H:=HA.out;clear HA;simp only [hucksterref16_floors.l1] at H;by_cases c3:x4_2 < x3_1
      ·rw [if_pos c3] at H;have c3b0:decide (x4_2 < x3_1)=true:=decide_eq_true c3;clear c3;by_cases c4:0 ≤ x3_1
       ·rw [if_pos c4] at H;have c4b0:decide (0 ≤ x3_1)=true:=decide_eq_true c4;clear c4;by_cases c5:x3_1 < (l0.length:Int)
        ·rw [if_pos c5] at H;have c5b0:decide (x3_1 < (l0.length:Int))=true:=decide_eq_true c5;clear c5;by_cases c6:((rd_T35 l0 x3_1).f0)=8
         ·rw [if_pos c6] at H;have c6b0:(((rd_T35 l0 x3_1).f0) == 8)=true:=beq_iff_eq.mpr c6;have c6b1:(((rd_T35 l0 x3_1).f0) != 8)=false:=bne_eq_false_iff_eq.mpr c6;clear c6;by_cases c7:0 ≤ x4_2
          ·rw [if_pos c7] at H;have c7b0:decide (0 ≤ x4_2)=true:=decide_eq_true c7;clear c7;by_cases c8:x4_2 < (l0.length:Int)
           ·rw [if_pos c8] at H;have c8b0:decide (x4_2 < (l0.length:Int))=true:=decide_eq_true c8;clear c8;by_cases c9:((rd_T35 l0 x4_2).f0)=8
            ·rw [if_pos c9] at H;have c9b0:(((rd_T35 l0 x4_2).f0) == 8)=true:=beq_iff_eq.mpr c9;have c9b1:(((rd_T35 l0 x4_2).f0) != 8)=false:=bne_eq_false_iff_eq.mpr c9;clear c9;by_cases c10:((rd_T35 l0 x3_1).f2)=((rd_T35 l0 x4_2).f2)
             ·rw [if_pos c10] at H;have c10b0:(((rd_T35 l0 x3_1).f2) == ((rd_T35 l0 x4_2).f2))=true:=beq_iff_eq.mpr c10;have c10b1:(((rd_T35 l0 x3_1).f2) != ((rd_T35 l0 x4_2).f2))=false:=bne_eq_false_iff_eq.mpr c10;clear c10;obtain rfl:=Option.some.inj H;have p141:0 ≤ (x3_1:Int):=of_decide_eq_true (by first|(with_reducible assumption)|assumption);have q141:x3_1 < (l0.length:Int):=of_decide_eq_true (by first|(with_reducible assumption)|assumption);obtain ⟨ad141,e141,hx141_0,hx141_1,hx141_2,hx141_3,hx141_4⟩:=at_T35 HR0.out x3_1 p141 q141;cases e141;replace p141:=eq_true p141;replace q141:=eq_true q141;have p142:0 ≤ (x4_2:Int):=of_decide_eq_true (by first|(with_reducible assumption)|assumption);have q142:x4_2 < (l0.length:Int):=of_decide_eq_true (by first|(with_reducible assumption)|assumption);obtain ⟨ad142,e142,hx142_0,hx142_1,hx142_2,hx142_3,hx142_4⟩:=at_T35 HR0.out x4_2 p142 q142;obtain rfl:ad141=ad142:=(by injection e142);replace p142:=eq_true p142;replace q142:=eq_true q142;have p143:0 ≤ (x3_1:Int):=of_decide_eq_true (by first|(with_reducible assumption)|assumption);have q143:x3_1 < (l0.length:Int):=of_decide_eq_true (by first|(with_reducible assumption)|assumption);obtain ⟨ad143,e143,hx143_0,hx143_1,hx143_2,hx143_3,hx143_4⟩:=at_T35 HR0.out x3_1 p143 q143;obtain rfl:ad141=ad143:=(by injection e143);replace p143:=eq_true p143;replace q143:=eq_true q143;have p144:0 ≤ (x4_2:Int):=of_decide_eq_true (by first|(with_reducible assumption)|assumption);have q144:x4_2 < (l0.length:Int):=of_decide_eq_true (by first|(with_reducible assumption)|assumption);obtain ⟨ad144,e144,hx144_0,hx144_1,hx144_2,hx144_3,hx144_4⟩:=at_T35 HR0.out x4_2 p144 q144;obtain rfl:ad141=ad144:=(by injection e144);replace p144:=eq_true p144;replace q144:=eq_true q144;go_wp2;(repeat (go_quiet (fail);try go_wp2));go_ret;exact ⟨by first|rfl|(simp;done)|(simp [*];done),by repeat (first|exact Drawn0.refl _|apply Drawn0.step)⟩
             ·rw [if_neg c10] at H;have c10b0:(((rd_T35 l0 x3_1).f2) == ((rd_T35 l0 x4_2).f2))=false:=beq_eq_false_iff_ne.mpr c10;have c10b1:(((rd_T35 l0 x3_1).f2) != ((rd_T35 l0 x4_2).f2))=true:=bne_iff_ne.mpr c10;have H':=Aside0.mk H;clear H;have p141:0 ≤ (x3_1:Int):=of_decide_eq_true (by first|(with_reducible assumption)|assumption);have q141:x3_1 < (l0.length:Int):=of_decide_eq_true (by first|(with_reducible assumption)|assumption);obtain ⟨ad141,e141,hx141_0,hx141_1,hx141_2,hx141_3,hx141_4⟩:=at_T35 HR0.out x3_1 p141 q141;cases e141;replace p141:=eq_true p141;replace q141:=eq_true q141;have p142:0 ≤ (x4_2:Int):=of_decide_eq_true (by first|(with_reducible assumption)|assumption);have q142:x4_2 < (l0.length:Int):=of_decide_eq_true (by first|(with_reducible assumption)|assumption);obtain ⟨ad142,e142,hx142_0,hx142_1,hx142_2,hx142_3,hx142_4⟩:=at_T35 HR0.out x4_2 p142 q142;obtain rfl:ad141=ad142:=(by injection e142);replace p142:=eq_true p142;replace q142:=eq_true q142;have p143:0 ≤ (x3_1:Int):=of_decide_eq_true (by first|(with_reducible assumption)|assumption);have q143:x3_1 < (l0.length:Int):=of_decide_eq_true (by first|(with_reducible assumption)|assumption);obtain ⟨ad143,e143,hx143_0,hx143_1,hx143_2,hx143_3,hx143_4⟩:=at_T35 HR0.out x3_1 p143 q143;obtain rfl:ad141=ad143:=(by injection e143);replace p143:=eq_true p143;replace q143:=eq_true q143;have p144:0 ≤ (x4_2:Int):=of_decide_eq_true (by first|(with_reducible assumption)|assumption);have q144:x4_2 < (l0.length:Int):=of_decide_eq_true (by first|(with_reducible assumption)|assumption);obtain ⟨ad144,e144,hx144_0,hx144_1,hx144_2,hx144_3,hx144_4⟩:=at_T35 HR0.out x4_2 p144 q144;obtain rfl:ad141=ad144:=(by injection e144);replace p144:=eq_true p144;replace q144:=eq_true q144;go_wp2;(repeat (go_quiet (fail);try go_wp2));go_roundg k2
              case measure=>have:=HK1.out;have:=HK2.out;omega
              case rel=>exact ⟨(wrap64 (x4_2 + 1)),(by first|rfl|(simp;done)|(simp [*];done)),H',⟨by have:=HK1.out;have:=HK2.out;omega⟩,by repeat (first|exact Drawn0.refl _|apply Drawn0.step)⟩
            ·rw [if_neg c9] at H;have c9b0:(((rd_T35 l0 x4_2).f0) == 8)=false:=beq_eq_false_iff_ne.mpr c9;have c9b1:(((rd_T35 l0 x4_2).f0) != 8)=true:=bne_iff_ne.mpr c9;have H':=Aside0.mk H;clear H;have p141:0 ≤ (x3_1:Int):=of_decide_eq_true (by first|(with_reducible assumption)|assumption);have q141:x3_1 < (l0.length:Int):=of_decide_eq_true (by first|(with_reducible assumption)|assumption);obtain ⟨ad141,e141,hx141_0,hx141_1,hx141_2,hx141_3,hx141_4⟩:=at_T35 HR0.out x3_1 p141 q141;cases e141;replace p141:=eq_true p141;replace q141:=eq_true q141;have p142:0 ≤ (x4_2:Int):=of_decide_eq_true (by first|(with_reducible assumption)|assumption);have q142:x4_2 < (l0.length:Int):=of_decide_eq_true (by first|(with_reducible assumption)|assumption);obtain ⟨ad142,e142,hx142_0,hx142_1,hx142_2,hx142_3,hx142_4⟩:=at_T35 HR0.out x4_2 p142 q142;obtain rfl:ad141=ad142:=(by injection e142);replace p142:=eq_true p142;replace q142:=eq_true q142;go_wp2;(repeat (go_quiet (fail);try go_wp2));go_roundg k2
             case measure=>have:=HK1.out;have:=HK2.out;omega
             case rel=>exact ⟨(wrap64 (x4_2 + 1)),(by first|rfl|(simp;done)|(simp [*];done)),H',⟨by have:=HK1.out;have:=HK2.out;omega⟩,by repeat (first|exact Drawn0.refl _|apply Drawn0.step)⟩
           ·rw [if_neg c8] at H;exact absurd H (by simp)
          ·rw [if_neg c7] at H;exact absurd H (by simp)
         ·rw [if_neg c6] at H;have c6b0:(((rd_T35 l0 x3_1).f0) == 8)=false:=beq_eq_false_iff_ne.mpr c6;have c6b1:(((rd_T35 l0 x3_1).f0) != 8)=true:=bne_iff_ne.mpr c6;have H':=Aside0.mk H;clear H;have p141:0 ≤ (x3_1:Int):=of_decide_eq_true (by first|(with_reducible assumption)|assumption);have q141:x3_1 < (l0.length:Int):=of_decide_eq_true (by first|(with_reducible assumption)|assumption);obtain ⟨ad141,e141,hx141_0,hx141_1,hx141_2,hx141_3,hx141_4⟩:=at_T35 HR0.out x3_1 p141 q141;cases e141;replace p141:=eq_true p141;replace q141:=eq_true q141;go_wp2;(repeat (go_quiet (fail);try go_wp2));go_roundg k2
          case measure=>have:=HK1.out;have:=HK2.out;omega
          case rel=>exact ⟨(wrap64 (x4_2 + 1)),(by first|rfl|(simp;done)|(simp [*];done)),H',⟨by have:=HK1.out;have:=HK2.out;omega⟩,by repeat (first|exact Drawn0.refl _|apply Drawn0.step)⟩
        ·rw [if_neg c5] at H;exact absurd H (by simp)
       ·rw [if_neg c4] at H;exact absurd H (by simp)
      ·rw [if_neg c3] at H;have c3b0:decide (x4_2 < x3_1)=false:=decide_eq_false c3;clear c3;have H':=Aside0.mk H;clear H;go_wp2;(repeat (go_quiet (fail);try go_wp2));go_roundg k2
       case measure=>have:=HK1.out;have:=HK2.out;omega
       case rel=>exact ⟨(wrap64 (x3_1 + 1)),(by first|rfl|(simp;done)|(simp [*];done)),H',⟨by have:=HK1.out;have:=HK2.out;omega⟩,by repeat (first|exact Drawn0.refl _|apply Drawn0.step)⟩
   ·rw [if_neg c2] at H;have c2b0:decide (x3_1 < (l0.length:Int))=false:=decide_eq_false c2;clear c2;obtain rfl:=Option.some.inj H;go_wp2;(repeat (go_quiet (fail);try go_wp2));go_ret;exact ⟨by first|rfl|(simp;done)|(simp [*];done),by repeat (first|exact Drawn0.refl _|apply Drawn0.step)⟩
end Go.Proofs.YtjbjbeihkoeciaaDoor.X
namespace Go.Proofs.YtjbjbeihkoeciaaDoor.X
open Go.RowKit Go.Proofs.YtjbjbeihkoeciaaDoorW.PrintWords Go.Proofs.YtjbjbeihkoeciaaDoorW.PrintLast Go.Proofs.YtjbjbeihkoeciaaDoorW.PrintMore
attribute [local go_sem] max2_int min2_int max_two min_two max_three min_three max_four min_four
set_option linter.unusedVariables false
set_option linter.unusedSimpArgs false
mutual
def hucksterref16_May.j0:Nat → Bool → List ByteArray → List ByteArray → List ByteArray → List (S35) → List (S39) → Option (Bool)
 | 0,_,_,_,_,_,_=>none
 | k + 1,x44,x168000,x168001,x168002,x168003,x168004=>if x44=true then (some false) else (hucksterref16_May.l0 k 0 x168000 x168001 x168002 x168003 x168004)
def hucksterref16_May.l0:Nat → Int → List ByteArray → List ByteArray → List ByteArray → List (S35) → List (S39) → Option (Bool)
 | 0,_,_,_,_,_,_=>none
 | k + 1,x3,x168000,x168001,x168002,x168003,x168004=>if x3 < (x168003.length:Int) then (if 0 ≤ x3 then ((hucksterref16_Clause.f k x168000 x168001 x168002 x168003 x168004 ((rd_T35 x168003 x3).f0) ((rd_T35 x168003 x3).f1) ((rd_T35 x168003 x3).f2) ((rd_T35 x168003 x3).f3) ((rd_T35 x168003 x3).f4)).bind fun t174=>(if t174=true then (hucksterref16_May.l0 k (wrap64 (x3 + 1)) x168000 x168001 x168002 x168003 x168004) else (some false))) else (none)) else (hucksterref16_May.l1 k 0 x168000 x168001 x168002 x168003 x168004)
def hucksterref16_May.l1:Nat → Int → List ByteArray → List ByteArray → List ByteArray → List (S35) → List (S39) → Option (Bool)
 | 0,_,_,_,_,_,_=>none
 | k + 1,x4,x168000,x168001,x168002,x168003,x168004=>if x4 < (x168004.length:Int) then (if 0 ≤ x4 then ((hucksterref16_Oper.f k x168000 x168001 x168002 x168003 x168004 ((rd_T39 x168004 x4).f0) ((rd_T39 x168004 x4).f1)).bind fun t176=>(if t176=true then (hucksterref16_May.l1 k (wrap64 (x4 + 1)) x168000 x168001 x168002 x168003 x168004) else (some false))) else (none)) else (some true)
end
def hucksterref16_May.f (k:Nat) (l0_0:List ByteArray) (l0_1:List ByteArray) (l0_2:List ByteArray) (l0_3:List (S35)) (l0_4:List (S39)):Option (Bool):=if (l0_0.length:Int) > 6 then (hucksterref16_May.j0 k true l0_0 l0_1 l0_2 l0_3 l0_4) else (if (l0_1.length:Int) > 4 then (hucksterref16_May.j0 k true l0_0 l0_1 l0_2 l0_3 l0_4) else (if (l0_2.length:Int) > 3 then (hucksterref16_May.j0 k true l0_0 l0_1 l0_2 l0_3 l0_4) else (if (l0_4.length:Int) > 16 then (hucksterref16_May.j0 k true l0_0 l0_1 l0_2 l0_3 l0_4) else (if (l0_3.length:Int) > 12 then (hucksterref16_May.j0 k true l0_0 l0_1 l0_2 l0_3 l0_4) else ((hucksterref16_All.f k l0_0 l0_1 l0_2 l0_3 l0_4).bind fun t168=>((hucksterref16_Unlike.f k t168).bind fun t171=>(if t171=true then ((hucksterref16_floors.f k l0_3).bind fun t172=>(hucksterref16_May.j0 k (!t172) l0_0 l0_1 l0_2 l0_3 l0_4)) else (hucksterref16_May.j0 k true l0_0 l0_1 l0_2 l0_3 l0_4))))))))
def hucksterref16_May.T6:Bool × List (List Nat × List Nat):=(true,[([],[]),([],[]),([1],[1]),([],[]),([2,3],[2,3]),([4],[4]),([0,5],[0,5]),([6],[6])])
def hucksterref16_May.B6:List Nat:=[0,0,2,0,14,30,63,127]
theorem hucksterref16_May.tab6:rtab .any (opsOf Tryd.f10 6)=hucksterref16_May.T6:=by kernel_rfl
theorem hucksterref16_May.bits6:waitsOk hucksterref16_May.T6.2 hucksterref16_May.B6=true:=by kernel_rfl
def hucksterref16_May.T11:Bool × List (List Nat × List Nat):=(true,[([],[]),([],[]),([1],[1]),([],[]),([2,3],[2,3]),([4],[4]),([0,5],[0,5]),([6],[6])])
def hucksterref16_May.B11:List Nat:=[0,0,2,0,14,30,63,127]
theorem hucksterref16_May.tab11:rtab .any (opsOf Tryd.f10 11)=hucksterref16_May.T11:=by kernel_rfl
theorem hucksterref16_May.bits11:waitsOk hucksterref16_May.T11.2 hucksterref16_May.B11=true:=by kernel_rfl
set_option maxHeartbeats 8000000 in
set_option maxRecDepth 100000 in
theorem hucksterref16_May.calls (k:Nat) (A0_0:Option Addr) (c0_0:Nat) (l0_0:List ByteArray) (A0_1:Option Addr) (c0_1:Nat) (l0_1:List ByteArray) (A0_2:Option Addr) (c0_2:Nat) (l0_2:List ByteArray) (A0_3:Option Addr) (c0_3:Nat) (l0_3:List (S35)) (A0_4:Option Addr) (c0_4:Nat) (l0_4:List (S39)) (r:Bool) (w:World) (hr0_0:Kd.C Kd.string w A0_0 l0_0.length l0_0) (hc0_0:l0_0.length ≤ c0_0) (hr0_1:Kd.C Kd.string w A0_1 l0_1.length l0_1) (hc0_1:l0_1.length ≤ c0_1) (hr0_2:Kd.C Kd.string w A0_2 l0_2.length l0_2) (hc0_2:l0_2.length ≤ c0_2) (hr0_3:Kd.C k35 w A0_3 l0_3.length l0_3) (hc0_3:l0_3.length ≤ c0_3) (hr0_4:Kd.C k39 w A0_4 l0_4.length l0_4) (hc0_4:l0_4.length ≤ c0_4) (h:hucksterref16_May.f k l0_0 l0_1 l0_2 l0_3 l0_4=some r) :
  Calls Tryd.prog 10 #[.agg #[.slice A0_0 l0_0.length c0_0,.slice A0_1 l0_1.length c0_1,.slice A0_2 l0_2.length c0_2,.slice A0_3 l0_3.length c0_3,.slice A0_4 l0_4.length c0_4]] w fun e w'=>e = .returned (.bool r)∧Below w.heap.size w w':=by
 have hu26:=Tryd.underlying26;have hu35:=Tryd.underlying35;have hu39:=Tryd.underlying39;have HR0_0:=Aside0.mk hr0_0;have HC0_0:=Aside0.mk hc0_0;clear hr0_0 hc0_0;have HR0_1:=Aside0.mk hr0_1;have HC0_1:=Aside0.mk hc0_1;clear hr0_1 hc0_1;have HR0_2:=Aside0.mk hr0_2;have HC0_2:=Aside0.mk hc0_2;clear hr0_2 hc0_2;have HR0_3:=Aside0.mk hr0_3;have HC0_3:=Aside0.mk hc0_3;clear hr0_3 hc0_3;have HR0_4:=Aside0.mk hr0_4;have HC0_4:=Aside0.mk hc0_4;clear hr0_4 hc0_4;have HB:=Aside0.mk (Below.refl w.heap.size w);have H:(if (l0_0.length:Int) > 6 then (hucksterref16_May.j0 k true l0_0 l0_1 l0_2 l0_3 l0_4) else (if (l0_1.length:Int) > 4 then (hucksterref16_May.j0 k true l0_0 l0_1 l0_2 l0_3 l0_4) else (if (l0_2.length:Int) > 3 then (hucksterref16_May.j0 k true l0_0 l0_1 l0_2 l0_3 l0_4) else (if (l0_4.length:Int) > 16 then (hucksterref16_May.j0 k true l0_0 l0_1 l0_2 l0_3 l0_4) else (if (l0_3.length:Int) > 12 then (hucksterref16_May.j0 k true l0_0 l0_1 l0_2 l0_3 l0_4) else ((hucksterref16_All.f k l0_0 l0_1 l0_2 l0_3 l0_4).bind fun t168=>((hucksterref16_Unlike.f k t168).bind fun t171=>(if t171=true then ((hucksterref16_floors.f k l0_3).bind fun t172=>(hucksterref16_May.j0 k (!t172) l0_0 l0_1 l0_2 l0_3 l0_4)) else (hucksterref16_May.j0 k true l0_0 l0_1 l0_2 l0_3 l0_4)))))))))=some r:=h;clear h;have HC2:=Aside0.mk H;clear H;go_enter Tryd.func10,Tryd.ntmps10;go_upto_region 1 with (first|((with_reducible refine gate_dst (N:=1) rfl ?_);(try (refine gate_guard (by rfl) ?_;dsimp only));refine box_event ?hg (N:=1) ?hd (cs:=#[.slice A0_0 l0_0.length c0_0,.slice A0_1 l0_1.length c0_1,.slice A0_2 l0_2.length c0_2,.slice A0_3 l0_3.length c0_3,.slice A0_4 l0_4.length c0_4]) (t:=26) ?hr ?_;(case hd=>rfl);(case hg=>rfl);(case hr=>first|(go_simp;done)|(go_simp;rfl));intro gb167 hg w3 hbox hb;have n0_:=Aside0.mk (below_step (by repeat (first|(with_reducible first|exact HB.out|apply below_alloc|apply pw_below_drewN|apply below_drew1)|exact HB.out)) hb);have n1_:=Aside0.mk (hbox);have n2_:=Aside0.mk ((by rw [hg];exact (below_size (by repeat (first|(with_reducible first|exact HB.out|apply below_alloc|apply pw_below_drewN|apply below_drew1)|exact HB.out))):w.heap.size ≤ gb167));have n3_:=Aside0.mk ((by rw [hg];exact (below_size (by repeat (first|(with_reducible first|exact HB.out|apply below_alloc|apply pw_below_drewN|apply below_drew1)|exact HB.out))):w.heap.size ≤ gb167));clear HB;have HB:=n0_;have BK167:=n1_;have GW167:=n2_;have GE167:=n3_;clear n0_ n1_ n2_ n3_;clear hb hbox hg));(try simp only [Act.put,q1_,q2_,q3_]);go_cut [44] (fun v44 wc=>∃ (kq:Nat) (x44_1:Bool),v44 = .bool x44_1∧Aside0 (hucksterref16_May.j0 kq x44_1 l0_0 l0_1 l0_2 l0_3 l0_4=some r)∧Aside0 (kq ≤ k)∧Aside0 (wc.heap[gb167]? = some (.cells #[(.slice A0_0 l0_0.length c0_0),(.slice A0_1 l0_1.length c0_1),(.slice A0_2 l0_2.length c0_2),(.slice A0_3 l0_3.length c0_3),(.slice A0_4 l0_4.length c0_4)] 26 (0,0)))∧Aside0 (Below w.heap.size w wc))
 case first =>
  have H:=HC2.out;clear HC2;by_cases c4:(l0_0.length:Int) > 6
  ·rw [if_pos c4] at H;have c4b0:decide (6 < (l0_0.length:Int))=true:=decide_eq_true c4;have c4b1:decide (6 < l0_0.length)=true:=decide_eq_true (by omega);clear c4;(first|rw [c4b0]|(simp only [i64_w,i32_w];rw [c4b0])|skip);have H':=Aside0.mk H;clear H;obtain ⟨hcz5_0,hcz5_1,hcz5_2,hcz5_3,hcz5_4⟩:=bc5 BK167.out;obtain ⟨hfz5_0,hfz5_1,hfz5_2,hfz5_3,hfz5_4⟩:=bf5 BK167.out;go_wp2;go_meet
   case rel=>exact ⟨_,(true),(by first|rfl|(simp;done)|(simp [*];done)),H',⟨by first|omega|exact Nat.le_refl _⟩,⟨by (with_reducible repeat (first|refine blk_drewN ?_ _|refine blk_drew ?_|refine blk_alloc ?_ _));exact BK167.out⟩,⟨by repeat (first|(with_reducible first|exact HB.out|apply below_alloc|apply pw_below_drewN|apply below_drew1|refine below_set ?_ GE167.out)|exact HB.out)⟩⟩
  ·rw [if_neg c4] at H;have c4b0:decide (6 < (l0_0.length:Int))=false:=decide_eq_false c4;have c4b1:decide (6 < l0_0.length)=false:=decide_eq_false (by omega);clear c4;(first|rw [c4b0]|(simp only [i64_w,i32_w];rw [c4b0])|skip);by_cases c6:(l0_1.length:Int) > 4
   ·rw [if_pos c6] at H;have c6b0:decide (4 < (l0_1.length:Int))=true:=decide_eq_true c6;have c6b1:decide (4 < l0_1.length)=true:=decide_eq_true (by omega);clear c6;have H':=Aside0.mk H;clear H;obtain ⟨hcz7_0,hcz7_1,hcz7_2,hcz7_3,hcz7_4⟩:=bc5 BK167.out;obtain ⟨hfz7_0,hfz7_1,hfz7_2,hfz7_3,hfz7_4⟩:=bf5 BK167.out;go_wp2;go_meet
    case rel=>exact ⟨_,(true),(by first|rfl|(simp;done)|(simp [*];done)),H',⟨by first|omega|exact Nat.le_refl _⟩,⟨by (with_reducible repeat (first|refine blk_drewN ?_ _|refine blk_drew ?_|refine blk_alloc ?_ _));exact BK167.out⟩,⟨by repeat (first|(with_reducible first|exact HB.out|apply below_alloc|apply pw_below_drewN|apply below_drew1|refine below_set ?_ GE167.out)|exact HB.out)⟩⟩
   ·rw [if_neg c6] at H;have c6b0:decide (4 < (l0_1.length:Int))=false:=decide_eq_false c6;have c6b1:decide (4 < l0_1.length)=false:=decide_eq_false (by omega);clear c6;by_cases c8:(l0_2.length:Int) > 3
    ·rw [if_pos c8] at H;have c8b0:decide (3 < (l0_2.length:Int))=true:=decide_eq_true c8;have c8b1:decide (3 < l0_2.length)=true:=decide_eq_true (by omega);clear c8;have H':=Aside0.mk H;clear H;obtain ⟨hcz9_0,hcz9_1,hcz9_2,hcz9_3,hcz9_4⟩:=bc5 BK167.out;obtain ⟨hfz9_0,hfz9_1,hfz9_2,hfz9_3,hfz9_4⟩:=bf5 BK167.out;go_wp2;go_meet
     case rel=>exact ⟨_,(true),(by first|rfl|(simp;done)|(simp [*];done)),H',⟨by first|omega|exact Nat.le_refl _⟩,⟨by (with_reducible repeat (first|refine blk_drewN ?_ _|refine blk_drew ?_|refine blk_alloc ?_ _));exact BK167.out⟩,⟨by repeat (first|(with_reducible first|exact HB.out|apply below_alloc|apply pw_below_drewN|apply below_drew1|refine below_set ?_ GE167.out)|exact HB.out)⟩⟩
    ·rw [if_neg c8] at H;have c8b0:decide (3 < (l0_2.length:Int))=false:=decide_eq_false c8;have c8b1:decide (3 < l0_2.length)=false:=decide_eq_false (by omega);clear c8;by_cases c10:(l0_4.length:Int) > 16
     ·rw [if_pos c10] at H;have c10b0:decide (16 < (l0_4.length:Int))=true:=decide_eq_true c10;have c10b1:decide (16 < l0_4.length)=true:=decide_eq_true (by omega);clear c10;have H':=Aside0.mk H;clear H;obtain ⟨hcz11_0,hcz11_1,hcz11_2,hcz11_3,hcz11_4⟩:=bc5 BK167.out;obtain ⟨hfz11_0,hfz11_1,hfz11_2,hfz11_3,hfz11_4⟩:=bf5 BK167.out;go_wp2;go_meet
      case rel=>exact ⟨_,(true),(by first|rfl|(simp;done)|(simp [*];done)),H',⟨by first|omega|exact Nat.le_refl _⟩,⟨by (with_reducible repeat (first|refine blk_drewN ?_ _|refine blk_drew ?_|refine blk_alloc ?_ _));exact BK167.out⟩,⟨by repeat (first|(with_reducible first|exact HB.out|apply below_alloc|apply pw_below_drewN|apply below_drew1|refine below_set ?_ GE167.out)|exact HB.out)⟩⟩
     ·rw [if_neg c10] at H;have c10b0:decide (16 < (l0_4.length:Int))=false:=decide_eq_false c10;have c10b1:decide (16 < l0_4.length)=false:=decide_eq_false (by omega);clear c10;by_cases c12:(l0_3.length:Int) > 12
      ·rw [if_pos c12] at H;have c12b0:decide (12 < (l0_3.length:Int))=true:=decide_eq_true c12;have c12b1:decide (12 < l0_3.length)=true:=decide_eq_true (by omega);clear c12;have H':=Aside0.mk H;clear H;obtain ⟨hcz13_0,hcz13_1,hcz13_2,hcz13_3,hcz13_4⟩:=bc5 BK167.out;obtain ⟨hfz13_0,hfz13_1,hfz13_2,hfz13_3,hfz13_4⟩:=bf5 BK167.out;go_wp2;go_meet
       case rel=>exact ⟨_,(true),(by first|rfl|(simp;done)|(simp [*];done)),H',⟨by first|omega|exact Nat.le_refl _⟩,⟨by (with_reducible repeat (first|refine blk_drewN ?_ _|refine blk_drew ?_|refine blk_alloc ?_ _));exact BK167.out⟩,⟨by repeat (first|(with_reducible first|exact HB.out|apply below_alloc|apply pw_below_drewN|apply below_drew1|refine below_set ?_ GE167.out)|exact HB.out)⟩⟩
      ·rw [if_neg c12] at H;have c12b0:decide (12 < (l0_3.length:Int))=false:=decide_eq_false c12;have c12b1:decide (12 < l0_3.length)=false:=decide_eq_false (by omega);clear c12;replace H:=Option.bind_eq_some_iff.mp H;obtain ⟨t168,A140,H⟩:=H;replace H:((hucksterref16_Unlike.f k t168).bind fun t171=>(if t171=true then ((hucksterref16_floors.f k l0_3).bind fun t172=>(hucksterref16_May.j0 k (!t172) l0_0 l0_1 l0_2 l0_3 l0_4)) else (hucksterref16_May.j0 k true l0_0 l0_1 l0_2 l0_3 l0_4)))=some r:=H;have A14:=Aside0.mk A140;clear A140;replace H:=Option.bind_eq_some_iff.mp H;obtain ⟨t171,A150,H⟩:=H;replace H:(if t171=true then ((hucksterref16_floors.f k l0_3).bind fun t172=>(hucksterref16_May.j0 k (!t172) l0_0 l0_1 l0_2 l0_3 l0_4)) else (hucksterref16_May.j0 k true l0_0 l0_1 l0_2 l0_3 l0_4))=some r:=H;have A15:=Aside0.mk A150;clear A150;by_cases c16:t171=true
       ·subst c16;(have H1:((hucksterref16_floors.f k l0_3).bind fun t172=>(hucksterref16_May.j0 k (!t172) l0_0 l0_1 l0_2 l0_3 l0_4))=some r:=by rw [if_pos rfl] at H;exact H);clear H;have H:=H1;clear H1;replace H:=Option.bind_eq_some_iff.mp H;obtain ⟨t172,A170,H⟩:=H;replace H:(hucksterref16_May.j0 k (!t172) l0_0 l0_1 l0_2 l0_3 l0_4)=some r:=H;have A17:=Aside0.mk A170;clear A170;have H':=Aside0.mk H;clear H;obtain ⟨hcz18_0,hcz18_1,hcz18_2,hcz18_3,hcz18_4⟩:=bc5 BK167.out;obtain ⟨hfz18_0,hfz18_1,hfz18_2,hfz18_3,hfz18_4⟩:=bf5 BK167.out;go_wp2_with (first|(go_at_call 17;(with_reducible refine (hucksterref16_All.calls k _ _ l0_0 _ _ l0_1 _ _ l0_2 _ _ l0_3 _ _ l0_4 t168 _ ?side1 ?side2 ?side3 ?side4 ?side5 ?side6 ?side7 ?side8 ?side9 ?side10 A14.out).mono ?_);(case side1=>repeat (first|exact (Kd.C_below HR0_0.out HB.out)|(with_reducible refine Kd.C_alloc ?_ _)|(with_reducible refine Kd.C_drewN ?_ _)|(with_reducible refine Kd.C_drew ?_)));(case side2=>exact HC0_0.out);(case side3=>repeat (first|exact (Kd.C_below HR0_1.out HB.out)|(with_reducible refine Kd.C_alloc ?_ _)|(with_reducible refine Kd.C_drewN ?_ _)|(with_reducible refine Kd.C_drew ?_)));(case side4=>exact HC0_1.out);(case side5=>repeat (first|exact (Kd.C_below HR0_2.out HB.out)|(with_reducible refine Kd.C_alloc ?_ _)|(with_reducible refine Kd.C_drewN ?_ _)|(with_reducible refine Kd.C_drew ?_)));(case side6=>exact HC0_2.out);(case side7=>repeat (first|exact (Kd.C_below HR0_3.out HB.out)|(with_reducible refine Kd.C_alloc ?_ _)|(with_reducible refine Kd.C_drewN ?_ _)|(with_reducible refine Kd.C_drew ?_)));(case side8=>exact HC0_3.out);(case side9=>repeat (first|exact (Kd.C_below HR0_4.out HB.out)|(with_reducible refine Kd.C_alloc ?_ _)|(with_reducible refine Kd.C_drewN ?_ _)|(with_reducible refine Kd.C_drew ?_)));(case side10=>exact HC0_4.out);rintro e w19 ⟨v169,rfl,ho0,hb⟩;have n0_:=Aside0.mk (Kd.R_lower ho0 (below_size (by repeat (first|(with_reducible first|exact HB.out|apply below_alloc|apply pw_below_drewN|apply below_drew1|refine below_set ?_ GE167.out)|exact HB.out))));have n1_:=Aside0.mk (blk_below (g:=gb167) (o:=.cells #[.slice A0_0 l0_0.length c0_0,.slice A0_1 l0_1.length c0_1,.slice A0_2 l0_2.length c0_2,.slice A0_3 l0_3.length c0_3,.slice A0_4 l0_4.length c0_4] 26 (0,0)) (by (with_reducible repeat (first|refine blk_drewN ?_ _|refine blk_drew ?_|refine blk_alloc ?_ _));exact BK167.out) hb);have n2_:=Aside0.mk (below_step (by repeat (first|(with_reducible first|exact HB.out|apply below_alloc|apply pw_below_drewN|apply below_drew1|refine below_set ?_ GE167.out)|exact HB.out)) hb);clear BK167;clear HB;have HO170:=n0_;have BK167:=n1_;have HB:=n2_;clear n0_ n1_ n2_;(try clear hb);(try clear hb2);(try clear hk);(try clear hi);(try clear ho0);obtain ⟨Ao20,co20,eo20⟩:=Kd.R_slice HO170.out;subst eo20)|(go_at_call 26;(with_reducible refine (hucksterref16_Unlike.calls k _ _ t168 true _ ?side1 ?side2 A15.out).mono ?_);(case side1=>repeat (first|exact (Kd.R_reads' HO170.out).2.2|(with_reducible refine Kd.C_alloc ?_ _)|(with_reducible refine Kd.C_drewN ?_ _)|(with_reducible refine Kd.C_drew ?_)));(case side2=>exact (Kd.R_reads' HO170.out).2.1);rintro e w21 ⟨rfl,hb⟩;have n0_:=Aside0.mk (Kd.R_below (by (with_reducible repeat (first|apply Kd.R_alloc|apply Kd.R_drewN|apply Kd.R_drew));exact HO170.out) hb);have n1_:=Aside0.mk (blk_below (g:=gb167) (o:=.cells #[.slice A0_0 l0_0.length c0_0,.slice A0_1 l0_1.length c0_1,.slice A0_2 l0_2.length c0_2,.slice A0_3 l0_3.length c0_3,.slice A0_4 l0_4.length c0_4] 26 (0,0)) (by (with_reducible repeat (first|refine blk_drewN ?_ _|refine blk_drew ?_|refine blk_alloc ?_ _));exact BK167.out) hb);have n2_:=Aside0.mk (below_step (by repeat (first|(with_reducible first|exact HB.out|apply below_alloc|apply pw_below_drewN|apply below_drew1|refine below_set ?_ GE167.out)|exact HB.out)) hb);clear HO170;clear BK167;clear HB;have HO170:=n0_;have BK167:=n1_;have HB:=n2_;clear n0_ n1_ n2_;(try clear hb);(try clear hb2);(try clear hk);(try clear hi);have hcz22_0:w21.cell? ⟨gb167,0,none⟩=some (.slice A0_0 l0_0.length c0_0):=(blk_cell BK167.out 0).trans rfl;have hcz22_1:w21.cell? ⟨gb167,1,none⟩=some (.slice A0_1 l0_1.length c0_1):=(blk_cell BK167.out 1).trans rfl;have hcz22_2:w21.cell? ⟨gb167,2,none⟩=some (.slice A0_2 l0_2.length c0_2):=(blk_cell BK167.out 2).trans rfl;have hcz22_3:w21.cell? ⟨gb167,3,none⟩=some (.slice A0_3 l0_3.length c0_3):=(blk_cell BK167.out 3).trans rfl;have hcz22_4:w21.cell? ⟨gb167,4,none⟩=some (.slice A0_4 l0_4.length c0_4):=(blk_cell BK167.out 4).trans rfl;have hfz22_0:=blk_frozen BK167.out 0;have hfz22_1:=blk_frozen BK167.out 1;have hfz22_2:=blk_frozen BK167.out 2;have hfz22_3:=blk_frozen BK167.out 3;have hfz22_4:=blk_frozen BK167.out 4)|(go_at_call 27;(with_reducible refine (hucksterref16_floors.calls k _ _ l0_3 t172 _ ?side1 ?side2 A17.out).mono ?_);(case side1=>repeat (first|exact (Kd.C_below HR0_3.out HB.out)|(with_reducible refine Kd.C_alloc ?_ _)|(with_reducible refine Kd.C_drewN ?_ _)|(with_reducible refine Kd.C_drew ?_)));(case side2=>exact HC0_3.out);rintro e w' ⟨rfl,⟨nd,rfl⟩⟩));go_meet
        case rel=>exact ⟨_,(!t172),(by first|rfl|(simp;done)|(simp [*];done)),H',⟨by first|omega|exact Nat.le_refl _⟩,⟨by (with_reducible repeat (first|refine blk_drewN ?_ _|refine blk_drew ?_|refine blk_alloc ?_ _));exact BK167.out⟩,⟨by repeat (first|(with_reducible first|exact HB.out|apply below_alloc|apply pw_below_drewN|apply below_drew1|refine below_set ?_ GE167.out)|exact HB.out)⟩⟩
       ·replace c16:=Bool.eq_false_iff.mpr c16;subst c16;(have H1:(hucksterref16_May.j0 k true l0_0 l0_1 l0_2 l0_3 l0_4)=some r:=by rw [if_neg (show ¬ (false=true) by decide)] at H;exact H);clear H;have H:=H1;clear H1;have H':=Aside0.mk H;clear H;obtain ⟨hcz23_0,hcz23_1,hcz23_2,hcz23_3,hcz23_4⟩:=bc5 BK167.out;obtain ⟨hfz23_0,hfz23_1,hfz23_2,hfz23_3,hfz23_4⟩:=bf5 BK167.out;go_wp2_with (first|(go_at_call 17;(with_reducible refine (hucksterref16_All.calls k _ _ l0_0 _ _ l0_1 _ _ l0_2 _ _ l0_3 _ _ l0_4 t168 _ ?side1 ?side2 ?side3 ?side4 ?side5 ?side6 ?side7 ?side8 ?side9 ?side10 A14.out).mono ?_);(case side1=>repeat (first|exact (Kd.C_below HR0_0.out HB.out)|(with_reducible refine Kd.C_alloc ?_ _)|(with_reducible refine Kd.C_drewN ?_ _)|(with_reducible refine Kd.C_drew ?_)));(case side2=>exact HC0_0.out);(case side3=>repeat (first|exact (Kd.C_below HR0_1.out HB.out)|(with_reducible refine Kd.C_alloc ?_ _)|(with_reducible refine Kd.C_drewN ?_ _)|(with_reducible refine Kd.C_drew ?_)));(case side4=>exact HC0_1.out);(case side5=>repeat (first|exact (Kd.C_below HR0_2.out HB.out)|(with_reducible refine Kd.C_alloc ?_ _)|(with_reducible refine Kd.C_drewN ?_ _)|(with_reducible refine Kd.C_drew ?_)));(case side6=>exact HC0_2.out);(case side7=>repeat (first|exact (Kd.C_below HR0_3.out HB.out)|(with_reducible refine Kd.C_alloc ?_ _)|(with_reducible refine Kd.C_drewN ?_ _)|(with_reducible refine Kd.C_drew ?_)));(case side8=>exact HC0_3.out);(case side9=>repeat (first|exact (Kd.C_below HR0_4.out HB.out)|(with_reducible refine Kd.C_alloc ?_ _)|(with_reducible refine Kd.C_drewN ?_ _)|(with_reducible refine Kd.C_drew ?_)));(case side10=>exact HC0_4.out);rintro e w24 ⟨v169,rfl,ho0,hb⟩;have n0_:=Aside0.mk (Kd.R_lower ho0 (below_size (by repeat (first|(with_reducible first|exact HB.out|apply below_alloc|apply pw_below_drewN|apply below_drew1|refine below_set ?_ GE167.out)|exact HB.out))));have n1_:=Aside0.mk (blk_below (g:=gb167) (o:=.cells #[.slice A0_0 l0_0.length c0_0,.slice A0_1 l0_1.length c0_1,.slice A0_2 l0_2.length c0_2,.slice A0_3 l0_3.length c0_3,.slice A0_4 l0_4.length c0_4] 26 (0,0)) (by (with_reducible repeat (first|refine blk_drewN ?_ _|refine blk_drew ?_|refine blk_alloc ?_ _));exact BK167.out) hb);have n2_:=Aside0.mk (below_step (by repeat (first|(with_reducible first|exact HB.out|apply below_alloc|apply pw_below_drewN|apply below_drew1|refine below_set ?_ GE167.out)|exact HB.out)) hb);clear BK167;clear HB;have HO170:=n0_;have BK167:=n1_;have HB:=n2_;clear n0_ n1_ n2_;(try clear hb);(try clear hb2);(try clear hk);(try clear hi);(try clear ho0);obtain ⟨Ao25,co25,eo25⟩:=Kd.R_slice HO170.out;subst eo25)|(go_at_call 26;(with_reducible refine (hucksterref16_Unlike.calls k _ _ t168 false _ ?side1 ?side2 A15.out).mono ?_);(case side1=>repeat (first|exact (Kd.R_reads' HO170.out).2.2|(with_reducible refine Kd.C_alloc ?_ _)|(with_reducible refine Kd.C_drewN ?_ _)|(with_reducible refine Kd.C_drew ?_)));(case side2=>exact (Kd.R_reads' HO170.out).2.1);rintro e w26 ⟨rfl,hb⟩;have n0_:=Aside0.mk (Kd.R_below (by (with_reducible repeat (first|apply Kd.R_alloc|apply Kd.R_drewN|apply Kd.R_drew));exact HO170.out) hb);have n1_:=Aside0.mk (blk_below (g:=gb167) (o:=.cells #[.slice A0_0 l0_0.length c0_0,.slice A0_1 l0_1.length c0_1,.slice A0_2 l0_2.length c0_2,.slice A0_3 l0_3.length c0_3,.slice A0_4 l0_4.length c0_4] 26 (0,0)) (by (with_reducible repeat (first|refine blk_drewN ?_ _|refine blk_drew ?_|refine blk_alloc ?_ _));exact BK167.out) hb);have n2_:=Aside0.mk (below_step (by repeat (first|(with_reducible first|exact HB.out|apply below_alloc|apply pw_below_drewN|apply below_drew1|refine below_set ?_ GE167.out)|exact HB.out)) hb);clear HO170;clear BK167;clear HB;have HO170:=n0_;have BK167:=n1_;have HB:=n2_;clear n0_ n1_ n2_;(try clear hb);(try clear hb2);(try clear hk);(try clear hi)));go_meet
        case rel=>exact ⟨_,(true),(by first|rfl|(simp;done)|(simp [*];done)),H',⟨by first|omega|exact Nat.le_refl _⟩,⟨by (with_reducible repeat (first|refine blk_drewN ?_ _|refine blk_drew ?_|refine blk_alloc ?_ _));exact BK167.out⟩,⟨by repeat (first|(with_reducible first|exact HB.out|apply below_alloc|apply pw_below_drewN|apply below_drew1|refine below_set ?_ GE167.out)|exact HB.out)⟩⟩
 case rest =>
  clear HC2;(try clear c1);(try clear p2);(try clear c4);(try clear c4b0);(try clear c4b1);(try clear c6);(try clear c6b0);(try clear c6b1);(try clear c8);(try clear c8b0);(try clear c8b1);(try clear c10);(try clear c10b0);(try clear c10b1);(try clear c12);(try clear c12b0);(try clear c12b1);(try clear c16);(try clear hcz11_0);(try clear hcz11_1);(try clear hcz11_2);(try clear hcz11_3);(try clear hcz11_4);(try clear hcz13_0);(try clear hcz13_1);(try clear hcz13_2);(try clear hcz13_3);(try clear hcz13_4);(try clear hcz18_0);(try clear hcz18_1);(try clear hcz18_2);(try clear hcz18_3);(try clear hcz18_4);(try clear hcz22_0);(try clear hcz22_1);(try clear hcz22_2);(try clear hcz22_3);(try clear hcz22_4);(try clear hcz23_0);(try clear hcz23_1);(try clear hcz23_2);(try clear hcz23_3);(try clear hcz23_4);(try clear hcz5_0);(try clear hcz5_1);(try clear hcz5_2);(try clear hcz5_3);(try clear hcz5_4);(try clear hcz7_0);(try clear hcz7_1);(try clear hcz7_2);(try clear hcz7_3);(try clear hcz7_4);(try clear hcz9_0);(try clear hcz9_1);(try clear hcz9_2);(try clear hcz9_3);(try clear hcz9_4);(try clear hfz11_0);(try clear hfz11_1);(try clear hfz11_2);(try clear hfz11_3);(try clear hfz11_4);(try clear hfz13_0);(try clear hfz13_1);(try clear hfz13_2);(try clear hfz13_3);(try clear hfz13_4);(try clear hfz18_0);(try clear hfz18_1);(try clear hfz18_2);(try clear hfz18_3);(try clear hfz18_4);(try clear hfz22_0);(try clear hfz22_1);(try clear hfz22_2);(try clear hfz22_3);(try clear hfz22_4);(try clear hfz23_0);(try clear hfz23_1);(try clear hfz23_2);(try clear hfz23_3);(try clear hfz23_4);(try clear hfz5_0);(try clear hfz5_1);(try clear hfz5_2);(try clear hfz5_3);(try clear hfz5_4);(try clear hfz7_0);(try clear hfz7_1);(try clear hfz7_2);(try clear hfz7_3);(try clear hfz7_4);(try clear hfz9_0);(try clear hfz9_1);(try clear hfz9_2);(try clear hfz9_3);(try clear hfz9_4);obtain ⟨kq,x44_1,rfl,HA,HJ1,BK167,HB⟩:=hcut;cases kq with
  | zero=>exact absurd HA.out (by simp [hucksterref16_May.j0])
  | succ kj1 =>
   have H:=HA.out;clear HA;simp only [hucksterref16_May.j0] at H;by_cases c27:x44_1=true
   ·subst c27;(have H1:(some false)=some r:=by rw [if_pos rfl] at H;exact H);clear H;have H:=H1;clear H1;obtain rfl:=Option.some.inj H;go_wp2;go_ret;exact ⟨by first|rfl|(simp [errW_none,errW_some] <;> rfl)|(simp [*,errW_none,errW_some] <;> rfl),by repeat (first|(with_reducible first|exact HB.out|apply below_alloc|apply pw_below_drewN|apply below_drew1|refine below_set ?_ GE167.out)|exact HB.out)⟩
   ·replace c27:=Bool.eq_false_iff.mpr c27;subst c27;(have H1:(hucksterref16_May.l0 kj1 0 l0_0 l0_1 l0_2 l0_3 l0_4)=some r:=by rw [if_neg (show ¬ (false=true) by decide)] at H;exact H);clear H;have H:=H1;clear H1;have H':=Aside0.mk H;clear H;go_wp2;go_loopg [3] kj1 (fun kq v3 w'=>∃ (x3_2:Int),v3 = .int .i64 x3_2∧Aside0 (hucksterref16_May.l0 kq x3_2 l0_0 l0_1 l0_2 l0_3 l0_4=some r)∧Aside0 (kq ≤ kj1)∧Aside0 (w'.heap[gb167]? = some (.cells #[(.slice A0_0 l0_0.length c0_0),(.slice A0_1 l0_1.length c0_1),(.slice A0_2 l0_2.length c0_2),(.slice A0_3 l0_3.length c0_3),(.slice A0_4 l0_4.length c0_4)] 26 (0,0)))∧Aside0 (Below w.heap.size w w'))
    case atStart=>exact ⟨(0),(by first|rfl|(simp;done)|(simp [*];done)),H',⟨Nat.le_refl _⟩,⟨by (with_reducible repeat (first|refine blk_drewN ?_ _|refine blk_drew ?_|refine blk_alloc ?_ _));exact BK167.out⟩,⟨by repeat (first|(with_reducible first|exact HB.out|apply below_alloc|apply pw_below_drewN|apply below_drew1|refine below_set ?_ GE167.out)|exact HB.out)⟩⟩
    case round =>
     clear H';(try clear c1);(try clear c2);(try clear p2);(try clear c4);(try clear c4b0);(try clear c4b1);(try clear c6);(try clear c6b0);(try clear c6b1);(try clear c8);(try clear c8b0);(try clear c8b1);(try clear c10);(try clear c10b0);(try clear c10b1);(try clear c12);(try clear c12b0);(try clear c12b1);(try clear c16);(try clear c27);(try clear hcz11_0);(try clear hcz11_1);(try clear hcz11_2);(try clear hcz11_3);(try clear hcz11_4);(try clear hcz13_0);(try clear hcz13_1);(try clear hcz13_2);(try clear hcz13_3);(try clear hcz13_4);(try clear hcz18_0);(try clear hcz18_1);(try clear hcz18_2);(try clear hcz18_3);(try clear hcz18_4);(try clear hcz22_0);(try clear hcz22_1);(try clear hcz22_2);(try clear hcz22_3);(try clear hcz22_4);(try clear hcz23_0);(try clear hcz23_1);(try clear hcz23_2);(try clear hcz23_3);(try clear hcz23_4);(try clear hcz5_0);(try clear hcz5_1);(try clear hcz5_2);(try clear hcz5_3);(try clear hcz5_4);(try clear hcz7_0);(try clear hcz7_1);(try clear hcz7_2);(try clear hcz7_3);(try clear hcz7_4);(try clear hcz9_0);(try clear hcz9_1);(try clear hcz9_2);(try clear hcz9_3);(try clear hcz9_4);(try clear hfz11_0);(try clear hfz11_1);(try clear hfz11_2);(try clear hfz11_3);(try clear hfz11_4);(try clear hfz13_0);(try clear hfz13_1);(try clear hfz13_2);(try clear hfz13_3);(try clear hfz13_4);(try clear hfz18_0);(try clear hfz18_1);(try clear hfz18_2);(try clear hfz18_3);(try clear hfz18_4);(try clear hfz22_0);(try clear hfz22_1);(try clear hfz22_2);(try clear hfz22_3);(try clear hfz22_4);(try clear hfz23_0);(try clear hfz23_1);(try clear hfz23_2);(try clear hfz23_3);(try clear hfz23_4);(try clear hfz5_0);(try clear hfz5_1);(try clear hfz5_2);(try clear hfz5_3);(try clear hfz5_4);(try clear hfz7_0);(try clear hfz7_1);(try clear hfz7_2);(try clear hfz7_3);(try clear hfz7_4);(try clear hfz9_0);(try clear hfz9_1);(try clear hfz9_2);(try clear hfz9_3);(try clear hfz9_4);(try clear p2);obtain ⟨x3_2,rfl,HA,HK2,BK167,HB⟩:=hrel;cases gk with
     | zero=>exact absurd HA.out (by simp [hucksterref16_May.l0])
     | succ k2 =>
      have H:=HA.out;clear HA;simp only [hucksterref16_May.l0] at H;by_cases c28:x3_2 < (l0_3.length:Int)
      ·rw [if_pos c28] at H;have c28b0:decide (x3_2 < (l0_3.length:Int))=true:=decide_eq_true c28;clear c28;by_cases c29:0 ≤ x3_2
       ·rw [if_pos c29] at H;have c29b0:decide (0 ≤ x3_2)=true:=decide_eq_true c29;clear c29;replace H:=Option.bind_eq_some_iff.mp H;obtain ⟨t174,A300,H⟩:=H;replace H:(if t174=true then (hucksterref16_May.l0 k2 (wrap64 (x3_2 + 1)) l0_0 l0_1 l0_2 l0_3 l0_4) else (some false))=some r:=H;have A30:=Aside0.mk A300;clear A300;by_cases c31:t174=true
        ·subst c31;(have H1:(hucksterref16_May.l0 k2 (wrap64 (x3_2 + 1)) l0_0 l0_1 l0_2 l0_3 l0_4)=some r:=by rw [if_pos rfl] at H;exact H);clear H;have H:=H1;clear H1;have H':=Aside0.mk H;clear H;obtain ⟨hcz32_0,hcz32_1,hcz32_2,hcz32_3,hcz32_4⟩:=bc5 BK167.out;obtain ⟨hfz32_0,hfz32_1,hfz32_2,hfz32_3,hfz32_4⟩:=bf5 BK167.out;(try go_wp2);have n0_:=Aside0.mk (blk_drew BK167.out);have n1_:=Aside0.mk (below_drew1 HB.out);clear BK167;clear HB;have BK167:=n0_;have HB:=n1_;clear n0_ n1_;have p173:0 ≤ (x3_2:Int):=of_decide_eq_true (by first|(with_reducible assumption)|assumption);have q173:x3_2 < (l0_3.length:Int):=of_decide_eq_true (by first|(with_reducible assumption)|assumption);obtain ⟨ad173,e173,hx173_0,hx173_1,hx173_2,hx173_3,hx173_4⟩:=at_T35 HR0_3.out x3_2 p173 q173;have hw173_4:=hx173_4;have hw173_3:=hx173_3;have hw173_2:=hx173_2;have hw173_1:=hx173_1;have hw173_0:=hx173_0;cases e173;replace hx173_0:=(HB.out.cell (World.block_lt_of_cell? w _ hx173_0)).trans hx173_0;replace hx173_1:=(HB.out.cell (World.block_lt_of_cell? w _ hx173_1)).trans hx173_1;replace hx173_2:=(HB.out.cell (World.block_lt_of_cell? w _ hx173_2)).trans hx173_2;replace hx173_3:=(HB.out.cell (World.block_lt_of_cell? w _ hx173_3)).trans hx173_3;replace hx173_4:=(HB.out.cell (World.block_lt_of_cell? w _ hx173_4)).trans hx173_4;replace p173:=eq_true p173;replace q173:=eq_true q173;refine start_ (n:=8) (S:=fun w'=>w'.cell? ⟨gb167,0,none⟩=some (.slice A0_0 l0_0.length c0_0)∧w'.cell? ⟨gb167,1,none⟩=some (.slice A0_1 l0_1.length c0_1)∧w'.cell? ⟨gb167,2,none⟩=some (.slice A0_2 l0_2.length c0_2)∧w'.cell? ⟨gb167,3,none⟩=some (.slice (some ad173) l0_3.length c0_3)∧w'.cell? ⟨gb167,4,none⟩=some (.slice A0_4 l0_4.length c0_4)∧w'.cell? (ad173.add ((x3_2).toNat * 5))=some (.int .i64 ((rd_T35 l0_3 x3_2).f0))∧w'.cell? ⟨(ad173.add ((x3_2).toNat * 5)).block,(ad173.add ((x3_2).toNat * 5)).off + 1,none⟩=some (.bool ((rd_T35 l0_3 x3_2).f1))∧w'.cell? ⟨(ad173.add ((x3_2).toNat * 5)).block,(ad173.add ((x3_2).toNat * 5)).off + 2,none⟩=some (.int .i64 ((rd_T35 l0_3 x3_2).f2))∧w'.cell? ⟨(ad173.add ((x3_2).toNat * 5)).block,(ad173.add ((x3_2).toNat * 5)).off + 3,none⟩=some (.int .i64 ((rd_T35 l0_3 x3_2).f3))∧w'.cell? ⟨(ad173.add ((x3_2).toNat * 5)).block,(ad173.add ((x3_2).toNat * 5)).off + 4,none⟩=some (.int .i64 ((rd_T35 l0_3 x3_2).f4))) (ds:=[]) (ab 8 0) (by kernel_rfl) rfl rfl ⟨(blk_cell BK167.out 0).trans rfl,(blk_cell BK167.out 1).trans rfl,(blk_cell BK167.out 2).trans rfl,(blk_cell BK167.out 3).trans rfl,(blk_cell BK167.out 4).trans rfl,((HB.out.cell (World.block_lt_of_cell? w _ hw173_0)).trans hw173_0),((HB.out.cell (World.block_lt_of_cell? w _ hw173_1)).trans hw173_1),((HB.out.cell (World.block_lt_of_cell? w _ hw173_2)).trans hw173_2),((HB.out.cell (World.block_lt_of_cell? w _ hw173_3)).trans hw173_3),((HB.out.cell (World.block_lt_of_cell? w _ hw173_4)).trans hw173_4)⟩ (fun hHeld=>?_);refine with_tabW hucksterref16_May.tab6 hucksterref16_May.bits6 (fun HT_ HW_=>?_);generalize wr.drew=w33 at BK167 HB hx173_0 hx173_1 hx173_2 hx173_3 hx173_4 hHeld ⊢;refine pure_ (i:=1) (N:=some 53) (v:=?_) (a':=?_) (ab 8 2) rfl rfl (any_of HT_.out (by kernel_rfl)) (fun _ _ _ h=>h) (Or.inl ⟨by rfl,?_⟩) ?_ ?_;rotate_left
         ·intro w';go_simp;with_reducible rfl
         rotate_left
         ·simp only [Act.put,q1_,q2_,q3_,i64_w,i32_w];rfl
         refine pure_ (i:=3) (N:=some 55) (v:=?_) (a':=?_) (ab 8 10) rfl rfl (any_of HT_.out (by kernel_rfl)) (fun _ _ _ h=>h) (Or.inl ⟨by rfl,?_⟩) ?_ ?_;rotate_left
         ·intro w';go_simp;with_reducible rfl
         rotate_left
         ·simp only [Act.put,q1_,q2_,q3_,i64_w,i32_w];rfl
         refine take_ (i:=0) (N:=some 52) (v:=?_) (a':=?_) (ab 8 11) rfl rfl (take_ofW HT_.out HW_.out (by kernel_rfl)) (fun _ _ _ h=>h) (Or.inl ⟨by rfl,?_⟩) hHeld ?_ ?_;rotate_left
         ·rintro w' ⟨s0,s1,s2,s3,s4,s5,s6,s7,s8,s9⟩;go_simp;with_reducible rfl
         rotate_left
         ·simp only [Act.put,q1_,q2_,q3_,i64_w,i32_w];rfl
         refine take_ (i:=2) (N:=some 54) (v:=?_) (a':=?_) (ab 8 15) rfl rfl (take_ofW HT_.out HW_.out (by kernel_rfl)) (fun _ _ _ h=>h) (Or.inl ⟨by rfl,?_⟩) hHeld ?_ ?_;rotate_left
         ·rintro w' ⟨s0,s1,s2,s3,s4,s5,s6,s7,s8,s9⟩;go_simp;with_reducible rfl
         rotate_left
         ·simp only [Act.put,q1_,q2_,q3_,i64_w,i32_w];rfl
         refine pure_ (i:=4) (N:=some 56) (v:=?_) (a':=?_) (ab 8 31) rfl rfl (any_of HT_.out (by kernel_rfl)) (fun _ _ _ h=>h) (Or.inl ⟨by rfl,?_⟩) ?_ ?_;rotate_left
         ·intro w';go_simp;with_reducible rfl
         rotate_left
         ·simp only [Act.put,q1_,q2_,q3_,i64_w,i32_w];rfl
         refine take_ (i:=5) (N:=some 57) (v:=?_) (a':=?_) (ab 8 63) rfl rfl (take_ofW HT_.out HW_.out (by kernel_rfl)) (fun _ _ _ h=>h) (Or.inl ⟨by rfl,?_⟩) hHeld ?_ ?_;rotate_left
         ·rintro w' ⟨s0,s1,s2,s3,s4,s5,s6,s7,s8,s9⟩;go_simp;with_reducible rfl
         rotate_left
         ·simp only [Act.put,q1_,q2_,q3_,i64_w,i32_w];rfl
         refine one_ (i:=6) (N:=some 58) (ab 8 127) rfl rfl (one_of HT_.out (by kernel_rfl)) (by decide) (fun K hK=>?_);refine goes_ Tryd.func28 (by kernel_rfl) rfl #[.agg #[.slice A0_0 l0_0.length c0_0,.slice A0_1 l0_1.length c0_1,.slice A0_2 l0_2.length c0_2,.slice (some ad173) l0_3.length c0_3,.slice A0_4 l0_4.length c0_4],.agg #[.int .i64 ((rd_T35 l0_3 x3_2).f0),.bool ((rd_T35 l0_3 x3_2).f1),.int .i64 ((rd_T35 l0_3 x3_2).f2),.int .i64 ((rd_T35 l0_3 x3_2).f3),.int .i64 ((rd_T35 l0_3 x3_2).f4)]] (by rfl) rfl rfl (by (try simp only [List.map_toArray,List.map_cons,List.map_nil]);first|done|rfl|(simp only [List.length_drop,List.length_take];rfl)) ?_;(with_reducible refine (hucksterref16_Clause.calls k2 _ _ l0_0 _ _ l0_1 _ _ l0_2 _ _ l0_3 _ _ l0_4 ((rd_T35 l0_3 x3_2).f0) ((rd_T35 l0_3 x3_2).f1) ((rd_T35 l0_3 x3_2).f2) ((rd_T35 l0_3 x3_2).f3) ((rd_T35 l0_3 x3_2).f4) true _ ?side1 ?side2 ?side3 ?side4 ?side5 ?side6 ?side7 ?side8 ?side9 ?side10 A30.out).mono ?_);(case side1=>repeat (first|exact (Kd.C_below HR0_0.out HB.out)|(with_reducible refine Kd.C_alloc ?_ _)|(with_reducible refine Kd.C_drewN ?_ _)|(with_reducible refine Kd.C_drew ?_)));(case side2=>exact HC0_0.out);(case side3=>repeat (first|exact (Kd.C_below HR0_1.out HB.out)|(with_reducible refine Kd.C_alloc ?_ _)|(with_reducible refine Kd.C_drewN ?_ _)|(with_reducible refine Kd.C_drew ?_)));(case side4=>exact HC0_1.out);(case side5=>repeat (first|exact (Kd.C_below HR0_2.out HB.out)|(with_reducible refine Kd.C_alloc ?_ _)|(with_reducible refine Kd.C_drewN ?_ _)|(with_reducible refine Kd.C_drew ?_)));(case side6=>exact HC0_2.out);(case side7=>repeat (first|exact (Kd.C_below HR0_3.out HB.out)|(with_reducible refine Kd.C_alloc ?_ _)|(with_reducible refine Kd.C_drewN ?_ _)|(with_reducible refine Kd.C_drew ?_)));(case side8=>exact HC0_3.out);(case side9=>repeat (first|exact (Kd.C_below HR0_4.out HB.out)|(with_reducible refine Kd.C_alloc ?_ _)|(with_reducible refine Kd.C_drewN ?_ _)|(with_reducible refine Kd.C_drew ?_)));(case side10=>exact HC0_4.out);rintro e w34 ⟨rfl,hb⟩;refine ⟨_,rfl,?_⟩;have n0_:=Aside0.mk (blk_below (g:=gb167) (o:=.cells #[.slice A0_0 l0_0.length c0_0,.slice A0_1 l0_1.length c0_1,.slice A0_2 l0_2.length c0_2,.slice (some ad173) l0_3.length c0_3,.slice A0_4 l0_4.length c0_4] 26 (0,0)) (by (with_reducible repeat (first|refine blk_drewN ?_ _|refine blk_drew ?_|refine blk_alloc ?_ _));exact BK167.out) hb);have n1_:=Aside0.mk (below_step (by repeat (first|(with_reducible first|exact HB.out|apply below_alloc|apply pw_below_drewN|apply below_drew1|refine below_set ?_ GE167.out)|exact HB.out)) hb);clear BK167;clear HB;have BK167:=n0_;have HB:=n1_;clear n0_ n1_;(try clear hb);(try clear hb2);(try clear hk);(try clear hi);refine hK.out _ _ ⟨(blk_cell BK167.out 0).trans rfl,(blk_cell BK167.out 1).trans rfl,(blk_cell BK167.out 2).trans rfl,(blk_cell BK167.out 3).trans rfl,(blk_cell BK167.out 4).trans rfl,((HB.out.cell (World.block_lt_of_cell? w _ hw173_0)).trans hw173_0),((HB.out.cell (World.block_lt_of_cell? w _ hw173_1)).trans hw173_1),((HB.out.cell (World.block_lt_of_cell? w _ hw173_2)).trans hw173_2),((HB.out.cell (World.block_lt_of_cell? w _ hw173_3)).trans hw173_3),((HB.out.cell (World.block_lt_of_cell? w _ hw173_4)).trans hw173_4)⟩ (fun hHeld=>?_);clear hK K;refine norm_ (a':=?_) ?_ ?_;rotate_left
         ·show Act.put _ (some 58) _=_;simp only [Act.put,q1_,q2_,q3_,i64_w,i32_w];rfl
         refine pure_ (i:=7) (N:=some 59) (v:=?_) (a':=?_) (ab 8 255) rfl rfl (any_of HT_.out (by kernel_rfl)) (fun _ _ _ h=>h) (Or.inl ⟨by rfl,?_⟩) ?_ ?_;rotate_left
         ·intro w';go_simp;with_reducible rfl
         rotate_left
         ·simp only [Act.put,q1_,q2_,q3_,i64_w,i32_w];rfl
         refine done_ (done_of HT_.out (by kernel_rfl)) ?_;(try go_wp2);go_roundg k2
         case measure=>have:=HJ1.out;have:=HK2.out;omega
         case rel=>exact ⟨(wrap64 (x3_2 + 1)),(by first|rfl|(simp;done)|(simp [*];done)),H',⟨by have:=HJ1.out;have:=HK2.out;omega⟩,⟨by (with_reducible repeat (first|refine blk_drewN ?_ _|refine blk_drew ?_|refine blk_alloc ?_ _));exact BK167.out⟩,⟨by repeat (first|(with_reducible first|exact HB.out|apply below_alloc|apply pw_below_drewN|apply below_drew1|refine below_set ?_ GE167.out)|exact HB.out)⟩⟩
        ·replace c31:=Bool.eq_false_iff.mpr c31;subst c31;(have H1:(some false)=some r:=by rw [if_neg (show ¬ (false=true) by decide)] at H;exact H);clear H;have H:=H1;clear H1;obtain rfl:=Option.some.inj H;obtain ⟨hcz35_0,hcz35_1,hcz35_2,hcz35_3,hcz35_4⟩:=bc5 BK167.out;obtain ⟨hfz35_0,hfz35_1,hfz35_2,hfz35_3,hfz35_4⟩:=bf5 BK167.out;(try go_wp2);have n0_:=Aside0.mk (blk_drew BK167.out);have n1_:=Aside0.mk (below_drew1 HB.out);clear BK167;clear HB;have BK167:=n0_;have HB:=n1_;clear n0_ n1_;have p173:0 ≤ (x3_2:Int):=of_decide_eq_true (by first|(with_reducible assumption)|assumption);have q173:x3_2 < (l0_3.length:Int):=of_decide_eq_true (by first|(with_reducible assumption)|assumption);obtain ⟨ad173,e173,hx173_0,hx173_1,hx173_2,hx173_3,hx173_4⟩:=at_T35 HR0_3.out x3_2 p173 q173;have hw173_4:=hx173_4;have hw173_3:=hx173_3;have hw173_2:=hx173_2;have hw173_1:=hx173_1;have hw173_0:=hx173_0;cases e173;replace hx173_0:=(HB.out.cell (World.block_lt_of_cell? w _ hx173_0)).trans hx173_0;replace hx173_1:=(HB.out.cell (World.block_lt_of_cell? w _ hx173_1)).trans hx173_1;replace hx173_2:=(HB.out.cell (World.block_lt_of_cell? w _ hx173_2)).trans hx173_2;replace hx173_3:=(HB.out.cell (World.block_lt_of_cell? w _ hx173_3)).trans hx173_3;replace hx173_4:=(HB.out.cell (World.block_lt_of_cell? w _ hx173_4)).trans hx173_4;replace p173:=eq_true p173;replace q173:=eq_true q173;refine start_ (n:=8) (S:=fun w'=>w'.cell? ⟨gb167,0,none⟩=some (.slice A0_0 l0_0.length c0_0)∧w'.cell? ⟨gb167,1,none⟩=some (.slice A0_1 l0_1.length c0_1)∧w'.cell? ⟨gb167,2,none⟩=some (.slice A0_2 l0_2.length c0_2)∧w'.cell? ⟨gb167,3,none⟩=some (.slice (some ad173) l0_3.length c0_3)∧w'.cell? ⟨gb167,4,none⟩=some (.slice A0_4 l0_4.length c0_4)∧w'.cell? (ad173.add ((x3_2).toNat * 5))=some (.int .i64 ((rd_T35 l0_3 x3_2).f0))∧w'.cell? ⟨(ad173.add ((x3_2).toNat * 5)).block,(ad173.add ((x3_2).toNat * 5)).off + 1,none⟩=some (.bool ((rd_T35 l0_3 x3_2).f1))∧w'.cell? ⟨(ad173.add ((x3_2).toNat * 5)).block,(ad173.add ((x3_2).toNat * 5)).off + 2,none⟩=some (.int .i64 ((rd_T35 l0_3 x3_2).f2))∧w'.cell? ⟨(ad173.add ((x3_2).toNat * 5)).block,(ad173.add ((x3_2).toNat * 5)).off + 3,none⟩=some (.int .i64 ((rd_T35 l0_3 x3_2).f3))∧w'.cell? ⟨(ad173.add ((x3_2).toNat * 5)).block,(ad173.add ((x3_2).toNat * 5)).off + 4,none⟩=some (.int .i64 ((rd_T35 l0_3 x3_2).f4))) (ds:=[]) (ab 8 0) (by kernel_rfl) rfl rfl ⟨(blk_cell BK167.out 0).trans rfl,(blk_cell BK167.out 1).trans rfl,(blk_cell BK167.out 2).trans rfl,(blk_cell BK167.out 3).trans rfl,(blk_cell BK167.out 4).trans rfl,((HB.out.cell (World.block_lt_of_cell? w _ hw173_0)).trans hw173_0),((HB.out.cell (World.block_lt_of_cell? w _ hw173_1)).trans hw173_1),((HB.out.cell (World.block_lt_of_cell? w _ hw173_2)).trans hw173_2),((HB.out.cell (World.block_lt_of_cell? w _ hw173_3)).trans hw173_3),((HB.out.cell (World.block_lt_of_cell? w _ hw173_4)).trans hw173_4)⟩ (fun hHeld=>?_);refine with_tabW hucksterref16_May.tab6 hucksterref16_May.bits6 (fun HT_ HW_=>?_);generalize wr.drew=w36 at BK167 HB hx173_0 hx173_1 hx173_2 hx173_3 hx173_4 hHeld ⊢;refine pure_ (i:=1) (N:=some 53) (v:=?_) (a':=?_) (ab 8 2) rfl rfl (any_of HT_.out (by kernel_rfl)) (fun _ _ _ h=>h) (Or.inl ⟨by rfl,?_⟩) ?_ ?_;rotate_left
         ·intro w';go_simp;with_reducible rfl
         rotate_left
         ·simp only [Act.put,q1_,q2_,q3_,i64_w,i32_w];rfl
         refine pure_ (i:=3) (N:=some 55) (v:=?_) (a':=?_) (ab 8 10) rfl rfl (any_of HT_.out (by kernel_rfl)) (fun _ _ _ h=>h) (Or.inl ⟨by rfl,?_⟩) ?_ ?_;rotate_left
         ·intro w';go_simp;with_reducible rfl
         rotate_left
         ·simp only [Act.put,q1_,q2_,q3_,i64_w,i32_w];rfl
         refine take_ (i:=0) (N:=some 52) (v:=?_) (a':=?_) (ab 8 11) rfl rfl (take_ofW HT_.out HW_.out (by kernel_rfl)) (fun _ _ _ h=>h) (Or.inl ⟨by rfl,?_⟩) hHeld ?_ ?_;rotate_left
         ·rintro w' ⟨s0,s1,s2,s3,s4,s5,s6,s7,s8,s9⟩;go_simp;with_reducible rfl
         rotate_left
         ·simp only [Act.put,q1_,q2_,q3_,i64_w,i32_w];rfl
         refine take_ (i:=2) (N:=some 54) (v:=?_) (a':=?_) (ab 8 15) rfl rfl (take_ofW HT_.out HW_.out (by kernel_rfl)) (fun _ _ _ h=>h) (Or.inl ⟨by rfl,?_⟩) hHeld ?_ ?_;rotate_left
         ·rintro w' ⟨s0,s1,s2,s3,s4,s5,s6,s7,s8,s9⟩;go_simp;with_reducible rfl
         rotate_left
         ·simp only [Act.put,q1_,q2_,q3_,i64_w,i32_w];rfl
         refine pure_ (i:=4) (N:=some 56) (v:=?_) (a':=?_) (ab 8 31) rfl rfl (any_of HT_.out (by kernel_rfl)) (fun _ _ _ h=>h) (Or.inl ⟨by rfl,?_⟩) ?_ ?_;rotate_left
         ·intro w';go_simp;with_reducible rfl
         rotate_left
         ·simp only [Act.put,q1_,q2_,q3_,i64_w,i32_w];rfl
         refine take_ (i:=5) (N:=some 57) (v:=?_) (a':=?_) (ab 8 63) rfl rfl (take_ofW HT_.out HW_.out (by kernel_rfl)) (fun _ _ _ h=>h) (Or.inl ⟨by rfl,?_⟩) hHeld ?_ ?_;rotate_left
         ·rintro w' ⟨s0,s1,s2,s3,s4,s5,s6,s7,s8,s9⟩;go_simp;with_reducible rfl
         rotate_left
         ·simp only [Act.put,q1_,q2_,q3_,i64_w,i32_w];rfl
         refine one_ (i:=6) (N:=some 58) (ab 8 127) rfl rfl (one_of HT_.out (by kernel_rfl)) (by decide) (fun K hK=>?_);refine goes_ Tryd.func28 (by kernel_rfl) rfl #[.agg #[.slice A0_0 l0_0.length c0_0,.slice A0_1 l0_1.length c0_1,.slice A0_2 l0_2.length c0_2,.slice (some ad173) l0_3.length c0_3,.slice A0_4 l0_4.length c0_4],.agg #[.int .i64 ((rd_T35 l0_3 x3_2).f0),.bool ((rd_T35 l0_3 x3_2).f1),.int .i64 ((rd_T35 l0_3 x3_2).f2),.int .i64 ((rd_T35 l0_3 x3_2).f3),.int .i64 ((rd_T35 l0_3 x3_2).f4)]] (by rfl) rfl rfl (by (try simp only [List.map_toArray,List.map_cons,List.map_nil]);first|done|rfl|(simp only [List.length_drop,List.length_take];rfl)) ?_;(with_reducible refine (hucksterref16_Clause.calls k2 _ _ l0_0 _ _ l0_1 _ _ l0_2 _ _ l0_3 _ _ l0_4 ((rd_T35 l0_3 x3_2).f0) ((rd_T35 l0_3 x3_2).f1) ((rd_T35 l0_3 x3_2).f2) ((rd_T35 l0_3 x3_2).f3) ((rd_T35 l0_3 x3_2).f4) false _ ?side1 ?side2 ?side3 ?side4 ?side5 ?side6 ?side7 ?side8 ?side9 ?side10 A30.out).mono ?_);(case side1=>repeat (first|exact (Kd.C_below HR0_0.out HB.out)|(with_reducible refine Kd.C_alloc ?_ _)|(with_reducible refine Kd.C_drewN ?_ _)|(with_reducible refine Kd.C_drew ?_)));(case side2=>exact HC0_0.out);(case side3=>repeat (first|exact (Kd.C_below HR0_1.out HB.out)|(with_reducible refine Kd.C_alloc ?_ _)|(with_reducible refine Kd.C_drewN ?_ _)|(with_reducible refine Kd.C_drew ?_)));(case side4=>exact HC0_1.out);(case side5=>repeat (first|exact (Kd.C_below HR0_2.out HB.out)|(with_reducible refine Kd.C_alloc ?_ _)|(with_reducible refine Kd.C_drewN ?_ _)|(with_reducible refine Kd.C_drew ?_)));(case side6=>exact HC0_2.out);(case side7=>repeat (first|exact (Kd.C_below HR0_3.out HB.out)|(with_reducible refine Kd.C_alloc ?_ _)|(with_reducible refine Kd.C_drewN ?_ _)|(with_reducible refine Kd.C_drew ?_)));(case side8=>exact HC0_3.out);(case side9=>repeat (first|exact (Kd.C_below HR0_4.out HB.out)|(with_reducible refine Kd.C_alloc ?_ _)|(with_reducible refine Kd.C_drewN ?_ _)|(with_reducible refine Kd.C_drew ?_)));(case side10=>exact HC0_4.out);rintro e w37 ⟨rfl,hb⟩;refine ⟨_,rfl,?_⟩;have n0_:=Aside0.mk (blk_below (g:=gb167) (o:=.cells #[.slice A0_0 l0_0.length c0_0,.slice A0_1 l0_1.length c0_1,.slice A0_2 l0_2.length c0_2,.slice (some ad173) l0_3.length c0_3,.slice A0_4 l0_4.length c0_4] 26 (0,0)) (by (with_reducible repeat (first|refine blk_drewN ?_ _|refine blk_drew ?_|refine blk_alloc ?_ _));exact BK167.out) hb);have n1_:=Aside0.mk (below_step (by repeat (first|(with_reducible first|exact HB.out|apply below_alloc|apply pw_below_drewN|apply below_drew1|refine below_set ?_ GE167.out)|exact HB.out)) hb);clear BK167;clear HB;have BK167:=n0_;have HB:=n1_;clear n0_ n1_;(try clear hb);(try clear hb2);(try clear hk);(try clear hi);refine hK.out _ _ ⟨(blk_cell BK167.out 0).trans rfl,(blk_cell BK167.out 1).trans rfl,(blk_cell BK167.out 2).trans rfl,(blk_cell BK167.out 3).trans rfl,(blk_cell BK167.out 4).trans rfl,((HB.out.cell (World.block_lt_of_cell? w _ hw173_0)).trans hw173_0),((HB.out.cell (World.block_lt_of_cell? w _ hw173_1)).trans hw173_1),((HB.out.cell (World.block_lt_of_cell? w _ hw173_2)).trans hw173_2),((HB.out.cell (World.block_lt_of_cell? w _ hw173_3)).trans hw173_3),((HB.out.cell (World.block_lt_of_cell? w _ hw173_4)).trans hw173_4)⟩ (fun hHeld=>?_);clear hK K;refine norm_ (a':=?_) ?_ ?_;rotate_left
         ·show Act.put _ (some 58) _=_;simp only [Act.put,q1_,q2_,q3_,i64_w,i32_w];rfl
         refine pure_ (i:=7) (N:=some 59) (v:=?_) (a':=?_) (ab 8 255) rfl rfl (any_of HT_.out (by kernel_rfl)) (fun _ _ _ h=>h) (Or.inl ⟨by rfl,?_⟩) ?_ ?_;rotate_left
         ·intro w';go_simp;with_reducible rfl
         rotate_left
         ·simp only [Act.put,q1_,q2_,q3_,i64_w,i32_w];rfl
         refine done_ (done_of HT_.out (by kernel_rfl)) ?_;(try go_wp2);go_ret;exact ⟨by first|rfl|(simp [errW_none,errW_some] <;> rfl)|(simp [*,errW_none,errW_some] <;> rfl),by repeat (first|(with_reducible first|exact HB.out|apply below_alloc|apply pw_below_drewN|apply below_drew1|refine below_set ?_ GE167.out)|exact HB.out)⟩
       ·rw [if_neg c29] at H;exact absurd H (by simp)
      ·rw [if_neg c28] at H;have c28b0:decide (x3_2 < (l0_3.length:Int))=false:=decide_eq_false c28;clear c28;have H':=Aside0.mk H;clear H;obtain ⟨hcz38_0,hcz38_1,hcz38_2,hcz38_3,hcz38_4⟩:=bc5 BK167.out;obtain ⟨hfz38_0,hfz38_1,hfz38_2,hfz38_3,hfz38_4⟩:=bf5 BK167.out;go_wp2;go_loopg [4] k2 (fun kq v4 w'=>∃ (x4_3:Int),v4 = .int .i64 x4_3∧Aside0 (hucksterref16_May.l1 kq x4_3 l0_0 l0_1 l0_2 l0_3 l0_4=some r)∧Aside0 (kq ≤ k2)∧Aside0 (w'.heap[gb167]? = some (.cells #[(.slice A0_0 l0_0.length c0_0),(.slice A0_1 l0_1.length c0_1),(.slice A0_2 l0_2.length c0_2),(.slice A0_3 l0_3.length c0_3),(.slice A0_4 l0_4.length c0_4)] 26 (0,0)))∧Aside0 (Below w.heap.size w w'))
       case atStart=>exact ⟨(0),(by first|rfl|(simp;done)|(simp [*];done)),H',⟨Nat.le_refl _⟩,⟨by (with_reducible repeat (first|refine blk_drewN ?_ _|refine blk_drew ?_|refine blk_alloc ?_ _));exact BK167.out⟩,⟨by repeat (first|(with_reducible first|exact HB.out|apply below_alloc|apply pw_below_drewN|apply below_drew1|refine below_set ?_ GE167.out)|exact HB.out)⟩⟩
       case round =>
        clear H';(try clear c1);(try clear p1);(try clear q1);(try clear hx1);(try clear c2);(try clear p2);(try clear c3);(try clear c4);(try clear c4b0);(try clear c4b1);(try clear c6);(try clear c6b0);(try clear c6b1);(try clear p6);(try clear c8);(try clear c8b0);(try clear c8b1);(try clear c10);(try clear c10b0);(try clear c10b1);(try clear c12);(try clear c12b0);(try clear c12b1);(try clear c16);(try clear p17);(try clear q17);(try clear hx17);(try clear c27);(try clear c28);(try clear c28b0);(try clear c29);(try clear c29b0);(try clear c31);(try clear hcz11_0);(try clear hcz11_1);(try clear hcz11_2);(try clear hcz11_3);(try clear hcz11_4);(try clear hcz13_0);(try clear hcz13_1);(try clear hcz13_2);(try clear hcz13_3);(try clear hcz13_4);(try clear hcz18_0);(try clear hcz18_1);(try clear hcz18_2);(try clear hcz18_3);(try clear hcz18_4);(try clear hcz22_0);(try clear hcz22_1);(try clear hcz22_2);(try clear hcz22_3);(try clear hcz22_4);(try clear hcz23_0);(try clear hcz23_1);(try clear hcz23_2);(try clear hcz23_3);(try clear hcz23_4);(try clear hcz32_0);(try clear hcz32_1);(try clear hcz32_2);(try clear hcz32_3);(try clear hcz32_4);(try clear hcz35_0);(try clear hcz35_1);(try clear hcz35_2);(try clear hcz35_3);(try clear hcz35_4);(try clear hcz38_0);(try clear hcz38_1);(try clear hcz38_2);(try clear hcz38_3);(try clear hcz38_4);(try clear hcz5_0);(try clear hcz5_1);(try clear hcz5_2);(try clear hcz5_3);(try clear hcz5_4);(try clear hcz7_0);(try clear hcz7_1);(try clear hcz7_2);(try clear hcz7_3);(try clear hcz7_4);(try clear hcz9_0);(try clear hcz9_1);(try clear hcz9_2);(try clear hcz9_3);(try clear hcz9_4);(try clear hfz11_0);(try clear hfz11_1);(try clear hfz11_2);(try clear hfz11_3);(try clear hfz11_4);(try clear hfz13_0);(try clear hfz13_1);(try clear hfz13_2);(try clear hfz13_3);(try clear hfz13_4);(try clear hfz18_0);(try clear hfz18_1);(try clear hfz18_2);(try clear hfz18_3);(try clear hfz18_4);(try clear hfz22_0);(try clear hfz22_1);(try clear hfz22_2);(try clear hfz22_3);(try clear hfz22_4);(try clear hfz23_0);(try clear hfz23_1);(try clear hfz23_2);(try clear hfz23_3);(try clear hfz23_4);(try clear hfz32_0);(try clear hfz32_1);(try clear hfz32_2);(try clear hfz32_3);(try clear hfz32_4);(try clear hfz35_0);(try clear hfz35_1);(try clear hfz35_2);(try clear hfz35_3);(try clear hfz35_4);(try clear hfz38_0);(try clear hfz38_1);(try clear hfz38_2);(try clear hfz38_3);(try clear hfz38_4);(try clear hfz5_0);(try clear hfz5_1);(try clear hfz5_2);(try clear hfz5_3);(try clear hfz5_4);(try clear hfz7_0);(try clear hfz7_1);(try clear hfz7_2);(try clear hfz7_3);(try clear hfz7_4);(try clear hfz9_0);(try clear hfz9_1);(try clear hfz9_2);(try clear hfz9_3);(try clear hfz9_4);(try clear hx173_0);(try clear hx173_1);(try clear hx173_2);(try clear hx173_3);(try clear hx173_4);(try clear p173);(try clear p2);(try clear q173);obtain ⟨x4_3,rfl,HA,HK3,BK167,HB⟩:=hrel;cases gk with
        | zero=>exact absurd HA.out (by simp [hucksterref16_May.l1])
        | succ k3 =>
         have H:=HA.out;clear HA;simp only [hucksterref16_May.l1] at H;by_cases c39:x4_3 < (l0_4.length:Int)
         ·rw [if_pos c39] at H;have c39b0:decide (x4_3 < (l0_4.length:Int))=true:=decide_eq_true c39;clear c39;by_cases c40:0 ≤ x4_3
          ·rw [if_pos c40] at H;have c40b0:decide (0 ≤ x4_3)=true:=decide_eq_true c40;clear c40;replace H:=Option.bind_eq_some_iff.mp H;obtain ⟨t176,A410,H⟩:=H;replace H:(if t176=true then (hucksterref16_May.l1 k3 (wrap64 (x4_3 + 1)) l0_0 l0_1 l0_2 l0_3 l0_4) else (some false))=some r:=H;have A41:=Aside0.mk A410;clear A410;by_cases c42:t176=true
           ·subst c42;(have H1:(hucksterref16_May.l1 k3 (wrap64 (x4_3 + 1)) l0_0 l0_1 l0_2 l0_3 l0_4)=some r:=by rw [if_pos rfl] at H;exact H);clear H;have H:=H1;clear H1;have H':=Aside0.mk H;clear H;obtain ⟨hcz43_0,hcz43_1,hcz43_2,hcz43_3,hcz43_4⟩:=bc5 BK167.out;obtain ⟨hfz43_0,hfz43_1,hfz43_2,hfz43_3,hfz43_4⟩:=bf5 BK167.out;(try go_wp2);have n0_:=Aside0.mk (blk_drew BK167.out);have n1_:=Aside0.mk (below_drew1 HB.out);clear BK167;clear HB;have BK167:=n0_;have HB:=n1_;clear n0_ n1_;have p175:0 ≤ (x4_3:Int):=of_decide_eq_true (by first|(with_reducible assumption)|assumption);have q175:x4_3 < (l0_4.length:Int):=of_decide_eq_true (by first|(with_reducible assumption)|assumption);obtain ⟨ad175,A175_1,c175_1,e175,hx175_0,hx175_1,hl175_1,hi175_1⟩:=at_T39 HR0_4.out x4_3 p175 q175;have hw175_1:=hx175_1;have hw175_0:=hx175_0;cases e175;replace hx175_0:=(HB.out.cell (World.block_lt_of_cell? w _ hx175_0)).trans hx175_0;replace hx175_1:=(HB.out.cell (World.block_lt_of_cell? w _ hx175_1)).trans hx175_1;have HR175_1:=Aside0.mk hi175_1;have HC175_1:=Aside0.mk hl175_1;clear hi175_1 hl175_1;replace p175:=eq_true p175;replace q175:=eq_true q175;refine start_ (n:=8) (S:=fun w'=>w'.cell? ⟨gb167,0,none⟩=some (.slice A0_0 l0_0.length c0_0)∧w'.cell? ⟨gb167,1,none⟩=some (.slice A0_1 l0_1.length c0_1)∧w'.cell? ⟨gb167,2,none⟩=some (.slice A0_2 l0_2.length c0_2)∧w'.cell? ⟨gb167,3,none⟩=some (.slice A0_3 l0_3.length c0_3)∧w'.cell? ⟨gb167,4,none⟩=some (.slice (some ad175) l0_4.length c0_4)∧w'.cell? (ad175.add ((x4_3).toNat * 2))=some (.string ((rd_T39 l0_4 x4_3).f0))∧w'.cell? ⟨(ad175.add ((x4_3).toNat * 2)).block,(ad175.add ((x4_3).toNat * 2)).off + 1,none⟩=some (.slice A175_1 ((rd_T39 l0_4 x4_3).f1).length c175_1)) (ds:=[]) (ab 8 0) (by kernel_rfl) rfl rfl ⟨(blk_cell BK167.out 0).trans rfl,(blk_cell BK167.out 1).trans rfl,(blk_cell BK167.out 2).trans rfl,(blk_cell BK167.out 3).trans rfl,(blk_cell BK167.out 4).trans rfl,((HB.out.cell (World.block_lt_of_cell? w _ hw175_0)).trans hw175_0),((HB.out.cell (World.block_lt_of_cell? w _ hw175_1)).trans hw175_1)⟩ (fun hHeld=>?_);refine with_tabW hucksterref16_May.tab11 hucksterref16_May.bits11 (fun HT_ HW_=>?_);generalize wr.drew=w44 at BK167 HB HR175_1 hx175_0 hx175_1 hHeld ⊢;refine pure_ (i:=1) (N:=some 68) (v:=?_) (a':=?_) (ab 8 2) rfl rfl (any_of HT_.out (by kernel_rfl)) (fun _ _ _ h=>h) (Or.inl ⟨by rfl,?_⟩) ?_ ?_;rotate_left
            ·intro w';go_simp;with_reducible rfl
            rotate_left
            ·simp only [Act.put,q1_,q2_,q3_,i64_w,i32_w];rfl
            refine pure_ (i:=3) (N:=some 70) (v:=?_) (a':=?_) (ab 8 10) rfl rfl (any_of HT_.out (by kernel_rfl)) (fun _ _ _ h=>h) (Or.inl ⟨by rfl,?_⟩) ?_ ?_;rotate_left
            ·intro w';go_simp;with_reducible rfl
            rotate_left
            ·simp only [Act.put,q1_,q2_,q3_,i64_w,i32_w];rfl
            refine take_ (i:=0) (N:=some 67) (v:=?_) (a':=?_) (ab 8 11) rfl rfl (take_ofW HT_.out HW_.out (by kernel_rfl)) (fun _ _ _ h=>h) (Or.inl ⟨by rfl,?_⟩) hHeld ?_ ?_;rotate_left
            ·rintro w' ⟨s0,s1,s2,s3,s4,s5,s6⟩;go_simp;with_reducible rfl
            rotate_left
            ·simp only [Act.put,q1_,q2_,q3_,i64_w,i32_w];rfl
            refine take_ (i:=2) (N:=some 69) (v:=?_) (a':=?_) (ab 8 15) rfl rfl (take_ofW HT_.out HW_.out (by kernel_rfl)) (fun _ _ _ h=>h) (Or.inl ⟨by rfl,?_⟩) hHeld ?_ ?_;rotate_left
            ·rintro w' ⟨s0,s1,s2,s3,s4,s5,s6⟩;go_simp;with_reducible rfl
            rotate_left
            ·simp only [Act.put,q1_,q2_,q3_,i64_w,i32_w];rfl
            refine pure_ (i:=4) (N:=some 71) (v:=?_) (a':=?_) (ab 8 31) rfl rfl (any_of HT_.out (by kernel_rfl)) (fun _ _ _ h=>h) (Or.inl ⟨by rfl,?_⟩) ?_ ?_;rotate_left
            ·intro w';go_simp;with_reducible rfl
            rotate_left
            ·simp only [Act.put,q1_,q2_,q3_,i64_w,i32_w];rfl
            refine take_ (i:=5) (N:=some 72) (v:=?_) (a':=?_) (ab 8 63) rfl rfl (take_ofW HT_.out HW_.out (by kernel_rfl)) (fun _ _ _ h=>h) (Or.inl ⟨by rfl,?_⟩) hHeld ?_ ?_;rotate_left
            ·rintro w' ⟨s0,s1,s2,s3,s4,s5,s6⟩;go_simp;with_reducible rfl
            rotate_left
            ·simp only [Act.put,q1_,q2_,q3_,i64_w,i32_w];rfl
            refine one_ (i:=6) (N:=some 73) (ab 8 127) rfl rfl (one_of HT_.out (by kernel_rfl)) (by decide) (fun K hK=>?_);refine goes_ Tryd.func29 (by kernel_rfl) rfl #[.agg #[.slice A0_0 l0_0.length c0_0,.slice A0_1 l0_1.length c0_1,.slice A0_2 l0_2.length c0_2,.slice A0_3 l0_3.length c0_3,.slice (some ad175) l0_4.length c0_4],.agg #[.string ((rd_T39 l0_4 x4_3).f0),.slice A175_1 ((rd_T39 l0_4 x4_3).f1).length c175_1]] (by rfl) rfl rfl (by (try simp only [List.map_toArray,List.map_cons,List.map_nil]);first|done|rfl|(simp only [List.length_drop,List.length_take];rfl)) ?_;(with_reducible refine (hucksterref16_Oper.calls k3 _ _ l0_0 _ _ l0_1 _ _ l0_2 _ _ l0_3 _ _ l0_4 ((rd_T39 l0_4 x4_3).f0) _ _ ((rd_T39 l0_4 x4_3).f1) true _ ?side1 ?side2 ?side3 ?side4 ?side5 ?side6 ?side7 ?side8 ?side9 ?side10 ?side11 ?side12 A41.out).mono ?_);(case side1=>repeat (first|exact (Kd.C_below HR0_0.out HB.out)|(with_reducible refine Kd.C_alloc ?_ _)|(with_reducible refine Kd.C_drewN ?_ _)|(with_reducible refine Kd.C_drew ?_)));(case side2=>exact HC0_0.out);(case side3=>repeat (first|exact (Kd.C_below HR0_1.out HB.out)|(with_reducible refine Kd.C_alloc ?_ _)|(with_reducible refine Kd.C_drewN ?_ _)|(with_reducible refine Kd.C_drew ?_)));(case side4=>exact HC0_1.out);(case side5=>repeat (first|exact (Kd.C_below HR0_2.out HB.out)|(with_reducible refine Kd.C_alloc ?_ _)|(with_reducible refine Kd.C_drewN ?_ _)|(with_reducible refine Kd.C_drew ?_)));(case side6=>exact HC0_2.out);(case side7=>repeat (first|exact (Kd.C_below HR0_3.out HB.out)|(with_reducible refine Kd.C_alloc ?_ _)|(with_reducible refine Kd.C_drewN ?_ _)|(with_reducible refine Kd.C_drew ?_)));(case side8=>exact HC0_3.out);(case side9=>repeat (first|exact (Kd.C_below HR0_4.out HB.out)|(with_reducible refine Kd.C_alloc ?_ _)|(with_reducible refine Kd.C_drewN ?_ _)|(with_reducible refine Kd.C_drew ?_)));(case side10=>exact HC0_4.out);(case side11=>repeat (first|exact (Kd.C_below HR175_1.out HB.out)|(with_reducible refine Kd.C_alloc ?_ _)|(with_reducible refine Kd.C_drewN ?_ _)|(with_reducible refine Kd.C_drew ?_)));(case side12=>exact HC175_1.out);rintro e w45 ⟨rfl,hb⟩;refine ⟨_,rfl,?_⟩;have n0_:=Aside0.mk (blk_below (g:=gb167) (o:=.cells #[.slice A0_0 l0_0.length c0_0,.slice A0_1 l0_1.length c0_1,.slice A0_2 l0_2.length c0_2,.slice A0_3 l0_3.length c0_3,.slice (some ad175) l0_4.length c0_4] 26 (0,0)) (by (with_reducible repeat (first|refine blk_drewN ?_ _|refine blk_drew ?_|refine blk_alloc ?_ _));exact BK167.out) hb);have n1_:=Aside0.mk (below_step (by repeat (first|(with_reducible first|exact HB.out|apply below_alloc|apply pw_below_drewN|apply below_drew1|refine below_set ?_ GE167.out)|exact HB.out)) hb);clear BK167;clear HB;have BK167:=n0_;have HB:=n1_;clear n0_ n1_;(try clear hb);(try clear hb2);(try clear hk);(try clear hi);refine hK.out _ _ ⟨(blk_cell BK167.out 0).trans rfl,(blk_cell BK167.out 1).trans rfl,(blk_cell BK167.out 2).trans rfl,(blk_cell BK167.out 3).trans rfl,(blk_cell BK167.out 4).trans rfl,((HB.out.cell (World.block_lt_of_cell? w _ hw175_0)).trans hw175_0),((HB.out.cell (World.block_lt_of_cell? w _ hw175_1)).trans hw175_1)⟩ (fun hHeld=>?_);clear hK K;refine norm_ (a':=?_) ?_ ?_;rotate_left
            ·show Act.put _ (some 73) _=_;simp only [Act.put,q1_,q2_,q3_,i64_w,i32_w];rfl
            refine pure_ (i:=7) (N:=some 74) (v:=?_) (a':=?_) (ab 8 255) rfl rfl (any_of HT_.out (by kernel_rfl)) (fun _ _ _ h=>h) (Or.inl ⟨by rfl,?_⟩) ?_ ?_;rotate_left
            ·intro w';go_simp;with_reducible rfl
            rotate_left
            ·simp only [Act.put,q1_,q2_,q3_,i64_w,i32_w];rfl
            refine done_ (done_of HT_.out (by kernel_rfl)) ?_;(try go_wp2);go_roundg k3
            case measure=>have:=HJ1.out;have:=HK2.out;have:=HK3.out;omega
            case rel=>exact ⟨(wrap64 (x4_3 + 1)),(by first|rfl|(simp;done)|(simp [*];done)),H',⟨by have:=HJ1.out;have:=HK2.out;have:=HK3.out;omega⟩,⟨by (with_reducible repeat (first|refine blk_drewN ?_ _|refine blk_drew ?_|refine blk_alloc ?_ _));exact BK167.out⟩,⟨by repeat (first|(with_reducible first|exact HB.out|apply below_alloc|apply pw_below_drewN|apply below_drew1|refine below_set ?_ GE167.out)|exact HB.out)⟩⟩
           ·replace c42:=Bool.eq_false_iff.mpr c42;subst c42;(have H1:(some false)=some r:=by rw [if_neg (show ¬ (false=true) by decide)] at H;exact H);clear H;have H:=H1;clear H1;obtain rfl:=Option.some.inj H;obtain ⟨hcz46_0,hcz46_1,hcz46_2,hcz46_3,hcz46_4⟩:=bc5 BK167.out;obtain ⟨hfz46_0,hfz46_1,hfz46_2,hfz46_3,hfz46_4⟩:=bf5 BK167.out;(try go_wp2);have n0_:=Aside0.mk (blk_drew BK167.out);have n1_:=Aside0.mk (below_drew1 HB.out);clear BK167;clear HB;have BK167:=n0_;have HB:=n1_;clear n0_ n1_;have p175:0 ≤ (x4_3:Int):=of_decide_eq_true (by first|(with_reducible assumption)|assumption);have q175:x4_3 < (l0_4.length:Int):=of_decide_eq_true (by first|(with_reducible assumption)|assumption);obtain ⟨ad175,A175_1,c175_1,e175,hx175_0,hx175_1,hl175_1,hi175_1⟩:=at_T39 HR0_4.out x4_3 p175 q175;have hw175_1:=hx175_1;have hw175_0:=hx175_0;cases e175;replace hx175_0:=(HB.out.cell (World.block_lt_of_cell? w _ hx175_0)).trans hx175_0;replace hx175_1:=(HB.out.cell (World.block_lt_of_cell? w _ hx175_1)).trans hx175_1;have HR175_1:=Aside0.mk hi175_1;have HC175_1:=Aside0.mk hl175_1;clear hi175_1 hl175_1;replace p175:=eq_true p175;replace q175:=eq_true q175;refine start_ (n:=8) (S:=fun w'=>w'.cell? ⟨gb167,0,none⟩=some (.slice A0_0 l0_0.length c0_0)∧w'.cell? ⟨gb167,1,none⟩=some (.slice A0_1 l0_1.length c0_1)∧w'.cell? ⟨gb167,2,none⟩=some (.slice A0_2 l0_2.length c0_2)∧w'.cell? ⟨gb167,3,none⟩=some (.slice A0_3 l0_3.length c0_3)∧w'.cell? ⟨gb167,4,none⟩=some (.slice (some ad175) l0_4.length c0_4)∧w'.cell? (ad175.add ((x4_3).toNat * 2))=some (.string ((rd_T39 l0_4 x4_3).f0))∧w'.cell? ⟨(ad175.add ((x4_3).toNat * 2)).block,(ad175.add ((x4_3).toNat * 2)).off + 1,none⟩=some (.slice A175_1 ((rd_T39 l0_4 x4_3).f1).length c175_1)) (ds:=[]) (ab 8 0) (by kernel_rfl) rfl rfl ⟨(blk_cell BK167.out 0).trans rfl,(blk_cell BK167.out 1).trans rfl,(blk_cell BK167.out 2).trans rfl,(blk_cell BK167.out 3).trans rfl,(blk_cell BK167.out 4).trans rfl,((HB.out.cell (World.block_lt_of_cell? w _ hw175_0)).trans hw175_0),((HB.out.cell (World.block_lt_of_cell? w _ hw175_1)).trans hw175_1)⟩ (fun hHeld=>?_);refine with_tabW hucksterref16_May.tab11 hucksterref16_May.bits11 (fun HT_ HW_=>?_);generalize wr.drew=w47 at BK167 HB HR175_1 hx175_0 hx175_1 hHeld ⊢;refine pure_ (i:=1) (N:=some 68) (v:=?_) (a':=?_) (ab 8 2) rfl rfl (any_of HT_.out (by kernel_rfl)) (fun _ _ _ h=>h) (Or.inl ⟨by rfl,?_⟩) ?_ ?_;rotate_left
            ·intro w';go_simp;with_reducible rfl
            rotate_left
            ·simp only [Act.put,q1_,q2_,q3_,i64_w,i32_w];rfl
            refine pure_ (i:=3) (N:=some 70) (v:=?_) (a':=?_) (ab 8 10) rfl rfl (any_of HT_.out (by kernel_rfl)) (fun _ _ _ h=>h) (Or.inl ⟨by rfl,?_⟩) ?_ ?_;rotate_left
            ·intro w';go_simp;with_reducible rfl
            rotate_left
            ·simp only [Act.put,q1_,q2_,q3_,i64_w,i32_w];rfl
            refine take_ (i:=0) (N:=some 67) (v:=?_) (a':=?_) (ab 8 11) rfl rfl (take_ofW HT_.out HW_.out (by kernel_rfl)) (fun _ _ _ h=>h) (Or.inl ⟨by rfl,?_⟩) hHeld ?_ ?_;rotate_left
            ·rintro w' ⟨s0,s1,s2,s3,s4,s5,s6⟩;go_simp;with_reducible rfl
            rotate_left
            ·simp only [Act.put,q1_,q2_,q3_,i64_w,i32_w];rfl
            refine take_ (i:=2) (N:=some 69) (v:=?_) (a':=?_) (ab 8 15) rfl rfl (take_ofW HT_.out HW_.out (by kernel_rfl)) (fun _ _ _ h=>h) (Or.inl ⟨by rfl,?_⟩) hHeld ?_ ?_;rotate_left
            ·rintro w' ⟨s0,s1,s2,s3,s4,s5,s6⟩;go_simp;with_reducible rfl
            rotate_left
            ·simp only [Act.put,q1_,q2_,q3_,i64_w,i32_w];rfl
            refine pure_ (i:=4) (N:=some 71) (v:=?_) (a':=?_) (ab 8 31) rfl rfl (any_of HT_.out (by kernel_rfl)) (fun _ _ _ h=>h) (Or.inl ⟨by rfl,?_⟩) ?_ ?_;rotate_left
            ·intro w';go_simp;with_reducible rfl
            rotate_left
            ·simp only [Act.put,q1_,q2_,q3_,i64_w,i32_w];rfl
            refine take_ (i:=5) (N:=some 72) (v:=?_) (a':=?_) (ab 8 63) rfl rfl (take_ofW HT_.out HW_.out (by kernel_rfl)) (fun _ _ _ h=>h) (Or.inl ⟨by rfl,?_⟩) hHeld ?_ ?_;rotate_left
            ·rintro w' ⟨s0,s1,s2,s3,s4,s5,s6⟩;go_simp;with_reducible rfl
            rotate_left
            ·simp only [Act.put,q1_,q2_,q3_,i64_w,i32_w];rfl
            refine one_ (i:=6) (N:=some 73) (ab 8 127) rfl rfl (one_of HT_.out (by kernel_rfl)) (by decide) (fun K hK=>?_);refine goes_ Tryd.func29 (by kernel_rfl) rfl #[.agg #[.slice A0_0 l0_0.length c0_0,.slice A0_1 l0_1.length c0_1,.slice A0_2 l0_2.length c0_2,.slice A0_3 l0_3.length c0_3,.slice (some ad175) l0_4.length c0_4],.agg #[.string ((rd_T39 l0_4 x4_3).f0),.slice A175_1 ((rd_T39 l0_4 x4_3).f1).length c175_1]] (by rfl) rfl rfl (by (try simp only [List.map_toArray,List.map_cons,List.map_nil]);first|done|rfl|(simp only [List.length_drop,List.length_take];rfl)) ?_;(with_reducible refine (hucksterref16_Oper.calls k3 _ _ l0_0 _ _ l0_1 _ _ l0_2 _ _ l0_3 _ _ l0_4 ((rd_T39 l0_4 x4_3).f0) _ _ ((rd_T39 l0_4 x4_3).f1) false _ ?side1 ?side2 ?side3 ?side4 ?side5 ?side6 ?side7 ?side8 ?side9 ?side10 ?side11 ?side12 A41.out).mono ?_);(case side1=>repeat (first|exact (Kd.C_below HR0_0.out HB.out)|(with_reducible refine Kd.C_alloc ?_ _)|(with_reducible refine Kd.C_drewN ?_ _)|(with_reducible refine Kd.C_drew ?_)));(case side2=>exact HC0_0.out);(case side3=>repeat (first|exact (Kd.C_below HR0_1.out HB.out)|(with_reducible refine Kd.C_alloc ?_ _)|(with_reducible refine Kd.C_drewN ?_ _)|(with_reducible refine Kd.C_drew ?_)));(case side4=>exact HC0_1.out);(case side5=>repeat (first|exact (Kd.C_below HR0_2.out HB.out)|(with_reducible refine Kd.C_alloc ?_ _)|(with_reducible refine Kd.C_drewN ?_ _)|(with_reducible refine Kd.C_drew ?_)));(case side6=>exact HC0_2.out);(case side7=>repeat (first|exact (Kd.C_below HR0_3.out HB.out)|(with_reducible refine Kd.C_alloc ?_ _)|(with_reducible refine Kd.C_drewN ?_ _)|(with_reducible refine Kd.C_drew ?_)));(case side8=>exact HC0_3.out);(case side9=>repeat (first|exact (Kd.C_below HR0_4.out HB.out)|(with_reducible refine Kd.C_alloc ?_ _)|(with_reducible refine Kd.C_drewN ?_ _)|(with_reducible refine Kd.C_drew ?_)));(case side10=>exact HC0_4.out);(case side11=>repeat (first|exact (Kd.C_below HR175_1.out HB.out)|(with_reducible refine Kd.C_alloc ?_ _)|(with_reducible refine Kd.C_drewN ?_ _)|(with_reducible refine Kd.C_drew ?_)));(case side12=>exact HC175_1.out);rintro e w48 ⟨rfl,hb⟩;refine ⟨_,rfl,?_⟩;have n0_:=Aside0.mk (blk_below (g:=gb167) (o:=.cells #[.slice A0_0 l0_0.length c0_0,.slice A0_1 l0_1.length c0_1,.slice A0_2 l0_2.length c0_2,.slice A0_3 l0_3.length c0_3,.slice (some ad175) l0_4.length c0_4] 26 (0,0)) (by (with_reducible repeat (first|refine blk_drewN ?_ _|refine blk_drew ?_|refine blk_alloc ?_ _));exact BK167.out) hb);have n1_:=Aside0.mk (below_step (by repeat (first|(with_reducible first|exact HB.out|apply below_alloc|apply pw_below_drewN|apply below_drew1|refine below_set ?_ GE167.out)|exact HB.out)) hb);clear BK167;clear HB;have BK167:=n0_;have HB:=n1_;clear n0_ n1_;(try clear hb);(try clear hb2);(try clear hk);(try clear hi);refine hK.out _ _ ⟨(blk_cell BK167.out 0).trans rfl,(blk_cell BK167.out 1).trans rfl,(blk_cell BK167.out 2).trans rfl,(blk_cell BK167.out 3).trans rfl,(blk_cell BK167.out 4).trans rfl,((HB.out.cell (World.block_lt_of_cell? w _ hw175_0)).trans hw175_0),((HB.out.cell (World.block_lt_of_cell? w _ hw175_1)).trans hw175_1)⟩ (fun hHeld=>?_);clear hK K;refine norm_ (a':=?_) ?_ ?_;rotate_left
            ·show Act.put _ (some 73) _=_;simp only [Act.put,q1_,q2_,q3_,i64_w,i32_w];rfl
            refine pure_ (i:=7) (N:=some 74) (v:=?_) (a':=?_) (ab 8 255) rfl rfl (any_of HT_.out (by kernel_rfl)) (fun _ _ _ h=>h) (Or.inl ⟨by rfl,?_⟩) ?_ ?_;rotate_left
            ·intro w';go_simp;with_reducible rfl
            rotate_left
            ·simp only [Act.put,q1_,q2_,q3_,i64_w,i32_w];rfl
            refine done_ (done_of HT_.out (by kernel_rfl)) ?_;(try go_wp2);go_ret;exact ⟨by first|rfl|(simp [errW_none,errW_some] <;> rfl)|(simp [*,errW_none,errW_some] <;> rfl),by repeat (first|(with_reducible first|exact HB.out|apply below_alloc|apply pw_below_drewN|apply below_drew1|refine below_set ?_ GE167.out)|exact HB.out)⟩
          ·rw [if_neg c40] at H;exact absurd H (by simp)
         ·rw [if_neg c39] at H;have c39b0:decide (x4_3 < (l0_4.length:Int))=false:=decide_eq_false c39;clear c39;obtain rfl:=Option.some.inj H;obtain ⟨hcz49_0,hcz49_1,hcz49_2,hcz49_3,hcz49_4⟩:=bc5 BK167.out;obtain ⟨hfz49_0,hfz49_1,hfz49_2,hfz49_3,hfz49_4⟩:=bf5 BK167.out;go_wp2;go_ret;exact ⟨by first|rfl|(simp [errW_none,errW_some] <;> rfl)|(simp [*,errW_none,errW_some] <;> rfl),by repeat (first|(with_reducible first|exact HB.out|apply below_alloc|apply pw_below_drewN|apply below_drew1|refine below_set ?_ GE167.out)|exact HB.out)⟩
end Go.Proofs.YtjbjbeihkoeciaaDoor.X
namespace Go.Proofs
open Go.Shelf
def Tryd.lays156_ren:Go.Shelf.Ren:=⟨fun|156=>35|165=>55|166=>20|169=>25|240=>46|241=>72|276=>64|277=>83|n=>n,fun|31=>22|9=>9|3=>3|4=>4|0=>0|20=>20|72=>51|76=>54|70=>48|37=>49|75=>53|127=>80|164=>100|5=>5|80=>59|n=>n,fun|n=>n⟩
theorem Tryd.lays156:Go.Proofs.Lays.n156 Tryd.prog Tryd.lays156_ren:={
 mixed:=by kernel_rfl
 f156:=Tryd.func35.trans (congrArg some (by kernel_rfl))
 f165:=Tryd.func55.trans (congrArg some (by kernel_rfl))
 f166:=Tryd.func20.trans (congrArg some (by kernel_rfl))
 f169:=Tryd.func25.trans (congrArg some (by kernel_rfl))
 f240:=Tryd.func46.trans (congrArg some (by kernel_rfl))
 f241:=Tryd.func72.trans (congrArg some (by kernel_rfl))
 f276:=Tryd.func64.trans (congrArg some (by kernel_rfl))
 f277:=Tryd.func83.trans (congrArg some (by kernel_rfl))
 t0:=Tryd.underlying0
 a0:=Tryd.isAgg0
 z0:=Tryd.sizeOf0
 v0:=Tryd.zeroValue0
 t3:=Tryd.underlying3
 a3:=Tryd.isAgg3
 z3:=Tryd.sizeOf3
 v3:=Tryd.zeroValue3
 t4:=Tryd.underlying4
 a4:=Tryd.isAgg4
 z4:=Tryd.sizeOf4
 v4:=Tryd.zeroValue4
 t9:=Tryd.underlying9
 a9:=Tryd.isAgg9
 z9:=Tryd.sizeOf9
 v9:=Tryd.zeroValue9
 t20:=Tryd.underlying20
 a20:=Tryd.isAgg20
 z20:=Tryd.sizeOf20
 v20:=Tryd.zeroValue20
 t31:=Tryd.underlying22
 a31:=Tryd.isAgg22
 z31:=Tryd.sizeOf22
 v31:=Tryd.zeroValue22
 t37:=Tryd.underlying49
 a37:=Tryd.isAgg49
 z37:=Tryd.sizeOf49
 v37:=Tryd.zeroValue49
 t70:=Tryd.underlying48
 a70:=Tryd.isAgg48
 z70:=Tryd.sizeOf48
 v70:=Tryd.zeroValue48
 t72:=Tryd.underlying51
 a72:=Tryd.isAgg51
 z72:=Tryd.sizeOf51
 v72:=Tryd.zeroValue51
 t75:=Tryd.underlying53
 a75:=Tryd.isAgg53
 z75:=Tryd.sizeOf53
 v75:=Tryd.zeroValue53
 t76:=Tryd.underlying54
 a76:=Tryd.isAgg54
 z76:=Tryd.sizeOf54
 v76:=Tryd.zeroValue54
 t127:=Tryd.underlying80
 a127:=Tryd.isAgg80
 z127:=Tryd.sizeOf80
 v127:=Tryd.zeroValue80
 t164:=Tryd.underlying100
 a164:=Tryd.isAgg100
 z164:=Tryd.sizeOf100
 v164:=Tryd.zeroValue100 }
theorem Tryd.Builder_Extra_156:Builder.Extra Tryd.prog Tryd.lays156_ren:={
 sizeBuilder:=by kernel_rfl
 liesBuilder:=by kernel_rfl
 t5:=Tryd.underlying5
 a5:=Tryd.isAgg5
 z5:=Tryd.sizeOf5
 v5:=Tryd.zeroValue5
 infoByte:=by kernel_rfl
 cellsByte:=by kernel_rfl
 sizeByte:=by kernel_rfl
 neB5:=by decide }
open Go.RowKit in
theorem Tryd.strings_Join_none (a:Option Addr) (c:Nat) (sep:ByteArray) (w:World) :
  Calls Tryd.prog 35 #[.slice a 0 c,.string sep] w fun e w'=>e = .returned (.string ⟨#[]⟩)∧w' = w:=Any.strings_Join_none Tryd.lays156 Tryd.Builder_Extra_156 a c sep w
open Go.RowKit in
theorem Tryd.strings_Join (bk o c:Nat) (xs:List ByteArray) (sep:ByteArray) (w:World) (hcells:∀ (j:Nat) x,xs[j]? = some x → w.cell? ⟨bk,o + j,none⟩=some (.string x)) (hbk:bk < w.heap.size) (hN:xs.length ≤ 140737488355328) (hcap:xs.length ≤ c) (hlen:(Lib.join (xs.map (·.data.toList)) sep.data.toList).length ≤ 140737488355328) :
  Calls Tryd.prog 35 #[.slice (some ⟨bk,o,none⟩) xs.length c,.string sep] w fun e w'=>e = .returned (.string ⟨(Lib.join (xs.map (·.data.toList)) sep.data.toList).toArray⟩)∧Below w.heap.size w w':=Any.strings_Join Tryd.lays156 Tryd.Builder_Extra_156 bk o c xs sep w hcells hbk hN hcap hlen
def Tryd.laysM171_ren:Go.Shelf.Ren:=⟨fun|171=>33|243=>54|246=>71|283=>79|284=>80|285=>81|286=>82|129=>88|317=>87|318=>89|319=>90|320=>91|337=>93|338=>94|n=>n,fun|3=>3|9=>9|2=>2|4=>4|171=>108|0=>0|53=>109|37=>49|5=>5|173=>112|212=>118|51=>119|20=>20|213=>120|46=>121|232=>124|233=>125|n=>n,fun|17=>0|18=>2|19=>3|n=>n⟩
theorem Tryd.laysM171:Go.Proofs.LaysM.n171 Tryd.prog Tryd.laysM171_ren:={
 mixed:=by kernel_rfl
 f129:=Tryd.func88.trans (congrArg some (by kernel_rfl))
 f171:=Tryd.func33.trans (congrArg some (by kernel_rfl))
 f243:=Tryd.func54.trans (congrArg some (by kernel_rfl))
 f246:=Tryd.func71.trans (congrArg some (by kernel_rfl))
 f283:=Tryd.func79.trans (congrArg some (by kernel_rfl))
 f284:=Tryd.func80.trans (congrArg some (by kernel_rfl))
 f285:=Tryd.func81.trans (congrArg some (by kernel_rfl))
 f286:=Tryd.func82.trans (congrArg some (by kernel_rfl))
 f317:=Tryd.func87.trans (congrArg some (by kernel_rfl))
 f318:=Tryd.func89.trans (congrArg some (by kernel_rfl))
 f319:=Tryd.func90.trans (congrArg some (by kernel_rfl))
 f320:=Tryd.func91.trans (congrArg some (by kernel_rfl))
 f337:=Tryd.func93.trans (congrArg some (by kernel_rfl))
 f338:=Tryd.func94.trans (congrArg some (by kernel_rfl))
 t0:=Tryd.underlying0
 a0:=Tryd.isAgg0
 z0:=Tryd.sizeOf0
 v0:=Tryd.zeroValue0
 t2:=Tryd.underlying2
 a2:=Tryd.isAgg2
 z2:=Tryd.sizeOf2
 v2:=Tryd.zeroValue2
 t3:=Tryd.underlying3
 a3:=Tryd.isAgg3
 z3:=Tryd.sizeOf3
 v3:=Tryd.zeroValue3
 t4:=Tryd.underlying4
 a4:=Tryd.isAgg4
 z4:=Tryd.sizeOf4
 v4:=Tryd.zeroValue4
 t5:=Tryd.underlying5
 a5:=Tryd.isAgg5
 z5:=Tryd.sizeOf5
 v5:=Tryd.zeroValue5
 t9:=Tryd.underlying9
 a9:=Tryd.isAgg9
 z9:=Tryd.sizeOf9
 v9:=Tryd.zeroValue9
 t20:=Tryd.underlying20
 a20:=Tryd.isAgg20
 z20:=Tryd.sizeOf20
 v20:=Tryd.zeroValue20
 t37:=Tryd.underlying49
 a37:=Tryd.isAgg49
 z37:=Tryd.sizeOf49
 v37:=Tryd.zeroValue49
 t46:=Tryd.underlying121
 a46:=Tryd.isAgg121
 z46:=Tryd.sizeOf121
 v46:=Tryd.zeroValue121
 t51:=Tryd.underlying119
 a51:=Tryd.isAgg119
 z51:=Tryd.sizeOf119
 v51:=Tryd.zeroValue119
 t53:=Tryd.underlying109
 a53:=Tryd.isAgg109
 z53:=Tryd.sizeOf109
 v53:=Tryd.zeroValue109
 t171:=Tryd.underlying108
 a171:=Tryd.isAgg108
 z171:=Tryd.sizeOf108
 v171:=Tryd.zeroValue108
 t173:=Tryd.underlying112
 a173:=Tryd.isAgg112
 z173:=Tryd.sizeOf112
 v173:=Tryd.zeroValue112
 t212:=Tryd.underlying118
 a212:=Tryd.isAgg118
 z212:=Tryd.sizeOf118
 v212:=Tryd.zeroValue118
 t213:=Tryd.underlying120
 a213:=Tryd.isAgg120
 z213:=Tryd.sizeOf120
 t232:=Tryd.underlying124
 a232:=Tryd.isAgg124
 z232:=Tryd.sizeOf124
 v232:=Tryd.zeroValue124
 t233:=Tryd.underlying125
 a233:=Tryd.isAgg125
 z233:=Tryd.sizeOf125
 v233:=Tryd.zeroValue125
 g17:=by kernel_rfl
 g18:=by kernel_rfl
 g19:=by kernel_rfl
 i0:=by kernel_rfl
 i2:=by kernel_rfl
 i3:=by kernel_rfl
 i4:=by kernel_rfl
 i5:=by kernel_rfl
 i9:=by kernel_rfl
 i20:=by kernel_rfl
 i37:=by kernel_rfl
 i46:=by kernel_rfl
 i51:=by kernel_rfl
 i53:=by kernel_rfl
 i171:=by kernel_rfl
 i173:=by kernel_rfl
 i212:=by kernel_rfl
 i232:=by kernel_rfl
 i233:=by kernel_rfl
 m17:=by kernel_rfl
 m18:=by kernel_rfl
 m19:=by kernel_rfl }
open Go.RowKit Go.Sort Go.Lib in
theorem Tryd.strconv_Itoa (n:Int) (h0 : -9223372036854775808 ≤ n) (h1:n ≤ 9223372036854775807) (w:World) (htab:Lib.TabIs Tryd.prog w "internal/strconv.uint64pow10" .u64 Lib.pow10Tab) :
  Calls Tryd.prog 33 #[.int .i64 n] w fun e w'=>e = .returned (.string ⟨(Lib.itoa n).toArray⟩)∧∃ k os,w' = grow (w.drewN k) os:=Any.strconv_Itoa Tryd.laysM171 n h0 h1 w htab
end Go.Proofs
set_option linter.unusedSimpArgs false
set_option linter.unusedVariables false
namespace Go.Proofs.YtjbjbeihkoeciaaDoor.X
open Go.RowKit Go.Proofs.YtjbjbeihkoeciaaDoorW.PrintWords Go.Proofs.YtjbjbeihkoeciaaDoorW.PrintLast Go.Proofs.YtjbjbeihkoeciaaDoorW.PrintMore
def Tab (w:World):Prop:=Lib.TabIs Tryd.prog w "internal/strconv.uint64pow10" .u64 Lib.pow10Tab
theorem Tab.below {w w1:World} (h:Tab w) (hb:Below w.heap.size w w1):Tab w1:=by
 unfold Tab Lib.TabIs World.var? at *;cases hg:Tryd.prog.globalNamed "internal/strconv.uint64pow10" with
 | none=>rw [hg] at h;exact absurd h (by simp)
 | some g =>
  rw [hg] at h;simp only [Option.bind_some] at h ⊢;have hlt:g < w.heap.size:=by
   by_cases hl:g < w.heap.size
   ·exact hl
   ·rw [Array.getElem?_eq_none (by omega)] at h;exact absurd h (by simp)
  rw [hb.block g hlt];exact h
theorem grow_below (w:World) (k:Nat) (os:Array Obj):Below w.heap.size w (Sort.grow (w.drewN k) os) :=
 ⟨rfl,rfl,rfl,by simp [Sort.grow],fun b hb=>by simp [Sort.grow,Array.getElem?_append,hb]⟩
def itoaB (n:Int):ByteArray:=⟨(Lib.itoa n).toArray⟩
def strconv_Itoa.f (n:Int):Option ByteArray:=if -9223372036854775808 ≤ n∧n ≤ 9223372036854775807 then some (itoaB n) else none
theorem strconv_Itoa.calls (n:Int) (r:ByteArray) (w:World) (h:strconv_Itoa.f n=some r) (htab:Tab w):Calls Tryd.prog 33 #[.int .i64 n] w fun e w'=>e = .returned (.string r)∧Below w.heap.size w w':=by
 unfold strconv_Itoa.f at h;split at h
 ·rename_i hn;cases h;(refine (Tryd.strconv_Itoa n hn.1 hn.2 w htab).mono fun e w' ⟨he,k,os,hw⟩=>⟨he,?_⟩);subst hw;exact grow_below w k os
 ·cases h
end Go.Proofs.YtjbjbeihkoeciaaDoor.X
set_option linter.unusedSimpArgs false
set_option linter.unusedVariables false
namespace Go.Proofs.YtjbjbeihkoeciaaDoor.X
open Go.RowKit Go.Proofs.YtjbjbeihkoeciaaDoorW.PrintWords Go.Proofs.YtjbjbeihkoeciaaDoorW.PrintLast Go.Proofs.YtjbjbeihkoeciaaDoorW.PrintMore
theorem dec_rec (u:Nat) (h:10 ≤ u):Lib.decDigits u=Lib.decDigits (u / 10) ++ Lib.decDigits (u % 10):=by
 rw [Lib.decDigits,dif_neg (by omega),Lib.decDigits_one (i:=u % 10) (by omega)]
theorem itoaB_app {n a b:Int} (h:Lib.itoa n=Lib.itoa a ++ Lib.itoa b):itoaB n=itoaB a ++ itoaB b:=by
 unfold itoaB;rw [h];apply ByteArray.ext;simp
theorem itoa_hi (n:Int) (h:10 ≤ n):Lib.itoa n=Lib.itoa (n / 10) ++ Lib.itoa (n % 10):=by
 obtain ⟨u,rfl⟩:∃ u:Nat,n=(u:Int):=⟨n.toNat,by omega⟩;rw [show ((u:Int) / 10)=((u / 10:Nat):Int) by omega,show ((u:Int) % 10)=((u % 10:Nat):Int) by omega,Lib.itoa_nonneg,Lib.itoa_nonneg,Lib.itoa_nonneg];exact dec_rec u (by omega)
theorem itoa_lo (u:Nat) (h:10 ≤ u):Lib.itoa (-(u:Int))=Lib.itoa (-((u / 10:Nat):Int)) ++ Lib.itoa ((u % 10:Nat):Int):=by
 rw [Lib.itoa_neg u (by omega),Lib.itoa_neg (u / 10) (by omega),Lib.itoa_nonneg,dec_rec u h];rfl
theorem itoa_sz (n:Int) (h0 : -9223372036854775808 ≤ n) (h1:n ≤ 9223372036854775807):(itoaB n).size ≤ 21:=by
 have:=Lib.itoa_length_le n h0 h1;show (Lib.itoa n).toArray.size ≤ 21;simpa using this
theorem dig_hi (n:Int) (h:10 ≤ n) (h1:n ≤ 9223372036854775807):wrap64 (n.tdiv 10)=n / 10∧n.tmod 10=n % 10∧wrap64 (n.tmod 10)=n % 10:=by
 have e1:n.tdiv 10=n / 10:=Int.tdiv_eq_ediv_of_nonneg (by omega);have e2:n.tmod 10=n % 10:=Int.tmod_eq_emod_of_nonneg (by omega);rw [e1,e2];unfold wrap64;refine ⟨?_,rfl,?_⟩ <;> omega
theorem dig_lo (u:Nat) (h:10 ≤ u) (h1:u ≤ 9223372036854775808):wrap64 ((-(u:Int)).tdiv 10) = -((u / 10:Nat):Int)∧-((-(u:Int)).tmod 10)=((u % 10:Nat):Int)∧wrap64 (-((-(u:Int)).tmod 10))=((u % 10:Nat):Int):=by
 have e1:(-(u:Int)).tdiv 10 = -((u / 10:Nat):Int):=by
  rw [Int.neg_tdiv];congr 1
 have e2 : -((-(u:Int)).tmod 10)=((u % 10:Nat):Int):=by
  rw [Int.neg_tmod,Int.neg_neg];rfl
 rw [e1,e2];unfold wrap64;refine ⟨?_,rfl,?_⟩ <;> omega
theorem dig_lit (n:Int) (h0:0 ≤ n) (h:n < 10):[Value.string { data:=#[48] },Value.string { data:=#[49] },Value.string { data:=#[50] },Value.string { data:=#[51] },Value.string { data:=#[52] },Value.string { data:=#[53] },Value.string { data:=#[54] },Value.string { data:=#[55] },Value.string { data:=#[56] },Value.string { data:=#[57] }][n.toNat]? = some (.string (itoaB n)):=by
 obtain ⟨u,rfl⟩:∃ u:Nat,n=(u:Int):=⟨n.toNat,by omega⟩;(have hu:u < 10:=by omega);unfold itoaB;rw [Lib.itoa_nonneg,Lib.decDigits_one hu];match u,hu with
 | 0,_=>rfl
 | 1,_=>rfl
 | 2,_=>rfl
 | 3,_=>rfl
 | 4,_=>rfl
 | 5,_=>rfl
 | 6,_=>rfl
 | 7,_=>rfl
 | 8,_=>rfl
 | 9,_=>rfl
 | (k + 10),h=>omega
set_option maxHeartbeats 4000000 in
set_option maxRecDepth 100000 in
theorem digits_any (m:Nat):∀ (n:Int) (w:World),-9223372036854775808 ≤ n → n ≤ 9223372036854775807 → 2 * n.natAbs + (if n < 0 then 1 else 0) < m →
  Calls Tryd.prog 30 #[.int .i64 n] w fun e w'=>e = .returned (.string (itoaB n))∧Below w.heap.size w w':=by
 induction m with
 | zero=>intro n w _ _ h;omega
 | succ m ih =>
  intro n w h0 h1 hm;have IH:=Aside0.mk ih;clear ih;by_cases c1:n ≤ -10
  ·obtain ⟨u,hu⟩:∃ u:Nat,n = -(u:Int):=⟨n.natAbs,by omega⟩;obtain ⟨e1,_,e2⟩:=dig_lo u (by omega) (by omega);have E1:Aside0 (wrap64 (n.tdiv 10) = -((u / 10:Nat):Int)):=⟨by rw [hu];exact e1⟩;have E2:Aside0 (wrap64 (-(n.tmod 10))=((u % 10:Nat):Int)):=⟨by rw [hu];exact e2⟩;have E2':Aside0 (-(n.tmod 10)=((u % 10:Nat):Int)):=⟨by rw [hu];exact (dig_lo u (by omega) (by omega)).2.1⟩;have EQ:Aside0 (itoaB n=itoaB (-((u / 10:Nat):Int)) ++ itoaB ((u % 10:Nat):Int)):=⟨itoaB_app (by rw [hu];exact itoa_lo u (by omega))⟩;rw [if_pos (show n < 0 by omega)] at hm;have C1:=Aside0.mk (fun w=>IH.out (-((u / 10:Nat):Int)) w (by omega) (by omega) (by split <;> omega));have C2:=Aside0.mk (fun w=>IH.out ((u % 10:Nat):Int) w (by omega) (by omega) (by split <;> omega));have s1:=itoa_sz (-((u / 10:Nat):Int)) (by omega) (by omega);have s2:=itoa_sz ((u % 10:Nat):Int) (by omega) (by omega);have hs:(9223372036854775807 < (itoaB (-((u / 10:Nat):Int))).size + (itoaB ((u % 10:Nat):Int)).size)=False:=eq_false (by omega);clear s1 s2 e1 e2 hm h0 h1 hu;generalize itoaB (-((u / 10:Nat):Int))=a at *;generalize itoaB ((u % 10:Nat):Int)=b at *;go_enter Tryd.func30,Tryd.ntmps30;go_wp2_with fail;rw [E1.out];refine (C1.out _).mono ?_;rintro e w1 ⟨rfl,hb1⟩;have HB1:=Aside0.mk hb1;clear hb1;go_wp2_with fail;(first|rw [E2.out]|rw [E2'.out]|skip);refine (C2.out _).mono ?_;rintro e w2 ⟨rfl,hb2⟩;have HB2:=Aside0.mk (below_step HB1.out hb2);clear hb2;go_wp2_with fail;go_ret;exact ⟨by rw [EQ.out];rfl,HB2.out⟩
  ·by_cases c2:n < 0
   ·obtain ⟨u,hu⟩:∃ u:Nat,n = -(u:Int):=⟨n.natAbs,by omega⟩;have EQ:Aside0 (itoaB n=(⟨#[45]⟩:ByteArray) ++ itoaB (-n)):=⟨by
     unfold itoaB
     rw [hu,Int.neg_neg,Lib.itoa_neg u (by omega),Lib.itoa_nonneg]
     apply ByteArray.ext
     simp⟩
    have C1:=Aside0.mk (fun w=>IH.out (-n) w (by omega) (by omega) (by rw [if_pos c2] at hm;rw [if_neg (by omega)];omega));have s2:=itoa_sz (-n) (by omega) (by omega);have hs:(9223372036854775807 < 1 + (itoaB (-n)).size)=False:=eq_false (by omega);(have W1:wrap64 (-n) = -n:=by unfold wrap64;omega);clear s2 hm h0 h1 hu;go_enter Tryd.func30,Tryd.ntmps30;generalize hb:itoaB (-n)=b at *;go_wp2_with fail;refine (C1.out _).mono ?_;rintro e w1 ⟨rfl,hb1⟩;have HB1:=Aside0.mk hb1;clear hb1;go_wp2_with fail;go_ret;exact ⟨by rw [EQ.out];rfl,HB1.out⟩
   ·by_cases c3:n < 10
    ·have hl:=Aside0.mk (dig_lit n (by omega) c3);clear hm h0 h1;go_enter Tryd.func30,Tryd.ntmps30;go_wp2_with fail;go_ret;refine ⟨congrArg Ending.returned ?_,below_alloc (Below.refl _ _) _⟩;exact (List.getElem?_eq_some_iff.1 hl.out).2
    ·obtain ⟨e1,_,e2⟩:=dig_hi n (by omega) (by omega);have E1:=Aside0.mk e1;have E2:=Aside0.mk e2;have E2':=Aside0.mk (dig_hi n (by omega) (by omega)).2.1;have EQ:Aside0 (itoaB n=itoaB (n / 10) ++ itoaB (n % 10)):=⟨itoaB_app (itoa_hi n (by omega))⟩;have C1:=Aside0.mk (fun w=>IH.out (n / 10) w (by omega) (by omega) (by rw [if_neg (by omega)] at hm;split <;> omega));have C2:=Aside0.mk (fun w=>IH.out (n % 10) w (by omega) (by omega) (by rw [if_neg (by omega)] at hm;split <;> omega));have s1:=itoa_sz (n / 10) (by omega) (by omega);have s2:=itoa_sz (n % 10) (by omega) (by omega);have hs:(9223372036854775807 < (itoaB (n / 10)).size + (itoaB (n % 10)).size)=False:=eq_false (by omega);clear s1 s2 e1 e2 hm h0 h1;generalize itoaB (n / 10)=a at *;generalize itoaB (n % 10)=b at *;go_enter Tryd.func30,Tryd.ntmps30;go_wp2_with fail;(first|rw [E1.out]|skip);refine (C1.out _).mono ?_;rintro e w1 ⟨rfl,hb1⟩;have HB1:=Aside0.mk hb1;clear hb1;go_wp2_with fail;(first|rw [E2.out]|rw [E2'.out]|skip);refine (C2.out _).mono ?_;rintro e w2 ⟨rfl,hb2⟩;have HB2:=Aside0.mk (below_step HB1.out hb2);clear hb2;go_wp2_with fail;go_ret;exact ⟨by rw [EQ.out];rfl,HB2.out⟩
def hucksterref14_Digits.f (n:Int):Option ByteArray:=if -9223372036854775808 ≤ n∧n ≤ 9223372036854775807 then some (itoaB n) else none
theorem hucksterref14_Digits.calls (n:Int) (r:ByteArray) (w:World) (h:hucksterref14_Digits.f n=some r):Calls Tryd.prog 30 #[.int .i64 n] w fun e w'=>e = .returned (.string r)∧Below w.heap.size w w':=by
 unfold hucksterref14_Digits.f at h;split at h
 ·rename_i hn;cases h;exact digits_any _ n w hn.1 hn.2 (Nat.lt_succ_self _)
 ·cases h
end Go.Proofs.YtjbjbeihkoeciaaDoor.X
namespace Go.Proofs.YtjbjbeihkoeciaaDoor.X
open Go.RowKit Go.Proofs.YtjbjbeihkoeciaaDoorW.PrintWords Go.Proofs.YtjbjbeihkoeciaaDoorW.PrintLast Go.Proofs.YtjbjbeihkoeciaaDoorW.PrintMore
attribute [local go_sem] max2_int min2_int max_two min_two max_three min_three max_four min_four
set_option linter.unusedVariables false
set_option linter.unusedSimpArgs false
def hucksterref20_name.f (l0:List ByteArray) (a1:Int):Option (ByteArray):=if a1 < 0 then (some (⟨#[]⟩:ByteArray)) else (if a1 ≥ (l0.length:Int) then (some (⟨#[]⟩:ByteArray)) else (if 0 ≤ a1 then (if a1 < (l0.length:Int) then (some (rdOf ByteArray.empty l0 a1)) else (none)) else (none)))
set_option maxHeartbeats 8000000 in
set_option maxRecDepth 100000 in
theorem hucksterref20_name.calls (A0:Option Addr) (c0:Nat) (l0:List ByteArray) (a1:Int) (r:ByteArray) (w:World) (hr0:Kd.C Kd.string w A0 l0.length l0) (hc0:l0.length ≤ c0) (h:hucksterref20_name.f l0 a1=some r) :
  Calls Tryd.prog 36 #[.slice A0 l0.length c0,.int .i64 a1] w fun e w'=>e = .returned (.string r)∧Drawn0 w w':=by
 have HR0:=Aside0.mk hr0;have HC0:=Aside0.mk hc0;clear hr0 hc0;have H:(if a1 < 0 then (some (⟨#[]⟩:ByteArray)) else (if a1 ≥ (l0.length:Int) then (some (⟨#[]⟩:ByteArray)) else (if 0 ≤ a1 then (if a1 < (l0.length:Int) then (some (rdOf ByteArray.empty l0 a1)) else (none)) else (none))))=some r:=h;clear h;by_cases c3:a1 < 0
 ·rw [if_pos c3] at H;have c3b0:decide (a1 < 0)=true:=decide_eq_true c3;clear c3;obtain rfl:=Option.some.inj H;go_enter Tryd.func36,Tryd.ntmps36;go_wp2;go_ret;exact ⟨by first|rfl|(simp;done)|(simp [*];done),by repeat (first|exact Drawn0.refl _|apply Drawn0.step)⟩
 ·rw [if_neg c3] at H;have c3b0:decide (a1 < 0)=false:=decide_eq_false c3;clear c3;by_cases c4:a1 ≥ (l0.length:Int)
  ·rw [if_pos c4] at H;have c4b0:decide ((l0.length:Int) ≤ a1)=true:=decide_eq_true c4;clear c4;obtain rfl:=Option.some.inj H;go_enter Tryd.func36,Tryd.ntmps36;go_wp2;go_ret;exact ⟨by first|rfl|(simp;done)|(simp [*];done),by repeat (first|exact Drawn0.refl _|apply Drawn0.step)⟩
  ·rw [if_neg c4] at H;have c4b0:decide ((l0.length:Int) ≤ a1)=false:=decide_eq_false c4;clear c4;by_cases c5:0 ≤ a1
   ·rw [if_pos c5] at H;have c5b0:decide (0 ≤ a1)=true:=decide_eq_true c5;clear c5;by_cases c6:a1 < (l0.length:Int)
    ·rw [if_pos c6] at H;have c6b0:decide (a1 < (l0.length:Int))=true:=decide_eq_true c6;clear c6;obtain rfl:=Option.some.inj H;have p204:0 ≤ (a1:Int):=of_decide_eq_true (by first|(with_reducible assumption)|assumption);have q204:a1 < (l0.length:Int):=of_decide_eq_true (by first|(with_reducible assumption)|assumption);obtain ⟨ad204,e204,hx204_0⟩:=Kd.at_string HR0.out a1 p204 q204;cases e204;replace p204:=eq_true p204;replace q204:=eq_true q204;go_enter Tryd.func36,Tryd.ntmps36;go_wp2;go_ret;exact ⟨by first|rfl|(simp;done)|(simp [*];done),by repeat (first|exact Drawn0.refl _|apply Drawn0.step)⟩
    ·rw [if_neg c6] at H;exact absurd H (by simp)
   ·rw [if_neg c5] at H;exact absurd H (by simp)
end Go.Proofs.YtjbjbeihkoeciaaDoor.X

/- Joined texts of this session, without what nothing needs: Xhucksterref16Oper, Xhucksterref14digit, Xhucksterref14letter, Xhucksterref14Word, Xhucksterref15words, Xhucksterref15Kept, Xhucksterref15Name, Xhucksterref16At. -/
import Derived.Test.YtjbjbeihkoeciaaDoorK1
import Derived.Test.YtjbjbeihkoeciaaDoorK2
import Derived.Test.YtjbjbeihkoeciaaDoorK4
import Derived.Test.YtjbjbeihkoeciaaDoorK5
namespace Go.Proofs.YtjbjbeihkoeciaaDoor.X
open Go.RowKit Go.Proofs.YtjbjbeihkoeciaaDoorW.PrintWords Go.Proofs.YtjbjbeihkoeciaaDoorW.PrintLast Go.Proofs.YtjbjbeihkoeciaaDoorW.PrintMore
attribute [local go_sem] max2_int min2_int max_two min_two max_three min_three max_four min_four
set_option linter.unusedVariables false
set_option linter.unusedSimpArgs false
mutual
def hucksterref16_Oper.l0:Nat → List Int → Int → ByteArray → List (S66) → Option (Bool)
 | 0,_,_,_,_=>none
 | k + 1,x5,x6,x242000,x242001=>if x6 < (x242001.length:Int) then (if 0 ≤ x6 then ((hucksterref16_Sort.f k ((rd_T66 x242001 x6).f0)).bind fun t247=>(if 0 ≤ t247 then (if t247 < (x5.length:Int) then ((hucksterref16_in.f ((rd_T66 x242001 x6).f1) (rd x5 t247)).bind fun t249=>(if t249=true then (if t247=2 then (if ((rd_T66 x242001 x6).f2) < 1 then (hucksterref16_Oper.j1 k x5 x6 t247 true x242000 x242001 ((rd_T66 x242001 x6).f0) ((rd_T66 x242001 x6).f1) ((rd_T66 x242001 x6).f2)) else (if ((rd_T66 x242001 x6).f2) > 1000 then (hucksterref16_Oper.j1 k x5 x6 t247 true x242000 x242001 ((rd_T66 x242001 x6).f0) ((rd_T66 x242001 x6).f1) ((rd_T66 x242001 x6).f2)) else (hucksterref16_Oper.j1 k x5 x6 t247 false x242000 x242001 ((rd_T66 x242001 x6).f0) ((rd_T66 x242001 x6).f1) ((rd_T66 x242001 x6).f2)))) else (hucksterref16_Oper.j1 k x5 x6 t247 (((rd_T66 x242001 x6).f2) != 0) x242000 x242001 ((rd_T66 x242001 x6).f0) ((rd_T66 x242001 x6).f1) ((rd_T66 x242001 x6).f2))) else (hucksterref16_Oper.j1 k x5 x6 t247 true x242000 x242001 ((rd_T66 x242001 x6).f0) ((rd_T66 x242001 x6).f1) ((rd_T66 x242001 x6).f2)))) else (none)) else (none))) else (none)) else (if (x242001.length:Int) ≥ 1 then (some (decide ((x242001.length:Int) ≤ 16))) else (some false))
def hucksterref16_Oper.j1:Nat → List Int → Int → Int → Bool → ByteArray → List (S66) → Int → Int → Int → Option (Bool)
 | 0,_,_,_,_,_,_,_,_,_=>none
 | k + 1,x5,x6,x8,x65,x242000,x242001,x247000,x247001,x247002=>if x65=true then (some false) else (hucksterref16_Oper.l1 k x5 x6 x8 0 x242000 x242001 x247000 x247001 x247002)
def hucksterref16_Oper.l1:Nat → List Int → Int → Int → Int → ByteArray → List (S66) → Int → Int → Int → Option (Bool)
 | 0,_,_,_,_,_,_,_,_,_=>none
 | k + 1,x5,x6,x8,x9,x242000,x242001,x247000,x247001,x247002=>if x9 < x6 then (if 0 ≤ x9 then (if x9 < (x242001.length:Int) then ((hucksterref16_Sort.f k ((rd_T66 x242001 x9).f0)).bind fun t251=>(if t251=x8 then (if ((rd_T66 x242001 x9).f1)=x247001 then (some false) else (hucksterref16_Oper.l1 k x5 x6 x8 (wrap64 (x9 + 1)) x242000 x242001 x247000 x247001 x247002)) else (hucksterref16_Oper.l1 k x5 x6 x8 (wrap64 (x9 + 1)) x242000 x242001 x247000 x247001 x247002))) else (none)) else (none)) else (hucksterref16_Oper.l0 k x5 (wrap64 (x6 + 1)) x242000 x242001)
end
def hucksterref16_Oper.f (k:Nat) (l0_0:List ByteArray) (l0_1:List ByteArray) (l0_2:List ByteArray) (l0_3:List (S35)) (l0_4:List (S39)) (a1_0:ByteArray) (l1_1:List (S66)):Option (Bool):=hucksterref16_Oper.l0 k (([0,(l0_0.length:Int),(l0_1.length:Int),(l0_2.length:Int)]:List Int)) 0 a1_0 l1_1
def hucksterref16_Oper.T7:Bool × List (List Nat × List Nat):=(true,[([],[]),([0],[0]),([],[]),([],[]),([2,3],[2,3]),([4],[4]),([1,5],[1,5]),([6],[6]),([7,6],[7]),([8],[8]),([9,8],[8,9]),([10,8,8],[8,10]),([11],[11]),([12,11],[11,12]),([13,11],[11,13]),([14,11,11],[11,14]),([15],[15]),([16,15],[15,16]),([17,15],[15,17]),([15,18,11],[11,15,18]),([11,19,8],[8,11,19]),([8,20],[8,20]),([21,15],[21]),([22],[22]),([23,22],[22,23]),([24,22,22],[22,24]),([25],[25]),([26,25],[25,26]),([27,25],[25,27]),([25,28,22],[22,25,28]),([22,29],[22,29])])
def hucksterref16_Oper.B7:List Nat:=[0,1,0,0,12,28,63,127,255,511,1023,2047,4095,8191,16383,32767,65535,131071,262143,524287,1048575,2097151,4194303,8388607,16777215,33554431,67108863,134217727,268435455,536870911,1073741823]
theorem hucksterref16_Oper.tab7:rtab .any (opsOf Tryd.f29 7)=hucksterref16_Oper.T7:=by kernel_rfl
theorem hucksterref16_Oper.bits7:waitsOk hucksterref16_Oper.T7.2 hucksterref16_Oper.B7=true:=by kernel_rfl
def hucksterref16_Oper.T12:Bool × List (List Nat × List Nat):=(true,[([],[]),([0],[0]),([],[]),([1,2],[1,2]),([3],[3]),([4],[4]),([5],[5]),([],[]),([6,7],[6,7]),([8,6],[8]),([9],[9]),([10,9],[9,10]),([9],[9]),([11,12,9],[9,11,12]),([13,9],[9,13]),([14,9],[9,14]),([9],[9]),([16,9],[9,16]),([15,17,9],[9,15,17]),([9,18],[9,18])])
def hucksterref16_Oper.B12:List Nat:=[0,1,0,7,15,31,63,0,255,511,1023,2047,1023,8191,16383,32767,1023,66559,262143,524287]
theorem hucksterref16_Oper.tab12:rtab .any (opsOf Tryd.f29 12)=hucksterref16_Oper.T12:=by kernel_rfl
theorem hucksterref16_Oper.bits12:waitsOk hucksterref16_Oper.T12.2 hucksterref16_Oper.B12=true:=by kernel_rfl
set_option maxHeartbeats 8000000 in
set_option maxRecDepth 100000 in
theorem hucksterref16_Oper.calls (k:Nat) (A0_0:Option Addr) (c0_0:Nat) (l0_0:List ByteArray) (A0_1:Option Addr) (c0_1:Nat) (l0_1:List ByteArray) (A0_2:Option Addr) (c0_2:Nat) (l0_2:List ByteArray) (A0_3:Option Addr) (c0_3:Nat) (l0_3:List (S35)) (A0_4:Option Addr) (c0_4:Nat) (l0_4:List (S39)) (a1_0:ByteArray) (A1_1:Option Addr) (c1_1:Nat) (l1_1:List (S66)) (r:Bool) (w:World) (hr0_0:Kd.C Kd.string w A0_0 l0_0.length l0_0) (hc0_0:l0_0.length ≤ c0_0) (hr0_1:Kd.C Kd.string w A0_1 l0_1.length l0_1) (hc0_1:l0_1.length ≤ c0_1) (hr0_2:Kd.C Kd.string w A0_2 l0_2.length l0_2) (hc0_2:l0_2.length ≤ c0_2) (hr0_3:Kd.C k35 w A0_3 l0_3.length l0_3) (hc0_3:l0_3.length ≤ c0_3) (hr0_4:Kd.C k39 w A0_4 l0_4.length l0_4) (hc0_4:l0_4.length ≤ c0_4) (hr1_1:Kd.C k66 w A1_1 l1_1.length l1_1) (hc1_1:l1_1.length ≤ c1_1) (h:hucksterref16_Oper.f k l0_0 l0_1 l0_2 l0_3 l0_4 a1_0 l1_1=some r) :
  Calls Tryd.prog 29 #[.agg #[.slice A0_0 l0_0.length c0_0,.slice A0_1 l0_1.length c0_1,.slice A0_2 l0_2.length c0_2,.slice A0_3 l0_3.length c0_3,.slice A0_4 l0_4.length c0_4],.agg #[.string a1_0,.slice A1_1 l1_1.length c1_1]] w fun e w'=>e = .returned (.bool r)∧Below w.heap.size w w':=by
 have hu26:=Tryd.underlying26;have hu39:=Tryd.underlying39;have hu66:=Tryd.underlying66;have HR0_0:=Aside0.mk hr0_0;have HC0_0:=Aside0.mk hc0_0;clear hr0_0 hc0_0;have HR0_1:=Aside0.mk hr0_1;have HC0_1:=Aside0.mk hc0_1;clear hr0_1 hc0_1;have HR0_2:=Aside0.mk hr0_2;have HC0_2:=Aside0.mk hc0_2;clear hr0_2 hc0_2;have HR0_3:=Aside0.mk hr0_3;have HC0_3:=Aside0.mk hc0_3;clear hr0_3 hc0_3;have HR0_4:=Aside0.mk hr0_4;have HC0_4:=Aside0.mk hc0_4;clear hr0_4 hc0_4;have HR1_1:=Aside0.mk hr1_1;have HC1_1:=Aside0.mk hc1_1;clear hr1_1 hc1_1;have HB:=Aside0.mk (Below.refl w.heap.size w);have H:(hucksterref16_Oper.l0 k (([0,(l0_0.length:Int),(l0_1.length:Int),(l0_2.length:Int)]:List Int)) 0 a1_0 l1_1)=some r:=h;clear h;obtain ⟨y242,hy242⟩:∃ y_:List Int,y_=(([0,(l0_0.length:Int),(l0_1.length:Int),(l0_2.length:Int)]:List Int)):=⟨_,rfl⟩;(replace H:(hucksterref16_Oper.l0 k y242 0 a1_0 l1_1)=some r:=by first|(rw [hy242];with_reducible exact H)|(have H2_:=(Option.bind_some _ _).symm.trans H;rw [hy242];with_reducible exact H2_)|(have H2_:=(Option.bind_some _ _).symm.trans H;with_reducible exact H2_)|with_reducible exact H|(rw [hy242];exact H)|exact H);have Ny242:=Aside0.mk hy242;clear hy242;have H':=Aside0.mk H;clear H;go_enter Tryd.func29,Tryd.ntmps29;go_wp2_with (first|((with_reducible refine gate_dst (N:=2) rfl ?_);(try (refine gate_guard (by rfl) ?_;dsimp only));refine box_event ?hg (N:=2) ?hd (cs:=#[.slice A0_0 l0_0.length c0_0,.slice A0_1 l0_1.length c0_1,.slice A0_2 l0_2.length c0_2,.slice A0_3 l0_3.length c0_3,.slice A0_4 l0_4.length c0_4]) (t:=26) ?hr ?_;(case hd=>rfl);(case hg=>rfl);(case hr=>first|(go_simp;done)|(go_simp;rfl));intro gb240 hg w3 hbox hb;have n0_:=Aside0.mk (below_step (by repeat (first|(with_reducible first|exact HB.out|apply below_alloc|apply pw_below_drewN|apply below_drew1)|exact HB.out)) hb);have n1_:=Aside0.mk (hbox);have n2_:=Aside0.mk ((by rw [hg];exact (below_size (by repeat (first|(with_reducible first|exact HB.out|apply below_alloc|apply pw_below_drewN|apply below_drew1)|exact HB.out))):w.heap.size ≤ gb240));have n3_:=Aside0.mk ((by rw [hg];exact (below_size (by repeat (first|(with_reducible first|exact HB.out|apply below_alloc|apply pw_below_drewN|apply below_drew1)|exact HB.out))):w.heap.size ≤ gb240));clear HB;have HB:=n0_;have BK240:=n1_;have GW240:=n2_;have GE240:=n3_;clear n0_ n1_ n2_ n3_;clear hb hbox hg)|((with_reducible refine gate_dst (N:=3) rfl ?_);(try (refine gate_guard (by rfl) ?_;dsimp only));refine box_event ?hg (N:=3) ?hd (cs:=#[.string a1_0,.slice A1_1 l1_1.length c1_1]) (t:=39) ?hr ?_;(case hd=>rfl);(case hg=>rfl);(case hr=>first|(go_simp;done)|(go_simp;rfl));intro gb241 hg w4 hbox hb;have n0_:=Aside0.mk (blk_below (g:=gb240) (o:=.cells #[.slice A0_0 l0_0.length c0_0,.slice A0_1 l0_1.length c0_1,.slice A0_2 l0_2.length c0_2,.slice A0_3 l0_3.length c0_3,.slice A0_4 l0_4.length c0_4] 26 (0,0)) (by (with_reducible repeat (first|refine blk_drewN ?_ _|refine blk_drew ?_|refine blk_alloc ?_ _));exact BK240.out) hb);have n1_:=Aside0.mk (below_step (by repeat (first|(with_reducible first|exact HB.out|apply below_alloc|apply pw_below_drewN|apply below_drew1|refine below_set ?_ GE240.out)|exact HB.out)) hb);have n2_:=Aside0.mk (hbox);have n3_:=Aside0.mk ((by rw [hg];exact (below_size (by repeat (first|(with_reducible first|exact HB.out|apply below_alloc|apply pw_below_drewN|apply below_drew1|refine below_set ?_ GE240.out)|exact HB.out))):w.heap.size ≤ gb241));have n4_:=Aside0.mk ((by rw [hg];exact (below_size (by repeat (first|(with_reducible first|exact HB.out|apply below_alloc|apply pw_below_drewN|apply below_drew1|refine below_set ?_ GE240.out)|exact HB.out))):w.heap.size ≤ gb241));have n5_:=Aside0.mk ((by rw [hg];exact Nat.ne_of_lt (blk_lt (g:=gb240) (o:=.cells #[.slice A0_0 l0_0.length c0_0,.slice A0_1 l0_1.length c0_1,.slice A0_2 l0_2.length c0_2,.slice A0_3 l0_3.length c0_3,.slice A0_4 l0_4.length c0_4] 26 (0,0)) (by (with_reducible repeat (first|refine blk_drewN ?_ _|refine blk_drew ?_|refine blk_alloc ?_ _));exact BK240.out)):gb240 ≠ gb241));have n6_:=Aside0.mk ((by rw [hg];exact Nat.ne_of_gt (blk_lt (g:=gb240) (o:=.cells #[.slice A0_0 l0_0.length c0_0,.slice A0_1 l0_1.length c0_1,.slice A0_2 l0_2.length c0_2,.slice A0_3 l0_3.length c0_3,.slice A0_4 l0_4.length c0_4] 26 (0,0)) (by (with_reducible repeat (first|refine blk_drewN ?_ _|refine blk_drew ?_|refine blk_alloc ?_ _));exact BK240.out)):gb241 ≠ gb240));clear BK240;clear HB;have BK240:=n0_;have HB:=n1_;have BK241:=n2_;have GW241:=n3_;have GE241:=n4_;have NB240_241:=n5_;have NB241_240:=n6_;clear n0_ n1_ n2_ n3_ n4_ n5_ n6_;clear hb hbox hg;have hnb5:=NB240_241.out;have hnc5:=NB241_240.out;have hcz6_0:w4.cell? ⟨gb240,0,none⟩=some (.slice A0_0 l0_0.length c0_0):=(blk_cell BK240.out 0).trans rfl;have hcz6_1:w4.cell? ⟨gb240,1,none⟩=some (.slice A0_1 l0_1.length c0_1):=(blk_cell BK240.out 1).trans rfl;have hcz6_2:w4.cell? ⟨gb240,2,none⟩=some (.slice A0_2 l0_2.length c0_2):=(blk_cell BK240.out 2).trans rfl;have hcz6_3:w4.cell? ⟨gb240,3,none⟩=some (.slice A0_3 l0_3.length c0_3):=(blk_cell BK240.out 3).trans rfl;have hcz6_4:w4.cell? ⟨gb240,4,none⟩=some (.slice A0_4 l0_4.length c0_4):=(blk_cell BK240.out 4).trans rfl;have hfz6_0:=blk_frozen BK240.out 0;have hfz6_1:=blk_frozen BK240.out 1;have hfz6_2:=blk_frozen BK240.out 2;have hfz6_3:=blk_frozen BK240.out 3;have hfz6_4:=blk_frozen BK240.out 4)|((with_reducible refine gate_dst (N:=19) rfl ?_);(try (refine gate_guard (by rfl) ?_;dsimp only));refine Kd.R_lit (Kd.int .i64) _ 3 ?hg (N:=19) ?hd (xs:=([0,(l0_0.length:Int),(l0_1.length:Int),(l0_2.length:Int)]:List Int)) (inner:=[.int .i64 0,.int .i64 (l0_0.length:Int),.int .i64 (l0_1.length:Int),.int .i64 (l0_2.length:Int)]) (ok:=fun _=>True) (okp:=fun _=>True) ?hr ?hp (fun _ hk=>hk) trivial (Below.refl _ _) (Nat.le_refl _) (by simp) ?_;(case hd=>rfl);(case hg=>rfl);(case hr=>first|(go_simp;done)|(go_simp;rfl));(case hp=>exact (Reps.one (show Kd.M (Kd.int .i64) _ _ _ 0 [.int .i64 0] from rfl) (Reps.one (show Kd.M (Kd.int .i64) _ _ _ (l0_0.length:Int) [.int .i64 (l0_0.length:Int)] from rfl) (Reps.one (show Kd.M (Kd.int .i64) _ _ _ (l0_1.length:Int) [.int .i64 (l0_1.length:Int)] from rfl) (Reps.one (show Kd.M (Kd.int .i64) _ _ _ (l0_2.length:Int) [.int .i64 (l0_2.length:Int)] from rfl) (Reps.none _ _))))));intro v243 w7 ho8 hb hg_ hnew_;clear hg_ hnew_;(first|rw [← Ny242.out] at ho8|(simp only [Int.reduceToNat] at ho8;rw [← Ny242.out] at ho8));have n0_:=Aside0.mk (Kd.R_lower ho8 (below_size (by repeat (first|(with_reducible first|exact HB.out|apply below_alloc|apply pw_below_drewN|apply below_drew1|refine below_set ?_ GE240.out|refine below_set ?_ GE241.out)|exact HB.out))));have n1_:=Aside0.mk (blk_below (g:=gb240) (o:=.cells #[.slice A0_0 l0_0.length c0_0,.slice A0_1 l0_1.length c0_1,.slice A0_2 l0_2.length c0_2,.slice A0_3 l0_3.length c0_3,.slice A0_4 l0_4.length c0_4] 26 (0,0)) (by (with_reducible repeat (first|refine blk_drewN ?_ _|refine blk_drew ?_|refine blk_alloc ?_ _));exact BK240.out) hb);have n2_:=Aside0.mk (blk_below (g:=gb241) (o:=.cells #[.string a1_0,.slice A1_1 l1_1.length c1_1] 39 (0,0)) (by (with_reducible repeat (first|refine blk_drewN ?_ _|refine blk_drew ?_|refine blk_alloc ?_ _));exact BK241.out) hb);have n3_:=Aside0.mk (below_step (by repeat (first|(with_reducible first|exact HB.out|apply below_alloc|apply pw_below_drewN|apply below_drew1|refine below_set ?_ GE240.out|refine below_set ?_ GE241.out)|exact HB.out)) hb);clear BK240;clear BK241;clear HB;have HO244:=n0_;have BK240:=n1_;have BK241:=n2_;have HB:=n3_;clear n0_ n1_ n2_ n3_;clear hb ho8));go_loopg [6] k (fun kq v6 w'=>∃ (x6_1:Int),v6 = .int .i64 x6_1∧Aside0 (hucksterref16_Oper.l0 kq y242 x6_1 a1_0 l1_1=some r)∧Aside0 (kq ≤ k)∧Aside0 (Kd.R (Kd.int .i64) 3 w' w.heap.size (fun _=>True) v243 y242)∧Aside0 (w'.heap[gb240]? = some (.cells #[(.slice A0_0 l0_0.length c0_0),(.slice A0_1 l0_1.length c0_1),(.slice A0_2 l0_2.length c0_2),(.slice A0_3 l0_3.length c0_3),(.slice A0_4 l0_4.length c0_4)] 26 (0,0)))∧Aside0 (w'.heap[gb241]? = some (.cells #[.string a1_0,(.slice A1_1 l1_1.length c1_1)] 39 (0,0)))∧Aside0 (Below w.heap.size w w'))
 case atStart=>exact ⟨(0),(by first|rfl|(simp;done)|(simp [*];done)),H',⟨Nat.le_refl _⟩,⟨by (with_reducible repeat (first|apply Kd.R_alloc|apply Kd.R_drewN|apply Kd.R_drew));exact HO244.out⟩,⟨by (with_reducible repeat (first|refine blk_drewN ?_ _|refine blk_drew ?_|refine blk_alloc ?_ _));exact BK240.out⟩,⟨by (with_reducible repeat (first|refine blk_drewN ?_ _|refine blk_drew ?_|refine blk_alloc ?_ _));exact BK241.out⟩,⟨by repeat (first|(with_reducible first|exact HB.out|apply below_alloc|apply pw_below_drewN|apply below_drew1|refine below_set ?_ GE240.out|refine below_set ?_ GE241.out)|exact HB.out)⟩⟩
 case round =>
  clear H';(try clear c1);(try clear c2);(try clear p2);(try clear c5);(try clear hcz6_0);(try clear hcz6_1);(try clear hcz6_2);(try clear hcz6_3);(try clear hcz6_4);(try clear hfz6_0);(try clear hfz6_1);(try clear hfz6_2);(try clear hfz6_3);(try clear hfz6_4);obtain ⟨x6_1,rfl,HA,HK1,HO_5,BK240,BK241,HB⟩:=hrel;cases gk with
  | zero=>exact absurd HA.out (by simp [hucksterref16_Oper.l0])
  | succ k1 =>
   have H:=HA.out;clear HA;simp only [hucksterref16_Oper.l0] at H;by_cases c9:x6_1 < (l1_1.length:Int)
   ·rw [if_pos c9] at H;have c9b0:decide (x6_1 < (l1_1.length:Int))=true:=decide_eq_true c9;clear c9;by_cases c10:0 ≤ x6_1
    ·rw [if_pos c10] at H;have c10b0:decide (0 ≤ x6_1)=true:=decide_eq_true c10;clear c10;replace H:=Option.bind_eq_some_iff.mp H;obtain ⟨t247,A110,H⟩:=H;replace H:(if 0 ≤ t247 then (if t247 < (y242.length:Int) then ((hucksterref16_in.f ((rd_T66 l1_1 x6_1).f1) (rd y242 t247)).bind fun t249=>(if t249=true then (if t247=2 then (if ((rd_T66 l1_1 x6_1).f2) < 1 then (hucksterref16_Oper.j1 k1 y242 x6_1 t247 true a1_0 l1_1 ((rd_T66 l1_1 x6_1).f0) ((rd_T66 l1_1 x6_1).f1) ((rd_T66 l1_1 x6_1).f2)) else (if ((rd_T66 l1_1 x6_1).f2) > 1000 then (hucksterref16_Oper.j1 k1 y242 x6_1 t247 true a1_0 l1_1 ((rd_T66 l1_1 x6_1).f0) ((rd_T66 l1_1 x6_1).f1) ((rd_T66 l1_1 x6_1).f2)) else (hucksterref16_Oper.j1 k1 y242 x6_1 t247 false a1_0 l1_1 ((rd_T66 l1_1 x6_1).f0) ((rd_T66 l1_1 x6_1).f1) ((rd_T66 l1_1 x6_1).f2)))) else (hucksterref16_Oper.j1 k1 y242 x6_1 t247 (((rd_T66 l1_1 x6_1).f2) != 0) a1_0 l1_1 ((rd_T66 l1_1 x6_1).f0) ((rd_T66 l1_1 x6_1).f1) ((rd_T66 l1_1 x6_1).f2))) else (hucksterref16_Oper.j1 k1 y242 x6_1 t247 true a1_0 l1_1 ((rd_T66 l1_1 x6_1).f0) ((rd_T66 l1_1 x6_1).f1) ((rd_T66 l1_1 x6_1).f2)))) else (none)) else (none))=some r:=H;have A11:=Aside0.mk A110;clear A110;have HC12:=Aside0.mk H;clear H;have hnb13:=NB241_240.out;have hnc13:=NB240_241.out;obtain ⟨hcz14_0,hcz14_1⟩:=bc2 BK241.out;obtain ⟨hfz14_0,hfz14_1⟩:=bf2 BK241.out;have p245:0 ≤ (x6_1:Int):=of_decide_eq_true (by first|(with_reducible assumption)|assumption);have q245:x6_1 < (l1_1.length:Int):=of_decide_eq_true (by first|(with_reducible assumption)|assumption);obtain ⟨ad245,e245,hx245_0,hx245_1,hx245_2⟩:=at_T66 HR1_1.out x6_1 p245 q245;cases e245;replace hx245_0:=(HB.out.cell (World.block_lt_of_cell? w _ hx245_0)).trans hx245_0;replace hx245_1:=(HB.out.cell (World.block_lt_of_cell? w _ hx245_1)).trans hx245_1;replace hx245_2:=(HB.out.cell (World.block_lt_of_cell? w _ hx245_2)).trans hx245_2;replace p245:=eq_true p245;replace q245:=eq_true q245;go_upto_region 7 with (first|((with_reducible refine gate_dst (N:=7) rfl ?_);(try (refine gate_guard (by rfl) ?_;dsimp only));refine box_event ?hg (N:=7) ?hd (cs:=#[.int .i64 0,.int .i64 0,.int .i64 0]) (t:=66) ?hr ?_;(case hd=>rfl);(case hg=>rfl);(case hr=>first|(go_simp;done)|(go_simp;rfl));intro gb246 hg w15 hbox hb;have n0_:=Aside0.mk (Kd.R_below (by (with_reducible repeat (first|apply Kd.R_alloc|apply Kd.R_drewN|apply Kd.R_drew));exact HO_5.out) hb);have n1_:=Aside0.mk (blk_below (g:=gb240) (o:=.cells #[.slice A0_0 l0_0.length c0_0,.slice A0_1 l0_1.length c0_1,.slice A0_2 l0_2.length c0_2,.slice A0_3 l0_3.length c0_3,.slice A0_4 l0_4.length c0_4] 26 (0,0)) (by (with_reducible repeat (first|refine blk_drewN ?_ _|refine blk_drew ?_|refine blk_alloc ?_ _));exact BK240.out) hb);have n2_:=Aside0.mk (blk_below (g:=gb241) (o:=.cells #[.string a1_0,.slice (some ad245) l1_1.length c1_1] 39 (0,0)) (by (with_reducible repeat (first|refine blk_drewN ?_ _|refine blk_drew ?_|refine blk_alloc ?_ _));exact BK241.out) hb);have n3_:=Aside0.mk (below_step (by repeat (first|(with_reducible first|exact HB.out|apply below_alloc|apply pw_below_drewN|apply below_drew1|refine below_set ?_ GE240.out|refine below_set ?_ GE241.out)|exact HB.out)) hb);have n4_:=Aside0.mk (hbox);have n5_:=Aside0.mk ((by rw [hg];exact (below_size (by repeat (first|(with_reducible first|exact HB.out|apply below_alloc|apply pw_below_drewN|apply below_drew1|refine below_set ?_ GE240.out|refine below_set ?_ GE241.out)|exact HB.out))):w.heap.size ≤ gb246));have n6_:=Aside0.mk ((by rw [hg];exact (below_size (by repeat (first|(with_reducible first|exact HB.out|apply below_alloc|apply pw_below_drewN|apply below_drew1|refine below_set ?_ GE240.out|refine below_set ?_ GE241.out)|exact HB.out))):w.heap.size ≤ gb246));have n7_:=Aside0.mk ((by rw [hg];exact Nat.ne_of_lt (blk_lt (g:=gb240) (o:=.cells #[.slice A0_0 l0_0.length c0_0,.slice A0_1 l0_1.length c0_1,.slice A0_2 l0_2.length c0_2,.slice A0_3 l0_3.length c0_3,.slice A0_4 l0_4.length c0_4] 26 (0,0)) (by (with_reducible repeat (first|refine blk_drewN ?_ _|refine blk_drew ?_|refine blk_alloc ?_ _));exact BK240.out)):gb240 ≠ gb246));have n8_:=Aside0.mk ((by rw [hg];exact Nat.ne_of_gt (blk_lt (g:=gb240) (o:=.cells #[.slice A0_0 l0_0.length c0_0,.slice A0_1 l0_1.length c0_1,.slice A0_2 l0_2.length c0_2,.slice A0_3 l0_3.length c0_3,.slice A0_4 l0_4.length c0_4] 26 (0,0)) (by (with_reducible repeat (first|refine blk_drewN ?_ _|refine blk_drew ?_|refine blk_alloc ?_ _));exact BK240.out)):gb246 ≠ gb240));have n9_:=Aside0.mk ((by rw [hg];exact Nat.ne_of_lt (blk_lt (g:=gb241) (o:=.cells #[.string a1_0,.slice (some ad245) l1_1.length c1_1] 39 (0,0)) (by (with_reducible repeat (first|refine blk_drewN ?_ _|refine blk_drew ?_|refine blk_alloc ?_ _));exact BK241.out)):gb241 ≠ gb246));have n10_:=Aside0.mk ((by rw [hg];exact Nat.ne_of_gt (blk_lt (g:=gb241) (o:=.cells #[.string a1_0,.slice (some ad245) l1_1.length c1_1] 39 (0,0)) (by (with_reducible repeat (first|refine blk_drewN ?_ _|refine blk_drew ?_|refine blk_alloc ?_ _));exact BK241.out)):gb246 ≠ gb241));clear HO_5;clear BK240;clear BK241;clear HB;have HO_5:=n0_;have BK240:=n1_;have BK241:=n2_;have HB:=n3_;have BK246:=n4_;have GW246:=n5_;have GE246:=n6_;have NB240_246:=n7_;have NB246_240:=n8_;have NB241_246:=n9_;have NB246_241:=n10_;clear n0_ n1_ n2_ n3_ n4_ n5_ n6_ n7_ n8_ n9_ n10_;clear hb hbox hg;have hnb16:=NB246_240.out;have hnc16:=NB240_246.out;have hnb17:=NB246_241.out;have hnc17:=NB241_246.out;have hcz18_0:w15.cell? ⟨gb246,0,none⟩=some (.int .i64 0):=(blk_cell BK246.out 0).trans rfl;have hcz18_1:w15.cell? ⟨gb246,1,none⟩=some (.int .i64 0):=(blk_cell BK246.out 1).trans rfl;have hcz18_2:w15.cell? ⟨gb246,2,none⟩=some (.int .i64 0):=(blk_cell BK246.out 2).trans rfl;have hfz18_0:=blk_frozen BK246.out 0;have hfz18_1:=blk_frozen BK246.out 1;have hfz18_2:=blk_frozen BK246.out 2)|((with_reducible refine gate_callee (f:=51) rfl ?_);refine goesL_ (some 34) rfl rfl Tryd.func51 (by kernel_rfl) rfl #[.int .i64 ((rd_T66 l1_1 x6_1).f0)] rfl (by (try simp only [List.map_toArray,List.map_cons,List.map_nil]);first|done|rfl|(simp only [List.length_drop,List.length_take];rfl)) ?_;(with_reducible refine (hucksterref16_Sort.calls k1 ((rd_T66 l1_1 x6_1).f0) t247 _ A11.out).mono ?_);rintro e w' ⟨rfl,⟨nd,rfl⟩⟩;refine ⟨_,rfl,?_⟩));(try simp only [Act.put,q1_,q2_,q3_]);go_cut [65] (fun v65 wc=>∃ (kq:Nat) (x65_11:Bool),v65 = .bool x65_11∧Aside0 (hucksterref16_Oper.j1 kq y242 x6_1 t247 x65_11 a1_0 l1_1 ((rd_T66 l1_1 x6_1).f0) ((rd_T66 l1_1 x6_1).f1) ((rd_T66 l1_1 x6_1).f2)=some r)∧Aside0 (kq ≤ k1)∧Aside0 (Kd.R (Kd.int .i64) 3 wc w.heap.size (fun _=>True) v243 y242)∧Aside0 (wc.heap[gb240]? = some (.cells #[(.slice A0_0 l0_0.length c0_0),(.slice A0_1 l0_1.length c0_1),(.slice A0_2 l0_2.length c0_2),(.slice A0_3 l0_3.length c0_3),(.slice A0_4 l0_4.length c0_4)] 26 (0,0)))∧Aside0 (wc.heap[gb241]? = some (.cells #[.string a1_0,(.slice (some ad245) l1_1.length c1_1)] 39 (0,0)))∧Aside0 (wc.heap[gb246]? = some (.cells #[.int .i64 ((rd_T66 l1_1 x6_1).f0),.int .i64 ((rd_T66 l1_1 x6_1).f1),.int .i64 ((rd_T66 l1_1 x6_1).f2)] 66 (0,0)))∧Aside0 (Below w.heap.size w wc))
     case first =>
      have H:=HC12.out;clear HC12;by_cases c19:0 ≤ t247
      ·rw [if_pos c19] at H;have c19b0:decide (0 ≤ t247)=true:=decide_eq_true c19;clear c19;(first|rw [c19b0]|(simp only [i64_w,i32_w];rw [c19b0])|skip);by_cases c20:t247 < (y242.length:Int)
       ·rw [if_pos c20] at H;have c20b0:decide (t247 < (y242.length:Int))=true:=decide_eq_true c20;clear c20;replace H:=Option.bind_eq_some_iff.mp H;obtain ⟨t249,A210,H⟩:=H;replace H:(if t249=true then (if t247=2 then (if ((rd_T66 l1_1 x6_1).f2) < 1 then (hucksterref16_Oper.j1 k1 y242 x6_1 t247 true a1_0 l1_1 ((rd_T66 l1_1 x6_1).f0) ((rd_T66 l1_1 x6_1).f1) ((rd_T66 l1_1 x6_1).f2)) else (if ((rd_T66 l1_1 x6_1).f2) > 1000 then (hucksterref16_Oper.j1 k1 y242 x6_1 t247 true a1_0 l1_1 ((rd_T66 l1_1 x6_1).f0) ((rd_T66 l1_1 x6_1).f1) ((rd_T66 l1_1 x6_1).f2)) else (hucksterref16_Oper.j1 k1 y242 x6_1 t247 false a1_0 l1_1 ((rd_T66 l1_1 x6_1).f0) ((rd_T66 l1_1 x6_1).f1) ((rd_T66 l1_1 x6_1).f2)))) else (hucksterref16_Oper.j1 k1 y242 x6_1 t247 (((rd_T66 l1_1 x6_1).f2) != 0) a1_0 l1_1 ((rd_T66 l1_1 x6_1).f0) ((rd_T66 l1_1 x6_1).f1) ((rd_T66 l1_1 x6_1).f2))) else (hucksterref16_Oper.j1 k1 y242 x6_1 t247 true a1_0 l1_1 ((rd_T66 l1_1 x6_1).f0) ((rd_T66 l1_1 x6_1).f1) ((rd_T66 l1_1 x6_1).f2)))=some r:=H;have A21:=Aside0.mk A210;clear A210;by_cases c22:t249=true
        ·subst c22;(have H1:(if t247=2 then (if ((rd_T66 l1_1 x6_1).f2) < 1 then (hucksterref16_Oper.j1 k1 y242 x6_1 t247 true a1_0 l1_1 ((rd_T66 l1_1 x6_1).f0) ((rd_T66 l1_1 x6_1).f1) ((rd_T66 l1_1 x6_1).f2)) else (if ((rd_T66 l1_1 x6_1).f2) > 1000 then (hucksterref16_Oper.j1 k1 y242 x6_1 t247 true a1_0 l1_1 ((rd_T66 l1_1 x6_1).f0) ((rd_T66 l1_1 x6_1).f1) ((rd_T66 l1_1 x6_1).f2)) else (hucksterref16_Oper.j1 k1 y242 x6_1 t247 false a1_0 l1_1 ((rd_T66 l1_1 x6_1).f0) ((rd_T66 l1_1 x6_1).f1) ((rd_T66 l1_1 x6_1).f2)))) else (hucksterref16_Oper.j1 k1 y242 x6_1 t247 (((rd_T66 l1_1 x6_1).f2) != 0) a1_0 l1_1 ((rd_T66 l1_1 x6_1).f0) ((rd_T66 l1_1 x6_1).f1) ((rd_T66 l1_1 x6_1).f2)))=some r:=by rw [if_pos rfl] at H;exact H);clear H;have H:=H1;clear H1;by_cases c23:t247=2
         ·rw [if_pos c23] at H;have c23b0:(t247 == 2)=true:=beq_iff_eq.mpr c23;have c23b1:(t247 != 2)=false:=bne_eq_false_iff_eq.mpr c23;clear c23;by_cases c24:((rd_T66 l1_1 x6_1).f2) < 1
          ·rw [if_pos c24] at H;have c24b0:decide (((rd_T66 l1_1 x6_1).f2) < 1)=true:=decide_eq_true c24;clear c24;have H':=Aside0.mk H;clear H;(try go_wp2);have n0_:Aside0 (Kd.R (Kd.int .i64) 3 (((w15.setCell ⟨gb246,0,none⟩ (.int .i64 ((rd_T66 l1_1 x6_1).f0))).setCell ⟨gb246,1,none⟩ (.int .i64 ((rd_T66 l1_1 x6_1).f1))).setCell ⟨gb246,2,none⟩ (.int .i64 ((rd_T66 l1_1 x6_1).f2))) w.heap.size (fun _=>True) v243 y242):=⟨by (with_reducible repeat (first|apply Kd.R_alloc|apply Kd.R_drewN|apply Kd.R_drew));exact Kd.R_mono (Kd.R_far (p:=⟨gb246,2,none⟩) (Kd.R_far (p:=⟨gb246,1,none⟩) (Kd.R_far (p:=⟨gb246,0,none⟩) (Kd.R_types HO_5.out BK246.out (by decide)) (fun _ hk=>hk.2) (.int .i64 ((rd_T66 l1_1 x6_1).f0))) (fun _ hk=>hk.2) (.int .i64 ((rd_T66 l1_1 x6_1).f1))) (fun _ hk=>hk.2) (.int .i64 ((rd_T66 l1_1 x6_1).f2))) (fun _ hk=>trivial)⟩;have n1_:Aside0 ((((w15.setCell ⟨gb246,0,none⟩ (.int .i64 ((rd_T66 l1_1 x6_1).f0))).setCell ⟨gb246,1,none⟩ (.int .i64 ((rd_T66 l1_1 x6_1).f1))).setCell ⟨gb246,2,none⟩ (.int .i64 ((rd_T66 l1_1 x6_1).f2))).heap[gb240]? = some (.cells #[.slice A0_0 l0_0.length c0_0,.slice A0_1 l0_1.length c0_1,.slice A0_2 l0_2.length c0_2,.slice A0_3 l0_3.length c0_3,.slice A0_4 l0_4.length c0_4] 26 (0,0))):=⟨by (with_reducible repeat (first|refine blk_drewN ?_ _|refine blk_drew ?_|refine blk_alloc ?_ _));refine blk_far ?_ NB240_246.out _;(with_reducible repeat (first|refine blk_drewN ?_ _|refine blk_drew ?_|refine blk_alloc ?_ _));refine blk_far ?_ NB240_246.out _;(with_reducible repeat (first|refine blk_drewN ?_ _|refine blk_drew ?_|refine blk_alloc ?_ _));refine blk_far ?_ NB240_246.out _;(with_reducible repeat (first|refine blk_drewN ?_ _|refine blk_drew ?_|refine blk_alloc ?_ _));exact BK240.out⟩;have n2_:Aside0 ((((w15.setCell ⟨gb246,0,none⟩ (.int .i64 ((rd_T66 l1_1 x6_1).f0))).setCell ⟨gb246,1,none⟩ (.int .i64 ((rd_T66 l1_1 x6_1).f1))).setCell ⟨gb246,2,none⟩ (.int .i64 ((rd_T66 l1_1 x6_1).f2))).heap[gb241]? = some (.cells #[.string a1_0,.slice (some ad245) l1_1.length c1_1] 39 (0,0))):=⟨by (with_reducible repeat (first|refine blk_drewN ?_ _|refine blk_drew ?_|refine blk_alloc ?_ _));refine blk_far ?_ NB241_246.out _;(with_reducible repeat (first|refine blk_drewN ?_ _|refine blk_drew ?_|refine blk_alloc ?_ _));refine blk_far ?_ NB241_246.out _;(with_reducible repeat (first|refine blk_drewN ?_ _|refine blk_drew ?_|refine blk_alloc ?_ _));refine blk_far ?_ NB241_246.out _;(with_reducible repeat (first|refine blk_drewN ?_ _|refine blk_drew ?_|refine blk_alloc ?_ _));exact BK241.out⟩;have n3_:Aside0 ((((w15.setCell ⟨gb246,0,none⟩ (.int .i64 ((rd_T66 l1_1 x6_1).f0))).setCell ⟨gb246,1,none⟩ (.int .i64 ((rd_T66 l1_1 x6_1).f1))).setCell ⟨gb246,2,none⟩ (.int .i64 ((rd_T66 l1_1 x6_1).f2))).heap[gb246]? = some (.cells #[.int .i64 ((rd_T66 l1_1 x6_1).f0),.int .i64 ((rd_T66 l1_1 x6_1).f1),.int .i64 ((rd_T66 l1_1 x6_1).f2)] 66 (0,0))):=⟨by (with_reducible repeat (first|refine blk_drewN ?_ _|refine blk_drew ?_|refine blk_alloc ?_ _));refine blk_put (cs:=#[.int .i64 ((rd_T66 l1_1 x6_1).f0),.int .i64 ((rd_T66 l1_1 x6_1).f1),.int .i64 0]) ?_ 2 _ rfl;(with_reducible repeat (first|refine blk_drewN ?_ _|refine blk_drew ?_|refine blk_alloc ?_ _));refine blk_put (cs:=#[.int .i64 ((rd_T66 l1_1 x6_1).f0),.int .i64 0,.int .i64 0]) ?_ 1 _ rfl;(with_reducible repeat (first|refine blk_drewN ?_ _|refine blk_drew ?_|refine blk_alloc ?_ _));refine blk_put (cs:=#[.int .i64 0,.int .i64 0,.int .i64 0]) ?_ 0 _ rfl;(with_reducible repeat (first|refine blk_drewN ?_ _|refine blk_drew ?_|refine blk_alloc ?_ _));exact BK246.out⟩;have n4_:Aside0 (Below w.heap.size w (((w15.setCell ⟨gb246,0,none⟩ (.int .i64 ((rd_T66 l1_1 x6_1).f0))).setCell ⟨gb246,1,none⟩ (.int .i64 ((rd_T66 l1_1 x6_1).f1))).setCell ⟨gb246,2,none⟩ (.int .i64 ((rd_T66 l1_1 x6_1).f2)))):=⟨by repeat (first|(with_reducible first|exact HB.out|apply below_alloc|apply pw_below_drewN|apply below_drew1|refine below_set ?_ GE240.out|refine below_set ?_ GE241.out|refine below_set ?_ GE246.out)|exact HB.out)⟩;(try clear HO_5);(try clear BK240);(try clear BK241);(try clear BK246);(try clear HB);generalize (((w15.setCell ⟨gb246,0,none⟩ (.int .i64 ((rd_T66 l1_1 x6_1).f0))).setCell ⟨gb246,1,none⟩ (.int .i64 ((rd_T66 l1_1 x6_1).f1))).setCell ⟨gb246,2,none⟩ (.int .i64 ((rd_T66 l1_1 x6_1).f2)))=w25 at n0_ n1_ n2_ n3_ n4_ ⊢;have HO_5:=n0_;have BK240:=n1_;have BK241:=n2_;have BK246:=n3_;have HB:=n4_;clear n0_ n1_ n2_ n3_ n4_;have n0_:=Aside0.mk (Kd.R_drewN HO_5.out nd);have n1_:=Aside0.mk (blk_drewN BK240.out nd);have n2_:=Aside0.mk (blk_drewN BK241.out nd);have n3_:=Aside0.mk (blk_drewN BK246.out nd);have n4_:=Aside0.mk (pw_below_drewN HB.out nd);clear HO_5 BK240 BK241 BK246 HB;have HO_5:=n0_;have BK240:=n1_;have BK241:=n2_;have BK246:=n3_;have HB:=n4_;clear n0_ n1_ n2_ n3_ n4_;generalize w25.drewN nd=w25 at HO_5 BK240 BK241 BK246 HB ⊢;have n0_:=Aside0.mk (Kd.R_drew HO_5.out);have n1_:=Aside0.mk (blk_drew BK240.out);have n2_:=Aside0.mk (blk_drew BK241.out);have n3_:=Aside0.mk (blk_drew BK246.out);have n4_:=Aside0.mk (below_drew1 HB.out);clear HO_5;clear BK240;clear BK241;clear BK246;clear HB;have HO_5:=n0_;have BK240:=n1_;have BK241:=n2_;have BK246:=n3_;have HB:=n4_;clear n0_ n1_ n2_ n3_ n4_;obtain ⟨Ao27,co27,eo27⟩:=Kd.R_slice HO_5.out;(first|subst eo27|(injection eo27 with f1_ f2_ f3_;have f4_:=f1_.symm;have f5_:=f3_.symm;clear f1_ f2_ f3_;subst f4_;subst f5_));have p248:0 ≤ (t247:Int):=of_decide_eq_true (by first|(with_reducible assumption)|assumption);have q248:t247 < (y242.length:Int):=of_decide_eq_true (by first|(with_reducible assumption)|assumption);obtain ⟨ad248,e248,hx248_0⟩:=Kd.at_int (Kd.R_reads' HO_5.out).2.2 t247 p248 q248;cases e248;replace p248:=eq_true p248;replace q248:=eq_true q248;refine start_ (n:=31) (S:=fun w'=>w'.cell? ⟨gb246,0,none⟩=some (.int .i64 ((rd_T66 l1_1 x6_1).f0))∧w'.cell? ⟨gb246,1,none⟩=some (.int .i64 ((rd_T66 l1_1 x6_1).f1))∧w'.cell? ⟨gb246,2,none⟩=some (.int .i64 ((rd_T66 l1_1 x6_1).f2))∧w'.cell? (ad248.add (t247).toNat)=some (.int .i64 (rd y242 t247))) (ds:=[]) (ab 31 0) (by kernel_rfl) rfl rfl ⟨(blk_cell BK246.out 0).trans rfl,(blk_cell BK246.out 1).trans rfl,(blk_cell BK246.out 2).trans rfl,hx248_0⟩ (fun hHeld=>?_);refine with_tabW hucksterref16_Oper.tab7 hucksterref16_Oper.bits7 (fun HT_ HW_=>?_);generalize w25.drew=w26 at HO_5 BK240 BK241 BK246 HB hx248_0 hHeld ⊢;refine pure_ (i:=0) (N:=some 35) (v:=?_) (a':=?_) (ab 31 1) rfl rfl (any_of HT_.out (by kernel_rfl)) (fun _ _ _ h=>h) (Or.inl ⟨by rfl,?_⟩) ?_ ?_;rotate_left
           ·intro w';go_simp;with_reducible rfl
           rotate_left
           ·simp only [Act.put,q1_,q2_,q3_,i64_w,i32_w];rfl
           refine pure_ (i:=2) (N:=some 37) (v:=?_) (a':=?_) (ab 31 5) rfl rfl (any_of HT_.out (by kernel_rfl)) (fun _ _ _ h=>h) (Or.inl ⟨by rfl,?_⟩) ?_ ?_;rotate_left
           ·intro w';go_simp;with_reducible rfl
           rotate_left
           ·simp only [Act.put,q1_,q2_,q3_,i64_w,i32_w];rfl
           refine pure_ (i:=3) (N:=some 38) (v:=?_) (a':=?_) (ab 31 13) rfl rfl (any_of HT_.out (by kernel_rfl)) (fun _ _ _ h=>h) (Or.inl ⟨by rfl,?_⟩) ?_ ?_;rotate_left
           ·intro w';go_simp;with_reducible rfl
           rotate_left
           ·simp only [Act.put,q1_,q2_,q3_,i64_w,i32_w];rfl
           refine pure_ (i:=4) (N:=some 39) (v:=?_) (a':=?_) (ab 31 29) rfl rfl (any_of HT_.out (by kernel_rfl)) (fun _ _ _ h=>h) (Or.inl ⟨by rfl,?_⟩) ?_ ?_;rotate_left
           ·intro w';go_simp;with_reducible rfl
           rotate_left
           ·simp only [Act.put,q1_,q2_,q3_,i64_w,i32_w];rfl
           refine take_ (i:=1) (N:=some 36) (v:=?_) (a':=?_) (ab 31 31) rfl rfl (take_ofW HT_.out HW_.out (by kernel_rfl)) (fun _ _ _ h=>h) (Or.inl ⟨by rfl,?_⟩) hHeld ?_ ?_;rotate_left
           ·rintro w' ⟨s0,s1,s2,s3⟩;go_simp;with_reducible rfl
           rotate_left
           ·simp only [Act.put,q1_,q2_,q3_,i64_w,i32_w];rfl
           refine take_ (i:=5) (N:=some 40) (v:=?_) (a':=?_) (ab 31 63) rfl rfl (take_ofW HT_.out HW_.out (by kernel_rfl)) (fun _ _ _ h=>h) (Or.inl ⟨by rfl,?_⟩) hHeld ?_ ?_;rotate_left
           ·rintro w' ⟨s0,s1,s2,s3⟩;go_simp;with_reducible rfl
           rotate_left
           ·simp only [Act.put,q1_,q2_,q3_,i64_w,i32_w];rfl
           refine one_ (i:=6) (N:=some 41) (ab 31 127) rfl rfl (one_of HT_.out (by kernel_rfl)) (by decide) (fun K hK=>?_);refine goes_ Tryd.func50 (by kernel_rfl) rfl #[.int .i64 ((rd_T66 l1_1 x6_1).f1),.int .i64 (rd y242 t247)] (by rfl) rfl rfl (by (try simp only [List.map_toArray,List.map_cons,List.map_nil]);first|done|rfl|(simp only [List.length_drop,List.length_take];rfl)) ?_;(with_reducible refine (hucksterref16_in.calls ((rd_T66 l1_1 x6_1).f1) (rd y242 t247) true _ A21.out).mono ?_);rintro e w' ⟨rfl,⟨nd,rfl⟩⟩;refine ⟨_,rfl,?_⟩;refine hK.out _ _ ⟨(blk_cell BK246.out 0).trans rfl,(blk_cell BK246.out 1).trans rfl,(blk_cell BK246.out 2).trans rfl,hHeld.2.2.2⟩ (fun hHeld=>?_);clear hK K;refine norm_ (a':=?_) ?_ ?_;rotate_left
           ·show Act.put _ (some 41) _=_;simp only [Act.put,q1_,q2_,q3_,i64_w,i32_w];rfl
           refine pure_ (i:=7) (N:=some 42) (v:=?_) (a':=?_) (ab 31 255) rfl rfl (any_of HT_.out (by kernel_rfl)) (fun _ _ _ h=>h) (Or.inl ⟨by rfl,?_⟩) ?_ ?_;rotate_left
           ·intro w';go_simp;with_reducible rfl
           rotate_left
           ·simp only [Act.put,q1_,q2_,q3_,i64_w,i32_w];rfl
           refine pure_ (i:=8) (N:=some 43) (v:=?_) (a':=?_) (ab 31 511) rfl rfl (any_of HT_.out (by kernel_rfl)) (fun _ _ _ h=>h) (Or.inl ⟨by rfl,?_⟩) ?_ ?_;rotate_left
           ·intro w';go_simp;with_reducible rfl
           rotate_left
           ·simp only [Act.put,q1_,q2_,q3_,i64_w,i32_w];rfl
           refine pure_ (i:=9) (N:=some 44) (v:=?_) (a':=?_) (ab 31 1023) rfl rfl (any_of HT_.out (by kernel_rfl)) (fun _ _ _ h=>h) (Or.inl ⟨by rfl,?_⟩) ?_ ?_;rotate_left
           ·intro w';go_simp;with_reducible rfl
           rotate_left
           ·simp only [Act.put,q1_,q2_,q3_,i64_w,i32_w];rfl
           refine pure_ (i:=10) (N:=some 45) (v:=?_) (a':=?_) (ab 31 2047) rfl rfl (any_of HT_.out (by kernel_rfl)) (fun _ _ _ h=>h) (Or.inl ⟨by rfl,?_⟩) ?_ ?_;rotate_left
           ·intro w';go_simp;with_reducible rfl
           rotate_left
           ·simp only [Act.put,q1_,q2_,q3_,i64_w,i32_w];rfl
           refine pure_ (i:=11) (N:=some 46) (v:=?_) (a':=?_) (ab 31 4095) rfl rfl (any_of HT_.out (by kernel_rfl)) (fun _ _ _ h=>h) (Or.inl ⟨by rfl,?_⟩) ?_ ?_;rotate_left
           ·intro w';go_simp;with_reducible rfl
           rotate_left
           ·simp only [Act.put,q1_,q2_,q3_,i64_w,i32_w];rfl
           refine pure_ (i:=12) (N:=some 47) (v:=?_) (a':=?_) (ab 31 8191) rfl rfl (any_of HT_.out (by kernel_rfl)) (fun _ _ _ h=>h) (Or.inl ⟨by rfl,?_⟩) ?_ ?_;rotate_left
           ·intro w';go_simp;with_reducible rfl
           rotate_left
           ·simp only [Act.put,q1_,q2_,q3_,i64_w,i32_w];rfl
           refine take_ (i:=13) (N:=some 48) (v:=?_) (a':=?_) (ab 31 16383) rfl rfl (take_ofW HT_.out HW_.out (by kernel_rfl)) (fun _ _ _ h=>h) (Or.inl ⟨by rfl,?_⟩) hHeld ?_ ?_;rotate_left
           ·rintro w' ⟨s0,s1,s2,s3⟩;go_simp;with_reducible rfl
           rotate_left
           ·simp only [Act.put,q1_,q2_,q3_,i64_w,i32_w];rfl
           refine pure_ (i:=14) (N:=some 49) (v:=?_) (a':=?_) (ab 31 32767) rfl rfl (any_of HT_.out (by kernel_rfl)) (fun _ _ _ h=>h) (Or.inl ⟨by rfl,?_⟩) ?_ ?_;rotate_left
           ·intro w';go_simp;with_reducible rfl
           rotate_left
           ·simp only [Act.put,q1_,q2_,q3_,i64_w,i32_w];rfl
           refine pure_ (i:=15) (N:=some 50) (v:=?_) (a':=?_) (ab 31 65535) rfl rfl (any_of HT_.out (by kernel_rfl)) (fun _ _ _ h=>h) (Or.inl ⟨by rfl,?_⟩) ?_ ?_;rotate_left
           ·intro w';go_simp;with_reducible rfl
           rotate_left
           ·simp only [Act.put,q1_,q2_,q3_,i64_w,i32_w];rfl
           refine pure_ (i:=16) (N:=some 51) (v:=undef) (a':=?_) (ab 31 131071) rfl rfl (any_of HT_.out (by kernel_rfl)) (fun _ _ _ h=>h) (Or.inr ⟨by rfl,rfl⟩) ?_ ?_;rotate_left
           ·simp only [Act.put,q1_,q2_,q3_,i64_w,i32_w];rfl
           refine pure_ (i:=17) (N:=some 52) (v:=undef) (a':=?_) (ab 31 262143) rfl rfl (any_of HT_.out (by kernel_rfl)) (fun _ _ _ h=>h) (Or.inr ⟨by rfl,rfl⟩) ?_ ?_;rotate_left
           ·simp only [Act.put,q1_,q2_,q3_,i64_w,i32_w];rfl
           refine pure_ (i:=18) (N:=some 53) (v:=undef) (a':=?_) (ab 31 524287) rfl rfl (any_of HT_.out (by kernel_rfl)) (fun _ _ _ h=>h) (Or.inr ⟨by rfl,rfl⟩) ?_ ?_;rotate_left
           ·simp only [Act.put,q1_,q2_,q3_,i64_w,i32_w];rfl
           refine pure_ (i:=19) (N:=some 54) (v:=?_) (a':=?_) (ab 31 1048575) rfl rfl (any_of HT_.out (by kernel_rfl)) (fun _ _ _ h=>h) (Or.inl ⟨by rfl,?_⟩) ?_ ?_;rotate_left
           ·intro w';go_simp;with_reducible rfl
           rotate_left
           ·simp only [Act.put,q1_,q2_,q3_,i64_w,i32_w];rfl
           refine pure_ (i:=20) (N:=some 55) (v:=?_) (a':=?_) (ab 31 2097151) rfl rfl (any_of HT_.out (by kernel_rfl)) (fun _ _ _ h=>h) (Or.inl ⟨by rfl,?_⟩) ?_ ?_;rotate_left
           ·intro w';go_simp;with_reducible rfl
           rotate_left
           ·simp only [Act.put,q1_,q2_,q3_,i64_w,i32_w];rfl
           refine pure_ (i:=21) (N:=some 56) (v:=?_) (a':=?_) (ab 31 4194303) rfl rfl (any_of HT_.out (by kernel_rfl)) (fun _ _ _ h=>h) (Or.inl ⟨by rfl,?_⟩) ?_ ?_;rotate_left
           ·intro w';go_simp;with_reducible rfl
           rotate_left
           ·simp only [Act.put,q1_,q2_,q3_,i64_w,i32_w];rfl
           refine pure_ (i:=22) (N:=some 57) (v:=?_) (a':=?_) (ab 31 8388607) rfl rfl (any_of HT_.out (by kernel_rfl)) (fun _ _ _ h=>h) (Or.inl ⟨by rfl,?_⟩) ?_ ?_;rotate_left
           ·intro w';go_simp;with_reducible rfl
           rotate_left
           ·simp only [Act.put,q1_,q2_,q3_,i64_w,i32_w];rfl
           refine pure_ (i:=23) (N:=some 58) (v:=undef) (a':=?_) (ab 31 16777215) rfl rfl (any_of HT_.out (by kernel_rfl)) (fun _ _ _ h=>h) (Or.inr ⟨by rfl,rfl⟩) ?_ ?_;rotate_left
           ·simp only [Act.put,q1_,q2_,q3_,i64_w,i32_w];rfl
           refine pure_ (i:=24) (N:=some 59) (v:=undef) (a':=?_) (ab 31 33554431) rfl rfl (any_of HT_.out (by kernel_rfl)) (fun _ _ _ h=>h) (Or.inr ⟨by rfl,rfl⟩) ?_ ?_;rotate_left
           ·simp only [Act.put,q1_,q2_,q3_,i64_w,i32_w];rfl
           refine pure_ (i:=25) (N:=some 60) (v:=undef) (a':=?_) (ab 31 67108863) rfl rfl (any_of HT_.out (by kernel_rfl)) (fun _ _ _ h=>h) (Or.inr ⟨by rfl,rfl⟩) ?_ ?_;rotate_left
           ·simp only [Act.put,q1_,q2_,q3_,i64_w,i32_w];rfl
           refine pure_ (i:=26) (N:=some 61) (v:=undef) (a':=?_) (ab 31 134217727) rfl rfl (any_of HT_.out (by kernel_rfl)) (fun _ _ _ h=>h) (Or.inr ⟨by rfl,rfl⟩) ?_ ?_;rotate_left
           ·simp only [Act.put,q1_,q2_,q3_,i64_w,i32_w];rfl
           refine pure_ (i:=27) (N:=some 62) (v:=undef) (a':=?_) (ab 31 268435455) rfl rfl (any_of HT_.out (by kernel_rfl)) (fun _ _ _ h=>h) (Or.inr ⟨by rfl,rfl⟩) ?_ ?_;rotate_left
           ·simp only [Act.put,q1_,q2_,q3_,i64_w,i32_w];rfl
           refine pure_ (i:=28) (N:=some 63) (v:=undef) (a':=?_) (ab 31 536870911) rfl rfl (any_of HT_.out (by kernel_rfl)) (fun _ _ _ h=>h) (Or.inr ⟨by rfl,rfl⟩) ?_ ?_;rotate_left
           ·simp only [Act.put,q1_,q2_,q3_,i64_w,i32_w];rfl
           refine pure_ (i:=29) (N:=some 64) (v:=undef) (a':=?_) (ab 31 1073741823) rfl rfl (any_of HT_.out (by kernel_rfl)) (fun _ _ _ h=>h) (Or.inr ⟨by rfl,rfl⟩) ?_ ?_;rotate_left
           ·simp only [Act.put,q1_,q2_,q3_,i64_w,i32_w];rfl
           refine pure_ (i:=30) (N:=some 65) (v:=?_) (a':=?_) (ab 31 2147483647) rfl rfl (any_of HT_.out (by kernel_rfl)) (fun _ _ _ h=>h) (Or.inl ⟨by rfl,?_⟩) ?_ ?_;rotate_left
           ·intro w';go_simp;with_reducible rfl
           rotate_left
           ·simp only [Act.put,q1_,q2_,q3_,i64_w,i32_w];rfl
           refine done_ (done_of HT_.out (by kernel_rfl)) ?_;(try go_wp2);go_meet
           case rel=>exact ⟨_,(true),(by first|rfl|(simp;done)|(simp [*];done)),H',⟨by have:=HK1.out;first|omega|exact Nat.le_refl _⟩,⟨by (with_reducible repeat (first|apply Kd.R_alloc|apply Kd.R_drewN|apply Kd.R_drew));exact HO_5.out⟩,⟨by (with_reducible repeat (first|refine blk_drewN ?_ _|refine blk_drew ?_|refine blk_alloc ?_ _));exact BK240.out⟩,⟨by (with_reducible repeat (first|refine blk_drewN ?_ _|refine blk_drew ?_|refine blk_alloc ?_ _));exact BK241.out⟩,⟨by (with_reducible repeat (first|refine blk_drewN ?_ _|refine blk_drew ?_|refine blk_alloc ?_ _));exact BK246.out⟩,⟨by repeat (first|(with_reducible first|exact HB.out|apply below_alloc|apply pw_below_drewN|apply below_drew1|refine below_set ?_ GE240.out|refine below_set ?_ GE241.out|refine below_set ?_ GE246.out)|exact HB.out)⟩⟩
          ·rw [if_neg c24] at H;have c24b0:decide (((rd_T66 l1_1 x6_1).f2) < 1)=false:=decide_eq_false c24;clear c24;by_cases c28:((rd_T66 l1_1 x6_1).f2) > 1000
           ·rw [if_pos c28] at H;have c28b0:decide (1000 < ((rd_T66 l1_1 x6_1).f2))=true:=decide_eq_true c28;clear c28;have H':=Aside0.mk H;clear H;(try go_wp2);have n0_:Aside0 (Kd.R (Kd.int .i64) 3 (((w15.setCell ⟨gb246,0,none⟩ (.int .i64 ((rd_T66 l1_1 x6_1).f0))).setCell ⟨gb246,1,none⟩ (.int .i64 ((rd_T66 l1_1 x6_1).f1))).setCell ⟨gb246,2,none⟩ (.int .i64 ((rd_T66 l1_1 x6_1).f2))) w.heap.size (fun _=>True) v243 y242):=⟨by (with_reducible repeat (first|apply Kd.R_alloc|apply Kd.R_drewN|apply Kd.R_drew));exact Kd.R_mono (Kd.R_far (p:=⟨gb246,2,none⟩) (Kd.R_far (p:=⟨gb246,1,none⟩) (Kd.R_far (p:=⟨gb246,0,none⟩) (Kd.R_types HO_5.out BK246.out (by decide)) (fun _ hk=>hk.2) (.int .i64 ((rd_T66 l1_1 x6_1).f0))) (fun _ hk=>hk.2) (.int .i64 ((rd_T66 l1_1 x6_1).f1))) (fun _ hk=>hk.2) (.int .i64 ((rd_T66 l1_1 x6_1).f2))) (fun _ hk=>trivial)⟩;have n1_:Aside0 ((((w15.setCell ⟨gb246,0,none⟩ (.int .i64 ((rd_T66 l1_1 x6_1).f0))).setCell ⟨gb246,1,none⟩ (.int .i64 ((rd_T66 l1_1 x6_1).f1))).setCell ⟨gb246,2,none⟩ (.int .i64 ((rd_T66 l1_1 x6_1).f2))).heap[gb240]? = some (.cells #[.slice A0_0 l0_0.length c0_0,.slice A0_1 l0_1.length c0_1,.slice A0_2 l0_2.length c0_2,.slice A0_3 l0_3.length c0_3,.slice A0_4 l0_4.length c0_4] 26 (0,0))):=⟨by (with_reducible repeat (first|refine blk_drewN ?_ _|refine blk_drew ?_|refine blk_alloc ?_ _));refine blk_far ?_ NB240_246.out _;(with_reducible repeat (first|refine blk_drewN ?_ _|refine blk_drew ?_|refine blk_alloc ?_ _));refine blk_far ?_ NB240_246.out _;(with_reducible repeat (first|refine blk_drewN ?_ _|refine blk_drew ?_|refine blk_alloc ?_ _));refine blk_far ?_ NB240_246.out _;(with_reducible repeat (first|refine blk_drewN ?_ _|refine blk_drew ?_|refine blk_alloc ?_ _));exact BK240.out⟩;have n2_:Aside0 ((((w15.setCell ⟨gb246,0,none⟩ (.int .i64 ((rd_T66 l1_1 x6_1).f0))).setCell ⟨gb246,1,none⟩ (.int .i64 ((rd_T66 l1_1 x6_1).f1))).setCell ⟨gb246,2,none⟩ (.int .i64 ((rd_T66 l1_1 x6_1).f2))).heap[gb241]? = some (.cells #[.string a1_0,.slice (some ad245) l1_1.length c1_1] 39 (0,0))):=⟨by (with_reducible repeat (first|refine blk_drewN ?_ _|refine blk_drew ?_|refine blk_alloc ?_ _));refine blk_far ?_ NB241_246.out _;(with_reducible repeat (first|refine blk_drewN ?_ _|refine blk_drew ?_|refine blk_alloc ?_ _));refine blk_far ?_ NB241_246.out _;(with_reducible repeat (first|refine blk_drewN ?_ _|refine blk_drew ?_|refine blk_alloc ?_ _));refine blk_far ?_ NB241_246.out _;(with_reducible repeat (first|refine blk_drewN ?_ _|refine blk_drew ?_|refine blk_alloc ?_ _));exact BK241.out⟩;have n3_:Aside0 ((((w15.setCell ⟨gb246,0,none⟩ (.int .i64 ((rd_T66 l1_1 x6_1).f0))).setCell ⟨gb246,1,none⟩ (.int .i64 ((rd_T66 l1_1 x6_1).f1))).setCell ⟨gb246,2,none⟩ (.int .i64 ((rd_T66 l1_1 x6_1).f2))).heap[gb246]? = some (.cells #[.int .i64 ((rd_T66 l1_1 x6_1).f0),.int .i64 ((rd_T66 l1_1 x6_1).f1),.int .i64 ((rd_T66 l1_1 x6_1).f2)] 66 (0,0))):=⟨by (with_reducible repeat (first|refine blk_drewN ?_ _|refine blk_drew ?_|refine blk_alloc ?_ _));refine blk_put (cs:=#[.int .i64 ((rd_T66 l1_1 x6_1).f0),.int .i64 ((rd_T66 l1_1 x6_1).f1),.int .i64 0]) ?_ 2 _ rfl;(with_reducible repeat (first|refine blk_drewN ?_ _|refine blk_drew ?_|refine blk_alloc ?_ _));refine blk_put (cs:=#[.int .i64 ((rd_T66 l1_1 x6_1).f0),.int .i64 0,.int .i64 0]) ?_ 1 _ rfl;(with_reducible repeat (first|refine blk_drewN ?_ _|refine blk_drew ?_|refine blk_alloc ?_ _));refine blk_put (cs:=#[.int .i64 0,.int .i64 0,.int .i64 0]) ?_ 0 _ rfl;(with_reducible repeat (first|refine blk_drewN ?_ _|refine blk_drew ?_|refine blk_alloc ?_ _));exact BK246.out⟩;have n4_:Aside0 (Below w.heap.size w (((w15.setCell ⟨gb246,0,none⟩ (.int .i64 ((rd_T66 l1_1 x6_1).f0))).setCell ⟨gb246,1,none⟩ (.int .i64 ((rd_T66 l1_1 x6_1).f1))).setCell ⟨gb246,2,none⟩ (.int .i64 ((rd_T66 l1_1 x6_1).f2)))):=⟨by repeat (first|(with_reducible first|exact HB.out|apply below_alloc|apply pw_below_drewN|apply below_drew1|refine below_set ?_ GE240.out|refine below_set ?_ GE241.out|refine below_set ?_ GE246.out)|exact HB.out)⟩;(try clear HO_5);(try clear BK240);(try clear BK241);(try clear BK246);(try clear HB);generalize (((w15.setCell ⟨gb246,0,none⟩ (.int .i64 ((rd_T66 l1_1 x6_1).f0))).setCell ⟨gb246,1,none⟩ (.int .i64 ((rd_T66 l1_1 x6_1).f1))).setCell ⟨gb246,2,none⟩ (.int .i64 ((rd_T66 l1_1 x6_1).f2)))=w29 at n0_ n1_ n2_ n3_ n4_ ⊢;have HO_5:=n0_;have BK240:=n1_;have BK241:=n2_;have BK246:=n3_;have HB:=n4_;clear n0_ n1_ n2_ n3_ n4_;have n0_:=Aside0.mk (Kd.R_drewN HO_5.out nd);have n1_:=Aside0.mk (blk_drewN BK240.out nd);have n2_:=Aside0.mk (blk_drewN BK241.out nd);have n3_:=Aside0.mk (blk_drewN BK246.out nd);have n4_:=Aside0.mk (pw_below_drewN HB.out nd);clear HO_5 BK240 BK241 BK246 HB;have HO_5:=n0_;have BK240:=n1_;have BK241:=n2_;have BK246:=n3_;have HB:=n4_;clear n0_ n1_ n2_ n3_ n4_;generalize w29.drewN nd=w29 at HO_5 BK240 BK241 BK246 HB ⊢;have n0_:=Aside0.mk (Kd.R_drew HO_5.out);have n1_:=Aside0.mk (blk_drew BK240.out);have n2_:=Aside0.mk (blk_drew BK241.out);have n3_:=Aside0.mk (blk_drew BK246.out);have n4_:=Aside0.mk (below_drew1 HB.out);clear HO_5;clear BK240;clear BK241;clear BK246;clear HB;have HO_5:=n0_;have BK240:=n1_;have BK241:=n2_;have BK246:=n3_;have HB:=n4_;clear n0_ n1_ n2_ n3_ n4_;obtain ⟨Ao31,co31,eo31⟩:=Kd.R_slice HO_5.out;(first|subst eo31|(injection eo31 with f1_ f2_ f3_;have f4_:=f1_.symm;have f5_:=f3_.symm;clear f1_ f2_ f3_;subst f4_;subst f5_));have p248:0 ≤ (t247:Int):=of_decide_eq_true (by first|(with_reducible assumption)|assumption);have q248:t247 < (y242.length:Int):=of_decide_eq_true (by first|(with_reducible assumption)|assumption);obtain ⟨ad248,e248,hx248_0⟩:=Kd.at_int (Kd.R_reads' HO_5.out).2.2 t247 p248 q248;cases e248;replace p248:=eq_true p248;replace q248:=eq_true q248;refine start_ (n:=31) (S:=fun w'=>w'.cell? ⟨gb246,0,none⟩=some (.int .i64 ((rd_T66 l1_1 x6_1).f0))∧w'.cell? ⟨gb246,1,none⟩=some (.int .i64 ((rd_T66 l1_1 x6_1).f1))∧w'.cell? ⟨gb246,2,none⟩=some (.int .i64 ((rd_T66 l1_1 x6_1).f2))∧w'.cell? (ad248.add (t247).toNat)=some (.int .i64 (rd y242 t247))) (ds:=[]) (ab 31 0) (by kernel_rfl) rfl rfl ⟨(blk_cell BK246.out 0).trans rfl,(blk_cell BK246.out 1).trans rfl,(blk_cell BK246.out 2).trans rfl,hx248_0⟩ (fun hHeld=>?_);refine with_tabW hucksterref16_Oper.tab7 hucksterref16_Oper.bits7 (fun HT_ HW_=>?_);generalize w29.drew=w30 at HO_5 BK240 BK241 BK246 HB hx248_0 hHeld ⊢;refine pure_ (i:=0) (N:=some 35) (v:=?_) (a':=?_) (ab 31 1) rfl rfl (any_of HT_.out (by kernel_rfl)) (fun _ _ _ h=>h) (Or.inl ⟨by rfl,?_⟩) ?_ ?_;rotate_left
            ·intro w';go_simp;with_reducible rfl
            rotate_left
            ·simp only [Act.put,q1_,q2_,q3_,i64_w,i32_w];rfl
            refine pure_ (i:=2) (N:=some 37) (v:=?_) (a':=?_) (ab 31 5) rfl rfl (any_of HT_.out (by kernel_rfl)) (fun _ _ _ h=>h) (Or.inl ⟨by rfl,?_⟩) ?_ ?_;rotate_left
            ·intro w';go_simp;with_reducible rfl
            rotate_left
            ·simp only [Act.put,q1_,q2_,q3_,i64_w,i32_w];rfl
            refine pure_ (i:=3) (N:=some 38) (v:=?_) (a':=?_) (ab 31 13) rfl rfl (any_of HT_.out (by kernel_rfl)) (fun _ _ _ h=>h) (Or.inl ⟨by rfl,?_⟩) ?_ ?_;rotate_left
            ·intro w';go_simp;with_reducible rfl
            rotate_left
            ·simp only [Act.put,q1_,q2_,q3_,i64_w,i32_w];rfl
            refine pure_ (i:=4) (N:=some 39) (v:=?_) (a':=?_) (ab 31 29) rfl rfl (any_of HT_.out (by kernel_rfl)) (fun _ _ _ h=>h) (Or.inl ⟨by rfl,?_⟩) ?_ ?_;rotate_left
            ·intro w';go_simp;with_reducible rfl
            rotate_left
            ·simp only [Act.put,q1_,q2_,q3_,i64_w,i32_w];rfl
            refine take_ (i:=1) (N:=some 36) (v:=?_) (a':=?_) (ab 31 31) rfl rfl (take_ofW HT_.out HW_.out (by kernel_rfl)) (fun _ _ _ h=>h) (Or.inl ⟨by rfl,?_⟩) hHeld ?_ ?_;rotate_left
            ·rintro w' ⟨s0,s1,s2,s3⟩;go_simp;with_reducible rfl
            rotate_left
            ·simp only [Act.put,q1_,q2_,q3_,i64_w,i32_w];rfl
            refine take_ (i:=5) (N:=some 40) (v:=?_) (a':=?_) (ab 31 63) rfl rfl (take_ofW HT_.out HW_.out (by kernel_rfl)) (fun _ _ _ h=>h) (Or.inl ⟨by rfl,?_⟩) hHeld ?_ ?_;rotate_left
            ·rintro w' ⟨s0,s1,s2,s3⟩;go_simp;with_reducible rfl
            rotate_left
            ·simp only [Act.put,q1_,q2_,q3_,i64_w,i32_w];rfl
            refine one_ (i:=6) (N:=some 41) (ab 31 127) rfl rfl (one_of HT_.out (by kernel_rfl)) (by decide) (fun K hK=>?_);refine goes_ Tryd.func50 (by kernel_rfl) rfl #[.int .i64 ((rd_T66 l1_1 x6_1).f1),.int .i64 (rd y242 t247)] (by rfl) rfl rfl (by (try simp only [List.map_toArray,List.map_cons,List.map_nil]);first|done|rfl|(simp only [List.length_drop,List.length_take];rfl)) ?_;(with_reducible refine (hucksterref16_in.calls ((rd_T66 l1_1 x6_1).f1) (rd y242 t247) true _ A21.out).mono ?_);rintro e w' ⟨rfl,⟨nd,rfl⟩⟩;refine ⟨_,rfl,?_⟩;refine hK.out _ _ ⟨(blk_cell BK246.out 0).trans rfl,(blk_cell BK246.out 1).trans rfl,(blk_cell BK246.out 2).trans rfl,hHeld.2.2.2⟩ (fun hHeld=>?_);clear hK K;refine norm_ (a':=?_) ?_ ?_;rotate_left
            ·show Act.put _ (some 41) _=_;simp only [Act.put,q1_,q2_,q3_,i64_w,i32_w];rfl
            refine pure_ (i:=7) (N:=some 42) (v:=?_) (a':=?_) (ab 31 255) rfl rfl (any_of HT_.out (by kernel_rfl)) (fun _ _ _ h=>h) (Or.inl ⟨by rfl,?_⟩) ?_ ?_;rotate_left
            ·intro w';go_simp;with_reducible rfl
            rotate_left
            ·simp only [Act.put,q1_,q2_,q3_,i64_w,i32_w];rfl
            refine pure_ (i:=8) (N:=some 43) (v:=?_) (a':=?_) (ab 31 511) rfl rfl (any_of HT_.out (by kernel_rfl)) (fun _ _ _ h=>h) (Or.inl ⟨by rfl,?_⟩) ?_ ?_;rotate_left
            ·intro w';go_simp;with_reducible rfl
            rotate_left
            ·simp only [Act.put,q1_,q2_,q3_,i64_w,i32_w];rfl
            refine pure_ (i:=9) (N:=some 44) (v:=?_) (a':=?_) (ab 31 1023) rfl rfl (any_of HT_.out (by kernel_rfl)) (fun _ _ _ h=>h) (Or.inl ⟨by rfl,?_⟩) ?_ ?_;rotate_left
            ·intro w';go_simp;with_reducible rfl
            rotate_left
            ·simp only [Act.put,q1_,q2_,q3_,i64_w,i32_w];rfl
            refine pure_ (i:=10) (N:=some 45) (v:=?_) (a':=?_) (ab 31 2047) rfl rfl (any_of HT_.out (by kernel_rfl)) (fun _ _ _ h=>h) (Or.inl ⟨by rfl,?_⟩) ?_ ?_;rotate_left
            ·intro w';go_simp;with_reducible rfl
            rotate_left
            ·simp only [Act.put,q1_,q2_,q3_,i64_w,i32_w];rfl
            refine pure_ (i:=11) (N:=some 46) (v:=?_) (a':=?_) (ab 31 4095) rfl rfl (any_of HT_.out (by kernel_rfl)) (fun _ _ _ h=>h) (Or.inl ⟨by rfl,?_⟩) ?_ ?_;rotate_left
            ·intro w';go_simp;with_reducible rfl
            rotate_left
            ·simp only [Act.put,q1_,q2_,q3_,i64_w,i32_w];rfl
            refine pure_ (i:=12) (N:=some 47) (v:=?_) (a':=?_) (ab 31 8191) rfl rfl (any_of HT_.out (by kernel_rfl)) (fun _ _ _ h=>h) (Or.inl ⟨by rfl,?_⟩) ?_ ?_;rotate_left
            ·intro w';go_simp;with_reducible rfl
            rotate_left
            ·simp only [Act.put,q1_,q2_,q3_,i64_w,i32_w];rfl
            refine take_ (i:=13) (N:=some 48) (v:=?_) (a':=?_) (ab 31 16383) rfl rfl (take_ofW HT_.out HW_.out (by kernel_rfl)) (fun _ _ _ h=>h) (Or.inl ⟨by rfl,?_⟩) hHeld ?_ ?_;rotate_left
            ·rintro w' ⟨s0,s1,s2,s3⟩;go_simp;with_reducible rfl
            rotate_left
            ·simp only [Act.put,q1_,q2_,q3_,i64_w,i32_w];rfl
            refine pure_ (i:=14) (N:=some 49) (v:=?_) (a':=?_) (ab 31 32767) rfl rfl (any_of HT_.out (by kernel_rfl)) (fun _ _ _ h=>h) (Or.inl ⟨by rfl,?_⟩) ?_ ?_;rotate_left
            ·intro w';go_simp;with_reducible rfl
            rotate_left
            ·simp only [Act.put,q1_,q2_,q3_,i64_w,i32_w];rfl
            refine pure_ (i:=15) (N:=some 50) (v:=?_) (a':=?_) (ab 31 65535) rfl rfl (any_of HT_.out (by kernel_rfl)) (fun _ _ _ h=>h) (Or.inl ⟨by rfl,?_⟩) ?_ ?_;rotate_left
            ·intro w';go_simp;with_reducible rfl
            rotate_left
            ·simp only [Act.put,q1_,q2_,q3_,i64_w,i32_w];rfl
            refine pure_ (i:=16) (N:=some 51) (v:=?_) (a':=?_) (ab 31 131071) rfl rfl (any_of HT_.out (by kernel_rfl)) (fun _ _ _ h=>h) (Or.inl ⟨by rfl,?_⟩) ?_ ?_;rotate_left
            ·intro w';go_simp;with_reducible rfl
            rotate_left
            ·simp only [Act.put,q1_,q2_,q3_,i64_w,i32_w];rfl
            refine take_ (i:=17) (N:=some 52) (v:=?_) (a':=?_) (ab 31 262143) rfl rfl (take_ofW HT_.out HW_.out (by kernel_rfl)) (fun _ _ _ h=>h) (Or.inl ⟨by rfl,?_⟩) hHeld ?_ ?_;rotate_left
            ·rintro w' ⟨s0,s1,s2,s3⟩;go_simp;with_reducible rfl
            rotate_left
            ·simp only [Act.put,q1_,q2_,q3_,i64_w,i32_w];rfl
            refine pure_ (i:=18) (N:=some 53) (v:=?_) (a':=?_) (ab 31 524287) rfl rfl (any_of HT_.out (by kernel_rfl)) (fun _ _ _ h=>h) (Or.inl ⟨by rfl,?_⟩) ?_ ?_;rotate_left
            ·intro w';go_simp;with_reducible rfl
            rotate_left
            ·simp only [Act.put,q1_,q2_,q3_,i64_w,i32_w];rfl
            refine pure_ (i:=19) (N:=some 54) (v:=?_) (a':=?_) (ab 31 1048575) rfl rfl (any_of HT_.out (by kernel_rfl)) (fun _ _ _ h=>h) (Or.inl ⟨by rfl,?_⟩) ?_ ?_;rotate_left
            ·intro w';go_simp;with_reducible rfl
            rotate_left
            ·simp only [Act.put,q1_,q2_,q3_,i64_w,i32_w];rfl
            refine pure_ (i:=20) (N:=some 55) (v:=?_) (a':=?_) (ab 31 2097151) rfl rfl (any_of HT_.out (by kernel_rfl)) (fun _ _ _ h=>h) (Or.inl ⟨by rfl,?_⟩) ?_ ?_;rotate_left
            ·intro w';go_simp;with_reducible rfl
            rotate_left
            ·simp only [Act.put,q1_,q2_,q3_,i64_w,i32_w];rfl
            refine pure_ (i:=21) (N:=some 56) (v:=?_) (a':=?_) (ab 31 4194303) rfl rfl (any_of HT_.out (by kernel_rfl)) (fun _ _ _ h=>h) (Or.inl ⟨by rfl,?_⟩) ?_ ?_;rotate_left
            ·intro w';go_simp;with_reducible rfl
            rotate_left
            ·simp only [Act.put,q1_,q2_,q3_,i64_w,i32_w];rfl
            refine pure_ (i:=22) (N:=some 57) (v:=?_) (a':=?_) (ab 31 8388607) rfl rfl (any_of HT_.out (by kernel_rfl)) (fun _ _ _ h=>h) (Or.inl ⟨by rfl,?_⟩) ?_ ?_;rotate_left
            ·intro w';go_simp;with_reducible rfl
            rotate_left
            ·simp only [Act.put,q1_,q2_,q3_,i64_w,i32_w];rfl
            refine pure_ (i:=23) (N:=some 58) (v:=undef) (a':=?_) (ab 31 16777215) rfl rfl (any_of HT_.out (by kernel_rfl)) (fun _ _ _ h=>h) (Or.inr ⟨by rfl,rfl⟩) ?_ ?_;rotate_left
            ·simp only [Act.put,q1_,q2_,q3_,i64_w,i32_w];rfl
            refine pure_ (i:=24) (N:=some 59) (v:=undef) (a':=?_) (ab 31 33554431) rfl rfl (any_of HT_.out (by kernel_rfl)) (fun _ _ _ h=>h) (Or.inr ⟨by rfl,rfl⟩) ?_ ?_;rotate_left
            ·simp only [Act.put,q1_,q2_,q3_,i64_w,i32_w];rfl
            refine pure_ (i:=25) (N:=some 60) (v:=undef) (a':=?_) (ab 31 67108863) rfl rfl (any_of HT_.out (by kernel_rfl)) (fun _ _ _ h=>h) (Or.inr ⟨by rfl,rfl⟩) ?_ ?_;rotate_left
            ·simp only [Act.put,q1_,q2_,q3_,i64_w,i32_w];rfl
            refine pure_ (i:=26) (N:=some 61) (v:=undef) (a':=?_) (ab 31 134217727) rfl rfl (any_of HT_.out (by kernel_rfl)) (fun _ _ _ h=>h) (Or.inr ⟨by rfl,rfl⟩) ?_ ?_;rotate_left
            ·simp only [Act.put,q1_,q2_,q3_,i64_w,i32_w];rfl
            refine pure_ (i:=27) (N:=some 62) (v:=undef) (a':=?_) (ab 31 268435455) rfl rfl (any_of HT_.out (by kernel_rfl)) (fun _ _ _ h=>h) (Or.inr ⟨by rfl,rfl⟩) ?_ ?_;rotate_left
            ·simp only [Act.put,q1_,q2_,q3_,i64_w,i32_w];rfl
            refine pure_ (i:=28) (N:=some 63) (v:=undef) (a':=?_) (ab 31 536870911) rfl rfl (any_of HT_.out (by kernel_rfl)) (fun _ _ _ h=>h) (Or.inr ⟨by rfl,rfl⟩) ?_ ?_;rotate_left
            ·simp only [Act.put,q1_,q2_,q3_,i64_w,i32_w];rfl
            refine pure_ (i:=29) (N:=some 64) (v:=undef) (a':=?_) (ab 31 1073741823) rfl rfl (any_of HT_.out (by kernel_rfl)) (fun _ _ _ h=>h) (Or.inr ⟨by rfl,rfl⟩) ?_ ?_;rotate_left
            ·simp only [Act.put,q1_,q2_,q3_,i64_w,i32_w];rfl
            refine pure_ (i:=30) (N:=some 65) (v:=?_) (a':=?_) (ab 31 2147483647) rfl rfl (any_of HT_.out (by kernel_rfl)) (fun _ _ _ h=>h) (Or.inl ⟨by rfl,?_⟩) ?_ ?_;rotate_left
            ·intro w';go_simp;with_reducible rfl
            rotate_left
            ·simp only [Act.put,q1_,q2_,q3_,i64_w,i32_w];rfl
            refine done_ (done_of HT_.out (by kernel_rfl)) ?_;(try go_wp2);go_meet
            case rel=>exact ⟨_,(true),(by first|rfl|(simp;done)|(simp [*];done)),H',⟨by have:=HK1.out;first|omega|exact Nat.le_refl _⟩,⟨by (with_reducible repeat (first|apply Kd.R_alloc|apply Kd.R_drewN|apply Kd.R_drew));exact HO_5.out⟩,⟨by (with_reducible repeat (first|refine blk_drewN ?_ _|refine blk_drew ?_|refine blk_alloc ?_ _));exact BK240.out⟩,⟨by (with_reducible repeat (first|refine blk_drewN ?_ _|refine blk_drew ?_|refine blk_alloc ?_ _));exact BK241.out⟩,⟨by (with_reducible repeat (first|refine blk_drewN ?_ _|refine blk_drew ?_|refine blk_alloc ?_ _));exact BK246.out⟩,⟨by repeat (first|(with_reducible first|exact HB.out|apply below_alloc|apply pw_below_drewN|apply below_drew1|refine below_set ?_ GE240.out|refine below_set ?_ GE241.out|refine below_set ?_ GE246.out)|exact HB.out)⟩⟩
           ·rw [if_neg c28] at H;have c28b0:decide (1000 < ((rd_T66 l1_1 x6_1).f2))=false:=decide_eq_false c28;clear c28;have H':=Aside0.mk H;clear H;(try go_wp2);have n0_:Aside0 (Kd.R (Kd.int .i64) 3 (((w15.setCell ⟨gb246,0,none⟩ (.int .i64 ((rd_T66 l1_1 x6_1).f0))).setCell ⟨gb246,1,none⟩ (.int .i64 ((rd_T66 l1_1 x6_1).f1))).setCell ⟨gb246,2,none⟩ (.int .i64 ((rd_T66 l1_1 x6_1).f2))) w.heap.size (fun _=>True) v243 y242):=⟨by (with_reducible repeat (first|apply Kd.R_alloc|apply Kd.R_drewN|apply Kd.R_drew));exact Kd.R_mono (Kd.R_far (p:=⟨gb246,2,none⟩) (Kd.R_far (p:=⟨gb246,1,none⟩) (Kd.R_far (p:=⟨gb246,0,none⟩) (Kd.R_types HO_5.out BK246.out (by decide)) (fun _ hk=>hk.2) (.int .i64 ((rd_T66 l1_1 x6_1).f0))) (fun _ hk=>hk.2) (.int .i64 ((rd_T66 l1_1 x6_1).f1))) (fun _ hk=>hk.2) (.int .i64 ((rd_T66 l1_1 x6_1).f2))) (fun _ hk=>trivial)⟩;have n1_:Aside0 ((((w15.setCell ⟨gb246,0,none⟩ (.int .i64 ((rd_T66 l1_1 x6_1).f0))).setCell ⟨gb246,1,none⟩ (.int .i64 ((rd_T66 l1_1 x6_1).f1))).setCell ⟨gb246,2,none⟩ (.int .i64 ((rd_T66 l1_1 x6_1).f2))).heap[gb240]? = some (.cells #[.slice A0_0 l0_0.length c0_0,.slice A0_1 l0_1.length c0_1,.slice A0_2 l0_2.length c0_2,.slice A0_3 l0_3.length c0_3,.slice A0_4 l0_4.length c0_4] 26 (0,0))):=⟨by (with_reducible repeat (first|refine blk_drewN ?_ _|refine blk_drew ?_|refine blk_alloc ?_ _));refine blk_far ?_ NB240_246.out _;(with_reducible repeat (first|refine blk_drewN ?_ _|refine blk_drew ?_|refine blk_alloc ?_ _));refine blk_far ?_ NB240_246.out _;(with_reducible repeat (first|refine blk_drewN ?_ _|refine blk_drew ?_|refine blk_alloc ?_ _));refine blk_far ?_ NB240_246.out _;(with_reducible repeat (first|refine blk_drewN ?_ _|refine blk_drew ?_|refine blk_alloc ?_ _));exact BK240.out⟩;have n2_:Aside0 ((((w15.setCell ⟨gb246,0,none⟩ (.int .i64 ((rd_T66 l1_1 x6_1).f0))).setCell ⟨gb246,1,none⟩ (.int .i64 ((rd_T66 l1_1 x6_1).f1))).setCell ⟨gb246,2,none⟩ (.int .i64 ((rd_T66 l1_1 x6_1).f2))).heap[gb241]? = some (.cells #[.string a1_0,.slice (some ad245) l1_1.length c1_1] 39 (0,0))):=⟨by (with_reducible repeat (first|refine blk_drewN ?_ _|refine blk_drew ?_|refine blk_alloc ?_ _));refine blk_far ?_ NB241_246.out _;(with_reducible repeat (first|refine blk_drewN ?_ _|refine blk_drew ?_|refine blk_alloc ?_ _));refine blk_far ?_ NB241_246.out _;(with_reducible repeat (first|refine blk_drewN ?_ _|refine blk_drew ?_|refine blk_alloc ?_ _));refine blk_far ?_ NB241_246.out _;(with_reducible repeat (first|refine blk_drewN ?_ _|refine blk_drew ?_|refine blk_alloc ?_ _));exact BK241.out⟩;have n3_:Aside0 ((((w15.setCell ⟨gb246,0,none⟩ (.int .i64 ((rd_T66 l1_1 x6_1).f0))).setCell ⟨gb246,1,none⟩ (.int .i64 ((rd_T66 l1_1 x6_1).f1))).setCell ⟨gb246,2,none⟩ (.int .i64 ((rd_T66 l1_1 x6_1).f2))).heap[gb246]? = some (.cells #[.int .i64 ((rd_T66 l1_1 x6_1).f0),.int .i64 ((rd_T66 l1_1 x6_1).f1),.int .i64 ((rd_T66 l1_1 x6_1).f2)] 66 (0,0))):=⟨by (with_reducible repeat (first|refine blk_drewN ?_ _|refine blk_drew ?_|refine blk_alloc ?_ _));refine blk_put (cs:=#[.int .i64 ((rd_T66 l1_1 x6_1).f0),.int .i64 ((rd_T66 l1_1 x6_1).f1),.int .i64 0]) ?_ 2 _ rfl;(with_reducible repeat (first|refine blk_drewN ?_ _|refine blk_drew ?_|refine blk_alloc ?_ _));refine blk_put (cs:=#[.int .i64 ((rd_T66 l1_1 x6_1).f0),.int .i64 0,.int .i64 0]) ?_ 1 _ rfl;(with_reducible repeat (first|refine blk_drewN ?_ _|refine blk_drew ?_|refine blk_alloc ?_ _));refine blk_put (cs:=#[.int .i64 0,.int .i64 0,.int .i64 0]) ?_ 0 _ rfl;(with_reducible repeat (first|refine blk_drewN ?_ _|refine blk_drew ?_|refine blk_alloc ?_ _));exact BK246.out⟩;have n4_:Aside0 (Below w.heap.size w (((w15.setCell ⟨gb246,0,none⟩ (.int .i64 ((rd_T66 l1_1 x6_1).f0))).setCell ⟨gb246,1,none⟩ (.int .i64 ((rd_T66 l1_1 x6_1).f1))).setCell ⟨gb246,2,none⟩ (.int .i64 ((rd_T66 l1_1 x6_1).f2)))):=⟨by repeat (first|(with_reducible first|exact HB.out|apply below_alloc|apply pw_below_drewN|apply below_drew1|refine below_set ?_ GE240.out|refine below_set ?_ GE241.out|refine below_set ?_ GE246.out)|exact HB.out)⟩;(try clear HO_5);(try clear BK240);(try clear BK241);(try clear BK246);(try clear HB);generalize (((w15.setCell ⟨gb246,0,none⟩ (.int .i64 ((rd_T66 l1_1 x6_1).f0))).setCell ⟨gb246,1,none⟩ (.int .i64 ((rd_T66 l1_1 x6_1).f1))).setCell ⟨gb246,2,none⟩ (.int .i64 ((rd_T66 l1_1 x6_1).f2)))=w32 at n0_ n1_ n2_ n3_ n4_ ⊢;have HO_5:=n0_;have BK240:=n1_;have BK241:=n2_;have BK246:=n3_;have HB:=n4_;clear n0_ n1_ n2_ n3_ n4_;have n0_:=Aside0.mk (Kd.R_drewN HO_5.out nd);have n1_:=Aside0.mk (blk_drewN BK240.out nd);have n2_:=Aside0.mk (blk_drewN BK241.out nd);have n3_:=Aside0.mk (blk_drewN BK246.out nd);have n4_:=Aside0.mk (pw_below_drewN HB.out nd);clear HO_5 BK240 BK241 BK246 HB;have HO_5:=n0_;have BK240:=n1_;have BK241:=n2_;have BK246:=n3_;have HB:=n4_;clear n0_ n1_ n2_ n3_ n4_;generalize w32.drewN nd=w32 at HO_5 BK240 BK241 BK246 HB ⊢;have n0_:=Aside0.mk (Kd.R_drew HO_5.out);have n1_:=Aside0.mk (blk_drew BK240.out);have n2_:=Aside0.mk (blk_drew BK241.out);have n3_:=Aside0.mk (blk_drew BK246.out);have n4_:=Aside0.mk (below_drew1 HB.out);clear HO_5;clear BK240;clear BK241;clear BK246;clear HB;have HO_5:=n0_;have BK240:=n1_;have BK241:=n2_;have BK246:=n3_;have HB:=n4_;clear n0_ n1_ n2_ n3_ n4_;obtain ⟨Ao34,co34,eo34⟩:=Kd.R_slice HO_5.out;(first|subst eo34|(injection eo34 with f1_ f2_ f3_;have f4_:=f1_.symm;have f5_:=f3_.symm;clear f1_ f2_ f3_;subst f4_;subst f5_));have p248:0 ≤ (t247:Int):=of_decide_eq_true (by first|(with_reducible assumption)|assumption);have q248:t247 < (y242.length:Int):=of_decide_eq_true (by first|(with_reducible assumption)|assumption);obtain ⟨ad248,e248,hx248_0⟩:=Kd.at_int (Kd.R_reads' HO_5.out).2.2 t247 p248 q248;cases e248;replace p248:=eq_true p248;replace q248:=eq_true q248;refine start_ (n:=31) (S:=fun w'=>w'.cell? ⟨gb246,0,none⟩=some (.int .i64 ((rd_T66 l1_1 x6_1).f0))∧w'.cell? ⟨gb246,1,none⟩=some (.int .i64 ((rd_T66 l1_1 x6_1).f1))∧w'.cell? ⟨gb246,2,none⟩=some (.int .i64 ((rd_T66 l1_1 x6_1).f2))∧w'.cell? (ad248.add (t247).toNat)=some (.int .i64 (rd y242 t247))) (ds:=[]) (ab 31 0) (by kernel_rfl) rfl rfl ⟨(blk_cell BK246.out 0).trans rfl,(blk_cell BK246.out 1).trans rfl,(blk_cell BK246.out 2).trans rfl,hx248_0⟩ (fun hHeld=>?_);refine with_tabW hucksterref16_Oper.tab7 hucksterref16_Oper.bits7 (fun HT_ HW_=>?_);generalize w32.drew=w33 at HO_5 BK240 BK241 BK246 HB hx248_0 hHeld ⊢;refine pure_ (i:=0) (N:=some 35) (v:=?_) (a':=?_) (ab 31 1) rfl rfl (any_of HT_.out (by kernel_rfl)) (fun _ _ _ h=>h) (Or.inl ⟨by rfl,?_⟩) ?_ ?_;rotate_left
            ·intro w';go_simp;with_reducible rfl
            rotate_left
            ·simp only [Act.put,q1_,q2_,q3_,i64_w,i32_w];rfl
            refine pure_ (i:=2) (N:=some 37) (v:=?_) (a':=?_) (ab 31 5) rfl rfl (any_of HT_.out (by kernel_rfl)) (fun _ _ _ h=>h) (Or.inl ⟨by rfl,?_⟩) ?_ ?_;rotate_left
            ·intro w';go_simp;with_reducible rfl
            rotate_left
            ·simp only [Act.put,q1_,q2_,q3_,i64_w,i32_w];rfl
            refine pure_ (i:=3) (N:=some 38) (v:=?_) (a':=?_) (ab 31 13) rfl rfl (any_of HT_.out (by kernel_rfl)) (fun _ _ _ h=>h) (Or.inl ⟨by rfl,?_⟩) ?_ ?_;rotate_left
            ·intro w';go_simp;with_reducible rfl
            rotate_left
            ·simp only [Act.put,q1_,q2_,q3_,i64_w,i32_w];rfl
            refine pure_ (i:=4) (N:=some 39) (v:=?_) (a':=?_) (ab 31 29) rfl rfl (any_of HT_.out (by kernel_rfl)) (fun _ _ _ h=>h) (Or.inl ⟨by rfl,?_⟩) ?_ ?_;rotate_left
            ·intro w';go_simp;with_reducible rfl
            rotate_left
            ·simp only [Act.put,q1_,q2_,q3_,i64_w,i32_w];rfl
            refine take_ (i:=1) (N:=some 36) (v:=?_) (a':=?_) (ab 31 31) rfl rfl (take_ofW HT_.out HW_.out (by kernel_rfl)) (fun _ _ _ h=>h) (Or.inl ⟨by rfl,?_⟩) hHeld ?_ ?_;rotate_left
            ·rintro w' ⟨s0,s1,s2,s3⟩;go_simp;with_reducible rfl
            rotate_left
            ·simp only [Act.put,q1_,q2_,q3_,i64_w,i32_w];rfl
            refine take_ (i:=5) (N:=some 40) (v:=?_) (a':=?_) (ab 31 63) rfl rfl (take_ofW HT_.out HW_.out (by kernel_rfl)) (fun _ _ _ h=>h) (Or.inl ⟨by rfl,?_⟩) hHeld ?_ ?_;rotate_left
            ·rintro w' ⟨s0,s1,s2,s3⟩;go_simp;with_reducible rfl
            rotate_left
            ·simp only [Act.put,q1_,q2_,q3_,i64_w,i32_w];rfl
            refine one_ (i:=6) (N:=some 41) (ab 31 127) rfl rfl (one_of HT_.out (by kernel_rfl)) (by decide) (fun K hK=>?_);refine goes_ Tryd.func50 (by kernel_rfl) rfl #[.int .i64 ((rd_T66 l1_1 x6_1).f1),.int .i64 (rd y242 t247)] (by rfl) rfl rfl (by (try simp only [List.map_toArray,List.map_cons,List.map_nil]);first|done|rfl|(simp only [List.length_drop,List.length_take];rfl)) ?_;(with_reducible refine (hucksterref16_in.calls ((rd_T66 l1_1 x6_1).f1) (rd y242 t247) true _ A21.out).mono ?_);rintro e w' ⟨rfl,⟨nd,rfl⟩⟩;refine ⟨_,rfl,?_⟩;refine hK.out _ _ ⟨(blk_cell BK246.out 0).trans rfl,(blk_cell BK246.out 1).trans rfl,(blk_cell BK246.out 2).trans rfl,hHeld.2.2.2⟩ (fun hHeld=>?_);clear hK K;refine norm_ (a':=?_) ?_ ?_;rotate_left
            ·show Act.put _ (some 41) _=_;simp only [Act.put,q1_,q2_,q3_,i64_w,i32_w];rfl
            refine pure_ (i:=7) (N:=some 42) (v:=?_) (a':=?_) (ab 31 255) rfl rfl (any_of HT_.out (by kernel_rfl)) (fun _ _ _ h=>h) (Or.inl ⟨by rfl,?_⟩) ?_ ?_;rotate_left
            ·intro w';go_simp;with_reducible rfl
            rotate_left
            ·simp only [Act.put,q1_,q2_,q3_,i64_w,i32_w];rfl
            refine pure_ (i:=8) (N:=some 43) (v:=?_) (a':=?_) (ab 31 511) rfl rfl (any_of HT_.out (by kernel_rfl)) (fun _ _ _ h=>h) (Or.inl ⟨by rfl,?_⟩) ?_ ?_;rotate_left
            ·intro w';go_simp;with_reducible rfl
            rotate_left
            ·simp only [Act.put,q1_,q2_,q3_,i64_w,i32_w];rfl
            refine pure_ (i:=9) (N:=some 44) (v:=?_) (a':=?_) (ab 31 1023) rfl rfl (any_of HT_.out (by kernel_rfl)) (fun _ _ _ h=>h) (Or.inl ⟨by rfl,?_⟩) ?_ ?_;rotate_left
            ·intro w';go_simp;with_reducible rfl
            rotate_left
            ·simp only [Act.put,q1_,q2_,q3_,i64_w,i32_w];rfl
            refine pure_ (i:=10) (N:=some 45) (v:=?_) (a':=?_) (ab 31 2047) rfl rfl (any_of HT_.out (by kernel_rfl)) (fun _ _ _ h=>h) (Or.inl ⟨by rfl,?_⟩) ?_ ?_;rotate_left
            ·intro w';go_simp;with_reducible rfl
            rotate_left
            ·simp only [Act.put,q1_,q2_,q3_,i64_w,i32_w];rfl
            refine pure_ (i:=11) (N:=some 46) (v:=?_) (a':=?_) (ab 31 4095) rfl rfl (any_of HT_.out (by kernel_rfl)) (fun _ _ _ h=>h) (Or.inl ⟨by rfl,?_⟩) ?_ ?_;rotate_left
            ·intro w';go_simp;with_reducible rfl
            rotate_left
            ·simp only [Act.put,q1_,q2_,q3_,i64_w,i32_w];rfl
            refine pure_ (i:=12) (N:=some 47) (v:=?_) (a':=?_) (ab 31 8191) rfl rfl (any_of HT_.out (by kernel_rfl)) (fun _ _ _ h=>h) (Or.inl ⟨by rfl,?_⟩) ?_ ?_;rotate_left
            ·intro w';go_simp;with_reducible rfl
            rotate_left
            ·simp only [Act.put,q1_,q2_,q3_,i64_w,i32_w];rfl
            refine take_ (i:=13) (N:=some 48) (v:=?_) (a':=?_) (ab 31 16383) rfl rfl (take_ofW HT_.out HW_.out (by kernel_rfl)) (fun _ _ _ h=>h) (Or.inl ⟨by rfl,?_⟩) hHeld ?_ ?_;rotate_left
            ·rintro w' ⟨s0,s1,s2,s3⟩;go_simp;with_reducible rfl
            rotate_left
            ·simp only [Act.put,q1_,q2_,q3_,i64_w,i32_w];rfl
            refine pure_ (i:=14) (N:=some 49) (v:=?_) (a':=?_) (ab 31 32767) rfl rfl (any_of HT_.out (by kernel_rfl)) (fun _ _ _ h=>h) (Or.inl ⟨by rfl,?_⟩) ?_ ?_;rotate_left
            ·intro w';go_simp;with_reducible rfl
            rotate_left
            ·simp only [Act.put,q1_,q2_,q3_,i64_w,i32_w];rfl
            refine pure_ (i:=15) (N:=some 50) (v:=?_) (a':=?_) (ab 31 65535) rfl rfl (any_of HT_.out (by kernel_rfl)) (fun _ _ _ h=>h) (Or.inl ⟨by rfl,?_⟩) ?_ ?_;rotate_left
            ·intro w';go_simp;with_reducible rfl
            rotate_left
            ·simp only [Act.put,q1_,q2_,q3_,i64_w,i32_w];rfl
            refine pure_ (i:=16) (N:=some 51) (v:=?_) (a':=?_) (ab 31 131071) rfl rfl (any_of HT_.out (by kernel_rfl)) (fun _ _ _ h=>h) (Or.inl ⟨by rfl,?_⟩) ?_ ?_;rotate_left
            ·intro w';go_simp;with_reducible rfl
            rotate_left
            ·simp only [Act.put,q1_,q2_,q3_,i64_w,i32_w];rfl
            refine take_ (i:=17) (N:=some 52) (v:=?_) (a':=?_) (ab 31 262143) rfl rfl (take_ofW HT_.out HW_.out (by kernel_rfl)) (fun _ _ _ h=>h) (Or.inl ⟨by rfl,?_⟩) hHeld ?_ ?_;rotate_left
            ·rintro w' ⟨s0,s1,s2,s3⟩;go_simp;with_reducible rfl
            rotate_left
            ·simp only [Act.put,q1_,q2_,q3_,i64_w,i32_w];rfl
            refine pure_ (i:=18) (N:=some 53) (v:=?_) (a':=?_) (ab 31 524287) rfl rfl (any_of HT_.out (by kernel_rfl)) (fun _ _ _ h=>h) (Or.inl ⟨by rfl,?_⟩) ?_ ?_;rotate_left
            ·intro w';go_simp;with_reducible rfl
            rotate_left
            ·simp only [Act.put,q1_,q2_,q3_,i64_w,i32_w];rfl
            refine pure_ (i:=19) (N:=some 54) (v:=?_) (a':=?_) (ab 31 1048575) rfl rfl (any_of HT_.out (by kernel_rfl)) (fun _ _ _ h=>h) (Or.inl ⟨by rfl,?_⟩) ?_ ?_;rotate_left
            ·intro w';go_simp;with_reducible rfl
            rotate_left
            ·simp only [Act.put,q1_,q2_,q3_,i64_w,i32_w];rfl
            refine pure_ (i:=20) (N:=some 55) (v:=?_) (a':=?_) (ab 31 2097151) rfl rfl (any_of HT_.out (by kernel_rfl)) (fun _ _ _ h=>h) (Or.inl ⟨by rfl,?_⟩) ?_ ?_;rotate_left
            ·intro w';go_simp;with_reducible rfl
            rotate_left
            ·simp only [Act.put,q1_,q2_,q3_,i64_w,i32_w];rfl
            refine pure_ (i:=21) (N:=some 56) (v:=?_) (a':=?_) (ab 31 4194303) rfl rfl (any_of HT_.out (by kernel_rfl)) (fun _ _ _ h=>h) (Or.inl ⟨by rfl,?_⟩) ?_ ?_;rotate_left
            ·intro w';go_simp;with_reducible rfl
            rotate_left
            ·simp only [Act.put,q1_,q2_,q3_,i64_w,i32_w];rfl
            refine pure_ (i:=22) (N:=some 57) (v:=?_) (a':=?_) (ab 31 8388607) rfl rfl (any_of HT_.out (by kernel_rfl)) (fun _ _ _ h=>h) (Or.inl ⟨by rfl,?_⟩) ?_ ?_;rotate_left
            ·intro w';go_simp;with_reducible rfl
            rotate_left
            ·simp only [Act.put,q1_,q2_,q3_,i64_w,i32_w];rfl
            refine pure_ (i:=23) (N:=some 58) (v:=?_) (a':=?_) (ab 31 16777215) rfl rfl (any_of HT_.out (by kernel_rfl)) (fun _ _ _ h=>h) (Or.inl ⟨by rfl,?_⟩) ?_ ?_;rotate_left
            ·intro w';go_simp;with_reducible rfl
            rotate_left
            ·simp only [Act.put,q1_,q2_,q3_,i64_w,i32_w];rfl
            refine pure_ (i:=24) (N:=some 59) (v:=?_) (a':=?_) (ab 31 33554431) rfl rfl (any_of HT_.out (by kernel_rfl)) (fun _ _ _ h=>h) (Or.inl ⟨by rfl,?_⟩) ?_ ?_;rotate_left
            ·intro w';go_simp;with_reducible rfl
            rotate_left
            ·simp only [Act.put,q1_,q2_,q3_,i64_w,i32_w];rfl
            refine pure_ (i:=25) (N:=some 60) (v:=?_) (a':=?_) (ab 31 67108863) rfl rfl (any_of HT_.out (by kernel_rfl)) (fun _ _ _ h=>h) (Or.inl ⟨by rfl,?_⟩) ?_ ?_;rotate_left
            ·intro w';go_simp;with_reducible rfl
            rotate_left
            ·simp only [Act.put,q1_,q2_,q3_,i64_w,i32_w];rfl
            refine pure_ (i:=26) (N:=some 61) (v:=undef) (a':=?_) (ab 31 134217727) rfl rfl (any_of HT_.out (by kernel_rfl)) (fun _ _ _ h=>h) (Or.inr ⟨by rfl,rfl⟩) ?_ ?_;rotate_left
            ·simp only [Act.put,q1_,q2_,q3_,i64_w,i32_w];rfl
            refine pure_ (i:=27) (N:=some 62) (v:=undef) (a':=?_) (ab 31 268435455) rfl rfl (any_of HT_.out (by kernel_rfl)) (fun _ _ _ h=>h) (Or.inr ⟨by rfl,rfl⟩) ?_ ?_;rotate_left
            ·simp only [Act.put,q1_,q2_,q3_,i64_w,i32_w];rfl
            refine pure_ (i:=28) (N:=some 63) (v:=undef) (a':=?_) (ab 31 536870911) rfl rfl (any_of HT_.out (by kernel_rfl)) (fun _ _ _ h=>h) (Or.inr ⟨by rfl,rfl⟩) ?_ ?_;rotate_left
            ·simp only [Act.put,q1_,q2_,q3_,i64_w,i32_w];rfl
            refine pure_ (i:=29) (N:=some 64) (v:=?_) (a':=?_) (ab 31 1073741823) rfl rfl (any_of HT_.out (by kernel_rfl)) (fun _ _ _ h=>h) (Or.inl ⟨by rfl,?_⟩) ?_ ?_;rotate_left
            ·intro w';go_simp;with_reducible rfl
            rotate_left
            ·simp only [Act.put,q1_,q2_,q3_,i64_w,i32_w];rfl
            refine pure_ (i:=30) (N:=some 65) (v:=?_) (a':=?_) (ab 31 2147483647) rfl rfl (any_of HT_.out (by kernel_rfl)) (fun _ _ _ h=>h) (Or.inl ⟨by rfl,?_⟩) ?_ ?_;rotate_left
            ·intro w';go_simp;with_reducible rfl
            rotate_left
            ·simp only [Act.put,q1_,q2_,q3_,i64_w,i32_w];rfl
            refine done_ (done_of HT_.out (by kernel_rfl)) ?_;(try go_wp2);go_meet
            case rel=>exact ⟨_,(false),(by first|rfl|(simp;done)|(simp [*];done)),H',⟨by have:=HK1.out;first|omega|exact Nat.le_refl _⟩,⟨by (with_reducible repeat (first|apply Kd.R_alloc|apply Kd.R_drewN|apply Kd.R_drew));exact HO_5.out⟩,⟨by (with_reducible repeat (first|refine blk_drewN ?_ _|refine blk_drew ?_|refine blk_alloc ?_ _));exact BK240.out⟩,⟨by (with_reducible repeat (first|refine blk_drewN ?_ _|refine blk_drew ?_|refine blk_alloc ?_ _));exact BK241.out⟩,⟨by (with_reducible repeat (first|refine blk_drewN ?_ _|refine blk_drew ?_|refine blk_alloc ?_ _));exact BK246.out⟩,⟨by repeat (first|(with_reducible first|exact HB.out|apply below_alloc|apply pw_below_drewN|apply below_drew1|refine below_set ?_ GE240.out|refine below_set ?_ GE241.out|refine below_set ?_ GE246.out)|exact HB.out)⟩⟩
         ·rw [if_neg c23] at H;have c23b0:(t247 == 2)=false:=beq_eq_false_iff_ne.mpr c23;have c23b1:(t247 != 2)=true:=bne_iff_ne.mpr c23;have H':=Aside0.mk H;clear H;(try go_wp2);have n0_:Aside0 (Kd.R (Kd.int .i64) 3 (((w15.setCell ⟨gb246,0,none⟩ (.int .i64 ((rd_T66 l1_1 x6_1).f0))).setCell ⟨gb246,1,none⟩ (.int .i64 ((rd_T66 l1_1 x6_1).f1))).setCell ⟨gb246,2,none⟩ (.int .i64 ((rd_T66 l1_1 x6_1).f2))) w.heap.size (fun _=>True) v243 y242):=⟨by (with_reducible repeat (first|apply Kd.R_alloc|apply Kd.R_drewN|apply Kd.R_drew));exact Kd.R_mono (Kd.R_far (p:=⟨gb246,2,none⟩) (Kd.R_far (p:=⟨gb246,1,none⟩) (Kd.R_far (p:=⟨gb246,0,none⟩) (Kd.R_types HO_5.out BK246.out (by decide)) (fun _ hk=>hk.2) (.int .i64 ((rd_T66 l1_1 x6_1).f0))) (fun _ hk=>hk.2) (.int .i64 ((rd_T66 l1_1 x6_1).f1))) (fun _ hk=>hk.2) (.int .i64 ((rd_T66 l1_1 x6_1).f2))) (fun _ hk=>trivial)⟩;have n1_:Aside0 ((((w15.setCell ⟨gb246,0,none⟩ (.int .i64 ((rd_T66 l1_1 x6_1).f0))).setCell ⟨gb246,1,none⟩ (.int .i64 ((rd_T66 l1_1 x6_1).f1))).setCell ⟨gb246,2,none⟩ (.int .i64 ((rd_T66 l1_1 x6_1).f2))).heap[gb240]? = some (.cells #[.slice A0_0 l0_0.length c0_0,.slice A0_1 l0_1.length c0_1,.slice A0_2 l0_2.length c0_2,.slice A0_3 l0_3.length c0_3,.slice A0_4 l0_4.length c0_4] 26 (0,0))):=⟨by (with_reducible repeat (first|refine blk_drewN ?_ _|refine blk_drew ?_|refine blk_alloc ?_ _));refine blk_far ?_ NB240_246.out _;(with_reducible repeat (first|refine blk_drewN ?_ _|refine blk_drew ?_|refine blk_alloc ?_ _));refine blk_far ?_ NB240_246.out _;(with_reducible repeat (first|refine blk_drewN ?_ _|refine blk_drew ?_|refine blk_alloc ?_ _));refine blk_far ?_ NB240_246.out _;(with_reducible repeat (first|refine blk_drewN ?_ _|refine blk_drew ?_|refine blk_alloc ?_ _));exact BK240.out⟩;have n2_:Aside0 ((((w15.setCell ⟨gb246,0,none⟩ (.int .i64 ((rd_T66 l1_1 x6_1).f0))).setCell ⟨gb246,1,none⟩ (.int .i64 ((rd_T66 l1_1 x6_1).f1))).setCell ⟨gb246,2,none⟩ (.int .i64 ((rd_T66 l1_1 x6_1).f2))).heap[gb241]? = some (.cells #[.string a1_0,.slice (some ad245) l1_1.length c1_1] 39 (0,0))):=⟨by (with_reducible repeat (first|refine blk_drewN ?_ _|refine blk_drew ?_|refine blk_alloc ?_ _));refine blk_far ?_ NB241_246.out _;(with_reducible repeat (first|refine blk_drewN ?_ _|refine blk_drew ?_|refine blk_alloc ?_ _));refine blk_far ?_ NB241_246.out _;(with_reducible repeat (first|refine blk_drewN ?_ _|refine blk_drew ?_|refine blk_alloc ?_ _));refine blk_far ?_ NB241_246.out _;(with_reducible repeat (first|refine blk_drewN ?_ _|refine blk_drew ?_|refine blk_alloc ?_ _));exact BK241.out⟩;have n3_:Aside0 ((((w15.setCell ⟨gb246,0,none⟩ (.int .i64 ((rd_T66 l1_1 x6_1).f0))).setCell ⟨gb246,1,none⟩ (.int .i64 ((rd_T66 l1_1 x6_1).f1))).setCell ⟨gb246,2,none⟩ (.int .i64 ((rd_T66 l1_1 x6_1).f2))).heap[gb246]? = some (.cells #[.int .i64 ((rd_T66 l1_1 x6_1).f0),.int .i64 ((rd_T66 l1_1 x6_1).f1),.int .i64 ((rd_T66 l1_1 x6_1).f2)] 66 (0,0))):=⟨by (with_reducible repeat (first|refine blk_drewN ?_ _|refine blk_drew ?_|refine blk_alloc ?_ _));refine blk_put (cs:=#[.int .i64 ((rd_T66 l1_1 x6_1).f0),.int .i64 ((rd_T66 l1_1 x6_1).f1),.int .i64 0]) ?_ 2 _ rfl;(with_reducible repeat (first|refine blk_drewN ?_ _|refine blk_drew ?_|refine blk_alloc ?_ _));refine blk_put (cs:=#[.int .i64 ((rd_T66 l1_1 x6_1).f0),.int .i64 0,.int .i64 0]) ?_ 1 _ rfl;(with_reducible repeat (first|refine blk_drewN ?_ _|refine blk_drew ?_|refine blk_alloc ?_ _));refine blk_put (cs:=#[.int .i64 0,.int .i64 0,.int .i64 0]) ?_ 0 _ rfl;(with_reducible repeat (first|refine blk_drewN ?_ _|refine blk_drew ?_|refine blk_alloc ?_ _));exact BK246.out⟩;have n4_:Aside0 (Below w.heap.size w (((w15.setCell ⟨gb246,0,none⟩ (.int .i64 ((rd_T66 l1_1 x6_1).f0))).setCell ⟨gb246,1,none⟩ (.int .i64 ((rd_T66 l1_1 x6_1).f1))).setCell ⟨gb246,2,none⟩ (.int .i64 ((rd_T66 l1_1 x6_1).f2)))):=⟨by repeat (first|(with_reducible first|exact HB.out|apply below_alloc|apply pw_below_drewN|apply below_drew1|refine below_set ?_ GE240.out|refine below_set ?_ GE241.out|refine below_set ?_ GE246.out)|exact HB.out)⟩;(try clear HO_5);(try clear BK240);(try clear BK241);(try clear BK246);(try clear HB);generalize (((w15.setCell ⟨gb246,0,none⟩ (.int .i64 ((rd_T66 l1_1 x6_1).f0))).setCell ⟨gb246,1,none⟩ (.int .i64 ((rd_T66 l1_1 x6_1).f1))).setCell ⟨gb246,2,none⟩ (.int .i64 ((rd_T66 l1_1 x6_1).f2)))=w35 at n0_ n1_ n2_ n3_ n4_ ⊢;have HO_5:=n0_;have BK240:=n1_;have BK241:=n2_;have BK246:=n3_;have HB:=n4_;clear n0_ n1_ n2_ n3_ n4_;have n0_:=Aside0.mk (Kd.R_drewN HO_5.out nd);have n1_:=Aside0.mk (blk_drewN BK240.out nd);have n2_:=Aside0.mk (blk_drewN BK241.out nd);have n3_:=Aside0.mk (blk_drewN BK246.out nd);have n4_:=Aside0.mk (pw_below_drewN HB.out nd);clear HO_5 BK240 BK241 BK246 HB;have HO_5:=n0_;have BK240:=n1_;have BK241:=n2_;have BK246:=n3_;have HB:=n4_;clear n0_ n1_ n2_ n3_ n4_;generalize w35.drewN nd=w35 at HO_5 BK240 BK241 BK246 HB ⊢;have n0_:=Aside0.mk (Kd.R_drew HO_5.out);have n1_:=Aside0.mk (blk_drew BK240.out);have n2_:=Aside0.mk (blk_drew BK241.out);have n3_:=Aside0.mk (blk_drew BK246.out);have n4_:=Aside0.mk (below_drew1 HB.out);clear HO_5;clear BK240;clear BK241;clear BK246;clear HB;have HO_5:=n0_;have BK240:=n1_;have BK241:=n2_;have BK246:=n3_;have HB:=n4_;clear n0_ n1_ n2_ n3_ n4_;obtain ⟨Ao37,co37,eo37⟩:=Kd.R_slice HO_5.out;(first|subst eo37|(injection eo37 with f1_ f2_ f3_;have f4_:=f1_.symm;have f5_:=f3_.symm;clear f1_ f2_ f3_;subst f4_;subst f5_));have p248:0 ≤ (t247:Int):=of_decide_eq_true (by first|(with_reducible assumption)|assumption);have q248:t247 < (y242.length:Int):=of_decide_eq_true (by first|(with_reducible assumption)|assumption);obtain ⟨ad248,e248,hx248_0⟩:=Kd.at_int (Kd.R_reads' HO_5.out).2.2 t247 p248 q248;cases e248;replace p248:=eq_true p248;replace q248:=eq_true q248;refine start_ (n:=31) (S:=fun w'=>w'.cell? ⟨gb246,0,none⟩=some (.int .i64 ((rd_T66 l1_1 x6_1).f0))∧w'.cell? ⟨gb246,1,none⟩=some (.int .i64 ((rd_T66 l1_1 x6_1).f1))∧w'.cell? ⟨gb246,2,none⟩=some (.int .i64 ((rd_T66 l1_1 x6_1).f2))∧w'.cell? (ad248.add (t247).toNat)=some (.int .i64 (rd y242 t247))) (ds:=[]) (ab 31 0) (by kernel_rfl) rfl rfl ⟨(blk_cell BK246.out 0).trans rfl,(blk_cell BK246.out 1).trans rfl,(blk_cell BK246.out 2).trans rfl,hx248_0⟩ (fun hHeld=>?_);refine with_tabW hucksterref16_Oper.tab7 hucksterref16_Oper.bits7 (fun HT_ HW_=>?_);generalize w35.drew=w36 at HO_5 BK240 BK241 BK246 HB hx248_0 hHeld ⊢;refine pure_ (i:=0) (N:=some 35) (v:=?_) (a':=?_) (ab 31 1) rfl rfl (any_of HT_.out (by kernel_rfl)) (fun _ _ _ h=>h) (Or.inl ⟨by rfl,?_⟩) ?_ ?_;rotate_left
          ·intro w';go_simp;with_reducible rfl
          rotate_left
          ·simp only [Act.put,q1_,q2_,q3_,i64_w,i32_w];rfl
          refine pure_ (i:=2) (N:=some 37) (v:=?_) (a':=?_) (ab 31 5) rfl rfl (any_of HT_.out (by kernel_rfl)) (fun _ _ _ h=>h) (Or.inl ⟨by rfl,?_⟩) ?_ ?_;rotate_left
          ·intro w';go_simp;with_reducible rfl
          rotate_left
          ·simp only [Act.put,q1_,q2_,q3_,i64_w,i32_w];rfl
          refine pure_ (i:=3) (N:=some 38) (v:=?_) (a':=?_) (ab 31 13) rfl rfl (any_of HT_.out (by kernel_rfl)) (fun _ _ _ h=>h) (Or.inl ⟨by rfl,?_⟩) ?_ ?_;rotate_left
          ·intro w';go_simp;with_reducible rfl
          rotate_left
          ·simp only [Act.put,q1_,q2_,q3_,i64_w,i32_w];rfl
          refine pure_ (i:=4) (N:=some 39) (v:=?_) (a':=?_) (ab 31 29) rfl rfl (any_of HT_.out (by kernel_rfl)) (fun _ _ _ h=>h) (Or.inl ⟨by rfl,?_⟩) ?_ ?_;rotate_left
          ·intro w';go_simp;with_reducible rfl
          rotate_left
          ·simp only [Act.put,q1_,q2_,q3_,i64_w,i32_w];rfl
          refine take_ (i:=1) (N:=some 36) (v:=?_) (a':=?_) (ab 31 31) rfl rfl (take_ofW HT_.out HW_.out (by kernel_rfl)) (fun _ _ _ h=>h) (Or.inl ⟨by rfl,?_⟩) hHeld ?_ ?_;rotate_left
          ·rintro w' ⟨s0,s1,s2,s3⟩;go_simp;with_reducible rfl
          rotate_left
          ·simp only [Act.put,q1_,q2_,q3_,i64_w,i32_w];rfl
          refine take_ (i:=5) (N:=some 40) (v:=?_) (a':=?_) (ab 31 63) rfl rfl (take_ofW HT_.out HW_.out (by kernel_rfl)) (fun _ _ _ h=>h) (Or.inl ⟨by rfl,?_⟩) hHeld ?_ ?_;rotate_left
          ·rintro w' ⟨s0,s1,s2,s3⟩;go_simp;with_reducible rfl
          rotate_left
          ·simp only [Act.put,q1_,q2_,q3_,i64_w,i32_w];rfl
          refine one_ (i:=6) (N:=some 41) (ab 31 127) rfl rfl (one_of HT_.out (by kernel_rfl)) (by decide) (fun K hK=>?_);refine goes_ Tryd.func50 (by kernel_rfl) rfl #[.int .i64 ((rd_T66 l1_1 x6_1).f1),.int .i64 (rd y242 t247)] (by rfl) rfl rfl (by (try simp only [List.map_toArray,List.map_cons,List.map_nil]);first|done|rfl|(simp only [List.length_drop,List.length_take];rfl)) ?_;(with_reducible refine (hucksterref16_in.calls ((rd_T66 l1_1 x6_1).f1) (rd y242 t247) true _ A21.out).mono ?_);rintro e w' ⟨rfl,⟨nd,rfl⟩⟩;refine ⟨_,rfl,?_⟩;refine hK.out _ _ ⟨(blk_cell BK246.out 0).trans rfl,(blk_cell BK246.out 1).trans rfl,(blk_cell BK246.out 2).trans rfl,hHeld.2.2.2⟩ (fun hHeld=>?_);clear hK K;refine norm_ (a':=?_) ?_ ?_;rotate_left
          ·show Act.put _ (some 41) _=_;simp only [Act.put,q1_,q2_,q3_,i64_w,i32_w];rfl
          refine pure_ (i:=7) (N:=some 42) (v:=?_) (a':=?_) (ab 31 255) rfl rfl (any_of HT_.out (by kernel_rfl)) (fun _ _ _ h=>h) (Or.inl ⟨by rfl,?_⟩) ?_ ?_;rotate_left
          ·intro w';go_simp;with_reducible rfl
          rotate_left
          ·simp only [Act.put,q1_,q2_,q3_,i64_w,i32_w];rfl
          refine pure_ (i:=8) (N:=some 43) (v:=?_) (a':=?_) (ab 31 511) rfl rfl (any_of HT_.out (by kernel_rfl)) (fun _ _ _ h=>h) (Or.inl ⟨by rfl,?_⟩) ?_ ?_;rotate_left
          ·intro w';go_simp;with_reducible rfl
          rotate_left
          ·simp only [Act.put,q1_,q2_,q3_,i64_w,i32_w];rfl
          refine pure_ (i:=9) (N:=some 44) (v:=?_) (a':=?_) (ab 31 1023) rfl rfl (any_of HT_.out (by kernel_rfl)) (fun _ _ _ h=>h) (Or.inl ⟨by rfl,?_⟩) ?_ ?_;rotate_left
          ·intro w';go_simp;with_reducible rfl
          rotate_left
          ·simp only [Act.put,q1_,q2_,q3_,i64_w,i32_w];rfl
          refine pure_ (i:=10) (N:=some 45) (v:=?_) (a':=?_) (ab 31 2047) rfl rfl (any_of HT_.out (by kernel_rfl)) (fun _ _ _ h=>h) (Or.inl ⟨by rfl,?_⟩) ?_ ?_;rotate_left
          ·intro w';go_simp;with_reducible rfl
          rotate_left
          ·simp only [Act.put,q1_,q2_,q3_,i64_w,i32_w];rfl
          refine pure_ (i:=11) (N:=some 46) (v:=?_) (a':=?_) (ab 31 4095) rfl rfl (any_of HT_.out (by kernel_rfl)) (fun _ _ _ h=>h) (Or.inl ⟨by rfl,?_⟩) ?_ ?_;rotate_left
          ·intro w';go_simp;with_reducible rfl
          rotate_left
          ·simp only [Act.put,q1_,q2_,q3_,i64_w,i32_w];rfl
          refine pure_ (i:=12) (N:=some 47) (v:=undef) (a':=?_) (ab 31 8191) rfl rfl (any_of HT_.out (by kernel_rfl)) (fun _ _ _ h=>h) (Or.inr ⟨by rfl,rfl⟩) ?_ ?_;rotate_left
          ·simp only [Act.put,q1_,q2_,q3_,i64_w,i32_w];rfl
          refine pure_ (i:=13) (N:=some 48) (v:=undef) (a':=?_) (ab 31 16383) rfl rfl (any_of HT_.out (by kernel_rfl)) (fun _ _ _ h=>h) (Or.inr ⟨by rfl,rfl⟩) ?_ ?_;rotate_left
          ·simp only [Act.put,q1_,q2_,q3_,i64_w,i32_w];rfl
          refine pure_ (i:=14) (N:=some 49) (v:=undef) (a':=?_) (ab 31 32767) rfl rfl (any_of HT_.out (by kernel_rfl)) (fun _ _ _ h=>h) (Or.inr ⟨by rfl,rfl⟩) ?_ ?_;rotate_left
          ·simp only [Act.put,q1_,q2_,q3_,i64_w,i32_w];rfl
          refine pure_ (i:=15) (N:=some 50) (v:=undef) (a':=?_) (ab 31 65535) rfl rfl (any_of HT_.out (by kernel_rfl)) (fun _ _ _ h=>h) (Or.inr ⟨by rfl,rfl⟩) ?_ ?_;rotate_left
          ·simp only [Act.put,q1_,q2_,q3_,i64_w,i32_w];rfl
          refine pure_ (i:=16) (N:=some 51) (v:=undef) (a':=?_) (ab 31 131071) rfl rfl (any_of HT_.out (by kernel_rfl)) (fun _ _ _ h=>h) (Or.inr ⟨by rfl,rfl⟩) ?_ ?_;rotate_left
          ·simp only [Act.put,q1_,q2_,q3_,i64_w,i32_w];rfl
          refine pure_ (i:=17) (N:=some 52) (v:=undef) (a':=?_) (ab 31 262143) rfl rfl (any_of HT_.out (by kernel_rfl)) (fun _ _ _ h=>h) (Or.inr ⟨by rfl,rfl⟩) ?_ ?_;rotate_left
          ·simp only [Act.put,q1_,q2_,q3_,i64_w,i32_w];rfl
          refine pure_ (i:=18) (N:=some 53) (v:=undef) (a':=?_) (ab 31 524287) rfl rfl (any_of HT_.out (by kernel_rfl)) (fun _ _ _ h=>h) (Or.inr ⟨by rfl,rfl⟩) ?_ ?_;rotate_left
          ·simp only [Act.put,q1_,q2_,q3_,i64_w,i32_w];rfl
          refine pure_ (i:=19) (N:=some 54) (v:=undef) (a':=?_) (ab 31 1048575) rfl rfl (any_of HT_.out (by kernel_rfl)) (fun _ _ _ h=>h) (Or.inr ⟨by rfl,rfl⟩) ?_ ?_;rotate_left
          ·simp only [Act.put,q1_,q2_,q3_,i64_w,i32_w];rfl
          refine pure_ (i:=20) (N:=some 55) (v:=?_) (a':=?_) (ab 31 2097151) rfl rfl (any_of HT_.out (by kernel_rfl)) (fun _ _ _ h=>h) (Or.inl ⟨by rfl,?_⟩) ?_ ?_;rotate_left
          ·intro w';go_simp;with_reducible rfl
          rotate_left
          ·simp only [Act.put,q1_,q2_,q3_,i64_w,i32_w];rfl
          refine pure_ (i:=21) (N:=some 56) (v:=?_) (a':=?_) (ab 31 4194303) rfl rfl (any_of HT_.out (by kernel_rfl)) (fun _ _ _ h=>h) (Or.inl ⟨by rfl,?_⟩) ?_ ?_;rotate_left
          ·intro w';go_simp;with_reducible rfl
          rotate_left
          ·simp only [Act.put,q1_,q2_,q3_,i64_w,i32_w];rfl
          refine pure_ (i:=22) (N:=some 57) (v:=?_) (a':=?_) (ab 31 8388607) rfl rfl (any_of HT_.out (by kernel_rfl)) (fun _ _ _ h=>h) (Or.inl ⟨by rfl,?_⟩) ?_ ?_;rotate_left
          ·intro w';go_simp;with_reducible rfl
          rotate_left
          ·simp only [Act.put,q1_,q2_,q3_,i64_w,i32_w];rfl
          refine pure_ (i:=23) (N:=some 58) (v:=?_) (a':=?_) (ab 31 16777215) rfl rfl (any_of HT_.out (by kernel_rfl)) (fun _ _ _ h=>h) (Or.inl ⟨by rfl,?_⟩) ?_ ?_;rotate_left
          ·intro w';go_simp;with_reducible rfl
          rotate_left
          ·simp only [Act.put,q1_,q2_,q3_,i64_w,i32_w];rfl
          refine pure_ (i:=24) (N:=some 59) (v:=?_) (a':=?_) (ab 31 33554431) rfl rfl (any_of HT_.out (by kernel_rfl)) (fun _ _ _ h=>h) (Or.inl ⟨by rfl,?_⟩) ?_ ?_;rotate_left
          ·intro w';go_simp;with_reducible rfl
          rotate_left
          ·simp only [Act.put,q1_,q2_,q3_,i64_w,i32_w];rfl
          refine pure_ (i:=25) (N:=some 60) (v:=?_) (a':=?_) (ab 31 67108863) rfl rfl (any_of HT_.out (by kernel_rfl)) (fun _ _ _ h=>h) (Or.inl ⟨by rfl,?_⟩) ?_ ?_;rotate_left
          ·intro w';go_simp;with_reducible rfl
          rotate_left
          ·simp only [Act.put,q1_,q2_,q3_,i64_w,i32_w];rfl
          refine pure_ (i:=26) (N:=some 61) (v:=?_) (a':=?_) (ab 31 134217727) rfl rfl (any_of HT_.out (by kernel_rfl)) (fun _ _ _ h=>h) (Or.inl ⟨by rfl,?_⟩) ?_ ?_;rotate_left
          ·intro w';go_simp;with_reducible rfl
          rotate_left
          ·simp only [Act.put,q1_,q2_,q3_,i64_w,i32_w];rfl
          refine take_ (i:=27) (N:=some 62) (v:=?_) (a':=?_) (ab 31 268435455) rfl rfl (take_ofW HT_.out HW_.out (by kernel_rfl)) (fun _ _ _ h=>h) (Or.inl ⟨by rfl,?_⟩) hHeld ?_ ?_;rotate_left
          ·rintro w' ⟨s0,s1,s2,s3⟩;go_simp;with_reducible rfl
          rotate_left
          ·simp only [Act.put,q1_,q2_,q3_,i64_w,i32_w];rfl
          refine pure_ (i:=28) (N:=some 63) (v:=?_) (a':=?_) (ab 31 536870911) rfl rfl (any_of HT_.out (by kernel_rfl)) (fun _ _ _ h=>h) (Or.inl ⟨by rfl,?_⟩) ?_ ?_;rotate_left
          ·intro w';go_simp;with_reducible rfl
          rotate_left
          ·simp only [Act.put,q1_,q2_,q3_,i64_w,i32_w];rfl
          refine pure_ (i:=29) (N:=some 64) (v:=?_) (a':=?_) (ab 31 1073741823) rfl rfl (any_of HT_.out (by kernel_rfl)) (fun _ _ _ h=>h) (Or.inl ⟨by rfl,?_⟩) ?_ ?_;rotate_left
          ·intro w';go_simp;with_reducible rfl
          rotate_left
          ·simp only [Act.put,q1_,q2_,q3_,i64_w,i32_w];rfl
          refine pure_ (i:=30) (N:=some 65) (v:=?_) (a':=?_) (ab 31 2147483647) rfl rfl (any_of HT_.out (by kernel_rfl)) (fun _ _ _ h=>h) (Or.inl ⟨by rfl,?_⟩) ?_ ?_;rotate_left
          ·intro w';go_simp;with_reducible rfl
          rotate_left
          ·simp only [Act.put,q1_,q2_,q3_,i64_w,i32_w];rfl
          refine done_ (done_of HT_.out (by kernel_rfl)) ?_;(try go_wp2);go_meet
          case rel=>exact ⟨_,((((rd_T66 l1_1 x6_1).f2) != 0)),(by first|rfl|(simp;done)|(simp [*];done)),H',⟨by have:=HK1.out;first|omega|exact Nat.le_refl _⟩,⟨by (with_reducible repeat (first|apply Kd.R_alloc|apply Kd.R_drewN|apply Kd.R_drew));exact HO_5.out⟩,⟨by (with_reducible repeat (first|refine blk_drewN ?_ _|refine blk_drew ?_|refine blk_alloc ?_ _));exact BK240.out⟩,⟨by (with_reducible repeat (first|refine blk_drewN ?_ _|refine blk_drew ?_|refine blk_alloc ?_ _));exact BK241.out⟩,⟨by (with_reducible repeat (first|refine blk_drewN ?_ _|refine blk_drew ?_|refine blk_alloc ?_ _));exact BK246.out⟩,⟨by repeat (first|(with_reducible first|exact HB.out|apply below_alloc|apply pw_below_drewN|apply below_drew1|refine below_set ?_ GE240.out|refine below_set ?_ GE241.out|refine below_set ?_ GE246.out)|exact HB.out)⟩⟩
        ·replace c22:=Bool.eq_false_iff.mpr c22;subst c22;(have H1:(hucksterref16_Oper.j1 k1 y242 x6_1 t247 true a1_0 l1_1 ((rd_T66 l1_1 x6_1).f0) ((rd_T66 l1_1 x6_1).f1) ((rd_T66 l1_1 x6_1).f2))=some r:=by rw [if_neg (show ¬ (false=true) by decide)] at H;exact H);clear H;have H:=H1;clear H1;have H':=Aside0.mk H;clear H;(try go_wp2);have n0_:Aside0 (Kd.R (Kd.int .i64) 3 (((w15.setCell ⟨gb246,0,none⟩ (.int .i64 ((rd_T66 l1_1 x6_1).f0))).setCell ⟨gb246,1,none⟩ (.int .i64 ((rd_T66 l1_1 x6_1).f1))).setCell ⟨gb246,2,none⟩ (.int .i64 ((rd_T66 l1_1 x6_1).f2))) w.heap.size (fun _=>True) v243 y242):=⟨by (with_reducible repeat (first|apply Kd.R_alloc|apply Kd.R_drewN|apply Kd.R_drew));exact Kd.R_mono (Kd.R_far (p:=⟨gb246,2,none⟩) (Kd.R_far (p:=⟨gb246,1,none⟩) (Kd.R_far (p:=⟨gb246,0,none⟩) (Kd.R_types HO_5.out BK246.out (by decide)) (fun _ hk=>hk.2) (.int .i64 ((rd_T66 l1_1 x6_1).f0))) (fun _ hk=>hk.2) (.int .i64 ((rd_T66 l1_1 x6_1).f1))) (fun _ hk=>hk.2) (.int .i64 ((rd_T66 l1_1 x6_1).f2))) (fun _ hk=>trivial)⟩;have n1_:Aside0 ((((w15.setCell ⟨gb246,0,none⟩ (.int .i64 ((rd_T66 l1_1 x6_1).f0))).setCell ⟨gb246,1,none⟩ (.int .i64 ((rd_T66 l1_1 x6_1).f1))).setCell ⟨gb246,2,none⟩ (.int .i64 ((rd_T66 l1_1 x6_1).f2))).heap[gb240]? = some (.cells #[.slice A0_0 l0_0.length c0_0,.slice A0_1 l0_1.length c0_1,.slice A0_2 l0_2.length c0_2,.slice A0_3 l0_3.length c0_3,.slice A0_4 l0_4.length c0_4] 26 (0,0))):=⟨by (with_reducible repeat (first|refine blk_drewN ?_ _|refine blk_drew ?_|refine blk_alloc ?_ _));refine blk_far ?_ NB240_246.out _;(with_reducible repeat (first|refine blk_drewN ?_ _|refine blk_drew ?_|refine blk_alloc ?_ _));refine blk_far ?_ NB240_246.out _;(with_reducible repeat (first|refine blk_drewN ?_ _|refine blk_drew ?_|refine blk_alloc ?_ _));refine blk_far ?_ NB240_246.out _;(with_reducible repeat (first|refine blk_drewN ?_ _|refine blk_drew ?_|refine blk_alloc ?_ _));exact BK240.out⟩;have n2_:Aside0 ((((w15.setCell ⟨gb246,0,none⟩ (.int .i64 ((rd_T66 l1_1 x6_1).f0))).setCell ⟨gb246,1,none⟩ (.int .i64 ((rd_T66 l1_1 x6_1).f1))).setCell ⟨gb246,2,none⟩ (.int .i64 ((rd_T66 l1_1 x6_1).f2))).heap[gb241]? = some (.cells #[.string a1_0,.slice (some ad245) l1_1.length c1_1] 39 (0,0))):=⟨by (with_reducible repeat (first|refine blk_drewN ?_ _|refine blk_drew ?_|refine blk_alloc ?_ _));refine blk_far ?_ NB241_246.out _;(with_reducible repeat (first|refine blk_drewN ?_ _|refine blk_drew ?_|refine blk_alloc ?_ _));refine blk_far ?_ NB241_246.out _;(with_reducible repeat (first|refine blk_drewN ?_ _|refine blk_drew ?_|refine blk_alloc ?_ _));refine blk_far ?_ NB241_246.out _;(with_reducible repeat (first|refine blk_drewN ?_ _|refine blk_drew ?_|refine blk_alloc ?_ _));exact BK241.out⟩;have n3_:Aside0 ((((w15.setCell ⟨gb246,0,none⟩ (.int .i64 ((rd_T66 l1_1 x6_1).f0))).setCell ⟨gb246,1,none⟩ (.int .i64 ((rd_T66 l1_1 x6_1).f1))).setCell ⟨gb246,2,none⟩ (.int .i64 ((rd_T66 l1_1 x6_1).f2))).heap[gb246]? = some (.cells #[.int .i64 ((rd_T66 l1_1 x6_1).f0),.int .i64 ((rd_T66 l1_1 x6_1).f1),.int .i64 ((rd_T66 l1_1 x6_1).f2)] 66 (0,0))):=⟨by (with_reducible repeat (first|refine blk_drewN ?_ _|refine blk_drew ?_|refine blk_alloc ?_ _));refine blk_put (cs:=#[.int .i64 ((rd_T66 l1_1 x6_1).f0),.int .i64 ((rd_T66 l1_1 x6_1).f1),.int .i64 0]) ?_ 2 _ rfl;(with_reducible repeat (first|refine blk_drewN ?_ _|refine blk_drew ?_|refine blk_alloc ?_ _));refine blk_put (cs:=#[.int .i64 ((rd_T66 l1_1 x6_1).f0),.int .i64 0,.int .i64 0]) ?_ 1 _ rfl;(with_reducible repeat (first|refine blk_drewN ?_ _|refine blk_drew ?_|refine blk_alloc ?_ _));refine blk_put (cs:=#[.int .i64 0,.int .i64 0,.int .i64 0]) ?_ 0 _ rfl;(with_reducible repeat (first|refine blk_drewN ?_ _|refine blk_drew ?_|refine blk_alloc ?_ _));exact BK246.out⟩;have n4_:Aside0 (Below w.heap.size w (((w15.setCell ⟨gb246,0,none⟩ (.int .i64 ((rd_T66 l1_1 x6_1).f0))).setCell ⟨gb246,1,none⟩ (.int .i64 ((rd_T66 l1_1 x6_1).f1))).setCell ⟨gb246,2,none⟩ (.int .i64 ((rd_T66 l1_1 x6_1).f2)))):=⟨by repeat (first|(with_reducible first|exact HB.out|apply below_alloc|apply pw_below_drewN|apply below_drew1|refine below_set ?_ GE240.out|refine below_set ?_ GE241.out|refine below_set ?_ GE246.out)|exact HB.out)⟩;(try clear HO_5);(try clear BK240);(try clear BK241);(try clear BK246);(try clear HB);generalize (((w15.setCell ⟨gb246,0,none⟩ (.int .i64 ((rd_T66 l1_1 x6_1).f0))).setCell ⟨gb246,1,none⟩ (.int .i64 ((rd_T66 l1_1 x6_1).f1))).setCell ⟨gb246,2,none⟩ (.int .i64 ((rd_T66 l1_1 x6_1).f2)))=w38 at n0_ n1_ n2_ n3_ n4_ ⊢;have HO_5:=n0_;have BK240:=n1_;have BK241:=n2_;have BK246:=n3_;have HB:=n4_;clear n0_ n1_ n2_ n3_ n4_;have n0_:=Aside0.mk (Kd.R_drewN HO_5.out nd);have n1_:=Aside0.mk (blk_drewN BK240.out nd);have n2_:=Aside0.mk (blk_drewN BK241.out nd);have n3_:=Aside0.mk (blk_drewN BK246.out nd);have n4_:=Aside0.mk (pw_below_drewN HB.out nd);clear HO_5 BK240 BK241 BK246 HB;have HO_5:=n0_;have BK240:=n1_;have BK241:=n2_;have BK246:=n3_;have HB:=n4_;clear n0_ n1_ n2_ n3_ n4_;generalize w38.drewN nd=w38 at HO_5 BK240 BK241 BK246 HB ⊢;have n0_:=Aside0.mk (Kd.R_drew HO_5.out);have n1_:=Aside0.mk (blk_drew BK240.out);have n2_:=Aside0.mk (blk_drew BK241.out);have n3_:=Aside0.mk (blk_drew BK246.out);have n4_:=Aside0.mk (below_drew1 HB.out);clear HO_5;clear BK240;clear BK241;clear BK246;clear HB;have HO_5:=n0_;have BK240:=n1_;have BK241:=n2_;have BK246:=n3_;have HB:=n4_;clear n0_ n1_ n2_ n3_ n4_;obtain ⟨Ao40,co40,eo40⟩:=Kd.R_slice HO_5.out;(first|subst eo40|(injection eo40 with f1_ f2_ f3_;have f4_:=f1_.symm;have f5_:=f3_.symm;clear f1_ f2_ f3_;subst f4_;subst f5_));have p248:0 ≤ (t247:Int):=of_decide_eq_true (by first|(with_reducible assumption)|assumption);have q248:t247 < (y242.length:Int):=of_decide_eq_true (by first|(with_reducible assumption)|assumption);obtain ⟨ad248,e248,hx248_0⟩:=Kd.at_int (Kd.R_reads' HO_5.out).2.2 t247 p248 q248;cases e248;replace p248:=eq_true p248;replace q248:=eq_true q248;refine start_ (n:=31) (S:=fun w'=>w'.cell? ⟨gb246,0,none⟩=some (.int .i64 ((rd_T66 l1_1 x6_1).f0))∧w'.cell? ⟨gb246,1,none⟩=some (.int .i64 ((rd_T66 l1_1 x6_1).f1))∧w'.cell? ⟨gb246,2,none⟩=some (.int .i64 ((rd_T66 l1_1 x6_1).f2))∧w'.cell? (ad248.add (t247).toNat)=some (.int .i64 (rd y242 t247))) (ds:=[]) (ab 31 0) (by kernel_rfl) rfl rfl ⟨(blk_cell BK246.out 0).trans rfl,(blk_cell BK246.out 1).trans rfl,(blk_cell BK246.out 2).trans rfl,hx248_0⟩ (fun hHeld=>?_);refine with_tabW hucksterref16_Oper.tab7 hucksterref16_Oper.bits7 (fun HT_ HW_=>?_);generalize w38.drew=w39 at HO_5 BK240 BK241 BK246 HB hx248_0 hHeld ⊢;refine pure_ (i:=0) (N:=some 35) (v:=?_) (a':=?_) (ab 31 1) rfl rfl (any_of HT_.out (by kernel_rfl)) (fun _ _ _ h=>h) (Or.inl ⟨by rfl,?_⟩) ?_ ?_;rotate_left
         ·intro w';go_simp;with_reducible rfl
         rotate_left
         ·simp only [Act.put,q1_,q2_,q3_,i64_w,i32_w];rfl
         refine pure_ (i:=2) (N:=some 37) (v:=?_) (a':=?_) (ab 31 5) rfl rfl (any_of HT_.out (by kernel_rfl)) (fun _ _ _ h=>h) (Or.inl ⟨by rfl,?_⟩) ?_ ?_;rotate_left
         ·intro w';go_simp;with_reducible rfl
         rotate_left
         ·simp only [Act.put,q1_,q2_,q3_,i64_w,i32_w];rfl
         refine pure_ (i:=3) (N:=some 38) (v:=?_) (a':=?_) (ab 31 13) rfl rfl (any_of HT_.out (by kernel_rfl)) (fun _ _ _ h=>h) (Or.inl ⟨by rfl,?_⟩) ?_ ?_;rotate_left
         ·intro w';go_simp;with_reducible rfl
         rotate_left
         ·simp only [Act.put,q1_,q2_,q3_,i64_w,i32_w];rfl
         refine pure_ (i:=4) (N:=some 39) (v:=?_) (a':=?_) (ab 31 29) rfl rfl (any_of HT_.out (by kernel_rfl)) (fun _ _ _ h=>h) (Or.inl ⟨by rfl,?_⟩) ?_ ?_;rotate_left
         ·intro w';go_simp;with_reducible rfl
         rotate_left
         ·simp only [Act.put,q1_,q2_,q3_,i64_w,i32_w];rfl
         refine take_ (i:=1) (N:=some 36) (v:=?_) (a':=?_) (ab 31 31) rfl rfl (take_ofW HT_.out HW_.out (by kernel_rfl)) (fun _ _ _ h=>h) (Or.inl ⟨by rfl,?_⟩) hHeld ?_ ?_;rotate_left
         ·rintro w' ⟨s0,s1,s2,s3⟩;go_simp;with_reducible rfl
         rotate_left
         ·simp only [Act.put,q1_,q2_,q3_,i64_w,i32_w];rfl
         refine take_ (i:=5) (N:=some 40) (v:=?_) (a':=?_) (ab 31 63) rfl rfl (take_ofW HT_.out HW_.out (by kernel_rfl)) (fun _ _ _ h=>h) (Or.inl ⟨by rfl,?_⟩) hHeld ?_ ?_;rotate_left
         ·rintro w' ⟨s0,s1,s2,s3⟩;go_simp;with_reducible rfl
         rotate_left
         ·simp only [Act.put,q1_,q2_,q3_,i64_w,i32_w];rfl
         refine one_ (i:=6) (N:=some 41) (ab 31 127) rfl rfl (one_of HT_.out (by kernel_rfl)) (by decide) (fun K hK=>?_);refine goes_ Tryd.func50 (by kernel_rfl) rfl #[.int .i64 ((rd_T66 l1_1 x6_1).f1),.int .i64 (rd y242 t247)] (by rfl) rfl rfl (by (try simp only [List.map_toArray,List.map_cons,List.map_nil]);first|done|rfl|(simp only [List.length_drop,List.length_take];rfl)) ?_;(with_reducible refine (hucksterref16_in.calls ((rd_T66 l1_1 x6_1).f1) (rd y242 t247) false _ A21.out).mono ?_);rintro e w' ⟨rfl,⟨nd,rfl⟩⟩;refine ⟨_,rfl,?_⟩;refine hK.out _ _ ⟨(blk_cell BK246.out 0).trans rfl,(blk_cell BK246.out 1).trans rfl,(blk_cell BK246.out 2).trans rfl,hHeld.2.2.2⟩ (fun hHeld=>?_);clear hK K;refine norm_ (a':=?_) ?_ ?_;rotate_left
         ·show Act.put _ (some 41) _=_;simp only [Act.put,q1_,q2_,q3_,i64_w,i32_w];rfl
         refine pure_ (i:=7) (N:=some 42) (v:=?_) (a':=?_) (ab 31 255) rfl rfl (any_of HT_.out (by kernel_rfl)) (fun _ _ _ h=>h) (Or.inl ⟨by rfl,?_⟩) ?_ ?_;rotate_left
         ·intro w';go_simp;with_reducible rfl
         rotate_left
         ·simp only [Act.put,q1_,q2_,q3_,i64_w,i32_w];rfl
         refine pure_ (i:=8) (N:=some 43) (v:=?_) (a':=?_) (ab 31 511) rfl rfl (any_of HT_.out (by kernel_rfl)) (fun _ _ _ h=>h) (Or.inl ⟨by rfl,?_⟩) ?_ ?_;rotate_left
         ·intro w';go_simp;with_reducible rfl
         rotate_left
         ·simp only [Act.put,q1_,q2_,q3_,i64_w,i32_w];rfl
         refine pure_ (i:=9) (N:=some 44) (v:=undef) (a':=?_) (ab 31 1023) rfl rfl (any_of HT_.out (by kernel_rfl)) (fun _ _ _ h=>h) (Or.inr ⟨by rfl,rfl⟩) ?_ ?_;rotate_left
         ·simp only [Act.put,q1_,q2_,q3_,i64_w,i32_w];rfl
         refine pure_ (i:=10) (N:=some 45) (v:=undef) (a':=?_) (ab 31 2047) rfl rfl (any_of HT_.out (by kernel_rfl)) (fun _ _ _ h=>h) (Or.inr ⟨by rfl,rfl⟩) ?_ ?_;rotate_left
         ·simp only [Act.put,q1_,q2_,q3_,i64_w,i32_w];rfl
         refine pure_ (i:=11) (N:=some 46) (v:=undef) (a':=?_) (ab 31 4095) rfl rfl (any_of HT_.out (by kernel_rfl)) (fun _ _ _ h=>h) (Or.inr ⟨by rfl,rfl⟩) ?_ ?_;rotate_left
         ·simp only [Act.put,q1_,q2_,q3_,i64_w,i32_w];rfl
         refine pure_ (i:=12) (N:=some 47) (v:=undef) (a':=?_) (ab 31 8191) rfl rfl (any_of HT_.out (by kernel_rfl)) (fun _ _ _ h=>h) (Or.inr ⟨by rfl,rfl⟩) ?_ ?_;rotate_left
         ·simp only [Act.put,q1_,q2_,q3_,i64_w,i32_w];rfl
         refine pure_ (i:=13) (N:=some 48) (v:=undef) (a':=?_) (ab 31 16383) rfl rfl (any_of HT_.out (by kernel_rfl)) (fun _ _ _ h=>h) (Or.inr ⟨by rfl,rfl⟩) ?_ ?_;rotate_left
         ·simp only [Act.put,q1_,q2_,q3_,i64_w,i32_w];rfl
         refine pure_ (i:=14) (N:=some 49) (v:=undef) (a':=?_) (ab 31 32767) rfl rfl (any_of HT_.out (by kernel_rfl)) (fun _ _ _ h=>h) (Or.inr ⟨by rfl,rfl⟩) ?_ ?_;rotate_left
         ·simp only [Act.put,q1_,q2_,q3_,i64_w,i32_w];rfl
         refine pure_ (i:=15) (N:=some 50) (v:=undef) (a':=?_) (ab 31 65535) rfl rfl (any_of HT_.out (by kernel_rfl)) (fun _ _ _ h=>h) (Or.inr ⟨by rfl,rfl⟩) ?_ ?_;rotate_left
         ·simp only [Act.put,q1_,q2_,q3_,i64_w,i32_w];rfl
         refine pure_ (i:=16) (N:=some 51) (v:=undef) (a':=?_) (ab 31 131071) rfl rfl (any_of HT_.out (by kernel_rfl)) (fun _ _ _ h=>h) (Or.inr ⟨by rfl,rfl⟩) ?_ ?_;rotate_left
         ·simp only [Act.put,q1_,q2_,q3_,i64_w,i32_w];rfl
         refine pure_ (i:=17) (N:=some 52) (v:=undef) (a':=?_) (ab 31 262143) rfl rfl (any_of HT_.out (by kernel_rfl)) (fun _ _ _ h=>h) (Or.inr ⟨by rfl,rfl⟩) ?_ ?_;rotate_left
         ·simp only [Act.put,q1_,q2_,q3_,i64_w,i32_w];rfl
         refine pure_ (i:=18) (N:=some 53) (v:=undef) (a':=?_) (ab 31 524287) rfl rfl (any_of HT_.out (by kernel_rfl)) (fun _ _ _ h=>h) (Or.inr ⟨by rfl,rfl⟩) ?_ ?_;rotate_left
         ·simp only [Act.put,q1_,q2_,q3_,i64_w,i32_w];rfl
         refine pure_ (i:=19) (N:=some 54) (v:=undef) (a':=?_) (ab 31 1048575) rfl rfl (any_of HT_.out (by kernel_rfl)) (fun _ _ _ h=>h) (Or.inr ⟨by rfl,rfl⟩) ?_ ?_;rotate_left
         ·simp only [Act.put,q1_,q2_,q3_,i64_w,i32_w];rfl
         refine pure_ (i:=20) (N:=some 55) (v:=undef) (a':=?_) (ab 31 2097151) rfl rfl (any_of HT_.out (by kernel_rfl)) (fun _ _ _ h=>h) (Or.inr ⟨by rfl,rfl⟩) ?_ ?_;rotate_left
         ·simp only [Act.put,q1_,q2_,q3_,i64_w,i32_w];rfl
         refine pure_ (i:=21) (N:=some 56) (v:=?_) (a':=?_) (ab 31 4194303) rfl rfl (any_of HT_.out (by kernel_rfl)) (fun _ _ _ h=>h) (Or.inl ⟨by rfl,?_⟩) ?_ ?_;rotate_left
         ·intro w';go_simp;with_reducible rfl
         rotate_left
         ·simp only [Act.put,q1_,q2_,q3_,i64_w,i32_w];rfl
         refine pure_ (i:=22) (N:=some 57) (v:=?_) (a':=?_) (ab 31 8388607) rfl rfl (any_of HT_.out (by kernel_rfl)) (fun _ _ _ h=>h) (Or.inl ⟨by rfl,?_⟩) ?_ ?_;rotate_left
         ·intro w';go_simp;with_reducible rfl
         rotate_left
         ·simp only [Act.put,q1_,q2_,q3_,i64_w,i32_w];rfl
         refine pure_ (i:=23) (N:=some 58) (v:=undef) (a':=?_) (ab 31 16777215) rfl rfl (any_of HT_.out (by kernel_rfl)) (fun _ _ _ h=>h) (Or.inr ⟨by rfl,rfl⟩) ?_ ?_;rotate_left
         ·simp only [Act.put,q1_,q2_,q3_,i64_w,i32_w];rfl
         refine pure_ (i:=24) (N:=some 59) (v:=undef) (a':=?_) (ab 31 33554431) rfl rfl (any_of HT_.out (by kernel_rfl)) (fun _ _ _ h=>h) (Or.inr ⟨by rfl,rfl⟩) ?_ ?_;rotate_left
         ·simp only [Act.put,q1_,q2_,q3_,i64_w,i32_w];rfl
         refine pure_ (i:=25) (N:=some 60) (v:=undef) (a':=?_) (ab 31 67108863) rfl rfl (any_of HT_.out (by kernel_rfl)) (fun _ _ _ h=>h) (Or.inr ⟨by rfl,rfl⟩) ?_ ?_;rotate_left
         ·simp only [Act.put,q1_,q2_,q3_,i64_w,i32_w];rfl
         refine pure_ (i:=26) (N:=some 61) (v:=undef) (a':=?_) (ab 31 134217727) rfl rfl (any_of HT_.out (by kernel_rfl)) (fun _ _ _ h=>h) (Or.inr ⟨by rfl,rfl⟩) ?_ ?_;rotate_left
         ·simp only [Act.put,q1_,q2_,q3_,i64_w,i32_w];rfl
         refine pure_ (i:=27) (N:=some 62) (v:=undef) (a':=?_) (ab 31 268435455) rfl rfl (any_of HT_.out (by kernel_rfl)) (fun _ _ _ h=>h) (Or.inr ⟨by rfl,rfl⟩) ?_ ?_;rotate_left
         ·simp only [Act.put,q1_,q2_,q3_,i64_w,i32_w];rfl
         refine pure_ (i:=28) (N:=some 63) (v:=undef) (a':=?_) (ab 31 536870911) rfl rfl (any_of HT_.out (by kernel_rfl)) (fun _ _ _ h=>h) (Or.inr ⟨by rfl,rfl⟩) ?_ ?_;rotate_left
         ·simp only [Act.put,q1_,q2_,q3_,i64_w,i32_w];rfl
         refine pure_ (i:=29) (N:=some 64) (v:=undef) (a':=?_) (ab 31 1073741823) rfl rfl (any_of HT_.out (by kernel_rfl)) (fun _ _ _ h=>h) (Or.inr ⟨by rfl,rfl⟩) ?_ ?_;rotate_left
         ·simp only [Act.put,q1_,q2_,q3_,i64_w,i32_w];rfl
         refine pure_ (i:=30) (N:=some 65) (v:=?_) (a':=?_) (ab 31 2147483647) rfl rfl (any_of HT_.out (by kernel_rfl)) (fun _ _ _ h=>h) (Or.inl ⟨by rfl,?_⟩) ?_ ?_;rotate_left
         ·intro w';go_simp;with_reducible rfl
         rotate_left
         ·simp only [Act.put,q1_,q2_,q3_,i64_w,i32_w];rfl
         refine done_ (done_of HT_.out (by kernel_rfl)) ?_;(try go_wp2);go_meet
         case rel=>exact ⟨_,(true),(by first|rfl|(simp;done)|(simp [*];done)),H',⟨by have:=HK1.out;first|omega|exact Nat.le_refl _⟩,⟨by (with_reducible repeat (first|apply Kd.R_alloc|apply Kd.R_drewN|apply Kd.R_drew));exact HO_5.out⟩,⟨by (with_reducible repeat (first|refine blk_drewN ?_ _|refine blk_drew ?_|refine blk_alloc ?_ _));exact BK240.out⟩,⟨by (with_reducible repeat (first|refine blk_drewN ?_ _|refine blk_drew ?_|refine blk_alloc ?_ _));exact BK241.out⟩,⟨by (with_reducible repeat (first|refine blk_drewN ?_ _|refine blk_drew ?_|refine blk_alloc ?_ _));exact BK246.out⟩,⟨by repeat (first|(with_reducible first|exact HB.out|apply below_alloc|apply pw_below_drewN|apply below_drew1|refine below_set ?_ GE240.out|refine below_set ?_ GE241.out|refine below_set ?_ GE246.out)|exact HB.out)⟩⟩
       ·rw [if_neg c20] at H;exact absurd H (by simp)
      ·rw [if_neg c19] at H;exact absurd H (by simp)
     case rest =>
      clear HC12;(try clear c1);(try clear c2);(try clear p2);(try clear q2);(try clear hx2);(try clear c5);(try clear c19);(try clear c20);(try clear c22);(try clear c23);(try clear c23b0);(try clear c23b1);(try clear p24);(try clear q24);(try clear hx24);(try clear hx248_0);(try clear p248);(try clear q248);obtain ⟨kq,x65_11,rfl,HA,HJ11,HO_5,BK240,BK241,BK246,HB⟩:=hcut;cases kq with
      | zero=>exact absurd HA.out (by simp [hucksterref16_Oper.j1])
      | succ kj11 =>
       have H:=HA.out;clear HA;simp only [hucksterref16_Oper.j1] at H;by_cases c41:x65_11=true
       ·subst c41;(have H1:(some false)=some r:=by rw [if_pos rfl] at H;exact H);clear H;have H:=H1;clear H1;obtain rfl:=Option.some.inj H;go_wp2;go_ret;exact ⟨by first|rfl|(simp [errW_none,errW_some] <;> rfl)|(simp [*,errW_none,errW_some] <;> rfl),by repeat (first|(with_reducible first|exact HB.out|apply below_alloc|apply pw_below_drewN|apply below_drew1|refine below_set ?_ GE240.out|refine below_set ?_ GE241.out|refine below_set ?_ GE246.out)|exact HB.out)⟩
       ·replace c41:=Bool.eq_false_iff.mpr c41;subst c41;(have H1:(hucksterref16_Oper.l1 kj11 y242 x6_1 t247 0 a1_0 l1_1 ((rd_T66 l1_1 x6_1).f0) ((rd_T66 l1_1 x6_1).f1) ((rd_T66 l1_1 x6_1).f2))=some r:=by rw [if_neg (show ¬ (false=true) by decide)] at H;exact H);clear H;have H:=H1;clear H1;have H':=Aside0.mk H;clear H;go_wp2;go_loopg [9] kj11 (fun kq v9 w'=>∃ (x9_3:Int),v9 = .int .i64 x9_3∧Aside0 (hucksterref16_Oper.l1 kq y242 x6_1 t247 x9_3 a1_0 l1_1 ((rd_T66 l1_1 x6_1).f0) ((rd_T66 l1_1 x6_1).f1) ((rd_T66 l1_1 x6_1).f2)=some r)∧Aside0 (kq ≤ kj11)∧Aside0 (Kd.R (Kd.int .i64) 3 w' w.heap.size (fun _=>True) v243 y242)∧Aside0 (w'.heap[gb240]? = some (.cells #[(.slice A0_0 l0_0.length c0_0),(.slice A0_1 l0_1.length c0_1),(.slice A0_2 l0_2.length c0_2),(.slice A0_3 l0_3.length c0_3),(.slice A0_4 l0_4.length c0_4)] 26 (0,0)))∧Aside0 (w'.heap[gb241]? = some (.cells #[.string a1_0,(.slice (some ad245) l1_1.length c1_1)] 39 (0,0)))∧Aside0 (w'.heap[gb246]? = some (.cells #[.int .i64 ((rd_T66 l1_1 x6_1).f0),.int .i64 ((rd_T66 l1_1 x6_1).f1),.int .i64 ((rd_T66 l1_1 x6_1).f2)] 66 (0,0)))∧Aside0 (Below w.heap.size w w'))
        case atStart=>exact ⟨(0),(by first|rfl|(simp;done)|(simp [*];done)),H',⟨Nat.le_refl _⟩,⟨by (with_reducible repeat (first|apply Kd.R_alloc|apply Kd.R_drewN|apply Kd.R_drew));exact HO_5.out⟩,⟨by (with_reducible repeat (first|refine blk_drewN ?_ _|refine blk_drew ?_|refine blk_alloc ?_ _));exact BK240.out⟩,⟨by (with_reducible repeat (first|refine blk_drewN ?_ _|refine blk_drew ?_|refine blk_alloc ?_ _));exact BK241.out⟩,⟨by (with_reducible repeat (first|refine blk_drewN ?_ _|refine blk_drew ?_|refine blk_alloc ?_ _));exact BK246.out⟩,⟨by repeat (first|(with_reducible first|exact HB.out|apply below_alloc|apply pw_below_drewN|apply below_drew1|refine below_set ?_ GE240.out|refine below_set ?_ GE241.out|refine below_set ?_ GE246.out)|exact HB.out)⟩⟩
        case round =>
         clear H';(try clear c1);(try clear c2);(try clear p2);(try clear q2);(try clear hx2);(try clear c4);(try clear c5);(try clear c19);(try clear c20);(try clear c22);(try clear c23);(try clear c23b0);(try clear c23b1);(try clear p24);(try clear q24);(try clear hx24);(try clear c41);(try clear hx248_0);(try clear p2);(try clear p24);(try clear p248);(try clear q2);(try clear q24);(try clear q248);obtain ⟨x9_3,rfl,HA,HK3,HO_5,BK240,BK241,BK246,HB⟩:=hrel;cases gk with
         | zero=>exact absurd HA.out (by simp [hucksterref16_Oper.l1])
         | succ k3 =>
          have H:=HA.out;clear HA;simp only [hucksterref16_Oper.l1] at H;by_cases c42:x9_3 < x6_1
          ·rw [if_pos c42] at H;have c42b0:decide (x9_3 < x6_1)=true:=decide_eq_true c42;clear c42;by_cases c43:0 ≤ x9_3
           ·rw [if_pos c43] at H;have c43b0:decide (0 ≤ x9_3)=true:=decide_eq_true c43;clear c43;by_cases c44:x9_3 < (l1_1.length:Int)
            ·rw [if_pos c44] at H;have c44b0:decide (x9_3 < (l1_1.length:Int))=true:=decide_eq_true c44;clear c44;replace H:=Option.bind_eq_some_iff.mp H;obtain ⟨t251,A450,H⟩:=H;replace H:(if t251=t247 then (if ((rd_T66 l1_1 x9_3).f1)=((rd_T66 l1_1 x6_1).f1) then (some false) else (hucksterref16_Oper.l1 k3 y242 x6_1 t247 (wrap64 (x9_3 + 1)) a1_0 l1_1 ((rd_T66 l1_1 x6_1).f0) ((rd_T66 l1_1 x6_1).f1) ((rd_T66 l1_1 x6_1).f2))) else (hucksterref16_Oper.l1 k3 y242 x6_1 t247 (wrap64 (x9_3 + 1)) a1_0 l1_1 ((rd_T66 l1_1 x6_1).f0) ((rd_T66 l1_1 x6_1).f1) ((rd_T66 l1_1 x6_1).f2)))=some r:=H;have A45:=Aside0.mk A450;clear A450;by_cases c46:t251=t247
             ·rw [if_pos c46] at H;have c46b0:(t251 == t247)=true:=beq_iff_eq.mpr c46;have c46b1:(t251 != t247)=false:=bne_eq_false_iff_eq.mpr c46;clear c46;by_cases c47:((rd_T66 l1_1 x9_3).f1)=((rd_T66 l1_1 x6_1).f1)
              ·rw [if_pos c47] at H;have c47b0:(((rd_T66 l1_1 x9_3).f1) == ((rd_T66 l1_1 x6_1).f1))=true:=beq_iff_eq.mpr c47;have c47b1:(((rd_T66 l1_1 x9_3).f1) != ((rd_T66 l1_1 x6_1).f1))=false:=bne_eq_false_iff_eq.mpr c47;clear c47;obtain rfl:=Option.some.inj H;(try go_wp2);have n0_:=Aside0.mk (Kd.R_drew HO_5.out);have n1_:=Aside0.mk (blk_drew BK240.out);have n2_:=Aside0.mk (blk_drew BK241.out);have n3_:=Aside0.mk (blk_drew BK246.out);have n4_:=Aside0.mk (below_drew1 HB.out);clear HO_5;clear BK240;clear BK241;clear BK246;clear HB;have HO_5:=n0_;have BK240:=n1_;have BK241:=n2_;have BK246:=n3_;have HB:=n4_;clear n0_ n1_ n2_ n3_ n4_;have p250:0 ≤ (x9_3:Int):=of_decide_eq_true (by first|(with_reducible assumption)|assumption);have q250:x9_3 < (l1_1.length:Int):=of_decide_eq_true (by first|(with_reducible assumption)|assumption);obtain ⟨ad250,e250,hx250_0,hx250_1,hx250_2⟩:=at_T66 HR1_1.out x9_3 p250 q250;have hw250_2:=hx250_2;have hw250_1:=hx250_1;have hw250_0:=hx250_0;obtain rfl:ad245=ad250:=(by injection e250);replace hx250_0:=(HB.out.cell (World.block_lt_of_cell? w _ hx250_0)).trans hx250_0;replace hx250_1:=(HB.out.cell (World.block_lt_of_cell? w _ hx250_1)).trans hx250_1;replace hx250_2:=(HB.out.cell (World.block_lt_of_cell? w _ hx250_2)).trans hx250_2;replace p250:=eq_true p250;replace q250:=eq_true q250;have p252:0 ≤ (x9_3:Int):=of_decide_eq_true (by first|(with_reducible assumption)|assumption);have q252:x9_3 < (l1_1.length:Int):=of_decide_eq_true (by first|(with_reducible assumption)|assumption);obtain ⟨ad252,e252,hx252_0,hx252_1,hx252_2⟩:=at_T66 HR1_1.out x9_3 p252 q252;have hw252_2:=hx252_2;have hw252_1:=hx252_1;have hw252_0:=hx252_0;obtain rfl:ad245=ad252:=(by injection e252);replace hx252_0:=(HB.out.cell (World.block_lt_of_cell? w _ hx252_0)).trans hx252_0;replace hx252_1:=(HB.out.cell (World.block_lt_of_cell? w _ hx252_1)).trans hx252_1;replace hx252_2:=(HB.out.cell (World.block_lt_of_cell? w _ hx252_2)).trans hx252_2;replace p252:=eq_true p252;replace q252:=eq_true q252;refine start_ (n:=20) (S:=fun w'=>w'.cell? ⟨gb241,0,none⟩=some (.string a1_0)∧w'.cell? ⟨gb241,1,none⟩=some (.slice (some ad245) l1_1.length c1_1)∧w'.cell? ⟨gb246,0,none⟩=some (.int .i64 ((rd_T66 l1_1 x6_1).f0))∧w'.cell? ⟨gb246,1,none⟩=some (.int .i64 ((rd_T66 l1_1 x6_1).f1))∧w'.cell? ⟨gb246,2,none⟩=some (.int .i64 ((rd_T66 l1_1 x6_1).f2))∧w'.cell? (ad245.add ((x9_3).toNat * 3))=some (.int .i64 ((rd_T66 l1_1 x9_3).f0))∧w'.cell? ⟨(ad245.add ((x9_3).toNat * 3)).block,(ad245.add ((x9_3).toNat * 3)).off + 1,none⟩=some (.int .i64 ((rd_T66 l1_1 x9_3).f1))∧w'.cell? ⟨(ad245.add ((x9_3).toNat * 3)).block,(ad245.add ((x9_3).toNat * 3)).off + 2,none⟩=some (.int .i64 ((rd_T66 l1_1 x9_3).f2))∧w'.cell? (ad245.add ((x9_3).toNat * 3))=some (.int .i64 ((rd_T66 l1_1 x9_3).f0))∧w'.cell? ⟨(ad245.add ((x9_3).toNat * 3)).block,(ad245.add ((x9_3).toNat * 3)).off + 1,none⟩=some (.int .i64 ((rd_T66 l1_1 x9_3).f1))∧w'.cell? ⟨(ad245.add ((x9_3).toNat * 3)).block,(ad245.add ((x9_3).toNat * 3)).off + 2,none⟩=some (.int .i64 ((rd_T66 l1_1 x9_3).f2))) (ds:=[]) (ab 20 0) (by kernel_rfl) rfl rfl ⟨(blk_cell BK241.out 0).trans rfl,(blk_cell BK241.out 1).trans rfl,(blk_cell BK246.out 0).trans rfl,(blk_cell BK246.out 1).trans rfl,(blk_cell BK246.out 2).trans rfl,((HB.out.cell (World.block_lt_of_cell? w _ hw250_0)).trans hw250_0),((HB.out.cell (World.block_lt_of_cell? w _ hw250_1)).trans hw250_1),((HB.out.cell (World.block_lt_of_cell? w _ hw250_2)).trans hw250_2),((HB.out.cell (World.block_lt_of_cell? w _ hw252_0)).trans hw252_0),((HB.out.cell (World.block_lt_of_cell? w _ hw252_1)).trans hw252_1),((HB.out.cell (World.block_lt_of_cell? w _ hw252_2)).trans hw252_2)⟩ (fun hHeld=>?_);refine with_tabW hucksterref16_Oper.tab12 hucksterref16_Oper.bits12 (fun HT_ HW_=>?_);generalize wr.drew=w48 at HO_5 BK240 BK241 BK246 HB hx250_0 hx250_1 hx250_2 hx252_0 hx252_1 hx252_2 hHeld ⊢;refine pure_ (i:=0) (N:=some 71) (v:=?_) (a':=?_) (ab 20 1) rfl rfl (any_of HT_.out (by kernel_rfl)) (fun _ _ _ h=>h) (Or.inl ⟨by rfl,?_⟩) ?_ ?_;rotate_left
               ·intro w';go_simp;with_reducible rfl
               rotate_left
               ·simp only [Act.put,q1_,q2_,q3_,i64_w,i32_w];rfl
               refine pure_ (i:=2) (N:=some 73) (v:=?_) (a':=?_) (ab 20 5) rfl rfl (any_of HT_.out (by kernel_rfl)) (fun _ _ _ h=>h) (Or.inl ⟨by rfl,?_⟩) ?_ ?_;rotate_left
               ·intro w';go_simp;with_reducible rfl
               rotate_left
               ·simp only [Act.put,q1_,q2_,q3_,i64_w,i32_w];rfl
               refine pure_ (i:=7) (N:=some 78) (v:=?_) (a':=?_) (ab 20 133) rfl rfl (any_of HT_.out (by kernel_rfl)) (fun _ _ _ h=>h) (Or.inl ⟨by rfl,?_⟩) ?_ ?_;rotate_left
               ·intro w';go_simp;with_reducible rfl
               rotate_left
               ·simp only [Act.put,q1_,q2_,q3_,i64_w,i32_w];rfl
               refine take_ (i:=1) (N:=some 72) (v:=?_) (a':=?_) (ab 20 135) rfl rfl (take_ofW HT_.out HW_.out (by kernel_rfl)) (fun _ _ _ h=>h) (Or.inl ⟨by rfl,?_⟩) hHeld ?_ ?_;rotate_left
               ·rintro w' ⟨s0,s1,s2,s3,s4,s5,s6,s7,s8,s9,s10⟩;go_simp;with_reducible rfl
               rotate_left
               ·simp only [Act.put,q1_,q2_,q3_,i64_w,i32_w];rfl
               refine pure_ (i:=3) (N:=some 74) (v:=?_) (a':=?_) (ab 20 143) rfl rfl (any_of HT_.out (by kernel_rfl)) (fun _ _ _ h=>h) (Or.inl ⟨by rfl,?_⟩) ?_ ?_;rotate_left
               ·intro w';go_simp;with_reducible rfl
               rotate_left
               ·simp only [Act.put,q1_,q2_,q3_,i64_w,i32_w];rfl
               refine pure_ (i:=4) (N:=some 75) (v:=?_) (a':=?_) (ab 20 159) rfl rfl (any_of HT_.out (by kernel_rfl)) (fun _ _ _ h=>h) (Or.inl ⟨by rfl,?_⟩) ?_ ?_;rotate_left
               ·intro w';go_simp;with_reducible rfl
               rotate_left
               ·simp only [Act.put,q1_,q2_,q3_,i64_w,i32_w];rfl
               refine take_ (i:=5) (N:=some 76) (v:=?_) (a':=?_) (ab 20 191) rfl rfl (take_ofW HT_.out HW_.out (by kernel_rfl)) (fun _ _ _ h=>h) (Or.inl ⟨by rfl,?_⟩) hHeld ?_ ?_;rotate_left
               ·rintro w' ⟨s0,s1,s2,s3,s4,s5,s6,s7,s8,s9,s10⟩;go_simp;with_reducible rfl
               rotate_left
               ·simp only [Act.put,q1_,q2_,q3_,i64_w,i32_w];rfl
               refine one_ (i:=6) (N:=some 77) (ab 20 255) rfl rfl (one_of HT_.out (by kernel_rfl)) (by decide) (fun K hK=>?_);refine goes_ Tryd.func51 (by kernel_rfl) rfl #[.int .i64 ((rd_T66 l1_1 x9_3).f0)] (by rfl) rfl rfl (by (try simp only [List.map_toArray,List.map_cons,List.map_nil]);first|done|rfl|(simp only [List.length_drop,List.length_take];rfl)) ?_;(with_reducible refine (hucksterref16_Sort.calls k3 ((rd_T66 l1_1 x9_3).f0) t251 _ A45.out).mono ?_);rintro e w' ⟨rfl,⟨nd,rfl⟩⟩;refine ⟨_,rfl,?_⟩;refine hK.out _ _ ⟨(blk_cell BK241.out 0).trans rfl,(blk_cell BK241.out 1).trans rfl,(blk_cell BK246.out 0).trans rfl,(blk_cell BK246.out 1).trans rfl,(blk_cell BK246.out 2).trans rfl,((HB.out.cell (World.block_lt_of_cell? w _ hw250_0)).trans hw250_0),((HB.out.cell (World.block_lt_of_cell? w _ hw250_1)).trans hw250_1),((HB.out.cell (World.block_lt_of_cell? w _ hw250_2)).trans hw250_2),((HB.out.cell (World.block_lt_of_cell? w _ hw252_0)).trans hw252_0),((HB.out.cell (World.block_lt_of_cell? w _ hw252_1)).trans hw252_1),((HB.out.cell (World.block_lt_of_cell? w _ hw252_2)).trans hw252_2)⟩ (fun hHeld=>?_);clear hK K;refine norm_ (a':=?_) ?_ ?_;rotate_left
               ·show Act.put _ (some 77) _=_;simp only [Act.put,q1_,q2_,q3_,i64_w,i32_w];rfl
               refine pure_ (i:=8) (N:=some 79) (v:=?_) (a':=?_) (ab 20 511) rfl rfl (any_of HT_.out (by kernel_rfl)) (fun _ _ _ h=>h) (Or.inl ⟨by rfl,?_⟩) ?_ ?_;rotate_left
               ·intro w';go_simp;with_reducible rfl
               rotate_left
               ·simp only [Act.put,q1_,q2_,q3_,i64_w,i32_w];rfl
               refine pure_ (i:=9) (N:=some 80) (v:=?_) (a':=?_) (ab 20 1023) rfl rfl (any_of HT_.out (by kernel_rfl)) (fun _ _ _ h=>h) (Or.inl ⟨by rfl,?_⟩) ?_ ?_;rotate_left
               ·intro w';go_simp;with_reducible rfl
               rotate_left
               ·simp only [Act.put,q1_,q2_,q3_,i64_w,i32_w];rfl
               refine pure_ (i:=10) (N:=some 81) (v:=?_) (a':=?_) (ab 20 2047) rfl rfl (any_of HT_.out (by kernel_rfl)) (fun _ _ _ h=>h) (Or.inl ⟨by rfl,?_⟩) ?_ ?_;rotate_left
               ·intro w';go_simp;with_reducible rfl
               rotate_left
               ·simp only [Act.put,q1_,q2_,q3_,i64_w,i32_w];rfl
               refine pure_ (i:=12) (N:=some 83) (v:=?_) (a':=?_) (ab 20 6143) rfl rfl (any_of HT_.out (by kernel_rfl)) (fun _ _ _ h=>h) (Or.inl ⟨by rfl,?_⟩) ?_ ?_;rotate_left
               ·intro w';go_simp;with_reducible rfl
               rotate_left
               ·simp only [Act.put,q1_,q2_,q3_,i64_w,i32_w];rfl
               refine pure_ (i:=16) (N:=some 87) (v:=?_) (a':=?_) (ab 20 71679) rfl rfl (any_of HT_.out (by kernel_rfl)) (fun _ _ _ h=>h) (Or.inl ⟨by rfl,?_⟩) ?_ ?_;rotate_left
               ·intro w';go_simp;with_reducible rfl
               rotate_left
               ·simp only [Act.put,q1_,q2_,q3_,i64_w,i32_w];rfl
               refine take_ (i:=11) (N:=some 82) (v:=?_) (a':=?_) (ab 20 73727) rfl rfl (take_ofW HT_.out HW_.out (by kernel_rfl)) (fun _ _ _ h=>h) (Or.inl ⟨by rfl,?_⟩) hHeld ?_ ?_;rotate_left
               ·rintro w' ⟨s0,s1,s2,s3,s4,s5,s6,s7,s8,s9,s10⟩;go_simp;with_reducible rfl
               rotate_left
               ·simp only [Act.put,q1_,q2_,q3_,i64_w,i32_w];rfl
               refine pure_ (i:=13) (N:=some 84) (v:=?_) (a':=?_) (ab 20 81919) rfl rfl (any_of HT_.out (by kernel_rfl)) (fun _ _ _ h=>h) (Or.inl ⟨by rfl,?_⟩) ?_ ?_;rotate_left
               ·intro w';go_simp;with_reducible rfl
               rotate_left
               ·simp only [Act.put,q1_,q2_,q3_,i64_w,i32_w];rfl
               refine pure_ (i:=14) (N:=some 85) (v:=?_) (a':=?_) (ab 20 98303) rfl rfl (any_of HT_.out (by kernel_rfl)) (fun _ _ _ h=>h) (Or.inl ⟨by rfl,?_⟩) ?_ ?_;rotate_left
               ·intro w';go_simp;with_reducible rfl
               rotate_left
               ·simp only [Act.put,q1_,q2_,q3_,i64_w,i32_w];rfl
               refine take_ (i:=15) (N:=some 86) (v:=?_) (a':=?_) (ab 20 131071) rfl rfl (take_ofW HT_.out HW_.out (by kernel_rfl)) (fun _ _ _ h=>h) (Or.inl ⟨by rfl,?_⟩) hHeld ?_ ?_;rotate_left
               ·rintro w' ⟨s0,s1,s2,s3,s4,s5,s6,s7,s8,s9,s10⟩;go_simp;with_reducible rfl
               rotate_left
               ·simp only [Act.put,q1_,q2_,q3_,i64_w,i32_w];rfl
               refine take_ (i:=17) (N:=some 88) (v:=?_) (a':=?_) (ab 20 262143) rfl rfl (take_ofW HT_.out HW_.out (by kernel_rfl)) (fun _ _ _ h=>h) (Or.inl ⟨by rfl,?_⟩) hHeld ?_ ?_;rotate_left
               ·rintro w' ⟨s0,s1,s2,s3,s4,s5,s6,s7,s8,s9,s10⟩;go_simp;with_reducible rfl
               rotate_left
               ·simp only [Act.put,q1_,q2_,q3_,i64_w,i32_w];rfl
               refine pure_ (i:=18) (N:=some 89) (v:=?_) (a':=?_) (ab 20 524287) rfl rfl (any_of HT_.out (by kernel_rfl)) (fun _ _ _ h=>h) (Or.inl ⟨by rfl,?_⟩) ?_ ?_;rotate_left
               ·intro w';go_simp;with_reducible rfl
               rotate_left
               ·simp only [Act.put,q1_,q2_,q3_,i64_w,i32_w];rfl
               refine pure_ (i:=19) (N:=some 90) (v:=?_) (a':=?_) (ab 20 1048575) rfl rfl (any_of HT_.out (by kernel_rfl)) (fun _ _ _ h=>h) (Or.inl ⟨by rfl,?_⟩) ?_ ?_;rotate_left
               ·intro w';go_simp;with_reducible rfl
               rotate_left
               ·simp only [Act.put,q1_,q2_,q3_,i64_w,i32_w];rfl
               refine done_ (done_of HT_.out (by kernel_rfl)) ?_;(try go_wp2);go_ret;exact ⟨by first|rfl|(simp [errW_none,errW_some] <;> rfl)|(simp [*,errW_none,errW_some] <;> rfl),by repeat (first|(with_reducible first|exact HB.out|apply below_alloc|apply pw_below_drewN|apply below_drew1|refine below_set ?_ GE240.out|refine below_set ?_ GE241.out|refine below_set ?_ GE246.out)|exact HB.out)⟩
              ·rw [if_neg c47] at H;have c47b0:(((rd_T66 l1_1 x9_3).f1) == ((rd_T66 l1_1 x6_1).f1))=false:=beq_eq_false_iff_ne.mpr c47;have c47b1:(((rd_T66 l1_1 x9_3).f1) != ((rd_T66 l1_1 x6_1).f1))=true:=bne_iff_ne.mpr c47;have H':=Aside0.mk H;clear H;(try go_wp2);have n0_:=Aside0.mk (Kd.R_drew HO_5.out);have n1_:=Aside0.mk (blk_drew BK240.out);have n2_:=Aside0.mk (blk_drew BK241.out);have n3_:=Aside0.mk (blk_drew BK246.out);have n4_:=Aside0.mk (below_drew1 HB.out);clear HO_5;clear BK240;clear BK241;clear BK246;clear HB;have HO_5:=n0_;have BK240:=n1_;have BK241:=n2_;have BK246:=n3_;have HB:=n4_;clear n0_ n1_ n2_ n3_ n4_;have p250:0 ≤ (x9_3:Int):=of_decide_eq_true (by first|(with_reducible assumption)|assumption);have q250:x9_3 < (l1_1.length:Int):=of_decide_eq_true (by first|(with_reducible assumption)|assumption);obtain ⟨ad250,e250,hx250_0,hx250_1,hx250_2⟩:=at_T66 HR1_1.out x9_3 p250 q250;have hw250_2:=hx250_2;have hw250_1:=hx250_1;have hw250_0:=hx250_0;obtain rfl:ad245=ad250:=(by injection e250);replace hx250_0:=(HB.out.cell (World.block_lt_of_cell? w _ hx250_0)).trans hx250_0;replace hx250_1:=(HB.out.cell (World.block_lt_of_cell? w _ hx250_1)).trans hx250_1;replace hx250_2:=(HB.out.cell (World.block_lt_of_cell? w _ hx250_2)).trans hx250_2;replace p250:=eq_true p250;replace q250:=eq_true q250;have p252:0 ≤ (x9_3:Int):=of_decide_eq_true (by first|(with_reducible assumption)|assumption);have q252:x9_3 < (l1_1.length:Int):=of_decide_eq_true (by first|(with_reducible assumption)|assumption);obtain ⟨ad252,e252,hx252_0,hx252_1,hx252_2⟩:=at_T66 HR1_1.out x9_3 p252 q252;have hw252_2:=hx252_2;have hw252_1:=hx252_1;have hw252_0:=hx252_0;obtain rfl:ad245=ad252:=(by injection e252);replace hx252_0:=(HB.out.cell (World.block_lt_of_cell? w _ hx252_0)).trans hx252_0;replace hx252_1:=(HB.out.cell (World.block_lt_of_cell? w _ hx252_1)).trans hx252_1;replace hx252_2:=(HB.out.cell (World.block_lt_of_cell? w _ hx252_2)).trans hx252_2;replace p252:=eq_true p252;replace q252:=eq_true q252;refine start_ (n:=20) (S:=fun w'=>w'.cell? ⟨gb241,0,none⟩=some (.string a1_0)∧w'.cell? ⟨gb241,1,none⟩=some (.slice (some ad245) l1_1.length c1_1)∧w'.cell? ⟨gb246,0,none⟩=some (.int .i64 ((rd_T66 l1_1 x6_1).f0))∧w'.cell? ⟨gb246,1,none⟩=some (.int .i64 ((rd_T66 l1_1 x6_1).f1))∧w'.cell? ⟨gb246,2,none⟩=some (.int .i64 ((rd_T66 l1_1 x6_1).f2))∧w'.cell? (ad245.add ((x9_3).toNat * 3))=some (.int .i64 ((rd_T66 l1_1 x9_3).f0))∧w'.cell? ⟨(ad245.add ((x9_3).toNat * 3)).block,(ad245.add ((x9_3).toNat * 3)).off + 1,none⟩=some (.int .i64 ((rd_T66 l1_1 x9_3).f1))∧w'.cell? ⟨(ad245.add ((x9_3).toNat * 3)).block,(ad245.add ((x9_3).toNat * 3)).off + 2,none⟩=some (.int .i64 ((rd_T66 l1_1 x9_3).f2))∧w'.cell? (ad245.add ((x9_3).toNat * 3))=some (.int .i64 ((rd_T66 l1_1 x9_3).f0))∧w'.cell? ⟨(ad245.add ((x9_3).toNat * 3)).block,(ad245.add ((x9_3).toNat * 3)).off + 1,none⟩=some (.int .i64 ((rd_T66 l1_1 x9_3).f1))∧w'.cell? ⟨(ad245.add ((x9_3).toNat * 3)).block,(ad245.add ((x9_3).toNat * 3)).off + 2,none⟩=some (.int .i64 ((rd_T66 l1_1 x9_3).f2))) (ds:=[]) (ab 20 0) (by kernel_rfl) rfl rfl ⟨(blk_cell BK241.out 0).trans rfl,(blk_cell BK241.out 1).trans rfl,(blk_cell BK246.out 0).trans rfl,(blk_cell BK246.out 1).trans rfl,(blk_cell BK246.out 2).trans rfl,((HB.out.cell (World.block_lt_of_cell? w _ hw250_0)).trans hw250_0),((HB.out.cell (World.block_lt_of_cell? w _ hw250_1)).trans hw250_1),((HB.out.cell (World.block_lt_of_cell? w _ hw250_2)).trans hw250_2),((HB.out.cell (World.block_lt_of_cell? w _ hw252_0)).trans hw252_0),((HB.out.cell (World.block_lt_of_cell? w _ hw252_1)).trans hw252_1),((HB.out.cell (World.block_lt_of_cell? w _ hw252_2)).trans hw252_2)⟩ (fun hHeld=>?_);refine with_tabW hucksterref16_Oper.tab12 hucksterref16_Oper.bits12 (fun HT_ HW_=>?_);generalize wr.drew=w49 at HO_5 BK240 BK241 BK246 HB hx250_0 hx250_1 hx250_2 hx252_0 hx252_1 hx252_2 hHeld ⊢;refine pure_ (i:=0) (N:=some 71) (v:=?_) (a':=?_) (ab 20 1) rfl rfl (any_of HT_.out (by kernel_rfl)) (fun _ _ _ h=>h) (Or.inl ⟨by rfl,?_⟩) ?_ ?_;rotate_left
               ·intro w';go_simp;with_reducible rfl
               rotate_left
               ·simp only [Act.put,q1_,q2_,q3_,i64_w,i32_w];rfl
               refine pure_ (i:=2) (N:=some 73) (v:=?_) (a':=?_) (ab 20 5) rfl rfl (any_of HT_.out (by kernel_rfl)) (fun _ _ _ h=>h) (Or.inl ⟨by rfl,?_⟩) ?_ ?_;rotate_left
               ·intro w';go_simp;with_reducible rfl
               rotate_left
               ·simp only [Act.put,q1_,q2_,q3_,i64_w,i32_w];rfl
               refine pure_ (i:=7) (N:=some 78) (v:=?_) (a':=?_) (ab 20 133) rfl rfl (any_of HT_.out (by kernel_rfl)) (fun _ _ _ h=>h) (Or.inl ⟨by rfl,?_⟩) ?_ ?_;rotate_left
               ·intro w';go_simp;with_reducible rfl
               rotate_left
               ·simp only [Act.put,q1_,q2_,q3_,i64_w,i32_w];rfl
               refine take_ (i:=1) (N:=some 72) (v:=?_) (a':=?_) (ab 20 135) rfl rfl (take_ofW HT_.out HW_.out (by kernel_rfl)) (fun _ _ _ h=>h) (Or.inl ⟨by rfl,?_⟩) hHeld ?_ ?_;rotate_left
               ·rintro w' ⟨s0,s1,s2,s3,s4,s5,s6,s7,s8,s9,s10⟩;go_simp;with_reducible rfl
               rotate_left
               ·simp only [Act.put,q1_,q2_,q3_,i64_w,i32_w];rfl
               refine pure_ (i:=3) (N:=some 74) (v:=?_) (a':=?_) (ab 20 143) rfl rfl (any_of HT_.out (by kernel_rfl)) (fun _ _ _ h=>h) (Or.inl ⟨by rfl,?_⟩) ?_ ?_;rotate_left
               ·intro w';go_simp;with_reducible rfl
               rotate_left
               ·simp only [Act.put,q1_,q2_,q3_,i64_w,i32_w];rfl
               refine pure_ (i:=4) (N:=some 75) (v:=?_) (a':=?_) (ab 20 159) rfl rfl (any_of HT_.out (by kernel_rfl)) (fun _ _ _ h=>h) (Or.inl ⟨by rfl,?_⟩) ?_ ?_;rotate_left
               ·intro w';go_simp;with_reducible rfl
               rotate_left
               ·simp only [Act.put,q1_,q2_,q3_,i64_w,i32_w];rfl
               refine take_ (i:=5) (N:=some 76) (v:=?_) (a':=?_) (ab 20 191) rfl rfl (take_ofW HT_.out HW_.out (by kernel_rfl)) (fun _ _ _ h=>h) (Or.inl ⟨by rfl,?_⟩) hHeld ?_ ?_;rotate_left
               ·rintro w' ⟨s0,s1,s2,s3,s4,s5,s6,s7,s8,s9,s10⟩;go_simp;with_reducible rfl
               rotate_left
               ·simp only [Act.put,q1_,q2_,q3_,i64_w,i32_w];rfl
               refine one_ (i:=6) (N:=some 77) (ab 20 255) rfl rfl (one_of HT_.out (by kernel_rfl)) (by decide) (fun K hK=>?_);refine goes_ Tryd.func51 (by kernel_rfl) rfl #[.int .i64 ((rd_T66 l1_1 x9_3).f0)] (by rfl) rfl rfl (by (try simp only [List.map_toArray,List.map_cons,List.map_nil]);first|done|rfl|(simp only [List.length_drop,List.length_take];rfl)) ?_;(with_reducible refine (hucksterref16_Sort.calls k3 ((rd_T66 l1_1 x9_3).f0) t251 _ A45.out).mono ?_);rintro e w' ⟨rfl,⟨nd,rfl⟩⟩;refine ⟨_,rfl,?_⟩;refine hK.out _ _ ⟨(blk_cell BK241.out 0).trans rfl,(blk_cell BK241.out 1).trans rfl,(blk_cell BK246.out 0).trans rfl,(blk_cell BK246.out 1).trans rfl,(blk_cell BK246.out 2).trans rfl,((HB.out.cell (World.block_lt_of_cell? w _ hw250_0)).trans hw250_0),((HB.out.cell (World.block_lt_of_cell? w _ hw250_1)).trans hw250_1),((HB.out.cell (World.block_lt_of_cell? w _ hw250_2)).trans hw250_2),((HB.out.cell (World.block_lt_of_cell? w _ hw252_0)).trans hw252_0),((HB.out.cell (World.block_lt_of_cell? w _ hw252_1)).trans hw252_1),((HB.out.cell (World.block_lt_of_cell? w _ hw252_2)).trans hw252_2)⟩ (fun hHeld=>?_);clear hK K;refine norm_ (a':=?_) ?_ ?_;rotate_left
               ·show Act.put _ (some 77) _=_;simp only [Act.put,q1_,q2_,q3_,i64_w,i32_w];rfl
               refine pure_ (i:=8) (N:=some 79) (v:=?_) (a':=?_) (ab 20 511) rfl rfl (any_of HT_.out (by kernel_rfl)) (fun _ _ _ h=>h) (Or.inl ⟨by rfl,?_⟩) ?_ ?_;rotate_left
               ·intro w';go_simp;with_reducible rfl
               rotate_left
               ·simp only [Act.put,q1_,q2_,q3_,i64_w,i32_w];rfl
               refine pure_ (i:=9) (N:=some 80) (v:=?_) (a':=?_) (ab 20 1023) rfl rfl (any_of HT_.out (by kernel_rfl)) (fun _ _ _ h=>h) (Or.inl ⟨by rfl,?_⟩) ?_ ?_;rotate_left
               ·intro w';go_simp;with_reducible rfl
               rotate_left
               ·simp only [Act.put,q1_,q2_,q3_,i64_w,i32_w];rfl
               refine pure_ (i:=10) (N:=some 81) (v:=?_) (a':=?_) (ab 20 2047) rfl rfl (any_of HT_.out (by kernel_rfl)) (fun _ _ _ h=>h) (Or.inl ⟨by rfl,?_⟩) ?_ ?_;rotate_left
               ·intro w';go_simp;with_reducible rfl
               rotate_left
               ·simp only [Act.put,q1_,q2_,q3_,i64_w,i32_w];rfl
               refine pure_ (i:=12) (N:=some 83) (v:=?_) (a':=?_) (ab 20 6143) rfl rfl (any_of HT_.out (by kernel_rfl)) (fun _ _ _ h=>h) (Or.inl ⟨by rfl,?_⟩) ?_ ?_;rotate_left
               ·intro w';go_simp;with_reducible rfl
               rotate_left
               ·simp only [Act.put,q1_,q2_,q3_,i64_w,i32_w];rfl
               refine pure_ (i:=16) (N:=some 87) (v:=?_) (a':=?_) (ab 20 71679) rfl rfl (any_of HT_.out (by kernel_rfl)) (fun _ _ _ h=>h) (Or.inl ⟨by rfl,?_⟩) ?_ ?_;rotate_left
               ·intro w';go_simp;with_reducible rfl
               rotate_left
               ·simp only [Act.put,q1_,q2_,q3_,i64_w,i32_w];rfl
               refine take_ (i:=11) (N:=some 82) (v:=?_) (a':=?_) (ab 20 73727) rfl rfl (take_ofW HT_.out HW_.out (by kernel_rfl)) (fun _ _ _ h=>h) (Or.inl ⟨by rfl,?_⟩) hHeld ?_ ?_;rotate_left
               ·rintro w' ⟨s0,s1,s2,s3,s4,s5,s6,s7,s8,s9,s10⟩;go_simp;with_reducible rfl
               rotate_left
               ·simp only [Act.put,q1_,q2_,q3_,i64_w,i32_w];rfl
               refine pure_ (i:=13) (N:=some 84) (v:=?_) (a':=?_) (ab 20 81919) rfl rfl (any_of HT_.out (by kernel_rfl)) (fun _ _ _ h=>h) (Or.inl ⟨by rfl,?_⟩) ?_ ?_;rotate_left
               ·intro w';go_simp;with_reducible rfl
               rotate_left
               ·simp only [Act.put,q1_,q2_,q3_,i64_w,i32_w];rfl
               refine pure_ (i:=14) (N:=some 85) (v:=?_) (a':=?_) (ab 20 98303) rfl rfl (any_of HT_.out (by kernel_rfl)) (fun _ _ _ h=>h) (Or.inl ⟨by rfl,?_⟩) ?_ ?_;rotate_left
               ·intro w';go_simp;with_reducible rfl
               rotate_left
               ·simp only [Act.put,q1_,q2_,q3_,i64_w,i32_w];rfl
               refine take_ (i:=15) (N:=some 86) (v:=?_) (a':=?_) (ab 20 131071) rfl rfl (take_ofW HT_.out HW_.out (by kernel_rfl)) (fun _ _ _ h=>h) (Or.inl ⟨by rfl,?_⟩) hHeld ?_ ?_;rotate_left
               ·rintro w' ⟨s0,s1,s2,s3,s4,s5,s6,s7,s8,s9,s10⟩;go_simp;with_reducible rfl
               rotate_left
               ·simp only [Act.put,q1_,q2_,q3_,i64_w,i32_w];rfl
               refine take_ (i:=17) (N:=some 88) (v:=?_) (a':=?_) (ab 20 262143) rfl rfl (take_ofW HT_.out HW_.out (by kernel_rfl)) (fun _ _ _ h=>h) (Or.inl ⟨by rfl,?_⟩) hHeld ?_ ?_;rotate_left
               ·rintro w' ⟨s0,s1,s2,s3,s4,s5,s6,s7,s8,s9,s10⟩;go_simp;with_reducible rfl
               rotate_left
               ·simp only [Act.put,q1_,q2_,q3_,i64_w,i32_w];rfl
               refine pure_ (i:=18) (N:=some 89) (v:=?_) (a':=?_) (ab 20 524287) rfl rfl (any_of HT_.out (by kernel_rfl)) (fun _ _ _ h=>h) (Or.inl ⟨by rfl,?_⟩) ?_ ?_;rotate_left
               ·intro w';go_simp;with_reducible rfl
               rotate_left
               ·simp only [Act.put,q1_,q2_,q3_,i64_w,i32_w];rfl
               refine pure_ (i:=19) (N:=some 90) (v:=?_) (a':=?_) (ab 20 1048575) rfl rfl (any_of HT_.out (by kernel_rfl)) (fun _ _ _ h=>h) (Or.inl ⟨by rfl,?_⟩) ?_ ?_;rotate_left
               ·intro w';go_simp;with_reducible rfl
               rotate_left
               ·simp only [Act.put,q1_,q2_,q3_,i64_w,i32_w];rfl
               refine done_ (done_of HT_.out (by kernel_rfl)) ?_;(try go_wp2);go_roundg k3
               case measure=>have:=HK1.out;have:=HJ11.out;have:=HK3.out;omega
               case rel=>exact ⟨(wrap64 (x9_3 + 1)),(by first|rfl|(simp;done)|(simp [*];done)),H',⟨by have:=HK1.out;have:=HJ11.out;have:=HK3.out;omega⟩,⟨by (with_reducible repeat (first|apply Kd.R_alloc|apply Kd.R_drewN|apply Kd.R_drew));exact HO_5.out⟩,⟨by (with_reducible repeat (first|refine blk_drewN ?_ _|refine blk_drew ?_|refine blk_alloc ?_ _));exact BK240.out⟩,⟨by (with_reducible repeat (first|refine blk_drewN ?_ _|refine blk_drew ?_|refine blk_alloc ?_ _));exact BK241.out⟩,⟨by (with_reducible repeat (first|refine blk_drewN ?_ _|refine blk_drew ?_|refine blk_alloc ?_ _));exact BK246.out⟩,⟨by repeat (first|(with_reducible first|exact HB.out|apply below_alloc|apply pw_below_drewN|apply below_drew1|refine below_set ?_ GE240.out|refine below_set ?_ GE241.out|refine below_set ?_ GE246.out)|exact HB.out)⟩⟩
             ·rw [if_neg c46] at H;have c46b0:(t251 == t247)=false:=beq_eq_false_iff_ne.mpr c46;have c46b1:(t251 != t247)=true:=bne_iff_ne.mpr c46;have H':=Aside0.mk H;clear H;(try go_wp2);have n0_:=Aside0.mk (Kd.R_drew HO_5.out);have n1_:=Aside0.mk (blk_drew BK240.out);have n2_:=Aside0.mk (blk_drew BK241.out);have n3_:=Aside0.mk (blk_drew BK246.out);have n4_:=Aside0.mk (below_drew1 HB.out);clear HO_5;clear BK240;clear BK241;clear BK246;clear HB;have HO_5:=n0_;have BK240:=n1_;have BK241:=n2_;have BK246:=n3_;have HB:=n4_;clear n0_ n1_ n2_ n3_ n4_;have p250:0 ≤ (x9_3:Int):=of_decide_eq_true (by first|(with_reducible assumption)|assumption);have q250:x9_3 < (l1_1.length:Int):=of_decide_eq_true (by first|(with_reducible assumption)|assumption);obtain ⟨ad250,e250,hx250_0,hx250_1,hx250_2⟩:=at_T66 HR1_1.out x9_3 p250 q250;have hw250_2:=hx250_2;have hw250_1:=hx250_1;have hw250_0:=hx250_0;obtain rfl:ad245=ad250:=(by injection e250);replace hx250_0:=(HB.out.cell (World.block_lt_of_cell? w _ hx250_0)).trans hx250_0;replace hx250_1:=(HB.out.cell (World.block_lt_of_cell? w _ hx250_1)).trans hx250_1;replace hx250_2:=(HB.out.cell (World.block_lt_of_cell? w _ hx250_2)).trans hx250_2;replace p250:=eq_true p250;replace q250:=eq_true q250;refine start_ (n:=20) (S:=fun w'=>w'.cell? ⟨gb241,0,none⟩=some (.string a1_0)∧w'.cell? ⟨gb241,1,none⟩=some (.slice (some ad245) l1_1.length c1_1)∧w'.cell? (ad245.add ((x9_3).toNat * 3))=some (.int .i64 ((rd_T66 l1_1 x9_3).f0))∧w'.cell? ⟨(ad245.add ((x9_3).toNat * 3)).block,(ad245.add ((x9_3).toNat * 3)).off + 1,none⟩=some (.int .i64 ((rd_T66 l1_1 x9_3).f1))∧w'.cell? ⟨(ad245.add ((x9_3).toNat * 3)).block,(ad245.add ((x9_3).toNat * 3)).off + 2,none⟩=some (.int .i64 ((rd_T66 l1_1 x9_3).f2))) (ds:=[]) (ab 20 0) (by kernel_rfl) rfl rfl ⟨(blk_cell BK241.out 0).trans rfl,(blk_cell BK241.out 1).trans rfl,((HB.out.cell (World.block_lt_of_cell? w _ hw250_0)).trans hw250_0),((HB.out.cell (World.block_lt_of_cell? w _ hw250_1)).trans hw250_1),((HB.out.cell (World.block_lt_of_cell? w _ hw250_2)).trans hw250_2)⟩ (fun hHeld=>?_);refine with_tabW hucksterref16_Oper.tab12 hucksterref16_Oper.bits12 (fun HT_ HW_=>?_);generalize wr.drew=w50 at HO_5 BK240 BK241 BK246 HB hx250_0 hx250_1 hx250_2 hHeld ⊢;refine pure_ (i:=0) (N:=some 71) (v:=?_) (a':=?_) (ab 20 1) rfl rfl (any_of HT_.out (by kernel_rfl)) (fun _ _ _ h=>h) (Or.inl ⟨by rfl,?_⟩) ?_ ?_;rotate_left
              ·intro w';go_simp;with_reducible rfl
              rotate_left
              ·simp only [Act.put,q1_,q2_,q3_,i64_w,i32_w];rfl
              refine pure_ (i:=2) (N:=some 73) (v:=?_) (a':=?_) (ab 20 5) rfl rfl (any_of HT_.out (by kernel_rfl)) (fun _ _ _ h=>h) (Or.inl ⟨by rfl,?_⟩) ?_ ?_;rotate_left
              ·intro w';go_simp;with_reducible rfl
              rotate_left
              ·simp only [Act.put,q1_,q2_,q3_,i64_w,i32_w];rfl
              refine pure_ (i:=7) (N:=some 78) (v:=?_) (a':=?_) (ab 20 133) rfl rfl (any_of HT_.out (by kernel_rfl)) (fun _ _ _ h=>h) (Or.inl ⟨by rfl,?_⟩) ?_ ?_;rotate_left
              ·intro w';go_simp;with_reducible rfl
              rotate_left
              ·simp only [Act.put,q1_,q2_,q3_,i64_w,i32_w];rfl
              refine take_ (i:=1) (N:=some 72) (v:=?_) (a':=?_) (ab 20 135) rfl rfl (take_ofW HT_.out HW_.out (by kernel_rfl)) (fun _ _ _ h=>h) (Or.inl ⟨by rfl,?_⟩) hHeld ?_ ?_;rotate_left
              ·rintro w' ⟨s0,s1,s2,s3,s4⟩;go_simp;with_reducible rfl
              rotate_left
              ·simp only [Act.put,q1_,q2_,q3_,i64_w,i32_w];rfl
              refine pure_ (i:=3) (N:=some 74) (v:=?_) (a':=?_) (ab 20 143) rfl rfl (any_of HT_.out (by kernel_rfl)) (fun _ _ _ h=>h) (Or.inl ⟨by rfl,?_⟩) ?_ ?_;rotate_left
              ·intro w';go_simp;with_reducible rfl
              rotate_left
              ·simp only [Act.put,q1_,q2_,q3_,i64_w,i32_w];rfl
              refine pure_ (i:=4) (N:=some 75) (v:=?_) (a':=?_) (ab 20 159) rfl rfl (any_of HT_.out (by kernel_rfl)) (fun _ _ _ h=>h) (Or.inl ⟨by rfl,?_⟩) ?_ ?_;rotate_left
              ·intro w';go_simp;with_reducible rfl
              rotate_left
              ·simp only [Act.put,q1_,q2_,q3_,i64_w,i32_w];rfl
              refine take_ (i:=5) (N:=some 76) (v:=?_) (a':=?_) (ab 20 191) rfl rfl (take_ofW HT_.out HW_.out (by kernel_rfl)) (fun _ _ _ h=>h) (Or.inl ⟨by rfl,?_⟩) hHeld ?_ ?_;rotate_left
              ·rintro w' ⟨s0,s1,s2,s3,s4⟩;go_simp;with_reducible rfl
              rotate_left
              ·simp only [Act.put,q1_,q2_,q3_,i64_w,i32_w];rfl
              refine one_ (i:=6) (N:=some 77) (ab 20 255) rfl rfl (one_of HT_.out (by kernel_rfl)) (by decide) (fun K hK=>?_);refine goes_ Tryd.func51 (by kernel_rfl) rfl #[.int .i64 ((rd_T66 l1_1 x9_3).f0)] (by rfl) rfl rfl (by (try simp only [List.map_toArray,List.map_cons,List.map_nil]);first|done|rfl|(simp only [List.length_drop,List.length_take];rfl)) ?_;(with_reducible refine (hucksterref16_Sort.calls k3 ((rd_T66 l1_1 x9_3).f0) t251 _ A45.out).mono ?_);rintro e w' ⟨rfl,⟨nd,rfl⟩⟩;refine ⟨_,rfl,?_⟩;refine hK.out _ _ ⟨(blk_cell BK241.out 0).trans rfl,(blk_cell BK241.out 1).trans rfl,((HB.out.cell (World.block_lt_of_cell? w _ hw250_0)).trans hw250_0),((HB.out.cell (World.block_lt_of_cell? w _ hw250_1)).trans hw250_1),((HB.out.cell (World.block_lt_of_cell? w _ hw250_2)).trans hw250_2)⟩ (fun hHeld=>?_);clear hK K;refine norm_ (a':=?_) ?_ ?_;rotate_left
              ·show Act.put _ (some 77) _=_;simp only [Act.put,q1_,q2_,q3_,i64_w,i32_w];rfl
              refine pure_ (i:=8) (N:=some 79) (v:=?_) (a':=?_) (ab 20 511) rfl rfl (any_of HT_.out (by kernel_rfl)) (fun _ _ _ h=>h) (Or.inl ⟨by rfl,?_⟩) ?_ ?_;rotate_left
              ·intro w';go_simp;with_reducible rfl
              rotate_left
              ·simp only [Act.put,q1_,q2_,q3_,i64_w,i32_w];rfl
              refine pure_ (i:=9) (N:=some 80) (v:=?_) (a':=?_) (ab 20 1023) rfl rfl (any_of HT_.out (by kernel_rfl)) (fun _ _ _ h=>h) (Or.inl ⟨by rfl,?_⟩) ?_ ?_;rotate_left
              ·intro w';go_simp;with_reducible rfl
              rotate_left
              ·simp only [Act.put,q1_,q2_,q3_,i64_w,i32_w];rfl
              refine pure_ (i:=10) (N:=some 81) (v:=undef) (a':=?_) (ab 20 2047) rfl rfl (any_of HT_.out (by kernel_rfl)) (fun _ _ _ h=>h) (Or.inr ⟨by rfl,rfl⟩) ?_ ?_;rotate_left
              ·simp only [Act.put,q1_,q2_,q3_,i64_w,i32_w];rfl
              refine pure_ (i:=11) (N:=some 82) (v:=undef) (a':=?_) (ab 20 4095) rfl rfl (any_of HT_.out (by kernel_rfl)) (fun _ _ _ h=>h) (Or.inr ⟨by rfl,rfl⟩) ?_ ?_;rotate_left
              ·simp only [Act.put,q1_,q2_,q3_,i64_w,i32_w];rfl
              refine pure_ (i:=12) (N:=some 83) (v:=undef) (a':=?_) (ab 20 8191) rfl rfl (any_of HT_.out (by kernel_rfl)) (fun _ _ _ h=>h) (Or.inr ⟨by rfl,rfl⟩) ?_ ?_;rotate_left
              ·simp only [Act.put,q1_,q2_,q3_,i64_w,i32_w];rfl
              refine pure_ (i:=13) (N:=some 84) (v:=undef) (a':=?_) (ab 20 16383) rfl rfl (any_of HT_.out (by kernel_rfl)) (fun _ _ _ h=>h) (Or.inr ⟨by rfl,rfl⟩) ?_ ?_;rotate_left
              ·simp only [Act.put,q1_,q2_,q3_,i64_w,i32_w];rfl
              refine pure_ (i:=14) (N:=some 85) (v:=undef) (a':=?_) (ab 20 32767) rfl rfl (any_of HT_.out (by kernel_rfl)) (fun _ _ _ h=>h) (Or.inr ⟨by rfl,rfl⟩) ?_ ?_;rotate_left
              ·simp only [Act.put,q1_,q2_,q3_,i64_w,i32_w];rfl
              refine pure_ (i:=15) (N:=some 86) (v:=undef) (a':=?_) (ab 20 65535) rfl rfl (any_of HT_.out (by kernel_rfl)) (fun _ _ _ h=>h) (Or.inr ⟨by rfl,rfl⟩) ?_ ?_;rotate_left
              ·simp only [Act.put,q1_,q2_,q3_,i64_w,i32_w];rfl
              refine pure_ (i:=16) (N:=some 87) (v:=undef) (a':=?_) (ab 20 131071) rfl rfl (any_of HT_.out (by kernel_rfl)) (fun _ _ _ h=>h) (Or.inr ⟨by rfl,rfl⟩) ?_ ?_;rotate_left
              ·simp only [Act.put,q1_,q2_,q3_,i64_w,i32_w];rfl
              refine pure_ (i:=17) (N:=some 88) (v:=undef) (a':=?_) (ab 20 262143) rfl rfl (any_of HT_.out (by kernel_rfl)) (fun _ _ _ h=>h) (Or.inr ⟨by rfl,rfl⟩) ?_ ?_;rotate_left
              ·simp only [Act.put,q1_,q2_,q3_,i64_w,i32_w];rfl
              refine pure_ (i:=18) (N:=some 89) (v:=undef) (a':=?_) (ab 20 524287) rfl rfl (any_of HT_.out (by kernel_rfl)) (fun _ _ _ h=>h) (Or.inr ⟨by rfl,rfl⟩) ?_ ?_;rotate_left
              ·simp only [Act.put,q1_,q2_,q3_,i64_w,i32_w];rfl
              refine pure_ (i:=19) (N:=some 90) (v:=?_) (a':=?_) (ab 20 1048575) rfl rfl (any_of HT_.out (by kernel_rfl)) (fun _ _ _ h=>h) (Or.inl ⟨by rfl,?_⟩) ?_ ?_;rotate_left
              ·intro w';go_simp;with_reducible rfl
              rotate_left
              ·simp only [Act.put,q1_,q2_,q3_,i64_w,i32_w];rfl
              refine done_ (done_of HT_.out (by kernel_rfl)) ?_;(try go_wp2);go_roundg k3
              case measure=>have:=HK1.out;have:=HJ11.out;have:=HK3.out;omega
              case rel=>exact ⟨(wrap64 (x9_3 + 1)),(by first|rfl|(simp;done)|(simp [*];done)),H',⟨by have:=HK1.out;have:=HJ11.out;have:=HK3.out;omega⟩,⟨by (with_reducible repeat (first|apply Kd.R_alloc|apply Kd.R_drewN|apply Kd.R_drew));exact HO_5.out⟩,⟨by (with_reducible repeat (first|refine blk_drewN ?_ _|refine blk_drew ?_|refine blk_alloc ?_ _));exact BK240.out⟩,⟨by (with_reducible repeat (first|refine blk_drewN ?_ _|refine blk_drew ?_|refine blk_alloc ?_ _));exact BK241.out⟩,⟨by (with_reducible repeat (first|refine blk_drewN ?_ _|refine blk_drew ?_|refine blk_alloc ?_ _));exact BK246.out⟩,⟨by repeat (first|(with_reducible first|exact HB.out|apply below_alloc|apply pw_below_drewN|apply below_drew1|refine below_set ?_ GE240.out|refine below_set ?_ GE241.out|refine below_set ?_ GE246.out)|exact HB.out)⟩⟩
            ·rw [if_neg c44] at H;exact absurd H (by simp)
           ·rw [if_neg c43] at H;exact absurd H (by simp)
          ·rw [if_neg c42] at H;have c42b0:decide (x9_3 < x6_1)=false:=decide_eq_false c42;clear c42;have H':=Aside0.mk H;clear H;go_wp2;go_roundg k3
           case measure=>have:=HK1.out;have:=HJ11.out;have:=HK3.out;omega
           case rel=>exact ⟨(wrap64 (x6_1 + 1)),(by first|rfl|(simp;done)|(simp [*];done)),H',⟨by have:=HK1.out;have:=HJ11.out;have:=HK3.out;omega⟩,⟨by (with_reducible repeat (first|apply Kd.R_alloc|apply Kd.R_drewN|apply Kd.R_drew));exact HO_5.out⟩,⟨by (with_reducible repeat (first|refine blk_drewN ?_ _|refine blk_drew ?_|refine blk_alloc ?_ _));exact BK240.out⟩,⟨by (with_reducible repeat (first|refine blk_drewN ?_ _|refine blk_drew ?_|refine blk_alloc ?_ _));exact BK241.out⟩,⟨by repeat (first|(with_reducible first|exact HB.out|apply below_alloc|apply pw_below_drewN|apply below_drew1|refine below_set ?_ GE240.out|refine below_set ?_ GE241.out|refine below_set ?_ GE246.out)|exact HB.out)⟩⟩
    ·rw [if_neg c10] at H;exact absurd H (by simp)
   ·rw [if_neg c9] at H;have c9b0:decide (x6_1 < (l1_1.length:Int))=false:=decide_eq_false c9;clear c9;by_cases c51:(l1_1.length:Int) ≥ 1
    ·rw [if_pos c51] at H;have c51b0:decide (1 ≤ (l1_1.length:Int))=true:=decide_eq_true c51;have c51b1:decide (1 ≤ l1_1.length)=true:=decide_eq_true (by omega);clear c51;obtain rfl:=Option.some.inj H;have hnb52:=NB241_240.out;have hnc52:=NB240_241.out;obtain ⟨hcz53_0,hcz53_1⟩:=bc2 BK241.out;obtain ⟨hfz53_0,hfz53_1⟩:=bf2 BK241.out;go_wp2;go_ret;exact ⟨by first|rfl|(simp [errW_none,errW_some] <;> rfl)|(simp [*,errW_none,errW_some] <;> rfl),by repeat (first|(with_reducible first|exact HB.out|apply below_alloc|apply pw_below_drewN|apply below_drew1|refine below_set ?_ GE240.out|refine below_set ?_ GE241.out)|exact HB.out)⟩
    ·rw [if_neg c51] at H;have c51b0:decide (1 ≤ (l1_1.length:Int))=false:=decide_eq_false c51;have c51b1:decide (1 ≤ l1_1.length)=false:=decide_eq_false (by omega);clear c51;obtain rfl:=Option.some.inj H;have hnb54:=NB241_240.out;have hnc54:=NB240_241.out;obtain ⟨hcz55_0,hcz55_1⟩:=bc2 BK241.out;obtain ⟨hfz55_0,hfz55_1⟩:=bf2 BK241.out;go_wp2;go_ret;exact ⟨by first|rfl|(simp [errW_none,errW_some] <;> rfl)|(simp [*,errW_none,errW_some] <;> rfl),by repeat (first|(with_reducible first|exact HB.out|apply below_alloc|apply pw_below_drewN|apply below_drew1|refine below_set ?_ GE240.out|refine below_set ?_ GE241.out)|exact HB.out)⟩
end Go.Proofs.YtjbjbeihkoeciaaDoor.X
namespace Go.Proofs.YtjbjbeihkoeciaaDoor.X
open Go.RowKit Go.Proofs.YtjbjbeihkoeciaaDoorW.PrintWords Go.Proofs.YtjbjbeihkoeciaaDoorW.PrintLast Go.Proofs.YtjbjbeihkoeciaaDoorW.PrintMore
attribute [local go_sem] max2_int min2_int max_two min_two max_three min_three max_four min_four
set_option linter.unusedVariables false
set_option linter.unusedSimpArgs false
def hucksterref14_digit.f (a0:Int):Option (Bool):=if a0 ≥ 48 then (some (decide (a0 ≤ 57))) else (some false)
set_option maxHeartbeats 8000000 in
set_option maxRecDepth 100000 in
theorem hucksterref14_digit.calls (a0:Int) (r:Bool) (w:World) (h:hucksterref14_digit.f a0=some r) :
  Calls Tryd.prog 77 #[.int .u8 a0] w fun e w'=>e = .returned (.bool r)∧Drawn0 w w':=by
 have H:(if a0 ≥ 48 then (some (decide (a0 ≤ 57))) else (some false))=some r:=h;clear h;by_cases c2:a0 ≥ 48
 ·rw [if_pos c2] at H;have c2b0:decide (48 ≤ a0)=true:=decide_eq_true c2;clear c2;obtain rfl:=Option.some.inj H;go_enter Tryd.func77,Tryd.ntmps77;go_wp2;go_ret;exact ⟨by first|rfl|(simp;done)|(simp [*];done),by repeat (first|exact Drawn0.refl _|apply Drawn0.step)⟩
 ·rw [if_neg c2] at H;have c2b0:decide (48 ≤ a0)=false:=decide_eq_false c2;clear c2;obtain rfl:=Option.some.inj H;go_enter Tryd.func77,Tryd.ntmps77;go_wp2;go_ret;exact ⟨by first|rfl|(simp;done)|(simp [*];done),by repeat (first|exact Drawn0.refl _|apply Drawn0.step)⟩
end Go.Proofs.YtjbjbeihkoeciaaDoor.X
namespace Go.Proofs.YtjbjbeihkoeciaaDoor.X
open Go.RowKit Go.Proofs.YtjbjbeihkoeciaaDoorW.PrintWords Go.Proofs.YtjbjbeihkoeciaaDoorW.PrintLast Go.Proofs.YtjbjbeihkoeciaaDoorW.PrintMore
attribute [local go_sem] max2_int min2_int max_two min_two max_three min_three max_four min_four
set_option linter.unusedVariables false
set_option linter.unusedSimpArgs false
def hucksterref14_letter.f (a0:Int):Option (Bool):=if a0 ≥ 97 then (some (decide (a0 ≤ 122))) else (some false)
set_option maxHeartbeats 8000000 in
set_option maxRecDepth 100000 in
theorem hucksterref14_letter.calls (a0:Int) (r:Bool) (w:World) (h:hucksterref14_letter.f a0=some r) :
  Calls Tryd.prog 76 #[.int .u8 a0] w fun e w'=>e = .returned (.bool r)∧Drawn0 w w':=by
 have H:(if a0 ≥ 97 then (some (decide (a0 ≤ 122))) else (some false))=some r:=h;clear h;by_cases c2:a0 ≥ 97
 ·rw [if_pos c2] at H;have c2b0:decide (97 ≤ a0)=true:=decide_eq_true c2;clear c2;obtain rfl:=Option.some.inj H;go_enter Tryd.func76,Tryd.ntmps76;go_wp2;go_ret;exact ⟨by first|rfl|(simp;done)|(simp [*];done),by repeat (first|exact Drawn0.refl _|apply Drawn0.step)⟩
 ·rw [if_neg c2] at H;have c2b0:decide (97 ≤ a0)=false:=decide_eq_false c2;clear c2;obtain rfl:=Option.some.inj H;go_enter Tryd.func76,Tryd.ntmps76;go_wp2;go_ret;exact ⟨by first|rfl|(simp;done)|(simp [*];done),by repeat (first|exact Drawn0.refl _|apply Drawn0.step)⟩
end Go.Proofs.YtjbjbeihkoeciaaDoor.X
namespace Go.Proofs.YtjbjbeihkoeciaaDoor.X
open Go.RowKit Go.Proofs.YtjbjbeihkoeciaaDoorW.PrintWords Go.Proofs.YtjbjbeihkoeciaaDoorW.PrintLast Go.Proofs.YtjbjbeihkoeciaaDoorW.PrintMore
attribute [local go_sem] max2_int min2_int max_two min_two max_three min_three max_four min_four
set_option linter.unusedVariables false
set_option linter.unusedSimpArgs false
def hucksterref14_Word.l0:Nat → ByteArray → Int → Option (Bool)
 | 0,_,_=>none
 | k + 1,x0,x3=>if x3 < (x0.size:Int) then (if 0 ≤ x3 then ((hucksterref14_letter.f (bt x0 x3)).bind fun t210=>(if t210=true then (hucksterref14_Word.l0 k x0 (wrap64 (x3 + 1))) else ((hucksterref14_digit.f (bt x0 x3)).bind fun t211=>(if t211=true then (if x3 > 0 then (hucksterref14_Word.l0 k x0 (wrap64 (x3 + 1))) else (some false)) else (some false))))) else (none)) else (if (x0.size:Int) ≥ 1 then (some (decide ((x0.size:Int) ≤ 16))) else (some false))
def hucksterref14_Word.f (k:Nat) (a0:ByteArray):Option (Bool):=hucksterref14_Word.l0 k a0 0
set_option maxHeartbeats 8000000 in
set_option maxRecDepth 100000 in
theorem hucksterref14_Word.calls (k:Nat) (a0:ByteArray) (r:Bool) (w:World) (h:hucksterref14_Word.f k a0=some r) :
  Calls Tryd.prog 65 #[.string a0] w fun e w'=>e = .returned (.bool r)∧Drawn0 w w':=by
 have H:(hucksterref14_Word.l0 k a0 0)=some r:=h;clear h;have H':=Aside0.mk H;clear H;go_enter Tryd.func65,Tryd.ntmps65;go_wp2;go_loopg [3] k (fun kq v3 w'=>∃ (x3_1:Int),v3 = .int .i64 x3_1∧Aside0 (hucksterref14_Word.l0 kq a0 x3_1=some r)∧Aside0 (kq ≤ k)∧Drawn0 w w')
 case atStart=>exact ⟨(0),(by first|rfl|(simp;done)|(simp [*];done)),H',⟨Nat.le_refl _⟩,by repeat (first|exact Drawn0.refl _|apply Drawn0.step)⟩
 case round =>
  clear H';obtain ⟨x3_1,rfl,HA,HK1,⟨m1,rfl⟩⟩:=hrel;cases gk with
  | zero=>exact absurd HA.out (by simp [hucksterref14_Word.l0])
  | succ k1 =>
   have H:=HA.out;clear HA;simp only [hucksterref14_Word.l0] at H;by_cases c2:x3_1 < (a0.size:Int)
   ·rw [if_pos c2] at H;have c2b0:decide (x3_1 < (a0.size:Int))=true:=decide_eq_true c2;clear c2;by_cases c3:0 ≤ x3_1
    ·rw [if_pos c3] at H;have c3b0:decide (0 ≤ x3_1)=true:=decide_eq_true c3;clear c3;replace H:=Option.bind_eq_some_iff.mp H;obtain ⟨t210,A50,H⟩:=H;replace H:(if t210=true then (hucksterref14_Word.l0 k1 a0 (wrap64 (x3_1 + 1))) else ((hucksterref14_digit.f (bt a0 x3_1)).bind fun t211=>(if t211=true then (if x3_1 > 0 then (hucksterref14_Word.l0 k1 a0 (wrap64 (x3_1 + 1))) else (some false)) else (some false))))=some r:=H;have A5:=Aside0.mk A50;clear A50;by_cases c6:t210=true
     ·subst c6;(have H1:(hucksterref14_Word.l0 k1 a0 (wrap64 (x3_1 + 1)))=some r:=by rw [if_pos rfl] at H;exact H);clear H;have H:=H1;clear H1;have H':=Aside0.mk H;clear H;have p4:0 ≤ (x3_1:Int):=of_decide_eq_true (by first|(with_reducible assumption)|assumption);have q4:x3_1 < (a0.size:Int):=of_decide_eq_true (by first|(with_reducible assumption)|assumption);have hx4:=bt_at a0 x3_1;replace p4:=eq_true p4;replace q4:=eq_true q4;go_wp2_with (first|((with_reducible refine gate_callee (f:=76) rfl ?_);refine goesL_ (some 13) rfl rfl Tryd.func76 (by kernel_rfl) rfl #[.int .u8 (bt a0 x3_1)] rfl (by (try simp only [List.map_toArray,List.map_cons,List.map_nil]);first|done|rfl|(simp only [List.length_drop,List.length_take];rfl)) ?_;(with_reducible refine (hucksterref14_letter.calls (bt a0 x3_1) true _ A5.out).mono ?_);rintro e w' ⟨rfl,⟨nd,rfl⟩⟩;refine ⟨_,rfl,?_⟩));go_roundg k1
      case measure=>have:=HK1.out;omega
      case rel=>exact ⟨(wrap64 (x3_1 + 1)),(by first|rfl|(simp;done)|(simp [*];done)),H',⟨by have:=HK1.out;omega⟩,by repeat (first|exact Drawn0.refl _|apply Drawn0.step)⟩
     ·replace c6:=Bool.eq_false_iff.mpr c6;subst c6;(have H1:((hucksterref14_digit.f (bt a0 x3_1)).bind fun t211=>(if t211=true then (if x3_1 > 0 then (hucksterref14_Word.l0 k1 a0 (wrap64 (x3_1 + 1))) else (some false)) else (some false)))=some r:=by rw [if_neg (show ¬ (false=true) by decide)] at H;exact H);clear H;have H:=H1;clear H1;replace H:=Option.bind_eq_some_iff.mp H;obtain ⟨t211,A80,H⟩:=H;replace H:(if t211=true then (if x3_1 > 0 then (hucksterref14_Word.l0 k1 a0 (wrap64 (x3_1 + 1))) else (some false)) else (some false))=some r:=H;have A8:=Aside0.mk A80;clear A80;by_cases c9:t211=true
      ·subst c9;(have H1:(if x3_1 > 0 then (hucksterref14_Word.l0 k1 a0 (wrap64 (x3_1 + 1))) else (some false))=some r:=by rw [if_pos rfl] at H;exact H);clear H;have H:=H1;clear H1;by_cases c10:x3_1 > 0
       ·rw [if_pos c10] at H;have c10b0:decide (0 < x3_1)=true:=decide_eq_true c10;clear c10;have H':=Aside0.mk H;clear H;have p4:0 ≤ (x3_1:Int):=of_decide_eq_true (by first|(with_reducible assumption)|assumption);have q4:x3_1 < (a0.size:Int):=of_decide_eq_true (by first|(with_reducible assumption)|assumption);have hx4:=bt_at a0 x3_1;replace p4:=eq_true p4;replace q4:=eq_true q4;go_wp2_with (first|((with_reducible refine gate_callee (f:=76) rfl ?_);refine goesL_ (some 13) rfl rfl Tryd.func76 (by kernel_rfl) rfl #[.int .u8 (bt a0 x3_1)] rfl (by (try simp only [List.map_toArray,List.map_cons,List.map_nil]);first|done|rfl|(simp only [List.length_drop,List.length_take];rfl)) ?_;(with_reducible refine (hucksterref14_letter.calls (bt a0 x3_1) false _ A5.out).mono ?_);rintro e w' ⟨rfl,⟨nd,rfl⟩⟩;refine ⟨_,rfl,?_⟩;have p7:0 ≤ (x3_1:Int):=of_decide_eq_true (by first|(with_reducible assumption)|assumption);have q7:x3_1 < (a0.size:Int):=of_decide_eq_true (by first|(with_reducible assumption)|assumption);have hx7:=bt_at a0 x3_1;replace p7:=eq_true p7;replace q7:=eq_true q7)|(go_at_call 77;(with_reducible refine (hucksterref14_digit.calls (bt a0 x3_1) true _ A8.out).mono ?_);rintro e w' ⟨rfl,⟨nd,rfl⟩⟩));go_roundg k1
        case measure=>have:=HK1.out;omega
        case rel=>exact ⟨(wrap64 (x3_1 + 1)),(by first|rfl|(simp;done)|(simp [*];done)),H',⟨by have:=HK1.out;omega⟩,by repeat (first|exact Drawn0.refl _|apply Drawn0.step)⟩
       ·rw [if_neg c10] at H;have c10b0:decide (0 < x3_1)=false:=decide_eq_false c10;clear c10;obtain rfl:=Option.some.inj H;have p4:0 ≤ (x3_1:Int):=of_decide_eq_true (by first|(with_reducible assumption)|assumption);have q4:x3_1 < (a0.size:Int):=of_decide_eq_true (by first|(with_reducible assumption)|assumption);have hx4:=bt_at a0 x3_1;replace p4:=eq_true p4;replace q4:=eq_true q4;go_wp2_with (first|((with_reducible refine gate_callee (f:=76) rfl ?_);refine goesL_ (some 13) rfl rfl Tryd.func76 (by kernel_rfl) rfl #[.int .u8 (bt a0 x3_1)] rfl (by (try simp only [List.map_toArray,List.map_cons,List.map_nil]);first|done|rfl|(simp only [List.length_drop,List.length_take];rfl)) ?_;(with_reducible refine (hucksterref14_letter.calls (bt a0 x3_1) false _ A5.out).mono ?_);rintro e w' ⟨rfl,⟨nd,rfl⟩⟩;refine ⟨_,rfl,?_⟩;have p7:0 ≤ (x3_1:Int):=of_decide_eq_true (by first|(with_reducible assumption)|assumption);have q7:x3_1 < (a0.size:Int):=of_decide_eq_true (by first|(with_reducible assumption)|assumption);have hx7:=bt_at a0 x3_1;replace p7:=eq_true p7;replace q7:=eq_true q7)|(go_at_call 77;(with_reducible refine (hucksterref14_digit.calls (bt a0 x3_1) true _ A8.out).mono ?_);rintro e w' ⟨rfl,⟨nd,rfl⟩⟩));go_ret;exact ⟨by first|rfl|(simp;done)|(simp [*];done),by repeat (first|exact Drawn0.refl _|apply Drawn0.step)⟩
      ·replace c9:=Bool.eq_false_iff.mpr c9;subst c9;(have H1:(some false)=some r:=by rw [if_neg (show ¬ (false=true) by decide)] at H;exact H);clear H;have H:=H1;clear H1;obtain rfl:=Option.some.inj H;have p4:0 ≤ (x3_1:Int):=of_decide_eq_true (by first|(with_reducible assumption)|assumption);have q4:x3_1 < (a0.size:Int):=of_decide_eq_true (by first|(with_reducible assumption)|assumption);have hx4:=bt_at a0 x3_1;replace p4:=eq_true p4;replace q4:=eq_true q4;go_wp2_with (first|((with_reducible refine gate_callee (f:=76) rfl ?_);refine goesL_ (some 13) rfl rfl Tryd.func76 (by kernel_rfl) rfl #[.int .u8 (bt a0 x3_1)] rfl (by (try simp only [List.map_toArray,List.map_cons,List.map_nil]);first|done|rfl|(simp only [List.length_drop,List.length_take];rfl)) ?_;(with_reducible refine (hucksterref14_letter.calls (bt a0 x3_1) false _ A5.out).mono ?_);rintro e w' ⟨rfl,⟨nd,rfl⟩⟩;refine ⟨_,rfl,?_⟩;have p7:0 ≤ (x3_1:Int):=of_decide_eq_true (by first|(with_reducible assumption)|assumption);have q7:x3_1 < (a0.size:Int):=of_decide_eq_true (by first|(with_reducible assumption)|assumption);have hx7:=bt_at a0 x3_1;replace p7:=eq_true p7;replace q7:=eq_true q7)|(go_at_call 77;(with_reducible refine (hucksterref14_digit.calls (bt a0 x3_1) false _ A8.out).mono ?_);rintro e w' ⟨rfl,⟨nd,rfl⟩⟩));go_ret;exact ⟨by first|rfl|(simp;done)|(simp [*];done),by repeat (first|exact Drawn0.refl _|apply Drawn0.step)⟩
    ·rw [if_neg c3] at H;exact absurd H (by simp)
   ·rw [if_neg c2] at H;have c2b0:decide (x3_1 < (a0.size:Int))=false:=decide_eq_false c2;clear c2;by_cases c11:(a0.size:Int) ≥ 1
    ·rw [if_pos c11] at H;have c11b0:decide (1 ≤ (a0.size:Int))=true:=decide_eq_true c11;have c11b1:decide (1 ≤ a0.size)=true:=decide_eq_true (by omega);clear c11;obtain rfl:=Option.some.inj H;go_wp2;go_ret;exact ⟨by first|rfl|(simp;done)|(simp [*];done),by repeat (first|exact Drawn0.refl _|apply Drawn0.step)⟩
    ·rw [if_neg c11] at H;have c11b0:decide (1 ≤ (a0.size:Int))=false:=decide_eq_false c11;have c11b1:decide (1 ≤ a0.size)=false:=decide_eq_false (by omega);clear c11;obtain rfl:=Option.some.inj H;go_wp2;go_ret;exact ⟨by first|rfl|(simp;done)|(simp [*];done),by repeat (first|exact Drawn0.refl _|apply Drawn0.step)⟩
end Go.Proofs.YtjbjbeihkoeciaaDoor.X
namespace Go.Proofs.YtjbjbeihkoeciaaDoor.X
open Go.RowKit Go.Proofs.YtjbjbeihkoeciaaDoorW.PrintWords Go.Proofs.YtjbjbeihkoeciaaDoorW.PrintLast Go.Proofs.YtjbjbeihkoeciaaDoorW.PrintMore
attribute [local go_sem] max2_int min2_int max_two min_two max_three min_three max_four min_four
set_option linter.unusedVariables false
set_option linter.unusedSimpArgs false
def hucksterref15_words.f  : Option (List ByteArray):=some (([(⟨#[115,101,116]⟩:ByteArray),(⟨#[99,111,117,110,116]⟩:ByteArray),(⟨#[110,111,116,101]⟩:ByteArray),(⟨#[114,117,108,101]⟩:ByteArray),(⟨#[111,112]⟩:ByteArray),(⟨#[115,116,114,105,99,116]⟩:ByteArray),(⟨#[114,101,102]⟩:ByteArray),(⟨#[98,111,116,104]⟩:ByteArray),(⟨#[108,105,109,105,116]⟩:ByteArray),(⟨#[109,111,115,116]⟩:ByteArray),(⟨#[108,101,97,115,116]⟩:ByteArray),(⟨#[110,101,101,100,115]⟩:ByteArray),(⟨#[97,100,100]⟩:ByteArray),(⟨#[100,114,111,112]⟩:ByteArray),(⟨#[117,112]⟩:ByteArray),(⟨#[100,111,119,110]⟩:ByteArray),(⟨#[112,117,116]⟩:ByteArray)]:List ByteArray))
set_option maxHeartbeats 8000000 in
set_option maxRecDepth 100000 in
theorem hucksterref15_words.calls  (r:List ByteArray) (w:World) (h:hucksterref15_words.f  = some r) :
  Calls Tryd.prog 78 #[] w fun e w'=>∃ v0_:Value,e = .returned (v0_)∧Kd.R Kd.string 9 w' w.heap.size (fun _=>True) v0_ r∧Below w.heap.size w w':=by
 have HB:=Aside0.mk (Below.refl w.heap.size w);have H:(some (([(⟨#[115,101,116]⟩:ByteArray),(⟨#[99,111,117,110,116]⟩:ByteArray),(⟨#[110,111,116,101]⟩:ByteArray),(⟨#[114,117,108,101]⟩:ByteArray),(⟨#[111,112]⟩:ByteArray),(⟨#[115,116,114,105,99,116]⟩:ByteArray),(⟨#[114,101,102]⟩:ByteArray),(⟨#[98,111,116,104]⟩:ByteArray),(⟨#[108,105,109,105,116]⟩:ByteArray),(⟨#[109,111,115,116]⟩:ByteArray),(⟨#[108,101,97,115,116]⟩:ByteArray),(⟨#[110,101,101,100,115]⟩:ByteArray),(⟨#[97,100,100]⟩:ByteArray),(⟨#[100,114,111,112]⟩:ByteArray),(⟨#[117,112]⟩:ByteArray),(⟨#[100,111,119,110]⟩:ByteArray),(⟨#[112,117,116]⟩:ByteArray)]:List ByteArray)))=some r:=h;clear h;obtain ⟨y212,hy212⟩:∃ y_:List ByteArray,y_=(([(⟨#[115,101,116]⟩:ByteArray),(⟨#[99,111,117,110,116]⟩:ByteArray),(⟨#[110,111,116,101]⟩:ByteArray),(⟨#[114,117,108,101]⟩:ByteArray),(⟨#[111,112]⟩:ByteArray),(⟨#[115,116,114,105,99,116]⟩:ByteArray),(⟨#[114,101,102]⟩:ByteArray),(⟨#[98,111,116,104]⟩:ByteArray),(⟨#[108,105,109,105,116]⟩:ByteArray),(⟨#[109,111,115,116]⟩:ByteArray),(⟨#[108,101,97,115,116]⟩:ByteArray),(⟨#[110,101,101,100,115]⟩:ByteArray),(⟨#[97,100,100]⟩:ByteArray),(⟨#[100,114,111,112]⟩:ByteArray),(⟨#[117,112]⟩:ByteArray),(⟨#[100,111,119,110]⟩:ByteArray),(⟨#[112,117,116]⟩:ByteArray)]:List ByteArray)):=⟨_,rfl⟩;(replace H:(some y212)=some r:=by first|(rw [hy212];with_reducible exact H)|(have H2_:=(Option.bind_some _ _).symm.trans H;rw [hy212];with_reducible exact H2_)|(have H2_:=(Option.bind_some _ _).symm.trans H;with_reducible exact H2_)|with_reducible exact H|(rw [hy212];exact H)|exact H);have Ny212:=Aside0.mk hy212;clear hy212;obtain rfl:=Option.some.inj H;go_enter Tryd.func78,Tryd.ntmps78;go_wp2_with (first|((with_reducible refine gate_dst (N:=1) rfl ?_);refine Kd.R_lit Kd.string _ 9 ?hg (N:=1) ?hd (xs:=([(⟨#[115,101,116]⟩:ByteArray),(⟨#[99,111,117,110,116]⟩:ByteArray),(⟨#[110,111,116,101]⟩:ByteArray),(⟨#[114,117,108,101]⟩:ByteArray),(⟨#[111,112]⟩:ByteArray),(⟨#[115,116,114,105,99,116]⟩:ByteArray),(⟨#[114,101,102]⟩:ByteArray),(⟨#[98,111,116,104]⟩:ByteArray),(⟨#[108,105,109,105,116]⟩:ByteArray),(⟨#[109,111,115,116]⟩:ByteArray),(⟨#[108,101,97,115,116]⟩:ByteArray),(⟨#[110,101,101,100,115]⟩:ByteArray),(⟨#[97,100,100]⟩:ByteArray),(⟨#[100,114,111,112]⟩:ByteArray),(⟨#[117,112]⟩:ByteArray),(⟨#[100,111,119,110]⟩:ByteArray),(⟨#[112,117,116]⟩:ByteArray)]:List ByteArray)) (inner:=[.string (⟨#[115,101,116]⟩:ByteArray),.string (⟨#[99,111,117,110,116]⟩:ByteArray),.string (⟨#[110,111,116,101]⟩:ByteArray),.string (⟨#[114,117,108,101]⟩:ByteArray),.string (⟨#[111,112]⟩:ByteArray),.string (⟨#[115,116,114,105,99,116]⟩:ByteArray),.string (⟨#[114,101,102]⟩:ByteArray),.string (⟨#[98,111,116,104]⟩:ByteArray),.string (⟨#[108,105,109,105,116]⟩:ByteArray),.string (⟨#[109,111,115,116]⟩:ByteArray),.string (⟨#[108,101,97,115,116]⟩:ByteArray),.string (⟨#[110,101,101,100,115]⟩:ByteArray),.string (⟨#[97,100,100]⟩:ByteArray),.string (⟨#[100,114,111,112]⟩:ByteArray),.string (⟨#[117,112]⟩:ByteArray),.string (⟨#[100,111,119,110]⟩:ByteArray),.string (⟨#[112,117,116]⟩:ByteArray)]) (ok:=fun _=>True) (okp:=fun _=>True) ?hr ?hp (fun _ hk=>hk) trivial (Below.refl _ _) (Nat.le_refl _) (by simp) ?_;(case hd=>rfl);(case hg=>rfl);(case hr=>first|(go_simp;done)|(go_simp;rfl));(case hp=>exact (Reps.one (show Kd.M Kd.string _ _ _ (⟨#[115,101,116]⟩:ByteArray) [.string (⟨#[115,101,116]⟩:ByteArray)] from rfl) (Reps.one (show Kd.M Kd.string _ _ _ (⟨#[99,111,117,110,116]⟩:ByteArray) [.string (⟨#[99,111,117,110,116]⟩:ByteArray)] from rfl) (Reps.one (show Kd.M Kd.string _ _ _ (⟨#[110,111,116,101]⟩:ByteArray) [.string (⟨#[110,111,116,101]⟩:ByteArray)] from rfl) (Reps.one (show Kd.M Kd.string _ _ _ (⟨#[114,117,108,101]⟩:ByteArray) [.string (⟨#[114,117,108,101]⟩:ByteArray)] from rfl) (Reps.one (show Kd.M Kd.string _ _ _ (⟨#[111,112]⟩:ByteArray) [.string (⟨#[111,112]⟩:ByteArray)] from rfl) (Reps.one (show Kd.M Kd.string _ _ _ (⟨#[115,116,114,105,99,116]⟩:ByteArray) [.string (⟨#[115,116,114,105,99,116]⟩:ByteArray)] from rfl) (Reps.one (show Kd.M Kd.string _ _ _ (⟨#[114,101,102]⟩:ByteArray) [.string (⟨#[114,101,102]⟩:ByteArray)] from rfl) (Reps.one (show Kd.M Kd.string _ _ _ (⟨#[98,111,116,104]⟩:ByteArray) [.string (⟨#[98,111,116,104]⟩:ByteArray)] from rfl) (Reps.one (show Kd.M Kd.string _ _ _ (⟨#[108,105,109,105,116]⟩:ByteArray) [.string (⟨#[108,105,109,105,116]⟩:ByteArray)] from rfl) (Reps.one (show Kd.M Kd.string _ _ _ (⟨#[109,111,115,116]⟩:ByteArray) [.string (⟨#[109,111,115,116]⟩:ByteArray)] from rfl) (Reps.one (show Kd.M Kd.string _ _ _ (⟨#[108,101,97,115,116]⟩:ByteArray) [.string (⟨#[108,101,97,115,116]⟩:ByteArray)] from rfl) (Reps.one (show Kd.M Kd.string _ _ _ (⟨#[110,101,101,100,115]⟩:ByteArray) [.string (⟨#[110,101,101,100,115]⟩:ByteArray)] from rfl) (Reps.one (show Kd.M Kd.string _ _ _ (⟨#[97,100,100]⟩:ByteArray) [.string (⟨#[97,100,100]⟩:ByteArray)] from rfl) (Reps.one (show Kd.M Kd.string _ _ _ (⟨#[100,114,111,112]⟩:ByteArray) [.string (⟨#[100,114,111,112]⟩:ByteArray)] from rfl) (Reps.one (show Kd.M Kd.string _ _ _ (⟨#[117,112]⟩:ByteArray) [.string (⟨#[117,112]⟩:ByteArray)] from rfl) (Reps.one (show Kd.M Kd.string _ _ _ (⟨#[100,111,119,110]⟩:ByteArray) [.string (⟨#[100,111,119,110]⟩:ByteArray)] from rfl) (Reps.one (show Kd.M Kd.string _ _ _ (⟨#[112,117,116]⟩:ByteArray) [.string (⟨#[112,117,116]⟩:ByteArray)] from rfl) (Reps.none _ _)))))))))))))))))));intro v213 w1 ho2 hb hg_ hnew_;clear hg_ hnew_;(first|rw [← Ny212.out] at ho2|(simp only [Int.reduceToNat] at ho2;rw [← Ny212.out] at ho2));have n0_:=Aside0.mk (Kd.R_lower ho2 (below_size (by repeat (first|(with_reducible first|exact HB.out|apply below_alloc|apply pw_below_drewN|apply below_drew1)|exact HB.out))));have n1_:=Aside0.mk (below_step (by repeat (first|(with_reducible first|exact HB.out|apply below_alloc|apply pw_below_drewN|apply below_drew1)|exact HB.out)) hb);clear HB;have HO214:=n0_;have HB:=n1_;clear n0_ n1_;clear hb ho2));go_ret;exact ⟨_,by first|rfl|(simp [errW_none,errW_some] <;> rfl)|(simp [*,errW_none,errW_some] <;> rfl),by (with_reducible repeat (first|apply Kd.R_alloc|apply Kd.R_drewN|apply Kd.R_drew));exact HO214.out,by repeat (first|(with_reducible first|exact HB.out|apply below_alloc|apply pw_below_drewN|apply below_drew1)|exact HB.out)⟩
end Go.Proofs.YtjbjbeihkoeciaaDoor.X
namespace Go.Proofs.YtjbjbeihkoeciaaDoor.X
open Go.RowKit Go.Proofs.YtjbjbeihkoeciaaDoorW.PrintWords Go.Proofs.YtjbjbeihkoeciaaDoorW.PrintLast Go.Proofs.YtjbjbeihkoeciaaDoorW.PrintMore
attribute [local go_sem] max2_int min2_int max_two min_two max_three min_three max_four min_four
set_option linter.unusedVariables false
set_option linter.unusedSimpArgs false
def hucksterref15_Kept.l0:Nat → ByteArray → List ByteArray → Int → Option (Bool)
 | 0,_,_,_=>none
 | k + 1,x0,x3,x4=>if x4 < (x3.length:Int) then (if 0 ≤ x4 then (if (rdOf ByteArray.empty x3 x4).toList=x0.toList then (some true) else (hucksterref15_Kept.l0 k x0 x3 (wrap64 (x4 + 1)))) else (none)) else (some false)
def hucksterref15_Kept.f (k:Nat) (a0:ByteArray):Option (Bool):=(hucksterref15_words.f).bind fun t215=>(hucksterref15_Kept.l0 k a0 t215 0)
set_option maxHeartbeats 8000000 in
set_option maxRecDepth 100000 in
theorem hucksterref15_Kept.calls (k:Nat) (a0:ByteArray) (r:Bool) (w:World) (h:hucksterref15_Kept.f k a0=some r) :
  Calls Tryd.prog 66 #[.string a0] w fun e w'=>e = .returned (.bool r)∧Below w.heap.size w w':=by
 have HB:=Aside0.mk (Below.refl w.heap.size w);have H:((hucksterref15_words.f).bind fun t215=>(hucksterref15_Kept.l0 k a0 t215 0))=some r:=h;clear h;replace H:=Option.bind_eq_some_iff.mp H;obtain ⟨t215,A20,H⟩:=H;replace H:(hucksterref15_Kept.l0 k a0 t215 0)=some r:=H;have A2:=Aside0.mk A20;clear A20;have H':=Aside0.mk H;clear H;go_enter Tryd.func66,Tryd.ntmps66;go_wp2_with (first|((with_reducible refine gate_callee (f:=78) rfl ?_);refine goesL_ (some 5) rfl rfl Tryd.func78 (by kernel_rfl) rfl #[] rfl (by (try simp only [List.map_toArray,List.map_cons,List.map_nil]);first|done|rfl|(simp only [List.length_drop,List.length_take];rfl)) ?_;(with_reducible refine (hucksterref15_words.calls  t215 _ A2.out).mono ?_);rintro e w3 ⟨v216,rfl,ho0,hb⟩;refine ⟨_,rfl,?_⟩;have n0_:=Aside0.mk (Kd.R_lower ho0 (below_size (by repeat (first|(with_reducible first|exact HB.out|apply below_alloc|apply pw_below_drewN|apply below_drew1)|exact HB.out))));have n1_:=Aside0.mk (below_step (by repeat (first|(with_reducible first|exact HB.out|apply below_alloc|apply pw_below_drewN|apply below_drew1)|exact HB.out)) hb);clear HB;have HO217:=n0_;have HB:=n1_;clear n0_ n1_;(try clear hb);(try clear hb2);(try clear hk);(try clear hi);(try clear ho0)));go_loopg [4] k (fun kq v4 w'=>∃ (x4_1:Int),v4 = .int .i64 x4_1∧Aside0 (hucksterref15_Kept.l0 kq a0 t215 x4_1=some r)∧Aside0 (kq ≤ k)∧Aside0 (Kd.R Kd.string 9 w' w.heap.size (fun _=>True) v216 t215)∧Aside0 (Below w.heap.size w w'))
 case atStart=>exact ⟨(0),(by first|rfl|(simp;done)|(simp [*];done)),H',⟨Nat.le_refl _⟩,⟨by (with_reducible repeat (first|apply Kd.R_alloc|apply Kd.R_drewN|apply Kd.R_drew));exact HO217.out⟩,⟨by repeat (first|(with_reducible first|exact HB.out|apply below_alloc|apply pw_below_drewN|apply below_drew1)|exact HB.out)⟩⟩
 case round =>
  clear H';(try clear p2);obtain ⟨x4_1,rfl,HA,HK1,HO_3,HB⟩:=hrel;cases gk with
  | zero=>exact absurd HA.out (by simp [hucksterref15_Kept.l0])
  | succ k1 =>
   have H:=HA.out;clear HA;simp only [hucksterref15_Kept.l0] at H;by_cases c4:x4_1 < (t215.length:Int)
   ·rw [if_pos c4] at H;have c4b0:decide (x4_1 < (t215.length:Int))=true:=decide_eq_true c4;clear c4;by_cases c5:0 ≤ x4_1
    ·rw [if_pos c5] at H;have c5b0:decide (0 ≤ x4_1)=true:=decide_eq_true c5;clear c5;by_cases c6:(rdOf ByteArray.empty t215 x4_1).toList=a0.toList
     ·rw [if_pos c6] at H;have c6b0:((rdOf ByteArray.empty t215 x4_1).toList == a0.toList)=true:=beq_iff_eq.mpr c6;have c6b1:((rdOf ByteArray.empty t215 x4_1).toList != a0.toList)=false:=bne_eq_false_iff_eq.mpr c6;clear c6;obtain rfl:=Option.some.inj H;obtain ⟨Ao7,co7,eo7⟩:=Kd.R_slice HO_3.out;subst eo7;have p218:0 ≤ (x4_1:Int):=of_decide_eq_true (by first|(with_reducible assumption)|assumption);have q218:x4_1 < (t215.length:Int):=of_decide_eq_true (by first|(with_reducible assumption)|assumption);obtain ⟨ad218,e218,hx218_0⟩:=Kd.at_string (Kd.R_reads' HO_3.out).2.2 x4_1 p218 q218;cases e218;replace p218:=eq_true p218;replace q218:=eq_true q218;go_wp2;go_ret;exact ⟨by first|rfl|(simp [errW_none,errW_some] <;> rfl)|(simp [*,errW_none,errW_some] <;> rfl),by repeat (first|(with_reducible first|exact HB.out|apply below_alloc|apply pw_below_drewN|apply below_drew1)|exact HB.out)⟩
     ·rw [if_neg c6] at H;have c6b0:((rdOf ByteArray.empty t215 x4_1).toList == a0.toList)=false:=beq_eq_false_iff_ne.mpr c6;have c6b1:((rdOf ByteArray.empty t215 x4_1).toList != a0.toList)=true:=bne_iff_ne.mpr c6;have H':=Aside0.mk H;clear H;obtain ⟨Ao8,co8,eo8⟩:=Kd.R_slice HO_3.out;subst eo8;have p218:0 ≤ (x4_1:Int):=of_decide_eq_true (by first|(with_reducible assumption)|assumption);have q218:x4_1 < (t215.length:Int):=of_decide_eq_true (by first|(with_reducible assumption)|assumption);obtain ⟨ad218,e218,hx218_0⟩:=Kd.at_string (Kd.R_reads' HO_3.out).2.2 x4_1 p218 q218;cases e218;replace p218:=eq_true p218;replace q218:=eq_true q218;go_wp2;go_roundg k1
      case measure=>have:=HK1.out;omega
      case rel=>exact ⟨(wrap64 (x4_1 + 1)),(by first|rfl|(simp;done)|(simp [*];done)),H',⟨by have:=HK1.out;omega⟩,⟨by (with_reducible repeat (first|apply Kd.R_alloc|apply Kd.R_drewN|apply Kd.R_drew));exact HO_3.out⟩,⟨by repeat (first|(with_reducible first|exact HB.out|apply below_alloc|apply pw_below_drewN|apply below_drew1)|exact HB.out)⟩⟩
    ·rw [if_neg c5] at H;exact absurd H (by simp)
   ·rw [if_neg c4] at H;have c4b0:decide (x4_1 < (t215.length:Int))=false:=decide_eq_false c4;clear c4;obtain rfl:=Option.some.inj H;obtain ⟨Ao9,co9,eo9⟩:=Kd.R_slice HO_3.out;subst eo9;go_wp2;go_ret;exact ⟨by first|rfl|(simp [errW_none,errW_some] <;> rfl)|(simp [*,errW_none,errW_some] <;> rfl),by repeat (first|(with_reducible first|exact HB.out|apply below_alloc|apply pw_below_drewN|apply below_drew1)|exact HB.out)⟩
end Go.Proofs.YtjbjbeihkoeciaaDoor.X
namespace Go.Proofs.YtjbjbeihkoeciaaDoor.X
open Go.RowKit Go.Proofs.YtjbjbeihkoeciaaDoorW.PrintWords Go.Proofs.YtjbjbeihkoeciaaDoorW.PrintLast Go.Proofs.YtjbjbeihkoeciaaDoorW.PrintMore
attribute [local go_sem] max2_int min2_int max_two min_two max_three min_three max_four min_four
set_option linter.unusedVariables false
set_option linter.unusedSimpArgs false
def hucksterref15_Name.f (k:Nat) (a0:ByteArray):Option (Bool):=(hucksterref14_Word.f k a0).bind fun t219=>(if t219=true then ((hucksterref15_Kept.f k a0).bind fun t220=>(some (!t220))) else (some false))
set_option maxHeartbeats 8000000 in
set_option maxRecDepth 100000 in
theorem hucksterref15_Name.calls (k:Nat) (a0:ByteArray) (r:Bool) (w:World) (h:hucksterref15_Name.f k a0=some r) :
  Calls Tryd.prog 48 #[.string a0] w fun e w'=>e = .returned (.bool r)∧Below w.heap.size w w':=by
 have HB:=Aside0.mk (Below.refl w.heap.size w);have H:((hucksterref14_Word.f k a0).bind fun t219=>(if t219=true then ((hucksterref15_Kept.f k a0).bind fun t220=>(some (!t220))) else (some false)))=some r:=h;clear h;replace H:=Option.bind_eq_some_iff.mp H;obtain ⟨t219,A20,H⟩:=H;replace H:(if t219=true then ((hucksterref15_Kept.f k a0).bind fun t220=>(some (!t220))) else (some false))=some r:=H;have A2:=Aside0.mk A20;clear A20;by_cases c3:t219=true
 ·subst c3;(have H1:((hucksterref15_Kept.f k a0).bind fun t220=>(some (!t220)))=some r:=by rw [if_pos rfl] at H;exact H);clear H;have H:=H1;clear H1;replace H:=Option.bind_eq_some_iff.mp H;obtain ⟨t220,A40,H⟩:=H;replace H:(some (!t220))=some r:=H;have A4:=Aside0.mk A40;clear A40;obtain rfl:=Option.some.inj H;go_enter Tryd.func48,Tryd.ntmps48;go_wp2_with (first|((with_reducible refine gate_callee (f:=65) rfl ?_);refine goesL_ (some 4) rfl rfl Tryd.func65 (by kernel_rfl) rfl #[.string a0] rfl (by (try simp only [List.map_toArray,List.map_cons,List.map_nil]);first|done|rfl|(simp only [List.length_drop,List.length_take];rfl)) ?_;(with_reducible refine (hucksterref14_Word.calls k a0 true _ A2.out).mono ?_);rintro e w' ⟨rfl,⟨nd,rfl⟩⟩;refine ⟨_,rfl,?_⟩)|(go_at_call 66;(with_reducible refine (hucksterref15_Kept.calls k a0 t220 _ A4.out).mono ?_);rintro e w5 ⟨rfl,hb⟩;have n0_:=Aside0.mk (below_step (by repeat (first|(with_reducible first|exact HB.out|apply below_alloc|apply pw_below_drewN|apply below_drew1)|exact HB.out)) hb);clear HB;have HB:=n0_;clear n0_;(try clear hb);(try clear hb2);(try clear hk);(try clear hi)));go_ret;exact ⟨by first|rfl|(simp [errW_none,errW_some] <;> rfl)|(simp [*,errW_none,errW_some] <;> rfl),by repeat (first|(with_reducible first|exact HB.out|apply below_alloc|apply pw_below_drewN|apply below_drew1)|exact HB.out)⟩
 ·replace c3:=Bool.eq_false_iff.mpr c3;subst c3;(have H1:(some false)=some r:=by rw [if_neg (show ¬ (false=true) by decide)] at H;exact H);clear H;have H:=H1;clear H1;obtain rfl:=Option.some.inj H;go_enter Tryd.func48,Tryd.ntmps48;go_wp2_with (first|((with_reducible refine gate_callee (f:=65) rfl ?_);refine goesL_ (some 4) rfl rfl Tryd.func65 (by kernel_rfl) rfl #[.string a0] rfl (by (try simp only [List.map_toArray,List.map_cons,List.map_nil]);first|done|rfl|(simp only [List.length_drop,List.length_take];rfl)) ?_;(with_reducible refine (hucksterref14_Word.calls k a0 false _ A2.out).mono ?_);rintro e w' ⟨rfl,⟨nd,rfl⟩⟩;refine ⟨_,rfl,?_⟩));go_ret;exact ⟨by first|rfl|(simp [errW_none,errW_some] <;> rfl)|(simp [*,errW_none,errW_some] <;> rfl),by repeat (first|(with_reducible first|exact HB.out|apply below_alloc|apply pw_below_drewN|apply below_drew1)|exact HB.out)⟩
end Go.Proofs.YtjbjbeihkoeciaaDoor.X
namespace Go.Proofs.YtjbjbeihkoeciaaDoor.X
open Go.RowKit Go.Proofs.YtjbjbeihkoeciaaDoorW.PrintWords Go.Proofs.YtjbjbeihkoeciaaDoorW.PrintLast Go.Proofs.YtjbjbeihkoeciaaDoorW.PrintMore
attribute [local go_sem] max2_int min2_int max_two min_two max_three min_three max_four min_four
set_option linter.unusedVariables false
set_option linter.unusedSimpArgs false
def hucksterref16_At.l0:Nat → List ByteArray → ByteArray → Int → Option (Int)
 | 0,_,_,_=>none
 | k + 1,x0,x1,x5=>if x5 < (x0.length:Int) then (if 0 ≤ x5 then (if (rdOf ByteArray.empty x0 x5).toList=x1.toList then (some x5) else (hucksterref16_At.l0 k x0 x1 (wrap64 (x5 + 1)))) else (none)) else (some (-1))
def hucksterref16_At.f (k:Nat) (l0:List ByteArray) (a1:ByteArray):Option (Int):=hucksterref16_At.l0 k l0 a1 0
set_option maxHeartbeats 8000000 in
set_option maxRecDepth 100000 in
theorem hucksterref16_At.calls (k:Nat) (A0:Option Addr) (c0:Nat) (l0:List ByteArray) (a1:ByteArray) (r:Int) (w:World) (hr0:Kd.C Kd.string w A0 l0.length l0) (hc0:l0.length ≤ c0) (h:hucksterref16_At.f k l0 a1=some r) :
  Calls Tryd.prog 49 #[.slice A0 l0.length c0,.string a1] w fun e w'=>e = .returned (.int .i64 r)∧Drawn0 w w':=by
 have HR0:=Aside0.mk hr0;have HC0:=Aside0.mk hc0;clear hr0 hc0;have H:(hucksterref16_At.l0 k l0 a1 0)=some r:=h;clear h;have H':=Aside0.mk H;clear H;go_enter Tryd.func49,Tryd.ntmps49;go_wp2;go_loopg [5] k (fun kq v5 w'=>∃ (x5_1:Int),v5 = .int .i64 x5_1∧Aside0 (hucksterref16_At.l0 kq l0 a1 x5_1=some r)∧Aside0 (kq ≤ k)∧Drawn0 w w')
 case atStart=>exact ⟨(0),(by first|rfl|(simp;done)|(simp [*];done)),H',⟨Nat.le_refl _⟩,by repeat (first|exact Drawn0.refl _|apply Drawn0.step)⟩
 case round =>
  clear H';(try clear p2);obtain ⟨x5_1,rfl,HA,HK1,⟨m1,rfl⟩⟩:=hrel;cases gk with
  | zero=>exact absurd HA.out (by simp [hucksterref16_At.l0])
  | succ k1 =>
   have H:=HA.out;clear HA;simp only [hucksterref16_At.l0] at H;by_cases c3:x5_1 < (l0.length:Int)
   ·rw [if_pos c3] at H;have c3b0:decide (x5_1 < (l0.length:Int))=true:=decide_eq_true c3;clear c3;by_cases c4:0 ≤ x5_1
    ·rw [if_pos c4] at H;have c4b0:decide (0 ≤ x5_1)=true:=decide_eq_true c4;clear c4;by_cases c5:(rdOf ByteArray.empty l0 x5_1).toList=a1.toList
     ·rw [if_pos c5] at H;have c5b0:((rdOf ByteArray.empty l0 x5_1).toList == a1.toList)=true:=beq_iff_eq.mpr c5;have c5b1:((rdOf ByteArray.empty l0 x5_1).toList != a1.toList)=false:=bne_eq_false_iff_eq.mpr c5;clear c5;obtain rfl:=Option.some.inj H;have p221:0 ≤ (x5_1:Int):=of_decide_eq_true (by first|(with_reducible assumption)|assumption);have q221:x5_1 < (l0.length:Int):=of_decide_eq_true (by first|(with_reducible assumption)|assumption);obtain ⟨ad221,e221,hx221_0⟩:=Kd.at_string HR0.out x5_1 p221 q221;cases e221;replace p221:=eq_true p221;replace q221:=eq_true q221;go_wp2;go_ret;exact ⟨by first|rfl|(simp;done)|(simp [*];done),by repeat (first|exact Drawn0.refl _|apply Drawn0.step)⟩
     ·rw [if_neg c5] at H;have c5b0:((rdOf ByteArray.empty l0 x5_1).toList == a1.toList)=false:=beq_eq_false_iff_ne.mpr c5;have c5b1:((rdOf ByteArray.empty l0 x5_1).toList != a1.toList)=true:=bne_iff_ne.mpr c5;have H':=Aside0.mk H;clear H;have p221:0 ≤ (x5_1:Int):=of_decide_eq_true (by first|(with_reducible assumption)|assumption);have q221:x5_1 < (l0.length:Int):=of_decide_eq_true (by first|(with_reducible assumption)|assumption);obtain ⟨ad221,e221,hx221_0⟩:=Kd.at_string HR0.out x5_1 p221 q221;cases e221;replace p221:=eq_true p221;replace q221:=eq_true q221;go_wp2;go_roundg k1
      case measure=>have:=HK1.out;omega
      case rel=>exact ⟨(wrap64 (x5_1 + 1)),(by first|rfl|(simp;done)|(simp [*];done)),H',⟨by have:=HK1.out;omega⟩,by repeat (first|exact Drawn0.refl _|apply Drawn0.step)⟩
    ·rw [if_neg c4] at H;exact absurd H (by simp)
   ·rw [if_neg c3] at H;have c3b0:decide (x5_1 < (l0.length:Int))=false:=decide_eq_false c3;clear c3;obtain rfl:=Option.some.inj H;go_wp2;go_ret;exact ⟨by first|rfl|(simp;done)|(simp [*];done),by repeat (first|exact Drawn0.refl _|apply Drawn0.step)⟩
end Go.Proofs.YtjbjbeihkoeciaaDoor.X

/- Joined texts of this session, without what nothing needs: PairAt, PairS, AtFn, All, AllFn, Open0, OpenRules, Xhucksterref21Same, Xhucksterlaw21light, Same21, Awake21. -/
import Derived.Deep.Slices
import Derived.Deep.Fields
import Derived.ChangeArms
import Derived.DataReads
import Derived.OpenShut
import Derived.Laws.Tables
import Derived.Test.YtjbjbeihkoeciaaK1
import Derived.Test.YtjbjbeihkoeciaaK3
import Derived.Test.YtjbjbeihkoeciaaK5
import Derived.Test.YtjbjbeihkoeciaaK9
set_option linter.unusedVariables false
set_option linter.unusedSimpArgs false
namespace Go.Proofs.Ytjbjbeihkoeciaa.X
open Go.RowKit Go.Proofs.YtjbjbeihkoeciaaW.PrintWords Go.Proofs.YtjbjbeihkoeciaaW.PrintLast Go.Proofs.YtjbjbeihkoeciaaW.PrintMore
theorem C_ints2 {w:World} {g t:Nat} {a b:Int} (hb:w.heap[g]? = some (.cells #[.int .i64 a,.int .i64 b] t (0,0))):Kd.C (Kd.int .i64) w (some ⟨g,0,none⟩) 2 [a,b]:=by
 refine ⟨rfl,by decide,fun _=>⟨⟨g,0,none⟩,rfl,fun j p hj=>?_⟩⟩;match j,hj with
 | 0,hj =>
  cases hj;refine ⟨[.int .i64 a],rfl,rfl,fun i u hu=>?_⟩;match i,hu with
  | 0,hu=>cases hu;exact (blk_cell hb 0).trans rfl
 | 1,hj =>
  cases hj;refine ⟨[.int .i64 b],rfl,rfl,fun i u hu=>?_⟩;match i,hu with
  | 0,hu=>cases hu;exact (blk_cell hb 1).trans rfl
set_option maxHeartbeats 8000000 in
set_option maxRecDepth 100000 in
theorem at_no (A0:Option Addr) (n0 c0:Nat) (A1:Option Addr) (n1 c1:Nat) (A2:Option Addr) (n2 c2:Nat) (A3:Option Addr) (n3 c3:Nat) (A4:Option Addr) (n4 c4:Nat) (Ad:Option Addr) (nd cd:Nat) (a b cl:Int) (w:World)
  (mv:Bool) (hmay:∀ w',Below w.heap.size w w' → Calls Try.prog 49 #[.agg #[.slice A0 n0 c0,.slice A1 n1 c1,.slice A2 n2 c2,.slice A3 n3 c3,.slice A4 n4 c4],.slice Ad nd cd,.int .i64 a,.int .i64 b] w' fun e w''=>e = .returned (.bool mv)∧Below w'.heap.size w' w'') (hno:¬ (mv=true∧0 ≤ cl∧cl < (n3:Int))) :
  Calls Try.prog 14 #[.agg #[.slice A0 n0 c0,.slice A1 n1 c1,.slice A2 n2 c2,.slice A3 n3 c3,.slice A4 n4 c4],.slice Ad nd cd,.int .i64 a,.int .i64 b,.int .i64 cl] w fun e w'=>∃ v0 v1:Value,e = .returned (.tuple #[.agg #[v0,v1],.bool false])∧v0 = .slice none 0 0∧v1 = .slice none 0 0∧Below w.heap.size w w':=by
 have HNO:=Sd.mk hno;clear hno;have HMAY:=Sd.mk hmay;clear hmay;go_enter Try.func14,Try.ntmps14;go_upto_region 1 with (first|((with_reducible refine gate_dst (N:=5) rfl ?_);refine box_event ?hg (N:=5) ?hd (cs:=#[.slice A0 n0 c0,.slice A1 n1 c1,.slice A2 n2 c2,.slice A3 n3 c3,.slice A4 n4 c4]) (t:=26) ?hr ?_;(case hd=>rfl);(case hg=>rfl);(case hr=>first|(go_simp;done)|(go_simp;rfl));intro g hg w3 hbox hb;have HB3:=Sd.mk hb;have BK:=Sd.mk hbox;clear hb hbox hg)|((with_reducible refine gate_dst (N:=10) rfl ?_);refine box_event ?hg (N:=10) ?hd (cs:=#[.slice none 0 0,.slice none 0 0]) (t:=38) ?hr ?_;(case hd=>rfl);(case hg=>rfl);(case hr=>first|(go_simp;done)|(go_simp;rfl));intro g4 hg w4 hbox hb;have HG4:Sd (w.heap.size ≤ g4):=⟨by rw [hg];exact below_size HB3.out⟩;have HB4:=Sd.mk (below_step HB3.out hb);have BKr:=Sd.mk (blk_below BK.out hb);have BK4:=Sd.mk hbox;clear hb hbox hg));obtain ⟨ha0,ha1,ha2,ha3,ha4⟩:=bc5 BKr.out;go_wp2_with fail;refine (HMAY.out _ HB4.out).mono ?_;rintro e w5 ⟨rfl,hb5⟩;have HB5:=Sd.mk (below_step HB4.out hb5);have BKr5:=Sd.mk (blk_below BKr.out hb5);have BK45:=Sd.mk (blk_below BK4.out hb5);clear hb5 ha0 ha1 ha2 ha3 ha4 HB3 HB4 BK BKr BK4;(have hbl:∀ w:World,(Instr.build 38 #[]).run Try.prog w = .ok (.agg #[.slice none 0 0,.slice none 0 0]) w:=fun _=>by kernel_rfl);have ha3:w5.cell? ⟨g,3,none⟩=some (.slice A3 n3 c3):=(blk_cell BKr5.out 3).trans rfl;have hc0:=(blk_cell BK45.out 0);have hc1:=(blk_cell BK45.out 1);obtain ⟨hf0,hf1⟩:=bf2 BK45.out;cases mv with
 | false =>
  go_wp2_with fail;refine bodyPost_ret (results_ct rfl _ _ g4 38 #[.slice none 0 0,.slice none 0 0] (0,0) _ rfl (by refine blk_put (cs:=#[.slice none 0 0,.slice none 0 0]) ?_ 1 _ rfl;refine blk_put (cs:=#[.slice none 0 0,.slice none 0 0]) ?_ 0 _ rfl;exact BK45.out) Try.underlying38 rfl (by kernel_rfl)) rfl ?_;exact ⟨_,_,rfl,rfl,rfl,below_set (below_set HB5.out HG4.out) HG4.out⟩
 | true =>
  by_cases h0:cl < 0
  ·have h0':decide (cl < 0)=true:=decide_eq_true h0;go_wp2_with fail;refine bodyPost_ret (results_ct rfl _ _ g4 38 #[.slice none 0 0,.slice none 0 0] (0,0) _ rfl (by refine blk_put (cs:=#[.slice none 0 0,.slice none 0 0]) ?_ 1 _ rfl;refine blk_put (cs:=#[.slice none 0 0,.slice none 0 0]) ?_ 0 _ rfl;exact BK45.out) Try.underlying38 rfl (by kernel_rfl)) rfl ?_;exact ⟨_,_,rfl,rfl,rfl,below_set (below_set HB5.out HG4.out) HG4.out⟩
  ·have h0':decide (cl < 0)=false:=decide_eq_false h0;have h1:decide ((n3:Int) ≤ cl)=true:=decide_eq_true (Classical.byContradiction fun hc=>HNO.out ⟨rfl,by omega,by omega⟩);go_wp2_with fail;refine bodyPost_ret (results_ct rfl _ _ g4 38 #[.slice none 0 0,.slice none 0 0] (0,0) _ rfl (by refine blk_put (cs:=#[.slice none 0 0,.slice none 0 0]) ?_ 1 _ rfl;refine blk_put (cs:=#[.slice none 0 0,.slice none 0 0]) ?_ 0 _ rfl;exact BK45.out) Try.underlying38 rfl (by kernel_rfl)) rfl ?_;exact ⟨_,_,rfl,rfl,rfl,below_set (below_set HB5.out HG4.out) HG4.out⟩
set_option maxHeartbeats 8000000 in
set_option maxRecDepth 100000 in
theorem at_yes (A0:Option Addr) (n0 c0:Nat) (A1:Option Addr) (n1 c1:Nat) (A2:Option Addr) (n2 c2:Nat) (A3:Option Addr) (n3 c3:Nat) (A4:Option Addr) (n4 c4:Nat) (Ad:Option Addr) (nd cd:Nat) (a b cl:Int) (w:World)
  (hmay:∀ w',Below w.heap.size w w' → Calls Try.prog 49 #[.agg #[.slice A0 n0 c0,.slice A1 n1 c1,.slice A2 n2 c2,.slice A3 n3 c3,.slice A4 n4 c4],.slice Ad nd cd,.int .i64 a,.int .i64 b] w' fun e w''=>e = .returned (.bool true)∧Below w'.heap.size w' w'') (h0:0 ≤ cl) (h1:cl < (n3:Int)) (val:Int → List Bool) (sts:List Sm) (fd:Bool) (x:Sm)
  (htab:∀ w' Ao,Below w.heap.size w w' → Kd.C (Kd.int .i64) w' Ao 2 [a,b] → Calls Try.prog 50 #[.agg #[.slice A0 n0 c0,.slice A1 n1 c1,.slice A2 n2 c2,.slice A3 n3 c3,.slice A4 n4 c4],.slice Ao 2 2] w' fun e w''=>∃ vs mb fs,e = .returned (.agg #[vs,.map (some mb)])∧TabW w'.heap.size w'' mb fs val vs sts∧Below w'.heap.size w' w'')
  (hatt:∀ w' w0s mb fs vs,Below w.heap.size w w' → TabW w0s w' mb fs val vs sts → w0s ≤ w'.heap.size → Calls Try.prog 51 #[.agg #[vs,.map (some mb)],.agg #[.slice A0 n0 c0,.slice A1 n1 c1,.slice A2 n2 c2,.slice A3 n3 c3,.slice A4 n4 c4],.slice Ad nd cd,.int .i64 a,.int .i64 b,.int .i64 cl] w' fun e w''=>∃ v0 v1:Value,e = .returned (.tuple #[.agg #[v0,v1],.bool fd])∧Kd.R Kd.bool 4 w'' w0s (fun _=>True) v0 x.f0∧Kd.R (Kd.int .i64) 3 w'' w0s (fun _=>True) v1 x.f1∧Below w'.heap.size w' w'') :
  Calls Try.prog 14 #[.agg #[.slice A0 n0 c0,.slice A1 n1 c1,.slice A2 n2 c2,.slice A3 n3 c3,.slice A4 n4 c4],.slice Ad nd cd,.int .i64 a,.int .i64 b,.int .i64 cl] w fun e w'=>∃ v0 v1:Value,e = .returned (.tuple #[.agg #[v0,v1],.bool fd])∧Kd.R Kd.bool 4 w' w.heap.size (fun _=>True) v0 x.f0∧Kd.R (Kd.int .i64) 3 w' w.heap.size (fun _=>True) v1 x.f1∧Below w.heap.size w w':=by
 have HTAB:=Sd.mk htab;have HATT:=Sd.mk hatt;clear htab hatt;have HMAY:=Sd.mk hmay;clear hmay;go_enter Try.func14,Try.ntmps14;go_upto_region 1 with (first|((with_reducible refine gate_dst (N:=5) rfl ?_);refine box_event ?hg (N:=5) ?hd (cs:=#[.slice A0 n0 c0,.slice A1 n1 c1,.slice A2 n2 c2,.slice A3 n3 c3,.slice A4 n4 c4]) (t:=26) ?hr ?_;(case hd=>rfl);(case hg=>rfl);(case hr=>first|(go_simp;done)|(go_simp;rfl));intro g hg w3 hbox hb;have HB3:=Sd.mk hb;have BK:=Sd.mk hbox;clear hb hbox hg)|((with_reducible refine gate_dst (N:=10) rfl ?_);refine box_event ?hg (N:=10) ?hd (cs:=#[.slice none 0 0,.slice none 0 0]) (t:=38) ?hr ?_;(case hd=>rfl);(case hg=>rfl);(case hr=>first|(go_simp;done)|(go_simp;rfl));intro g4 hg w4 hbox hb;have HG4:Sd (w.heap.size ≤ g4):=⟨by rw [hg];exact below_size HB3.out⟩;have HB4:=Sd.mk (below_step HB3.out hb);have BKr:=Sd.mk (blk_below BK.out hb);have BK4:=Sd.mk hbox;clear hb hbox hg));obtain ⟨ha0,ha1,ha2,ha3,ha4⟩:=bc5 BKr.out;go_wp2_with fail;refine (HMAY.out _ HB4.out).mono ?_;rintro e w5 ⟨rfl,hb5⟩;have HB5:=Sd.mk (below_step HB4.out hb5);have BKr5:=Sd.mk (blk_below BKr.out hb5);have BK45:=Sd.mk (blk_below BK4.out hb5);clear hb5 ha0 ha1 ha2 ha3 ha4 HB3 HB4 BK BKr BK4;have h0':decide (cl < 0)=false:=decide_eq_false (by omega);have h1':decide ((n3:Int) ≤ cl)=false:=decide_eq_false (by omega);have ha3:w5.cell? ⟨g,3,none⟩=some (.slice A3 n3 c3):=(blk_cell BKr5.out 3).trans rfl;go_wp2_with fail;clear ha3;have HD:Sd (Below w5.heap.size w5 w5.drew):=⟨below_drew (Below.refl _ _)⟩;have HDA:Sd (Below w5.heap.size w5 (w5.alloc (.cells #[.int .i64 a,.int .i64 b] 3 (0,0))).drew):=⟨below_drew (below_alloc (Below.refl _ _) _)⟩;have HNEW:Sd ((w5.alloc (.cells #[.int .i64 a,.int .i64 b] 3 (0,0))).drew.heap[w5.drew.heap.size]? = some (.cells #[.int .i64 a,.int .i64 b] 3 (0,0))):=⟨by
  show (w5.alloc _).heap[w5.heap.size]? = _
  exact heap_alloc_new w5 _⟩
 have HALL:Sd (∀ w',Below w5.heap.size w5 w' → (w'.cell? ⟨g,0,none⟩=some (.slice A0 n0 c0))∧(w'.cell? ⟨g,1,none⟩=some (.slice A1 n1 c1))∧(w'.cell? ⟨g,2,none⟩=some (.slice A2 n2 c2))∧(w'.cell? ⟨g,3,none⟩=some (.slice A3 n3 c3))∧(w'.cell? ⟨g,4,none⟩=some (.slice A4 n4 c4))):=⟨fun w' hw=>⟨(blk_cell (blk_below BKr5.out hw) 0).trans rfl,(blk_cell (blk_below BKr5.out hw) 1).trans rfl,(blk_cell (blk_below BKr5.out hw) 2).trans rfl,(blk_cell (blk_below BKr5.out hw) 3).trans rfl,(blk_cell (blk_below BKr5.out hw) 4).trans rfl⟩⟩;obtain ⟨fc0,fc1,fc2,fc3,fc4⟩:=HALL.out _ HD.out;refine start_ (n:=15) (S:=fun w'=>w'.cell? ⟨g,0,none⟩=some (.slice A0 n0 c0)∧w'.cell? ⟨g,1,none⟩=some (.slice A1 n1 c1)∧w'.cell? ⟨g,2,none⟩=some (.slice A2 n2 c2)∧w'.cell? ⟨g,3,none⟩=some (.slice A3 n3 c3)∧w'.cell? ⟨g,4,none⟩=some (.slice A4 n4 c4)) (ds:=[10,13]) (ab 15 0) (by kernel_rfl) rfl rfl ⟨fc0,fc1,fc2,fc3,fc4⟩ (fun hH=>?_);refine pure_ (i:=1) (N:=some 31) (v:=?_) (a':=?_) (ab 15 2) rfl rfl (by kernel_rfl) (fun _ _ _ h=>h) (Or.inl ⟨by rfl,?_⟩) ?_ ?_;rotate_left
 ·intro w';go_simp;with_reducible rfl
 rotate_left
 ·simp only [Act.put,q1_,q2_,q3_,i64_w,i32_w];rfl
 refine pure_ (i:=2) (N:=some 32) (v:=?_) (a':=?_) (ab 15 6) rfl rfl (by kernel_rfl) (fun _ _ _ h=>h) (Or.inl ⟨by rfl,?_⟩) ?_ ?_;rotate_left
 ·intro w';go_simp;with_reducible rfl
 rotate_left
 ·simp only [Act.put,q1_,q2_,q3_,i64_w,i32_w];rfl
 refine pure_ (i:=6) (N:=some 36) (v:=?_) (a':=?_) (ab 15 70) rfl rfl (by kernel_rfl) (fun _ _ _ h=>h) (Or.inl ⟨by rfl,?_⟩) ?_ ?_;rotate_left
 ·intro w';go_simp;with_reducible rfl
 rotate_left
 ·simp only [Act.put,q1_,q2_,q3_,i64_w,i32_w];rfl
 refine pure_ (i:=7) (N:=some 37) (v:=?_) (a':=?_) (ab 15 198) rfl rfl (by kernel_rfl) (fun _ _ _ h=>h) (Or.inl ⟨by rfl,?_⟩) ?_ ?_;rotate_left
 ·intro w';go_simp;with_reducible rfl
 rotate_left
 ·simp only [Act.put,q1_,q2_,q3_,i64_w,i32_w];rfl
 refine pure_ (i:=8) (N:=some 38) (v:=?_) (a':=?_) (ab 15 454) rfl rfl (by kernel_rfl) (fun _ _ _ h=>h) (Or.inl ⟨by rfl,?_⟩) ?_ ?_;rotate_left
 ·intro w';go_simp;with_reducible rfl
 rotate_left
 ·simp only [Act.put,q1_,q2_,q3_,i64_w,i32_w];rfl
 refine pure_ (i:=9) (N:=some 39) (v:=?_) (a':=?_) (ab 15 966) rfl rfl (by kernel_rfl) (fun _ _ _ h=>h) (Or.inl ⟨by rfl,?_⟩) ?_ ?_;rotate_left
 ·intro w';go_simp;with_reducible rfl
 rotate_left
 ·simp only [Act.put,q1_,q2_,q3_,i64_w,i32_w];rfl
 refine take_ (i:=0) (N:=some 30) (v:=?_) (a':=?_) (ab 15 967) rfl rfl (by kernel_rfl) (fun _ _ _ h=>h) (Or.inl ⟨by rfl,?_⟩) hH ?_ ?_;rotate_left
 ·rintro w' ⟨s0,s1,s2,s3,s4⟩;go_simp;with_reducible rfl
 rotate_left
 ·simp only [Act.put,q1_,q2_,q3_,i64_w,i32_w];rfl
 refine take_ (i:=5) (N:=some 35) (v:=?_) (a':=?_) (ab 15 999) rfl rfl (by kernel_rfl) (fun _ _ _ h=>h) (Or.inl ⟨by rfl,?_⟩) hH ?_ ?_;rotate_left
 ·rintro w' ⟨s0,s1,s2,s3,s4⟩;go_simp;with_reducible rfl
 rotate_left
 ·simp only [Act.put,q1_,q2_,q3_,i64_w,i32_w];rfl
 refine one_ (i:=3) (N:=some 33) (ab 15 1007) rfl rfl (by kernel_rfl) (by decide) (fun K hK=>?_);refine value_ (w1:=?_) (v:=?_) (by rfl) rfl ?_ ?_;rotate_left 2
 ·go_simp;constructor
  ·rfl
  ·rfl
 have HA:=Sd.mk (HALL.out _ HDA.out);refine hK.out _ _ ⟨(HA.out).1,(HA.out).2.1,(HA.out).2.2.1,(HA.out).2.2.2.1,(HA.out).2.2.2.2⟩ (fun hH=>?_);clear hK K;refine norm_ (a':=?_) ?_ ?_;rotate_left
 ·show Act.put _ (some 33) _=_;simp only [Act.put,q1_,q2_,q3_,i64_w,i32_w];rfl
 refine one_ (i:=4) (N:=some 34) (ab 15 1023) rfl rfl (by kernel_rfl) (by decide) (fun K hK=>?_);refine goes_ Try.func50 (by kernel_rfl) rfl #[.agg #[.slice A0 n0 c0,.slice A1 n1 c1,.slice A2 n2 c2,.slice A3 n3 c3,.slice A4 n4 c4],.slice (some ⟨w5.drew.heap.size,0,none⟩) 2 2] (by rfl) rfl rfl (by simp only [List.map_toArray,List.map_cons,List.map_nil];rfl) ?_;(with_reducible refine ((HTAB.out _ (some ⟨w5.drew.heap.size,0,none⟩) (below_step HB5.out HDA.out) (C_ints2 (t:=3) HNEW.out))).mono ?_);rintro e wB ⟨vs,mb,fs,rfl,hT,hbB⟩;refine ⟨_,rfl,?_⟩;have HT:=Sd.mk hT;have HBB:=Sd.mk (below_step HDA.out hbB);have HWW:=Sd.mk hbB.size;have HA2:=Sd.mk (HALL.out _ HBB.out);clear hT hbB;refine hK.out _ _ ⟨(HA2.out).1,(HA2.out).2.1,(HA2.out).2.2.1,(HA2.out).2.2.2.1,(HA2.out).2.2.2.2⟩ (fun hH=>?_);clear hK K;refine norm_ (a':=?_) ?_ ?_;rotate_left
 ·show Act.put _ (some 34) _=_;simp only [Act.put,q1_,q2_,q3_,i64_w,i32_w];rfl
 refine last_ (i:=10) (N:=some 40) (ab 15 2047) rfl rfl (by kernel_rfl) (by decide) (fun K hK=>?_);refine goes_ Try.func51 (by kernel_rfl) rfl #[.agg #[vs,.map (some mb)],.agg #[.slice A0 n0 c0,.slice A1 n1 c1,.slice A2 n2 c2,.slice A3 n3 c3,.slice A4 n4 c4],.slice Ad nd cd,.int .i64 a,.int .i64 b,.int .i64 cl] (by rfl) rfl rfl (by simp only [List.map_toArray,List.map_cons,List.map_nil];rfl) ?_;(with_reducible refine ((HATT.out _ _ mb fs vs (below_step HB5.out HBB.out) HT.out HWW.out)).mono ?_);rintro e wC ⟨y0,y1,rfl,hy0,hy1,hbC⟩;refine ⟨_,rfl,?_⟩;obtain ⟨E0,f0,rfl,_,_⟩:=Kd.R_reads hy0;obtain ⟨E1,f1,rfl,_,_⟩:=Kd.R_reads hy1;have HY0:=Sd.mk hy0;have HY1:=Sd.mk hy1;have HBC:=Sd.mk (below_step HBB.out hbC);have BKc:=Sd.mk (blk_below BK45.out HBC.out);have hc0:=(blk_cell BKc.out 0);have hc1:=(blk_cell BKc.out 1);obtain ⟨hf0,hf1⟩:=bf2 BKc.out;clear hy0 hy1 hbC;refine hK.out _ _ ?_;clear hK K;refine norm_ (a':=?_) ?_ ?_;rotate_left
 ·show Act.put _ (some 40) _=_;simp only [Act.put,q1_,q2_,q3_,i64_w,i32_w];rfl
 refine pure_ (i:=11) (N:=some 41) (v:=?_) (a':=?_) (ab 15 4095) rfl rfl (by kernel_rfl) (fun _ _ _ h=>h) (Or.inl ⟨by rfl,?_⟩) ?_ ?_;rotate_left
 ·intro w';go_simp;with_reducible rfl
 rotate_left
 ·simp only [Act.put,q1_,q2_,q3_,i64_w,i32_w];rfl
 refine pure_ (i:=12) (N:=some 42) (v:=?_) (a':=?_) (ab 15 8191) rfl rfl (by kernel_rfl) (fun _ _ _ h=>h) (Or.inl ⟨by rfl,?_⟩) ?_ ?_;rotate_left
 ·intro w';go_simp;with_reducible rfl
 rotate_left
 ·simp only [Act.put,q1_,q2_,q3_,i64_w,i32_w];rfl
 refine last_ (i:=13) (N:=none) (ab 15 16383) rfl rfl (by kernel_rfl) (by decide) (fun K hK=>?_);refine skip_ (w1:=?_) (by rfl) rfl ?_ ?_;rotate_left
 ·go_simp;rfl
 refine hK.out _ _ ?_;clear hK K;refine pure_ (i:=14) (N:=some 11) (v:=?_) (a':=?_) (ab 15 32767) rfl rfl (by kernel_rfl) (fun _ _ _ h=>h) (Or.inl ⟨by rfl,?_⟩) ?_ ?_;rotate_left
 ·intro w';go_simp;with_reducible rfl
 rotate_left
 ·simp only [Act.put,q1_,q2_,q3_,i64_w,i32_w];rfl
 refine done_ (by kernel_rfl) ?_;go_wp2_with fail;refine bodyPost_ret (results_ct rfl _ _ g4 38 #[.slice E0 x.f0.length f0,.slice E1 x.f1.length f1] (0,0) _ rfl (by refine blk_put (cs:=#[.slice E0 x.f0.length f0,.slice none 0 0]) ?_ 1 _ rfl;refine blk_put (cs:=#[.slice none 0 0,.slice none 0 0]) ?_ 0 _ rfl;exact BKc.out) Try.underlying38 rfl (by kernel_rfl)) rfl ?_;have hle:w.heap.size ≤ (w5.alloc (.cells #[.int .i64 a,.int .i64 b] 3 (0,0))).drew.heap.size:=below_size (below_step HB5.out HDA.out);refine ⟨_,_,rfl,?_,?_,below_set (below_set (below_step HB5.out HBC.out) HG4.out) HG4.out⟩
 ·exact Kd.R_set (Kd.R_set (Kd.R_lower HY0.out hle) BKc.out (by decide) 0 _) (blk_put (cs:=#[.slice none 0 0,.slice none 0 0]) BKc.out 0 _ rfl) (by decide) 1 _
 ·exact Kd.R_set (Kd.R_set (Kd.R_lower HY1.out hle) BKc.out (by decide) 0 _) (blk_put (cs:=#[.slice none 0 0,.slice none 0 0]) BKc.out 0 _ rfl) (by decide) 1 _
end Go.Proofs.Ytjbjbeihkoeciaa.X
namespace Go.Proofs.Ytjbjbeihkoeciaa.X
open Go.RowKit Go.Proofs.YtjbjbeihkoeciaaW.PrintWords Go.Proofs.YtjbjbeihkoeciaaW.PrintLast Go.Proofs.YtjbjbeihkoeciaaW.PrintMore
theorem wB_ok {n lo hi:Int} (h:wB n lo hi=true):lo ≤ n∧n ≤ hi:=by
 unfold wB at h;rw [Bool.and_eq_true] at h;exact ⟨of_decide_eq_true h.1,of_decide_eq_true h.2⟩
theorem checkB_parts {l0 l1 l2:List ByteArray} {l3:List Cl} {l4:List Op_} (h:checkB l0 l1 l2 l3 l4=true) :
  (l0.length ≤ 6∧l1.length ≤ 4∧l2.length ≤ 3∧l3.length ≤ 12∧l4.length ≤ 16)∧(∀ c ∈ l3,clB l0.length l1.length c=true)∧(∀ o ∈ l4,operOk l0.length l1.length l2.length o.f1=true):=by
 unfold checkB at h;(split at h;· cases h);(split at h;· cases h);(split at h;· cases h);(split at h;· cases h);(split at h;· cases h);simp only [Bool.and_eq_true,Bool.not_eq_true',List.any_eq_false,Bool.not_eq_false'] at h;refine ⟨by omega,fun c hc=>by simpa using h.2.2.1 c hc,fun o ho=>by simpa using h.2.2.2 o ho⟩
theorem operU_mem {ns nc nn:Nat}:∀ (l:List Dg) (seen:List (Int × Int)),operU ns nc nn seen l=true → ∀ d ∈ l,doB ns nc nn d=true
 | [],_,_,d,hd=>by simp at hd
 | x :: r,seen,h,d,hd=>by
  rw [operU,Bool.and_eq_true,Bool.and_eq_true] at h;rcases List.mem_cons.1 hd with rfl|hd
  ·exact h.1
  ·exact operU_mem r _ h.2.2 d hd
theorem doB_le {ns nc nn:Nat} {d:Dg} (h:doB ns nc nn d=true) : -1000 ≤ d.f2∧d.f2 ≤ 1000:=by
 unfold doB at h;split at h
 ·simp only [Bool.and_eq_true,beq_iff_eq] at h;omega
 split at h
 ·rw [Bool.and_eq_true] at h;have:=wB_ok h.2;omega
 split at h
 ·simp only [Bool.and_eq_true,beq_iff_eq] at h;omega
 ·cases h
theorem clB_le {ns nc:Nat} {c:Cl} (h:clB ns nc c=true) : -1000 ≤ c.f4∧c.f4 ≤ 1000:=by
 unfold clB at h;split at h
 ·simp only [Bool.and_eq_true,beq_iff_eq] at h;omega
 split at h
 ·simp only [Bool.and_eq_true,beq_iff_eq] at h;omega
 split at h
 ·simp only [Bool.and_eq_true] at h;have:=wB_ok h.2.2.1;omega
 split at h
 ·simp only [Bool.and_eq_true] at h;have:=wB_ok h.2.2.1;omega
 split at h
 ·simp only [Bool.and_eq_true] at h;have:=wB_ok h.2.2.1;omega
 ·cases h
theorem ref_ev (c:Cl) (a b:Int) (ha:a=1 ∨ a=0 ∨ a = -1) (hb:b=1 ∨ b=0 ∨ b = -1):wp_ref.f 4 c.f0 c.f1 c.f2 c.f3 c.f4 a b=some (0,refN c a b):=by
 rcases ha with rfl|rfl|rfl <;> rcases hb with rfl|rfl|rfl <;> rfl
theorem both_ev (c:Cl) (a b:Int) (ha:a=1 ∨ a=0 ∨ a = -1) (hb:b=1 ∨ b=0 ∨ b = -1):wp_both.f 4 c.f0 c.f1 c.f2 c.f3 c.f4 a b=some (0,bothN c a b):=by
 rcases ha with rfl|rfl|rfl <;> rcases hb with rfl|rfl|rfl <;> rfl
theorem needsR_len (l4:List Op_) (o:Int):∀ (l:List Cl) (i:Nat),(needsR l4 o l i).length ≤ l.length
 | [],_=>Nat.le_refl _
 | c :: r,i=>by
  unfold needsR;have:=needsR_len l4 o r (i + 1);split <;> simp <;> omega
section
variable (l0 l1 l2:List ByteArray) (l3:List Cl) (l4:List Op_) (hck:checkB l0 l1 l2 l3 l4=true) (hru:RuOk l0 l1 l2 l3 l4)
include hck
theorem dlen:∀ x ∈ l4,x.f1.length ≤ 4000000000:=fun x hx=>by
 have h:=(checkB_parts hck).2.2 x hx;unfold operOk at h;rw [Bool.and_eq_true] at h;have:=wB_ok h.1;omega
theorem dle:∀ x ∈ l4,∀ d ∈ x.f1,-1000 ≤ d.f2∧d.f2 ≤ 1000:=fun x hx d hd=>by
 have h:=(checkB_parts hck).2.2 x hx;unfold operOk at h;rw [Bool.and_eq_true] at h;exact doB_le (operU_mem _ _ h.2 d hd)
theorem of_ev (o:Int) (c:Cl) (hc:clB l0.length l1.length c=true):Ev (fun k=>wp_of.f k l0 l1 l2 l3 l4 o c.f0 c.f1 c.f2 c.f3 c.f4) (0,ofN l4 o c):=by
 have hd:=dlen l0 l1 l2 l3 l4 hck;have hb:=dle l0 l1 l2 l3 l4 hck;have h4:=clB_le hc;(have mk:=fun s=>make_ev l0 l1 l2 l3 l4 o s hd);(have mo:=fun s=>more_ev l0 l1 l2 l3 l4 o s hd hb);(have ml:=fun s=>moreN_le l4 hb o s);(have mi:=fun s=>makeL_is (doesO l4 o) s);unfold wp_of.f ofN;by_cases k4:c.f0=4
 ·rw [if_pos k4];refine Ev.yes k4 (Ev.bind (mk _) (Ev.bind (mk _) (Ev.bind (Ev.of (k:=4) (wp_ref.mono _ _ _ _ _ _ _) (ref_ev c _ _ (mi _) (mi _))) (Ev.now _))))
 rw [if_neg k4];refine Ev.no k4 ?_;by_cases k5:c.f0=5
 ·rw [if_pos k5];refine Ev.yes k5 (Ev.bind (mk _) (Ev.bind (mk _) (Ev.bind (Ev.of (k:=4) (wp_both.mono _ _ _ _ _ _ _) (both_ev c _ _ (mi _) (mi _))) (Ev.now _))))
 rw [if_neg k5];refine Ev.no k5 ?_;by_cases k9:c.f0=9
 ·rw [if_pos k9];refine Ev.yes k9 (Ev.bind (mo _) (Ev.bind (mk _) ?_));have e:wp_needs.f c.f0 c.f1 c.f2 c.f3 c.f4 (moreN l4 o c.f2) (makeN l4 o c.f3)=some (0,needsN c (moreN l4 o c.f2) (makeN l4 o c.f3)):=by
   have h1:=ml c.f2;(have hw:wrap64 (-moreN l4 o c.f2) = -moreN l4 o c.f2:=by unfold wrap64;omega);unfold wp_needs.f needsN;rw [hw];split
   ·rfl
   ·split
    ·rfl
    ·split <;> rfl
  exact Ev.bind1 e (Ev.now _)
 rw [if_neg k9];refine Ev.no k9 ?_;by_cases k6:c.f0=6
 ·rw [if_pos k6];refine Ev.yes k6 (Ev.bind (mk _) ?_);by_cases h:makeN l4 o c.f2=1
  ·simp only [if_pos h];exact Ev.now _
  ·simp only [if_neg h];exact Ev.now _
 rw [if_neg k6];refine Ev.no k6 ?_;(have hw:wrap64 (c.f4 - moreN l4 o c.f2)=c.f4 - moreN l4 o c.f2:=by have:=ml c.f2;unfold wrap64;omega);by_cases k7:c.f0=7
 ·rw [if_pos k7];refine Ev.yes k7 (Ev.bind (mo _) ?_);rw [hw];by_cases h:moreN l4 o c.f2 > 0
  ·simp only [if_pos h];exact Ev.now _
  ·simp only [if_neg h];exact Ev.now _
 rw [if_neg k7];refine Ev.no k7 ?_;by_cases k8:c.f0=8
 ·rw [if_pos k8];refine Ev.yes k8 (Ev.bind (mo _) ?_);rw [hw];by_cases h:moreN l4 o c.f2 < 0
  ·simp only [if_pos h];exact Ev.now _
  ·simp only [if_neg h];exact Ev.now _
 rw [if_neg k8];exact Ev.no k8 (Ev.now _)
theorem needs_ev (hru:RuOk l0 l1 l2 l3 l4) (o:Int) (ho:0 ≤ o∧o < (l4.length:Int)):Ev (fun k=>wp_Needs.f k l0 l1 l2 l3 l4 o) (needsR l4 o l3 0,0):=by
 unfold wp_Needs.f;refine Ev.bind1 (show sorts_Check.f l0 l1 l2 l3 l4=some 0 by unfold sorts_Check.f checkE;rw [if_pos hru,hck];rfl) (Ev.yes rfl (Ev.bind1 (there_f _ _ _ _ _ _) ?_));rw [decide_eq_true ho];refine Ev.yes rfl ?_;have hpt:=checkB_parts hck;have h:∀ (m pos:Nat) (acc:List Nd),pos + m=l3.length → acc.length ≤ pos → Ev (fun k=>wp_Needs.l0 k o acc l3 (l3.length:Int) (pos:Int) l0 l1 l2 l3 l4) (acc ++ needsR l4 o (l3.drop pos) pos,0):=by
  intro m;induction m with
  | zero =>
   intro pos acc hp ha;(obtain rfl:pos=l3.length:=by omega);refine Ev.succ ?_;simp only [wp_Needs.l0,List.drop_length];exact Ev.no (by omega) (Ev.is (by simp [needsR]))
  | succ m ih =>
   intro pos acc hp ha;refine Ev.succ ?_;simp only [wp_Needs.l0,rdCl_at];have hm:=getD_at l3 z70 pos (by omega);have hcl:=hpt.2.1 _ hm;rw [wrap_up pos (by omega),drop_getD l3 z70 pos (by omega),needsR];generalize l3.getD pos z70=c at *;refine Ev.yes (by omega) (Ev.yes (by omega) (Ev.yes (by omega) (Ev.bind (of_ev l0 l1 l2 l3 l4 hck o c hcl) ?_)));by_cases hz:(ofN l4 o c).1=0
   ·rw [if_pos hz];exact Ev.yes hz (ih (pos + 1) acc (by omega) (by omega))
   ·rw [if_neg hz];refine Ev.no hz (Ev.yes (by omega) ?_);have h2:=ih (pos + 1) (acc ++ [⟨(pos:Int),(ofN l4 o c).1,(ofN l4 o c).2.1,(ofN l4 o c).2.2.1,(ofN l4 o c).2.2.2⟩]) (by omega) (by simp;omega);rwa [List.append_assoc,List.singleton_append] at h2
 have h3:=h l3.length 0 [] (by omega) (by simp);simpa using h3
theorem check_f (hru:RuOk l0 l1 l2 l3 l4) (ss:List (List ByteArray)) (cs:List (List Ce)) (hst:StOk ss cs):eval_Check.f l0 l1 l2 l3 l4 ss cs=some (if mayS l0.length l1.length ss cs=true then 0 else 1):=by
 (have h1:sorts_Check.f l0 l1 l2 l3 l4=some 0:=by unfold sorts_Check.f checkE;rw [if_pos hru,hck];rfl);(have h2:eval_may.f l0 l1 l2 l3 l4 ss cs=some (mayS l0.length l1.length ss cs):=by unfold eval_may.f;rw [if_pos hst]);unfold eval_Check.f;rw [h1,Option.bind_some,if_pos rfl,h2,Option.bind_some];cases mayS l0.length l1.length ss cs <;> rfl
def firstN (ss:List (List ByteArray)) (cs:List (List Ce)) (o:Int):Int:=firstM ss cs kB (needsR l4 o l3 0)
omit hck in
theorem firstM_ev (ss:List (List ByteArray)) (cs:List (List Ce)) (hst:StOk ss cs) (key:ByteArray) (L:List Nd) (hL:L.length ≤ 4000000000):Ev (fun k=>wp_First.l0 k key L (L.length:Int) ((0:Nat):Int) ss cs) (firstM ss cs key L,0):=by
 refine Ev.loop (g:=fun k pos=>wp_First.l0 k key L (L.length:Int) (pos:Int) ss cs) (spec:=fun pos=>(firstM ss cs key (L.drop pos),0)) L.length ?_ ?_ 0 (by omega)
 ·refine Ev.succ ?_;simp only [wp_First.l0,List.drop_length];exact Ev.no (by omega) (Ev.now _)
 ·intro pos hp ih;refine Ev.succ ?_;simp only [wp_First.l0];(have e:rd_T48 L (pos:Int)=L.getD pos z48:=by simp [rd_T48]);rw [e,wrap_up pos (by omega),drop_getD L z48 pos hp,firstM];refine Ev.yes (by omega) (Ev.yes (by omega) (Ev.yes (by omega) (Ev.bind (met_ev ss cs hst key _) ?_)));cases metB ss cs key (L.getD pos z48)
  ·exact Ev.no (by decide) (Ev.is (by simp))
  ·exact Ev.yes rfl (by simpa using ih)
theorem first_ev (hru:RuOk l0 l1 l2 l3 l4) (ss:List (List ByteArray)) (cs:List (List Ce)) (hst:StOk ss cs) (hm:mayS l0.length l1.length ss cs=true) (o:Int) (ho:0 ≤ o∧o < (l4.length:Int)) :
  Ev (fun k=>wp_First.f k l0 l1 l2 l3 l4 ss cs o kB) (firstN l3 l4 ss cs o,0):=by
 unfold wp_First.f firstN;refine Ev.bind1 (check_f l0 l1 l2 l3 l4 hck hru ss cs hst) ?_;rw [if_pos hm];have hk:¬ kB.toList=([]:List UInt8):=by
  intro h;have:=key_k;unfold keyB at this;rw [decide_eq_true h] at this;cases this
 refine Ev.yes rfl (Ev.no hk ?_);rw [show decide ((kB.size:Int) > 32)=false from rfl];refine Ev.succ ?_;simp only [wp_First.j0];refine Ev.no (by decide) (Ev.bind (needs_ev l0 l1 l2 l3 l4 hck hru o ho) (Ev.yes rfl ?_));have hl:=needsR_len l4 o l3 0;have:=(checkB_parts hck).1;exact firstM_ev ss cs hst kB (needsR l4 o l3 0) (by omega)
theorem broken_ev (hru:RuOk l0 l1 l2 l3 l4) (ss:List (List ByteArray)) (cs:List (List Ce)) (hst:StOk ss cs) (hm:mayS l0.length l1.length ss cs=true) :
  Ev (fun k=>eval_Broken.f k l0 l1 l2 l3 l4 ss cs) (brL l3 ss cs):=by
 unfold eval_Broken.f;refine Ev.bind1 (check_f l0 l1 l2 l3 l4 hck hru ss cs hst) ?_;rw [if_pos hm];refine Ev.yes rfl ?_;have hpt:=checkB_parts hck;have h:Ev (fun k=>eval_Broken.l0 k (((List.range 0).filter fun i=>!holdsB ss cs (l3.getD i z70)).map fun (i:Nat)=>(i:Int)) l3 (l3.length:Int) ((0:Nat):Int) ss cs) (brL l3 ss cs):=by
  refine Ev.loop (g:=fun k pos=>eval_Broken.l0 k (((List.range pos).filter fun i=>!holdsB ss cs (l3.getD i z70)).map fun (i:Nat)=>(i:Int)) l3 (l3.length:Int) (pos:Int) ss cs) (spec:=fun _=>brL l3 ss cs) l3.length ?_ ?_ 0 (by omega)
  ·refine Ev.succ ?_;simp only [eval_Broken.l0];exact Ev.no (by omega) (Ev.now _)
  ·intro pos hp ih;refine Ev.succ ?_;simp only [eval_Broken.l0,rdCl_at];rw [wrap_up pos (by omega)];have hc:=hpt.2.1 _ (getD_at l3 z70 pos hp);have hh:eval_holds.f ss cs (l3.getD pos z70).f0 (l3.getD pos z70).f1 (l3.getD pos z70).f2 (l3.getD pos z70).f3 (l3.getD pos z70).f4=some (holdsB ss cs (l3.getD pos z70)):=if_pos (holds_ok hst hm hc);refine Ev.yes (by omega) (Ev.yes (by omega) (Ev.yes (by omega) (Ev.bind1 hh ?_)));rw [List.range_succ,List.filter_append,List.map_append] at ih;cases hb:holdsB ss cs (l3.getD pos z70)
   ·refine Ev.no (by decide) (Ev.yes ?_ ?_)
    ·rw [List.length_map];have:=List.length_filter_le (fun i=>!holdsB ss cs (l3.getD i z70)) (List.range pos);rw [List.length_range] at this;omega
    ·(have e:(([pos].filter fun i=>!holdsB ss cs (l3.getD i z70)).map fun (i:Nat)=>(i:Int)) = [(pos:Int)]:=by rw [List.filter_cons,hb];rfl);rw [e] at ih;exact ih
   ·(have e:(([pos].filter fun i=>!holdsB ss cs (l3.getD i z70)).map fun (i:Nat)=>(i:Int)) = []:=by rw [List.filter_cons,hb];rfl);rw [e,List.append_nil] at ih;exact Ev.yes rfl ih
 simpa using h
theorem holds_f (hru:RuOk l0 l1 l2 l3 l4) (ss:List (List ByteArray)) (cs:List (List Ce)) (hst:StOk ss cs) (hm:mayS l0.length l1.length ss cs=true) (i:Int) (h0:0 ≤ i) (h1:i < (l3.length:Int)) :
  eval_Holds.f l0 l1 l2 l3 l4 ss cs i=some (holdsB ss cs (rd_T70 l3 i)):=by
 have hc:=(checkB_parts hck).2.1 _ (getD_at l3 z70 i.toNat (by omega));have hh:eval_holds.f ss cs (rd_T70 l3 i).f0 (rd_T70 l3 i).f1 (rd_T70 l3 i).f2 (rd_T70 l3 i).f3 (rd_T70 l3 i).f4=some (holdsB ss cs (rd_T70 l3 i)):=if_pos (holds_ok hst hm hc);unfold eval_Holds.f;rw [check_f l0 l1 l2 l3 l4 hck hru ss cs hst,if_pos hm,Option.bind_some,if_pos rfl,if_pos h0,if_pos h1,if_pos h0,hh];rfl
end
end Go.Proofs.Ytjbjbeihkoeciaa.X
namespace Go.Proofs.Ytjbjbeihkoeciaa.X
open Go.RowKit Go.Proofs.YtjbjbeihkoeciaaW.PrintWords Go.Proofs.YtjbjbeihkoeciaaW.PrintLast Go.Proofs.YtjbjbeihkoeciaaW.PrintMore
def freeN (l3:List Cl) (l4:List Op_) (s:Sm) (o:Int):Bool:=decide ((if brL l3 (wS s.f0) (wC s.f1) = [] then firstN l3 l4 (wS s.f0) (wC s.f1) o else 0) < 0)
def clashN (l3:List Cl) (l4:List Op_) (drops:List Bool) (a b cl:Int) (s:Sm):Bool :=
 freeN l3 l4 s a && (freeN l3 l4 s b && !holdsB (wS (apartS l4 drops s a b).f0) (wC (apartS l4 drops s a b).f1) (rd_T70 l3 cl))
theorem clashN_comm (l3:List Cl) (l4:List Op_) (drops:List Bool) (a b cl:Int) (s:Sm):clashN l3 l4 drops a b cl s=clashN l3 l4 drops b a cl s:=by
 unfold clashN;rw [apartS_comm l4 drops s a b];cases freeN l3 l4 s a <;> cases freeN l3 l4 s b <;> rfl
def findN (l0 l1 l2:List ByteArray) (l3:List Cl) (l4:List Op_) (drops:List Bool) (a b cl:Int):Option Nat:=(List.range (manyN l0 l1 l2 l3 l4)).find? fun n=>clashN l3 l4 drops a b cl (stN l0.length l1.length n)
def sm0:Sm:=⟨[],[]⟩
def atR (l0 l1 l2:List ByteArray) (l3:List Cl) (l4:List Op_) (drops:List Bool) (a b cl:Int):Sm × Bool :=
 if mayN l0 l1 l2 l3 l4 drops a b=true∧0 ≤ cl∧cl < (l3.length:Int) then (match findN l0 l1 l2 l3 l4 drops a b cl with|some n=>(stN l0.length l1.length n,true)|none=>(sm0,false)) else (sm0,false)
theorem atR_comm (l0 l1 l2:List ByteArray) (l3:List Cl) (l4:List Op_) (drops:List Bool) (a b cl:Int):atR l0 l1 l2 l3 l4 drops a b cl=atR l0 l1 l2 l3 l4 drops b a cl:=by
 have h:findN l0 l1 l2 l3 l4 drops a b cl=findN l0 l1 l2 l3 l4 drops b a cl:=by
  unfold findN;congr 1;funext n;exact clashN_comm _ _ _ _ _ _ _
 have h2:mayN l0 l1 l2 l3 l4 drops a b=mayN l0 l1 l2 l3 l4 drops b a:=by
  unfold mayN;rw [Bool.and_comm (decide (0 ≤ a∧a < (l4.length:Int)))]
 unfold atR;rw [h,h2]
theorem mayN_check {l0 l1 l2:List ByteArray} {l3:List Cl} {l4:List Op_} {drops:List Bool} {a b:Int} (h:mayN l0 l1 l2 l3 l4 drops a b=true) :
  checkB l0 l1 l2 l3 l4=true∧drops.length=l0.length∧(0 ≤ a∧a < (l4.length:Int))∧(0 ≤ b∧b < (l4.length:Int)):=by
 unfold mayN at h;rw [Bool.and_eq_true,Bool.and_eq_true,Bool.and_eq_true] at h;refine ⟨?_,of_decide_eq_true h.2.1,of_decide_eq_true h.2.2.1,of_decide_eq_true h.2.2.2⟩;have h1:=of_decide_eq_true h.1;unfold manyN at h1;split at h1
 ·rename_i h2;exact h2.1
 ·omega
set_option maxHeartbeats 2000000 in
theorem at_call (A0:Option Addr) (c0:Nat) (l0:List ByteArray) (A1:Option Addr) (c1:Nat) (l1:List ByteArray) (A2:Option Addr) (c2:Nat) (l2:List ByteArray) (A3:Option Addr) (c3:Nat) (l3:List Cl) (A4:Option Addr) (c4:Nat) (l4:List Op_) (Ad:Option Addr) (cd:Nat) (drops:List Bool) (a b cl:Int) (w:World)
  (hr0:Kd.C Kd.string w A0 l0.length l0) (hc0:l0.length ≤ c0) (hr1:Kd.C Kd.string w A1 l1.length l1) (hc1:l1.length ≤ c1) (hr2:Kd.C Kd.string w A2 l2.length l2) (hc2:l2.length ≤ c2) (hr3:Kd.C k70 w A3 l3.length l3) (hc3:l3.length ≤ c3) (hr4:Kd.C k66 w A4 l4.length l4) (hc4:l4.length ≤ c4) (hrd:Kd.C Kd.bool w Ad drops.length drops) (hcd:drops.length ≤ cd)
  (hru:RuOk l0 l1 l2 l3 l4) :
  Calls Try.prog 14 #[.agg #[.slice A0 l0.length c0,.slice A1 l1.length c1,.slice A2 l2.length c2,.slice A3 l3.length c3,.slice A4 l4.length c4],.slice Ad drops.length cd,.int .i64 a,.int .i64 b,.int .i64 cl] w fun e w'=>∃ v0 v1:Value,e = .returned (.tuple #[.agg #[v0,v1],.bool (atR l0 l1 l2 l3 l4 drops a b cl).2]) ∧
   Kd.R Kd.bool 4 w' w.heap.size (fun _=>True) v0 (atR l0 l1 l2 l3 l4 drops a b cl).1.f0∧Kd.R (Kd.int .i64) 3 w' w.heap.size (fun _=>True) v1 (atR l0 l1 l2 l3 l4 drops a b cl).1.f1∧Below w.heap.size w w':=by
 obtain ⟨km,hkm⟩:=Ev.rounds (g:=fun k=>pairs_may.f k l0 l1 l2 l3 l4 drops a b) (may_ev2 l0 l1 l2 l3 l4 hru drops a b);have hmay:∀ w',Below w.heap.size w w' → Calls Try.prog 49 #[.agg #[.slice A0 l0.length c0,.slice A1 l1.length c1,.slice A2 l2.length c2,.slice A3 l3.length c3,.slice A4 l4.length c4],.slice Ad drops.length cd,.int .i64 a,.int .i64 b] w' fun e w''=>e = .returned (.bool (mayN l0 l1 l2 l3 l4 drops a b))∧Below w'.heap.size w' w'' :=
  fun w' hw=>pairs_may.calls km A0 c0 l0 A1 c1 l1 A2 c2 l2 A3 c3 l3 A4 c4 l4 Ad cd drops a b _ w' (Kd.C_below hr0 hw) hc0 (Kd.C_below hr1 hw) hc1 (Kd.C_below hr2 hw) hc2 (Kd.C_below hr3 hw) hc3 (Kd.C_below hr4 hw) hc4 (Kd.C_below hrd hw) hcd hkm
 by_cases hyes:mayN l0 l1 l2 l3 l4 drops a b=true∧0 ≤ cl∧cl < (l3.length:Int)
 ·obtain ⟨hmv,h0,h1⟩:=hyes;rw [hmv] at hmay;obtain ⟨hck,hdl,ha,hb⟩:=mayN_check hmv;have hpt:=checkB_parts hck;have hdn:=dlen l0 l1 l2 l3 l4 hck;have hdb:=dle l0 l1 l2 l3 l4 hck;have hML:=many_le l0 l1 l2 l3 l4;have eR:atR l0 l1 l2 l3 l4 drops a b cl=(match findN l0 l1 l2 l3 l4 drops a b cl with|some n=>(stN l0.length l1.length n,true)|none=>(sm0,false)):=if_pos ⟨hmv,h0,h1⟩;(have hs0:∀ n,(stN l0.length l1.length n).f0.length=l0.length:=fun n=>bitsL_len _ _);(have hs1:∀ n,(stN l0.length l1.length n).f1.length=l1.length:=fun n=>digsL_len _ _);(have hsd:∀ n,∀ x ∈ (stN l0.length l1.length n).f1,0 ≤ x∧x ≤ 2:=fun n=>digsL_le _ _);(have hwo:∀ n,StOk (wS (stN l0.length l1.length n).f0) (wC (stN l0.length l1.length n).f1):=fun n=>wide_ok _ (by rw [hs0];omega) (by rw [hs1];omega));have hwm:∀ n,mayS l0.length l1.length (wS (stN l0.length l1.length n).f0) (wC (stN l0.length l1.length n).f1)=true:=fun n=>by
   have:=wide_may (stN l0.length l1.length n) (fun x hx=>by have:=hsd n x hx;omega);rwa [hs0,hs1] at this
  (have hal:=fun n=>apartS_len l4 drops (stN l0.length l1.length n) a b);(have hab:=fun n=>apartS_le l4 hdb drops (stN l0.length l1.length n) a b (fun x hx=>by have:=hsd n x hx;omega));(have hao:∀ n,StOk (wS (apartS l4 drops (stN l0.length l1.length n) a b).f0) (wC (apartS l4 drops (stN l0.length l1.length n) a b).f1):=fun n=>wide_ok _ (by rw [(hal n).1,hs0];omega) (by rw [(hal n).2,hs1];omega));have ham:∀ n,mayS l0.length l1.length (wS (apartS l4 drops (stN l0.length l1.length n) a b).f0) (wC (apartS l4 drops (stN l0.length l1.length n) a b).f1)=true:=fun n=>by
   have:=wide_may (apartS l4 drops (stN l0.length l1.length n) a b) (fun x hx=>by have:=hab n x hx;omega);rwa [(hal n).1,(hal n).2,hs0,hs1] at this
  obtain ⟨kn,hkn⟩:=Ev.rounds (g:=fun k=>pairs_Many.f k l0 l1 l2 l3 l4) (many_ev l0 l1 l2 l3 l4 hru);refine (at_yes A0 l0.length c0 A1 l1.length c1 A2 l2.length c2 A3 l3.length c3 A4 l4.length c4 Ad drops.length cd a b cl w hmay h0 h1
   (valT [a,b] (fun o n=>freeN l3 l4 (stN l0.length l1.length n) o) (manyN l0 l1 l2 l3 l4) 0) ((List.range (manyN l0 l1 l2 l3 l4)).map (stN l0.length l1.length)) (atR l0 l1 l2 l3 l4 drops a b cl).2 (atR l0 l1 l2 l3 l4 drops a b cl).1 ?_ ?_)
  ·intro w' Ao hw hCo;refine tabled_walk A0 l0.length c0 A1 l1.length c1 A2 l2.length c2 A3 l3.length c3 A4 l4.length c4 Ao 2 [a,b] w' (manyN l0 l1 l2 l3 l4) (stN l0.length l1.length) (fun n=>(wS (stN l0.length l1.length n).f0,wC (stN l0.length l1.length n).f1)) (fun n=>brL l3 (wS (stN l0.length l1.length n).f0) (wC (stN l0.length l1.length n).f1)) (fun o n=>firstN l3 l4 (wS (stN l0.length l1.length n).f0) (wC (stN l0.length l1.length n).f1) o) (fun o n=>freeN l3 l4 (stN l0.length l1.length n) o) hCo (Nat.le_refl _) (by simp) hML (fun o n=>rfl) ?_ ?_ ?_ ?_ ?_
   ·intro w2 hw2;have hx:=below_step hw hw2;exact pairs_Many.calls kn A0 c0 l0 A1 c1 l1 A2 c2 l2 A3 c3 l3 A4 c4 l4 _ w2 (Kd.C_below hr0 hx) hc0 (Kd.C_below hr1 hx) hc1 (Kd.C_below hr2 hx) hc2 (Kd.C_below hr3 hx) hc3 (Kd.C_below hr4 hx) hc4 hkn
   ·intro n hn w2 hw2;have hx:=below_step hw hw2;obtain ⟨k,hk⟩:=Ev.rounds (g:=fun k=>pairs_state.f k l0 l1 l2 l3 l4 (n:Int)) (state_ev l0 l1 l2 l3 l4 (by omega) (by omega) n (by omega));exact pairs_state.calls k A0 c0 l0 A1 c1 l1 A2 c2 l2 A3 c3 l3 A4 c4 l4 _ _ _ w2 (Kd.C_below hr0 hx) hc0 (Kd.C_below hr1 hx) hc1 (Kd.C_below hr2 hx) hc2 (Kd.C_below hr3 hx) hc3 (Kd.C_below hr4 hx) hc4 hk
   ·intro n hn w2 B0 d0 B1 d1 k0 e0 k1 e1;obtain ⟨k,hk⟩:=Ev.rounds (g:=fun k=>pairs_wide.f k (stN l0.length l1.length n).f0 (stN l0.length l1.length n).f1) (wide_ev _ (by rw [hs0];omega) (by rw [hs1];omega));exact pairs_wide.calls k B0 d0 _ B1 d1 _ _ _ w2 k0 e0 k1 e1 hk
   ·intro n hn w2 B0 d0 B1 d1 hw2 k0 e0 k1 e1;have hx:=below_step hw hw2;obtain ⟨k,hk⟩:=Ev.rounds (g:=fun k=>eval_Broken.f k l0 l1 l2 l3 l4 (wS (stN l0.length l1.length n).f0) (wC (stN l0.length l1.length n).f1)) (broken_ev l0 l1 l2 l3 l4 hck hru _ _ (hwo n) (hwm n));exact eval_Broken.calls k A0 c0 l0 A1 c1 l1 A2 c2 l2 A3 c3 l3 A4 c4 l4 B0 d0 _ B1 d1 _ _ w2 (Kd.C_below hr0 hx) hc0 (Kd.C_below hr1 hx) hc1 (Kd.C_below hr2 hx) hc2 (Kd.C_below hr3 hx) hc3 (Kd.C_below hr4 hx) hc4 k0 e0 k1 e1 hk
   ·intro n hn o ho hbr w2 B0 d0 B1 d1 hw2 k0 e0 k1 e1;have hx:=below_step hw hw2;have hor:0 ≤ o∧o < (l4.length:Int):=by
     rcases List.mem_cons.1 ho with rfl|ho
     ·exact ha
     ·rcases List.mem_cons.1 ho with rfl|ho
      ·exact hb
      ·cases ho
    obtain ⟨k,hk⟩:=Ev.rounds (g:=fun k=>wp_First.f k l0 l1 l2 l3 l4 (wS (stN l0.length l1.length n).f0) (wC (stN l0.length l1.length n).f1) o kB) (first_ev l0 l1 l2 l3 l4 hck hru _ _ (hwo n) (hwm n) o hor);exact (wp_First.calls k A0 c0 l0 A1 c1 l1 A2 c2 l2 A3 c3 l3 A4 c4 l4 B0 d0 _ B1 d1 _ o kB _ _ w2 (Kd.C_below hr0 hx) hc0 (Kd.C_below hr1 hx) hc1 (Kd.C_below hr2 hx) hc2 (Kd.C_below hr3 hx) hc3 (Kd.C_below hr4 hx) hc4 k0 e0 k1 e1 hk).mono fun e w3 ⟨he,hb3⟩=>⟨_,he,hb3⟩
  ·intro w' w0s mb fs vs hw hT hle;have hval:∀ o,o ∈ [a,b] → valT [a,b] (fun o n=>freeN l3 l4 (stN l0.length l1.length n) o) (manyN l0 l1 l2 l3 l4) 0 o=(List.range (manyN l0 l1 l2 l3 l4)).map (fun n=>freeN l3 l4 (stN l0.length l1.length n) o):=fun o ho=>by
    unfold valT cntT;rw [List.take_zero,if_neg (by simp),if_pos ho]
   have hfe:(List.range (manyN l0 l1 l2 l3 l4)).find? (fun n=>freeN l3 l4 (stN l0.length l1.length n) a && (freeN l3 l4 (stN l0.length l1.length n) b && !holdsB (wS (apartS l4 drops (stN l0.length l1.length n) a b).f0) (wC (apartS l4 drops (stN l0.length l1.length n) a b).f1) (rd_T70 l3 cl)))=findN l0 l1 l2 l3 l4 drops a b cl:=rfl;have hA:=attab_walk A0 l0.length c0 A1 l1.length c1 A2 l2.length c2 A3 l3.length c3 A4 l4.length c4 Ad drops.length cd a b cl w' w0s mb fs _ vs (manyN l0 l1 l2 l3 l4) (stN l0.length l1.length) (fun o n=>freeN l3 l4 (stN l0.length l1.length n) o) (fun n=>((apartS l4 drops (stN l0.length l1.length n) a b).f0,(apartS l4 drops (stN l0.length l1.length n) a b).f1)) (fun n=>([],[])) (fun n=>(wS (apartS l4 drops (stN l0.length l1.length n) a b).f0,wC (apartS l4 drops (stN l0.length l1.length n) a b).f1)) (fun n=>holdsB (wS (apartS l4 drops (stN l0.length l1.length n) a b).f0) (wC (apartS l4 drops (stN l0.length l1.length n) a b).f1) (rd_T70 l3 cl)) hT hle hML (hval a (by simp)) (hval b (by simp)) ?_ ?_ ?_
   ·rw [hfe] at hA;rw [eR];(refine hA.mono fun e w2 ⟨v0,v1,he,h3,h4,h5⟩=>?_);cases hf:findN l0 l1 l2 l3 l4 drops a b cl with
    | none=>rw [hf] at he h3 h4;exact ⟨v0,v1,he,h3,h4,h5⟩
    | some n=>rw [hf] at he h3 h4;exact ⟨v0,v1,he,h3,h4,h5⟩
   ·intro n hn _ _ w2 D0 d0 D1 d1 hw2 k0 e0 k1 e1;have hx:=below_step hw hw2;obtain ⟨k,hk⟩:=Ev.rounds (g:=fun k=>pairs_apart.f k l0 l1 l2 l3 l4 drops (stN l0.length l1.length n).f0 (stN l0.length l1.length n).f1 a b) (apart_ev l0 l1 l2 l3 l4 hdn hdb drops (stN l0.length l1.length n) a b (by rw [hs0];omega) (by rw [hs1];omega) (by rw [hs0];exact hdl) (fun x hx2=>by have:=hsd n x hx2;omega));exact pairs_apart.calls k A0 c0 l0 A1 c1 l1 A2 c2 l2 A3 c3 l3 A4 c4 l4 Ad cd drops D0 d0 _ D1 d1 _ a b _ _ w2 (Kd.C_below hr0 hx) hc0 (Kd.C_below hr1 hx) hc1 (Kd.C_below hr2 hx) hc2 (Kd.C_below hr3 hx) hc3 (Kd.C_below hr4 hx) hc4 (Kd.C_below hrd hx) hcd k0 e0 k1 e1 hk
   ·intro n hn _ _ w2 D0 d0 D1 d1 k0 e0 k1 e1;obtain ⟨k,hk⟩:=Ev.rounds (g:=fun k=>pairs_wide.f k (apartS l4 drops (stN l0.length l1.length n) a b).f0 (apartS l4 drops (stN l0.length l1.length n) a b).f1) (wide_ev _ (by rw [(hal n).1,hs0];omega) (by rw [(hal n).2,hs1];omega));exact pairs_wide.calls k D0 d0 _ D1 d1 _ _ _ w2 k0 e0 k1 e1 hk
   ·intro n hn _ _ w2 D0 d0 D1 d1 hw2 k0 e0 k1 e1;have hx:=below_step hw hw2;exact eval_Holds.calls A0 c0 l0 A1 c1 l1 A2 c2 l2 A3 c3 l3 A4 c4 l4 D0 d0 _ D1 d1 _ cl _ w2 (Kd.C_below hr0 hx) hc0 (Kd.C_below hr1 hx) hc1 (Kd.C_below hr2 hx) hc2 (Kd.C_below hr3 hx) hc3 (Kd.C_below hr4 hx) hc4 k0 e0 k1 e1 (holds_f l0 l1 l2 l3 l4 hck hru _ _ (hao n) (ham n) cl h0 h1)
 ·have eR:atR l0 l1 l2 l3 l4 drops a b cl=(sm0,false):=if_neg hyes;rw [eR];refine (at_no A0 l0.length c0 A1 l1.length c1 A2 l2.length c2 A3 l3.length c3 A4 l4.length c4 Ad drops.length cd a b cl w _ hmay hyes).mono fun e w2 ⟨v0,v1,he,h3,h4,h5⟩=>⟨v0,v1,he,?_,?_,h5⟩
  ·rw [h3];exact Kd.R_nil _ _ _ _ _
  ·rw [h4];exact Kd.R_nil _ _ _ _ _
abbrev kDg:=k84
def allL (F:Nat → Nat → Nat → List Dg) (n m p:Nat):List Dg:=(List.range p).flatMap fun a=>(List.range (n - a)).flatMap fun j=>(List.range m).flatMap fun i=>F a (a + j) i
def allP (F:Nat → Nat → Nat → List Dg) (m a q:Nat):List Dg:=(List.range q).flatMap fun j=>(List.range m).flatMap fun i=>F a (a + j) i
def allQ (F:Nat → Nat → Nat → List Dg) (a b i:Nat):List Dg:=(List.range i).flatMap fun i=>F a b i
theorem allL_next (F:Nat → Nat → Nat → List Dg) (n m p:Nat):allL F n m (p + 1)=allL F n m p ++ allP F m p (n - p):=by
 simp [allL,allP,List.range_succ]
theorem allP_next (F:Nat → Nat → Nat → List Dg) (m a q:Nat):allP F m a (q + 1)=allP F m a q ++ allQ F a (a + q) m:=by
 simp [allP,allQ,List.range_succ]
theorem allQ_next (F:Nat → Nat → Nat → List Dg) (a b i:Nat):allQ F a b (i + 1)=allQ F a b i ++ F a b i:=by
 simp [allQ,List.range_succ]
theorem flat_len (G:Nat → List Dg) (k:Nat) (hG:∀ x,(G x).length ≤ k) (L:List Nat):(L.flatMap G).length ≤ L.length * k:=by
 induction L with
 | nil=>simp
 | cons a r ih =>
  rw [List.flatMap_cons,List.length_append,List.length_cons,Nat.succ_mul];have:=hG a;omega
theorem all_len (F:Nat → Nat → Nat → List Dg) (hF:∀ a b i,(F a b i).length ≤ 1) (n m p q a b i:Nat) (h1:n ≤ 1000) (h2:m ≤ 1000) (h3:p ≤ 1000) (h4:q ≤ 1000) (h5:i ≤ 1000) :
  (allL F n m p ++ allP F m a q ++ allQ F a b i).length ≤ 2000000000:=by
 have hQ:∀ a b i,(allQ F a b i).length ≤ i * 1:=fun a b i=>by
  have:=flat_len (fun i=>F a b i) 1 (hF a b) (List.range i);rwa [List.length_range] at this
 have hP:∀ a q,(allP F m a q).length ≤ q * (m * 1):=fun a q=>by
  have:=flat_len (fun j=>(List.range m).flatMap fun i=>F a (a + j) i) (m * 1) (fun j=>hQ a (a + j) m) (List.range q);rwa [List.length_range] at this
 have hL:(allL F n m p).length ≤ p * (n * (m * 1)):=by
  have:=flat_len (fun a=>(List.range (n - a)).flatMap fun j=>(List.range m).flatMap fun i=>F a (a + j) i) (n * (m * 1)) (fun a=>Nat.le_trans (hP a (n - a)) (Nat.mul_le_mul_right _ (Nat.sub_le _ _))) (List.range p);rwa [List.length_range] at this
 have e1:=hQ a b i;have e2:=Nat.le_trans (hP a q) (Nat.mul_le_mul h4 (Nat.mul_le_mul_right 1 h2));have e3:=Nat.le_trans hL (Nat.mul_le_mul h3 (Nat.mul_le_mul h1 (Nat.mul_le_mul_right 1 h2)));rw [List.length_append,List.length_append];omega
theorem infoCla:(Try.prog.info? 90).map (fun i=>(i.zero,i.size,i.bytes))=some (some (.agg #[.int .i64 0,.int .i64 0,.int .i64 0]),3,24):=by kernel_rfl
set_option maxHeartbeats 16000000 in
set_option maxRecDepth 100000 in
theorem all_walk (A0:Option Addr) (n0 c0:Nat) (A1:Option Addr) (n1 c1:Nat) (A2:Option Addr) (n2 c2:Nat) (A3:Option Addr) (c3:Nat) (l3:List Cl) (A4:Option Addr) (n4 c4:Nat) (Ad:Option Addr) (nd cd:Nat) (w:World) (hnd:n0=nd)
  (N:Nat) (val:Int → List Bool) (sts:List Sm) (fd:Nat → Nat → Nat → Bool) (F:Nat → Nat → Nat → List Dg)
  (hr3:Kd.C k70 w A3 l3.length l3) (hc3:l3.length ≤ c3) (h3:l3.length ≤ 1000) (h4:n4 ≤ 1000) (hN:0 < N)
  (hF:∀ a b i,F a b i=if (l3.getD i z70).f1=true∧fd a b i=true then [⟨(a:Int),(b:Int),(i:Int)⟩] else [])
  (hmany:∀ w',Below w.heap.size w w' → Calls Try.prog 48 #[.agg #[.slice A0 n0 c0,.slice A1 n1 c1,.slice A2 n2 c2,.slice A3 l3.length c3,.slice A4 n4 c4]] w' fun e w''=>e = .returned (.int .i64 (N:Int))∧Below w'.heap.size w' w'')
  (htab:∀ w' Ao co,Below w.heap.size w w' → Kd.C (Kd.int .i64) w' Ao n4 ((List.range n4).map fun (i:Nat)=>(i:Int)) → n4 ≤ co → Calls Try.prog 50 #[.agg #[.slice A0 n0 c0,.slice A1 n1 c1,.slice A2 n2 c2,.slice A3 l3.length c3,.slice A4 n4 c4],.slice Ao n4 co] w' fun e w''=>∃ vs mb fs,e = .returned (.agg #[vs,.map (some mb)])∧TabW w'.heap.size w'' mb fs val vs sts∧Below w'.heap.size w' w'')
  (hatt:∀ w' w0s mb fs vs (a b i:Nat),a < n4 → b < n4 → i < l3.length → Below w.heap.size w w' → TabW w0s w' mb fs val vs sts → w0s ≤ w'.heap.size → Calls Try.prog 51 #[.agg #[vs,.map (some mb)],.agg #[.slice A0 n0 c0,.slice A1 n1 c1,.slice A2 n2 c2,.slice A3 l3.length c3,.slice A4 n4 c4],.slice Ad nd cd,.int .i64 (a:Int),.int .i64 (b:Int),.int .i64 (i:Int)] w' fun e w''=>∃ v0 v1:Value,e = .returned (.tuple #[.agg #[v0,v1],.bool (fd a b i)])∧(∃ B0 m0 d0,v0 = .slice B0 m0 d0)∧(∃ B0 m0 d0,v1 = .slice B0 m0 d0)∧Below w'.heap.size w' w'') :
  Calls Try.prog 46 #[.agg #[.slice A0 n0 c0,.slice A1 n1 c1,.slice A2 n2 c2,.slice A3 l3.length c3,.slice A4 n4 c4],.slice Ad nd cd] w fun e w'=>∃ v:Value,e = .returned v∧Kd.R kDg 90 w' w.heap.size (fun _=>True) v (allL F n4 l3.length n4)∧Below w.heap.size w w':=by
 subst hnd;have HR3:=Sd.mk hr3;have HMANY:=Sd.mk hmany;have HTAB:=Sd.mk htab;have HATT:=Sd.mk hatt;have HF1:Sd (∀ a b i,(F a b i).length ≤ 1):=⟨fun a b i=>by rw [hF a b i];split <;> simp⟩;have HF:=Sd.mk hF;clear hr3 hmany htab hatt hF;have HC3:Sd (∀ i,i < l3.length → rd_T70 l3 (i:Int)=l3.getD i z70):=⟨fun i _=>by simp [rd_T70]⟩;generalize hn3:l3.length=n3 at *;have HN3:=Sd.mk hn3;clear hn3;go_enter Try.func46,Try.ntmps46;go_upto_region 1 with (((with_reducible refine gate_dst (N:=2) rfl ?_);refine box_event ?hg (N:=2) ?hd (cs:=#[.slice A0 n0 c0,.slice A1 n1 c1,.slice A2 n2 c2,.slice A3 n3 c3,.slice A4 n4 c4]) (t:=26) ?hr ?_;(case hd=>rfl);(case hg=>rfl);(case hr=>first|(go_simp;done)|(go_simp;rfl));intro g hg w3 hbox hb;have HB3:=Sd.mk hb;have BK:=Sd.mk hbox;clear hb hbox hg));obtain ⟨ha0,ha1,ha2,ha3,ha4⟩:=bc5 BK.out;go_wp2_with fail;refine (HMANY.out _ HB3.out).mono ?_;rintro e w4 ⟨rfl,hb4⟩;have HB4:=Sd.mk (below_step HB3.out hb4);have BK4:=Sd.mk (blk_below BK.out hb4);clear hb4 ha0 ha1 ha2 ha3 ha4 HB3 BK;have ha0:w4.cell? ⟨g,0,none⟩=some (.slice A0 n0 c0):=(blk_cell BK4.out 0).trans rfl;have ha4:w4.cell? ⟨g,4,none⟩=some (.slice A4 n4 c4):=(blk_cell BK4.out 4).trans rfl;(have hnz:((N:Int) == 0)=false:=by simp;omega);(have hnz2:(N == 0)=false:=by simp;omega);have hnz3:decide (N=0)=false:=decide_eq_false (by omega);(have hdd:((n0:Int) != (n0:Int))=false:=by simp);go_wp2_with fail;clear ha0 ha4 hnz hnz2 hnz3 hdd;go_loopw [6,31] (fun v6 v31 wr=>∃ p:Nat,v31 = .int .i64 (p:Int)∧p ≤ n4∧Sd (Kd.R (Kd.int .i64) 3 wr w.heap.size (fun _=>True) v6 ((List.range p).map fun (i:Nat)=>(i:Int)))∧Sd (Below w.heap.size w wr)∧Sd (wr.heap[g]? = some (.cells #[.slice A0 n0 c0,.slice A1 n1 c1,.slice A2 n2 c2,.slice A3 n3 c3,.slice A4 n4 c4] 26 (0,0)))) (fun _ v31 _=>((n4:Int) - intV v31).toNat)
 case atStart=>exact ⟨0,rfl,Nat.zero_le _,⟨Kd.R_nil _ _ _ _ _⟩,HB4,BK4⟩
 case round =>
  obtain ⟨p,rfl,hp,HO,HBr,Br⟩:=hrel;clear HB4 BK4;by_cases hlt:p < n4
  ·(have hlt':decide ((p:Int) < (n4:Int))=true:=by simp;omega);have HLL:Sd (((List.range p).map fun (i:Nat)=>(i:Int)).length ≤ 1000):=⟨by rw [List.length_map,List.length_range];omega⟩;have HNX:Sd ((List.range (p + 1)).map (fun (i:Nat)=>(i:Int))=((List.range p).map fun (i:Nat)=>(i:Int)) ++ [(p:Int)]):=⟨by rw [List.range_succ,List.map_append];rfl⟩;generalize hL:((List.range p).map fun (i:Nat)=>(i:Int))=L at *;have HL:=Sd.mk hL;clear hL;go_wp2_with (((with_reducible refine gate_builtin (b:=.append) (xs:=#[.tmp 34,.tmp 36]) rfl ?_);at_builtin;refine Kd.R_append (Kd.int .i64) (w0:=w) w.heap.size rfl (.tmp 34) (.tmp 36) 36 3 (.int .i64 0) 8 rfl Try.underlying36 info3 rfl (by decide) (by omega) u6 L (p:Int) [.int .i64 (p:Int)] (fun _=>True) (fun _=>False) rfl rfl ?aP (fun _ hk=>hk.elim) ?aF ?aO ?aB ?aS ?aL ?_;(case aP=>exact rfl);(case aB=>exact HBr.out);(case aF=>exact (fun _ _=>trivial));(case aO=>exact HO.out);(case aS=>exact below_size HBr.out);(case aL=>have:=HLL.out;omega);intro v37 w5 ho hb hg5 hat;have HO5:=Sd.mk ho;have HB5:=Sd.mk hb;have B5:=Sd.mk (blk_grown Br.out hg5 (Kd.R_ne HO.out Br.out (by decide)));clear ho hb hg5 hat));go_roundw
   case measure=>simp [intV];omega
   case rel=>exact ⟨p + 1,by simp,by omega,⟨by rw [HNX.out];exact HO5.out⟩,HB5,B5⟩
  ·(have hlt':decide ((p:Int) < (n4:Int))=false:=by simp;omega);(obtain rfl:p=n4:=by omega);have HOL:Sd (((List.range p).map fun (i:Nat)=>(i:Int)).length=p):=⟨by simp⟩;have HOR:Sd (∀ j,j < p → rd ((List.range p).map fun (i:Nat)=>(i:Int)) (j:Int)=(j:Int)):=⟨fun j hj=>by simp [rd,List.getD,hj]⟩;obtain ⟨Ao,co,hvo,hz1,hz2⟩:=Kd.R_reads HO.out;clear hz1 hz2;rw [HOL.out] at hvo;subst hvo;obtain ⟨ha0,ha1,ha2,ha3,ha4⟩:=bc5 Br.out;have HTB:Sd (Calls Try.prog 50 #[.agg #[.slice A0 n0 c0,.slice A1 n1 c1,.slice A2 n2 c2,.slice A3 n3 c3,.slice A4 p c4],.slice Ao p co] wr fun e w''=>∃ vs mb fs,e = .returned (.agg #[vs,.map (some mb)])∧TabW wr.heap.size w'' mb fs val vs sts∧Below wr.heap.size wr w''):=⟨by
    obtain ⟨_,l1,C1⟩:=Kd.R_reads' HO.out
    rw [HOL.out] at C1
    exact HTAB.out wr Ao co HBr.out C1 l1⟩
   go_wp2_with fail;refine HTB.out.mono ?_;rintro e w6 ⟨vs,mb,fs,rfl,hT,hb6⟩;have HT6:=Sd.mk hT;obtain ⟨Avs,cvs,hvs⟩:=Kd.R_slice hT.sts;subst hvs;have HB6:=Sd.mk hb6;clear hT hb6 ha0 ha1 ha2 ha3 ha4 HTB;generalize hsl:sts.length=sl at *;have HSL:=Sd.mk hsl;clear hsl;go_upto_region 11 with (((with_reducible refine gate_dst (N:=8) rfl ?_);refine box_event ?hg (N:=8) ?hd (cs:=#[.slice none 0 0,.map none]) (t:=96) ?hr ?_;(case hd=>rfl);(case hg=>rfl);(case hr=>first|(go_simp;done)|(go_simp;rfl));intro g8 hg8 w7 hbox hb;have HB7:=Sd.mk hb;have BK7:=Sd.mk hbox;have HG8:=Sd.mk hg8;have hcz0:=(blk_cell hbox 0);have hcz1:=(blk_cell hbox 1);have hfz0:=blk_frozen hbox 0;have hfz1:=blk_frozen hbox 1;clear hb hbox hg8));(have hgs:w6.heap.size ≤ g8:=by rw [HG8.out];exact Nat.le_refl _);have HBA:Sd (Below w6.heap.size w6 ((w7.setCell ⟨g8,0,none⟩ (.slice Avs sl cvs)).setCell ⟨g8,1,none⟩ (.map (some mb)))):=⟨below_set (below_set HB7.out hgs) hgs⟩;have BK8:Sd (((w7.setCell ⟨g8,0,none⟩ (.slice Avs sl cvs)).setCell ⟨g8,1,none⟩ (.map (some mb))).heap[g8]? = some (.cells #[.slice Avs sl cvs,.map (some mb)] 96 (0,0))):=⟨by
    refine blk_put (cs:=#[.slice Avs sl cvs,.map none]) ?_ 1 _ rfl
    exact blk_put BK7.out 0 _ rfl⟩
   generalize ((w7.setCell ⟨g8,0,none⟩ (.slice Avs sl cvs)).setCell ⟨g8,1,none⟩ (.map (some mb)))=wA at *;clear hcz0 hcz1 hfz0 hfz1 hgs BK7 HB7 HG8;have HrA:Sd (Below wr.heap.size wr wA):=⟨below_step HB6.out HBA.out⟩;have HWA:=Sd.mk (below_step HBr.out HrA.out);have HTA:=Sd.mk (HT6.out.below HBA.out);have BrA:=Sd.mk (blk_below Br.out HrA.out);have HOA:=Sd.mk (Kd.R_below HO.out HrA.out);have HWS:Sd (wr.heap.size ≤ wA.heap.size):=⟨HrA.out.size⟩;generalize wr.heap.size=wrs at *;clear hlt hlt' hp;clear HT6 HB6 HBA HrA HO Br HBr;go_wp2_with fail;go_loopw [5,44] (fun v5 v44 wr=>∃ a:Nat,v44 = .int .i64 (a:Int)∧a ≤ p∧Sd (Kd.R kDg 90 wr wA.heap.size (fun _=>True) v5 (allL F p n3 a))∧Sd (Below wA.heap.size wA wr)) (fun _ v44 _=>((p:Int) - intV v44).toNat)
   case atStart=>exact ⟨0,rfl,Nat.zero_le _,⟨Kd.R_nil _ _ _ _ _⟩,⟨Below.refl _ _⟩⟩
   case round =>
    obtain ⟨a,rfl,ha,HR,HBr⟩:=hrel;by_cases hla:a < p
    ·(have hla':decide ((a:Int) < (p:Int))=true:=by simp;omega);have p1:(0 ≤ (a:Int))=True:=eq_true (by omega);have p2:((a:Int) < (p:Int))=True:=eq_true (by omega);have p3:((a:Int) ≤ (p:Int))=True:=eq_true (by omega);obtain ⟨hnn,hoc,hOC⟩:=Kd.R_reads' (Kd.R_below HOA.out HBr.out);clear hnn;rw [HOL.out] at hOC;obtain ⟨ad,e0,hx0⟩:=Kd.at_int hOC (a:Int) (by omega) (by omega);subst e0;rw [HOR.out a hla] at hx0;simp only [Int.toNat_natCast] at hx0;have HOCR:=Sd.mk hOC;have p4:((p:Int) ≤ (co:Int))=True:=eq_true (by omega);have P3:=Sd.mk p3;have P4:=Sd.mk p4;have HLA:=Sd.mk hla;have p7:(co=a)=False:=eq_false (by omega);clear hOC hoc;go_upto_region 14 with fail;go_wp2_with fail;clear hx0;go_loopw [5,52] (fun v5 v52 wr=>∃ q:Nat,v52 = .int .i64 (q:Int)∧q ≤ p - a∧Sd (Kd.R kDg 90 wr wA.heap.size (fun _=>True) v5 (allL F p n3 a ++ allP F n3 a q))∧Sd (Below wA.heap.size wA wr)) (fun _ v52 _=>(((p - a:Nat):Int) - intV v52).toNat)
     case atStart=>exact ⟨0,rfl,Nat.zero_le _,⟨by rw [show allP F n3 a 0 = [] from rfl,List.append_nil];exact HR.out⟩,HBr⟩
     case round =>
      clear HR HBr HOCR;obtain ⟨q,rfl,hq,HR,HBr⟩:=hrel;by_cases hlq:q < p - a
      ·(have hlq':decide ((q:Int) < ((p - a:Nat):Int))=true:=by simp;omega);(have hlq2:decide ((q:Int) < (p:Int) - (a:Int))=true:=by simp;omega);have q1:(0 ≤ (q:Int))=True:=eq_true (by omega);have q2:((q:Int) < (p:Int) - (a:Int))=True:=eq_true (by omega);have q3:((q:Int) < ((p - a:Nat):Int))=True:=eq_true (by omega);obtain ⟨hnn,hoc,hOC⟩:=Kd.R_reads' (Kd.R_below HOA.out HBr.out);clear hnn hoc;rw [HOL.out] at hOC;obtain ⟨ad',e0,hx0⟩:=Kd.at_int hOC ((a + q:Nat):Int) (by omega) (by omega);cases e0;rw [HOR.out (a + q) (by omega)] at hx0;rw [Int.toNat_natCast,← Addr.add_add] at hx0;have HLB:Sd (a + q < p):=⟨by omega⟩;generalize hbq:a + q=b at *;have HBQ:=Sd.mk hbq;clear hbq;have hb3:wr.cell? ⟨g,3,none⟩=some (.slice A3 n3 c3):=(blk_cell (blk_below BrA.out HBr.out) 3).trans rfl;have HLQ:=Sd.mk hlq;clear hOC;go_wp2_with fail;clear hx0 hb3;go_loopw [5,59] (fun v5 v59 wr=>∃ i:Nat,v59 = .int .i64 (i:Int)∧i ≤ n3∧Sd (Kd.R kDg 90 wr wA.heap.size (fun _=>True) v5 (allL F p n3 a ++ allP F n3 a q ++ allQ F a b i))∧Sd (Below wA.heap.size wA wr)) (fun _ v59 _=>((n3:Int) - intV v59).toNat)
       case atStart=>exact ⟨0,rfl,Nat.zero_le _,⟨by rw [show allQ F a b 0 = [] from rfl,List.append_nil];exact HR.out⟩,HBr⟩
       case round =>
        clear HR HBr;obtain ⟨i,rfl,hi,HR,HBr⟩:=hrel;by_cases hli:i < n3
        ·(have hli':decide ((i:Int) < (n3:Int))=true:=by simp;omega);have r1:(0 ≤ (i:Int))=True:=eq_true (by omega);have r2:((i:Int) < (n3:Int))=True:=eq_true (by omega);obtain ⟨ad3,e3,hx0,hx1,hx2,hx3,hx4⟩:=at_T70 (Kd.C_below HR3.out (below_step HWA.out HBr.out)) (i:Int) (by omega) (by omega);subst e3;rw [HC3.out i hli] at hx0 hx1 hx2 hx3 hx4;simp only [Int.toNat_natCast] at hx0 hx1 hx2 hx3 hx4;have HFX:=Sd.mk (HF.out a b i);generalize l3.getD i z70=x at *;have HLI:=Sd.mk hli;go_upto_region 20 with (((with_reducible refine gate_dst (N:=14) rfl ?_);refine box_event ?hg (N:=14) ?hd (cs:=#[.int .i64 0,.bool false,.int .i64 0,.int .i64 0,.int .i64 0]) (t:=70) ?hr ?_;(case hd=>rfl);(case hg=>rfl);(case hr=>first|(go_simp;done)|(go_simp;rfl));intro gb hgb w9 hbox hb;have HB9:=Sd.mk hb;have BK9:=Sd.mk hbox;have HGB:=Sd.mk hgb;have hcz0:=(blk_cell hbox 0);have hcz1:=(blk_cell hbox 1);have hcz2:=(blk_cell hbox 2);have hcz3:=(blk_cell hbox 3);have hcz4:=(blk_cell hbox 4);have hfz0:=blk_frozen hbox 0;have hfz1:=blk_frozen hbox 1;have hfz2:=blk_frozen hbox 2;have hfz3:=blk_frozen hbox 3;have hfz4:=blk_frozen hbox 4;clear hb hbox hgb));have HrB:Sd (Below wr.heap.size wr (((((w9.setCell { block:=gb,off:=0 } (Value.int IntKind.i64 x.f0)).setCell { block:=gb,off:=1 } (Value.bool x.f1)).setCell { block:=gb,off:=2 } (Value.int IntKind.i64 x.f2)).setCell { block:=gb,off:=3 } (Value.int IntKind.i64 x.f3)).setCell { block:=gb,off:=4 } (Value.int IntKind.i64 x.f4))):=⟨by
          have hle:wr.heap.size ≤ gb:=by rw [HGB.out];exact Nat.le_refl _
          exact below_set (below_set (below_set (below_set (below_set HB9.out hle) hle) hle) hle) hle⟩
         have BKb:Sd ((((((w9.setCell { block:=gb,off:=0 } (Value.int IntKind.i64 x.f0)).setCell { block:=gb,off:=1 } (Value.bool x.f1)).setCell { block:=gb,off:=2 } (Value.int IntKind.i64 x.f2)).setCell { block:=gb,off:=3 } (Value.int IntKind.i64 x.f3)).setCell { block:=gb,off:=4 } (Value.int IntKind.i64 x.f4)).heap[gb]? = some (.cells #[.int .i64 x.f0,.bool x.f1,.int .i64 x.f2,.int .i64 x.f3,.int .i64 x.f4] 70 (0,0))):=⟨by
          refine blk_put (cs:=#[.int .i64 x.f0,.bool x.f1,.int .i64 x.f2,.int .i64 x.f3,.int .i64 0]) ?_ 4 _ rfl
          refine blk_put (cs:=#[.int .i64 x.f0,.bool x.f1,.int .i64 x.f2,.int .i64 0,.int .i64 0]) ?_ 3 _ rfl
          refine blk_put (cs:=#[.int .i64 x.f0,.bool x.f1,.int .i64 0,.int .i64 0,.int .i64 0]) ?_ 2 _ rfl
          refine blk_put (cs:=#[.int .i64 x.f0,.bool false,.int .i64 0,.int .i64 0,.int .i64 0]) ?_ 1 _ rfl
          exact blk_put BK9.out 0 _ rfl⟩
         generalize (((((w9.setCell { block:=gb,off:=0 } (Value.int IntKind.i64 x.f0)).setCell { block:=gb,off:=1 } (Value.bool x.f1)).setCell { block:=gb,off:=2 } (Value.int IntKind.i64 x.f2)).setCell { block:=gb,off:=3 } (Value.int IntKind.i64 x.f3)).setCell { block:=gb,off:=4 } (Value.int IntKind.i64 x.f4))=wB at *;have HRB:=Sd.mk (Kd.R_below HR.out HrB.out);have HAB:=Sd.mk (below_step HBr.out HrB.out);clear hcz0 hcz1 hcz2 hcz3 hcz4 hfz0 hfz1 hfz2 hfz3 hfz4 HB9 BK9 HGB HR HBr HrB;obtain ⟨x0,sx,x2,x3,x4⟩:=x;have hs1:wB.cell? ⟨gb,1,none⟩=some (.bool sx):=(blk_cell BKb.out 1).trans rfl;clear hx0 hx1 hx2 hx3 hx4;cases sx with
         | false =>
          have HE:Sd (allQ F a b (i + 1)=allQ F a b i):=⟨by rw [allQ_next,HFX.out,if_neg (by simp),List.append_nil]⟩;go_wp2_with fail;go_roundw
          case measure=>simp [intV];omega
          case rel=>exact ⟨i + 1,by simp,by omega,⟨by rw [HE.out];exact HRB.out⟩,HAB⟩
         | true =>
          have ha0:wB.cell? ⟨g,0,none⟩=some (.slice A0 n0 c0):=(blk_cell (blk_below BrA.out HAB.out) 0).trans rfl;have ha1:wB.cell? ⟨g,1,none⟩=some (.slice A1 n1 c1):=(blk_cell (blk_below BrA.out HAB.out) 1).trans rfl;have ha2:wB.cell? ⟨g,2,none⟩=some (.slice A2 n2 c2):=(blk_cell (blk_below BrA.out HAB.out) 2).trans rfl;have ha3:wB.cell? ⟨g,3,none⟩=some (.slice (some ad3) n3 c3):=(blk_cell (blk_below BrA.out HAB.out) 3).trans rfl;have ha4:wB.cell? ⟨g,4,none⟩=some (.slice A4 p c4):=(blk_cell (blk_below BrA.out HAB.out) 4).trans rfl;have hb0:wB.cell? ⟨g8,0,none⟩=some (.slice Avs sl cvs):=(blk_cell (blk_below BK8.out HAB.out) 0).trans rfl;have hb1:wB.cell? ⟨g8,1,none⟩=some (.map (some mb)):=(blk_cell (blk_below BK8.out HAB.out) 1).trans rfl;have HCALL:=Sd.mk (HATT.out wB wrs mb fs _ a b i HLA.out HLB.out HLI.out (below_step HWA.out HAB.out) (HTA.out.below HAB.out) (Nat.le_trans HWS.out HAB.out.size));go_upto_region 21 with fail;go_wp2_with fail;refine HCALL.out.mono ?_;rintro e wC ⟨v0,v1,rfl,⟨B0,m0,d0,rfl⟩,⟨B1,m1,d1,rfl⟩,hbC⟩;have HRC:=Sd.mk (Kd.R_below HRB.out hbC);have HAC:=Sd.mk (below_step HAB.out hbC);clear hbC ha0 ha1 ha2 ha3 ha4 hb0 hb1 hs1 HCALL HRB HAB BKb;generalize fd a b i=t at *;go_upto_region 22 with (((with_reducible refine gate_dst (N:=15) rfl ?_);refine box_event ?hg (N:=15) ?hd (cs:=#[.slice none 0 0,.slice none 0 0]) (t:=38) ?hr ?_;(case hd=>rfl);(case hg=>rfl);(case hr=>first|(go_simp;done)|(go_simp;rfl));intro gc hgc wD hbox hb;have HBD:=Sd.mk hb;have HGC:=Sd.mk hgc;have hcz0:=(blk_cell hbox 0);have hcz1:=(blk_cell hbox 1);have hfz0:=blk_frozen hbox 0;have hfz1:=blk_frozen hbox 1;clear hb hbox hgc));have HrE:Sd (Below wC.heap.size wC ((wD.setCell { block:=gc,off:=0 } (.slice B0 m0 d0)).setCell { block:=gc,off:=1 } (.slice B1 m1 d1))):=⟨by
           have hle:wC.heap.size ≤ gc:=by rw [HGC.out];exact Nat.le_refl _
           exact below_set (below_set HBD.out hle) hle⟩
          generalize ((wD.setCell { block:=gc,off:=0 } (.slice B0 m0 d0)).setCell { block:=gc,off:=1 } (.slice B1 m1 d1))=wE at *;have HRE:=Sd.mk (Kd.R_below HRC.out HrE.out);have HAE:=Sd.mk (below_step HAC.out HrE.out);clear hcz0 hcz1 hfz0 hfz1 HBD HGC HrE HRC HAC;cases t with
          | false =>
           have HE:Sd (allQ F a b (i + 1)=allQ F a b i):=⟨by rw [allQ_next,HFX.out,if_neg (by simp),List.append_nil]⟩;go_wp2_with fail;go_roundw
           case measure=>simp [intV];omega
           case rel=>exact ⟨i + 1,by simp,by omega,⟨by rw [HE.out];exact HRE.out⟩,HAE⟩
          | true =>
           have HE:Sd (allQ F a b (i + 1)=allQ F a b i ++ [⟨(a:Int),(b:Int),(i:Int)⟩]):=⟨by rw [allQ_next,HFX.out,if_pos (by simp)]⟩;have HLN:Sd ((allL F p n3 a ++ allP F n3 a q ++ allQ F a b i).length ≤ 2000000000):=⟨all_len F HF1.out _ _ _ _ _ _ _ (by omega) (by omega) (by omega) (by omega) (by omega)⟩;have HEA:Sd (allL F p n3 a ++ allP F n3 a q ++ allQ F a b (i + 1)=(allL F p n3 a ++ allP F n3 a q ++ allQ F a b i) ++ [⟨(a:Int),(b:Int),(i:Int)⟩]):=⟨by rw [HE.out];simp only [List.append_assoc]⟩;clear HE;generalize (allL F p n3 a ++ allP F n3 a q ++ allQ F a b i)=L at *;go_wp2_with (((with_reducible refine gate_builtin (b:=.append) (xs:=#[.tmp 78,.tmp 83]) rfl ?_);at_builtin;refine Kd.R_append kDg (w0:=wA) wA.heap.size rfl (.tmp 78) (.tmp 83) 86 90 (.agg #[.int .i64 0,.int .i64 0,.int .i64 0]) 24 rfl Try.underlying86 infoCla rfl (by decide) (by omega) u5 L ⟨(a:Int),(b:Int),(i:Int)⟩ [.int .i64 (a:Int),.int .i64 (b:Int),.int .i64 (i:Int)] (fun _=>True) (fun _=>False) rfl rfl ?aP (fun _ hk=>hk.elim) ?aF ?aO ?aB ?aS ?aL ?_;(case aP=>exact ⟨_,_,rfl,rfl,⟨_,_,rfl,rfl,rfl⟩⟩);(case aB=>exact HAE.out);(case aF=>exact (fun _ _=>trivial));(case aO=>exact HRE.out);(case aS=>exact below_size HAE.out);(case aL=>have:=HLN.out;omega);intro vF wF ho hb hg5 hat;have HRF:=Sd.mk ho;have HAF:=Sd.mk hb;clear ho hb hg5 hat));go_roundw
           case measure=>simp [intV];omega
           case rel=>exact ⟨i + 1,by simp,by omega,⟨by rw [HEA.out];exact HRF.out⟩,HAF⟩
        ·(have hli':decide ((i:Int) < (n3:Int))=false:=by simp;omega);(obtain rfl:i=n3:=by omega);have HE:Sd (allL F p i a ++ allP F i a (q + 1)=allL F p i a ++ allP F i a q ++ allQ F a b i):=⟨by rw [allP_next,HBQ.out,List.append_assoc]⟩;go_wp2_with fail;go_roundw
         case measure=>simp [intV];omega
         case rel=>exact ⟨q + 1,by simp,by have:=HLQ.out;omega,⟨by rw [HE.out];exact HR.out⟩,HBr⟩
      ·(have hlq':decide ((q:Int) < ((p - a:Nat):Int))=false:=by simp;omega);(have hlq2:decide ((q:Int) < (p:Int) - (a:Int))=false:=by simp;omega);(obtain rfl:q=p - a:=by omega);have HE:Sd (allL F p n3 (a + 1)=allL F p n3 a ++ allP F n3 a (p - a)):=⟨allL_next F p n3 a⟩;go_wp2_with fail;go_roundw
       case measure=>simp [intV];omega
       case rel=>exact ⟨a + 1,by simp,by have:=HLA.out;omega,⟨by rw [HE.out];exact HR.out⟩,HBr⟩
    ·(have hla':decide ((a:Int) < (p:Int))=false:=by simp;omega);(obtain rfl:a=p:=by omega);go_wp2_with fail;go_ret;exact ⟨_,rfl,Kd.R_lower HR.out (below_size HWA.out),below_step HWA.out HBr.out⟩
set_option maxHeartbeats 4000000 in
theorem all_no (A0:Option Addr) (n0 c0:Nat) (A1:Option Addr) (n1 c1:Nat) (A2:Option Addr) (n2 c2:Nat) (A3:Option Addr) (n3 c3:Nat) (A4:Option Addr) (n4 c4:Nat) (Ad:Option Addr) (nd cd:Nat) (w:World) (N:Nat) (hN:N=0 ∨ nd ≠ n0)
  (hmany:∀ w',Below w.heap.size w w' → Calls Try.prog 48 #[.agg #[.slice A0 n0 c0,.slice A1 n1 c1,.slice A2 n2 c2,.slice A3 n3 c3,.slice A4 n4 c4]] w' fun e w''=>e = .returned (.int .i64 (N:Int))∧Below w'.heap.size w' w'') :
  Calls Try.prog 46 #[.agg #[.slice A0 n0 c0,.slice A1 n1 c1,.slice A2 n2 c2,.slice A3 n3 c3,.slice A4 n4 c4],.slice Ad nd cd] w fun e w'=>e = .returned (.slice none 0 0)∧Below w.heap.size w w':=by
 have HMANY:=Sd.mk hmany;have HNO:=Sd.mk hN;clear hmany hN;go_enter Try.func46,Try.ntmps46;go_upto_region 1 with (((with_reducible refine gate_dst (N:=2) rfl ?_);refine box_event ?hg (N:=2) ?hd (cs:=#[.slice A0 n0 c0,.slice A1 n1 c1,.slice A2 n2 c2,.slice A3 n3 c3,.slice A4 n4 c4]) (t:=26) ?hr ?_;(case hd=>rfl);(case hg=>rfl);(case hr=>first|(go_simp;done)|(go_simp;rfl));intro g hg w3 hbox hb;have HB3:=Sd.mk hb;have BK:=Sd.mk hbox;clear hb hbox hg));obtain ⟨ha0,ha1,ha2,ha3,ha4⟩:=bc5 BK.out;go_wp2_with fail;refine (HMANY.out _ HB3.out).mono ?_;rintro e w4 ⟨rfl,hb4⟩;have HB4:=Sd.mk (below_step HB3.out hb4);have BK4:=Sd.mk (blk_below BK.out hb4);clear hb4 ha0 ha1 ha2 ha3 ha4 HB3 BK;have ha0:w4.cell? ⟨g,0,none⟩=some (.slice A0 n0 c0):=(blk_cell BK4.out 0).trans rfl;by_cases hz:N=0
 ·subst hz;have hq:(((0:Nat):Int) == 0)=true:=rfl;go_wp2_with fail;go_ret;exact ⟨rfl,HB4.out⟩
 ·(have hnz:((N:Int) == 0)=false:=by simp;omega);(have hnz2:(N == 0)=false:=by simp;omega);have hnz3:decide (N=0)=false:=decide_eq_false (by omega);have hne:nd ≠ n0:=HNO.out.resolve_left hz;(have hdd:((nd:Int) != (n0:Int))=true:=by simp;omega);have hdd2:decide (nd=n0)=false:=decide_eq_false hne;(have hdd3:(nd == n0)=false:=by simp;omega);clear hz hne;go_wp2_with fail;go_ret;exact ⟨rfl,HB4.out⟩
def fdN (l0 l1 l2:List ByteArray) (l3:List Cl) (l4:List Op_) (drops:List Bool) (a b i:Nat):Bool:=(findN l0 l1 l2 l3 l4 drops (a:Int) (b:Int) (i:Int)).isSome
def clF (l0 l1 l2:List ByteArray) (l3:List Cl) (l4:List Op_) (drops:List Bool) (a b i:Nat):List Dg:=if (l3.getD i z70).f1=true∧fdN l0 l1 l2 l3 l4 drops a b i=true then [⟨(a:Int),(b:Int),(i:Int)⟩] else []
def allR (l0 l1 l2:List ByteArray) (l3:List Cl) (l4:List Op_) (drops:List Bool):List Dg :=
 if manyN l0 l1 l2 l3 l4=0 ∨ drops.length ≠ l0.length then [] else allL (clF l0 l1 l2 l3 l4 drops) l4.length l3.length l4.length
theorem many_check {l0 l1 l2:List ByteArray} {l3:List Cl} {l4:List Op_} (h:manyN l0 l1 l2 l3 l4 ≠ 0):checkB l0 l1 l2 l3 l4=true:=by
 unfold manyN at h;split at h
 ·rename_i h2;exact h2.1
 ·omega
set_option maxHeartbeats 2000000 in
theorem all_call (A0:Option Addr) (c0:Nat) (l0:List ByteArray) (A1:Option Addr) (c1:Nat) (l1:List ByteArray) (A2:Option Addr) (c2:Nat) (l2:List ByteArray) (A3:Option Addr) (c3:Nat) (l3:List Cl) (A4:Option Addr) (c4:Nat) (l4:List Op_) (Ad:Option Addr) (cd:Nat) (drops:List Bool) (w:World)
  (hr0:Kd.C Kd.string w A0 l0.length l0) (hc0:l0.length ≤ c0) (hr1:Kd.C Kd.string w A1 l1.length l1) (hc1:l1.length ≤ c1) (hr2:Kd.C Kd.string w A2 l2.length l2) (hc2:l2.length ≤ c2) (hr3:Kd.C k70 w A3 l3.length l3) (hc3:l3.length ≤ c3) (hr4:Kd.C k66 w A4 l4.length l4) (hc4:l4.length ≤ c4) (hrd:Kd.C Kd.bool w Ad drops.length drops) (hcd:drops.length ≤ cd)
  (hru:RuOk l0 l1 l2 l3 l4) :
  Calls Try.prog 46 #[.agg #[.slice A0 l0.length c0,.slice A1 l1.length c1,.slice A2 l2.length c2,.slice A3 l3.length c3,.slice A4 l4.length c4],.slice Ad drops.length cd] w fun e w'=>∃ v:Value,e = .returned v∧Kd.R kDg 90 w' w.heap.size (fun _=>True) v (allR l0 l1 l2 l3 l4 drops)∧Below w.heap.size w w':=by
 obtain ⟨kn,hkn⟩:=Ev.rounds (g:=fun k=>pairs_Many.f k l0 l1 l2 l3 l4) (many_ev l0 l1 l2 l3 l4 hru);have hmany:∀ w',Below w.heap.size w w' → Calls Try.prog 48 #[.agg #[.slice A0 l0.length c0,.slice A1 l1.length c1,.slice A2 l2.length c2,.slice A3 l3.length c3,.slice A4 l4.length c4]] w' fun e w''=>e = .returned (.int .i64 (manyN l0 l1 l2 l3 l4:Int))∧Below w'.heap.size w' w'':=fun w' hx =>
  pairs_Many.calls kn A0 c0 l0 A1 c1 l1 A2 c2 l2 A3 c3 l3 A4 c4 l4 _ w' (Kd.C_below hr0 hx) hc0 (Kd.C_below hr1 hx) hc1 (Kd.C_below hr2 hx) hc2 (Kd.C_below hr3 hx) hc3 (Kd.C_below hr4 hx) hc4 hkn
 by_cases hno:manyN l0 l1 l2 l3 l4=0 ∨ drops.length ≠ l0.length
 ·rw [show allR l0 l1 l2 l3 l4 drops = [] from if_pos hno];exact (all_no A0 l0.length c0 A1 l1.length c1 A2 l2.length c2 A3 l3.length c3 A4 l4.length c4 Ad drops.length cd w _ hno hmany).mono fun e w2 ⟨he,hb⟩=>⟨_,he,Kd.R_nil _ _ _ _ _,hb⟩
 ·(have hN:manyN l0 l1 l2 l3 l4 ≠ 0:=fun e=>hno (.inl e));(have hdl:drops.length=l0.length:=Classical.byContradiction fun e=>hno (.inr e));have hck:=many_check hN;have hpt:=checkB_parts hck;have hdn:=dlen l0 l1 l2 l3 l4 hck;have hdb:=dle l0 l1 l2 l3 l4 hck;have hML:=many_le l0 l1 l2 l3 l4;(have hs0:∀ n,(stN l0.length l1.length n).f0.length=l0.length:=fun n=>bitsL_len _ _);(have hs1:∀ n,(stN l0.length l1.length n).f1.length=l1.length:=fun n=>digsL_len _ _);(have hsd:∀ n,∀ x ∈ (stN l0.length l1.length n).f1,0 ≤ x∧x ≤ 2:=fun n=>digsL_le _ _);(have hwo:∀ n,StOk (wS (stN l0.length l1.length n).f0) (wC (stN l0.length l1.length n).f1):=fun n=>wide_ok _ (by rw [hs0];omega) (by rw [hs1];omega));have hwm:∀ n,mayS l0.length l1.length (wS (stN l0.length l1.length n).f0) (wC (stN l0.length l1.length n).f1)=true:=fun n=>by
   have:=wide_may (stN l0.length l1.length n) (fun x hx=>by have:=hsd n x hx;omega);rwa [hs0,hs1] at this
  (have hal:=fun (a b:Int) (n:Nat)=>apartS_len l4 drops (stN l0.length l1.length n) a b);(have hab:=fun (a b:Int) (n:Nat)=>apartS_le l4 hdb drops (stN l0.length l1.length n) a b (fun x hx=>by have:=hsd n x hx;omega));(have hao:∀ (a b:Int) (n:Nat),StOk (wS (apartS l4 drops (stN l0.length l1.length n) a b).f0) (wC (apartS l4 drops (stN l0.length l1.length n) a b).f1):=fun a b n=>wide_ok _ (by rw [(hal a b n).1,hs0];omega) (by rw [(hal a b n).2,hs1];omega));have ham:∀ (a b:Int) (n:Nat),mayS l0.length l1.length (wS (apartS l4 drops (stN l0.length l1.length n) a b).f0) (wC (apartS l4 drops (stN l0.length l1.length n) a b).f1)=true:=fun a b n=>by
   have:=wide_may (apartS l4 drops (stN l0.length l1.length n) a b) (fun x hx=>by have:=hab a b n x hx;omega);rwa [(hal a b n).1,(hal a b n).2,hs0,hs1] at this
  obtain ⟨kn,hkn⟩:=Ev.rounds (g:=fun k=>pairs_Many.f k l0 l1 l2 l3 l4) (many_ev l0 l1 l2 l3 l4 hru);have hmem:∀ o:Int,o ∈ (List.range l4.length).map (fun (i:Nat)=>(i:Int)) ↔ 0 ≤ o∧o < (l4.length:Int):=fun o=>by
   rw [List.mem_map];constructor
   ·rintro ⟨j,hj,rfl⟩;have:=List.mem_range.1 hj;omega
   ·rintro ⟨h0,h1⟩;exact ⟨o.toNat,List.mem_range.2 (by omega),by omega⟩
  rw [show allR l0 l1 l2 l3 l4 drops=allL (clF l0 l1 l2 l3 l4 drops) l4.length l3.length l4.length from if_neg hno];refine all_walk A0 l0.length c0 A1 l1.length c1 A2 l2.length c2 A3 c3 l3 A4 l4.length c4 Ad drops.length cd w hdl.symm (manyN l0 l1 l2 l3 l4)
   (valT ((List.range l4.length).map (fun (i:Nat)=>(i:Int))) (fun o n=>freeN l3 l4 (stN l0.length l1.length n) o) (manyN l0 l1 l2 l3 l4) 0) ((List.range (manyN l0 l1 l2 l3 l4)).map (stN l0.length l1.length)) (fdN l0 l1 l2 l3 l4 drops) (clF l0 l1 l2 l3 l4 drops) hr3 hc3 (by omega) (by omega) (by omega) (fun _ _ _=>rfl) hmany ?_ ?_
  ·intro w' Ao co hw hCo hco;rw [show (Value.slice Ao l4.length co)=Value.slice Ao ((List.range l4.length).map (fun (i:Nat)=>(i:Int))).length co by rw [List.length_map,List.length_range]];refine tabled_walk A0 l0.length c0 A1 l1.length c1 A2 l2.length c2 A3 l3.length c3 A4 l4.length c4 Ao co ((List.range l4.length).map (fun (i:Nat)=>(i:Int))) w' (manyN l0 l1 l2 l3 l4) (stN l0.length l1.length) (fun n=>(wS (stN l0.length l1.length n).f0,wC (stN l0.length l1.length n).f1)) (fun n=>brL l3 (wS (stN l0.length l1.length n).f0) (wC (stN l0.length l1.length n).f1)) (fun o n=>firstN l3 l4 (wS (stN l0.length l1.length n).f0) (wC (stN l0.length l1.length n).f1) o) (fun o n=>freeN l3 l4 (stN l0.length l1.length n) o) (by rw [List.length_map,List.length_range];exact hCo) (by rw [List.length_map,List.length_range];exact hco) (by rw [List.length_map,List.length_range];omega) hML (fun o n=>rfl) ?_ ?_ ?_ ?_ ?_
   ·intro w2 hw2;have hx:=below_step hw hw2;exact pairs_Many.calls kn A0 c0 l0 A1 c1 l1 A2 c2 l2 A3 c3 l3 A4 c4 l4 _ w2 (Kd.C_below hr0 hx) hc0 (Kd.C_below hr1 hx) hc1 (Kd.C_below hr2 hx) hc2 (Kd.C_below hr3 hx) hc3 (Kd.C_below hr4 hx) hc4 hkn
   ·intro n hn w2 hw2;have hx:=below_step hw hw2;obtain ⟨k,hk⟩:=Ev.rounds (g:=fun k=>pairs_state.f k l0 l1 l2 l3 l4 (n:Int)) (state_ev l0 l1 l2 l3 l4 (by omega) (by omega) n (by omega));exact pairs_state.calls k A0 c0 l0 A1 c1 l1 A2 c2 l2 A3 c3 l3 A4 c4 l4 _ _ _ w2 (Kd.C_below hr0 hx) hc0 (Kd.C_below hr1 hx) hc1 (Kd.C_below hr2 hx) hc2 (Kd.C_below hr3 hx) hc3 (Kd.C_below hr4 hx) hc4 hk
   ·intro n hn w2 B0 d0 B1 d1 k0 e0 k1 e1;obtain ⟨k,hk⟩:=Ev.rounds (g:=fun k=>pairs_wide.f k (stN l0.length l1.length n).f0 (stN l0.length l1.length n).f1) (wide_ev _ (by rw [hs0];omega) (by rw [hs1];omega));exact pairs_wide.calls k B0 d0 _ B1 d1 _ _ _ w2 k0 e0 k1 e1 hk
   ·intro n hn w2 B0 d0 B1 d1 hw2 k0 e0 k1 e1;have hx:=below_step hw hw2;obtain ⟨k,hk⟩:=Ev.rounds (g:=fun k=>eval_Broken.f k l0 l1 l2 l3 l4 (wS (stN l0.length l1.length n).f0) (wC (stN l0.length l1.length n).f1)) (broken_ev l0 l1 l2 l3 l4 hck hru _ _ (hwo n) (hwm n));exact eval_Broken.calls k A0 c0 l0 A1 c1 l1 A2 c2 l2 A3 c3 l3 A4 c4 l4 B0 d0 _ B1 d1 _ _ w2 (Kd.C_below hr0 hx) hc0 (Kd.C_below hr1 hx) hc1 (Kd.C_below hr2 hx) hc2 (Kd.C_below hr3 hx) hc3 (Kd.C_below hr4 hx) hc4 k0 e0 k1 e1 hk
   ·intro n hn o ho hbr w2 B0 d0 B1 d1 hw2 k0 e0 k1 e1;have hx:=below_step hw hw2;have hor:0 ≤ o∧o < (l4.length:Int):=(hmem o).1 ho;obtain ⟨k,hk⟩:=Ev.rounds (g:=fun k=>wp_First.f k l0 l1 l2 l3 l4 (wS (stN l0.length l1.length n).f0) (wC (stN l0.length l1.length n).f1) o kB) (first_ev l0 l1 l2 l3 l4 hck hru _ _ (hwo n) (hwm n) o hor);exact (wp_First.calls k A0 c0 l0 A1 c1 l1 A2 c2 l2 A3 c3 l3 A4 c4 l4 B0 d0 _ B1 d1 _ o kB _ _ w2 (Kd.C_below hr0 hx) hc0 (Kd.C_below hr1 hx) hc1 (Kd.C_below hr2 hx) hc2 (Kd.C_below hr3 hx) hc3 (Kd.C_below hr4 hx) hc4 k0 e0 k1 e1 hk).mono fun e w3 ⟨he,hb3⟩=>⟨_,he,hb3⟩
  ·intro w' w0s mb fs vs a b cl ha hb hcl hw hT hle;have hval:∀ o,0 ≤ o∧o < (l4.length:Int) → valT ((List.range l4.length).map (fun (i:Nat)=>(i:Int))) (fun o n=>freeN l3 l4 (stN l0.length l1.length n) o) (manyN l0 l1 l2 l3 l4) 0 o=(List.range (manyN l0 l1 l2 l3 l4)).map (fun n=>freeN l3 l4 (stN l0.length l1.length n) o):=fun o ho=>by
    unfold valT cntT;rw [List.take_zero,if_neg (by simp),if_pos ((hmem o).2 ho)]
   have hA:=attab_walk A0 l0.length c0 A1 l1.length c1 A2 l2.length c2 A3 l3.length c3 A4 l4.length c4 Ad drops.length cd (a:Int) (b:Int) (cl:Int) w' w0s mb fs _ vs (manyN l0 l1 l2 l3 l4) (stN l0.length l1.length) (fun o n=>freeN l3 l4 (stN l0.length l1.length n) o) (fun n=>((apartS l4 drops (stN l0.length l1.length n) (a:Int) (b:Int)).f0,(apartS l4 drops (stN l0.length l1.length n) (a:Int) (b:Int)).f1)) (fun n=>([],[])) (fun n=>(wS (apartS l4 drops (stN l0.length l1.length n) (a:Int) (b:Int)).f0,wC (apartS l4 drops (stN l0.length l1.length n) (a:Int) (b:Int)).f1)) (fun n=>holdsB (wS (apartS l4 drops (stN l0.length l1.length n) (a:Int) (b:Int)).f0) (wC (apartS l4 drops (stN l0.length l1.length n) (a:Int) (b:Int)).f1) (rd_T70 l3 (cl:Int))) hT hle hML (hval a ⟨by omega,by omega⟩) (hval b ⟨by omega,by omega⟩) ?_ ?_ ?_
   ·exact hA.mono fun e w2 ⟨v0,v1,he,h3,h4,h5⟩=>by
     obtain ⟨B0,d0,rfl,_,_⟩:=Kd.R_reads h3;obtain ⟨B1,d1,rfl,_,_⟩:=Kd.R_reads h4;exact ⟨_,_,he,⟨_,_,_,rfl⟩,⟨_,_,_,rfl⟩,h5⟩
   ·intro n hn _ _ w2 D0 d0 D1 d1 hw2 k0 e0 k1 e1;have hx:=below_step hw hw2;obtain ⟨k,hk⟩:=Ev.rounds (g:=fun k=>pairs_apart.f k l0 l1 l2 l3 l4 drops (stN l0.length l1.length n).f0 (stN l0.length l1.length n).f1 (a:Int) (b:Int)) (apart_ev l0 l1 l2 l3 l4 hdn hdb drops (stN l0.length l1.length n) (a:Int) (b:Int) (by rw [hs0];omega) (by rw [hs1];omega) (by rw [hs0];exact hdl) (fun x hx2=>by have:=hsd n x hx2;omega));exact pairs_apart.calls k A0 c0 l0 A1 c1 l1 A2 c2 l2 A3 c3 l3 A4 c4 l4 Ad cd drops D0 d0 _ D1 d1 _ (a:Int) (b:Int) _ _ w2 (Kd.C_below hr0 hx) hc0 (Kd.C_below hr1 hx) hc1 (Kd.C_below hr2 hx) hc2 (Kd.C_below hr3 hx) hc3 (Kd.C_below hr4 hx) hc4 (Kd.C_below hrd hx) hcd k0 e0 k1 e1 hk
   ·intro n hn _ _ w2 D0 d0 D1 d1 k0 e0 k1 e1;obtain ⟨k,hk⟩:=Ev.rounds (g:=fun k=>pairs_wide.f k (apartS l4 drops (stN l0.length l1.length n) (a:Int) (b:Int)).f0 (apartS l4 drops (stN l0.length l1.length n) (a:Int) (b:Int)).f1) (wide_ev _ (by rw [(hal _ _ n).1,hs0];omega) (by rw [(hal _ _ n).2,hs1];omega));exact pairs_wide.calls k D0 d0 _ D1 d1 _ _ _ w2 k0 e0 k1 e1 hk
   ·intro n hn _ _ w2 D0 d0 D1 d1 hw2 k0 e0 k1 e1;have hx:=below_step hw hw2;exact eval_Holds.calls A0 c0 l0 A1 c1 l1 A2 c2 l2 A3 c3 l3 A4 c4 l4 D0 d0 _ D1 d1 _ (cl:Int) _ w2 (Kd.C_below hr0 hx) hc0 (Kd.C_below hr1 hx) hc1 (Kd.C_below hr2 hx) hc2 (Kd.C_below hr3 hx) hc3 (Kd.C_below hr4 hx) hc4 k0 e0 k1 e1 (holds_f l0 l1 l2 l3 l4 hck hru _ _ (hao _ _ n) (ham _ _ n) (cl:Int) (by omega) (by omega))
end Go.Proofs.Ytjbjbeihkoeciaa.X
namespace Go.Proofs.Ytjbjbeihkoeciaa.X
open Go.RowKit Go.Proofs.YtjbjbeihkoeciaaW.PrintWords Go.ChangeShapes Go.WideShapes Go.Deep
theorem list_of {α:Type} {R:Nat → α → Prop}:∀ n:Nat,(∀ i,i < n → ∃ z,R i z) → ∃ zs:List α,zs.length=n∧∀ j p,zs[j]? = some p → R j p:=by
 intro n;induction n with
 | zero=>intro _;exact ⟨[],rfl,fun j p h=>by simp at h⟩
 | succ n ih =>
  intro h;obtain ⟨zs,hl,hz⟩:=ih (fun i hi=>h i (by omega));obtain ⟨z,hr⟩:=h n (by omega);refine ⟨zs ++ [z],by simp [hl],fun j p hj=>?_⟩;rcases Nat.lt_trichotomy j n with h1|h1|h1
  ·rw [List.getElem?_append_left (by omega)] at hj;exact hz j p hj
  ·subst h1;rw [List.getElem?_append_right (by omega),hl,Nat.sub_self] at hj;injection hj with hj;subst hj;exact hr
  ·rw [List.getElem?_eq_none (by simp [hl];omega)] at hj;cases hj
theorem struct_fields {H:Type} {enc:TypeId × Value → H} {P:Program} {w:World} {base:Nat} {spare:Nat → Bool} {held:Bool} {m:Nat} {fs:Array Field} {cs:List Value} {xs:List (DataW H × List MemPlace)} (hone:oneCellFields P fs=true)
  (hf:∀ (i:Nat) (f:Field),fs[i]? = some f → DataW.trod enc P w base spare held m f.type ((cs.drop f.offset).take (P.cellsOf f.type))=xs[i]?) :
  ∀ (i:Nat) (f:Field),fs[i]? = some f → DataW.trod enc P w base spare held m f.type ((cs.drop i).take 1)=xs[i]?:=by
 intro i f hi;have h1:=hf i f hi;obtain ⟨ho,hk⟩:=hone_of hone i f hi;rw [ho,hk] at h1;exact h1
theorem take1 {cs:List Value} {i:Nat} {v:Value} (h:(cs.drop i).take 1 = [v]):cs[i]? = some v:=by
 have:=congrArg (fun l=>l[0]?) h;simpa using this
end Go.Proofs.Ytjbjbeihkoeciaa.X
namespace Go.Proofs.Ytjbjbeihkoeciaa.X
open Go.RowKit Go.Proofs.YtjbjbeihkoeciaaW.PrintWords Go.ChangeShapes Go.WideShapes Go.Deep
theorem open_rowK {H:Type} {enc:TypeId × Value → H} {P:Program} {w:World} {spare:Nat → Bool} {held:Bool} {t e:TypeId} {α:Type} (d:Kd α) (good:α → Prop) (hsz:P.cellsOf e=d.sz)
  (ht:P.underlying t=some (.slice e)) (hel:∀ (n:Nat) (cs:List Value) (x:DataW H × List MemPlace),DataW.trod enc P w 0 spare held n e cs=some x → ∃ z:α,d.K w z cs∧good z)
  (n:Nat) (cs:List Value) (x:DataW H × List MemPlace) (h:DataW.trod enc P w 0 spare held n t cs=some x) :
  ∃ (zs:List α) (A:Option Addr) (c:Nat),cs = [.slice A zs.length c]∧zs.length ≤ c∧Kd.C d w A zs.length zs∧∀ z ∈ zs,good z:=by
 rcases open_slice ht h with ⟨hcs,_⟩ | ⟨a,l,c,m,n',D,Pl,hcs,_,hl,hm,hmm,_,hi⟩
 ·exact ⟨[],none,0,hcs,Nat.le_refl 0,⟨rfl,Nat.zero_le _,fun h=>absurd h (by simp)⟩,fun z hz=>by simp at hz⟩
 ·(have hlm:l ≤ m:=by rw [hmm];split <;> omega);obtain ⟨zs,hzl,hz⟩:=list_of (R:=fun i z=>good z∧∃ cs',cs'.length=d.sz∧d.K w z cs'∧∀ j u,cs'[j]? = some u → w.cell? (a.add (i * d.sz + j))=some u) l (fun i hil=>by
   obtain ⟨cs',hc,hd⟩:=hi i (by omega)
   obtain ⟨z,hk,hg⟩:=hel n' cs' _ hd
   rw [hsz] at hc
   obtain ⟨_,hlen,hat⟩:=World.cells?_some hc
   refine ⟨z,hg,cs',hlen,hk,fun j u hj=>?_⟩
   have hjl:j < d.sz:=by rw [← hlen];exact (List.getElem?_eq_some_iff.1 hj).1
   have:=hat j hjl
   rw [Go.Deep.add_add] at this
   rw [this,hj])
  subst hzl;refine ⟨zs,some a,c,hcs,hl,⟨rfl,?_,fun _=>⟨a,rfl,fun j p hj=>(hz j p hj).2⟩⟩,fun z hz'=>?_⟩
  ·simp only [maxLen] at hm;omega
  ·obtain ⟨j,hj,rfl⟩:=List.mem_iff_getElem.1 hz';exact (hz j _ (List.getElem?_eq_getElem hj)).1
def goodStr (s:ByteArray):Prop:=s.size ≤ maxLen
def goodCl (c:Cl):Prop:=(Lit.int .i64 c.f0).wf=true∧(Lit.int .i64 c.f2).wf=true∧(Lit.int .i64 c.f3).wf=true∧(Lit.int .i64 c.f4).wf=true
def goodDg (d:Dg):Prop:=(Lit.int .i64 d.f0).wf=true∧(Lit.int .i64 d.f1).wf=true∧(Lit.int .i64 d.f2).wf=true
def goodOp (o:Op_):Prop:=goodStr o.f0∧∀ d ∈ o.f1,goodDg d
section
variable {H:Type} {enc:TypeId × Value → H} {w:World} {spare:Nat → Bool} {held:Bool}
theorem openStr (n:Nat) (cs:List Value) (x:DataW H × List MemPlace) (h:DataW.trod enc Try.prog w 0 spare held n 9 cs=some x):∃ z:ByteArray,Kd.string.K w z cs∧goodStr z:=by
 obtain ⟨s,rfl,_,hs⟩:=DataW.trod_string Try.underlying9 h;exact ⟨s,rfl,hs⟩
theorem openCl (n:Nat) (cs:List Value) (x:DataW H × List MemPlace) (h:DataW.trod enc Try.prog w 0 spare held n 70 cs=some x):∃ z:Cl,k70.K w z cs∧goodCl z:=by
 obtain ⟨xs,m,rfl,rfl,hl,hxl,hf⟩:=DataW.trod_struct Try.underlying70 h;have hl':cs.length=5:=hl.trans (by kernel_rfl);have hxl':xs.length=5:=hxl;have hf':=struct_fields (by kernel_rfl) hf;have e0:=hf' 0 _ rfl;rw [List.getElem?_eq_getElem (by omega)] at e0;obtain ⟨s0,g0,_,w0⟩:=DataW.trod_int Try.underlying3 e0;have c0:cs[0]? = some (.int .i64 s0):=take1 g0;have e1:=hf' 1 _ rfl;rw [List.getElem?_eq_getElem (by omega)] at e1;obtain ⟨s1,g1,_⟩:=DataW.trod_bool Try.underlying4 e1;have c1:cs[1]? = some (.bool s1):=take1 g1;have e2:=hf' 2 _ rfl;rw [List.getElem?_eq_getElem (by omega)] at e2;obtain ⟨s2,g2,_,w2⟩:=DataW.trod_int Try.underlying3 e2;have c2:cs[2]? = some (.int .i64 s2):=take1 g2;have e3:=hf' 3 _ rfl;rw [List.getElem?_eq_getElem (by omega)] at e3;obtain ⟨s3,g3,_,w3⟩:=DataW.trod_int Try.underlying3 e3;have c3:cs[3]? = some (.int .i64 s3):=take1 g3;have e4:=hf' 4 _ rfl;rw [List.getElem?_eq_getElem (by omega)] at e4;obtain ⟨s4,g4,_,w4⟩:=DataW.trod_int Try.underlying3 e4;have c4:cs[4]? = some (.int .i64 s4):=take1 g4;have he:cs = [.int .i64 s0,.bool s1,.int .i64 s2,.int .i64 s3,.int .i64 s4]:=by
  apply List.ext_getElem?;intro j;rcases j with _|_|_|_|_|j
  ·exact c0
  ·exact c1
  ·exact c2
  ·exact c3
  ·exact c4
  ·rw [List.getElem?_eq_none (by omega)];rfl
 exact ⟨⟨s0,s1,s2,s3,s4⟩,he ▸ k70_mk w ⟨s0,s1,s2,s3,s4⟩,w0,w2,w3,w4⟩
theorem openDg (n:Nat) (cs:List Value) (x:DataW H × List MemPlace) (h:DataW.trod enc Try.prog w 0 spare held n 84 cs=some x):∃ z:Dg,k84.K w z cs∧goodDg z:=by
 obtain ⟨xs,m,rfl,rfl,hl,hxl,hf⟩:=DataW.trod_struct Try.underlying84 h;have hl':cs.length=3:=hl.trans (by kernel_rfl);have hxl':xs.length=3:=hxl;have hf':=struct_fields (by kernel_rfl) hf;have e0:=hf' 0 _ rfl;rw [List.getElem?_eq_getElem (by omega)] at e0;obtain ⟨s0,g0,_,w0⟩:=DataW.trod_int Try.underlying3 e0;have c0:cs[0]? = some (.int .i64 s0):=take1 g0;have e1:=hf' 1 _ rfl;rw [List.getElem?_eq_getElem (by omega)] at e1;obtain ⟨s1,g1,_,w1⟩:=DataW.trod_int Try.underlying3 e1;have c1:cs[1]? = some (.int .i64 s1):=take1 g1;have e2:=hf' 2 _ rfl;rw [List.getElem?_eq_getElem (by omega)] at e2;obtain ⟨s2,g2,_,w2⟩:=DataW.trod_int Try.underlying3 e2;have c2:cs[2]? = some (.int .i64 s2):=take1 g2;have he:cs = [.int .i64 s0,.int .i64 s1,.int .i64 s2]:=by
  apply List.ext_getElem?;intro j;rcases j with _|_|_|j
  ·exact c0
  ·exact c1
  ·exact c2
  ·rw [List.getElem?_eq_none (by omega)];rfl
 exact ⟨⟨s0,s1,s2⟩,he ▸ k84_mk w ⟨s0,s1,s2⟩,w0,w1,w2⟩
theorem openOp (n:Nat) (cs:List Value) (x:DataW H × List MemPlace) (h:DataW.trod enc Try.prog w 0 spare held n 66 cs=some x):∃ z:Op_,k66.K w z cs∧goodOp z:=by
 obtain ⟨xs,m,rfl,rfl,hl,hxl,hf⟩:=DataW.trod_struct Try.underlying66 h;have hl':cs.length=2:=hl.trans (by kernel_rfl);have hxl':xs.length=2:=hxl;have hf':=struct_fields (by kernel_rfl) hf;have e0:=hf' 0 _ rfl;rw [List.getElem?_eq_getElem (by omega)] at e0;obtain ⟨s0,g0,_,w0⟩:=DataW.trod_string Try.underlying9 e0;have c0:cs[0]? = some (.string s0):=take1 g0;have e1:=hf' 1 _ rfl;rw [List.getElem?_eq_getElem (by omega)] at e1;obtain ⟨zs,A,c,g1,lc,hC,hg⟩:=open_rowK k84 goodDg (by kernel_rfl) Try.underlying64 openDg _ _ _ e1;have c1:cs[1]? = some (.slice A zs.length c):=take1 g1;have he:cs = [.string s0,.slice A zs.length c]:=by
  apply List.ext_getElem?;intro j;rcases j with _|_|j
  ·exact c0
  ·exact c1
  ·rw [List.getElem?_eq_none (by omega)];rfl
 exact ⟨⟨s0,zs⟩,he ▸ k66_mk w ⟨s0,zs⟩ lc hC,w0,hg⟩
theorem openRules (n:Nat) (cs:List Value) (x:DataW H × List MemPlace) (h:DataW.trod enc Try.prog w 0 spare held n 26 cs=some x) :
  ∃ (l0 l1 l2:List ByteArray) (l3:List Cl) (l4:List Op_) (A0 A1 A2 A3 A4:Option Addr) (c0 c1 c2 c3 c4:Nat),
   cs = [.slice A0 l0.length c0,.slice A1 l1.length c1,.slice A2 l2.length c2,.slice A3 l3.length c3,.slice A4 l4.length c4] ∧
   Kd.C Kd.string w A0 l0.length l0∧l0.length ≤ c0∧Kd.C Kd.string w A1 l1.length l1∧l1.length ≤ c1∧Kd.C Kd.string w A2 l2.length l2∧l2.length ≤ c2 ∧
   Kd.C k70 w A3 l3.length l3∧l3.length ≤ c3∧Kd.C k66 w A4 l4.length l4∧l4.length ≤ c4 ∧
   (∀ s ∈ l0,goodStr s)∧(∀ s ∈ l1,goodStr s)∧(∀ s ∈ l2,goodStr s)∧(∀ c ∈ l3,goodCl c)∧∀ o ∈ l4,goodOp o:=by
 obtain ⟨xs,m,rfl,rfl,hl,hxl,hf⟩:=DataW.trod_struct Try.underlying26 h;have hl':cs.length=5:=hl.trans (by kernel_rfl);have hxl':xs.length=5:=hxl;have hf':=struct_fields (by kernel_rfl) hf;have e0:=hf' 0 _ rfl;rw [List.getElem?_eq_getElem (by omega)] at e0;obtain ⟨l0,A0,c0,g0,le0,C0,ok0⟩:=open_rowK Kd.string goodStr (by kernel_rfl) Try.underlying22 openStr _ _ _ e0;have y0:=take1 g0;have e1:=hf' 1 _ rfl;rw [List.getElem?_eq_getElem (by omega)] at e1;obtain ⟨l1,A1,c1,g1,le1,C1,ok1⟩:=open_rowK Kd.string goodStr (by kernel_rfl) Try.underlying22 openStr _ _ _ e1;have y1:=take1 g1;have e2:=hf' 2 _ rfl;rw [List.getElem?_eq_getElem (by omega)] at e2;obtain ⟨l2,A2,c2,g2,le2,C2,ok2⟩:=open_rowK Kd.string goodStr (by kernel_rfl) Try.underlying22 openStr _ _ _ e2;have y2:=take1 g2;have e3:=hf' 3 _ rfl;rw [List.getElem?_eq_getElem (by omega)] at e3;obtain ⟨l3,A3,c3,g3,le3,C3,ok3⟩:=open_rowK k70 goodCl (by kernel_rfl) Try.underlying23 openCl _ _ _ e3;have y3:=take1 g3;have e4:=hf' 4 _ rfl;rw [List.getElem?_eq_getElem (by omega)] at e4;obtain ⟨l4,A4,c4,g4,le4,C4,ok4⟩:=open_rowK k66 goodOp (by kernel_rfl) Try.underlying24 openOp _ _ _ e4;have y4:=take1 g4;refine ⟨l0,l1,l2,l3,l4,A0,A1,A2,A3,A4,c0,c1,c2,c3,c4,?_,C0,le0,C1,le1,C2,le2,C3,le3,C4,le4,ok0,ok1,ok2,ok3,ok4⟩;apply List.ext_getElem?;intro j;rcases j with _|_|_|_|_|j
 ·exact y0
 ·exact y1
 ·exact y2
 ·exact y3
 ·exact y4
 ·rw [List.getElem?_eq_none (by omega)];rfl
end
end Go.Proofs.Ytjbjbeihkoeciaa.X
namespace Go.Proofs.Ytjbjbeihkoeciaa.X
open Go.RowKit Go.Proofs.YtjbjbeihkoeciaaW.PrintWords Go.Proofs.YtjbjbeihkoeciaaW.PrintLast Go.Proofs.YtjbjbeihkoeciaaW.PrintMore
attribute [local go_sem] max2_int min2_int max_two min_two max_three min_three max_four min_four
mutual
def r21_Same.j0:Nat → Bool → List Bool → List Int → List Bool → List Int → Option (Bool)
 | 0,_,_,_,_,_=>none
 | k + 1,x22,Xdj,Xdk,Xdl,Xdm=>if x22=true then (some false) else (r21_Same.l0 k 0 Xdj Xdk Xdl Xdm)
def r21_Same.l0:Nat → Int → List Bool → List Int → List Bool → List Int → Option (Bool)
 | 0,_,_,_,_,_=>none
 | k + 1,x5,Xdj,Xdk,Xdl,Xdm=>if x5 < (Xdj.length:Int) then (if 0 ≤ x5 then (if x5 < (Xdl.length:Int) then (if ((rdOf false Xdj x5) != (rdOf false Xdl x5))=true then (some false) else (r21_Same.l0 k (wrap64 (x5 + 1)) Xdj Xdk Xdl Xdm)) else (none)) else (none)) else (r21_Same.l1 k 0 Xdj Xdk Xdl Xdm)
def r21_Same.l1:Nat → Int → List Bool → List Int → List Bool → List Int → Option (Bool)
 | 0,_,_,_,_,_=>none
 | k + 1,x6,Xdj,Xdk,Xdl,Xdm=>if x6 < (Xdk.length:Int) then (if 0 ≤ x6 then (if x6 < (Xdm.length:Int) then (if (rd Xdk x6)=(rd Xdm x6) then (r21_Same.l1 k (wrap64 (x6 + 1)) Xdj Xdk Xdl Xdm) else (some false)) else (none)) else (none)) else (some true)
end
def r21_Same.f (k:Nat) (l00:List Bool) (l01:List Int) (l10:List Bool) (l11:List Int):Option (Bool):=if (l00.length:Int)=(l10.length:Int) then (r21_Same.j0 k ((l01.length:Int) != (l11.length:Int)) l00 l01 l10 l11) else (r21_Same.j0 k true l00 l01 l10 l11)
set_option maxHeartbeats 8000000 in
set_option maxRecDepth 100000 in
theorem r21_Same.calls (k:Nat) (A0_0:Option Addr) (c0_0:Nat) (l00:List Bool) (A0_1:Option Addr) (c0_1:Nat) (l01:List Int) (A1_0:Option Addr) (c1_0:Nat) (l10:List Bool) (A1_1:Option Addr) (c1_1:Nat) (l11:List Int) (r:Bool) (w:World) (hr00:Kd.C Kd.bool w A0_0 l00.length l00) (hc00:l00.length ≤ c0_0) (hr01:Kd.C (Kd.int .i64) w A0_1 l01.length l01) (hc01:l01.length ≤ c0_1) (hr10:Kd.C Kd.bool w A1_0 l10.length l10) (hc10:l10.length ≤ c1_0) (hr11:Kd.C (Kd.int .i64) w A1_1 l11.length l11) (hc11:l11.length ≤ c1_1) (h:r21_Same.f k l00 l01 l10 l11=some r) :
  Calls Try.prog 15 #[.agg #[.slice A0_0 l00.length c0_0,.slice A0_1 l01.length c0_1],.agg #[.slice A1_0 l10.length c1_0,.slice A1_1 l11.length c1_1]] w fun e w'=>e = .returned (.bool r)∧Below w.heap.size w w':=by
 have hu38:=Try.underlying38;have HR00:=Sd.mk hr00;have J00:=Sd.mk hc00;clear hr00 hc00;have HR01:=Sd.mk hr01;have J01:=Sd.mk hc01;clear hr01 hc01;have HR10:=Sd.mk hr10;have J10:=Sd.mk hc10;clear hr10 hc10;have HR11:=Sd.mk hr11;have J11:=Sd.mk hc11;clear hr11 hc11;have HB:=Sd.mk (Below.refl w.heap.size w);have H:=h;clear h;unfold r21_Same.f at H;have HC3:=Sd.mk H;clear H;go_enter Try.func15,Try.ntmps15;go_upto_region 1 with (first|((with_reducible refine gate_dst (N:=2) rfl ?_);(try (refine gate_guard (by rfl) ?_;dsimp only));refine uX 2 (cs:=#[.slice A0_0 l00.length c0_0,.slice A0_1 l01.length c0_1]) (t:=38) fun gb179 hg w4 BK179 hb=>?_;have GW179:Sd (w.heap.size ≤ gb179):=uG hg;have GE179:=GW179;replace HB:=uH hb;clear hb hg)|((with_reducible refine gate_dst (N:=3) rfl ?_);(try (refine gate_guard (by rfl) ?_;dsimp only));refine uX 3 (cs:=#[.slice A1_0 l10.length c1_0,.slice A1_1 l11.length c1_1]) (t:=38) fun gb180 hg w5 BK180 hb=>?_;have GW180:Sd (w.heap.size ≤ gb180):=uG hg;have GE180:=GW180;have NB179_180:=uN hg BK179;have NB180_179:=uM (uN hg BK179);replace BK179:=uK BK179 hb;replace HB:=uH hb;clear hb hg));(repeat (go_quiet (first|((with_reducible refine gate_dst (N:=2) rfl ?_);(try (refine gate_guard (by rfl) ?_;dsimp only));refine uX 2 (cs:=#[.slice A0_0 l00.length c0_0,.slice A0_1 l01.length c0_1]) (t:=38) fun gb179 hg w4 BK179 hb=>?_;have GW179:Sd (w.heap.size ≤ gb179):=uG hg;have GE179:=GW179;replace HB:=uH hb;clear hb hg)|((with_reducible refine gate_dst (N:=3) rfl ?_);(try (refine gate_guard (by rfl) ?_;dsimp only));refine uX 3 (cs:=#[.slice A1_0 l10.length c1_0,.slice A1_1 l11.length c1_1]) (t:=38) fun gb180 hg w5 BK180 hb=>?_;have GW180:Sd (w.heap.size ≤ gb180):=uG hg;have GE180:=GW180;have NB179_180:=uN hg BK179;have NB180_179:=uM (uN hg BK179);replace BK179:=uK BK179 hb;replace HB:=uH hb;clear hb hg));go_upto_region 1 with (first|((with_reducible refine gate_dst (N:=2) rfl ?_);(try (refine gate_guard (by rfl) ?_;dsimp only));refine uX 2 (cs:=#[.slice A0_0 l00.length c0_0,.slice A0_1 l01.length c0_1]) (t:=38) fun gb179 hg w4 BK179 hb=>?_;have GW179:Sd (w.heap.size ≤ gb179):=uG hg;have GE179:=GW179;replace HB:=uH hb;clear hb hg)|((with_reducible refine gate_dst (N:=3) rfl ?_);(try (refine gate_guard (by rfl) ?_;dsimp only));refine uX 3 (cs:=#[.slice A1_0 l10.length c1_0,.slice A1_1 l11.length c1_1]) (t:=38) fun gb180 hg w5 BK180 hb=>?_;have GW180:Sd (w.heap.size ≤ gb180):=uG hg;have GE180:=GW180;have NB179_180:=uN hg BK179;have NB180_179:=uM (uN hg BK179);replace BK179:=uK BK179 hb;replace HB:=uH hb;clear hb hg))));(try simp only [Act.put,q1_,q2_,q3_]);go_cut [22] (fun v22 wc=>∃ (kq:Nat) (x22_2:Bool),v22 = .bool x22_2∧Sd (r21_Same.j0 kq x22_2 l00 l01 l10 l11=some r)∧Sd (kq ≤ k)∧Sd (wc.heap[gb179]? = some (.cells #[(.slice A0_0 l00.length c0_0),(.slice A0_1 l01.length c0_1)] 38 (0,0)))∧Sd (wc.heap[gb180]? = some (.cells #[(.slice A1_0 l10.length c1_0),(.slice A1_1 l11.length c1_1)] 38 (0,0)))∧Sd (Below w.heap.size w wc))
 case first =>
  have H:=HC3.out;clear HC3;by_cases c6:(l00.length:Int)=(l10.length:Int)
  ·rw [if_pos c6] at H;obtain ⟨c6b0,c6b1⟩:=bT c6;(have c6b2:(l00.length == l10.length)=true:=by first|simpa using c6|(simp at c6 ⊢;omega));clear c6;(first|rw [c6b0]|(simp only [i64_w,i32_w];rw [c6b0])|skip);have H':=Sd.mk H;clear H;have hnb7:=NB179_180.out;have hnc7:=NB180_179.out;obtain ⟨Z8_0,Z8_1,Y8_0,Y8_1⟩:=bd2 BK179;obtain ⟨Z9_0,Z9_1,Y9_0,Y9_1⟩:=bd2 BK180;go_wp2;(repeat (go_quiet (fail);try go_wp2));go_meet
   case rel=>exact ⟨_,(((l01.length:Int) != (l11.length:Int))),tSS,H',⟨tO⟩,kA BK179,kA BK180,uA⟩
  ·rw [if_neg c6] at H;obtain ⟨c6b0,c6b1⟩:=bN c6;(have c6b2:(l00.length == l10.length)=false:=by first|simpa using c6|(simp at c6 ⊢;omega));(first|rw [c6b0]|(simp only [i64_w,i32_w];rw [c6b0])|skip);have H':=Sd.mk H;clear H;have hnb10:=NB179_180.out;have hnc10:=NB180_179.out;obtain ⟨Z11_0,Z11_1,Y11_0,Y11_1⟩:=bd2 BK179;obtain ⟨Z12_0,Z12_1,Y12_0,Y12_1⟩:=bd2 BK180;go_wp2;(repeat (go_quiet (fail);try go_wp2));go_meet
   case rel=>exact ⟨_,(true),tSS,H',⟨tO⟩,kA BK179,kA BK180,uA⟩
 case rest =>
  clear HC3;(try clear c1);(try clear p2);(try clear c6);(try clear c6b0);(try clear c6b1);(try clear c6b2);(try clear c7);(try clear c10);(try clear Z11_0 Z11_1 Y11_0 Y11_1);(try clear Z12_0 Z12_1 Y12_0 Y12_1);(try clear Z8_0 Z8_1 Y8_0 Y8_1);(try clear Z9_0 Z9_1 Y9_0 Y9_1);obtain ⟨kq,x22_2,rfl,HA,HJ2,BK179,BK180,HB⟩:=hcut;cases kq with
  | zero=>exact absurd HA.out (by simp [r21_Same.j0])
  | succ kj2 =>
   have H:=HA.out;clear HA;simp only [r21_Same.j0] at H;by_cases c13:x22_2=true
   ·subst c13;replace H:=iT H;obtain rfl:=sI H;go_wp2;(repeat (go_quiet (fail);try go_wp2));go_ret;exact ⟨tW,uB⟩
   ·replace c13:=Bool.eq_false_iff.mpr c13;subst c13;replace H:=iF H;have H':=Sd.mk H;clear H;go_wp2;(repeat (go_quiet (fail);try go_wp2));go_loopg [5] kj2 (fun kq v5 w'=>∃ (x5_2:Int),v5 = .int .i64 x5_2∧Sd (r21_Same.l0 kq x5_2 l00 l01 l10 l11=some r)∧Sd (kq ≤ kj2)∧Sd (w'.heap[gb179]? = some (.cells #[(.slice A0_0 l00.length c0_0),(.slice A0_1 l01.length c0_1)] 38 (0,0)))∧Sd (w'.heap[gb180]? = some (.cells #[(.slice A1_0 l10.length c1_0),(.slice A1_1 l11.length c1_1)] 38 (0,0)))∧Sd (Below w.heap.size w w'))
    case atStart=>exact ⟨(0),tSS,H',⟨Nat.le_refl _⟩,kA BK179,kA BK180,uA⟩
    case round =>
     clear H';(try clear c1);(try clear p2);(try clear c6);(try clear c6b0);(try clear c6b1);(try clear c6b2);(try clear c7);(try clear c10);(try clear c13);(try clear Z11_0 Z11_1 Y11_0 Y11_1);(try clear Z12_0 Z12_1 Y12_0 Y12_1);(try clear Z8_0 Z8_1 Y8_0 Y8_1);(try clear Z9_0 Z9_1 Y9_0 Y9_1);(try clear p2);obtain ⟨x5_2,rfl,HA,HK2,BK179,BK180,HB⟩:=hrel;cases gk with
     | zero=>exact absurd HA.out (by simp [r21_Same.l0])
     | succ k2 =>
      have H:=HA.out;clear HA;simp only [r21_Same.l0] at H;by_cases c14:x5_2 < (l00.length:Int)
      ·rw [if_pos c14] at H;have c14b0:=dTr c14;clear c14;by_cases c15:0 ≤ x5_2
       ·rw [if_pos c15] at H;have c15b0:=dTr c15;clear c15;by_cases c16:x5_2 < (l10.length:Int)
        ·rw [if_pos c16] at H;have c16b0:=dTr c16;clear c16;by_cases c17:((rdOf false l00 x5_2) != (rdOf false l10 x5_2))=true
         ·rw [if_pos c17] at H;have c17b0:((rdOf false l00 x5_2) != (rdOf false l10 x5_2))=true:=c17;(try (have c17b1:decide ((rdOf false l00 x5_2)=(rdOf false l10 x5_2))=false:=by simpa using c17));(try (have c17b2:((rdOf false l00 x5_2) == (rdOf false l10 x5_2))=false:=by simpa using c17));(try (have c17b3:¬ ((rdOf false l00 x5_2)=(rdOf false l10 x5_2)):=by simpa using c17));clear c17;obtain rfl:=sI H;have hnb18:=NB179_180.out;have hnc18:=NB180_179.out;obtain ⟨Z19_0,Z19_1,Y19_0,Y19_1⟩:=bd2 BK179;have p181:0 ≤ (x5_2:Int):=tD;have q181:x5_2 < (l00.length:Int):=tD;obtain ⟨ad181,e181,hx181_0⟩:=Kd.at_bool HR00.out x5_2 p181 q181;cases e181;replace hx181_0:=uC HB hx181_0;replace p181:=eq_true p181;replace q181:=eq_true q181;obtain ⟨Z20_0,Z20_1,Y20_0,Y20_1⟩:=bd2 BK180;have p182:0 ≤ (x5_2:Int):=tD;have q182:x5_2 < (l10.length:Int):=tD;obtain ⟨ad182,e182,hx182_0⟩:=Kd.at_bool HR10.out x5_2 p182 q182;cases e182;replace hx182_0:=uC HB hx182_0;replace p182:=eq_true p182;replace q182:=eq_true q182;go_wp2;(repeat (go_quiet (fail);try go_wp2));go_ret;exact ⟨tW,uB⟩
         ·rw [if_neg c17] at H;(have c17b0:((rdOf false l00 x5_2) != (rdOf false l10 x5_2))=false:=by simpa using c17);(try (have c17b1:decide ((rdOf false l00 x5_2)=(rdOf false l10 x5_2))=true:=by simpa using c17));(try (have c17b2:((rdOf false l00 x5_2) == (rdOf false l10 x5_2))=true:=by simpa using c17));clear c17;have H':=Sd.mk H;clear H;have hnb21:=NB179_180.out;have hnc21:=NB180_179.out;obtain ⟨Z22_0,Z22_1,Y22_0,Y22_1⟩:=bd2 BK179;have p181:0 ≤ (x5_2:Int):=tD;have q181:x5_2 < (l00.length:Int):=tD;obtain ⟨ad181,e181,hx181_0⟩:=Kd.at_bool HR00.out x5_2 p181 q181;cases e181;replace hx181_0:=uC HB hx181_0;replace p181:=eq_true p181;replace q181:=eq_true q181;obtain ⟨Z23_0,Z23_1,Y23_0,Y23_1⟩:=bd2 BK180;have p182:0 ≤ (x5_2:Int):=tD;have q182:x5_2 < (l10.length:Int):=tD;obtain ⟨ad182,e182,hx182_0⟩:=Kd.at_bool HR10.out x5_2 p182 q182;cases e182;replace hx182_0:=uC HB hx182_0;replace p182:=eq_true p182;replace q182:=eq_true q182;go_wp2;(repeat (go_quiet (fail);try go_wp2));go_roundg k2
          case measure=>have:=HJ2.out;have:=HK2.out;omega
          case rel=>exact ⟨(wrap64 (x5_2 + 1)),tSS,H',⟨by have:=HJ2.out;have:=HK2.out;omega⟩,kA BK179,kA BK180,uA⟩
        ·rw [if_neg c16] at H;exact absurd H (by simp)
       ·rw [if_neg c15] at H;exact absurd H (by simp)
      ·rw [if_neg c14] at H;have c14b0:=dFa c14;clear c14;have H':=Sd.mk H;clear H;have hnb24:=NB179_180.out;have hnc24:=NB180_179.out;obtain ⟨Z25_0,Z25_1,Y25_0,Y25_1⟩:=bd2 BK179;go_wp2;(repeat (go_quiet (fail);try go_wp2));go_loopg [6] k2 (fun kq v6 w'=>∃ (x6_3:Int),v6 = .int .i64 x6_3∧Sd (r21_Same.l1 kq x6_3 l00 l01 l10 l11=some r)∧Sd (kq ≤ k2)∧Sd (w'.heap[gb179]? = some (.cells #[(.slice A0_0 l00.length c0_0),(.slice A0_1 l01.length c0_1)] 38 (0,0)))∧Sd (w'.heap[gb180]? = some (.cells #[(.slice A1_0 l10.length c1_0),(.slice A1_1 l11.length c1_1)] 38 (0,0)))∧Sd (Below w.heap.size w w'))
       case atStart=>exact ⟨(0),tSS,H',⟨Nat.le_refl _⟩,kA BK179,kA BK180,uA⟩
       case round =>
        clear H';(try clear c1);(try clear p1);(try clear q1);(try clear hx1);(try clear c2);(try clear p2);(try clear c6);(try clear c6b0);(try clear c6b1);(try clear c6b2);(try clear p6);(try clear c7);(try clear c10);(try clear c13);(try clear c14);(try clear c14b0);(try clear c15);(try clear c15b0);(try clear c16);(try clear c16b0);(try clear c17);(try clear c17b0);(try clear c17b1);(try clear c17b2);(try clear c18);(try clear p18);(try clear q18);(try clear hx18);(try clear c21);(try clear c24);(try clear Z11_0 Z11_1 Y11_0 Y11_1);(try clear Z12_0 Z12_1 Y12_0 Y12_1);(try clear Z19_0 Z19_1 Y19_0 Y19_1);(try clear Z20_0 Z20_1 Y20_0 Y20_1);(try clear Z22_0 Z22_1 Y22_0 Y22_1);(try clear Z23_0 Z23_1 Y23_0 Y23_1);(try clear Z25_0 Z25_1 Y25_0 Y25_1);(try clear Z8_0 Z8_1 Y8_0 Y8_1);(try clear Z9_0 Z9_1 Y9_0 Y9_1);(try clear hx181_0);(try clear hx182_0);(try clear p181);(try clear p182);(try clear p2);(try clear q181);(try clear q182);obtain ⟨x6_3,rfl,HA,HK3,BK179,BK180,HB⟩:=hrel;cases gk with
        | zero=>exact absurd HA.out (by simp [r21_Same.l1])
        | succ k3 =>
         have H:=HA.out;clear HA;simp only [r21_Same.l1] at H;by_cases c26:x6_3 < (l01.length:Int)
         ·rw [if_pos c26] at H;have c26b0:=dTr c26;clear c26;by_cases c27:0 ≤ x6_3
          ·rw [if_pos c27] at H;have c27b0:=dTr c27;clear c27;by_cases c28:x6_3 < (l11.length:Int)
           ·rw [if_pos c28] at H;have c28b0:=dTr c28;clear c28;by_cases c29:(rd l01 x6_3)=(rd l11 x6_3)
            ·rw [if_pos c29] at H;obtain ⟨c29b0,c29b1⟩:=bT c29;clear c29;have H':=Sd.mk H;clear H;have hnb30:=NB179_180.out;have hnc30:=NB180_179.out;obtain ⟨Z31_0,Z31_1,Y31_0,Y31_1⟩:=bd2 BK179;have p183:0 ≤ (x6_3:Int):=tD;have q183:x6_3 < (l01.length:Int):=tD;obtain ⟨ad183,e183,hx183_0⟩:=Kd.at_int HR01.out x6_3 p183 q183;cases e183;replace hx183_0:=uC HB hx183_0;replace p183:=eq_true p183;replace q183:=eq_true q183;obtain ⟨Z32_0,Z32_1,Y32_0,Y32_1⟩:=bd2 BK180;have p184:0 ≤ (x6_3:Int):=tD;have q184:x6_3 < (l11.length:Int):=tD;obtain ⟨ad184,e184,hx184_0⟩:=Kd.at_int HR11.out x6_3 p184 q184;cases e184;replace hx184_0:=uC HB hx184_0;replace p184:=eq_true p184;replace q184:=eq_true q184;go_wp2;(repeat (go_quiet (fail);try go_wp2));go_roundg k3
             case measure=>have:=HJ2.out;have:=HK2.out;have:=HK3.out;omega
             case rel=>exact ⟨(wrap64 (x6_3 + 1)),tSS,H',⟨by have:=HJ2.out;have:=HK2.out;have:=HK3.out;omega⟩,kA BK179,kA BK180,uA⟩
            ·rw [if_neg c29] at H;obtain ⟨c29b0,c29b1⟩:=bN c29;obtain rfl:=sI H;have hnb33:=NB179_180.out;have hnc33:=NB180_179.out;obtain ⟨Z34_0,Z34_1,Y34_0,Y34_1⟩:=bd2 BK179;have p183:0 ≤ (x6_3:Int):=tD;have q183:x6_3 < (l01.length:Int):=tD;obtain ⟨ad183,e183,hx183_0⟩:=Kd.at_int HR01.out x6_3 p183 q183;cases e183;replace hx183_0:=uC HB hx183_0;replace p183:=eq_true p183;replace q183:=eq_true q183;obtain ⟨Z35_0,Z35_1,Y35_0,Y35_1⟩:=bd2 BK180;have p184:0 ≤ (x6_3:Int):=tD;have q184:x6_3 < (l11.length:Int):=tD;obtain ⟨ad184,e184,hx184_0⟩:=Kd.at_int HR11.out x6_3 p184 q184;cases e184;replace hx184_0:=uC HB hx184_0;replace p184:=eq_true p184;replace q184:=eq_true q184;go_wp2;(repeat (go_quiet (fail);try go_wp2));go_ret;exact ⟨tW,uB⟩
           ·rw [if_neg c28] at H;exact absurd H (by simp)
          ·rw [if_neg c27] at H;exact absurd H (by simp)
         ·rw [if_neg c26] at H;have c26b0:=dFa c26;clear c26;obtain rfl:=sI H;have hnb36:=NB179_180.out;have hnc36:=NB180_179.out;obtain ⟨Z37_0,Z37_1,Y37_0,Y37_1⟩:=bd2 BK179;go_wp2;(repeat (go_quiet (fail);try go_wp2));go_ret;exact ⟨tW,uB⟩
def q21_light.f (k:Nat) (l00:List ByteArray) (l01:List ByteArray) (l02:List ByteArray) (l03:List (S70)) (l04:List (S66)) (l1:List Bool):Option (Bool):=(q16_Light.f k l00 l01 l02 l03 l04).bind fun t178=>(if t178=true then (if (l1.length:Int) ≤ 20 then (if (l00.length:Int) ≤ 4 then (if (l01.length:Int) ≤ 2 then (some (decide ((l04.length:Int) ≤ 5))) else (some false)) else (some false)) else (some false)) else (some false))
set_option maxHeartbeats 8000000 in
set_option maxRecDepth 100000 in
theorem q21_light.calls (k:Nat) (A0_0:Option Addr) (c0_0:Nat) (l00:List ByteArray) (A0_1:Option Addr) (c0_1:Nat) (l01:List ByteArray) (A0_2:Option Addr) (c0_2:Nat) (l02:List ByteArray) (A0_3:Option Addr) (c0_3:Nat) (l03:List (S70)) (A0_4:Option Addr) (c0_4:Nat) (l04:List (S66)) (A1:Option Addr) (c1:Nat) (l1:List Bool) (r:Bool) (w:World) (hr00:Kd.C Kd.string w A0_0 l00.length l00) (hc00:l00.length ≤ c0_0) (hr01:Kd.C Kd.string w A0_1 l01.length l01) (hc01:l01.length ≤ c0_1) (hr02:Kd.C Kd.string w A0_2 l02.length l02) (hc02:l02.length ≤ c0_2) (hr03:Kd.C k70 w A0_3 l03.length l03) (hc03:l03.length ≤ c0_3) (hr04:Kd.C k66 w A0_4 l04.length l04) (hc04:l04.length ≤ c0_4) (hr1:Kd.C Kd.bool w A1 l1.length l1) (hc1:l1.length ≤ c1) (h:q21_light.f k l00 l01 l02 l03 l04 l1=some r) :
  Calls Try.prog 12 #[.agg #[.slice A0_0 l00.length c0_0,.slice A0_1 l01.length c0_1,.slice A0_2 l02.length c0_2,.slice A0_3 l03.length c0_3,.slice A0_4 l04.length c0_4],.slice A1 l1.length c1] w fun e w'=>e = .returned (.bool r)∧Below w.heap.size w w':=by
 have hu26:=Try.underlying26;have HR00:=Sd.mk hr00;have J00:=Sd.mk hc00;clear hr00 hc00;have HR01:=Sd.mk hr01;have J01:=Sd.mk hc01;clear hr01 hc01;have HR02:=Sd.mk hr02;have J02:=Sd.mk hc02;clear hr02 hc02;have HR03:=Sd.mk hr03;have J03:=Sd.mk hc03;clear hr03 hc03;have HR04:=Sd.mk hr04;have J04:=Sd.mk hc04;clear hr04 hc04;have HR1:=Sd.mk hr1;have HC1:=Sd.mk hc1;clear hr1 hc1;have HB:=Sd.mk (Below.refl w.heap.size w);have H:=h;clear h;unfold q21_light.f at H;obtain ⟨t178,A3,H⟩:=oB H;by_cases c4:t178=true
 ·subst c4;replace H:=iT H;by_cases c5:(l1.length:Int) ≤ 20
  ·rw [if_pos c5] at H;have c5b0:=dTr c5;have c5b1:decide (l1.length ≤ 20)=true:=decide_eq_true (by omega);clear c5;by_cases c6:(l00.length:Int) ≤ 4
   ·rw [if_pos c6] at H;have c6b0:=dTr c6;have c6b1:decide (l00.length ≤ 4)=true:=decide_eq_true (by omega);clear c6;by_cases c7:(l01.length:Int) ≤ 2
    ·rw [if_pos c7] at H;have c7b0:=dTr c7;have c7b1:decide (l01.length ≤ 2)=true:=decide_eq_true (by omega);clear c7;obtain rfl:=sI H;go_enter Try.func12,Try.ntmps12;go_wp2_with (first|((with_reducible refine gate_dst (N:=2) rfl ?_);(try (refine gate_guard (by rfl) ?_;dsimp only));refine uX 2 (cs:=#[.slice A0_0 l00.length c0_0,.slice A0_1 l01.length c0_1,.slice A0_2 l02.length c0_2,.slice A0_3 l03.length c0_3,.slice A0_4 l04.length c0_4]) (t:=26) fun gb177 hg w8 BK177 hb=>?_;have GW177:Sd (w.heap.size ≤ gb177):=uG hg;have GE177:=GW177;replace HB:=uH hb;clear hb hg;obtain ⟨Z9_0,Z9_1,Z9_2,Z9_3,Z9_4,Y9_0,Y9_1,Y9_2,Y9_3,Y9_4⟩:=bd5 BK177)|((with_reducible refine gate_callee (f:=6) rfl ?_);refine gL Try.func6 (some 6) #[.agg #[.slice A0_0 l00.length c0_0,.slice A0_1 l01.length c0_1,.slice A0_2 l02.length c0_2,.slice A0_3 l03.length c0_3,.slice A0_4 l04.length c0_4]] ?_;(with_reducible refine (q16_Light.calls k _ _ l00 _ _ l01 _ _ l02 _ _ l03 _ _ l04 true _ (sC HR00) J00.out (sC HR01) J01.out (sC HR02) J02.out (sC HR03) J03.out (sC HR04) J04.out A3.out).mono ?_);rintro e w10 ⟨rfl,hb⟩;refine ⟨_,rfl,?_⟩;replace BK177:=uK BK177 hb;replace HB:=uH hb;(try clear hb);(try clear hb2);(try clear hk);(try clear hi);obtain ⟨Z11_0,Z11_1,Z11_2,Z11_3,Z11_4,Y11_0,Y11_1,Y11_2,Y11_3,Y11_4⟩:=bd5 BK177));go_ret;exact ⟨tW,uB⟩
    ·rw [if_neg c7] at H;have c7b0:=dFa c7;have c7b1:decide (l01.length ≤ 2)=false:=decide_eq_false (by omega);clear c7;obtain rfl:=sI H;go_enter Try.func12,Try.ntmps12;go_wp2_with (first|((with_reducible refine gate_dst (N:=2) rfl ?_);(try (refine gate_guard (by rfl) ?_;dsimp only));refine uX 2 (cs:=#[.slice A0_0 l00.length c0_0,.slice A0_1 l01.length c0_1,.slice A0_2 l02.length c0_2,.slice A0_3 l03.length c0_3,.slice A0_4 l04.length c0_4]) (t:=26) fun gb177 hg w12 BK177 hb=>?_;have GW177:Sd (w.heap.size ≤ gb177):=uG hg;have GE177:=GW177;replace HB:=uH hb;clear hb hg;obtain ⟨Z13_0,Z13_1,Z13_2,Z13_3,Z13_4,Y13_0,Y13_1,Y13_2,Y13_3,Y13_4⟩:=bd5 BK177)|((with_reducible refine gate_callee (f:=6) rfl ?_);refine gL Try.func6 (some 6) #[.agg #[.slice A0_0 l00.length c0_0,.slice A0_1 l01.length c0_1,.slice A0_2 l02.length c0_2,.slice A0_3 l03.length c0_3,.slice A0_4 l04.length c0_4]] ?_;(with_reducible refine (q16_Light.calls k _ _ l00 _ _ l01 _ _ l02 _ _ l03 _ _ l04 true _ (sC HR00) J00.out (sC HR01) J01.out (sC HR02) J02.out (sC HR03) J03.out (sC HR04) J04.out A3.out).mono ?_);rintro e w14 ⟨rfl,hb⟩;refine ⟨_,rfl,?_⟩;replace BK177:=uK BK177 hb;replace HB:=uH hb;(try clear hb);(try clear hb2);(try clear hk);(try clear hi);obtain ⟨Z15_0,Z15_1,Z15_2,Z15_3,Z15_4,Y15_0,Y15_1,Y15_2,Y15_3,Y15_4⟩:=bd5 BK177));go_ret;exact ⟨tW,uB⟩
   ·rw [if_neg c6] at H;have c6b0:=dFa c6;have c6b1:decide (l00.length ≤ 4)=false:=decide_eq_false (by omega);clear c6;obtain rfl:=sI H;go_enter Try.func12,Try.ntmps12;go_wp2_with (first|((with_reducible refine gate_dst (N:=2) rfl ?_);(try (refine gate_guard (by rfl) ?_;dsimp only));refine uX 2 (cs:=#[.slice A0_0 l00.length c0_0,.slice A0_1 l01.length c0_1,.slice A0_2 l02.length c0_2,.slice A0_3 l03.length c0_3,.slice A0_4 l04.length c0_4]) (t:=26) fun gb177 hg w16 BK177 hb=>?_;have GW177:Sd (w.heap.size ≤ gb177):=uG hg;have GE177:=GW177;replace HB:=uH hb;clear hb hg;obtain ⟨Z17_0,Z17_1,Z17_2,Z17_3,Z17_4,Y17_0,Y17_1,Y17_2,Y17_3,Y17_4⟩:=bd5 BK177)|((with_reducible refine gate_callee (f:=6) rfl ?_);refine gL Try.func6 (some 6) #[.agg #[.slice A0_0 l00.length c0_0,.slice A0_1 l01.length c0_1,.slice A0_2 l02.length c0_2,.slice A0_3 l03.length c0_3,.slice A0_4 l04.length c0_4]] ?_;(with_reducible refine (q16_Light.calls k _ _ l00 _ _ l01 _ _ l02 _ _ l03 _ _ l04 true _ (sC HR00) J00.out (sC HR01) J01.out (sC HR02) J02.out (sC HR03) J03.out (sC HR04) J04.out A3.out).mono ?_);rintro e w18 ⟨rfl,hb⟩;refine ⟨_,rfl,?_⟩;replace BK177:=uK BK177 hb;replace HB:=uH hb;(try clear hb);(try clear hb2);(try clear hk);(try clear hi);obtain ⟨Z19_0,Z19_1,Z19_2,Z19_3,Z19_4,Y19_0,Y19_1,Y19_2,Y19_3,Y19_4⟩:=bd5 BK177));go_ret;exact ⟨tW,uB⟩
  ·rw [if_neg c5] at H;have c5b0:=dFa c5;have c5b1:decide (l1.length ≤ 20)=false:=decide_eq_false (by omega);clear c5;obtain rfl:=sI H;go_enter Try.func12,Try.ntmps12;go_wp2_with (first|((with_reducible refine gate_dst (N:=2) rfl ?_);(try (refine gate_guard (by rfl) ?_;dsimp only));refine uX 2 (cs:=#[.slice A0_0 l00.length c0_0,.slice A0_1 l01.length c0_1,.slice A0_2 l02.length c0_2,.slice A0_3 l03.length c0_3,.slice A0_4 l04.length c0_4]) (t:=26) fun gb177 hg w20 BK177 hb=>?_;have GW177:Sd (w.heap.size ≤ gb177):=uG hg;have GE177:=GW177;replace HB:=uH hb;clear hb hg;obtain ⟨Z21_0,Z21_1,Z21_2,Z21_3,Z21_4,Y21_0,Y21_1,Y21_2,Y21_3,Y21_4⟩:=bd5 BK177)|((with_reducible refine gate_callee (f:=6) rfl ?_);refine gL Try.func6 (some 6) #[.agg #[.slice A0_0 l00.length c0_0,.slice A0_1 l01.length c0_1,.slice A0_2 l02.length c0_2,.slice A0_3 l03.length c0_3,.slice A0_4 l04.length c0_4]] ?_;(with_reducible refine (q16_Light.calls k _ _ l00 _ _ l01 _ _ l02 _ _ l03 _ _ l04 true _ (sC HR00) J00.out (sC HR01) J01.out (sC HR02) J02.out (sC HR03) J03.out (sC HR04) J04.out A3.out).mono ?_);rintro e w22 ⟨rfl,hb⟩;refine ⟨_,rfl,?_⟩;replace BK177:=uK BK177 hb;replace HB:=uH hb;(try clear hb);(try clear hb2);(try clear hk);(try clear hi)));go_ret;exact ⟨tW,uB⟩
 ·replace c4:=Bool.eq_false_iff.mpr c4;subst c4;replace H:=iF H;obtain rfl:=sI H;go_enter Try.func12,Try.ntmps12;go_wp2_with (first|((with_reducible refine gate_dst (N:=2) rfl ?_);(try (refine gate_guard (by rfl) ?_;dsimp only));refine uX 2 (cs:=#[.slice A0_0 l00.length c0_0,.slice A0_1 l01.length c0_1,.slice A0_2 l02.length c0_2,.slice A0_3 l03.length c0_3,.slice A0_4 l04.length c0_4]) (t:=26) fun gb177 hg w23 BK177 hb=>?_;have GW177:Sd (w.heap.size ≤ gb177):=uG hg;have GE177:=GW177;replace HB:=uH hb;clear hb hg;obtain ⟨Z24_0,Z24_1,Z24_2,Z24_3,Z24_4,Y24_0,Y24_1,Y24_2,Y24_3,Y24_4⟩:=bd5 BK177)|((with_reducible refine gate_callee (f:=6) rfl ?_);refine gL Try.func6 (some 6) #[.agg #[.slice A0_0 l00.length c0_0,.slice A0_1 l01.length c0_1,.slice A0_2 l02.length c0_2,.slice A0_3 l03.length c0_3,.slice A0_4 l04.length c0_4]] ?_;(with_reducible refine (q16_Light.calls k _ _ l00 _ _ l01 _ _ l02 _ _ l03 _ _ l04 false _ (sC HR00) J00.out (sC HR01) J01.out (sC HR02) J02.out (sC HR03) J03.out (sC HR04) J04.out A3.out).mono ?_);rintro e w25 ⟨rfl,hb⟩;refine ⟨_,rfl,?_⟩;replace BK177:=uK BK177 hb;replace HB:=uH hb;(try clear hb);(try clear hb2);(try clear hk);(try clear hi)));go_ret;exact ⟨tW,uB⟩
end Go.Proofs.Ytjbjbeihkoeciaa.X
namespace Go.Proofs.Ytjbjbeihkoeciaa.X
open Go.RowKit Go.Proofs.YtjbjbeihkoeciaaW.PrintWords Go.Proofs.YtjbjbeihkoeciaaW.PrintLast Go.Proofs.YtjbjbeihkoeciaaW.PrintMore
theorem same21_ev (a0:List Bool) (a1:List Int) (b0:List Bool) (b1:List Int) (h0:a0.length ≤ 4000000000) (h1:a1.length ≤ 4000000000) :
  Ev (fun k=>r21_Same.f k a0 a1 b0 b1) (decide (a0=b0∧a1=b1)):=by
 unfold r21_Same.f;have hj:∀ b,b=true → ¬ (a0=b0∧a1=b1) → Ev (fun k=>r21_Same.j0 k b a0 a1 b0 b1) (decide (a0=b0∧a1=b1)):=by
  rintro b rfl hn;refine Ev.succ ?_;simp only [r21_Same.j0];exact Ev.yes (by first|trivial|rfl) (Ev.is (decide_eq_false hn).symm)
 by_cases e0:a0.length=b0.length
 ·refine Ev.yes (by omega) ?_;by_cases e1:a1.length=b1.length
  ·(have hb:((a1.length:Int) != (b1.length:Int))=false:=by simp;omega);rw [hb];refine Ev.succ ?_;simp only [r21_Same.j0];refine Ev.no (by decide) ?_;have h1:∀ pos,pos ≤ a1.length → Ev (fun k=>r21_Same.l1 k (pos:Int) a0 a1 b0 b1) (decide (a1.drop pos=b1.drop pos)):=by
    intro pos hp;refine Ev.loop (g:=fun k pos=>r21_Same.l1 k (pos:Int) a0 a1 b0 b1) (spec:=fun pos=>decide (a1.drop pos=b1.drop pos)) a1.length ?_ ?_ pos hp
    ·refine Ev.succ ?_;simp only [r21_Same.l1];exact Ev.no (by omega) (Ev.is (by simp [List.drop_eq_nil_of_le,e1]))
    ·intro pos hlt ih;refine Ev.succ ?_;simp only [r21_Same.l1];refine Ev.yes (by omega) (Ev.yes (by omega) (Ev.yes (by omega) ?_));(have r1:rd a1 (pos:Int)=a1.getD pos 0:=by simp [rd]);(have r2:rd b1 (pos:Int)=b1.getD pos 0:=by simp [rd]);rw [r1,r2,wrap_up pos (by omega)];rw [drop_getD a1 0 pos hlt,drop_getD b1 0 pos (by omega)];by_cases hx:a1.getD pos 0=b1.getD pos 0
     ·refine Ev.yes hx ?_;rw [show decide (a1.getD pos 0 :: a1.drop (pos + 1)=b1.getD pos 0 :: b1.drop (pos + 1))=decide (a1.drop (pos + 1)=b1.drop (pos + 1)) from decide_eq_decide.2 (by rw [hx];simp)];exact ih
     ·exact Ev.no hx (Ev.is (decide_eq_false (fun h=>hx (List.cons.inj h).1)).symm)
   have hl:=Ev.loop (g:=fun k pos=>r21_Same.l0 k (pos:Int) a0 a1 b0 b1) (spec:=fun pos=>decide (a0.drop pos=b0.drop pos∧a1=b1)) a0.length ?_ ?_ 0 (Nat.zero_le _)
   ·simpa using hl
   ·refine Ev.succ ?_;simp only [r21_Same.l0];refine Ev.no (by omega) ?_;have:=h1 0 (Nat.zero_le _);simpa [List.drop_eq_nil_of_le,e0] using this
   ·intro pos hlt ih;refine Ev.succ ?_;simp only [r21_Same.l0];refine Ev.yes (by omega) (Ev.yes (by omega) (Ev.yes (by omega) ?_));rw [rdOf_at,rdOf_at,wrap_up pos (by omega)];rw [drop_getD a0 false pos hlt,drop_getD b0 false pos (by omega)];by_cases hx:a0.getD pos false=b0.getD pos false
    ·refine Ev.no (by rw [hx];simp) ?_;rw [show decide (a0.getD pos false :: a0.drop (pos + 1)=b0.getD pos false :: b0.drop (pos + 1)∧a1=b1)=decide (a0.drop (pos + 1)=b0.drop (pos + 1)∧a1=b1) from decide_eq_decide.2 (by rw [hx];simp)];exact ih
    ·exact Ev.yes (by simpa using hx) (Ev.is (decide_eq_false (fun h=>hx (List.cons.inj h.1).1)).symm)
  ·exact hj _ (by simp;omega) (fun h=>e1 (by rw [h.2]))
 ·exact Ev.no (by omega) (hj true rfl (fun h=>e0 (by rw [h.1])))
def light21 (l0 l1 l2:List ByteArray) (l3:List Cl) (l4:List Op_) (drops:List Bool):Bool:=lightB l0 l1 l2 l3 l4 && decide (drops.length ≤ 20∧l0.length ≤ 4∧l1.length ≤ 2∧l4.length ≤ 5)
theorem light21_ev (l0 l1 l2:List ByteArray) (l3:List Cl) (l4:List Op_) (drops:List Bool):Ev (fun k=>q21_light.f k l0 l1 l2 l3 l4 drops) (light21 l0 l1 l2 l3 l4 drops):=by
 unfold q21_light.f light21;refine Ev.bind (light_ev l0 l1 l2 l3 l4) ?_;cases lightB l0 l1 l2 l3 l4
 ·exact Ev.no (by decide) (Ev.is rfl)
 refine Ev.yes rfl ?_;rw [Bool.true_and];by_cases h1:drops.length ≤ 20
 ·refine Ev.yes (by omega) ?_;by_cases h2:l0.length ≤ 4
  ·refine Ev.yes (by omega) ?_;by_cases h3:l1.length ≤ 2
   ·refine Ev.yes (by omega) (Ev.is (decide_eq_decide.2 ?_));exact ⟨fun h=>⟨h1,h2,h3,by omega⟩,fun h=>by omega⟩
   ·exact Ev.no (by omega) (Ev.is (decide_eq_false (fun h=>h3 h.2.2.1)).symm)
  ·exact Ev.no (by omega) (Ev.is (decide_eq_false (fun h=>h2 h.2.1)).symm)
 ·exact Ev.no (by omega) (Ev.is (decide_eq_false (fun h=>h1 h.1)).symm)
theorem names_good {l0 l1 l2:List ByteArray} {l4:List Op_} (g0:∀ s ∈ l0,goodStr s) (g1:∀ s ∈ l1,goodStr s) (g2:∀ s ∈ l2,goodStr s) (g4:∀ o ∈ l4,goodOp o):∀ s ∈ namesL l0 l1 l2 l4,s.size ≤ maxLen:=by
 intro s hs;unfold namesL at hs;simp only [List.mem_append,List.mem_map] at hs;rcases hs with ((h|h)|h) | ⟨o,h,rfl⟩
 ·exact g0 s h
 ·exact g1 s h
 ·exact g2 s h
 ·exact (g4 o h).1
theorem ruOk_of {l0 l1 l2:List ByteArray} {l3:List Cl} {l4:List Op_} (g0:∀ s ∈ l0,goodStr s) (g1:∀ s ∈ l1,goodStr s) (g2:∀ s ∈ l2,goodStr s) (g3:∀ c ∈ l3,goodCl c) (g4:∀ o ∈ l4,goodOp o) (h:lightB l0 l1 l2 l3 l4=true):RuOk l0 l1 l2 l3 l4:=by
 obtain ⟨_,_,_,_,_,_,hd⟩:=lightB_ok h;exact ⟨names_good g0 g1 g2 g4,fun o ho=>⟨by have:=hd o ho;omega,fun d hd=>((g4 o ho).2 d hd).2.1⟩,fun c hc=>(g3 c hc).2.1⟩
theorem light21_ok {l0 l1 l2:List ByteArray} {l3:List Cl} {l4:List Op_} {drops:List Bool} (h:light21 l0 l1 l2 l3 l4 drops=true):lightB l0 l1 l2 l3 l4=true∧drops.length ≤ 20∧l0.length ≤ 4∧l1.length ≤ 2∧l4.length ≤ 5:=by
 unfold light21 at h;rw [Bool.and_eq_true] at h;exact ⟨h.1,of_decide_eq_true h.2⟩
theorem atR_len (l0 l1 l2:List ByteArray) (l3:List Cl) (l4:List Op_) (drops:List Bool) (a b cl:Int):(atR l0 l1 l2 l3 l4 drops a b cl).1.f0.length ≤ 4000000000∧(atR l0 l1 l2 l3 l4 drops a b cl).1.f1.length ≤ 4000000000:=by
 unfold atR;split
 ·rename_i h;have hp:=checkB_parts (mayN_check h.1).1;cases findN l0 l1 l2 l3 l4 drops a b cl with
  | none=>exact ⟨Nat.zero_le _,Nat.zero_le _⟩
  | some n =>
   have h0:(stN l0.length l1.length n).f0.length=l0.length:=bitsL_len _ _;have h1:(stN l0.length l1.length n).f1.length=l1.length:=digsL_len _ _;exact ⟨by show (stN l0.length l1.length n).f0.length ≤ _;omega,by show (stN l0.length l1.length n).f1.length ≤ _;omega⟩
 ·exact ⟨Nat.zero_le _,Nat.zero_le _⟩
theorem store_row_event {P:Program} {ops:Array Oper} {rest:List Oper} {o:Oper} {a:Act} {Q:Exit → Act → World → Prop} {W:World} (hgd:o.guard=none) {t:TypeId} {p v:Operand} (ho:o.op = .store t p v) (hN:o.dst=none) {g:Nat} {e:TypeId} {c c':Array Value}
  (hp:a.eval p = .pointer (some ⟨g,0,none⟩)) (hv:a.eval v = .agg c') (hg:W.heap[g]? = some (.cells c e (0,0))) (hi:(P.info? t).map (·.size)=some c'.size) (hs:c.size=c'.size) (h1:c'.all (·.oneCell')=true)
  (h:∀ w',w'.heap[g]? = some (.cells c' e (0,0)) → (∀ base w0,base ≤ g → Below base w0 W → Below base w0 w') → KeepBut W w' g none → wpList P ops Q rest a w'):wpList P ops Q (o :: rest) a W:=by
 (refine wpList_plain hgd fun K hK=>?_);have hrun:(execOp a.eval o).run P W = .ok .skip (W.setRow g c'):=by
  unfold execOp;simp only [ho,hp,hv,Instr.storeAt,Instr.sureAddr,Sem.run_bind,Sem.run_pure,Result.andThen_ok,run_storeVar_row W g e t c c' hg hi hs h1]
 unfold Oper.wp;rw [hrun];show K (a.put o.dst undef) _;rw [hN];exact hK _ _ (h _ (setRow_heap W g _ _ e _ hg) (fun base w0 hb hB=>below_setRow hB hb _) ⟨by simp [World.setRow],fun i _ hi _=>setRow_other W g i c' hi⟩)
theorem C_one {α:Type} {d:Kd α} {w:World} {g t:Nat} {x:α} {cs:List Value} (hb:w.heap[g]? = some (.cells cs.toArray t (0,0))) (hK:d.K w x cs) (hl:cs.length=d.sz):Kd.C d w (some ⟨g,0,none⟩) 1 [x]:=by
 refine ⟨rfl,by decide,fun _=>⟨⟨g,0,none⟩,rfl,fun j p hj=>?_⟩⟩;cases j with
 | zero =>
  cases hj;refine ⟨cs,hl,hK,fun i u hu=>?_⟩;have h1:w.cell? ⟨g,i,none⟩=some u:=(blk_cell hb i).trans (by simpa using hu);(have e:∀ i,(⟨g,0,none⟩:Addr).add i=⟨g,i,none⟩:=fun i=>by unfold Addr.add;by_cases hz:i=0 <;> simp [hz]);rw [Nat.zero_mul,Nat.zero_add,e];exact h1
 | succ j=>simp at hj
theorem C_two {α:Type} {d:Kd α} {w:World} {g t:Nat} {x y:α} {cs ds:List Value} (hb:w.heap[g]? = some (.cells (cs ++ ds).toArray t (0,0))) (hK:d.K w x cs) (hl:cs.length=d.sz) (hK2:d.K w y ds) (hl2:ds.length=d.sz):Kd.C d w (some ⟨g,0,none⟩) 2 [x,y]:=by
 (have e:∀ i,(⟨g,0,none⟩:Addr).add i=⟨g,i,none⟩:=fun i=>by unfold Addr.add;by_cases hz:i=0 <;> simp [hz]);refine ⟨rfl,by decide,fun _=>⟨⟨g,0,none⟩,rfl,fun j p hj=>?_⟩⟩;match j,hj with
 | 0,hj =>
  cases hj;refine ⟨cs,hl,hK,fun i u hu=>?_⟩;have hi:i < cs.length:=by
   by_cases h:i < cs.length
   ·exact h
   ·rw [List.getElem?_eq_none (by omega)] at hu;cases hu
  have h1:w.cell? ⟨g,i,none⟩=some u:=(blk_cell hb i).trans (by simpa [List.getElem?_append_left hi] using hu);rw [Nat.zero_mul,Nat.zero_add,e];exact h1
 | 1,hj =>
  cases hj;refine ⟨ds,hl2,hK2,fun i u hu=>?_⟩;have h1:w.cell? ⟨g,cs.length + i,none⟩=some u:=(blk_cell hb (cs.length + i)).trans (by simpa [List.getElem?_append_right (Nat.le_add_right cs.length i),Nat.add_sub_cancel_left] using hu);rw [Nat.one_mul,e,← hl];exact h1
theorem C_strs2 {w:World} {g t:Nat} {a b:ByteArray} (hb:w.heap[g]? = some (.cells #[.string a,.string b] t (0,0))):Kd.C Kd.string w (some ⟨g,0,none⟩) 2 [a,b]:=by
 refine ⟨rfl,by decide,fun _=>⟨⟨g,0,none⟩,rfl,fun j p hj=>?_⟩⟩;match j,hj with
 | 0,hj =>
  cases hj;refine ⟨[.string a],rfl,rfl,fun i u hu=>?_⟩;match i,hu with
  | 0,hu=>cases hu;exact (blk_cell hb 0).trans rfl
 | 1,hj =>
  cases hj;refine ⟨[.string b],rfl,rfl,fun i u hu=>?_⟩;match i,hu with
  | 0,hu=>cases hu;exact (blk_cell hb 1).trans rfl
theorem R_addr {α:Type} {d:Kd α} {e:Nat} {w:World} {base:Nat} {ok:Nat → Prop} {v:Value} {xs:List α} (h:d.R e w base ok v xs) (hn:xs ≠ []):∃ g c,v = .slice (some ⟨g,0,none⟩) xs.length c:=by
 obtain ⟨A,c,hA⟩:=Kd.R_slice h;obtain ⟨inner,ho⟩:=Kd.R_own h;rcases ho.2 with ⟨hv,_⟩ | ⟨g,cap,cur,hv,_⟩
 ·rw [hA] at hv;injection hv with _ hl _;exact absurd (List.length_eq_zero_iff.1 hl) hn
 ·exact ⟨g,cap,hv⟩
theorem push5 (h:Array Obj) (a b c d e:Obj) :
  (((((h.push a).push b).push c).push d).push e)[h.size]? = some a∧(((((h.push a).push b).push c).push d).push e)[h.size + 1]? = some b∧(((((h.push a).push b).push c).push d).push e)[h.size + 1 + 1]? = some c ∧
  (((((h.push a).push b).push c).push d).push e)[h.size + 1 + 1 + 1]? = some d∧(((((h.push a).push b).push c).push d).push e)[h.size + 1 + 1 + 1 + 1]? = some e:=by
 simp only [Array.getElem?_push,Array.size_push];refine ⟨?_,?_,?_,?_,?_⟩ <;> repeat (first|rfl|rw [if_pos (by omega)]|rw [if_neg (by omega)])
def awS:List ByteArray:=[(⟨#[97]⟩:ByteArray),(⟨#[98]⟩:ByteArray)]
def awC:List Cl:=[⟨4,true,0,1,0⟩]
def awO:List Op_:=[⟨(⟨#[120]⟩:ByteArray),[⟨1,0,0⟩]⟩,⟨(⟨#[121]⟩:ByteArray),[⟨2,1,0⟩]⟩]
theorem aw_all:allR awS [] [] awC awO [false,false] = [⟨0,1,0⟩]:=by kernel_rfl
theorem aw_at:atR awS [] [] awC awO [false,false] 0 1 0=(⟨[false,true],[]⟩,true):=by kernel_rfl
theorem aw_many:manyN awS [] [] awC awO=4:=by kernel_rfl
theorem aw_same:r21_Same.f 40 [false,true] [] [false,true] []=some true:=by kernel_rfl
theorem aw_ru:RuOk awS [] [] awC awO:=by
 refine ⟨?_,?_,?_⟩
 ·decide
 ·decide
 ·decide
set_option maxHeartbeats 4000000 in
set_option maxRecDepth 100000 in
theorem rules21_call (w:World):Calls Try.prog 47 #[] w fun e w'=>∃ A0 A3 A4:Option Addr,e = .returned (.agg #[.slice A0 2 2,.slice none 0 0,.slice none 0 0,.slice A3 1 1,.slice A4 2 2])∧Kd.C Kd.string w' A0 2 awS∧Kd.C k70 w' A3 1 awC∧Kd.C k66 w' A4 2 awO∧Below w.heap.size w w':=by
 (have hb1:∀ w,(Instr.build 70 #[(0,.int .i64 4),(1,.bool true),(2,.int .i64 0),(3,.int .i64 1)]).run Try.prog w = .ok (.agg #[.int .i64 4,.bool true,.int .i64 0,.int .i64 1,.int .i64 0]) w:=fun w=>by kernel_rfl);(have hb2:∀ w,(Instr.build 84 #[(0,.int .i64 1)]).run Try.prog w = .ok (.agg #[.int .i64 1,.int .i64 0,.int .i64 0]) w:=fun w=>by kernel_rfl);(have hb3:∀ w,(Instr.build 84 #[(0,.int .i64 2),(1,.int .i64 1)]).run Try.prog w = .ok (.agg #[.int .i64 2,.int .i64 1,.int .i64 0]) w:=fun w=>by kernel_rfl);(have hb4:∀ w s g n,(Instr.build 66 #[(0,.string s),(1,.slice g n n)]).run Try.prog w = .ok (.agg #[.string s,.slice g n n]) w:=fun w s g n=>by kernel_rfl);(have hb5:∀ w g0 g3 g4,(Instr.build 26 #[(0,.slice g0 2 2),(3,.slice g3 1 1),(4,.slice g4 2 2)]).run Try.prog w = .ok (.agg #[.slice g0 2 2,.slice none 0 0,.slice none 0 0,.slice g3 1 1,.slice g4 2 2]) w:=fun w g0 g3 g4=>by kernel_rfl);go_enter Try.func47,Try.ntmps47;go_upto_region 1 with (((with_reducible refine gate_dst (N:=0) rfl ?_);refine box_event ?hg (N:=0) ?hd (cs:=#[.slice none 0 0,.slice none 0 0,.slice none 0 0,.slice none 0 0,.slice none 0 0]) (t:=26) ?hr ?_;(case hd=>rfl);(case hg=>rfl);(case hr=>first|(go_simp;done)|(go_simp;rfl));intro g hg w3 hbox hb;have HB3:=Sd.mk hb;have BK:=Sd.mk hbox;have HG:=Sd.mk hg;have hcz0:=(blk_cell hbox 0);have hcz1:=(blk_cell hbox 1);have hcz2:=(blk_cell hbox 2);have hcz3:=(blk_cell hbox 3);have hcz4:=(blk_cell hbox 4);have hfz0:=blk_frozen hbox 0;have hfz1:=blk_frozen hbox 1;have hfz2:=blk_frozen hbox 2;have hfz3:=blk_frozen hbox 3;have hfz4:=blk_frozen hbox 4;clear hb hbox hg));go_wp2_with ((with_reducible refine gate_store (t:=26) (p:=0) rfl ?_);have B5:Below w3.heap.size w3 _:=(below_alloc (below_alloc (below_alloc (below_alloc (below_alloc (Below.refl w3.heap.size w3) (.cells #[.string ⟨#[97]⟩,.string ⟨#[98]⟩] 9 (0,0))) (.cells #[.int .i64 4,.bool true,.int .i64 0,.int .i64 1,.int .i64 0] 70 (0,0))) (.cells #[.int .i64 1,.int .i64 0,.int .i64 0] 84 (0,0))) (.cells #[.int .i64 2,.int .i64 1,.int .i64 0] 84 (0,0))) (.cells #[.string ⟨#[120]⟩,.slice (some ⟨w3.heap.size + 1 + 1,0,none⟩) 1 1,.string ⟨#[121]⟩,.slice (some ⟨w3.heap.size + 1 + 1 + 1,0,none⟩) 1 1] 66 (0,0)));generalize hwx:World.alloc (World.alloc (World.alloc (World.alloc (World.alloc w3 _) _) _) _) _=wx at B5 ⊢;have K0:Sd (wx.heap[w3.heap.size]? = some (.cells #[.string ⟨#[97]⟩,.string ⟨#[98]⟩] 9 (0,0))):=⟨by subst hwx;exact (push5 w3.heap _ _ _ _ _).1⟩;have K1:Sd (wx.heap[w3.heap.size + 1]? = some (.cells #[.int .i64 4,.bool true,.int .i64 0,.int .i64 1,.int .i64 0] 70 (0,0))):=⟨by subst hwx;exact (push5 w3.heap _ _ _ _ _).2.1⟩;have K2:Sd (wx.heap[w3.heap.size + 1 + 1]? = some (.cells #[.int .i64 1,.int .i64 0,.int .i64 0] 84 (0,0))):=⟨by subst hwx;exact (push5 w3.heap _ _ _ _ _).2.2.1⟩;have K3:Sd (wx.heap[w3.heap.size + 1 + 1 + 1]? = some (.cells #[.int .i64 2,.int .i64 1,.int .i64 0] 84 (0,0))):=⟨by subst hwx;exact (push5 w3.heap _ _ _ _ _).2.2.2.1⟩;have K4:Sd (wx.heap[w3.heap.size + 1 + 1 + 1 + 1]? = some (.cells #[.string ⟨#[120]⟩,.slice (some ⟨w3.heap.size + 1 + 1,0,none⟩) 1 1,.string ⟨#[121]⟩,.slice (some ⟨w3.heap.size + 1 + 1 + 1,0,none⟩) 1 1] 66 (0,0))):=⟨by subst hwx;exact (push5 w3.heap _ _ _ _ _).2.2.2.2⟩;refine store_row_event (g:=g) (c:=#[.slice none 0 0,.slice none 0 0,.slice none 0 0,.slice none 0 0,.slice none 0 0]) (c':=#[.slice (some ⟨w3.heap.size,0,none⟩) 2 2,.slice none 0 0,.slice none 0 0,.slice (some ⟨w3.heap.size + 1,0,none⟩) 1 1,.slice (some ⟨w3.heap.size + 1 + 1 + 1 + 1,0,none⟩) 2 2]) rfl rfl rfl rfl rfl (blk_below BK.out B5) (by kernel_rfl) rfl (by simp [Value.oneCell']) ?_;intro w5 hbk hbl hkp;have HB5:=Sd.mk hbl;have BK5:=Sd.mk hbk;have HKP:=Sd.mk hkp;have BX:=Sd.mk B5;clear hbk hbl hkp B5 hwx);have hlt:=blk_lt BK.out;have hsz:=BX.out.size;(have hgw:w.heap.size ≤ g:=by rw [HG.out];exact Nat.le_refl _);have mv:∀ (i:Nat) (b:Obj),wx.heap[w3.heap.size + i]? = some b → w5.heap[w3.heap.size + i]? = some b:=fun i b hb=>by
  have:=HKP.out.2 (w3.heap.size + i) (by have:=lt_of_some hb;exact this) (by omega) (by simp);rw [this];exact hb
 have J0:=mv 0 _ K0.out;have J1:=mv 1 _ K1.out;have J2:=mv 2 _ K2.out;have J3:=mv 3 _ K3.out;have J4:=mv 4 _ K4.out;refine bodyPost_ret (results_single rfl (.cell g 26 #[.slice (some ⟨w3.heap.size,0,none⟩) 2 2,.slice none 0 0,.slice none 0 0,.slice (some ⟨w3.heap.size + 1,0,none⟩) 1 1,.slice (some ⟨w3.heap.size + 1 + 1 + 1 + 1,0,none⟩) 2 2] (0,0) _ rfl BK5.out Try.underlying26 rfl (by kernel_rfl) .nil)) rfl ?_;refine ⟨_,_,_,rfl,C_strs2 J0,C_one (cs:=[.int .i64 4,.bool true,.int .i64 0,.int .i64 1,.int .i64 0]) J1 (k70_mk w5 (⟨4,true,0,1,0⟩:Cl)) rfl,?_,HB5.out _ _ hgw (below_step HB3.out BX.out)⟩;exact C_two (cs:=[.string ⟨#[120]⟩,.slice (some ⟨w3.heap.size + 1 + 1,0,none⟩) 1 1]) (ds:=[.string ⟨#[121]⟩,.slice (some ⟨w3.heap.size + 1 + 1 + 1,0,none⟩) 1 1]) J4
  (k66_mk w5 (⟨(⟨#[120]⟩:ByteArray),[⟨1,0,0⟩]⟩:Op_) (Nat.le_refl 1) (C_one (cs:=[.int .i64 1,.int .i64 0,.int .i64 0]) J2 (k84_mk w5 (⟨1,0,0⟩:Dg)) rfl)) rfl
  (k66_mk w5 (⟨(⟨#[121]⟩:ByteArray),[⟨2,1,0⟩]⟩:Op_) (Nat.le_refl 1) (C_one (cs:=[.int .i64 2,.int .i64 1,.int .i64 0]) J3 (k84_mk w5 (⟨2,1,0⟩:Dg)) rfl)) rfl
set_option maxHeartbeats 4000000 in
set_option maxRecDepth 100000 in
theorem aw21_call (w:World):Calls Try.prog 13 #[] w fun e w'=>e = .returned (.bool true)∧Below w.heap.size w w':=by
 go_enter Try.func13,Try.ntmps13;go_wp2_with fail;refine (rules21_call w).mono ?_;rintro e w1 ⟨A0,A3,A4,rfl,h0,h3,h4,hb⟩;have H0:=Sd.mk h0;have H3:=Sd.mk h3;have H4:=Sd.mk h4;have HB1:=Sd.mk hb;clear h0 h3 h4 hb;go_wp2_with fail;have HA:Sd (Below w1.heap.size w1 (w1.alloc (.cells #[.bool false,.bool false] 4 (0,0)))):=⟨below_alloc (Below.refl _ _) _⟩;have HN:Sd (Kd.C Kd.bool (w1.alloc (.cells #[.bool false,.bool false] 4 (0,0))) (some ⟨w1.heap.size,0,none⟩) 2 [false,false]):=⟨C_two (cs:=[.bool false]) (ds:=[.bool false]) (heap_alloc_new w1 _) rfl rfl rfl rfl⟩;(have NIL:∀ w:World,Kd.C Kd.string w none 0 []:=fun w=>⟨rfl,Nat.zero_le _,fun h=>absurd h (by simp)⟩);generalize (w1.alloc (.cells #[.bool false,.bool false] 4 (0,0)))=w2 at *;refine (all_call A0 2 awS none 0 [] none 0 [] A3 1 awC A4 2 awO (some ⟨w1.heap.size,0,none⟩) 2 [false,false] w2 (Kd.C_below H0.out HA.out) (Nat.le_refl 2) (NIL _) (Nat.le_refl 0) (NIL _) (Nat.le_refl 0) (Kd.C_below H3.out HA.out) (Nat.le_refl 1) (Kd.C_below H4.out HA.out) (Nat.le_refl 2) HN.out (Nat.le_refl 2) aw_ru).mono ?_;rintro e w3 ⟨v,rfl,hR,hb⟩;rw [aw_all] at hR;have HR:=Sd.mk hR;obtain ⟨gl,cl,ev⟩:=R_addr hR (by simp);replace ev:v = .slice (some ⟨gl,0,none⟩) 1 cl:=ev;subst ev;have HB3:=Sd.mk (below_step (below_step HB1.out HA.out) hb);clear hR hb H0 H3 H4 HA HN HB1;go_wp2_with fail;refine (rules21_call w3).mono ?_;rintro e w4 ⟨C0,C3,C4,rfl,h0,h3,h4,hb⟩;have H0:=Sd.mk h0;have H3:=Sd.mk h3;have H4:=Sd.mk h4;have HR4:=Sd.mk (Kd.R_below HR.out hb);have HB4:=Sd.mk (below_step HB3.out hb);clear h0 h3 h4 hb HR HB3;go_wp2_with fail;have HA:Sd (Below w4.heap.size w4 (w4.alloc (.cells #[.bool false,.bool false] 4 (0,0)))):=⟨below_alloc (Below.refl _ _) _⟩;have HN:Sd (Kd.C Kd.bool (w4.alloc (.cells #[.bool false,.bool false] 4 (0,0))) (some ⟨w4.heap.size,0,none⟩) 2 [false,false]):=⟨C_two (cs:=[.bool false]) (ds:=[.bool false]) (heap_alloc_new w4 _) rfl rfl rfl rfl⟩;generalize (w4.alloc (.cells #[.bool false,.bool false] 4 (0,0)))=w5 at *;refine (at_call C0 2 awS none 0 [] none 0 [] C3 1 awC C4 2 awO (some ⟨w4.heap.size,0,none⟩) 2 [false,false] 0 1 0 w5 (Kd.C_below H0.out HA.out) (Nat.le_refl 2) (NIL _) (Nat.le_refl 0) (NIL _) (Nat.le_refl 0) (Kd.C_below H3.out HA.out) (Nat.le_refl 1) (Kd.C_below H4.out HA.out) (Nat.le_refl 2) HN.out (Nat.le_refl 2) aw_ru).mono ?_;rintro e w6 ⟨v0,v1,rfl,hR0,hR1,hb⟩;rw [aw_at] at hR0 hR1 ⊢;have HR0:=Sd.mk hR0;have HR1:=Sd.mk hR1;obtain ⟨g0,d0,e0⟩:=R_addr hR0 (by simp);replace e0:v0 = .slice (some ⟨g0,0,none⟩) 2 d0:=e0;subst e0;obtain ⟨B1,d1,e1⟩:=Kd.R_slice hR1;replace e1:v1 = .slice B1 0 d1:=e1;subst e1;have HB6:=Sd.mk (below_step (below_step HB4.out HA.out) hb);have HR6:=Sd.mk (Kd.R_below (Kd.R_below HR4.out HA.out) hb);clear hR0 hR1 hb H0 H3 H4 HA HN HB4 HR4;go_upto_region 3 with (((with_reducible refine gate_dst (N:=2) rfl ?_);refine box_event ?hg (N:=2) ?hd (cs:=#[.slice none 0 0,.slice none 0 0]) (t:=38) ?hr ?_;(case hd=>rfl);(case hg=>rfl);(case hr=>first|(go_simp;done)|(go_simp;rfl));intro gc hgc w7 hbox hb;have HB7:=Sd.mk hb;have HGC:=Sd.mk hgc;have BKC:=Sd.mk hbox;have hcz0:=(blk_cell hbox 0);have hcz1:=(blk_cell hbox 1);have hfz0:=blk_frozen hbox 0;have hfz1:=blk_frozen hbox 1;clear hb hbox hgc));have HrE:Sd (Below w6.heap.size w6 ((w7.setCell { block:=gc,off:=0 } (.slice (some ⟨g0,0,none⟩) 2 d0)).setCell { block:=gc,off:=1 } (.slice B1 0 d1))):=⟨by
  have hle:w6.heap.size ≤ gc:=by rw [HGC.out];exact Nat.le_refl _
  exact below_set (below_set HB7.out hle) hle⟩
 have BKE:Sd (((w7.setCell { block:=gc,off:=0 } (.slice (some ⟨g0,0,none⟩) 2 d0)).setCell { block:=gc,off:=1 } (.slice B1 0 d1)).heap[gc]? = some (.cells #[.slice (some ⟨g0,0,none⟩) 2 d0,.slice B1 0 d1] 38 (0,0))):=⟨by
  refine blk_put (cs:=#[.slice (some ⟨g0,0,none⟩) 2 d0,.slice none 0 0]) ?_ 1 _ rfl
  exact blk_put BKC.out 0 _ rfl⟩
 generalize ((w7.setCell { block:=gc,off:=0 } (.slice (some ⟨g0,0,none⟩) 2 d0)).setCell { block:=gc,off:=1 } (.slice B1 0 d1))=w8 at *;have HB8:=Sd.mk (below_step HB6.out HrE.out);have HR8:=Sd.mk (Kd.R_below HR6.out HrE.out);have HS0:=Sd.mk (Kd.R_below HR0.out HrE.out);have HS1:=Sd.mk (Kd.R_below HR1.out HrE.out);clear hcz0 hcz1 hfz0 hfz1 HB7 HGC BKC HrE HB6 HR6 HR0 HR1;obtain ⟨adx,eax,x0,x1,x2⟩:=at_T84 (Kd.R_reads' HR8.out).2.2 0 (by decide) (by decide);injection eax with eax;subst eax;replace x0:w8.cell? ⟨gl,0,none⟩=some (.int .i64 0):=x0;replace x1:w8.cell? ⟨gl,1,none⟩=some (.int .i64 1):=x1;replace x2:w8.cell? ⟨gl,2,none⟩=some (.int .i64 0):=x2;have y0:=(blk_cell BKE.out 0);have y1:=(blk_cell BKE.out 1);(have hbc:∀ w,(Instr.build 90 #[(0,.int .i64 0),(1,.int .i64 1)]).run Try.prog w = .ok (.agg #[.int .i64 0,.int .i64 1,.int .i64 0]) w:=fun w=>by kernel_rfl);(have hbs:∀ w g,(Instr.build 38 #[(0,.slice g 2 2)]).run Try.prog w = .ok (.agg #[.slice g 2 2,.slice none 0 0]) w:=fun w g=>by kernel_rfl);go_wp2_with fail;have HA:Sd (Below w8.heap.size w8 (w8.alloc (.cells #[.bool false,.bool true] 4 (0,0)))):=⟨below_alloc (Below.refl _ _) _⟩;have HN:Sd (Kd.C Kd.bool (w8.alloc (.cells #[.bool false,.bool true] 4 (0,0))) (some ⟨w8.heap.size,0,none⟩) 2 [false,true]):=⟨C_two (cs:=[.bool false]) (ds:=[.bool true]) (heap_alloc_new w8 _) rfl rfl rfl rfl⟩;(have NILI:∀ w:World,Kd.C (Kd.int .i64) w none 0 []:=fun w=>⟨rfl,Nat.zero_le _,fun h=>absurd h (by simp)⟩);clear x0 x1 x2 y0 y1 hbc hbs;generalize (w8.alloc (.cells #[.bool false,.bool true] 4 (0,0)))=w9 at *;obtain ⟨z0,q0,S0⟩:=Kd.R_reads' (Kd.R_below HS0.out HA.out);obtain ⟨z1,q1,S1⟩:=Kd.R_reads' (Kd.R_below HS1.out HA.out);refine (r21_Same.calls 40 (some ⟨g0,0,none⟩) d0 [false,true] B1 d1 [] (some ⟨w8.heap.size,0,none⟩) 2 [false,true] none 0 [] true w9 S0 q0 S1 q1 HN.out (Nat.le_refl 2) (NILI _) (Nat.le_refl 0) aw_same).mono ?_;rintro e wA ⟨rfl,hb⟩;have HBA:=Sd.mk (below_step (below_step HB8.out HA.out) hb);clear z0 z1 q0 q1 S0 S1 hb HA HN HB8;go_wp2_with fail;refine (rules21_call wA).mono ?_;rintro e wB ⟨D0,D3,D4,rfl,h0,h3,h4,hb⟩;have H0:=Sd.mk h0;have H3:=Sd.mk h3;have H4:=Sd.mk h4;have HBB:=Sd.mk (below_step HBA.out hb);clear h0 h3 h4 hb;go_wp2_with fail;obtain ⟨kn,hkn⟩:=Ev.rounds (g:=fun k=>pairs_Many.f k awS [] [] awC awO) (many_ev awS [] [] awC awO aw_ru);rw [aw_many] at hkn;refine (pairs_Many.calls kn D0 2 awS none 0 [] none 0 [] D3 1 awC D4 2 awO _ wB H0.out (Nat.le_refl 2) (NIL _) (Nat.le_refl 0) (NIL _) (Nat.le_refl 0) H3.out (Nat.le_refl 1) H4.out (Nat.le_refl 2) hkn).mono ?_;rintro e wC ⟨rfl,hb⟩;have HBC:=Sd.mk (below_step HBB.out hb);clear hb hkn;go_wp2_with fail;go_ret;exact ⟨rfl,HBC.out⟩
end Go.Proofs.Ytjbjbeihkoeciaa.X

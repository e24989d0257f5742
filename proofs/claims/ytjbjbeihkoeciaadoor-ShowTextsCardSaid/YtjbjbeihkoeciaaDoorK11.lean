/- Joined texts of this session, without what nothing needs: PureShowTexts, LawShowTexts. -/
import Derived.Test.YtjbjbeihkoeciaaDoorRows
import Derived.WalkKit
import Derived.ProofKit
import Derived.OpenShut
import Derived.ShutString
import Derived.ChangeOld
import Derived.Below
import Derived.SizedLaws
import Derived.Lib.SmallJoins
import Derived.Lib.LaidIn
import Derived.Lib.LaidTab
import Derived.Lib.LaidU8
import Derived.JoinedAt
import Derived.JoinedOf
import Derived.LaidLaws
import Derived.Test.YtjbjbeihkoeciaaDoorCards
import Derived.Test.YtjbjbeihkoeciaaDoorTie
import Derived.SevenTiedAt
import Derived.Test.YtjbjbeihkoeciaaDoorK1
import Derived.Test.YtjbjbeihkoeciaaDoorK10
set_option linter.unusedSimpArgs false
set_option linter.unusedVariables false
namespace Go.Proofs.YtjbjbeihkoeciaaDoor.Pure
open Go.RowKit Go.Proofs.YtjbjbeihkoeciaaDoor.X Go.Proofs.YtjbjbeihkoeciaaDoorW.PrintWords Go.Proofs.YtjbjbeihkoeciaaDoorW.PrintLast Go.Proofs.YtjbjbeihkoeciaaDoorW.PrintMore
theorem fin17:Ev (fun k=>(hucksterlaw17_awake.f).bind fun t=>some t) true:=Ev.bind1 rfl (Ev.now _)
theorem names_good {l0 l1 l2:List ByteArray} {l4:List Op_} (g0:∀ s ∈ l0,goodStr s) (g1:∀ s ∈ l1,goodStr s) (g2:∀ s ∈ l2,goodStr s) (g4:∀ o ∈ l4,goodOp o):∀ s ∈ namesL l0 l1 l2 l4,s.size ≤ maxLen:=by
 intro s hs;unfold namesL at hs;simp only [List.mem_append,List.mem_map] at hs;rcases hs with ((h|h)|h) | ⟨o,h,rfl⟩
 ·exact g0 s h
 ·exact g1 s h
 ·exact g2 s h
 ·exact (g4 o h).1
theorem ruOk_of {l0 l1 l2:List ByteArray} {l3:List Cl} {l4:List Op_} (g0:∀ s ∈ l0,goodStr s) (g1:∀ s ∈ l1,goodStr s) (g2:∀ s ∈ l2,goodStr s) (g3:∀ c ∈ l3,goodCl c) (g4:∀ o ∈ l4,goodOp o) (h:lightB l0 l1 l2 l3 l4=true):RuOk l0 l1 l2 l3 l4:=by
 obtain ⟨_,_,_,_,_,_,hd⟩:=lightB_ok h;exact ⟨names_good g0 g1 g2 g4,fun o ho=>⟨by have:=hd o ho;omega,fun d hd=>((g4 o ho).2 d hd).2.1⟩,fun c hc=>(g3 c hc).2.1⟩
theorem nil_list:(⟨#[]⟩:ByteArray).toList=([]:List UInt8):=by simp [ByteArray.toList_eq]
theorem ShowTexts (l0 l1 l2:List ByteArray) (l3:List Cl) (l4:List Op_) (g0:∀ s ∈ l0,goodStr s) (g1:∀ s ∈ l1,goodStr s) (g2:∀ s ∈ l2,goodStr s) (g3:∀ c ∈ l3,goodCl c) (g4:∀ o ∈ l4,goodOp o) (i:Int) :
  ∃ q,hucksterlaw17_ShowTexts.f q l0 l1 l2 l3 l4 i=some true:=by
 refine Ev.rounds (g:=fun q=>hucksterlaw17_ShowTexts.f q l0 l1 l2 l3 l4 i) ?_;unfold hucksterlaw17_ShowTexts.f;refine Ev.bind (light_ev l0 l1 l2 l3 l4) ?_;cases hl:lightB l0 l1 l2 l3 l4
 ·exact Ev.no (by decide) fin17
 have hr:=ruOk_of g0 g1 g2 g3 g4 hl;obtain ⟨_,_,_,_,_,hnm,_⟩:=lightB_ok hl;(have s0:∀ s ∈ l0,s.size ≤ 100:=fun s hs=>hnm s (by unfold namesL;simp [hs]));(have s1:∀ s ∈ l1,s.size ≤ 100:=fun s hs=>hnm s (by unfold namesL;simp [hs]));(have s2:∀ s ∈ l2,s.size ≤ 100:=fun s hs=>hnm s (by unfold namesL;simp [hs]));(have s4:∀ o ∈ l4,o.f0.size ≤ 100:=fun o ho=>hnm o.f0 (by unfold namesL;simp only [List.mem_append,List.mem_map];exact .inr ⟨o,ho,rfl⟩));have hmay:=may_ev l0 l1 l2 l3 l4 hr.1 (fun o ho=>(hr.2.1 o ho).1);refine Ev.yes rfl ?_;cases hc:checkB l0 l1 l2 l3 l4
 ·have ht:show_Text.f l0 l1 l2 l3 l4=some ((⟨#[]⟩:ByteArray),1):=by
   unfold show_Text.f textR;rw [if_pos ⟨hr,fun h=>by rw [hc] at h;cases h⟩,hc];rfl
  (have hk:sorts_Check.f l0 l1 l2 l3 l4=some 1:=by unfold sorts_Check.f checkE;rw [if_pos hr,hc];rfl);have h1:Ev (fun k=>show_Clause.f k l0 l1 l2 l3 l4 i) (⟨#[]⟩:ByteArray):=by
   unfold show_Clause.f;exact Ev.bind1 hk (Ev.no (by decide) (Ev.now _))
  have h2:Ev (fun k=>show_Oper.f k l0 l1 l2 l3 l4 i) (⟨#[]⟩:ByteArray):=by
   unfold show_Oper.f;exact Ev.bind1 hk (Ev.no (by decide) (Ev.now _))
  rw [hc] at hmay;exact Ev.bind1 ht (Ev.bind h1 (Ev.bind h2 (Ev.bind hmay (Ev.no (by decide) (Ev.yes rfl (Ev.yes nil_list (Ev.yes nil_list (Ev.yes nil_list fin17))))))))
 ·obtain ⟨hlen,hcc,hoo⟩:=checkB_parts hc;have ht:show_Text.f l0 l1 l2 l3 l4=some (if 4096 < (textT l0 l1 l2 l3 l4).size then ((⟨#[]⟩:ByteArray),7) else (textT l0 l1 l2 l3 l4,0)):=by
   unfold show_Text.f textR;rw [if_pos (textOk l0 l1 l2 l3 l4 hc s0 s1 s2 s4 hr),hc,if_pos rfl]
  rw [hc] at hmay;refine Ev.bind1 ht (Ev.bind (show_Cl l0 l1 l2 l3 l4 hc s0 s1 hr i) (Ev.bind (show_Op l0 l1 l2 l3 l4 hc s0 s1 s2 s4 hr i) (Ev.bind hmay (Ev.yes rfl ?_))));have hj3:Ev (fun k=>hucksterlaw17_ShowTexts.j3 k (if 4096 < (textT l0 l1 l2 l3 l4).size then ((⟨#[]⟩:ByteArray),(7:Int)) else (textT l0 l1 l2 l3 l4,0)).1 (if 4096 < (textT l0 l1 l2 l3 l4).size then ((⟨#[]⟩:ByteArray),(7:Int)) else (textT l0 l1 l2 l3 l4,0)).2 l0 l1 l2 l3 l4) true:=by
   refine Ev.succ ?_;simp only [hucksterlaw17_ShowTexts.j3];refine Ev.bind (ref_text l0 l1 l2 l3 l4 hc s0 s1 s2 s4) ?_;by_cases hb:4096 < (textT l0 l1 l2 l3 l4).size
   ·rw [if_pos hb];exact Ev.yes (by omega) (Ev.yes rfl (Ev.yes nil_list fin17))
   ·rw [if_neg hb];exact Ev.no (by omega) (Ev.yes rfl (Ev.yes rfl fin17))
  generalize (if 4096 < (textT l0 l1 l2 l3 l4).size then ((⟨#[]⟩:ByteArray),(7:Int)) else (textT l0 l1 l2 l3 l4,0))=bt at *;have hj2:Ev (fun k=>hucksterlaw17_ShowTexts.j2 k i bt.1 bt.2 (opV l0 l1 l2 l4 i) (decide (0 ≤ i∧i < (l4.length:Int))) l0 l1 l2 l3 l4) true:=by
   refine Ev.succ ?_;simp only [hucksterlaw17_ShowTexts.j2];unfold opV;by_cases hi:0 ≤ i∧i < (l4.length:Int)
   ·rw [if_pos hi,decide_eq_true hi];have hm:rd_T39 l4 i ∈ l4:=X.getD_in l4 z39 i.toNat (by omega);exact Ev.yes rfl (Ev.yes hi.1 (Ev.yes hi.2 (Ev.bind (ref_op l0 l1 l2 l3 l4 s0 s1 s2 _ (hoo _ hm) (s4 _ hm)) (Ev.yes rfl hj3))))
   ·rw [if_neg hi,decide_eq_false hi];exact Ev.no (by decide) (Ev.yes nil_list hj3)
  have hj1:Ev (fun k=>hucksterlaw17_ShowTexts.j1 k i bt.1 bt.2 (opV l0 l1 l2 l4 i) l0 l1 l2 l3 l4) true:=by
   refine Ev.succ ?_;simp only [hucksterlaw17_ShowTexts.j1];by_cases h0:i ≥ 0
   ·rw [show decide (0 ≤ i∧i < (l4.length:Int))=decide (i < (l4.length:Int)) from by simp;omega] at hj2;exact Ev.yes h0 hj2
   ·rw [decide_eq_false (by omega)] at hj2;exact Ev.no h0 hj2
  have hj0:Ev (fun k=>hucksterlaw17_ShowTexts.j0 k i bt.1 bt.2 (clV l0 l1 l3 i) (opV l0 l1 l2 l4 i) (decide (0 ≤ i∧i < (l3.length:Int))) l0 l1 l2 l3 l4) true:=by
   refine Ev.succ ?_;simp only [hucksterlaw17_ShowTexts.j0];unfold clV;by_cases hi:0 ≤ i∧i < (l3.length:Int)
   ·rw [if_pos hi,decide_eq_true hi];have hm:rd_T35 l3 i ∈ l3:=X.getD_in l3 z35 i.toNat (by omega);exact Ev.yes rfl (Ev.yes hi.1 (Ev.yes hi.2 (Ev.bind (ref_cl l0 l1 l2 l3 l4 _ (hcc _ hm) s0 s1) (Ev.yes rfl hj1))))
   ·rw [if_neg hi,decide_eq_false hi];exact Ev.no (by decide) (Ev.yes nil_list hj1)
  by_cases h0:i ≥ 0
  ·rw [show decide (0 ≤ i∧i < (l3.length:Int))=decide (i < (l3.length:Int)) from by simp;omega] at hj0;exact Ev.yes h0 hj0
  ·rw [decide_eq_false (by omega)] at hj0;exact Ev.no h0 hj0
end Go.Proofs.YtjbjbeihkoeciaaDoor.Pure
namespace Go.Proofs.YtjbjbeihkoeciaaDoor.showTexts
open Go.ChangeShapes Go.WideShapes Go.ChangeAt Go.RowKit Go.Proofs.YtjbjbeihkoeciaaDoorW.PrintWords
open Go.ChangeMaps (open_string shut_string)
set_option linter.unusedVariables false
theorem own:ownKnob Tryd.prog.godebug=none:=by kernel_rfl
theorem laidOut:laidOutB Tryd.prog=true:=by kernel_rfl
noncomputable def laidWorld (os:Os):World :=
 let w0:=World.holding Tryd.prog os ⟨#[],#[],[]⟩
 let put (h:Array Obj) (g:Nat) (cs:Array Value):Array Obj:=h.modify g fun
  | .cells _ t frozen=>.cells cs t frozen
  | o=>o
 { w0 with heap:=put (put (put w0.heap 2 (([0,1,28,2,29,14,24,3,30,22,20,15,25,17,4,8,31,27,13,23,21,19,16,7,26,12,18,6,11,5,10,9]:List Int).map fun z=>Value.int .u8 z).toArray) 3 (([0,1,56,2,57,49,28,3,61,58,42,50,38,29,17,4,62,47,59,36,45,43,51,22,53,39,33,30,24,18,12,5,63,55,48,27,60,41,37,16,46,35,44,21,52,32,23,11,54,26,40,15,34,20,31,10,25,14,19,9,13,8,7,6]:List Int).map fun z=>Value.int .u8 z).toArray) 0 (Lib.pow10Tab.map fun z=>Value.int .u64 z).toArray }
theorem laidWorld_met (os:Os) (args:Array Value):laidMet Tryd.prog Rows.showTextsRow.laid ((laidWorld os).forCall (fun _ _=>0) ⟨#[],args,[]⟩).memory :=
 (LaidIn.of_run (l:=Rows.showTextsRow.laid) [2,3,0] 8 (by kernel_rfl) (by kernel_rfl) (by kernel_rfl) (by kernel_rfl)).met
set_option maxRecDepth 100000 in
theorem lifted (os:Os) (started:os.Started) (H:Type) (enc:TypeId × Value → H) :
  ReturnsInHanded {} Tryd.checked os 3 .any (fun w args=>(Rows.showTextsSpec.pre enc Tryd.prog Tryd.f3 Rows.showTextsRow.domain false w args∧laidMet Tryd.prog Rows.showTextsRow.laid w)∧sizedMet enc Tryd.prog Tryd.f3 (OpenSpec.ofChange Rows.showTextsSpec) false w args)
   (Rows.showTextsSpec.post enc Tryd.prog Tryd.f3 false true false false):=by
 refine returnsInHanded_of_change_and (C:=Tryd.checked) (X:=fun w _=>laidMet Tryd.prog Rows.showTextsRow.laid w) (fun _ _ _ hh h=>h.of_heap hh) own started (by kernel_rfl) Tryd.func3
  (ChangeSpec.witness_at (enc:=enc) (C:=Tryd.checked) (os:=os) (X:=fun w _=>laidMet Tryd.prog Rows.showTextsRow.laid w) false (laidWorld os) #[.agg #[.slice none 0 0,.slice none 0 0,.slice none 0 0,.slice none 0 0,.slice none 0 0],.int .i64 0] 8 rfl (by kernel_rfl) (by kernel_rfl) (by kernel_rfl) (by kernel_rfl) (by kernel_rfl) (laidWorld_met os _)) ?_
 intro W base args ds gs before hval0 hW hcnd hsz0 hL _;have hsz:(DataW.weightsEach Tryd.prog (Tryd.f3.params.toList ++ Rows.showTextsSpec.plain.varTypes Tryd.prog) (ds ++ gs)).all (· ≤ reachBytes)=true:=hsz0;have hval:∀ (j:Nat) t v,Tryd.f3.params[j]? = some t → args[j]? = some v → Value.okWide Tryd.prog W .any base t v:=hval0;have hW':=hW;obtain ⟨p,q,hA0,hV,rfl,hfz,hnd⟩:=hW;have hA:DataW.TrodAll enc Tryd.prog W 0 (fun _=>true) true Tryd.f3.params.toList args.toList ds p:=hA0;rw [Tryd.params3] at hA hval hsz;obtain ⟨v0,vs0,d0,ds0,p0,q0,hargs,rfl,rfl,h0,r0⟩:=trodAll_cons hA;obtain ⟨v1,vs1,d1,ds1,p1,q1,rfl,rfl,rfl,h1,r1⟩:=trodAll_cons r0;obtain ⟨rfl,rfl,rfl⟩:=trodAll_nil r1;(obtain rfl:args = #[v0,v1]:=by cases args;simp_all);obtain ⟨rfl,rfl⟩:=trodVars_none hV;have k0:=h0;(have lt0:∀ x ∈ p0,x.block < W.heap.size:=by obtain ⟨m,hm⟩:=k0;exact DataW.trod_lt m _ _ _ hm);obtain ⟨cs0,rfl,_⟩:=okWide_struct Tryd.underlying26 (hval 0 26 v0 rfl rfl);obtain ⟨fuel0,hf0⟩:=h0;obtain ⟨l0_0,l0_1,l0_2,l0_3,l0_4,A0_0,A0_1,A0_2,A0_3,A0_4,c0_0,c0_1,c0_2,c0_3,c0_4,g0,C0_0,le0_0,C0_1,le0_1,C0_2,le0_2,C0_3,le0_3,C0_4,le0_4,ok0_0,ok0_1,ok0_2,ok0_3,ok0_4⟩:=X.openRules fuel0 _ _ hf0;replace g0:cs0.toList = [.slice A0_0 l0_0.length c0_0,.slice A0_1 l0_1.length c0_1,.slice A0_2 l0_2.length c0_2,.slice A0_3 l0_3.length c0_3,.slice A0_4 l0_4.length c0_4]:=g0;(obtain rfl:cs0 = #[.slice A0_0 l0_0.length c0_0,.slice A0_1 l0_1.length c0_1,.slice A0_2 l0_2.length c0_2,.slice A0_3 l0_3.length c0_3,.slice A0_4 l0_4.length c0_4]:=by rw [← Array.toArray_toList (xs:=cs0),g0]);obtain ⟨a1,rfl,rfl,rfl,w1⟩:=open_int Tryd.underlying3 (hval 1 3 v1 rfl rfl) h1;clear hA0 hval0 hsz0 hsz;have htab:X.Tab W:=by
  obtain ⟨g,t,cs,fuel,pp,hg,ht,hv,hd⟩:=Lib.laidMet.reads hL (n:="internal/strconv.uint64pow10") (d:=Rows.laid_internal_strconv_uint64pow10) (.tail _ (.tail _ (.head _)));obtain rfl:g=0:=Option.some.inj (hg.symm.trans (show Tryd.prog.globalNamed "internal/strconv.uint64pow10" = some 0 by kernel_rfl));obtain rfl:t=118:=Option.some.inj (ht.symm.trans (show (Tryd.prog.globals[0]?).map (·.type)=some 118 by kernel_rfl));have hc:=Lib.cells_of_tab (k:=.u64) (zs:=Lib.pow10Tab) (n:=20) Tryd.underlying118 Tryd.underlying109 (by kernel_rfl) (by kernel_rfl) (show _=some (Lib.tabData .u64 Lib.pow10Tab,pp) from hd);show W.var? Tryd.prog "internal/strconv.uint64pow10" = some (Lib.pow10Tab.map fun z=>Value.int .u64 z).toArray;rw [← hc,Array.toArray_toList];exact hv
 obtain ⟨kk,hk⟩:=Pure.ShowTexts l0_0 l0_1 l0_2 l0_3 l0_4 ok0_0 ok0_1 ok0_2 ok0_3 ok0_4 a1;(refine (X.hucksterlaw17_ShowTexts.calls kk A0_0 c0_0 l0_0 A0_1 c0_1 l0_1 A0_2 c0_2 l0_2 A0_3 c0_3 l0_3 A0_4 c0_4 l0_4 a1 true W C0_0 le0_0 C0_1 le0_1 C0_2 le0_2 C0_3 le0_3 C0_4 le0_4 hk htab rfl).mono fun e W' ⟨he,bel⟩=>?_);subst he;exact ⟨_,rfl,_,_,_,[],_,[],hW',trodAll_mk1 (shut_bool Tryd.underlying4 _),(trodAll_cons_mk (Below.trod laidOut (by kernel_rfl) (of_decide_eq_true (by kernel_rfl)) k0 bel lt0) (trodAll_cons_mk (shut_int Tryd.underlying3 w1) trodAll_mk0)),rfl,bel.frame _,fun h=>by cases h⟩
theorem over:Rows.showTextsRow.holds Tryd.pinned (OpenSpec.ofChange Rows.showTextsSpec) :=
 OpenClaim.holds_of_wide 3 Tryd.f3 rfl rfl rfl rfl rfl rfl rfl ⟨rfl,rfl,rfl,rfl,rfl⟩ rfl rfl rfl rfl rfl (by kernel_rfl) Tryd.func3 (by kernel_rfl)
  (of_decide_eq_true (by kernel_rfl)) (by unfold Func.isWrapper;first|(rw [if_pos (by decide +kernel)];kernel_rfl)|(rw [if_neg (by decide +kernel)];exact ⟨rfl,rfl⟩))
  (fun os started H enc _=>lifted os started H enc)
theorem card:Rows.ShowTextsCardSaid :=
 Claim7.holds_tied_plain_at .later [] [.data,.data,.data] true (true,"82a204104de9b69e72435ed521939383be91e0f09ee329c3f44dc57094f167e1") false
  over (fun _ h=>by cases h) (by kernel_rfl) (fun _ h=>by cases h) showTexts_row_tie rfl ⟨rfl,rfl⟩ (by kernel_rfl) rfl
  (fun f fn hf hfn=>by
   obtain rfl:f=3:=Option.some.inj ((show Tryd.prog.funcNamed "huckster/hucksterlaw17.ShowTexts" = some 3 by kernel_rfl).symm.trans hf) |>.symm
   obtain rfl:fn=Tryd.f3:=(Option.some.inj (Tryd.func3.symm.trans hfn)).symm
   exact ⟨by kernel_rfl,fun j t ht=>by
    rw [Tryd.params3] at ht
    have h3:t=26 ∨ t=3:=by
     rcases j with _|_|j
     ·exact .inl (by simpa using ht.symm)
     ·exact .inr (by simpa using ht.symm)
     ·simp at ht
    rcases h3 with rfl|rfl
    ·exact (show Tryd.prog.wantsStandIn 26=false by kernel_rfl)
    ·exact (show Tryd.prog.wantsStandIn 3=false by kernel_rfl)⟩)
  (by kernel_rfl)
#print axioms card
end Go.Proofs.YtjbjbeihkoeciaaDoor.showTexts
namespace Go.Proofs.YtjbjbeihkoeciaaDoor
theorem showTexts_holds:Rows.ShowTextsCardSaid:=showTexts.card
end Go.Proofs.YtjbjbeihkoeciaaDoor

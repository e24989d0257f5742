/- Joined texts of this session, without what nothing needs: LawPairsTurn. -/
import Derived.Test.YtjbjbeihkoeciaaRows
import Derived.WalkKit
import Derived.ProofKit
import Derived.OpenShut
import Derived.ShutString
import Derived.ChangeOld
import Derived.Below
import Derived.SizedLaws
import Derived.Lib.SmallJoins
import Derived.ChangeSlices
import Derived.Test.YtjbjbeihkoeciaaK1
import Derived.Test.YtjbjbeihkoeciaaK8
namespace Go.Proofs.Ytjbjbeihkoeciaa.pairsTurn
open Go.ChangeShapes Go.WideShapes Go.ChangeAt Go.RowKit Go.Proofs.YtjbjbeihkoeciaaW.PrintWords
open Go.ChangeMaps (open_string shut_string)
set_option linter.unusedVariables false
theorem own:ownKnob Try.prog.godebug=none:=by kernel_rfl
theorem laidOut:laidOutB Try.prog=true:=by kernel_rfl
set_option maxRecDepth 100000 in
theorem lifted (os:Os) (started:os.Started) (H:Type) (enc:TypeId × Value → H) :
  ReturnsInHanded {} Try.checked os 4 .any (Rows.pairsTurnSpec.pre6 enc Try.prog Try.f4 Rows.pairsTurnRow.domain false) (Rows.pairsTurnSpec.post enc Try.prog Try.f4 false true false false):=by
 refine returnsInHanded_of_change_sized (C:=Try.checked) own started (by kernel_rfl) Try.func4
  (ChangeSpec.witness6 (enc:=enc) (C:=Try.checked) false ⟨#[],#[.agg #[.slice none 0 0,.slice none 0 0,.slice none 0 0,.slice none 0 0,.slice none 0 0],.slice none 0 0,.agg #[.int .i64 0,.int .i64 0,.int .i64 0,.int .i64 0]],[]⟩ 8 (by kernel_rfl) (by kernel_rfl) (by kernel_rfl) (by kernel_rfl)) ?_
 intro W base args ds gs before hval0 hW hcnd hsz0 _;have hsz:(DataW.weightsEach Try.prog (Try.f4.params.toList ++ Rows.pairsTurnSpec.plain.varTypes Try.prog) (ds ++ gs)).all (· ≤ reachBytes)=true:=hsz0;have hval:∀ (j:Nat) t v,Try.f4.params[j]? = some t → args[j]? = some v → Value.okWide Try.prog W .any base t v:=hval0;have hW':=hW;obtain ⟨p,q,hA0,hV,rfl,hfz,hnd⟩:=hW;have hA:DataW.TrodAll enc Try.prog W 0 (fun _=>true) true Try.f4.params.toList args.toList ds p:=hA0;rw [Try.params4] at hA hval hsz;obtain ⟨v0,vs0,d0,ds0,p0,q0,hargs,rfl,rfl,h0,r0⟩:=trodAll_cons hA;obtain ⟨v1,vs1,d1,ds1,p1,q1,rfl,rfl,rfl,h1,r1⟩:=trodAll_cons r0;obtain ⟨v2,vs2,d2,ds2,p2,q2,rfl,rfl,rfl,h2,r2⟩:=trodAll_cons r1;obtain ⟨rfl,rfl,rfl⟩:=trodAll_nil r2;(obtain rfl:args = #[v0,v1,v2]:=by cases args;simp_all);obtain ⟨rfl,rfl⟩:=trodVars_none hV;have k0:=h0;(have lt0:∀ x ∈ p0,x.block < W.heap.size:=by obtain ⟨m,hm⟩:=k0;exact DataW.trod_lt m _ _ _ hm);obtain ⟨cs0,rfl,_⟩:=okWide_struct Try.underlying26 (hval 0 26 v0 rfl rfl);obtain ⟨fuel0,hf0⟩:=h0;obtain ⟨l0_0,l0_1,l0_2,l0_3,l0_4,A0_0,A0_1,A0_2,A0_3,A0_4,c0_0,c0_1,c0_2,c0_3,c0_4,g0,C0_0,le0_0,C0_1,le0_1,C0_2,le0_2,C0_3,le0_3,C0_4,le0_4,ok0_0,ok0_1,ok0_2,ok0_3,ok0_4⟩:=X.openRules fuel0 _ _ hf0;replace g0:cs0.toList = [.slice A0_0 l0_0.length c0_0,.slice A0_1 l0_1.length c0_1,.slice A0_2 l0_2.length c0_2,.slice A0_3 l0_3.length c0_3,.slice A0_4 l0_4.length c0_4]:=g0;(obtain rfl:cs0 = #[.slice A0_0 l0_0.length c0_0,.slice A0_1 l0_1.length c0_1,.slice A0_2 l0_2.length c0_2,.slice A0_3 l0_3.length c0_3,.slice A0_4 l0_4.length c0_4]:=by rw [← Array.toArray_toList (xs:=cs0),g0]);obtain ⟨a1,len1,cap1,rfl⟩:=okWide_slice Try.underlying32 (hval 1 32 v1 rfl rfl);have k1:=h1;(have lt1:∀ x ∈ p1,x.block < W.heap.size:=by obtain ⟨m,hm⟩:=k1;exact DataW.trod_lt m _ _ _ hm);obtain ⟨fuel1,hf1⟩:=h1;obtain ⟨z1,A1,c1,g1,le1,C1,_⟩:=X.openBools fuel1 _ _ hf1;replace g1:[Value.slice a1 len1 cap1] = [.slice A1 z1.length c1]:=g1;(obtain ⟨rfl,rfl,rfl⟩:a1=A1∧len1=z1.length∧cap1=c1:=by injection g1 with g1;injection g1 with x y z;exact ⟨x,y,z⟩);have k2:=h2;(have lt2:∀ x ∈ p2,x.block < W.heap.size:=by obtain ⟨m,hm⟩:=k2;exact DataW.trod_lt m _ _ _ hm);obtain ⟨cs2,rfl,_⟩:=okWide_struct Try.underlying34 (hval 2 34 v2 rfl rfl);obtain ⟨fuel2,hf2⟩:=h2;obtain ⟨a2_0,a2_1,a2_2,a2_3,g2,wn2_0,wn2_1,wn2_2,wn2_3⟩:=X.openAsked fuel2 _ _ hf2;replace g2:cs2.toList=X.cellAsked a2_0 a2_1 a2_2 a2_3:=g2;(obtain rfl:cs2=(X.cellAsked a2_0 a2_1 a2_2 a2_3).toArray:=by rw [← g2,Array.toArray_toList]);clear hA0 hval0 hsz0 hsz;(refine (X.turn_call A0_0 c0_0 l0_0 A0_1 c0_1 l0_1 A0_2 c0_2 l0_2 A0_3 c0_3 l0_3 A0_4 c0_4 l0_4 a1 cap1 z1 a2_0 a2_1 a2_2 a2_3 W C0_0 le0_0 C0_1 le0_1 C0_2 le0_2 C0_3 le0_3 C0_4 le0_4 C1 le1 ok0_0 ok0_1 ok0_2 ok0_3 ok0_4 wn2_0 wn2_1 wn2_2 wn2_3).mono fun e W' ⟨he,bel⟩=>?_);subst he;exact ⟨_,rfl,_,_,_,[],_,[],hW',trodAll_mk1 (shut_bool Try.underlying4 _),(trodAll_cons_mk (Below.trod laidOut (by kernel_rfl) (of_decide_eq_true (by kernel_rfl)) k0 bel lt0) (trodAll_cons_mk (Below.trod laidOut (by kernel_rfl) (of_decide_eq_true (by kernel_rfl)) k1 bel lt1) (trodAll_cons_mk (Below.trod laidOut (by kernel_rfl) (of_decide_eq_true (by kernel_rfl)) k2 bel lt2) trodAll_mk0))),rfl,bel.frame _,fun h=>by cases h⟩
theorem over:Rows.pairsTurnRow.holds Try.pinned (OpenSpec.ofChange Rows.pairsTurnSpec) :=
 OpenClaim.holds_of_wide 4 Try.f4 rfl rfl rfl rfl rfl rfl rfl ⟨rfl,rfl,rfl,rfl,rfl⟩ rfl rfl rfl rfl rfl (by kernel_rfl) Try.func4 (by kernel_rfl)
  (of_decide_eq_true (by kernel_rfl)) (by unfold Func.isWrapper;first|(rw [if_pos (by decide +kernel)];kernel_rfl)|(rw [if_neg (by decide +kernel)];exact ⟨rfl,rfl⟩))
  (fun os started H enc _=>lifted os started H enc)
theorem proved:Rows.PairsTurnSaid:=over
#print axioms proved
end Go.Proofs.Ytjbjbeihkoeciaa.pairsTurn
namespace Go.Proofs.Ytjbjbeihkoeciaa
theorem pairsTurn_holds:Rows.PairsTurnSaid:=pairsTurn.proved
end Go.Proofs.Ytjbjbeihkoeciaa

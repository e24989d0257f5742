/- Joined texts of this session, without what nothing needs: LawSortsChecks. -/
import Derived.Test.YtjbjbeihkoeciaaRows
import Derived.WalkKit
import Derived.ProofKit
import Derived.OpenShut
import Derived.ShutString
import Derived.ChangeOld
import Derived.Below
import Derived.SizedLaws
import Derived.Lib.SmallJoins
import Derived.Test.YtjbjbeihkoeciaaK1
import Derived.Test.YtjbjbeihkoeciaaK9
namespace Go.Proofs.Ytjbjbeihkoeciaa.sortsChecks
open Go.ChangeShapes Go.WideShapes Go.ChangeAt Go.RowKit Go.Proofs.YtjbjbeihkoeciaaW.PrintWords
open Go.ChangeMaps (open_string shut_string)
set_option linter.unusedVariables false
theorem own:ownKnob Try.prog.godebug=none:=by kernel_rfl
theorem laidOut:laidOutB Try.prog=true:=by kernel_rfl
set_option maxRecDepth 100000 in
theorem lifted (os:Os) (started:os.Started) (H:Type) (enc:TypeId × Value → H) :
  ReturnsInHanded {} Try.checked os 3 .any (Rows.sortsChecksSpec.pre6 enc Try.prog Try.f3 Rows.sortsChecksRow.domain false) (Rows.sortsChecksSpec.post enc Try.prog Try.f3 false true false false):=by
 refine returnsInHanded_of_change_sized (C:=Try.checked) own started (by kernel_rfl) Try.func3
  (ChangeSpec.witness6 (enc:=enc) (C:=Try.checked) false ⟨#[],#[.agg #[.slice none 0 0,.slice none 0 0,.slice none 0 0,.slice none 0 0,.slice none 0 0],.agg #[.slice none 0 0,.slice none 0 0,.slice none 0 0,.slice none 0 0,.slice none 0 0]],[]⟩ 8 (by kernel_rfl) (by kernel_rfl) (by kernel_rfl) (by kernel_rfl)) ?_
 intro W base args ds gs before hval0 hW hcnd hsz0 _;have hsz:(DataW.weightsEach Try.prog (Try.f3.params.toList ++ Rows.sortsChecksSpec.plain.varTypes Try.prog) (ds ++ gs)).all (· ≤ reachBytes)=true:=hsz0;have hval:∀ (j:Nat) t v,Try.f3.params[j]? = some t → args[j]? = some v → Value.okWide Try.prog W .any base t v:=hval0;have hW':=hW;obtain ⟨p,q,hA0,hV,rfl,hfz,hnd⟩:=hW;have hA:DataW.TrodAll enc Try.prog W 0 (fun _=>true) true Try.f3.params.toList args.toList ds p:=hA0;rw [Try.params3] at hA hval hsz;obtain ⟨v0,vs0,d0,ds0,p0,q0,hargs,rfl,rfl,h0,r0⟩:=trodAll_cons hA;obtain ⟨v1,vs1,d1,ds1,p1,q1,rfl,rfl,rfl,h1,r1⟩:=trodAll_cons r0;obtain ⟨rfl,rfl,rfl⟩:=trodAll_nil r1;(obtain rfl:args = #[v0,v1]:=by cases args;simp_all);obtain ⟨rfl,rfl⟩:=trodVars_none hV;have k0:=h0;(have lt0:∀ x ∈ p0,x.block < W.heap.size:=by obtain ⟨m,hm⟩:=k0;exact DataW.trod_lt m _ _ _ hm);obtain ⟨cs0,rfl,_⟩:=okWide_struct Try.underlying26 (hval 0 26 v0 rfl rfl);obtain ⟨fuel0,hf0⟩:=h0;obtain ⟨l0_0,l0_1,l0_2,l0_3,l0_4,A0_0,A0_1,A0_2,A0_3,A0_4,c0_0,c0_1,c0_2,c0_3,c0_4,g0,C0_0,le0_0,C0_1,le0_1,C0_2,le0_2,C0_3,le0_3,C0_4,le0_4,ok0_0,ok0_1,ok0_2,ok0_3,ok0_4⟩:=X.openRules fuel0 _ _ hf0;replace g0:cs0.toList = [.slice A0_0 l0_0.length c0_0,.slice A0_1 l0_1.length c0_1,.slice A0_2 l0_2.length c0_2,.slice A0_3 l0_3.length c0_3,.slice A0_4 l0_4.length c0_4]:=g0;(obtain rfl:cs0 = #[.slice A0_0 l0_0.length c0_0,.slice A0_1 l0_1.length c0_1,.slice A0_2 l0_2.length c0_2,.slice A0_3 l0_3.length c0_3,.slice A0_4 l0_4.length c0_4]:=by rw [← Array.toArray_toList (xs:=cs0),g0]);have k1:=h1;(have lt1:∀ x ∈ p1,x.block < W.heap.size:=by obtain ⟨m,hm⟩:=k1;exact DataW.trod_lt m _ _ _ hm);obtain ⟨cs1,rfl,_⟩:=okWide_struct Try.underlying26 (hval 1 26 v1 rfl rfl);obtain ⟨fuel1,hf1⟩:=h1;obtain ⟨l1_0,l1_1,l1_2,l1_3,l1_4,A1_0,A1_1,A1_2,A1_3,A1_4,c1_0,c1_1,c1_2,c1_3,c1_4,g1,C1_0,le1_0,C1_1,le1_1,C1_2,le1_2,C1_3,le1_3,C1_4,le1_4,ok1_0,ok1_1,ok1_2,ok1_3,ok1_4⟩:=X.openRules fuel1 _ _ hf1;replace g1:cs1.toList = [.slice A1_0 l1_0.length c1_0,.slice A1_1 l1_1.length c1_1,.slice A1_2 l1_2.length c1_2,.slice A1_3 l1_3.length c1_3,.slice A1_4 l1_4.length c1_4]:=g1;(obtain rfl:cs1 = #[.slice A1_0 l1_0.length c1_0,.slice A1_1 l1_1.length c1_1,.slice A1_2 l1_2.length c1_2,.slice A1_3 l1_3.length c1_3,.slice A1_4 l1_4.length c1_4]:=by rw [← Array.toArray_toList (xs:=cs1),g1]);clear hA0 hval0 hsz0 hsz;obtain ⟨kk,hk⟩:=Pure.SortsChecks l0_0 l0_1 l0_2 l0_3 l0_4 ok0_0 ok0_1 ok0_2 ok0_3 ok0_4 l1_0 l1_1 l1_2 l1_3 l1_4 ok1_0 ok1_1 ok1_2 ok1_3 ok1_4;(refine (X.hucksterlaw16_SortsChecks.calls kk A0_0 c0_0 l0_0 A0_1 c0_1 l0_1 A0_2 c0_2 l0_2 A0_3 c0_3 l0_3 A0_4 c0_4 l0_4 A1_0 c1_0 l1_0 A1_1 c1_1 l1_1 A1_2 c1_2 l1_2 A1_3 c1_3 l1_3 A1_4 c1_4 l1_4 true W C0_0 le0_0 C0_1 le0_1 C0_2 le0_2 C0_3 le0_3 C0_4 le0_4 C1_0 le1_0 C1_1 le1_1 C1_2 le1_2 C1_3 le1_3 C1_4 le1_4 hk rfl).mono fun e W' ⟨he,bel⟩=>?_);subst he;exact ⟨_,rfl,_,_,_,[],_,[],hW',trodAll_mk1 (shut_bool Try.underlying4 _),(trodAll_cons_mk (Below.trod laidOut (by kernel_rfl) (of_decide_eq_true (by kernel_rfl)) k0 bel lt0) (trodAll_cons_mk (Below.trod laidOut (by kernel_rfl) (of_decide_eq_true (by kernel_rfl)) k1 bel lt1) trodAll_mk0)),rfl,bel.frame _,fun h=>by cases h⟩
theorem over:Rows.sortsChecksRow.holds Try.pinned (OpenSpec.ofChange Rows.sortsChecksSpec) :=
 OpenClaim.holds_of_wide 3 Try.f3 rfl rfl rfl rfl rfl rfl rfl ⟨rfl,rfl,rfl,rfl,rfl⟩ rfl rfl rfl rfl rfl (by kernel_rfl) Try.func3 (by kernel_rfl)
  (of_decide_eq_true (by kernel_rfl)) (by unfold Func.isWrapper;first|(rw [if_pos (by decide +kernel)];kernel_rfl)|(rw [if_neg (by decide +kernel)];exact ⟨rfl,rfl⟩))
  (fun os started H enc _=>lifted os started H enc)
theorem proved:Rows.SortsChecksSaid:=over
#print axioms proved
end Go.Proofs.Ytjbjbeihkoeciaa.sortsChecks
namespace Go.Proofs.Ytjbjbeihkoeciaa
theorem sortsChecks_holds:Rows.SortsChecksSaid:=sortsChecks.proved
end Go.Proofs.Ytjbjbeihkoeciaa

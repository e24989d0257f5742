/- Joined texts of this session, without what nothing needs: RuP, RuQ, Xevalright, Xevalset, XcmpisNaNstring, XcmpLessstring, XslicesisNaNstring, XslicesBinarySearchstring, Xevalin, EvP, EvIn, EvCount, EvStrs, IdxStrs0, EvCells, IdxCells0, EvMay, EvStr, IdxStr2, EvCell, IdxCell1, IdxCell2, EvHolds, IntMap, Small, Tab, XevalCheck, XevalHolds. -/
import Derived.Deep.QuietTactic
import Derived.BigQuiet
import Derived.Test.YtjbjbeihkoeciaaGreatK1
import Derived.Test.YtjbjbeihkoeciaaGreatK2
import Derived.Test.YtjbjbeihkoeciaaGreatK3
set_option linter.unusedVariables false
set_option linter.unusedSimpArgs false
namespace Go.Proofs.YtjbjbeihkoeciaaGreat.X
open Go.RowKit Go.Proofs.YtjbjbeihkoeciaaGreatW.PrintWords Go.Proofs.YtjbjbeihkoeciaaGreatW.PrintLast Go.Proofs.YtjbjbeihkoeciaaGreatW.PrintMore
theorem rdCl_at (l:List Cl) (pos:Nat):rd_T85 l (pos:Int)=l.getD pos z85:=by simp [rd_T85]
theorem rdOp_at (l:List Op_) (pos:Nat):rd_T89 l (pos:Int)=l.getD pos z89:=by simp [rd_T89]
theorem rdDg_at (l:List Dg) (pos:Nat):rd_T94 l (pos:Int)=l.getD pos z94:=by simp [rd_T94]
theorem getD_mem {α:Type} (l:List α) (z:α) (k:Nat) (h:k < l.length):l.getD k z ∈ l:=by
 simp only [List.getD_eq_getElem?_getD,List.getElem?_eq_getElem h,Option.getD_some];exact List.getElem_mem h
theorem take_getD {α:Type} (l:List α) (z:α) (k:Nat) (h:k < l.length):l.take (k + 1)=l.take k ++ [l.getD k z]:=by
 rw [List.take_add_one,List.getElem?_eq_getElem h];simp [List.getD_eq_getElem?_getD,List.getElem?_eq_getElem h]
theorem letter_f (c:Int):r14_letter.f c=some (letB c):=by
 unfold r14_letter.f letB;by_cases h:c ≥ 97
 ·rw [if_pos h];simp;omega
 ·rw [if_neg h];simp;omega
theorem digit_f (c:Int):r14_digit.f c=some (digB c):=by
 unfold r14_digit.f digB;by_cases h:c ≥ 48
 ·rw [if_pos h];simp;omega
 ·rw [if_neg h];simp;omega
theorem bt_byt (s:ByteArray) (i:Nat):bt s (i:Int)=byt s i:=by
 unfold bt byt;simp
theorem word_ev (s:ByteArray) (hs:s.size ≤ maxLen):Ev (fun k=>r14_Word.f k s) (wordB s):=by
 (have hm:maxLen ≤ 9223372036854775807:=by decide);have h:=Ev.loop (g:=fun k pos=>r14_Word.l0 k s (pos:Int)) (spec:=fun pos=>wordFrom s (s.size - pos) pos && decide (1 ≤ s.size∧s.size ≤ 16)) s.size ?_ ?_ 0 (by omega)
 ·(have e:(wordFrom s (s.size - 0) 0 && decide (1 ≤ s.size∧s.size ≤ 16))=wordB s:=by unfold wordB;rw [Bool.and_comm,Nat.sub_zero]);rw [← e];exact h
 ·refine Ev.succ ?_;simp only [r14_Word.l0];refine Ev.no (by omega) ?_;rw [Nat.sub_self,show wordFrom s 0 s.size=true from rfl,Bool.true_and];by_cases h1:(s.size:Int) ≥ 1
  ·exact Ev.yes h1 (Ev.is (by congr 1;apply propext;omega))
  ·exact Ev.no h1 (Ev.is (by symm;rw [decide_eq_false_iff_not];omega))
 ·intro pos hp ih;refine Ev.succ ?_;simp only [r14_Word.l0,letter_f,digit_f,bt_byt];obtain ⟨b,hb⟩:∃ b,s.size - pos=b + 1:=⟨s.size - pos - 1,by omega⟩;(have hb':s.size - (pos + 1)=b:=by omega);rw [wrap_up pos (by omega)];rw [hb'] at ih;rw [hb];(have e:wordFrom s (b + 1) pos=(wchar s pos && wordFrom s b (pos + 1)):=by simp [wordFrom,hp]);rw [e];refine Ev.yes (by omega) (Ev.yes (by omega) (Ev.bind1 rfl ?_));unfold wchar;cases hl:letB (byt s pos)
  ·refine Ev.no (by decide) (Ev.bind1 rfl ?_);cases hd:digB (byt s pos)
   ·refine Ev.no (by decide) ?_;rw [Bool.and_false];exact Ev.now _
   ·refine Ev.yes rfl ?_;by_cases h0:(pos:Int) > 0
    ·refine Ev.yes h0 ?_;rw [decide_eq_true (by omega)];exact ih
    ·refine Ev.no h0 ?_;rw [decide_eq_false (by omega)];exact Ev.now _
  ·exact Ev.yes rfl ih
theorem hasB_cons (x:ByteArray) (l:List ByteArray) (a:ByteArray):hasB (x :: l) a=(decide (x=a) || hasB l a):=rfl
theorem kept_ev (s:ByteArray):Ev (fun k=>r15_Kept.f k s) (hasB kwords s):=by
 unfold r15_Kept.f;refine Ev.bind1 (a:=kwords) rfl ?_;(have hl:kwords.length=17:=by decide);refine Ev.loop (g:=fun k pos=>r15_Kept.l0 k s kwords (pos:Int)) (spec:=fun pos=>hasB (kwords.drop pos) s) kwords.length ?_ ?_ 0 (by omega)
 ·refine Ev.succ ?_;simp only [r15_Kept.l0];rw [List.drop_length];exact Ev.no (by omega) (Ev.now _)
 ·intro pos hp ih;refine Ev.succ ?_;simp only [r15_Kept.l0,rdOf_at];rw [wrap_up pos (by omega),drop_getD kwords ByteArray.empty pos hp,hasB_cons];refine Ev.yes (by omega) (Ev.yes (by omega) ?_);by_cases he:(kwords.getD pos ByteArray.empty).toList=s.toList
  ·refine Ev.yes he ?_;rw [decide_eq_true (ba_toList_inj he)];exact Ev.now _
  ·refine Ev.no he ?_;rw [decide_eq_false (fun h=>he (by rw [h])),Bool.false_or];exact ih
theorem name_ev (s:ByteArray) (hs:s.size ≤ maxLen):Ev (fun k=>r15_Name.f k s) (nmB s):=by
 unfold r15_Name.f nmB;refine Ev.bind (word_ev s hs) ?_;cases wordB s
 ·exact Ev.no (by decide) (Ev.now _)
 ·exact Ev.yes rfl (Ev.bind (kept_ev s) (Ev.now _))
def idxI:List ByteArray → ByteArray → Nat → Int
 | [],_,_=>-1
 | x :: r,s,n=>if x=s then (n:Int) else idxI r s (n + 1)
theorem idxI_has (l:List ByteArray) (s:ByteArray):∀ n,decide (idxI l s n ≥ 0)=hasB l s:=by
 induction l with
 | nil=>intro n;rfl
 | cons x r ih =>
  intro n;rw [hasB_cons,idxI];by_cases h:x=s
  ·rw [if_pos h,decide_eq_true h,decide_eq_true (by omega)];rfl
  ·rw [if_neg h,decide_eq_false h,ih];rfl
theorem at_ev (l:List ByteArray) (s:ByteArray) (hl:l.length ≤ 4000000000):Ev (fun k=>r16_At.f k l s) (idxI l s 0):=by
 unfold r16_At.f;refine Ev.loop (g:=fun k pos=>r16_At.l0 k l s (pos:Int)) (spec:=fun pos=>idxI (l.drop pos) s pos) l.length ?_ ?_ 0 (by omega)
 ·refine Ev.succ ?_;simp only [r16_At.l0];rw [List.drop_length];exact Ev.no (by omega) (Ev.now _)
 ·intro pos hp ih;refine Ev.succ ?_;simp only [r16_At.l0,rdOf_at];rw [wrap_up pos (by omega),drop_getD l ByteArray.empty pos hp,idxI];refine Ev.yes (by omega) (Ev.yes (by omega) ?_);by_cases he:(l.getD pos ByteArray.empty).toList=s.toList
  ·rw [if_pos (ba_toList_inj he)];exact Ev.yes he (Ev.now _)
  ·rw [if_neg (fun h=>he (by rw [h]))];exact Ev.no he ih
theorem hasB_congr {l m:List ByteArray} (h:∀ x,x ∈ l ↔ x ∈ m) (a:ByteArray):hasB l a=hasB m a:=by
 unfold hasB;rw [Bool.eq_iff_iff];simp [h]
theorem unlike_ev (l:List ByteArray) (hl:l.length ≤ 4000000000) (hs:∀ s ∈ l,s.size ≤ maxLen):Ev (fun k=>r16_Unlike.f k l) (namedOk l):=by
 unfold r16_Unlike.f;refine Ev.loop (g:=fun k pos=>r16_Unlike.l0 k l (pos:Int)) (spec:=fun pos=>namedU (l.take pos).reverse (l.drop pos)) l.length ?_ ?_ 0 (by omega)
 ·refine Ev.succ ?_;simp only [r16_Unlike.l0];rw [List.drop_length];exact Ev.no (by omega) (Ev.now _)
 ·intro pos hp ih;refine Ev.succ ?_;simp only [r16_Unlike.l0,rdOf_at,Int.toNat_natCast];rw [wrap_up pos (by omega),drop_getD l ByteArray.empty pos hp,namedU];have hm:=getD_mem l ByteArray.empty pos hp;rw [take_getD l ByteArray.empty pos hp,List.reverse_append] at ih;generalize hx:l.getD pos ByteArray.empty=x at *;refine Ev.yes (by omega) (Ev.yes (by omega) (Ev.bind (name_ev x (hs x hm)) ?_));cases nmB x
  ·exact Ev.no (by decide) (Ev.now _)
  ·refine Ev.yes rfl (Ev.yes (by omega) (Ev.bind (at_ev (l.take pos) x (by rw [List.length_take];omega)) ?_));have e:=idxI_has (l.take pos) x 0;rw [hasB_congr (m:=(l.take pos).reverse) (fun y=>by simp) x] at e;rw [← e];by_cases h0:idxI (l.take pos) x 0 ≥ 0
   ·refine Ev.yes h0 ?_;rw [decide_eq_true h0];exact Ev.now _
   ·refine Ev.no h0 ?_;rw [decide_eq_false h0];exact ih
theorem all_ev (l0 l1 l2:List ByteArray) (l3:List Cl) (l4:List Op_) (h0:l0.length ≤ 1000000) (h1:l1.length ≤ 1000000) (h2:l2.length ≤ 1000000) (h4:l4.length ≤ 1000000) :
  Ev (fun k=>r16_All.f k l0 l1 l2 l3 l4) (namesL l0 l1 l2 l4):=by
 unfold r16_All.f;refine Ev.bind1 rfl (Ev.yes (by simp;omega) (Ev.bind1 rfl (Ev.yes (by simp;omega) (Ev.bind1 rfl (Ev.yes (by simp;omega) ?_)))));(have e:namesL l0 l1 l2 l4=(((([]:List ByteArray) ++ l0) ++ l1) ++ l2) ++ (l4.take l4.length).map (·.f0):=by rw [List.take_length];rfl);refine Ev.loop (g:=fun k pos=>r16_All.l0 k (((([]:List ByteArray) ++ l0) ++ l1) ++ l2 ++ (l4.take pos).map (·.f0)) (pos:Int) l0 l1 l2 l3 l4) (spec:=fun _=>namesL l0 l1 l2 l4) l4.length ?_ ?_ 0 (by omega) |> fun h=>by simpa using h
 ·refine Ev.succ ?_;simp only [r16_All.l0];rw [← e];exact Ev.no (by omega) (Ev.now _)
 ·intro pos hp ih;refine Ev.succ ?_;simp only [r16_All.l0,rdOp_at];rw [wrap_up pos (by omega)];rw [take_getD l4 z89 pos hp,List.map_append,← List.append_assoc] at ih;exact Ev.yes (by omega) (Ev.yes (by omega) (Ev.yes (by simp;omega) ih))
def flS (l:List Cl):List Int:=(l.filter (fun c=>decide (c.f0=8))).map (·.f2)
theorem leastU_congr (l:List Cl):∀ (s t:List Int),(∀ x,s.contains x=t.contains x) → leastU s l=leastU t l:=by
 induction l with
 | nil=>intro s t _;rfl
 | cons c l ih =>
  intro s t h;unfold leastU;rw [h c.f2,ih s t h,ih (c.f2 :: s) (c.f2 :: t) (fun x=>by rw [List.contains_cons,List.contains_cons,h x])]
theorem flS_snoc (l:List Cl) (c:Cl):flS (l ++ [c])=if c.f0=8 then flS l ++ [c.f2] else flS l:=by
 unfold flS;rw [List.filter_append,List.map_append];by_cases h:c.f0=8
 ·simp [h]
 ·simp [h]
theorem leastU_at (l:List Cl) (c:Cl) (r:List Cl):leastU (flS l) (c :: r)=if c.f0=8∧(flS l).contains c.f2=true then false else leastU (flS (l ++ [c])) r:=by
 rw [flS_snoc,show leastU (flS l) (c :: r)=(if c.f0=8 then (if (flS l).contains c.f2 then false else leastU (c.f2 :: flS l) r) else leastU (flS l) r) from rfl];by_cases h:c.f0=8
 ·rw [if_pos h,if_pos h];by_cases h2:(flS l).contains c.f2=true
  ·rw [if_pos h2,if_pos ⟨h,h2⟩]
  ·rw [if_neg h2,if_neg (fun x=>h2 x.2)];exact leastU_congr r _ _ (fun x=>by rw [Bool.eq_iff_iff];simp;exact or_comm)
 ·rw [if_neg h,if_neg h,if_neg (fun x=>h x.1)]
theorem floors_ev (l:List Cl) (hl:l.length ≤ 4000000000):Ev (fun k=>r16_floors.f k l) (leastOk l):=by
 unfold r16_floors.f;refine Ev.loop (g:=fun k pos=>r16_floors.l0 k l (pos:Int)) (spec:=fun pos=>leastU (flS (l.take pos)) (l.drop pos)) l.length ?_ ?_ 0 (by omega)
 ·refine Ev.succ ?_;simp only [r16_floors.l0];rw [List.drop_length];exact Ev.no (by omega) (Ev.now _)
 ·intro pos hp ih;refine Ev.succ ?_;simp only [r16_floors.l0];refine Ev.yes (by omega) ?_;rw [take_getD l z85 pos hp] at ih;have hrd:rd_T85 l (pos:Int)=l.getD pos z85:=rdCl_at l pos;rw [drop_getD l z85 pos hp,leastU_at];generalize l.getD pos z85=c at *;have h:=Ev.loop (g:=fun k j=>r16_floors.l1 k l (pos:Int) (j:Int)) (spec:=fun j=>if c.f0=8∧(flS ((l.take pos).drop j)).contains c.f2=true then false else leastU (flS (l.take pos ++ [c])) (l.drop (pos + 1))) pos ?_ ?_ 0 (by omega)
  ·rw [List.drop_zero] at h;exact h
  ·refine Ev.succ ?_;simp only [r16_floors.l1];rw [wrap_up pos (by omega)];rw [List.drop_eq_nil_of_le (by rw [List.length_take];omega),if_neg (by simp [flS])];exact Ev.no (by omega) ih
  ·intro j hj ihj;refine Ev.succ ?_;simp only [r16_floors.l1];(have hjt:j < (l.take pos).length:=by rw [List.length_take];omega);have hrj:rd_T85 l (j:Int)=(l.take pos).getD j z85:=by
    rw [rdCl_at];simp [List.getD_eq_getElem?_getD,List.getElem?_take,hj]
   rw [wrap_up j (by omega),hrd,hrj,drop_getD (l.take pos) z85 j hjt];generalize (l.take pos).getD j z85=e at *;refine Ev.yes (by omega) (Ev.yes (by omega) (Ev.yes (by omega) ?_));have hfl:flS (e :: (l.take pos).drop (j + 1))=if e.f0=8 then e.f2 :: flS ((l.take pos).drop (j + 1)) else flS ((l.take pos).drop (j + 1)):=by
    unfold flS;by_cases h:e.f0=8 <;> simp [h]
   rw [hfl];by_cases hc:c.f0=8
   ·refine Ev.yes hc (Ev.yes (by omega) (Ev.yes (by omega) ?_));by_cases he:e.f0=8
    ·rw [if_pos he];refine Ev.yes he ?_;by_cases hq:c.f2=e.f2
     ·rw [if_pos ⟨hc,by simp [hq]⟩];exact Ev.yes hq (Ev.now _)
     ·refine Ev.no hq ?_;have:(e.f2 :: flS ((l.take pos).drop (j + 1))).contains c.f2=(flS ((l.take pos).drop (j + 1))).contains c.f2:=by
       rw [List.contains_cons];simp [hq]
      rw [this];exact ihj
    ·rw [if_neg he];exact Ev.no he ihj
   ·rw [if_neg (fun x=>hc x.1)] at ihj ⊢;exact Ev.no hc ihj
theorem in_f (n m:Int):r16_in.f n m=some (wB n 0 (m - 1)):=by
 unfold r16_in.f wB;by_cases h:n ≥ 0
 ·rw [if_pos h,decide_eq_true (by omega:0 ≤ n),Bool.true_and];congr 2;apply propext;omega
 ·rw [if_neg h,decide_eq_false (by omega:¬ 0 ≤ n)];rfl
theorem clause_ev (l0 l1 l2:List ByteArray) (l3:List Cl) (l4:List Op_) (c:Cl) :
  Ev (fun k=>r16_Clause.f k l0 l1 l2 l3 l4 c.f0 c.f1 c.f2 c.f3 c.f4) (clB l0.length l1.length c):=by
 obtain ⟨k0,st,a,b,n⟩:=c;refine Ev.succ (Ev.congr (f:=fun _=>some (clB l0.length l1.length ⟨k0,st,a,b,n⟩)) (fun k=>?_) (Ev.now _));simp only [r16_Clause.f,r16_Clause.j0,in_f,Option.bind_some,clB];(have hw:∀ lo hi:Int,wB n lo hi=(decide (lo ≤ n) && decide (n ≤ hi)):=fun _ _=>rfl);rw [hw,hw];generalize wB a 0 (↑l0.length - 1)=p1;generalize wB b 0 (↑l0.length - 1)=p2;generalize wB a 0 (↑l1.length - 1)=p3;by_cases h4:k0=4
 ·subst h4;by_cases hab:a=b <;> cases p1 <;> cases p2 <;> simp [hab]
 ·by_cases h5:k0=5
  ·subst h5;by_cases hab:a=b <;> cases p1 <;> cases p2 <;> simp [hab]
  ·by_cases h9:k0=9
   ·subst h9;cases p3 <;> cases p2 <;> simp
   ·by_cases h6:k0=6
    ·subst h6;by_cases hb:b=0 <;> by_cases hn:0 ≤ n <;> by_cases hm:n ≤ 1000 <;> cases p1 <;> simp [hb,hn,hm]
    ·by_cases h7:k0=7
     ·subst h7;by_cases hb:b=0 <;> by_cases hn:0 ≤ n <;> by_cases hm:n ≤ 1000 <;> cases p3 <;> simp [hb,hn,hm]
     ·by_cases h8:k0=8
      ·subst h8;by_cases hb:b=0 <;> by_cases hn : -1000 ≤ n <;> by_cases hm:n ≤ 0 <;> cases p3 <;> simp [hb,hn,hm]
      ·simp [h4,h5,h6,h7,h8,h9]
def srt (k:Int):Int:=if k=1 ∨ k=2 then 1 else if k=3 ∨ k=4 then 2 else if k=6 then 3 else 0
theorem sort_ev (k0:Int):Ev (fun k=>r16_Sort.f k k0) (srt k0):=by
 refine Ev.succ (Ev.succ (Ev.congr (f:=fun _=>some (srt k0)) (fun k=>?_) (Ev.now _)));simp only [r16_Sort.f,r16_Sort.j0,r16_Sort.j1,srt];by_cases h1:k0=1 <;> by_cases h2:k0=2 <;> by_cases h3:k0=3 <;> by_cases h4:k0=4 <;> by_cases h6:k0=6 <;> simp [h1,h2,h3,h4,h6]
theorem doB_kinds {ns nc nn:Nat} {d:Dg} (h:doB ns nc nn d=true):d.f0=1 ∨ d.f0=2 ∨ d.f0=3 ∨ d.f0=4 ∨ d.f0=6:=by
 unfold doB at h;by_cases h1:d.f0=1 ∨ d.f0=2
 ·omega
 ·by_cases h3:d.f0=3 ∨ d.f0=4
  ·omega
  ·by_cases h6:d.f0=6
   ·omega
   ·rw [if_neg h1,if_neg h3,if_neg h6] at h;cases h
theorem th_srt {ns nc nn:Nat} {d e:Dg} (h:doB ns nc nn d=true) (g:doB ns nc nn e=true):toTh d=toTh e ↔ srt e.f0=srt d.f0∧e.f1=d.f1:=by
 have h1:=doB_kinds h;have h2:=doB_kinds g;unfold toTh srt;rcases h1 with h1|h1|h1|h1|h1 <;> rcases h2 with h2|h2|h2|h2|h2 <;> simp [h1,h2] <;> exact eq_comm
theorem oper_ev (l0 l1 l2:List ByteArray) (l3:List Cl) (l4:List Op_) (nm:ByteArray) (l:List Dg) (hl:l.length ≤ 4000000000) :
  Ev (fun k=>r16_Oper.f k l0 l1 l2 l3 l4 nm l) (operOk l0.length l1.length l2.length l):=by
 unfold r16_Oper.f;have hw:operOk l0.length l1.length l2.length l=(operU l0.length l1.length l2.length ((l.take 0).map toTh).reverse (l.drop 0) && wB l.length 1 16):=by
  unfold operOk;rw [Bool.and_comm];rfl
 rw [hw];have main:∀ (m pos:Nat),pos + m=l.length → (∀ e ∈ l.take pos,doB l0.length l1.length l2.length e=true) →
   Ev (fun k=>r16_Oper.l0 k [0,(l0.length:Int),(l1.length:Int),(l2.length:Int)] (pos:Int) nm l) (operU l0.length l1.length l2.length ((l.take pos).map toTh).reverse (l.drop pos) && wB l.length 1 16):=by
  intro m;induction m with
  | zero =>
   intro pos hp _;refine Ev.succ ?_;simp only [r16_Oper.l0];refine Ev.no (by omega) ?_;rw [List.drop_eq_nil_of_le (by omega),operU,Bool.true_and];unfold wB;by_cases h1:(l.length:Int) ≥ 1
   ·refine Ev.yes h1 (Ev.is ?_);rw [decide_eq_true (by omega:(1:Int) ≤ l.length),Bool.true_and]
   ·refine Ev.no h1 (Ev.is ?_);rw [decide_eq_false (by omega:¬ (1:Int) ≤ l.length),Bool.false_and]
  | succ m ih =>
   intro pos hp hd;(have hlt:pos < l.length:=by omega);refine Ev.succ ?_;simp only [r16_Oper.l0];have hrd:rd_T94 l (pos:Int)=l.getD pos z94:=rdDg_at l pos;have ih':=ih (pos + 1) (by omega);rw [take_getD l z94 pos hlt] at ih';rw [hrd,drop_getD l z94 pos hlt];generalize l.getD pos z94=d at *;refine Ev.yes (by omega) (Ev.yes (by omega) (Ev.bind (sort_ev d.f0) ?_));(have hs:0 ≤ srt d.f0∧srt d.f0 < 4:=by unfold srt;split <;> (try split) <;> (try split) <;> omega);refine Ev.yes hs.1 (Ev.yes (by simpa using hs.2) ?_);have hj1:∀ b,b = !doB l0.length l1.length l2.length d → Ev (fun k=>r16_Oper.j1 k [0,(l0.length:Int),(l1.length:Int),(l2.length:Int)] (pos:Int) (srt d.f0) b nm l d.f0 d.f1 d.f2)
     (operU l0.length l1.length l2.length ((l.take pos).map toTh).reverse (d :: l.drop (pos + 1)) && wB l.length 1 16):=by
    rintro b rfl;refine Ev.succ ?_;simp only [r16_Oper.j1];rw [operU];cases hdo:doB l0.length l1.length l2.length d
    ·exact Ev.yes rfl (Ev.now _)
    ·refine Ev.no (by simp) ?_;rw [Bool.true_and];have ih2:=ih' (fun e he=>by
      rcases List.mem_append.1 he with h|h
      ·exact hd e h
      ·rw [List.mem_singleton.1 h];exact hdo)
     rw [List.map_append,List.reverse_append] at ih2;have hseen:((l.take pos).map toTh).reverse.contains (toTh d)=((l.take pos).drop 0).any (fun e=>decide (srt e.f0=srt d.f0∧e.f1=d.f1)):=by
      rw [List.drop_zero,Bool.eq_iff_iff,List.contains_iff_mem,List.mem_reverse,List.mem_map,List.any_eq_true];constructor
      ·rintro ⟨e,he,hq⟩;exact ⟨e,he,decide_eq_true ((th_srt hdo (hd e he)).1 hq.symm)⟩
      ·rintro ⟨e,he,hq⟩;exact ⟨e,he,((th_srt hdo (hd e he)).2 (of_decide_eq_true hq)).symm⟩
     rw [hseen];refine Ev.loop (g:=fun k j=>r16_Oper.l1 k [0,(l0.length:Int),(l1.length:Int),(l2.length:Int)] (pos:Int) (srt d.f0) (j:Int) nm l d.f0 d.f1 d.f2)
      (spec:=fun j=>(!((l.take pos).drop j).any (fun e=>decide (srt e.f0=srt d.f0∧e.f1=d.f1)) && operU l0.length l1.length l2.length (toTh d :: ((l.take pos).map toTh).reverse) (l.drop (pos + 1))) && wB l.length 1 16) pos ?_ ?_ 0 (by omega)
     ·refine Ev.succ ?_;simp only [r16_Oper.l1];rw [wrap_up pos (by omega)];refine Ev.no (by omega) ?_;rw [List.drop_eq_nil_of_le (by rw [List.length_take];omega)];exact ih2
     ·intro j hj ihj;refine Ev.succ ?_;simp only [r16_Oper.l1];(have hjt:j < (l.take pos).length:=by rw [List.length_take];omega);have hrj:rd_T94 l (j:Int)=(l.take pos).getD j z94:=by
       rw [rdDg_at];simp [List.getD_eq_getElem?_getD,List.getElem?_take,hj]
      rw [wrap_up j (by omega),hrj,drop_getD (l.take pos) z94 j hjt];generalize (l.take pos).getD j z94=e at *;refine Ev.yes (by omega) (Ev.yes (by omega) (Ev.yes (by omega) (Ev.bind (sort_ev e.f0) ?_)));rw [List.any_cons];by_cases hq:srt e.f0=srt d.f0
      ·refine Ev.yes hq ?_;by_cases hq2:e.f1=d.f1
       ·rw [decide_eq_true ⟨hq,hq2⟩];exact Ev.yes hq2 (Ev.now _)
       ·rw [decide_eq_false (fun x=>hq2 x.2),Bool.false_or];exact Ev.no hq2 ihj
      ·rw [decide_eq_false (fun x=>hq x.1),Bool.false_or];exact Ev.no hq ihj
   rw [show r16_in.f d.f1 (rd [0,(l0.length:Int),(l1.length:Int),(l2.length:Int)] (srt d.f0))=_ from in_f _ _];refine Ev.bind1 rfl ?_;(have hwB:∀ lo hi:Int,wB d.f2 lo hi=(decide (lo ≤ d.f2) && decide (d.f2 ≤ hi)):=fun _ _=>rfl);by_cases h1:d.f0=1 ∨ d.f0=2
   ·(have hsr:srt d.f0=1:=by unfold srt;rw [if_pos h1]);(have hdo:doB l0.length l1.length l2.length d=(wB d.f1 0 ((l0.length:Int) - 1) && d.f2 == 0):=by unfold doB;rw [if_pos h1]);rw [hsr] at hj1 ⊢;rw [show rd [0,(l0.length:Int),(l1.length:Int),(l2.length:Int)] 1=l0.length from rfl];cases hin:wB d.f1 0 ((l0.length:Int) - 1)
    ·exact Ev.no (by simp) (hj1 true (by rw [hdo,hin];rfl))
    ·exact Ev.yes rfl (Ev.no (by decide) (hj1 _ (by rw [hdo,hin];rfl)))
   ·by_cases h3:d.f0=3 ∨ d.f0=4
    ·(have hsr:srt d.f0=2:=by unfold srt;rw [if_neg h1,if_pos h3]);(have hdo:doB l0.length l1.length l2.length d=(wB d.f1 0 ((l1.length:Int) - 1) && wB d.f2 1 1000):=by unfold doB;rw [if_neg h1,if_pos h3]);rw [hsr] at hj1 ⊢;rw [show rd [0,(l0.length:Int),(l1.length:Int),(l2.length:Int)] 2=l1.length from rfl];cases hin:wB d.f1 0 ((l1.length:Int) - 1)
     ·exact Ev.no (by simp) (hj1 true (by rw [hdo,hin];rfl))
     ·refine Ev.yes rfl (Ev.yes rfl ?_);by_cases hlo:d.f2 < 1
      ·exact Ev.yes hlo (hj1 true (by rw [hdo,hin,hwB,decide_eq_false (by omega:¬ 1 ≤ d.f2)];rfl))
      ·refine Ev.no hlo ?_;by_cases hhi:d.f2 > 1000
       ·exact Ev.yes hhi (hj1 true (by rw [hdo,hin,hwB,decide_eq_false (by omega:¬ d.f2 ≤ 1000),Bool.and_false];rfl))
       ·exact Ev.no hhi (hj1 false (by rw [hdo,hin,hwB,decide_eq_true (by omega:d.f2 ≤ 1000),decide_eq_true (by omega:1 ≤ d.f2)];rfl))
    ·by_cases h6:d.f0=6
     ·(have hsr:srt d.f0=3:=by unfold srt;rw [if_neg h1,if_neg h3,if_pos h6]);(have hdo:doB l0.length l1.length l2.length d=(wB d.f1 0 ((l2.length:Int) - 1) && d.f2 == 0):=by unfold doB;rw [if_neg h1,if_neg h3,if_pos h6]);rw [hsr] at hj1 ⊢;rw [show rd [0,(l0.length:Int),(l1.length:Int),(l2.length:Int)] 3=l2.length from rfl];cases hin:wB d.f1 0 ((l2.length:Int) - 1)
      ·exact Ev.no (by simp) (hj1 true (by rw [hdo,hin];rfl))
      ·exact Ev.yes rfl (Ev.no (by decide) (hj1 _ (by rw [hdo,hin];rfl)))
     ·(have hsr:srt d.f0=0:=by unfold srt;rw [if_neg h1,if_neg h3,if_neg h6]);(have hdo:doB l0.length l1.length l2.length d=false:=by unfold doB;rw [if_neg h1,if_neg h3,if_neg h6]);rw [hsr] at hj1 ⊢;rw [show rd [0,(l0.length:Int),(l1.length:Int),(l2.length:Int)] 0=0 from rfl];have hin:wB d.f1 0 (0 - 1)=false:=by
       unfold wB;by_cases h0:0 ≤ d.f1
       ·rw [decide_eq_false (by omega:¬ d.f1 ≤ 0 - 1),Bool.and_false]
       ·rw [decide_eq_false h0,Bool.false_and]
      rw [hin];exact Ev.no (by simp) (hj1 true (by rw [hdo];rfl))
 exact main l.length 0 (by omega) (fun e he=>by simp at he)
theorem may_ev (l0 l1 l2:List ByteArray) (l3:List Cl) (l4:List Op_) (hs:∀ s ∈ namesL l0 l1 l2 l4,s.size ≤ maxLen) (hd:∀ o ∈ l4,o.f1.length ≤ 4000000000) :
  Ev (fun k=>r16_May.f k l0 l1 l2 l3 l4) (checkB l0 l1 l2 l3 l4):=by
 have hno:∀ b,b=true → checkB l0 l1 l2 l3 l4=false → Ev (fun k=>r16_May.j0 k b l0 l1 l2 l3 l4) (checkB l0 l1 l2 l3 l4):=by
  rintro b rfl h;refine Ev.succ ?_;simp only [r16_May.j0];rw [h];exact Ev.yes (by first|trivial|rfl) (Ev.now _)
 unfold r16_May.f;by_cases h0:6 < l0.length
 ·exact Ev.yes (by omega) (hno true rfl (by unfold checkB;rw [if_pos h0]))
 by_cases h1:4 < l1.length
 ·exact Ev.no (by omega) (Ev.yes (by omega) (hno true rfl (by unfold checkB;rw [if_neg h0,if_pos h1])))
 by_cases h2:3 < l2.length
 ·exact Ev.no (by omega) (Ev.no (by omega) (Ev.yes (by omega) (hno true rfl (by unfold checkB;rw [if_neg h0,if_neg h1,if_pos h2]))))
 by_cases h4:16 < l4.length
 ·exact Ev.no (by omega) (Ev.no (by omega) (Ev.no (by omega) (Ev.yes (by omega) (hno true rfl (by unfold checkB;rw [if_neg h0,if_neg h1,if_neg h2,if_pos h4])))))
 by_cases h3:12 < l3.length
 ·exact Ev.no (by omega) (Ev.no (by omega) (Ev.no (by omega) (Ev.no (by omega) (Ev.yes (by omega) (hno true rfl (by unfold checkB;rw [if_neg h0,if_neg h1,if_neg h2,if_neg h4,if_pos h3]))))))
 refine Ev.no (by omega) (Ev.no (by omega) (Ev.no (by omega) (Ev.no (by omega) (Ev.no (by omega) ?_))));have hcb:=checkB_at (l3:=l3) h0 h1 h2 h4 h3;(have hnl:(namesL l0 l1 l2 l4).length ≤ 4000000000:=by unfold namesL;simp;omega);refine Ev.bind (all_ev l0 l1 l2 l3 l4 (by omega) (by omega) (by omega) (by omega)) (Ev.bind (unlike_ev _ hnl hs) ?_);cases hn:namedOk (namesL l0 l1 l2 l4)
 ·exact Ev.no (by decide) (hno true rfl (by rw [hcb,hn,Bool.false_and]))
 refine Ev.yes rfl (Ev.bind (floors_ev l3 (by omega)) ?_);cases hf:leastOk l3
 ·exact hno _ rfl (by rw [hcb,hn,hf,Bool.false_and,Bool.and_false])
 refine Ev.succ ?_;simp only [r16_May.j0];refine Ev.no (by decide) ?_;rw [hcb,hn,hf,Bool.true_and,Bool.true_and];have hop:Ev (fun k=>r16_May.l1 k 0 l0 l1 l2 l3 l4) (!l4.any (fun x=>!operOk l0.length l1.length l2.length x.f1)):=by
  refine Ev.loop (g:=fun k pos=>r16_May.l1 k (pos:Int) l0 l1 l2 l3 l4) (spec:=fun pos=>!(l4.drop pos).any (fun x=>!operOk l0.length l1.length l2.length x.f1)) l4.length ?_ ?_ 0 (by omega)
  ·refine Ev.succ ?_;simp only [r16_May.l1];rw [List.drop_length];exact Ev.no (by omega) (Ev.now _)
  ·intro pos hp ih;refine Ev.succ ?_;simp only [r16_May.l1,rdOp_at];have hm:=getD_mem l4 z89 pos hp;rw [wrap_up pos (by omega),drop_getD l4 z89 pos hp,List.any_cons];generalize l4.getD pos z89=o at *;refine Ev.yes (by omega) (Ev.yes (by omega) (Ev.bind (oper_ev l0 l1 l2 l3 l4 o.f0 o.f1 (hd o hm)) ?_));cases operOk l0.length l1.length l2.length o.f1
   ·exact Ev.no (by decide) (Ev.now _)
   ·exact Ev.yes rfl ih
 refine Ev.loop (g:=fun k pos=>r16_May.l0 k (pos:Int) l0 l1 l2 l3 l4) (spec:=fun pos=>!(l3.drop pos).any (fun x=>!clB l0.length l1.length x) && !l4.any (fun x=>!operOk l0.length l1.length l2.length x.f1)) l3.length ?_ ?_ 0 (by omega)
 ·refine Ev.succ ?_;simp only [r16_May.l0];rw [List.drop_length];exact Ev.no (by omega) hop
 ·intro pos hp ih;refine Ev.succ ?_;simp only [r16_May.l0,rdCl_at];rw [wrap_up pos (by omega),drop_getD l3 z85 pos hp,List.any_cons];generalize l3.getD pos z85=c at *;refine Ev.yes (by omega) (Ev.yes (by omega) (Ev.bind (clause_ev l0 l1 l2 l3 l4 c) ?_));cases clB l0.length l1.length c
  ·exact Ev.no (by decide) (Ev.now _)
  ·exact Ev.yes rfl ih
def lightB (l0 l1 l2:List ByteArray) (l3:List Cl) (l4:List Op_):Bool :=
 if 20 < l0.length then false else if 20 < l1.length then false else if 20 < l2.length then false else if 30 < l3.length then false else if 30 < l4.length then false
 else (namesL l0 l1 l2 l4).all (fun s=>decide (s.size ≤ 100)) && l4.all (fun o=>decide (o.f1.length ≤ 20))
theorem lightB_ok {l0 l1 l2:List ByteArray} {l3:List Cl} {l4:List Op_} (h:lightB l0 l1 l2 l3 l4=true) :
  l0.length ≤ 20∧l1.length ≤ 20∧l2.length ≤ 20∧l3.length ≤ 30∧l4.length ≤ 30∧(∀ s ∈ namesL l0 l1 l2 l4,s.size ≤ 100)∧∀ o ∈ l4,o.f1.length ≤ 20:=by
 unfold lightB at h;(split at h;· cases h);(split at h;· cases h);(split at h;· cases h);(split at h;· cases h);(split at h;· cases h);rw [Bool.and_eq_true,List.all_eq_true,List.all_eq_true] at h;exact ⟨by omega,by omega,by omega,by omega,by omega,fun s hs=>of_decide_eq_true (h.1 s hs),fun o ho=>of_decide_eq_true (h.2 o ho)⟩
theorem light_ev (l0 l1 l2:List ByteArray) (l3:List Cl) (l4:List Op_):Ev (fun k=>q16_Light.f k l0 l1 l2 l3 l4) (lightB l0 l1 l2 l3 l4):=by
 have hno:∀ b,b=true → lightB l0 l1 l2 l3 l4=false → Ev (fun k=>q16_Light.j0 k b l0 l1 l2 l3 l4) (lightB l0 l1 l2 l3 l4):=by
  rintro b rfl h;refine Ev.succ ?_;simp only [q16_Light.j0];rw [h];exact Ev.yes (by first|trivial|rfl) (Ev.now _)
 unfold q16_Light.f;by_cases h0:20 < l0.length
 ·exact Ev.yes (by omega) (hno true rfl (by unfold lightB;rw [if_pos h0]))
 by_cases h1:20 < l1.length
 ·exact Ev.no (by omega) (Ev.yes (by omega) (hno true rfl (by unfold lightB;rw [if_neg h0,if_pos h1])))
 by_cases h2:20 < l2.length
 ·exact Ev.no (by omega) (Ev.no (by omega) (Ev.yes (by omega) (hno true rfl (by unfold lightB;rw [if_neg h0,if_neg h1,if_pos h2]))))
 by_cases h3:30 < l3.length
 ·exact Ev.no (by omega) (Ev.no (by omega) (Ev.no (by omega) (Ev.yes (by omega) (hno true rfl (by unfold lightB;rw [if_neg h0,if_neg h1,if_neg h2,if_pos h3])))))
 refine Ev.no (by omega) (Ev.no (by omega) (Ev.no (by omega) (Ev.no (by omega) ?_)));by_cases h4:30 < l4.length
 ·exact hno _ (decide_eq_true (by omega)) (by unfold lightB;rw [if_neg h0,if_neg h1,if_neg h2,if_neg h3,if_pos h4])
 rw [decide_eq_false (by omega:¬ (l4.length:Int) > 30)];refine Ev.succ ?_;simp only [q16_Light.j0];refine Ev.no (by decide) (Ev.bind (all_ev l0 l1 l2 l3 l4 (by omega) (by omega) (by omega) (by omega)) ?_);(have hu:lightB l0 l1 l2 l3 l4=((namesL l0 l1 l2 l4).all (fun s=>decide (s.size ≤ 100)) && l4.all (fun o=>decide (o.f1.length ≤ 20))):=by unfold lightB;rw [if_neg h0,if_neg h1,if_neg h2,if_neg h3,if_neg h4]);(have hnl:(namesL l0 l1 l2 l4).length ≤ 4000000000:=by unfold namesL;simp;omega);rw [hu];generalize namesL l0 l1 l2 l4=nl at *;have hop:Ev (fun k=>q16_Light.l1 k 0 l0 l1 l2 l3 l4) (l4.all (fun o=>decide (o.f1.length ≤ 20))):=by
  refine Ev.loop (g:=fun k pos=>q16_Light.l1 k (pos:Int) l0 l1 l2 l3 l4) (spec:=fun pos=>(l4.drop pos).all (fun o=>decide (o.f1.length ≤ 20))) l4.length ?_ ?_ 0 (by omega)
  ·refine Ev.succ ?_;simp only [q16_Light.l1];rw [List.drop_length];exact Ev.no (by omega) (Ev.now _)
  ·intro pos hp ih;refine Ev.succ ?_;simp only [q16_Light.l1,rdOp_at];rw [wrap_up pos (by omega),drop_getD l4 z89 pos hp,List.all_cons];generalize l4.getD pos z89=o at *;refine Ev.yes (by omega) (Ev.yes (by omega) ?_);by_cases hq:o.f1.length ≤ 20
   ·rw [decide_eq_true hq,Bool.true_and];exact Ev.no (by omega) ih
   ·rw [decide_eq_false hq];exact Ev.yes (by omega) (Ev.now _)
 refine Ev.loop (g:=fun k pos=>q16_Light.l0 k nl (pos:Int) l0 l1 l2 l3 l4) (spec:=fun pos=>(nl.drop pos).all (fun s=>decide (s.size ≤ 100)) && l4.all (fun o=>decide (o.f1.length ≤ 20))) nl.length ?_ ?_ 0 (by omega)
 ·refine Ev.succ ?_;simp only [q16_Light.l0];rw [List.drop_length];exact Ev.no (by omega) hop
 ·intro pos hp ih;refine Ev.succ ?_;simp only [q16_Light.l0,rdOf_at];rw [wrap_up pos (by omega),drop_getD nl ByteArray.empty pos hp,List.all_cons];generalize nl.getD pos ByteArray.empty=s at *;refine Ev.yes (by omega) (Ev.yes (by omega) ?_);by_cases hq:s.size ≤ 100
  ·rw [decide_eq_true hq,Bool.true_and];exact Ev.no (by omega) ih
  ·rw [decide_eq_false hq];exact Ev.yes (by omega) (Ev.now _)
end Go.Proofs.YtjbjbeihkoeciaaGreat.X
namespace Go.Proofs.YtjbjbeihkoeciaaGreat.X
open Go.RowKit Go.Proofs.YtjbjbeihkoeciaaGreatW.PrintWords Go.Proofs.YtjbjbeihkoeciaaGreatW.PrintLast Go.Proofs.YtjbjbeihkoeciaaGreatW.PrintMore
attribute [local go_sem] max2_int min2_int max_two min_two max_three min_three max_four min_four
def eval_right.f (a0:ByteArray):Option (Bool):=if a0.toList=([]:List UInt8) then (some false) else (some (decide ((a0.size:Int) ≤ 32)))
set_option maxHeartbeats 8000000 in
set_option maxRecDepth 100000 in
theorem eval_right.calls (a0:ByteArray) (r:Bool) (w:World) (h:eval_right.f a0=some r) :
  Calls Tryz.prog 178 #[.string a0] w fun e w'=>e = .returned (.bool r)∧Drawn0 w w':=by
 have H:=h;clear h;unfold eval_right.f at H;by_cases c2:a0.toList=([]:List UInt8)
 ·rw [if_pos c2] at H;obtain ⟨c2b0,c2b1⟩:=bT c2;clear c2;obtain rfl:=sI H;go_enter Tryz.func178,Tryz.ntmps178;go_wp2;go_ret;exact ⟨by first|rfl|(simp;done)|(simp [*];done),tR⟩
 ·rw [if_neg c2] at H;obtain ⟨c2b0,c2b1⟩:=bN c2;obtain rfl:=sI H;go_enter Tryz.func178,Tryz.ntmps178;go_wp2;go_ret;exact ⟨by first|rfl|(simp;done)|(simp [*];done),tR⟩
def eval_set.l0:Nat → List ByteArray → List ByteArray → Int → Int → Option (Bool)
 | 0,_,_,_,_=>none
 | k + 1,x0,x5,x6,x7=>if x7 < x6 then (if 0 ≤ x7 then (if x7 < (x5.length:Int) then ((eval_right.f (rdOf ByteArray.empty x5 x7)).bind fun t413=>(if t413=true then (if x7 > 0 then (if 0 ≤ (wrap64 (x7 - 1)) then (if (wrap64 (x7 - 1)) < (x0.length:Int) then (if ((Op.bytesLess ((rdOf ByteArray.empty x0 (wrap64 (x7 - 1))).toList) ((rdOf ByteArray.empty x5 x7).toList))=true) then (eval_set.l0 k x0 x5 x6 (wrap64 (x7 + 1))) else (some false)) else (none)) else (none)) else (eval_set.l0 k x0 x5 x6 (wrap64 (x7 + 1)))) else (some false))) else (none)) else (none)) else (some (decide ((x0.length:Int) ≤ 4000)))
def eval_set.f (k:Nat) (l0:List ByteArray):Option (Bool):=eval_set.l0 k l0 l0 (l0.length:Int) 0
set_option maxHeartbeats 8000000 in
set_option maxRecDepth 100000 in
theorem eval_set.calls (k:Nat) (A0:Option Addr) (c0:Nat) (l0:List ByteArray) (r:Bool) (w:World) (hr0:Kd.C Kd.string w A0 l0.length l0) (hc0:l0.length ≤ c0) (h:eval_set.f k l0=some r) :
  Calls Tryz.prog 164 #[.slice A0 l0.length c0] w fun e w'=>e = .returned (.bool r)∧Drawn0 w w':=by
 have HR0:=Sd.mk hr0;have HC0:=Sd.mk hc0;clear hr0 hc0;have H:=h;clear h;unfold eval_set.f at H;have H':=Sd.mk H;clear H;go_enter Tryz.func164,Tryz.ntmps164;go_wp2;go_loopg [7] k (fun kq v7 w'=>∃ (x7_1:Int),v7 = .int .i64 x7_1∧Sd (eval_set.l0 kq l0 l0 (l0.length:Int) x7_1=some r)∧Sd (kq ≤ k)∧Drawn0 w w')
 case atStart=>exact ⟨(0),tSS,H',⟨Nat.le_refl _⟩,tR⟩
 case round =>
  clear H';(try clear c1);obtain ⟨x7_1,rfl,HA,HK1,⟨m1,rfl⟩⟩:=hrel;cases gk with
  | zero=>exact absurd HA.out (by simp [eval_set.l0])
  | succ k1 =>
   have H:=HA.out;clear HA;simp only [eval_set.l0] at H;by_cases c2:x7_1 < (l0.length:Int)
   ·rw [if_pos c2] at H;have c2b0:=dTr c2;clear c2;by_cases c3:0 ≤ x7_1
    ·rw [if_pos c3] at H;have c3b0:=dTr c3;clear c3;by_cases c4:x7_1 < (l0.length:Int)
     ·rw [if_pos c4] at H;have c4b0:=dTr c4;clear c4;obtain ⟨t413,A5,H⟩:=oB H;by_cases c6:t413=true
      ·subst c6;replace H:=iT H;by_cases c7:x7_1 > 0
       ·rw [if_pos c7] at H;have c7b0:=dTr c7;clear c7;obtain ⟨ji8,hji8⟩:∃ j_:Int,(wrap64 (x7_1 - 1))=j_:=⟨_,rfl⟩;(replace H:(if 0 ≤ (ji8) then (if (ji8) < (l0.length:Int) then (if ((Op.bytesLess ((rdOf ByteArray.empty l0 (ji8)).toList) ((rdOf ByteArray.empty l0 x7_1).toList))=true) then (eval_set.l0 k1 l0 l0 (l0.length:Int) (wrap64 (x7_1 + 1))) else (some false)) else (none)) else (none))=some r:=by first|(rw [hji8] at H;exact H)|(simp only [hji8] at H ⊢;exact H));(try rw [hji8] at A5);have hji8w:(IntKind.i64.wrap (x7_1 - 1))=ji8:=(i64_w _).trans hji8;by_cases c9:0 ≤ (ji8)
        ·rw [if_pos c9] at H;have c9b0:=dTr c9;clear c9;by_cases c10:(ji8) < (l0.length:Int)
         ·rw [if_pos c10] at H;have c10b0:=dTr c10;clear c10;by_cases c11:((Op.bytesLess ((rdOf ByteArray.empty l0 (ji8)).toList) ((rdOf ByteArray.empty l0 x7_1).toList))=true)
          ·rw [if_pos c11] at H;have c11b0:(Op.bytesLess ((rdOf ByteArray.empty l0 (ji8)).toList) ((rdOf ByteArray.empty l0 x7_1).toList))=true:=c11;clear c11;have H':=Sd.mk H;clear H;have p412:0 ≤ (x7_1:Int):=tD;have q412:x7_1 < (l0.length:Int):=tD;obtain ⟨ad412,e412,hx412_0⟩:=Kd.at_string HR0.out x7_1 p412 q412;cases e412;replace p412:=eq_true p412;replace q412:=eq_true q412;go_wp2_with (first|((with_reducible refine gate_callee (f:=178) rfl ?_);refine gL Tryz.func178 (some 13) #[.string (rdOf ByteArray.empty l0 x7_1)] ?_;(with_reducible refine (eval_right.calls (rdOf ByteArray.empty l0 x7_1) true _ A5.out).mono ?_);rintro e w' ⟨rfl,⟨nd,rfl⟩⟩;refine ⟨_,rfl,?_⟩;have p414:0 ≤ ((ji8):Int):=tD;have q414:(ji8) < (l0.length:Int):=tD;obtain ⟨ad414,e414,hx414_0⟩:=Kd.at_string HR0.out (ji8) p414 q414;obtain rfl:ad412=ad414:=(by injection e414);replace p414:=eq_true p414;replace q414:=eq_true q414));go_roundg k1
           case measure=>have:=HK1.out;omega
           case rel=>exact ⟨(wrap64 (x7_1 + 1)),tSS,H',⟨by have:=HK1.out;omega⟩,tR⟩
          ·rw [if_neg c11] at H;(have c11b0:(Op.bytesLess ((rdOf ByteArray.empty l0 (ji8)).toList) ((rdOf ByteArray.empty l0 x7_1).toList))=false:=by simpa using c11);clear c11;obtain rfl:=sI H;have p412:0 ≤ (x7_1:Int):=tD;have q412:x7_1 < (l0.length:Int):=tD;obtain ⟨ad412,e412,hx412_0⟩:=Kd.at_string HR0.out x7_1 p412 q412;cases e412;replace p412:=eq_true p412;replace q412:=eq_true q412;go_wp2_with (first|((with_reducible refine gate_callee (f:=178) rfl ?_);refine gL Tryz.func178 (some 13) #[.string (rdOf ByteArray.empty l0 x7_1)] ?_;(with_reducible refine (eval_right.calls (rdOf ByteArray.empty l0 x7_1) true _ A5.out).mono ?_);rintro e w' ⟨rfl,⟨nd,rfl⟩⟩;refine ⟨_,rfl,?_⟩;have p414:0 ≤ ((ji8):Int):=tD;have q414:(ji8) < (l0.length:Int):=tD;obtain ⟨ad414,e414,hx414_0⟩:=Kd.at_string HR0.out (ji8) p414 q414;obtain rfl:ad412=ad414:=(by injection e414);replace p414:=eq_true p414;replace q414:=eq_true q414));go_ret;exact ⟨by first|rfl|(simp;done)|(simp only [← hji8] <;> (first|rfl|simp))|(simp [*];done),tR⟩
         ·rw [if_neg c10] at H;exact absurd H (by simp)
        ·rw [if_neg c9] at H;exact absurd H (by simp)
       ·rw [if_neg c7] at H;have c7b0:=dFa c7;clear c7;have H':=Sd.mk H;clear H;have p412:0 ≤ (x7_1:Int):=tD;have q412:x7_1 < (l0.length:Int):=tD;obtain ⟨ad412,e412,hx412_0⟩:=Kd.at_string HR0.out x7_1 p412 q412;cases e412;replace p412:=eq_true p412;replace q412:=eq_true q412;go_wp2_with (first|((with_reducible refine gate_callee (f:=178) rfl ?_);refine gL Tryz.func178 (some 13) #[.string (rdOf ByteArray.empty l0 x7_1)] ?_;(with_reducible refine (eval_right.calls (rdOf ByteArray.empty l0 x7_1) true _ A5.out).mono ?_);rintro e w' ⟨rfl,⟨nd,rfl⟩⟩;refine ⟨_,rfl,?_⟩));go_roundg k1
        case measure=>have:=HK1.out;omega
        case rel=>exact ⟨(wrap64 (x7_1 + 1)),tSS,H',⟨by have:=HK1.out;omega⟩,tR⟩
      ·replace c6:=Bool.eq_false_iff.mpr c6;subst c6;replace H:=iF H;obtain rfl:=sI H;have p412:0 ≤ (x7_1:Int):=tD;have q412:x7_1 < (l0.length:Int):=tD;obtain ⟨ad412,e412,hx412_0⟩:=Kd.at_string HR0.out x7_1 p412 q412;cases e412;replace p412:=eq_true p412;replace q412:=eq_true q412;go_wp2_with (first|((with_reducible refine gate_callee (f:=178) rfl ?_);refine gL Tryz.func178 (some 13) #[.string (rdOf ByteArray.empty l0 x7_1)] ?_;(with_reducible refine (eval_right.calls (rdOf ByteArray.empty l0 x7_1) false _ A5.out).mono ?_);rintro e w' ⟨rfl,⟨nd,rfl⟩⟩;refine ⟨_,rfl,?_⟩));go_ret;exact ⟨by first|rfl|(simp;done)|(simp [*];done),tR⟩
     ·rw [if_neg c4] at H;exact absurd H (by simp)
    ·rw [if_neg c3] at H;exact absurd H (by simp)
   ·rw [if_neg c2] at H;have c2b0:=dFa c2;clear c2;obtain rfl:=sI H;go_wp2;go_ret;exact ⟨by first|rfl|(simp;done)|(simp [*];done),tR⟩
def cmp_isNaN_string.f (a0:ByteArray):Option (Bool):=some (a0.toList != a0.toList)
set_option maxHeartbeats 8000000 in
set_option maxRecDepth 100000 in
theorem cmp_isNaN_string.calls (a0:ByteArray) (r:Bool) (w:World) (h:cmp_isNaN_string.f a0=some r) :
  Calls Tryz.prog 183 #[.string a0] w fun e w'=>e = .returned (.bool r)∧Drawn0 w w':=by
 have H:=h;clear h;unfold cmp_isNaN_string.f at H;obtain rfl:=sI H;go_enter Tryz.func183,Tryz.ntmps183;go_wp2;go_ret;exact ⟨by first|rfl|(simp;done)|(simp [*];done),tR⟩
def cmp_Less_string.f (a0:ByteArray) (a1:ByteArray):Option (Bool):=(cmp_isNaN_string.f a0).bind fun t509=>(if t509=true then ((cmp_isNaN_string.f a1).bind fun t510=>(if t510=true then (some (Op.bytesLess a0.toList a1.toList)) else (some true))) else (some (Op.bytesLess a0.toList a1.toList)))
set_option maxHeartbeats 8000000 in
set_option maxRecDepth 100000 in
theorem cmp_Less_string.calls (a0:ByteArray) (a1:ByteArray) (r:Bool) (w:World) (h:cmp_Less_string.f a0 a1=some r) :
  Calls Tryz.prog 180 #[.string a0,.string a1] w fun e w'=>e = .returned (.bool r)∧Drawn0 w w':=by
 have H:=h;clear h;unfold cmp_Less_string.f at H;obtain ⟨t509,A3,H⟩:=oB H;by_cases c4:t509=true
 ·subst c4;replace H:=iT H;obtain ⟨t510,A5,H⟩:=oB H;by_cases c6:t510=true
  ·subst c6;replace H:=iT H;obtain rfl:=sI H;go_enter Tryz.func180,Tryz.ntmps180;go_wp2_with (first|((with_reducible refine gate_callee (f:=183) rfl ?_);refine gL Tryz.func183 (some 6) #[.string a0] ?_;(with_reducible refine (cmp_isNaN_string.calls a0 true _ A3.out).mono ?_);rintro e w' ⟨rfl,⟨nd,rfl⟩⟩;refine ⟨_,rfl,?_⟩)|(go_at_call 183;(with_reducible refine (cmp_isNaN_string.calls a1 true _ A5.out).mono ?_);rintro e w' ⟨rfl,⟨nd,rfl⟩⟩));go_ret;exact ⟨by first|rfl|(simp;done)|(simp [*];done),tR⟩
  ·replace c6:=Bool.eq_false_iff.mpr c6;subst c6;replace H:=iF H;obtain rfl:=sI H;go_enter Tryz.func180,Tryz.ntmps180;go_wp2_with (first|((with_reducible refine gate_callee (f:=183) rfl ?_);refine gL Tryz.func183 (some 6) #[.string a0] ?_;(with_reducible refine (cmp_isNaN_string.calls a0 true _ A3.out).mono ?_);rintro e w' ⟨rfl,⟨nd,rfl⟩⟩;refine ⟨_,rfl,?_⟩)|(go_at_call 183;(with_reducible refine (cmp_isNaN_string.calls a1 false _ A5.out).mono ?_);rintro e w' ⟨rfl,⟨nd,rfl⟩⟩));go_ret;exact ⟨by first|rfl|(simp;done)|(simp [*];done),tR⟩
 ·replace c4:=Bool.eq_false_iff.mpr c4;subst c4;replace H:=iF H;obtain rfl:=sI H;go_enter Tryz.func180,Tryz.ntmps180;go_wp2_with (first|((with_reducible refine gate_callee (f:=183) rfl ?_);refine gL Tryz.func183 (some 6) #[.string a0] ?_;(with_reducible refine (cmp_isNaN_string.calls a0 false _ A3.out).mono ?_);rintro e w' ⟨rfl,⟨nd,rfl⟩⟩;refine ⟨_,rfl,?_⟩));go_ret;exact ⟨by first|rfl|(simp;done)|(simp [*];done),tR⟩
def slices_isNaN_string.f (a0:ByteArray):Option (Bool):=some (a0.toList != a0.toList)
set_option maxHeartbeats 8000000 in
set_option maxRecDepth 100000 in
theorem slices_isNaN_string.calls (a0:ByteArray) (r:Bool) (w:World) (h:slices_isNaN_string.f a0=some r) :
  Calls Tryz.prog 181 #[.string a0] w fun e w'=>e = .returned (.bool r)∧Drawn0 w w':=by
 have H:=h;clear h;unfold slices_isNaN_string.f at H;obtain rfl:=sI H;go_enter Tryz.func181,Tryz.ntmps181;go_wp2;go_ret;exact ⟨by first|rfl|(simp;done)|(simp [*];done),tR⟩
def slices_BinarySearch_string.l0:Nat → List ByteArray → ByteArray → Int → Int → Int → Option (Int × Bool)
 | 0,_,_,_,_,_=>none
 | k + 1,x0,x1,x6,x7,x8=>if x7 < x8 then (if 0 ≤ (wrap64 ((IntKind.u64.wrap (wrap64 (x7 + x8))) / 2)) then (if (wrap64 ((IntKind.u64.wrap (wrap64 (x7 + x8))) / 2)) < (x0.length:Int) then ((cmp_Less_string.f (rdOf ByteArray.empty x0 (wrap64 ((IntKind.u64.wrap (wrap64 (x7 + x8))) / 2))) x1).bind fun t512=>(if t512=true then (slices_BinarySearch_string.l0 k x0 x1 x6 (wrap64 ((wrap64 ((IntKind.u64.wrap (wrap64 (x7 + x8))) / 2)) + 1)) x8) else (slices_BinarySearch_string.l0 k x0 x1 x6 x7 (wrap64 ((IntKind.u64.wrap (wrap64 (x7 + x8))) / 2))))) else (none)) else (none)) else (if x7 < x6 then (if 0 ≤ x7 then (if x7 < (x0.length:Int) then (if (rdOf ByteArray.empty x0 x7).toList=x1.toList then (some (x7,true)) else ((slices_isNaN_string.f (rdOf ByteArray.empty x0 x7)).bind fun t515=>(if t515=true then ((slices_isNaN_string.f x1).bind fun t516=>(some (x7,t516))) else (some (x7,false))))) else (none)) else (none)) else (some (x7,false)))
def slices_BinarySearch_string.f (k:Nat) (l0:List ByteArray) (a1:ByteArray):Option (Int × Bool):=slices_BinarySearch_string.l0 k l0 a1 (l0.length:Int) 0 (l0.length:Int)
set_option maxHeartbeats 8000000 in
set_option maxRecDepth 100000 in
theorem slices_BinarySearch_string.calls (k:Nat) (A0:Option Addr) (c0:Nat) (l0:List ByteArray) (a1:ByteArray) (r1:Int) (r2:Bool) (w:World) (hr0:Kd.C Kd.string w A0 l0.length l0) (hc0:l0.length ≤ c0) (h:slices_BinarySearch_string.f k l0 a1=some (r1,r2)) :
  Calls Tryz.prog 169 #[.slice A0 l0.length c0,.string a1] w fun e w'=>e = .returned (.tuple #[.int .i64 r1,.bool r2])∧Drawn0 w w':=by
 have HR0:=Sd.mk hr0;have HC0:=Sd.mk hc0;clear hr0 hc0;have H:=h;clear h;unfold slices_BinarySearch_string.f at H;have H':=Sd.mk H;clear H;go_enter Tryz.func169,Tryz.ntmps169;go_wp2;go_loopg [7,8] k (fun kq v7 v8 w'=>∃ (x7_1:Int) (x8_1:Int),v7 = .int .i64 x7_1∧v8 = .int .i64 x8_1∧Sd (slices_BinarySearch_string.l0 kq l0 a1 (l0.length:Int) x7_1 x8_1=some (r1,r2))∧Sd (kq ≤ k)∧Drawn0 w w')
 case atStart=>exact ⟨(0),((l0.length:Int)),tSS,tSS,H',⟨Nat.le_refl _⟩,tR⟩
 case round =>
  clear H';(try clear c1);(try clear p2);obtain ⟨x7_1,x8_1,rfl,rfl,HA,HK1,⟨m1,rfl⟩⟩:=hrel;cases gk with
  | zero=>exact absurd HA.out (by simp [slices_BinarySearch_string.l0])
  | succ k1 =>
   have H:=HA.out;clear HA;simp only [slices_BinarySearch_string.l0] at H;by_cases c3:x7_1 < x8_1
   ·rw [if_pos c3] at H;have c3b0:=dTr c3;clear c3;obtain ⟨ji4,hji4⟩:∃ j_:Int,(wrap64 ((IntKind.u64.wrap (wrap64 (x7_1 + x8_1))) / 2))=j_:=⟨_,rfl⟩;(replace H:(if 0 ≤ (ji4) then (if (ji4) < (l0.length:Int) then ((cmp_Less_string.f (rdOf ByteArray.empty l0 (ji4)) a1).bind fun t512=>(if t512=true then (slices_BinarySearch_string.l0 k1 l0 a1 (l0.length:Int) (wrap64 ((ji4) + 1)) x8_1) else (slices_BinarySearch_string.l0 k1 l0 a1 (l0.length:Int) x7_1 ji4))) else (none)) else (none))=some (r1,r2):=by first|(rw [hji4] at H;exact H)|(simp only [hji4] at H ⊢;exact H));have hji4w:(IntKind.i64.wrap ((IntKind.u64.wrap (wrap64 (x7_1 + x8_1))) / 2))=ji4:=(i64_w _).trans hji4;by_cases c5:0 ≤ (ji4)
    ·rw [if_pos c5] at H;have c5b0:=dTr c5;clear c5;by_cases c6:(ji4) < (l0.length:Int)
     ·rw [if_pos c6] at H;have c6b0:=dTr c6;clear c6;obtain ⟨t512,A7,H⟩:=oB H;by_cases c8:t512=true
      ·subst c8;replace H:=iT H;have H':=Sd.mk H;clear H;have p511:0 ≤ ((ji4):Int):=tD;have q511:(ji4) < (l0.length:Int):=tD;obtain ⟨ad511,e511,hx511_0⟩:=Kd.at_string HR0.out (ji4) p511 q511;cases e511;replace p511:=eq_true p511;replace q511:=eq_true q511;go_wp2_with (first|((with_reducible refine gate_callee (f:=180) rfl ?_);refine goesL_ (some 27) rfl rfl Tryz.func180 (by kernel_rfl) rfl #[.string (rdOf ByteArray.empty l0 (ji4)),.string a1] rfl (by (try simp only [List.map_toArray,List.map_cons,List.map_nil]);first|done|(simp only [hji4];rfl)|rfl|(simp only [List.length_drop,List.length_take];rfl)) ?_;(with_reducible refine (cmp_Less_string.calls (rdOf ByteArray.empty l0 (ji4)) a1 true _ A7.out).mono ?_);rintro e w' ⟨rfl,⟨nd,rfl⟩⟩;refine ⟨_,rfl,?_⟩));go_roundg k1
       case measure=>have:=HK1.out;omega
       case rel=>exact ⟨(wrap64 ((ji4) + 1)),(x8_1),(by first|rfl|(simp;done)|(simp only [← hji4] <;> (first|rfl|simp))|(simp [*];done)),tSS,H',⟨by have:=HK1.out;omega⟩,tR⟩
      ·replace c8:=Bool.eq_false_iff.mpr c8;subst c8;replace H:=iF H;have H':=Sd.mk H;clear H;have p511:0 ≤ ((ji4):Int):=tD;have q511:(ji4) < (l0.length:Int):=tD;obtain ⟨ad511,e511,hx511_0⟩:=Kd.at_string HR0.out (ji4) p511 q511;cases e511;replace p511:=eq_true p511;replace q511:=eq_true q511;go_wp2_with (first|((with_reducible refine gate_callee (f:=180) rfl ?_);refine goesL_ (some 27) rfl rfl Tryz.func180 (by kernel_rfl) rfl #[.string (rdOf ByteArray.empty l0 (ji4)),.string a1] rfl (by (try simp only [List.map_toArray,List.map_cons,List.map_nil]);first|done|(simp only [hji4];rfl)|rfl|(simp only [List.length_drop,List.length_take];rfl)) ?_;(with_reducible refine (cmp_Less_string.calls (rdOf ByteArray.empty l0 (ji4)) a1 false _ A7.out).mono ?_);rintro e w' ⟨rfl,⟨nd,rfl⟩⟩;refine ⟨_,rfl,?_⟩));go_roundg k1
       case measure=>have:=HK1.out;omega
       case rel=>exact ⟨(x7_1),(ji4),tSS,(by first|rfl|(simp;done)|(simp only [← hji4] <;> (first|rfl|simp))|(simp [*];done)),H',⟨by have:=HK1.out;omega⟩,tR⟩
     ·rw [if_neg c6] at H;exact absurd H (by simp)
    ·rw [if_neg c5] at H;exact absurd H (by simp)
   ·rw [if_neg c3] at H;have c3b0:=dFa c3;clear c3;by_cases c9:x7_1 < (l0.length:Int)
    ·rw [if_pos c9] at H;have c9b0:=dTr c9;clear c9;by_cases c10:0 ≤ x7_1
     ·rw [if_pos c10] at H;have c10b0:=dTr c10;clear c10;by_cases c11:x7_1 < (l0.length:Int)
      ·rw [if_pos c11] at H;have c11b0:=dTr c11;clear c11;by_cases c12:(rdOf ByteArray.empty l0 x7_1).toList=a1.toList
       ·rw [if_pos c12] at H;obtain ⟨c12b0,c12b1⟩:=bT c12;clear c12;simp only [Option.some.injEq,Prod.mk.injEq] at H;obtain ⟨rfl,rfl⟩:=H;have p513:0 ≤ (x7_1:Int):=tD;have q513:x7_1 < (l0.length:Int):=tD;obtain ⟨ad513,e513,hx513_0⟩:=Kd.at_string HR0.out x7_1 p513 q513;cases e513;replace p513:=eq_true p513;replace q513:=eq_true q513;go_wp2;go_ret2;exact ⟨by first|rfl|(simp;done)|(simp [*];done),tR⟩
       ·rw [if_neg c12] at H;obtain ⟨c12b0,c12b1⟩:=bN c12;obtain ⟨t515,A13,H⟩:=oB H;by_cases c14:t515=true
        ·subst c14;replace H:=iT H;obtain ⟨t516,A15,H⟩:=oB H;simp only [Option.some.injEq,Prod.mk.injEq] at H;obtain ⟨rfl,rfl⟩:=H;have p513:0 ≤ (x7_1:Int):=tD;have q513:x7_1 < (l0.length:Int):=tD;obtain ⟨ad513,e513,hx513_0⟩:=Kd.at_string HR0.out x7_1 p513 q513;cases e513;replace p513:=eq_true p513;replace q513:=eq_true q513;have p514:0 ≤ (x7_1:Int):=tD;have q514:x7_1 < (l0.length:Int):=tD;obtain ⟨ad514,e514,hx514_0⟩:=Kd.at_string HR0.out x7_1 p514 q514;obtain rfl:ad513=ad514:=(by injection e514);replace p514:=eq_true p514;replace q514:=eq_true q514;go_wp2_with (first|(go_at_call 181;(with_reducible refine (slices_isNaN_string.calls (rdOf ByteArray.empty l0 x7_1) true _ A13.out).mono ?_);rintro e w' ⟨rfl,⟨nd,rfl⟩⟩)|(go_at_call 181;(with_reducible refine (slices_isNaN_string.calls a1 t516 _ A15.out).mono ?_);rintro e w' ⟨rfl,⟨nd,rfl⟩⟩));go_ret2;exact ⟨by first|rfl|(simp;done)|(simp [*];done),tR⟩
        ·replace c14:=Bool.eq_false_iff.mpr c14;subst c14;replace H:=iF H;simp only [Option.some.injEq,Prod.mk.injEq] at H;obtain ⟨rfl,rfl⟩:=H;have p513:0 ≤ (x7_1:Int):=tD;have q513:x7_1 < (l0.length:Int):=tD;obtain ⟨ad513,e513,hx513_0⟩:=Kd.at_string HR0.out x7_1 p513 q513;cases e513;replace p513:=eq_true p513;replace q513:=eq_true q513;have p514:0 ≤ (x7_1:Int):=tD;have q514:x7_1 < (l0.length:Int):=tD;obtain ⟨ad514,e514,hx514_0⟩:=Kd.at_string HR0.out x7_1 p514 q514;obtain rfl:ad513=ad514:=(by injection e514);replace p514:=eq_true p514;replace q514:=eq_true q514;go_wp2_with (first|(go_at_call 181;(with_reducible refine (slices_isNaN_string.calls (rdOf ByteArray.empty l0 x7_1) false _ A13.out).mono ?_);rintro e w' ⟨rfl,⟨nd,rfl⟩⟩));go_ret2;exact ⟨by first|rfl|(simp;done)|(simp [*];done),tR⟩
      ·rw [if_neg c11] at H;exact absurd H (by simp)
     ·rw [if_neg c10] at H;exact absurd H (by simp)
    ·rw [if_neg c9] at H;have c9b0:=dFa c9;clear c9;simp only [Option.some.injEq,Prod.mk.injEq] at H;obtain ⟨rfl,rfl⟩:=H;go_wp2;go_ret2;exact ⟨by first|rfl|(simp;done)|(simp [*];done),tR⟩
def eval_in.f (k:Nat) (l0:List ByteArray) (a1:ByteArray):Option (Bool):=(slices_BinarySearch_string.f k l0 a1).bind fun bt517=>(some bt517.2)
set_option maxHeartbeats 8000000 in
set_option maxRecDepth 100000 in
theorem eval_in.calls (k:Nat) (A0:Option Addr) (c0:Nat) (l0:List ByteArray) (a1:ByteArray) (r:Bool) (w:World) (hr0:Kd.C Kd.string w A0 l0.length l0) (hc0:l0.length ≤ c0) (h:eval_in.f k l0 a1=some r) :
  Calls Tryz.prog 145 #[.slice A0 l0.length c0,.string a1] w fun e w'=>e = .returned (.bool r)∧Drawn0 w w':=by
 have HR0:=Sd.mk hr0;have HC0:=Sd.mk hc0;clear hr0 hc0;have H:=h;clear h;unfold eval_in.f at H;obtain ⟨⟨t517,t518⟩,A3,H⟩:=oB H;(try dsimp only at H);obtain rfl:=sI H;go_enter Tryz.func145,Tryz.ntmps145;go_wp2_with (first|((with_reducible refine gate_callee (f:=169) rfl ?_);refine gL Tryz.func169 (some 10) #[.slice A0 l0.length c0,.string a1] ?_;(with_reducible refine (slices_BinarySearch_string.calls k _ _ l0 a1 t517 t518 _ (sD HR0) HC0.out A3.out).mono ?_);rintro e w' ⟨rfl,⟨nd,rfl⟩⟩;refine ⟨_,rfl,?_⟩));go_ret;exact ⟨by first|rfl|(simp;done)|(simp [*];done),tR⟩
end Go.Proofs.YtjbjbeihkoeciaaGreat.X
namespace Go.Proofs.YtjbjbeihkoeciaaGreat.X
open Go.RowKit Go.Proofs.YtjbjbeihkoeciaaGreatW.PrintWords Go.Proofs.YtjbjbeihkoeciaaGreatW.PrintLast Go.Proofs.YtjbjbeihkoeciaaGreatW.PrintMore
abbrev Ce:=S158
def keyB (s:ByteArray):Bool:=!decide (s.toList=([]:List UInt8)) && decide ((s.size:Int) ≤ 32)
def allFrom (p:Nat → Bool):Nat → Nat → Bool
 | _,0=>true
 | pos,m + 1=>p pos && allFrom p (pos + 1) m
theorem allFrom_step (p:Nat → Bool) (n pos:Nat) (h:pos < n):allFrom p pos (n - pos)=(p pos && allFrom p (pos + 1) (n - (pos + 1))):=by
 obtain ⟨m,hm⟩:∃ m,n - pos=m + 1:=⟨n - pos - 1,by omega⟩;rw [hm,allFrom,show n - (pos + 1)=m by omega]
theorem allFrom_stop (p:Nat → Bool) (n:Nat):allFrom p n (n - n)=true:=by rw [Nat.sub_self];rfl
theorem allFrom_iff (p:Nat → Bool):∀ m pos,allFrom p pos m=true ↔ ∀ j,pos ≤ j → j < pos + m → p j=true
 | 0,pos=>by simp [allFrom];omega
 | m + 1,pos=>by
  rw [allFrom,Bool.and_eq_true,allFrom_iff p m (pos + 1)];constructor
  ·rintro ⟨h1,h2⟩ j h3 h4;rcases Nat.lt_or_ge pos j with h|h
   ·exact h2 j (by omega) (by omega)
   ·(obtain rfl:j=pos:=by omega);exact h1
  ·intro h;exact ⟨h pos (by omega) (by omega),fun j h3 h4=>h j (by omega) (by omega)⟩
def setAt (l:List ByteArray) (pos:Nat):Bool:=keyB (l.getD pos ByteArray.empty) && (decide (pos=0) || blt (l.getD (pos - 1) ByteArray.empty) (l.getD pos ByteArray.empty))
def setB (l:List ByteArray):Bool:=allFrom (setAt l) 0 l.length && decide (l.length ≤ 4000)
def cntAt (l:List Ce) (pos:Nat):Bool :=
 keyB (l.getD pos z158).f0 && ((decide (pos=0) || blt (l.getD (pos - 1) z158).f0 (l.getD pos z158).f0) && ((l.getD pos z158).f1 != 0 && (decide ((l.getD pos z158).f1 ≤ 1048576) && decide (-1048576 ≤ (l.getD pos z158).f1))))
def cntB (l:List Ce):Bool:=allFrom (cntAt l) 0 l.length && decide (l.length ≤ 4000)
def mayS (ns nc:Nat) (ss:List (List ByteArray)) (cs:List (List Ce)):Bool:=decide (ss.length=ns) && (decide (cs.length=nc) && (ss.all setB && cs.all cntB))
theorem right_f (s:ByteArray):eval_right.f s=some (keyB s):=by
 unfold eval_right.f keyB;by_cases h:s.toList=([]:List UInt8)
 ·rw [if_pos h,decide_eq_true h];rfl
 ·rw [if_neg h,decide_eq_false h];rfl
theorem right_quiet (s:ByteArray) (w:World):Calls Tryz.prog 178 #[.string s] w fun e w'=>e = .returned (.bool (keyB s))∧∃ m,w' = w.drewN m :=
 (eval_right.calls s (keyB s) w (right_f s)).mono fun e w' ⟨he,m,hm⟩=>⟨he,m,hm⟩
def inB (l:List ByteArray) (key:ByteArray):Bool:=l.any fun x=>decide (x.toList=key.toList)
theorem inB_iff (l:List ByteArray) (key:ByteArray):inB l key=true ↔ key ∈ l:=by
 unfold inB;rw [List.any_eq_true];constructor
 ·rintro ⟨x,hx,h⟩;have e:x=key:=bytes_eq (of_decide_eq_true h);exact e ▸ hx
 ·intro h;exact ⟨key,h,decide_eq_true rfl⟩
theorem inB_no {l:List ByteArray} {key:ByteArray} (h:¬ key ∈ l):inB l key=false:=by
 cases hb:inB l key
 ·rfl
 ·exact absurd ((inB_iff l key).1 hb) h
theorem mid_eq (i j:Nat) (h:i + j ≤ 9000000000):wrap64 ((IntKind.u64.wrap (wrap64 ((i:Int) + (j:Int)))) / 2)=(((i + j) / 2:Nat):Int):=by
 (have h1:wrap64 ((i:Int) + (j:Int))=((i + j:Nat):Int):=by unfold wrap64;omega);have h2:IntKind.u64.wrap ((i + j:Nat):Int)=((i + j:Nat):Int):=by
  simp [IntKind.wrap,IntKind.bits,IntKind.signed];omega
 rw [h1,h2];unfold wrap64;omega
theorem less_f (a b:ByteArray):cmp_Less_string.f a b=some (blt a b):=by
 unfold cmp_Less_string.f cmp_isNaN_string.f blt;simp
theorem ordK_in {l:List ByteArray} {key:ByteArray} (ho:OrdK l) (m:Nat) (hm:m < l.length) (h:l[m]=key):posK l key=m :=
 posK_of l key m (by omega) (fun k hk hkm=>by rw [← h];exact ordK_get ho k m hkm hm) (fun _=>by rw [h];exact blt_irrefl key)
set_option maxHeartbeats 1000000 in
theorem bs_loop (l:List ByteArray) (key:ByteArray) (hn:l.length ≤ 4000000000) (ho:OrdK l):∀ (m i j:Nat),j - i ≤ m → i ≤ j → (hj:j ≤ l.length) → (∀ k (hk:k < l.length),k < i → blt l[k] key=true) → (∀ k (hk:k < l.length),j ≤ k → blt l[k] key=false) →
  Ev (fun k=>slices_BinarySearch_string.l0 k l key (l.length:Int) (i:Int) (j:Int)) ((posK l key:Int),inB l key):=by
 intro m;induction m with
 | zero =>
  intro i j h1 h2 hj ha hb;(obtain rfl:i=j:=by omega);have hp:posK l key=i:=posK_of l key i hj ha (fun hk=>hb i hk (Nat.le_refl _));rw [hp];refine Ev.succ ?_;simp only [slices_BinarySearch_string.l0,rdOf_at];refine Ev.no (by omega) ?_;by_cases hi:i < l.length
  ·(have hg:l.getD i ByteArray.empty=l[i]:=by simp [List.getD,hi]);rw [hg];refine Ev.yes (by omega) (Ev.yes (by omega) (Ev.yes (by omega) ?_));by_cases he:l[i]=key
   ·refine Ev.yes (by rw [he]) (Ev.is ?_);have:inB l key=true:=(inB_iff l key).2 (by rw [← he];exact List.getElem_mem hi);rw [this]
   ·refine Ev.no (fun h=>he (bytes_eq h)) (Ev.bind1 rfl (Ev.no (by simp) (Ev.is ?_)));have:inB l key=false:=inB_no (fun hm=>by
     obtain ⟨k,hk,hke⟩:=List.mem_iff_getElem.1 hm
     have:=ordK_in ho k hk hke
     rw [hp] at this
     subst this
     exact he hke)
    rw [this]
  ·refine Ev.no (by omega) (Ev.is ?_);have:inB l key=false:=inB_no (fun hm=>by
    obtain ⟨k,hk,hke⟩:=List.mem_iff_getElem.1 hm
    have:=ordK_in ho k hk hke
    omega)
   rw [this]
 | succ m ih =>
  intro i j h1 h2 hj ha hb;by_cases hij:i < j
  ·refine Ev.succ ?_;simp only [slices_BinarySearch_string.l0];rw [mid_eq i j (by omega)];(have hh:(i + j) / 2 < l.length:=by omega);rw [rdOf_at];refine Ev.yes (by omega) (Ev.yes (by omega) (Ev.yes (by omega) (Ev.bind1 (less_f _ _) ?_)));(have hg:l.getD ((i + j) / 2) ByteArray.empty=l[(i + j) / 2]:=by simp [List.getD,hh]);rw [hg];cases hlt:blt l[(i + j) / 2] key
   ·refine Ev.no (by decide) (ih i ((i + j) / 2) (by omega) (by omega) (by omega) ha (fun k hk hmk=>?_));rcases Nat.lt_or_ge ((i + j) / 2) k with h|h
    ·cases hk2:blt l[k] key
     ·rfl
     ·have h3:=blt_trans (ordK_get ho _ k h hk) hk2;rw [hlt] at h3;cases h3
    ·(obtain rfl:k=(i + j) / 2:=by omega);exact hlt
   ·rw [wrap_up _ (by omega)];refine Ev.yes rfl (ih ((i + j) / 2 + 1) j (by omega) (by omega) hj (fun k hk hmk=>?_) hb);rcases Nat.lt_or_ge k ((i + j) / 2) with h|h
    ·exact blt_trans (ordK_get ho k _ h hh) hlt
    ·(obtain rfl:k=(i + j) / 2:=by omega);exact hlt
  ·(obtain rfl:i=j:=by omega);exact ih i i (by omega) (by omega) hj ha hb
theorem bs_ev (l:List ByteArray) (key:ByteArray) (hn:l.length ≤ 4000000000) (ho:OrdK l):Ev (fun k=>slices_BinarySearch_string.f k l key) ((posK l key:Int),inB l key) :=
 bs_loop l key hn ho l.length 0 l.length (by omega) (by omega) (Nat.le_refl _) (fun k hk h=>absurd h (by omega)) (fun k hk h=>absurd h (by omega))
theorem in_ev (l:List ByteArray) (key:ByteArray) (hn:l.length ≤ 4000000000) (ho:OrdK l):Ev (fun k=>eval_in.f k l key) (inB l key):=by
 unfold eval_in.f;exact Ev.bind (bs_ev l key hn ho) (Ev.now _)
theorem in_quiet (A:Option Addr) (c:Nat) (l:List ByteArray) (key:ByteArray) (w:World) (hr:Kd.C Kd.string w A l.length l) (hc:l.length ≤ c) (hn:l.length ≤ 4000000000) (ho:OrdK l) :
  Calls Tryz.prog 145 #[.slice A l.length c,.string key] w fun e w'=>e = .returned (.bool (inB l key))∧∃ m,w' = w.drewN m:=by
 obtain ⟨k,hk⟩:=Ev.rounds (g:=fun k=>eval_in.f k l key) (in_ev l key hn ho);exact (eval_in.calls k A c l key (inB l key) w hr hc hk).mono fun e w' ⟨he,m,hm⟩=>⟨he,m,hm⟩
theorem setB_ord {l:List ByteArray} (h:setB l=true):OrdK l:=by
 unfold setB at h;rw [Bool.and_eq_true,allFrom_iff] at h;have hs:∀ j (hj:j + 1 < l.length),blt (l[j]'(by omega)) l[j + 1]=true:=fun j hj=>by
  have:=h.1 (j + 1) (by omega) (by omega);unfold setAt at this;rw [Bool.and_eq_true,Bool.or_eq_true] at this;have h2:=this.2.resolve_left (by simp);simp only [Nat.add_sub_cancel] at h2;(have e1:l.getD j ByteArray.empty=l[j]'(by omega):=by simp [List.getD,show j < l.length by omega]);(have e2:l.getD (j + 1) ByteArray.empty=l[j + 1]:=by simp [List.getD,hj]);rwa [e1,e2] at h2
 unfold OrdK;rw [List.pairwise_iff_getElem];intro i j hi hj hij;obtain ⟨d,rfl⟩:∃ d,j=i + 1 + d:=⟨j - i - 1,by omega⟩;clear hij;induction d with
 | zero=>exact hs i hj
 | succ d ih=>exact blt_trans (ih (by omega)) (hs (i + 1 + d) hj)
theorem cntB_eq (l:List Ce) (n:Nat) (h:l.length=n):cntB l=(allFrom (cntAt l) 0 n && decide (n ≤ 4000)):=by subst h;rfl
set_option maxHeartbeats 8000000 in
set_option maxRecDepth 100000 in
theorem count_call (A:Option Addr) (c:Nat) (l:List Ce) (w:World) (hr:Kd.C k158 w A l.length l) (hc:l.length ≤ c) (hn:l.length ≤ 4000000000) :
  Calls Tryz.prog 167 #[.slice A l.length c] w fun e w'=>e = .returned (.bool (cntB l))∧Below w.heap.size w w':=by
 have hB:=cntB_eq l l.length rfl;generalize l.length=n at *;generalize hR:cntB l=R at *;have HB0:=Sd.mk hB;have HR:=Sd.mk hr;clear hr hB hR;go_enter Tryz.func167,Tryz.ntmps167;go_wp2_with fail;go_loopw [7] (fun v7 wr=>∃ pos:Nat,v7 = .int .i64 (pos:Int)∧pos ≤ n∧Sd (allFrom (cntAt l) pos (n - pos)=allFrom (cntAt l) 0 n)∧Sd (Below w.heap.size w wr)) (fun v7 _=>((n:Int) - intV v7).toNat)
 case atStart=>exact ⟨0,rfl,Nat.zero_le _,⟨rfl⟩,⟨Below.refl _ _⟩⟩
 case round =>
  obtain ⟨pos,rfl,hpos,HE,HBr⟩:=hrel;by_cases hlt:pos < n
  ·(have hlt':decide ((pos:Int) < (n:Int))=true:=by simp;omega);(have p:0 ≤ (pos:Int):=by omega);(have q:(pos:Int) < (n:Int):=by omega);have HST:Sd ((cntAt l pos && allFrom (cntAt l) (pos + 1) (n - (pos + 1)))=allFrom (cntAt l) 0 n):=⟨by rw [← allFrom_step _ _ _ hlt];exact HE.out⟩;have HPREV:Sd (0 < pos → ∃ ad,A=some ad∧w.cell? (ad.add ((pos - 1) * 2))=some (.string (l.getD (pos - 1) z158).f0)):=⟨fun h0=>by
    obtain ⟨ad,e0,h1,_⟩:=at_T158 HR.out ((pos - 1:Nat):Int) (by omega) (by omega)
    refine ⟨ad,e0,?_⟩
    simpa [rd_T158] using h1⟩
   have HCA:Sd (cntAt l pos=(keyB (rd_T158 l (pos:Int)).f0 && ((decide (pos=0) || blt (l.getD (pos - 1) z158).f0 (rd_T158 l (pos:Int)).f0) && ((rd_T158 l (pos:Int)).f1 != 0 && (decide ((rd_T158 l (pos:Int)).f1 ≤ 1048576) && decide (-1048576 ≤ (rd_T158 l (pos:Int)).f1)))))):=⟨by unfold cntAt;simp only [rd_T158,Int.toNat_natCast];rfl⟩;obtain ⟨ad,e0,hx0,hx1⟩:=at_T158 (Kd.C_below HR.out HBr.out) (pos:Int) p q;cases e0;simp only [Int.toNat_natCast] at hx0 hx1;generalize rd_T158 l (pos:Int)=x at *;generalize cntAt l pos=ca at *;replace p:=eq_true p;replace q:=eq_true q;go_upto_region 4 with (((with_reducible refine gate_dst (N:=4) rfl ?_);refine box_event ?hg (N:=4) ?hd (cs:=#[.string ⟨#[]⟩,.int .i64 0]) (t:=158) ?hr ?_;(case hd=>rfl);(case hg=>rfl);(case hr=>first|(go_simp;done)|(go_simp;rfl));intro g1 hg1 w6 hbox1 hb1;have hcz0:w6.cell? ⟨g1,0,none⟩=some (.string ⟨#[]⟩):=(blk_cell hbox1 0).trans rfl;have hcz1:w6.cell? ⟨g1,1,none⟩=some (.int .i64 0):=(blk_cell hbox1 1).trans rfl;have hfz0:=blk_frozen hbox1 0;have hfz1:=blk_frozen hbox1 1;have HB1:=Sd.mk hb1;have BK1:=Sd.mk hbox1;have HG1:=Sd.mk hg1;clear hb1 hbox1 hg1));(have hgw:w.heap.size ≤ g1:=by rw [HG1.out];exact below_size HBr.out);have HB7:=Sd.mk (below_set (j:=1) (v:=.int .i64 x.f1) (below_set (j:=0) (v:=.string x.f0) (below_step HBr.out HB1.out) hgw) hgw);have HK7:Sd (((w6.setCell ⟨g1,0,none⟩ (.string x.f0)).setCell ⟨g1,1,none⟩ (.int .i64 x.f1)).heap[g1]? = some (.cells #[.string x.f0,.int .i64 x.f1] 158 (0,0))):=⟨by
    refine blk_put (cs:=#[.string x.f0,.int .i64 0]) ?_ 1 _ rfl
    exact blk_put BK1.out 0 _ rfl⟩
   generalize ((w6.setCell ⟨g1,0,none⟩ (.string x.f0)).setCell ⟨g1,1,none⟩ (.int .i64 x.f1))=w7 at *;clear hcz0 hcz1 hfz0 hfz1 hx0 hx1;obtain ⟨hd0,hd1⟩:=bc2 HK7.out;cases hk:keyB x.f0 with
   | false =>
    have HQ:Sd (R=false):=⟨by rw [HB0.out,← HST.out,HCA.out,hk];rfl⟩;have HRT:=Sd.mk (right_quiet x.f0);rw [hk] at HRT;clear hk HB0 HST HCA;go_quiet (first|(go_at_call 178;refine Calls.quiet_of (HRT.out _)));go_wp2_with fail;go_ret;exact ⟨by rw [HQ.out];rfl,pw_below_drewN HB7.out _⟩
   | true =>
    have HRT:=Sd.mk (right_quiet x.f0);rw [hk] at HRT HCA;clear hk;by_cases h0:pos=0
    ·have HC2:Sd (ca=(x.f1 != 0 && (decide (x.f1 ≤ 1048576) && decide (-1048576 ≤ x.f1)))):=⟨by rw [HCA.out,h0];simp⟩;clear HCA HPREV;have g0:decide (0 < pos)=false:=decide_eq_false (by omega);have g0':(0 < pos)=False:=eq_false (by omega);have HC3:=HC2;clear HC2 h0;by_cases hz:x.f1=0
     ·have z0:(x.f1 == 0)=true:=beq_iff_eq.mpr hz;have z1:(x.f1 != 0)=false:=bne_eq_false_iff_eq.mpr hz;have HQ:Sd (R=false):=⟨by rw [HB0.out,← HST.out,HC3.out];simp [hz]⟩;clear HB0 HST HC3;go_quiet (first|(go_at_call 178;refine Calls.quiet_of (HRT.out _)));go_wp2_with fail;go_ret;exact ⟨by rw [HQ.out];rfl,pw_below_drewN HB7.out _⟩
     have z0:(x.f1 == 0)=false:=beq_eq_false_iff_ne.mpr hz;have z1:(x.f1 != 0)=true:=bne_iff_ne.mpr hz;have HNZ:=Sd.mk hz;clear hz;by_cases hz:1048576 < x.f1
     ·have z2:decide (1048576 < x.f1)=true:=decide_eq_true hz;(have hz':¬ x.f1 ≤ 1048576:=by omega);have HQ:Sd (R=false):=⟨by rw [HB0.out,← HST.out,HC3.out];rw [decide_eq_false hz'];simp⟩;clear HB0 HST HC3;go_quiet (first|(go_at_call 178;refine Calls.quiet_of (HRT.out _)));go_wp2_with fail;go_ret;exact ⟨by rw [HQ.out];rfl,pw_below_drewN HB7.out _⟩
     have z2:decide (1048576 < x.f1)=false:=decide_eq_false hz;have HN1:=Sd.mk hz;clear hz;by_cases hz:x.f1 < -1048576
     ·have z3:decide (x.f1 < -1048576)=true:=decide_eq_true hz;(have hz':¬ -1048576 ≤ x.f1:=by omega);have HQ:Sd (R=false):=⟨by rw [HB0.out,← HST.out,HC3.out];rw [decide_eq_false hz'];simp⟩;clear HB0 HST HC3;go_quiet (first|(go_at_call 178;refine Calls.quiet_of (HRT.out _)));go_wp2_with fail;go_ret;exact ⟨by rw [HQ.out];rfl,pw_below_drewN HB7.out _⟩
     have z3:decide (x.f1 < -1048576)=false:=decide_eq_false hz;have HQ:Sd (ca=true):=⟨by rw [HC3.out,z1,decide_eq_true (show x.f1 ≤ 1048576 by have:=HN1.out;omega),decide_eq_true (show -1048576 ≤ x.f1 by omega)];rfl⟩;clear HC3 hz;go_quiet (first|(go_at_call 178;refine Calls.quiet_of (HRT.out _)));go_wp2_with fail;go_roundw
     case measure=>simp [intV];omega
     case rel=>exact ⟨pos + 1,by simp,by omega,⟨by rw [← HST.out,HQ.out];rfl⟩,⟨pw_below_drewN HB7.out _⟩⟩
    ·have HC2:Sd (ca=(blt (l.getD (pos - 1) z158).f0 x.f0 && (x.f1 != 0 && (decide (x.f1 ≤ 1048576) && decide (-1048576 ≤ x.f1))))):=⟨by rw [HCA.out,decide_eq_false h0];simp⟩;obtain ⟨ad2,e2,hy⟩:=HPREV.out (by omega);(obtain rfl:ad=ad2:=by simpa using e2);have hy0:=(HB7.out.cell (World.block_lt_of_cell? w _ hy)).trans hy;have g0:decide (0 < pos)=true:=decide_eq_true (by omega);have g0':(0 < pos)=True:=eq_true (by omega);(have gw:IntKind.i64.wrap ((pos:Int) - 1)=((pos - 1:Nat):Int):=by rw [i64_w];unfold wrap64;omega);have gq:(((pos - 1:Nat):Int) < (n:Int))=True:=eq_true (by omega);clear HCA HPREV hy e2;generalize l.getD (pos - 1) z158=y at *;generalize pos - 1=k at *;cases hb:blt y.f0 x.f0 with
     | false =>
      have HQ:Sd (R=false):=⟨by rw [HB0.out,← HST.out,HC2.out,hb];rfl⟩;have hb1:Op.bytesLess y.f0.toList x.f0.toList=false:=hb;clear hb HB0 HST HC2;go_quiet (first|(go_at_call 178;refine Calls.quiet_of (HRT.out _)));go_wp2_with fail;go_ret;exact ⟨by rw [HQ.out];rfl,pw_below_drewN HB7.out _⟩
     | true =>
      have hb1:Op.bytesLess y.f0.toList x.f0.toList=true:=hb;have HC3:Sd (ca=(x.f1 != 0 && (decide (x.f1 ≤ 1048576) && decide (-1048576 ≤ x.f1)))):=⟨by rw [HC2.out,hb];rfl⟩;clear HC2 hb h0;by_cases hz:x.f1=0
      ·have z0:(x.f1 == 0)=true:=beq_iff_eq.mpr hz;have z1:(x.f1 != 0)=false:=bne_eq_false_iff_eq.mpr hz;have HQ:Sd (R=false):=⟨by rw [HB0.out,← HST.out,HC3.out];simp [hz]⟩;clear HB0 HST HC3;go_quiet (first|(go_at_call 178;refine Calls.quiet_of (HRT.out _)));go_wp2_with fail;go_ret;exact ⟨by rw [HQ.out];rfl,pw_below_drewN HB7.out _⟩
      have z0:(x.f1 == 0)=false:=beq_eq_false_iff_ne.mpr hz;have z1:(x.f1 != 0)=true:=bne_iff_ne.mpr hz;have HNZ:=Sd.mk hz;clear hz;by_cases hz:1048576 < x.f1
      ·have z2:decide (1048576 < x.f1)=true:=decide_eq_true hz;(have hz':¬ x.f1 ≤ 1048576:=by omega);have HQ:Sd (R=false):=⟨by rw [HB0.out,← HST.out,HC3.out];rw [decide_eq_false hz'];simp⟩;clear HB0 HST HC3;go_quiet (first|(go_at_call 178;refine Calls.quiet_of (HRT.out _)));go_wp2_with fail;go_ret;exact ⟨by rw [HQ.out];rfl,pw_below_drewN HB7.out _⟩
      have z2:decide (1048576 < x.f1)=false:=decide_eq_false hz;have HN1:=Sd.mk hz;clear hz;by_cases hz:x.f1 < -1048576
      ·have z3:decide (x.f1 < -1048576)=true:=decide_eq_true hz;(have hz':¬ -1048576 ≤ x.f1:=by omega);have HQ:Sd (R=false):=⟨by rw [HB0.out,← HST.out,HC3.out];rw [decide_eq_false hz'];simp⟩;clear HB0 HST HC3;go_quiet (first|(go_at_call 178;refine Calls.quiet_of (HRT.out _)));go_wp2_with fail;go_ret;exact ⟨by rw [HQ.out];rfl,pw_below_drewN HB7.out _⟩
      have z3:decide (x.f1 < -1048576)=false:=decide_eq_false hz;have HQ:Sd (ca=true):=⟨by rw [HC3.out,z1,decide_eq_true (show x.f1 ≤ 1048576 by have:=HN1.out;omega),decide_eq_true (show -1048576 ≤ x.f1 by omega)];rfl⟩;clear HC3 hz;go_quiet (first|(go_at_call 178;refine Calls.quiet_of (HRT.out _)));go_wp2_with fail;go_roundw
      case measure=>simp [intV];omega
      case rel=>exact ⟨pos + 1,by simp,by omega,⟨by rw [← HST.out,HQ.out];rfl⟩,⟨pw_below_drewN HB7.out _⟩⟩
  ·(have hlt':decide ((pos:Int) < (n:Int))=false:=by simp;omega);(obtain rfl:n=pos:=by omega);have HQ:Sd (R=decide (n ≤ 4000)):=⟨by rw [HB0.out,← HE.out,allFrom_stop];rfl⟩;have HQ2:Sd (decide ((n:Int) ≤ 4000)=decide (n ≤ 4000)):=⟨by simp;omega⟩;clear HB0 HE;go_wp2_with fail;go_ret;exact ⟨by rw [HQ.out,← HQ2.out];rfl,HBr.out⟩
def EVStrs (w:World) (x:(List ByteArray)) (v:Value):Prop:=∃ (A1:Option Addr) (c1:Nat),v = .slice A1 x.length c1∧x.length ≤ c1∧Kd.string.C w A1 x.length x
theorem evStrs {w:World} {x:(List ByteArray)} {cs:List Value} (h:Kd.K (Kd.slice 9 Kd.string) w x cs):∃ (A1:Option Addr) (c1:Nat),cs = [.slice A1 x.length c1]∧EVStrs w x (.slice A1 x.length c1):=by
 obtain ⟨A1,c1,rfl,l1,g1⟩:=h;exact ⟨A1,c1,rfl,A1,c1,rfl,l1,g1⟩
set_option maxHeartbeats 4000000 in
set_option maxRecDepth 100000 in
theorem idxFStrs0 (F:FuncId) (hF:∀ (args:Array Value) (w:World),(callFunc F args).run Tryz.prog w = .ok (.enter F args) w) (p:(List ByteArray) → Bool) (A:Option Addr) (c:Nat) (l:List (List ByteArray)) (w:World) (hr:Kd.C (Kd.slice 9 Kd.string) w A l.length l) (hc:l.length ≤ c) (hn:l.length ≤ 4000000000)
  (hp:∀ x ∈ l,∀ v,EVStrs w x v → ∀ w',Below w.heap.size w w' → Calls Tryz.prog F #[v] w' fun e w''=>e = .returned (.bool (p x))∧Below w'.heap.size w' w'') :
  Calls Tryz.prog 177 #[.slice A l.length c,.func (.func F) #[] #[]] w fun e w'=>e = .returned (.int .i64 (idxF p l))∧Below w.heap.size w w':=by
 generalize hnl:l.length=n at *;have HNL:=Sd.mk hnl;have HR:=Sd.mk hr;have HP:=Sd.mk hp;clear hr hp hnl;go_enter Tryz.func177,Tryz.ntmps177;go_wp2_with fail;go_loopw [8] (fun v8 w'=>∃ i:Nat,v8 = .int .i64 (i:Int)∧i ≤ n∧Sd (∀ j,j < i → ∀ x,l[j]? = some x → p x=false)∧Sd (Below w.heap.size w w')) (fun v8 _=>((n:Int) - intV v8).toNat)
 case atStart=>exact ⟨0,rfl,Nat.zero_le _,⟨fun j hj=>absurd hj (by omega)⟩,⟨Below.refl _ _⟩⟩
 case round =>
  obtain ⟨i,rfl,hi,HA,HB⟩:=hrel;by_cases hlt:i < n
  ·(have hlt':decide ((i:Int) < (n:Int))=true:=by simp;omega);(have p0:0 ≤ (i:Int):=by omega);(have q0:(i:Int) < (n:Int):=by omega);obtain ⟨ad,cs,e0,_,hK,hc0⟩:=Kd.C_get HR.out ([]:List ByteArray) (i:Int) p0 q0;cases e0;(have hget:l[i]? = some (l.getD i ([]:List ByteArray)):=by rw [List.getD_eq_getElem?_getD,List.getElem?_eq_getElem (by rw [HNL.out];exact hlt)];rfl);simp only [Int.toNat_natCast] at hK hc0;generalize hx:l.getD i ([]:List ByteArray)=x at *;have HX:=Sd.mk hget;have HM:Sd (x ∈ l):=⟨List.mem_of_getElem? hget⟩;clear hx hget;have hc1:∀ j u,cs[j]? = some u → w.cell? (ad.add (i * 1 + j))=some u:=hc0;have hEV:=evStrs hK;obtain ⟨A1,c1,rfl,hev⟩:=hEV;(have hx0:w.cell? (ad.add i)=some (.slice A1 x.length c1):=by have h_:=hc1 0 _ rfl;simpa using h_);replace hx0:=(HB.out.cell (World.block_lt_of_cell? w _ hx0)).trans hx0;clear hc1 hc0 hK;have HEV:=Sd.mk hev;clear hev;replace p0:=eq_true p0;replace q0:=eq_true q0;cases hpx:p x with
   | true =>
    have HPX:=Sd.mk hpx;clear hpx;go_wp2_with fail;refine (HP.out x HM.out _ HEV.out _ HB.out).mono ?_;rintro e w1 ⟨rfl,hb⟩;have HB1:=Sd.mk (below_step HB.out hb);clear hb;have hpx:=HPX.out;go_wp2_with fail;go_ret;exact ⟨by rw [idxF_at p l i x HX.out HPX.out HA.out];rfl,HB1.out⟩
   | false =>
    have HPX:=Sd.mk hpx;clear hpx;go_wp2_with fail;refine (HP.out x HM.out _ HEV.out _ HB.out).mono ?_;rintro e w1 ⟨rfl,hb⟩;have HB1:=Sd.mk (below_step HB.out hb);clear hb;have hpx:=HPX.out;go_wp2_with fail;go_roundw
    case measure=>simp [intV];omega
    case rel =>
     refine ⟨i + 1,by simp,by omega,⟨fun j hj x' hx'=>?_⟩,HB1⟩;rcases Nat.lt_or_ge j i with h1|h1
     ·exact HA.out j h1 x' hx'
     ·(obtain rfl:j=i:=by omega);rw [HX.out] at hx';cases hx';exact HPX.out
  ·(have hlt':decide ((i:Int) < (n:Int))=false:=by simp;omega);go_wp2_with fail;go_ret;exact ⟨by rw [idxF_none p l (fun j x hx=>HA.out j (by have:=(List.getElem?_eq_some_iff.1 hx).1;have:=HNL.out;omega) x hx)];rfl,HB.out⟩
set_option maxHeartbeats 4000000 in
set_option maxRecDepth 100000 in
theorem hasFStrs0 (F:FuncId) (hF:∀ (args:Array Value) (w:World),(callFunc F args).run Tryz.prog w = .ok (.enter F args) w) (p:(List ByteArray) → Bool) (A:Option Addr) (c:Nat) (l:List (List ByteArray)) (w:World) (hr:Kd.C (Kd.slice 9 Kd.string) w A l.length l) (hc:l.length ≤ c) (hn:l.length ≤ 4000000000) (hp:∀ x ∈ l,∀ v,EVStrs w x v → ∀ w',Below w.heap.size w w' → Calls Tryz.prog F #[v] w' fun e w''=>e = .returned (.bool (p x))∧Below w'.heap.size w' w''):Calls Tryz.prog 162 #[.slice A l.length c,.func (.func F) #[] #[]] w fun e w'=>e = .returned (.bool (l.any p))∧Below w.heap.size w w':=by
 have HR:=Sd.mk hr;have HP:=Sd.mk hp;clear hr hp;go_enter Tryz.func162,Tryz.ntmps162;go_wp2_with fail;refine (idxFStrs0 F hF p A c l _ HR.out hc hn HP.out).mono ?_;rintro e w' ⟨rfl,hb⟩;go_wp2_with fail;go_ret;exact ⟨congrArg (fun b=>Ending.returned (.bool b)) (idxF_any p l),hb⟩
def EVCells (w:World) (x:(List S158)) (v:Value):Prop:=∃ (A1:Option Addr) (c1:Nat),v = .slice A1 x.length c1∧x.length ≤ c1∧k158.C w A1 x.length x
theorem evCells {w:World} {x:(List S158)} {cs:List Value} (h:Kd.K (Kd.slice 158 k158) w x cs):∃ (A1:Option Addr) (c1:Nat),cs = [.slice A1 x.length c1]∧EVCells w x (.slice A1 x.length c1):=by
 obtain ⟨A1,c1,rfl,l1,g1⟩:=h;exact ⟨A1,c1,rfl,A1,c1,rfl,l1,g1⟩
set_option maxHeartbeats 4000000 in
set_option maxRecDepth 100000 in
theorem idxFCells0 (F:FuncId) (hF:∀ (args:Array Value) (w:World),(callFunc F args).run Tryz.prog w = .ok (.enter F args) w) (p:(List S158) → Bool) (A:Option Addr) (c:Nat) (l:List (List S158)) (w:World) (hr:Kd.C (Kd.slice 158 k158) w A l.length l) (hc:l.length ≤ c) (hn:l.length ≤ 4000000000)
  (hp:∀ x ∈ l,∀ v,EVCells w x v → ∀ w',Below w.heap.size w w' → Calls Tryz.prog F #[v] w' fun e w''=>e = .returned (.bool (p x))∧Below w'.heap.size w' w'') :
  Calls Tryz.prog 179 #[.slice A l.length c,.func (.func F) #[] #[]] w fun e w'=>e = .returned (.int .i64 (idxF p l))∧Below w.heap.size w w':=by
 generalize hnl:l.length=n at *;have HNL:=Sd.mk hnl;have HR:=Sd.mk hr;have HP:=Sd.mk hp;clear hr hp hnl;go_enter Tryz.func179,Tryz.ntmps179;go_wp2_with fail;go_loopw [8] (fun v8 w'=>∃ i:Nat,v8 = .int .i64 (i:Int)∧i ≤ n∧Sd (∀ j,j < i → ∀ x,l[j]? = some x → p x=false)∧Sd (Below w.heap.size w w')) (fun v8 _=>((n:Int) - intV v8).toNat)
 case atStart=>exact ⟨0,rfl,Nat.zero_le _,⟨fun j hj=>absurd hj (by omega)⟩,⟨Below.refl _ _⟩⟩
 case round =>
  obtain ⟨i,rfl,hi,HA,HB⟩:=hrel;by_cases hlt:i < n
  ·(have hlt':decide ((i:Int) < (n:Int))=true:=by simp;omega);(have p0:0 ≤ (i:Int):=by omega);(have q0:(i:Int) < (n:Int):=by omega);obtain ⟨ad,cs,e0,_,hK,hc0⟩:=Kd.C_get HR.out ([]:List S158) (i:Int) p0 q0;cases e0;(have hget:l[i]? = some (l.getD i ([]:List S158)):=by rw [List.getD_eq_getElem?_getD,List.getElem?_eq_getElem (by rw [HNL.out];exact hlt)];rfl);simp only [Int.toNat_natCast] at hK hc0;generalize hx:l.getD i ([]:List S158)=x at *;have HX:=Sd.mk hget;have HM:Sd (x ∈ l):=⟨List.mem_of_getElem? hget⟩;clear hx hget;have hc1:∀ j u,cs[j]? = some u → w.cell? (ad.add (i * 1 + j))=some u:=hc0;have hEV:=evCells hK;obtain ⟨A1,c1,rfl,hev⟩:=hEV;(have hx0:w.cell? (ad.add i)=some (.slice A1 x.length c1):=by have h_:=hc1 0 _ rfl;simpa using h_);replace hx0:=(HB.out.cell (World.block_lt_of_cell? w _ hx0)).trans hx0;clear hc1 hc0 hK;have HEV:=Sd.mk hev;clear hev;replace p0:=eq_true p0;replace q0:=eq_true q0;cases hpx:p x with
   | true =>
    have HPX:=Sd.mk hpx;clear hpx;go_wp2_with fail;refine (HP.out x HM.out _ HEV.out _ HB.out).mono ?_;rintro e w1 ⟨rfl,hb⟩;have HB1:=Sd.mk (below_step HB.out hb);clear hb;have hpx:=HPX.out;go_wp2_with fail;go_ret;exact ⟨by rw [idxF_at p l i x HX.out HPX.out HA.out];rfl,HB1.out⟩
   | false =>
    have HPX:=Sd.mk hpx;clear hpx;go_wp2_with fail;refine (HP.out x HM.out _ HEV.out _ HB.out).mono ?_;rintro e w1 ⟨rfl,hb⟩;have HB1:=Sd.mk (below_step HB.out hb);clear hb;have hpx:=HPX.out;go_wp2_with fail;go_roundw
    case measure=>simp [intV];omega
    case rel =>
     refine ⟨i + 1,by simp,by omega,⟨fun j hj x' hx'=>?_⟩,HB1⟩;rcases Nat.lt_or_ge j i with h1|h1
     ·exact HA.out j h1 x' hx'
     ·(obtain rfl:j=i:=by omega);rw [HX.out] at hx';cases hx';exact HPX.out
  ·(have hlt':decide ((i:Int) < (n:Int))=false:=by simp;omega);go_wp2_with fail;go_ret;exact ⟨by rw [idxF_none p l (fun j x hx=>HA.out j (by have:=(List.getElem?_eq_some_iff.1 hx).1;have:=HNL.out;omega) x hx)];rfl,HB.out⟩
set_option maxHeartbeats 4000000 in
set_option maxRecDepth 100000 in
theorem hasFCells0 (F:FuncId) (hF:∀ (args:Array Value) (w:World),(callFunc F args).run Tryz.prog w = .ok (.enter F args) w) (p:(List S158) → Bool) (A:Option Addr) (c:Nat) (l:List (List S158)) (w:World) (hr:Kd.C (Kd.slice 158 k158) w A l.length l) (hc:l.length ≤ c) (hn:l.length ≤ 4000000000) (hp:∀ x ∈ l,∀ v,EVCells w x v → ∀ w',Below w.heap.size w w' → Calls Tryz.prog F #[v] w' fun e w''=>e = .returned (.bool (p x))∧Below w'.heap.size w' w''):Calls Tryz.prog 165 #[.slice A l.length c,.func (.func F) #[] #[]] w fun e w'=>e = .returned (.bool (l.any p))∧Below w.heap.size w w':=by
 have HR:=Sd.mk hr;have HP:=Sd.mk hp;clear hr hp;go_enter Tryz.func165,Tryz.ntmps165;go_wp2_with fail;refine (idxFCells0 F hF p A c l _ HR.out hc hn HP.out).mono ?_;rintro e w' ⟨rfl,hb⟩;go_wp2_with fail;go_ret;exact ⟨congrArg (fun b=>Ending.returned (.bool b)) (idxF_any p l),hb⟩
theorem set_ev (l:List ByteArray) (hn:l.length ≤ 4000000000):Ev (fun k=>eval_set.f k l) (setB l):=by
 unfold eval_set.f;have h:Ev (fun k=>eval_set.l0 k l l (l.length:Int) ((0:Nat):Int)) (allFrom (setAt l) 0 (l.length - 0) && decide (l.length ≤ 4000)):=by
  refine Ev.loop (g:=fun k pos=>eval_set.l0 k l l (l.length:Int) (pos:Int)) (spec:=fun pos=>allFrom (setAt l) pos (l.length - pos) && decide (l.length ≤ 4000)) l.length ?_ ?_ 0 (by omega)
  ·refine Ev.succ ?_;simp only [eval_set.l0];rw [allFrom_stop,Bool.true_and];exact Ev.no (by omega) (Ev.is (by simp;omega))
  ·intro pos hp ih;refine Ev.succ ?_;simp only [eval_set.l0,rdOf_at];rw [wrap_up pos (by omega),allFrom_step _ _ _ hp];refine Ev.yes (by omega) (Ev.yes (by omega) (Ev.yes (by omega) (Ev.bind1 (right_f _) ?_)));rw [show setAt l pos=(keyB (l.getD pos ByteArray.empty) && (decide (pos=0) || blt (l.getD (pos - 1) ByteArray.empty) (l.getD pos ByteArray.empty))) from rfl];cases hk:keyB (l.getD pos ByteArray.empty)
   ·exact Ev.no (by decide) (Ev.is (by simp))
   ·refine Ev.yes rfl ?_;by_cases h0:pos=0
    ·rw [decide_eq_true h0];exact Ev.no (by omega) (by simpa using ih)
    ·(have e:wrap64 ((pos:Int) - 1)=((pos - 1:Nat):Int):=by unfold wrap64;omega);rw [e,rdOf_at,decide_eq_false h0];refine Ev.yes (by omega) (Ev.yes (by omega) (Ev.yes (by omega) ?_));cases hb:blt (l.getD (pos - 1) ByteArray.empty) (l.getD pos ByteArray.empty)
     ·exact Ev.no (by unfold blt at hb;rw [hb];decide) (Ev.is (by simp))
     ·exact Ev.yes hb (by simpa using ih)
 exact h
theorem set_call (A:Option Addr) (c:Nat) (l:List ByteArray) (w:World) (hr:Kd.C Kd.string w A l.length l) (hc:l.length ≤ c) (hn:l.length ≤ 4000000000) :
  Calls Tryz.prog 164 #[.slice A l.length c] w fun e w'=>e = .returned (.bool (setB l))∧Below w.heap.size w w':=by
 obtain ⟨k,hk⟩:=Ev.rounds (g:=fun k=>eval_set.f k l) (set_ev l hn);exact (eval_set.calls k A c l (setB l) w hr hc hk).mono fun e w' ⟨he,m,hm⟩=>⟨he,hm ▸ pw_below_drewN (Below.refl _ _) _⟩
theorem enter_may1 (args:Array Value) (w:World):(callFunc 163 args).run Tryz.prog w = .ok (.enter 163 args) w:=by kernel_rfl
theorem enter_may2 (args:Array Value) (w:World):(callFunc 166 args).run Tryz.prog w = .ok (.enter 166 args) w:=by kernel_rfl
set_option maxHeartbeats 4000000 in
set_option maxRecDepth 100000 in
theorem may1_call (A:Option Addr) (c:Nat) (l:List ByteArray) (w:World) (hr:Kd.C Kd.string w A l.length l) (hc:l.length ≤ c) (hn:l.length ≤ 4000000000) :
  Calls Tryz.prog 163 #[.slice A l.length c] w fun e w'=>e = .returned (.bool (!setB l))∧Below w.heap.size w w':=by
 have HS:=Sd.mk (fun w' (hw:Below w.heap.size w w')=>set_call A c l w' (Kd.C_below hr hw) hc hn);clear hr hc hn;generalize l.length=n at *;generalize setB l=b at *;go_enter Tryz.func163,Tryz.ntmps163;go_wp2_with fail;refine (HS.out _ (Below.refl _ _)).mono ?_;rintro e w1 ⟨rfl,hb⟩;have HB:=Sd.mk hb;clear hb;go_wp2_with fail;go_ret;exact ⟨rfl,HB.out⟩
set_option maxHeartbeats 4000000 in
set_option maxRecDepth 100000 in
theorem may2_call (A:Option Addr) (c:Nat) (l:List Ce) (w:World) (hr:Kd.C k158 w A l.length l) (hc:l.length ≤ c) (hn:l.length ≤ 4000000000) :
  Calls Tryz.prog 166 #[.slice A l.length c] w fun e w'=>e = .returned (.bool (!cntB l))∧Below w.heap.size w w':=by
 have HS:=Sd.mk (fun w' (hw:Below w.heap.size w w')=>count_call A c l w' (Kd.C_below hr hw) hc hn);clear hr hc hn;generalize l.length=n at *;generalize cntB l=b at *;go_enter Tryz.func166,Tryz.ntmps166;go_wp2_with fail;refine (HS.out _ (Below.refl _ _)).mono ?_;rintro e w1 ⟨rfl,hb⟩;have HB:=Sd.mk hb;clear hb;go_wp2_with fail;go_ret;exact ⟨rfl,HB.out⟩
def StOk (ss:List (List ByteArray)) (cs:List (List Ce)):Prop:=(ss.length ≤ 4000000000∧cs.length ≤ 4000000000)∧(∀ l ∈ ss,l.length ≤ 4000000000)∧∀ l ∈ cs,l.length ≤ 4000000000
instance (ss:List (List ByteArray)) (cs:List (List Ce)):Decidable (StOk ss cs):=by unfold StOk;infer_instance
set_option maxHeartbeats 8000000 in
set_option maxRecDepth 100000 in
theorem may_call (A0:Option Addr) (c0 n0:Nat) (A1:Option Addr) (c1 n1:Nat) (v2 v3 v4:Value) (B0:Option Addr) (d0:Nat) (ss:List (List ByteArray)) (B1:Option Addr) (d1:Nat) (cs:List (List Ce)) (w:World)
  (hr0:Kd.C (Kd.slice 9 Kd.string) w B0 ss.length ss) (hc0:ss.length ≤ d0) (hr1:Kd.C (Kd.slice 158 k158) w B1 cs.length cs) (hc1:cs.length ≤ d1) (hok:StOk ss cs) :
  Calls Tryz.prog 142 #[.agg #[.slice A0 n0 c0,.slice A1 n1 c1,v2,v3,v4],.agg #[.slice B0 ss.length d0,.slice B1 cs.length d1]] w fun e w'=>e = .returned (.bool (mayS n0 n1 ss cs))∧Below w.heap.size w w':=by
 have HSS:Sd (∀ w',Below w.heap.size w w' → Calls Tryz.prog 162 #[.slice B0 ss.length d0,.func (.func 163) #[] #[]] w' fun e w''=>e = .returned (.bool (ss.any fun l=>!setB l))∧Below w'.heap.size w' w'') :=
  ⟨fun w' hw=>hasFStrs0 _ enter_may1 _ B0 d0 ss w' (Kd.C_below hr0 hw) hc0 hok.1.1 (fun x hx v hv w2 hb2=>by
   obtain ⟨A5,c5,rfl,k5,g5⟩:=hv
   exact may1_call A5 c5 x w2 (Kd.C_below g5 hb2) k5 (hok.2.1 x hx))⟩
 have HCC:Sd (∀ w',Below w.heap.size w w' → Calls Tryz.prog 165 #[.slice B1 cs.length d1,.func (.func 166) #[] #[]] w' fun e w''=>e = .returned (.bool (cs.any fun l=>!cntB l))∧Below w'.heap.size w' w'') :=
  ⟨fun w' hw=>hasFCells0 _ enter_may2 _ B1 d1 cs w' (Kd.C_below hr1 hw) hc1 hok.1.2 (fun x hx v hv w2 hb2=>by
   obtain ⟨A5,c5,rfl,k5,g5⟩:=hv
   exact may2_call A5 c5 x w2 (Kd.C_below g5 hb2) k5 (hok.2.2 x hx))⟩
 have HM:Sd (mayS n0 n1 ss cs=(decide (ss.length=n0) && (decide (cs.length=n1) && (!(ss.any fun l=>!setB l) && !(cs.any fun l=>!cntB l))))):=⟨by
  unfold mayS
  rw [List.not_any_eq_all_not,List.not_any_eq_all_not]
  simp⟩
 clear hr0 hr1 hc0 hc1 hok;generalize mayS n0 n1 ss cs=R at *;generalize (ss.any fun l=>!setB l)=b1 at *;generalize (cs.any fun l=>!cntB l)=b2 at *;generalize ss.length=m0 at *;generalize cs.length=m1 at *;go_enter Tryz.func142,Tryz.ntmps142;go_upto_region 1 with (first|((with_reducible refine gate_dst (N:=2) rfl ?_);refine box_event ?hg (N:=2) ?hd (cs:=#[.slice A0 n0 c0,.slice A1 n1 c1,v2,v3,v4]) (t:=26) ?hr ?_;(case hd=>rfl);(case hg=>rfl);(case hr=>first|(go_simp;done)|(go_simp;rfl));intro g hg w3 hbox hb;have HB:=Sd.mk hb;have BK:=Sd.mk hbox;have HG:=Sd.mk hg;clear hb hbox hg)|((with_reducible refine gate_dst (N:=3) rfl ?_);refine box_event ?hg (N:=3) ?hd (cs:=#[.slice B0 m0 d0,.slice B1 m1 d1]) (t:=80) ?hr ?_;(case hd=>rfl);(case hg=>rfl);(case hr=>first|(go_simp;done)|(go_simp;rfl));intro g2 hg w4 hbox hb;have HB2:=Sd.mk (below_step HB.out hb);have BK1:=Sd.mk (blk_below BK.out hb);have BK2:=Sd.mk hbox;clear hb hbox hg));obtain ⟨ha0,ha1⟩:=bc2 BK1.out;obtain ⟨hb0,hb1⟩:=bc2 BK2.out;by_cases e0:m0=n0
 ·(have f0:((m0:Int) == (n0:Int))=true:=by simp [e0]);have E0:=Sd.mk e0;clear e0;by_cases e1:m1=n1
  ·(have f1:((m1:Int) == (n1:Int))=true:=by simp [e1]);have HM2:Sd (R=(!b1 && !b2)):=⟨by rw [HM.out,decide_eq_true E0.out,decide_eq_true e1];rfl⟩;clear HM e1;go_wp2_with fail;refine (HSS.out _ HB2.out).mono ?_;rintro e w5 ⟨rfl,hb5⟩;have HB5:=Sd.mk (below_step HB2.out hb5);have BK5:=Sd.mk (blk_below BK2.out hb5);clear hb5 ha0 ha1 hb0 hb1;have hb1:w5.cell? ⟨g2,1,none⟩=some (.slice B1 m1 d1):=(blk_cell BK5.out 1).trans rfl;cases b1 with
   | true =>
    have HQ:Sd (R=false):=⟨by rw [HM2.out];rfl⟩;clear HM2;go_wp2_with fail;go_ret;exact ⟨by rw [HQ.out];rfl,HB5.out⟩
   | false =>
    have HQ:Sd (R = !b2):=⟨by rw [HM2.out];rfl⟩;clear HM2;go_wp2_with fail;refine (HCC.out _ HB5.out).mono ?_;rintro e w6 ⟨rfl,hb6⟩;have HB6:=Sd.mk (below_step HB5.out hb6);clear hb6 hb1;go_wp2_with fail;go_ret;exact ⟨by rw [HQ.out];rfl,HB6.out⟩
  ·(have f1:((m1:Int) == (n1:Int))=false:=by simp;omega);have HQ:Sd (R=false):=⟨by rw [HM.out,decide_eq_true E0.out,decide_eq_false e1];rfl⟩;clear HM e1;go_wp2_with fail;go_ret;exact ⟨by rw [HQ.out];rfl,HB2.out⟩
 ·(have f0:((m0:Int) == (n0:Int))=false:=by simp;omega);have HQ:Sd (R=false):=⟨by rw [HM.out,decide_eq_false e0];rfl⟩;clear HM e0;go_wp2_with fail;go_ret;exact ⟨by rw [HQ.out];rfl,HB2.out⟩
def eval_may.f (l0 l1 l2:List ByteArray) (l3:List S85) (l4:List S89) (ss:List (List ByteArray)) (cs:List (List Ce)):Option Bool:=if StOk ss cs then some (mayS l0.length l1.length ss cs) else none
theorem eval_may.calls (A0:Option Addr) (c0:Nat) (l0:List ByteArray) (A1:Option Addr) (c1:Nat) (l1:List ByteArray) (A2:Option Addr) (c2:Nat) (l2:List ByteArray) (A3:Option Addr) (c3:Nat) (l3:List S85) (A4:Option Addr) (c4:Nat) (l4:List S89) (B0:Option Addr) (d0:Nat) (ss:List (List ByteArray)) (B1:Option Addr) (d1:Nat) (cs:List (List Ce)) (r:Bool) (w:World)
  (_:Kd.C Kd.string w A0 l0.length l0) (_:l0.length ≤ c0) (_:Kd.C Kd.string w A1 l1.length l1) (_:l1.length ≤ c1) (_:Kd.C Kd.string w A2 l2.length l2) (_:l2.length ≤ c2) (_:Kd.C k85 w A3 l3.length l3) (_:l3.length ≤ c3) (_:Kd.C k89 w A4 l4.length l4) (_:l4.length ≤ c4)
  (hr0:Kd.C (Kd.slice 9 Kd.string) w B0 ss.length ss) (hc0:ss.length ≤ d0) (hr1:Kd.C (Kd.slice 158 k158) w B1 cs.length cs) (hc1:cs.length ≤ d1) (h:eval_may.f l0 l1 l2 l3 l4 ss cs=some r) :
  Calls Tryz.prog 142 #[.agg #[.slice A0 l0.length c0,.slice A1 l1.length c1,.slice A2 l2.length c2,.slice A3 l3.length c3,.slice A4 l4.length c4],.agg #[.slice B0 ss.length d0,.slice B1 cs.length d1]] w fun e w'=>e = .returned (.bool r)∧Below w.heap.size w w':=by
 unfold eval_may.f at h;split at h
 ·rename_i hok;cases h;exact may_call A0 c0 l0.length A1 c1 l1.length _ _ _ B0 d0 ss B1 d1 cs w hr0 hc0 hr1 hc1 hok
 ·cases h
def EVStr (w:World) (x:ByteArray) (v:Value):Prop:=v = .string x
theorem evStr {w:World} {x:ByteArray} {cs:List Value} (h:Kd.K Kd.string w x cs):cs = [.string x]∧EVStr w x (.string x):=by
 obtain rfl:=h;exact ⟨rfl,rfl⟩
set_option maxHeartbeats 4000000 in
set_option maxRecDepth 100000 in
theorem idxFStr2 (F:FuncId) (cv0:Value) (cv1:Value) (hF:∀ (args:Array Value) (w:World),(callFunc F args).run Tryz.prog w = .ok (.enter F args) w) (p:ByteArray → Bool) (A:Option Addr) (c:Nat) (l:List ByteArray) (w:World) (hr:Kd.C Kd.string w A l.length l) (hc:l.length ≤ c) (hn:l.length ≤ 4000000000)
  (hp:∀ x ∈ l,∀ v,EVStr w x v → ∀ w',Below w.heap.size w w' → Calls Tryz.prog F #[v,cv0,cv1] w' fun e w''=>e = .returned (.bool (p x))∧Below w'.heap.size w' w'') :
  Calls Tryz.prog 168 #[.slice A l.length c,.func (.func F) #[] #[cv0,cv1]] w fun e w'=>e = .returned (.int .i64 (idxF p l))∧Below w.heap.size w w':=by
 generalize hnl:l.length=n at *;have HNL:=Sd.mk hnl;have HR:=Sd.mk hr;have HP:=Sd.mk hp;clear hr hp hnl;go_enter Tryz.func168,Tryz.ntmps168;go_wp2_with fail;go_loopw [8] (fun v8 w'=>∃ i:Nat,v8 = .int .i64 (i:Int)∧i ≤ n∧Sd (∀ j,j < i → ∀ x,l[j]? = some x → p x=false)∧Sd (Below w.heap.size w w')) (fun v8 _=>((n:Int) - intV v8).toNat)
 case atStart=>exact ⟨0,rfl,Nat.zero_le _,⟨fun j hj=>absurd hj (by omega)⟩,⟨Below.refl _ _⟩⟩
 case round =>
  obtain ⟨i,rfl,hi,HA,HB⟩:=hrel;by_cases hlt:i < n
  ·(have hlt':decide ((i:Int) < (n:Int))=true:=by simp;omega);(have p0:0 ≤ (i:Int):=by omega);(have q0:(i:Int) < (n:Int):=by omega);obtain ⟨ad,cs,e0,_,hK,hc0⟩:=Kd.C_get HR.out ByteArray.empty (i:Int) p0 q0;cases e0;(have hget:l[i]? = some (l.getD i ByteArray.empty):=by rw [List.getD_eq_getElem?_getD,List.getElem?_eq_getElem (by rw [HNL.out];exact hlt)];rfl);simp only [Int.toNat_natCast] at hK hc0;generalize hx:l.getD i ByteArray.empty=x at *;have HX:=Sd.mk hget;have HM:Sd (x ∈ l):=⟨List.mem_of_getElem? hget⟩;clear hx hget;have hc1:∀ j u,cs[j]? = some u → w.cell? (ad.add (i * 1 + j))=some u:=hc0;have hEV:=evStr hK;obtain ⟨rfl,hev⟩:=hEV;(have hx0:w.cell? (ad.add i)=some (.string x):=by have h_:=hc1 0 _ rfl;simpa using h_);replace hx0:=(HB.out.cell (World.block_lt_of_cell? w _ hx0)).trans hx0;clear hc1 hc0 hK;have HEV:=Sd.mk hev;clear hev;replace p0:=eq_true p0;replace q0:=eq_true q0;cases hpx:p x with
   | true =>
    have HPX:=Sd.mk hpx;clear hpx;go_wp2_with fail;refine (HP.out x HM.out _ HEV.out _ HB.out).mono ?_;rintro e w1 ⟨rfl,hb⟩;have HB1:=Sd.mk (below_step HB.out hb);clear hb;have hpx:=HPX.out;go_wp2_with fail;go_ret;exact ⟨by rw [idxF_at p l i x HX.out HPX.out HA.out];rfl,HB1.out⟩
   | false =>
    have HPX:=Sd.mk hpx;clear hpx;go_wp2_with fail;refine (HP.out x HM.out _ HEV.out _ HB.out).mono ?_;rintro e w1 ⟨rfl,hb⟩;have HB1:=Sd.mk (below_step HB.out hb);clear hb;have hpx:=HPX.out;go_wp2_with fail;go_roundw
    case measure=>simp [intV];omega
    case rel =>
     refine ⟨i + 1,by simp,by omega,⟨fun j hj x' hx'=>?_⟩,HB1⟩;rcases Nat.lt_or_ge j i with h1|h1
     ·exact HA.out j h1 x' hx'
     ·(obtain rfl:j=i:=by omega);rw [HX.out] at hx';cases hx';exact HPX.out
  ·(have hlt':decide ((i:Int) < (n:Int))=false:=by simp;omega);go_wp2_with fail;go_ret;exact ⟨by rw [idxF_none p l (fun j x hx=>HA.out j (by have:=(List.getElem?_eq_some_iff.1 hx).1;have:=HNL.out;omega) x hx)];rfl,HB.out⟩
set_option maxHeartbeats 4000000 in
set_option maxRecDepth 100000 in
theorem hasFStr2 (F:FuncId) (cv0:Value) (cv1:Value) (hF:∀ (args:Array Value) (w:World),(callFunc F args).run Tryz.prog w = .ok (.enter F args) w) (p:ByteArray → Bool) (A:Option Addr) (c:Nat) (l:List ByteArray) (w:World) (hr:Kd.C Kd.string w A l.length l) (hc:l.length ≤ c) (hn:l.length ≤ 4000000000) (hp:∀ x ∈ l,∀ v,EVStr w x v → ∀ w',Below w.heap.size w w' → Calls Tryz.prog F #[v,cv0,cv1] w' fun e w''=>e = .returned (.bool (p x))∧Below w'.heap.size w' w''):Calls Tryz.prog 143 #[.slice A l.length c,.func (.func F) #[] #[cv0,cv1]] w fun e w'=>e = .returned (.bool (l.any p))∧Below w.heap.size w w':=by
 have HR:=Sd.mk hr;have HP:=Sd.mk hp;clear hr hp;go_enter Tryz.func143,Tryz.ntmps143;go_wp2_with fail;refine (idxFStr2 F cv0 cv1 hF p A c l _ HR.out hc hn HP.out).mono ?_;rintro e w' ⟨rfl,hb⟩;go_wp2_with fail;go_ret;exact ⟨congrArg (fun b=>Ending.returned (.bool b)) (idxF_any p l),hb⟩
def EVCell (w:World) (x:S158) (v:Value):Prop:=v = .agg #[.string x.f0,.int .i64 x.f1]
theorem evCell {w:World} {x:S158} {cs:List Value} (h:Kd.K k158 w x cs):cs = [.string x.f0,.int .i64 x.f1]∧EVCell w x (.agg #[.string x.f0,.int .i64 x.f1]):=by
 obtain rfl:=k158_open h;exact ⟨rfl,rfl⟩
set_option maxHeartbeats 4000000 in
set_option maxRecDepth 100000 in
theorem idxFCell1 (F:FuncId) (cv0:Value) (hF:∀ (args:Array Value) (w:World),(callFunc F args).run Tryz.prog w = .ok (.enter F args) w) (p:S158 → Bool) (A:Option Addr) (c:Nat) (l:List S158) (w:World) (hr:Kd.C k158 w A l.length l) (hc:l.length ≤ c) (hn:l.length ≤ 4000000000)
  (hp:∀ x ∈ l,∀ v,EVCell w x v → ∀ w',Below w.heap.size w w' → Calls Tryz.prog F #[v,cv0] w' fun e w''=>e = .returned (.bool (p x))∧Below w'.heap.size w' w'') :
  Calls Tryz.prog 170 #[.slice A l.length c,.func (.func F) #[] #[cv0]] w fun e w'=>e = .returned (.int .i64 (idxF p l))∧Below w.heap.size w w':=by
 generalize hnl:l.length=n at *;have HNL:=Sd.mk hnl;have HR:=Sd.mk hr;have HP:=Sd.mk hp;clear hr hp hnl;go_enter Tryz.func170,Tryz.ntmps170;go_wp2_with fail;go_loopw [8] (fun v8 w'=>∃ i:Nat,v8 = .int .i64 (i:Int)∧i ≤ n∧Sd (∀ j,j < i → ∀ x,l[j]? = some x → p x=false)∧Sd (Below w.heap.size w w')) (fun v8 _=>((n:Int) - intV v8).toNat)
 case atStart=>exact ⟨0,rfl,Nat.zero_le _,⟨fun j hj=>absurd hj (by omega)⟩,⟨Below.refl _ _⟩⟩
 case round =>
  obtain ⟨i,rfl,hi,HA,HB⟩:=hrel;by_cases hlt:i < n
  ·(have hlt':decide ((i:Int) < (n:Int))=true:=by simp;omega);(have p0:0 ≤ (i:Int):=by omega);(have q0:(i:Int) < (n:Int):=by omega);obtain ⟨ad,cs,e0,_,hK,hc0⟩:=Kd.C_get HR.out z158 (i:Int) p0 q0;cases e0;(have hget:l[i]? = some (l.getD i z158):=by rw [List.getD_eq_getElem?_getD,List.getElem?_eq_getElem (by rw [HNL.out];exact hlt)];rfl);simp only [Int.toNat_natCast] at hK hc0;generalize hx:l.getD i z158=x at *;have HX:=Sd.mk hget;have HM:Sd (x ∈ l):=⟨List.mem_of_getElem? hget⟩;clear hx hget;have hc1:∀ j u,cs[j]? = some u → w.cell? (ad.add (i * 2 + j))=some u:=hc0;have hEV:=evCell hK;obtain ⟨rfl,hev⟩:=hEV;have hx0:w.cell? (ad.add (i * 2))=some (.string x.f0):=hc1 0 _ rfl;(have hx1:w.cell? ⟨(ad.add (i * 2)).block,(ad.add (i * 2)).off + 1,none⟩=some (.int .i64 x.f1):=by rw [← add_field _ _ 1 (by omega)];exact hc1 1 _ rfl);replace hx0:=(HB.out.cell (World.block_lt_of_cell? w _ hx0)).trans hx0;replace hx1:=(HB.out.cell (World.block_lt_of_cell? w _ hx1)).trans hx1;clear hc1 hc0 hK;have HEV:=Sd.mk hev;clear hev;replace p0:=eq_true p0;replace q0:=eq_true q0;cases hpx:p x with
   | true =>
    have HPX:=Sd.mk hpx;clear hpx;go_wp2_with fail;refine (HP.out x HM.out _ HEV.out _ HB.out).mono ?_;rintro e w1 ⟨rfl,hb⟩;have HB1:=Sd.mk (below_step HB.out hb);clear hb;have hpx:=HPX.out;go_wp2_with fail;go_ret;exact ⟨by rw [idxF_at p l i x HX.out HPX.out HA.out];rfl,HB1.out⟩
   | false =>
    have HPX:=Sd.mk hpx;clear hpx;go_wp2_with fail;refine (HP.out x HM.out _ HEV.out _ HB.out).mono ?_;rintro e w1 ⟨rfl,hb⟩;have HB1:=Sd.mk (below_step HB.out hb);clear hb;have hpx:=HPX.out;go_wp2_with fail;go_roundw
    case measure=>simp [intV];omega
    case rel =>
     refine ⟨i + 1,by simp,by omega,⟨fun j hj x' hx'=>?_⟩,HB1⟩;rcases Nat.lt_or_ge j i with h1|h1
     ·exact HA.out j h1 x' hx'
     ·(obtain rfl:j=i:=by omega);rw [HX.out] at hx';cases hx';exact HPX.out
  ·(have hlt':decide ((i:Int) < (n:Int))=false:=by simp;omega);go_wp2_with fail;go_ret;exact ⟨by rw [idxF_none p l (fun j x hx=>HA.out j (by have:=(List.getElem?_eq_some_iff.1 hx).1;have:=HNL.out;omega) x hx)];rfl,HB.out⟩
set_option maxHeartbeats 4000000 in
set_option maxRecDepth 100000 in
theorem hasFCell1 (F:FuncId) (cv0:Value) (hF:∀ (args:Array Value) (w:World),(callFunc F args).run Tryz.prog w = .ok (.enter F args) w) (p:S158 → Bool) (A:Option Addr) (c:Nat) (l:List S158) (w:World) (hr:Kd.C k158 w A l.length l) (hc:l.length ≤ c) (hn:l.length ≤ 4000000000) (hp:∀ x ∈ l,∀ v,EVCell w x v → ∀ w',Below w.heap.size w w' → Calls Tryz.prog F #[v,cv0] w' fun e w''=>e = .returned (.bool (p x))∧Below w'.heap.size w' w''):Calls Tryz.prog 147 #[.slice A l.length c,.func (.func F) #[] #[cv0]] w fun e w'=>e = .returned (.bool (l.any p))∧Below w.heap.size w w':=by
 have HR:=Sd.mk hr;have HP:=Sd.mk hp;clear hr hp;go_enter Tryz.func147,Tryz.ntmps147;go_wp2_with fail;refine (idxFCell1 F cv0 hF p A c l _ HR.out hc hn HP.out).mono ?_;rintro e w' ⟨rfl,hb⟩;go_wp2_with fail;go_ret;exact ⟨congrArg (fun b=>Ending.returned (.bool b)) (idxF_any p l),hb⟩
set_option maxHeartbeats 4000000 in
set_option maxRecDepth 100000 in
theorem idxFCell2 (F:FuncId) (cv0:Value) (cv1:Value) (hF:∀ (args:Array Value) (w:World),(callFunc F args).run Tryz.prog w = .ok (.enter F args) w) (p:S158 → Bool) (A:Option Addr) (c:Nat) (l:List S158) (w:World) (hr:Kd.C k158 w A l.length l) (hc:l.length ≤ c) (hn:l.length ≤ 4000000000)
  (hp:∀ x ∈ l,∀ v,EVCell w x v → ∀ w',Below w.heap.size w w' → Calls Tryz.prog F #[v,cv0,cv1] w' fun e w''=>e = .returned (.bool (p x))∧Below w'.heap.size w' w'') :
  Calls Tryz.prog 170 #[.slice A l.length c,.func (.func F) #[] #[cv0,cv1]] w fun e w'=>e = .returned (.int .i64 (idxF p l))∧Below w.heap.size w w':=by
 generalize hnl:l.length=n at *;have HNL:=Sd.mk hnl;have HR:=Sd.mk hr;have HP:=Sd.mk hp;clear hr hp hnl;go_enter Tryz.func170,Tryz.ntmps170;go_wp2_with fail;go_loopw [8] (fun v8 w'=>∃ i:Nat,v8 = .int .i64 (i:Int)∧i ≤ n∧Sd (∀ j,j < i → ∀ x,l[j]? = some x → p x=false)∧Sd (Below w.heap.size w w')) (fun v8 _=>((n:Int) - intV v8).toNat)
 case atStart=>exact ⟨0,rfl,Nat.zero_le _,⟨fun j hj=>absurd hj (by omega)⟩,⟨Below.refl _ _⟩⟩
 case round =>
  obtain ⟨i,rfl,hi,HA,HB⟩:=hrel;by_cases hlt:i < n
  ·(have hlt':decide ((i:Int) < (n:Int))=true:=by simp;omega);(have p0:0 ≤ (i:Int):=by omega);(have q0:(i:Int) < (n:Int):=by omega);obtain ⟨ad,cs,e0,_,hK,hc0⟩:=Kd.C_get HR.out z158 (i:Int) p0 q0;cases e0;(have hget:l[i]? = some (l.getD i z158):=by rw [List.getD_eq_getElem?_getD,List.getElem?_eq_getElem (by rw [HNL.out];exact hlt)];rfl);simp only [Int.toNat_natCast] at hK hc0;generalize hx:l.getD i z158=x at *;have HX:=Sd.mk hget;have HM:Sd (x ∈ l):=⟨List.mem_of_getElem? hget⟩;clear hx hget;have hc1:∀ j u,cs[j]? = some u → w.cell? (ad.add (i * 2 + j))=some u:=hc0;have hEV:=evCell hK;obtain ⟨rfl,hev⟩:=hEV;have hx0:w.cell? (ad.add (i * 2))=some (.string x.f0):=hc1 0 _ rfl;(have hx1:w.cell? ⟨(ad.add (i * 2)).block,(ad.add (i * 2)).off + 1,none⟩=some (.int .i64 x.f1):=by rw [← add_field _ _ 1 (by omega)];exact hc1 1 _ rfl);replace hx0:=(HB.out.cell (World.block_lt_of_cell? w _ hx0)).trans hx0;replace hx1:=(HB.out.cell (World.block_lt_of_cell? w _ hx1)).trans hx1;clear hc1 hc0 hK;have HEV:=Sd.mk hev;clear hev;replace p0:=eq_true p0;replace q0:=eq_true q0;cases hpx:p x with
   | true =>
    have HPX:=Sd.mk hpx;clear hpx;go_wp2_with fail;refine (HP.out x HM.out _ HEV.out _ HB.out).mono ?_;rintro e w1 ⟨rfl,hb⟩;have HB1:=Sd.mk (below_step HB.out hb);clear hb;have hpx:=HPX.out;go_wp2_with fail;go_ret;exact ⟨by rw [idxF_at p l i x HX.out HPX.out HA.out];rfl,HB1.out⟩
   | false =>
    have HPX:=Sd.mk hpx;clear hpx;go_wp2_with fail;refine (HP.out x HM.out _ HEV.out _ HB.out).mono ?_;rintro e w1 ⟨rfl,hb⟩;have HB1:=Sd.mk (below_step HB.out hb);clear hb;have hpx:=HPX.out;go_wp2_with fail;go_roundw
    case measure=>simp [intV];omega
    case rel =>
     refine ⟨i + 1,by simp,by omega,⟨fun j hj x' hx'=>?_⟩,HB1⟩;rcases Nat.lt_or_ge j i with h1|h1
     ·exact HA.out j h1 x' hx'
     ·(obtain rfl:j=i:=by omega);rw [HX.out] at hx';cases hx';exact HPX.out
  ·(have hlt':decide ((i:Int) < (n:Int))=false:=by simp;omega);go_wp2_with fail;go_ret;exact ⟨by rw [idxF_none p l (fun j x hx=>HA.out j (by have:=(List.getElem?_eq_some_iff.1 hx).1;have:=HNL.out;omega) x hx)];rfl,HB.out⟩
set_option maxHeartbeats 4000000 in
set_option maxRecDepth 100000 in
theorem hasFCell2 (F:FuncId) (cv0:Value) (cv1:Value) (hF:∀ (args:Array Value) (w:World),(callFunc F args).run Tryz.prog w = .ok (.enter F args) w) (p:S158 → Bool) (A:Option Addr) (c:Nat) (l:List S158) (w:World) (hr:Kd.C k158 w A l.length l) (hc:l.length ≤ c) (hn:l.length ≤ 4000000000) (hp:∀ x ∈ l,∀ v,EVCell w x v → ∀ w',Below w.heap.size w w' → Calls Tryz.prog F #[v,cv0,cv1] w' fun e w''=>e = .returned (.bool (p x))∧Below w'.heap.size w' w''):Calls Tryz.prog 147 #[.slice A l.length c,.func (.func F) #[] #[cv0,cv1]] w fun e w'=>e = .returned (.bool (l.any p))∧Below w.heap.size w w':=by
 have HR:=Sd.mk hr;have HP:=Sd.mk hp;clear hr hp;go_enter Tryz.func147,Tryz.ntmps147;go_wp2_with fail;refine (idxFCell2 F cv0 cv1 hF p A c l _ HR.out hc hn HP.out).mono ?_;rintro e w' ⟨rfl,hb⟩;go_wp2_with fail;go_ret;exact ⟨congrArg (fun b=>Ending.returned (.bool b)) (idxF_any p l),hb⟩
theorem row_at {w:World} {B:Option Addr} {ss:List (List ByteArray)} (h:Kd.C (Kd.slice 9 Kd.string) w B ss.length ss) (i:Nat) (hi:i < ss.length) :
  ∃ ad A1 c1,B=some ad∧w.cell? (ad.add i)=some (.slice A1 (ss.getD i []).length c1)∧(ss.getD i []).length ≤ c1∧Kd.C Kd.string w A1 (ss.getD i []).length (ss.getD i []):=by
 obtain ⟨ad,cs,e0,_,hK,hc⟩:=Kd.C_get h ([]:List ByteArray) (i:Int) (by omega) (by omega);simp only [Int.toNat_natCast] at hK hc;obtain ⟨A1,c1,rfl,l1,g1⟩:=hK;have h1:=hc 0 _ rfl;rw [show (Kd.slice 9 Kd.string).sz=1 from rfl,Nat.mul_one,Nat.add_zero] at h1;exact ⟨ad,A1,c1,e0,h1,l1,g1⟩
theorem rowc_at {w:World} {B:Option Addr} {cs:List (List Ce)} (h:Kd.C (Kd.slice 158 k158) w B cs.length cs) (i:Nat) (hi:i < cs.length) :
  ∃ ad A1 c1,B=some ad∧w.cell? (ad.add i)=some (.slice A1 (cs.getD i []).length c1)∧(cs.getD i []).length ≤ c1∧Kd.C k158 w A1 (cs.getD i []).length (cs.getD i []):=by
 obtain ⟨ad,vs,e0,_,hK,hc⟩:=Kd.C_get h ([]:List Ce) (i:Int) (by omega) (by omega);simp only [Int.toNat_natCast] at hK hc;obtain ⟨A1,c1,rfl,l1,g1⟩:=hK;have h1:=hc 0 _ rfl;rw [show (Kd.slice 158 k158).sz=1 from rfl,Nat.mul_one,Nat.add_zero] at h1;exact ⟨ad,A1,c1,e0,h1,l1,g1⟩
theorem enter_holds1 (args:Array Value) (w:World):(callFunc 144 args).run Tryz.prog w = .ok (.enter 144 args) w:=by kernel_rfl
theorem enter_holds2 (args:Array Value) (w:World):(callFunc 146 args).run Tryz.prog w = .ok (.enter 146 args) w:=by kernel_rfl
theorem enter_holds3 (args:Array Value) (w:World):(callFunc 148 args).run Tryz.prog w = .ok (.enter 148 args) w:=by kernel_rfl
theorem enter_holds4 (args:Array Value) (w:World):(callFunc 149 args).run Tryz.prog w = .ok (.enter 149 args) w:=by kernel_rfl
theorem enter_holds5 (args:Array Value) (w:World):(callFunc 150 args).run Tryz.prog w = .ok (.enter 150 args) w:=by kernel_rfl
set_option maxHeartbeats 4000000 in
set_option maxRecDepth 100000 in
theorem holds1_call (gs gc:Nat) (B0:Option Addr) (d0:Nat) (ss:List (List ByteArray)) (v1 q0 q1 q2 q4:Value) (b:Nat) (key:ByteArray) (w:World) (hs:w.heap[gs]? = some (.cells #[.slice B0 ss.length d0,v1] 80 (0,0))) (hc:w.heap[gc]? = some (.cells #[q0,q1,q2,.int .i64 (b:Int),q4] 85 (0,0))) (hr:Kd.C (Kd.slice 9 Kd.string) w B0 ss.length ss) (hb:b < ss.length) (hl:(ss.getD b []).length ≤ 4000000000) (ho:OrdK (ss.getD b [])) :
  Calls Tryz.prog 144 #[.string key,.pointer (some ⟨gs,0,none⟩),.pointer (some ⟨gc,0,none⟩)] w fun e w'=>e = .returned (.bool (!inB (ss.getD b []) key))∧Below w.heap.size w w':=by
 obtain ⟨ad,A1,c1,rfl,hx,k1,g1⟩:=row_at hr b hb;have HIN:=Sd.mk (fun m=>in_quiet A1 c1 (ss.getD b []) key (w.drewN m) (Kd.C_drewN g1 m) k1 hl ho);have a0:w.cell? ⟨gs,0,none⟩=some (.slice (some ad) ss.length d0):=(blk_cell hs 0).trans rfl;have a3:w.cell? ⟨gc,3,none⟩=some (.int .i64 (b:Int)):=(blk_cell hc 3).trans rfl;have q:((b:Int) < (ss.length:Int))=True:=eq_true (by omega);clear hs hc hr hb hl ho k1 g1;generalize (ss.getD b []).length=n1 at *;generalize inB (ss.getD b []) key=r at *;generalize ss.length=n at *;go_enter Tryz.func144,Tryz.ntmps144;go_wp2_with fail;refine (HIN.out 0).mono ?_;rintro e w1 ⟨rfl,m,rfl⟩;go_wp2_with fail;go_ret;exact ⟨rfl,pw_below_drewN (Below.refl _ _) _⟩
set_option maxHeartbeats 4000000 in
set_option maxRecDepth 100000 in
theorem holds2_call (gs gc:Nat) (B0:Option Addr) (d0:Nat) (ss:List (List ByteArray)) (v1 q0 q1 q2 q4:Value) (b:Nat) (key:ByteArray) (w:World) (hs:w.heap[gs]? = some (.cells #[.slice B0 ss.length d0,v1] 80 (0,0))) (hc:w.heap[gc]? = some (.cells #[q0,q1,q2,.int .i64 (b:Int),q4] 85 (0,0))) (hr:Kd.C (Kd.slice 9 Kd.string) w B0 ss.length ss) (hb:b < ss.length) (hl:(ss.getD b []).length ≤ 4000000000) (ho:OrdK (ss.getD b [])) :
  Calls Tryz.prog 146 #[.string key,.pointer (some ⟨gs,0,none⟩),.pointer (some ⟨gc,0,none⟩)] w fun e w'=>e = .returned (.bool (inB (ss.getD b []) key))∧Below w.heap.size w w':=by
 obtain ⟨ad,A1,c1,rfl,hx,k1,g1⟩:=row_at hr b hb;have HIN:=Sd.mk (fun m=>in_quiet A1 c1 (ss.getD b []) key (w.drewN m) (Kd.C_drewN g1 m) k1 hl ho);have a0:w.cell? ⟨gs,0,none⟩=some (.slice (some ad) ss.length d0):=(blk_cell hs 0).trans rfl;have a3:w.cell? ⟨gc,3,none⟩=some (.int .i64 (b:Int)):=(blk_cell hc 3).trans rfl;have q:((b:Int) < (ss.length:Int))=True:=eq_true (by omega);clear hs hc hr hb hl ho k1 g1;generalize (ss.getD b []).length=n1 at *;generalize inB (ss.getD b []) key=r at *;generalize ss.length=n at *;go_enter Tryz.func146,Tryz.ntmps146;go_wp2_with fail;refine (HIN.out 0).mono ?_;rintro e w1 ⟨rfl,m,rfl⟩;go_wp2_with fail;go_ret;exact ⟨rfl,pw_below_drewN (Below.refl _ _) _⟩
set_option maxHeartbeats 4000000 in
set_option maxRecDepth 100000 in
theorem holds3_call (gc:Nat) (q0 q1 q2 q3:Value) (N:Int) (x:Ce) (w:World) (hc:w.heap[gc]? = some (.cells #[q0,q1,q2,q3,.int .i64 N] 85 (0,0))) :
  Calls Tryz.prog 148 #[.agg #[.string x.f0,.int .i64 x.f1],.pointer (some ⟨gc,0,none⟩)] w fun e w'=>e = .returned (.bool (decide ((N:Int) < x.f1)))∧Below w.heap.size w w':=by
 have HC:=Sd.mk hc;clear hc;go_enter Tryz.func148,Tryz.ntmps148;go_upto_region 1 with (((with_reducible refine gate_dst (N:=2) rfl ?_);refine box_event ?hg (N:=2) ?hd (cs:=#[.string x.f0,.int .i64 x.f1]) (t:=158) ?hr ?_;(case hd=>rfl);(case hg=>rfl);(case hr=>first|(go_simp;done)|(go_simp;rfl));intro g hg w3 hbox hb;have HB:=Sd.mk hb;have BK:=Sd.mk hbox;have BC:=Sd.mk (blk_below HC.out hb);clear hb hbox hg));have a1:w3.cell? ⟨g,1,none⟩=some (.int .i64 x.f1):=(blk_cell BK.out 1).trans rfl;have a4:w3.cell? ⟨gc,4,none⟩=some (.int .i64 N):=(blk_cell BC.out 4).trans rfl;go_wp2_with fail;go_ret;exact ⟨rfl,HB.out⟩
set_option maxHeartbeats 4000000 in
set_option maxRecDepth 100000 in
theorem holds4_call (gc:Nat) (q0 q1 q2 q3:Value) (N:Int) (x:Ce) (w:World) (hc:w.heap[gc]? = some (.cells #[q0,q1,q2,q3,.int .i64 N] 85 (0,0))) :
  Calls Tryz.prog 149 #[.agg #[.string x.f0,.int .i64 x.f1],.pointer (some ⟨gc,0,none⟩)] w fun e w'=>e = .returned (.bool (decide (x.f1 < N)))∧Below w.heap.size w w':=by
 have HC:=Sd.mk hc;clear hc;go_enter Tryz.func149,Tryz.ntmps149;go_upto_region 1 with (((with_reducible refine gate_dst (N:=2) rfl ?_);refine box_event ?hg (N:=2) ?hd (cs:=#[.string x.f0,.int .i64 x.f1]) (t:=158) ?hr ?_;(case hd=>rfl);(case hg=>rfl);(case hr=>first|(go_simp;done)|(go_simp;rfl));intro g hg w3 hbox hb;have HB:=Sd.mk hb;have BK:=Sd.mk hbox;have BC:=Sd.mk (blk_below HC.out hb);clear hb hbox hg));have a1:w3.cell? ⟨g,1,none⟩=some (.int .i64 x.f1):=(blk_cell BK.out 1).trans rfl;have a4:w3.cell? ⟨gc,4,none⟩=some (.int .i64 N):=(blk_cell BC.out 4).trans rfl;go_wp2_with fail;go_ret;exact ⟨rfl,HB.out⟩
set_option maxHeartbeats 4000000 in
set_option maxRecDepth 100000 in
theorem holds5_call (gs gc:Nat) (B0:Option Addr) (d0:Nat) (ss:List (List ByteArray)) (v1 q0 q1 q2 q4:Value) (b:Nat) (x:Ce) (w:World) (hs:w.heap[gs]? = some (.cells #[.slice B0 ss.length d0,v1] 80 (0,0))) (hc:w.heap[gc]? = some (.cells #[q0,q1,q2,.int .i64 (b:Int),q4] 85 (0,0))) (hr:Kd.C (Kd.slice 9 Kd.string) w B0 ss.length ss) (hb:b < ss.length) (hl:(ss.getD b []).length ≤ 4000000000) (ho:OrdK (ss.getD b [])) :
  Calls Tryz.prog 150 #[.agg #[.string x.f0,.int .i64 x.f1],.pointer (some ⟨gs,0,none⟩),.pointer (some ⟨gc,0,none⟩)] w fun e w'=>e = .returned (.bool (decide (0 < x.f1) && !inB (ss.getD b []) x.f0))∧Below w.heap.size w w':=by
 have HS:=Sd.mk hs;have HC:=Sd.mk hc;have HR:=Sd.mk hr;have HIN:=Sd.mk (fun w' A1 c1 (h1:Kd.C Kd.string w' A1 (ss.getD b []).length (ss.getD b [])) k1=>in_quiet A1 c1 (ss.getD b []) x.f0 w' h1 k1 hl ho);have HLT:=Sd.mk hb;clear hs hc hr hl ho;generalize inB (ss.getD b []) x.f0=r at *;go_enter Tryz.func150,Tryz.ntmps150;go_upto_region 1 with (((with_reducible refine gate_dst (N:=3) rfl ?_);refine box_event ?hg (N:=3) ?hd (cs:=#[.string x.f0,.int .i64 x.f1]) (t:=158) ?hr ?_;(case hd=>rfl);(case hg=>rfl);(case hr=>first|(go_simp;done)|(go_simp;rfl));intro g hg w3 hbox hb3;have HB:=Sd.mk hb3;have BK:=Sd.mk hbox;have BC:=Sd.mk (blk_below HC.out hb3);have BS:=Sd.mk (blk_below HS.out hb3);have HR3:=Sd.mk (Kd.C_below HR.out hb3);clear hb3 hbox hg));obtain ⟨ad,A1,c1,rfl,hx,k1,g1⟩:=row_at HR3.out b hb;have HIQ:=Sd.mk (fun m=>HIN.out (w3.drewN m) A1 c1 (Kd.C_drewN g1 m) k1);have a0:w3.cell? ⟨gs,0,none⟩=some (.slice (some ad) ss.length d0):=(blk_cell BS.out 0).trans rfl;have a3:w3.cell? ⟨gc,3,none⟩=some (.int .i64 (b:Int)):=(blk_cell BC.out 3).trans rfl;obtain ⟨b0,b1⟩:=bc2 BK.out;have q:((b:Int) < (ss.length:Int))=True:=eq_true (by omega);clear hb k1 g1 HS HC HR HIN HR3 BS BC HLT;generalize (ss.getD b []).length=n1 at *;generalize ss.length=n at *;by_cases hp:0 < x.f1
 ·have hp':decide (0 < x.f1)=true:=decide_eq_true hp;clear hp;go_quiet (first|(go_at_call 145;refine Calls.quiet_of (HIQ.out _)));go_wp2_with fail;go_ret;exact ⟨by rw [hp'];rfl,pw_below_drewN HB.out _⟩
 ·have hp':decide (0 < x.f1)=false:=decide_eq_false hp;clear hp;go_quiet (first|(go_at_call 145;refine Calls.quiet_of (HIQ.out _)));go_wp2_with fail;go_ret;exact ⟨by rw [hp'];rfl,pw_below_drewN HB.out _⟩
def holdsB (ss:List (List ByteArray)) (cs:List (List Ce)) (c:Cl):Bool :=
 if c.f0=4 then !(ss.getD c.f2.toNat []).any (fun k=>!inB (ss.getD c.f3.toNat []) k)
 else if c.f0=5 then !(ss.getD c.f2.toNat []).any (fun k=>inB (ss.getD c.f3.toNat []) k)
 else if c.f0=6 then decide (((ss.getD c.f2.toNat []).length:Int) ≤ c.f4)
 else if c.f0=7 then !(cs.getD c.f2.toNat []).any (fun x=>decide (c.f4 < x.f1))
 else if c.f0=8 then !(cs.getD c.f2.toNat []).any (fun x=>decide (x.f1 < c.f4))
 else !(cs.getD c.f2.toNat []).any (fun x=>decide (0 < x.f1) && !inB (ss.getD c.f3.toNat []) x.f0)
def inR (i:Int) (n:Nat):Prop:=0 ≤ i∧i < (n:Int)
instance (i:Int) (n:Nat):Decidable (inR i n):=by unfold inR;infer_instance
def HoldsOk (ss:List (List ByteArray)) (cs:List (List Ce)) (c:Cl):Prop :=
 StOk ss cs∧(∀ l ∈ ss,OrdK l)∧((c.f0=4∧inR c.f2 ss.length∧inR c.f3 ss.length) ∨ (c.f0=5∧inR c.f2 ss.length∧inR c.f3 ss.length) ∨ (c.f0=6∧inR c.f2 ss.length) ∨ (c.f0=7∧inR c.f2 cs.length) ∨ (c.f0=8∧inR c.f2 cs.length) ∨ (c.f0=9∧inR c.f2 cs.length∧inR c.f3 ss.length))
instance (ss:List (List ByteArray)) (cs:List (List Ce)) (c:Cl):Decidable (HoldsOk ss cs c):=by unfold HoldsOk;infer_instance
theorem getD_at {α:Type} (l:List α) (z:α) (p:Nat) (h:p < l.length):l.getD p z ∈ l:=by simp [List.getD,h]
set_option maxHeartbeats 8000000 in
set_option maxRecDepth 100000 in
theorem holds_k4 (B0:Option Addr) (d0:Nat) (ss:List (List ByteArray)) (B1:Option Addr) (d1:Nat) (cs:List (List Ce)) (f1:Bool) (a b:Nat) (N:Int) (w:World)
  (hr0:Kd.C (Kd.slice 9 Kd.string) w B0 ss.length ss) (hr1:Kd.C (Kd.slice 158 k158) w B1 cs.length cs) (hok:StOk ss cs) (ho:∀ l ∈ ss,OrdK l) (ha:a < ss.length) (hb:b < ss.length) :
  Calls Tryz.prog 122 #[.agg #[.slice B0 ss.length d0,.slice B1 cs.length d1],.agg #[.int .i64 4,.bool f1,.int .i64 (a:Int),.int .i64 (b:Int),.int .i64 N]] w fun e w'=>e = .returned (.bool (!(ss.getD a []).any (fun k=>!inB (ss.getD b []) k)))∧Below w.heap.size w w':=by
 (have hmf:∀ (fn:Fn) (first cap:Array Value) (w:World),(Instr.makeFunc fn first cap).run Tryz.prog w = .ok (.func fn first cap) w:=fun _ _ _ _=>rfl);have HR0:=Sd.mk hr0;have HR1:=Sd.mk hr1;clear hr0 hr1;generalize hR:((ss.getD a []).any (fun k=>!inB (ss.getD b []) k))=r;have HRR:=Sd.mk hR;clear hR;go_enter Tryz.func122,Tryz.ntmps122;go_upto_region 1 with (first|((with_reducible refine gate_dst (N:=2) rfl ?_);refine box_event ?hg (N:=2) ?hd (cs:=#[.slice B0 ss.length d0,.slice B1 cs.length d1]) (t:=80) ?hr ?_;(case hd=>rfl);(case hg=>rfl);(case hr=>first|(go_simp;done)|(go_simp;rfl));intro g hg w3 hbox hb3;have HB:=Sd.mk hb3;have BK:=Sd.mk hbox;clear hb3 hbox hg)|((with_reducible refine gate_dst (N:=3) rfl ?_);refine box_event ?hg (N:=3) ?hd (cs:=#[.int .i64 4,.bool f1,.int .i64 (a:Int),.int .i64 (b:Int),.int .i64 N]) (t:=85) ?hr ?_;(case hd=>rfl);(case hg=>rfl);(case hr=>first|(go_simp;done)|(go_simp;rfl));intro g2 hg w4 hbox hb3;have HB2:=Sd.mk (below_step HB.out hb3);have BK1:=Sd.mk (blk_below BK.out hb3);have BK2:=Sd.mk hbox;clear hb3 hbox hg));obtain ⟨ha0,ha1⟩:=bc2 BK1.out;have hc0:w4.cell? ⟨g2,0,none⟩=some (.int .i64 4):=(blk_cell BK2.out 0).trans rfl;have hc2:w4.cell? ⟨g2,2,none⟩=some (.int .i64 (a:Int)):=(blk_cell BK2.out 2).trans rfl;have hc4:w4.cell? ⟨g2,4,none⟩=some (.int .i64 N):=(blk_cell BK2.out 4).trans rfl;obtain ⟨ad,A5,c5,rfl,hx,k5,g5⟩:=row_at (Kd.C_below HR0.out HB2.out) a ha;have q:((a:Int) < (ss.length:Int))=True:=eq_true (by omega);have HCF:Sd (Calls Tryz.prog 143 #[.slice A5 (ss.getD a []).length c5,.func (.func 144) #[] #[.pointer (some ⟨g,0,none⟩),.pointer (some ⟨g2,0,none⟩)]] w4 fun e w''=>e = .returned (.bool ((ss.getD a []).any (fun k=>!inB (ss.getD b []) k)))∧Below w4.heap.size w4 w'') :=
  ⟨hasFStr2 _ _ _ enter_holds1 _ A5 c5 _ w4 g5 k5 (hok.2.1 _ (getD_at ss [] a ha)) (fun x hx2 v hv w5 hb5=>by
   cases hv
   exact holds1_call g g2 (some ad) d0 ss _ _ _ _ _ b x w5 (blk_below BK1.out hb5) (blk_below BK2.out hb5) (Kd.C_below HR0.out (below_step HB2.out hb5)) hb (hok.2.1 _ (getD_at ss [] b hb)) (ho _ (getD_at ss [] b hb)))⟩
 rw [HRR.out] at HCF;clear HRR;clear ha g5 k5 hok ho HR0 HR1 hb;generalize (ss.getD a []).length=n5 at *;generalize ss.length=n0 at *;generalize cs.length=n1 at *;go_wp2_with fail;refine HCF.out.mono ?_;rintro e w5 ⟨rfl,hb5⟩;have HB5:=Sd.mk (below_step HB2.out hb5);clear hb5;go_wp2_with fail;go_ret;exact ⟨rfl,HB5.out⟩
set_option maxHeartbeats 8000000 in
set_option maxRecDepth 100000 in
theorem holds_k5 (B0:Option Addr) (d0:Nat) (ss:List (List ByteArray)) (B1:Option Addr) (d1:Nat) (cs:List (List Ce)) (f1:Bool) (a b:Nat) (N:Int) (w:World)
  (hr0:Kd.C (Kd.slice 9 Kd.string) w B0 ss.length ss) (hr1:Kd.C (Kd.slice 158 k158) w B1 cs.length cs) (hok:StOk ss cs) (ho:∀ l ∈ ss,OrdK l) (ha:a < ss.length) (hb:b < ss.length) :
  Calls Tryz.prog 122 #[.agg #[.slice B0 ss.length d0,.slice B1 cs.length d1],.agg #[.int .i64 5,.bool f1,.int .i64 (a:Int),.int .i64 (b:Int),.int .i64 N]] w fun e w'=>e = .returned (.bool (!(ss.getD a []).any (fun k=>inB (ss.getD b []) k)))∧Below w.heap.size w w':=by
 (have hmf:∀ (fn:Fn) (first cap:Array Value) (w:World),(Instr.makeFunc fn first cap).run Tryz.prog w = .ok (.func fn first cap) w:=fun _ _ _ _=>rfl);have HR0:=Sd.mk hr0;have HR1:=Sd.mk hr1;clear hr0 hr1;generalize hR:((ss.getD a []).any (fun k=>inB (ss.getD b []) k))=r;have HRR:=Sd.mk hR;clear hR;go_enter Tryz.func122,Tryz.ntmps122;go_upto_region 1 with (first|((with_reducible refine gate_dst (N:=2) rfl ?_);refine box_event ?hg (N:=2) ?hd (cs:=#[.slice B0 ss.length d0,.slice B1 cs.length d1]) (t:=80) ?hr ?_;(case hd=>rfl);(case hg=>rfl);(case hr=>first|(go_simp;done)|(go_simp;rfl));intro g hg w3 hbox hb3;have HB:=Sd.mk hb3;have BK:=Sd.mk hbox;clear hb3 hbox hg)|((with_reducible refine gate_dst (N:=3) rfl ?_);refine box_event ?hg (N:=3) ?hd (cs:=#[.int .i64 5,.bool f1,.int .i64 (a:Int),.int .i64 (b:Int),.int .i64 N]) (t:=85) ?hr ?_;(case hd=>rfl);(case hg=>rfl);(case hr=>first|(go_simp;done)|(go_simp;rfl));intro g2 hg w4 hbox hb3;have HB2:=Sd.mk (below_step HB.out hb3);have BK1:=Sd.mk (blk_below BK.out hb3);have BK2:=Sd.mk hbox;clear hb3 hbox hg));obtain ⟨ha0,ha1⟩:=bc2 BK1.out;have hc0:w4.cell? ⟨g2,0,none⟩=some (.int .i64 5):=(blk_cell BK2.out 0).trans rfl;have hc2:w4.cell? ⟨g2,2,none⟩=some (.int .i64 (a:Int)):=(blk_cell BK2.out 2).trans rfl;have hc4:w4.cell? ⟨g2,4,none⟩=some (.int .i64 N):=(blk_cell BK2.out 4).trans rfl;obtain ⟨ad,A5,c5,rfl,hx,k5,g5⟩:=row_at (Kd.C_below HR0.out HB2.out) a ha;have q:((a:Int) < (ss.length:Int))=True:=eq_true (by omega);have HCF:Sd (Calls Tryz.prog 143 #[.slice A5 (ss.getD a []).length c5,.func (.func 146) #[] #[.pointer (some ⟨g,0,none⟩),.pointer (some ⟨g2,0,none⟩)]] w4 fun e w''=>e = .returned (.bool ((ss.getD a []).any (fun k=>inB (ss.getD b []) k)))∧Below w4.heap.size w4 w'') :=
  ⟨hasFStr2 _ _ _ enter_holds2 _ A5 c5 _ w4 g5 k5 (hok.2.1 _ (getD_at ss [] a ha)) (fun x hx2 v hv w5 hb5=>by
   cases hv
   exact holds2_call g g2 (some ad) d0 ss _ _ _ _ _ b x w5 (blk_below BK1.out hb5) (blk_below BK2.out hb5) (Kd.C_below HR0.out (below_step HB2.out hb5)) hb (hok.2.1 _ (getD_at ss [] b hb)) (ho _ (getD_at ss [] b hb)))⟩
 rw [HRR.out] at HCF;clear HRR;clear ha g5 k5 hok ho HR0 HR1 hb;generalize (ss.getD a []).length=n5 at *;generalize ss.length=n0 at *;generalize cs.length=n1 at *;go_wp2_with fail;refine HCF.out.mono ?_;rintro e w5 ⟨rfl,hb5⟩;have HB5:=Sd.mk (below_step HB2.out hb5);clear hb5;go_wp2_with fail;go_ret;exact ⟨rfl,HB5.out⟩
set_option maxHeartbeats 8000000 in
set_option maxRecDepth 100000 in
theorem holds_k6 (B0:Option Addr) (d0:Nat) (ss:List (List ByteArray)) (B1:Option Addr) (d1:Nat) (cs:List (List Ce)) (f1:Bool) (a:Nat) (b N:Int) (w:World)
  (hr0:Kd.C (Kd.slice 9 Kd.string) w B0 ss.length ss) (hr1:Kd.C (Kd.slice 158 k158) w B1 cs.length cs) (hok:StOk ss cs) (ho:∀ l ∈ ss,OrdK l) (ha:a < ss.length) :
  Calls Tryz.prog 122 #[.agg #[.slice B0 ss.length d0,.slice B1 cs.length d1],.agg #[.int .i64 6,.bool f1,.int .i64 (a:Int),.int .i64 b,.int .i64 N]] w fun e w'=>e = .returned (.bool (decide (((ss.getD a []).length:Int) ≤ N)))∧Below w.heap.size w w':=by
 (have hmf:∀ (fn:Fn) (first cap:Array Value) (w:World),(Instr.makeFunc fn first cap).run Tryz.prog w = .ok (.func fn first cap) w:=fun _ _ _ _=>rfl);have HR0:=Sd.mk hr0;have HR1:=Sd.mk hr1;clear hr0 hr1;generalize hR:(decide (((ss.getD a []).length:Int) ≤ N))=r;have HRR:=Sd.mk hR;clear hR;go_enter Tryz.func122,Tryz.ntmps122;go_upto_region 1 with (first|((with_reducible refine gate_dst (N:=2) rfl ?_);refine box_event ?hg (N:=2) ?hd (cs:=#[.slice B0 ss.length d0,.slice B1 cs.length d1]) (t:=80) ?hr ?_;(case hd=>rfl);(case hg=>rfl);(case hr=>first|(go_simp;done)|(go_simp;rfl));intro g hg w3 hbox hb3;have HB:=Sd.mk hb3;have BK:=Sd.mk hbox;clear hb3 hbox hg)|((with_reducible refine gate_dst (N:=3) rfl ?_);refine box_event ?hg (N:=3) ?hd (cs:=#[.int .i64 6,.bool f1,.int .i64 (a:Int),.int .i64 b,.int .i64 N]) (t:=85) ?hr ?_;(case hd=>rfl);(case hg=>rfl);(case hr=>first|(go_simp;done)|(go_simp;rfl));intro g2 hg w4 hbox hb3;have HB2:=Sd.mk (below_step HB.out hb3);have BK1:=Sd.mk (blk_below BK.out hb3);have BK2:=Sd.mk hbox;clear hb3 hbox hg));obtain ⟨ha0,ha1⟩:=bc2 BK1.out;have hc0:w4.cell? ⟨g2,0,none⟩=some (.int .i64 6):=(blk_cell BK2.out 0).trans rfl;have hc2:w4.cell? ⟨g2,2,none⟩=some (.int .i64 (a:Int)):=(blk_cell BK2.out 2).trans rfl;have hc4:w4.cell? ⟨g2,4,none⟩=some (.int .i64 N):=(blk_cell BK2.out 4).trans rfl;obtain ⟨ad,A5,c5,rfl,hx,k5,g5⟩:=row_at (Kd.C_below HR0.out HB2.out) a ha;have q:((a:Int) < (ss.length:Int))=True:=eq_true (by omega);clear ha g5 k5 hok ho HR0 HR1;generalize (ss.getD a []).length=n5 at *;generalize ss.length=n0 at *;generalize cs.length=n1 at *;by_cases hle:(n5:Int) ≤ N
 ·have hd:decide ((n5:Int) ≤ N)=true:=decide_eq_true hle;clear hle;go_wp2_with fail;go_quiet (fail);go_wp2_with fail;go_ret;exact ⟨by rw [← HRR.out,hd];rfl,pw_below_drewN HB2.out _⟩
 ·have hd:decide ((n5:Int) ≤ N)=false:=decide_eq_false hle;clear hle;go_wp2_with fail;go_quiet (fail);go_wp2_with fail;go_ret;exact ⟨by rw [← HRR.out,hd];rfl,pw_below_drewN HB2.out _⟩
set_option maxHeartbeats 8000000 in
set_option maxRecDepth 100000 in
theorem holds_k7 (B0:Option Addr) (d0:Nat) (ss:List (List ByteArray)) (B1:Option Addr) (d1:Nat) (cs:List (List Ce)) (f1:Bool) (a:Nat) (b N:Int) (w:World)
  (hr0:Kd.C (Kd.slice 9 Kd.string) w B0 ss.length ss) (hr1:Kd.C (Kd.slice 158 k158) w B1 cs.length cs) (hok:StOk ss cs) (ho:∀ l ∈ ss,OrdK l) (ha:a < cs.length) :
  Calls Tryz.prog 122 #[.agg #[.slice B0 ss.length d0,.slice B1 cs.length d1],.agg #[.int .i64 7,.bool f1,.int .i64 (a:Int),.int .i64 b,.int .i64 N]] w fun e w'=>e = .returned (.bool (!(cs.getD a []).any (fun x=>decide (N < x.f1))))∧Below w.heap.size w w':=by
 (have hmf:∀ (fn:Fn) (first cap:Array Value) (w:World),(Instr.makeFunc fn first cap).run Tryz.prog w = .ok (.func fn first cap) w:=fun _ _ _ _=>rfl);have HR0:=Sd.mk hr0;have HR1:=Sd.mk hr1;clear hr0 hr1;generalize hR:((cs.getD a []).any (fun x=>decide (N < x.f1)))=r;have HRR:=Sd.mk hR;clear hR;go_enter Tryz.func122,Tryz.ntmps122;go_upto_region 1 with (first|((with_reducible refine gate_dst (N:=2) rfl ?_);refine box_event ?hg (N:=2) ?hd (cs:=#[.slice B0 ss.length d0,.slice B1 cs.length d1]) (t:=80) ?hr ?_;(case hd=>rfl);(case hg=>rfl);(case hr=>first|(go_simp;done)|(go_simp;rfl));intro g hg w3 hbox hb3;have HB:=Sd.mk hb3;have BK:=Sd.mk hbox;clear hb3 hbox hg)|((with_reducible refine gate_dst (N:=3) rfl ?_);refine box_event ?hg (N:=3) ?hd (cs:=#[.int .i64 7,.bool f1,.int .i64 (a:Int),.int .i64 b,.int .i64 N]) (t:=85) ?hr ?_;(case hd=>rfl);(case hg=>rfl);(case hr=>first|(go_simp;done)|(go_simp;rfl));intro g2 hg w4 hbox hb3;have HB2:=Sd.mk (below_step HB.out hb3);have BK1:=Sd.mk (blk_below BK.out hb3);have BK2:=Sd.mk hbox;clear hb3 hbox hg));obtain ⟨ha0,ha1⟩:=bc2 BK1.out;have hc0:w4.cell? ⟨g2,0,none⟩=some (.int .i64 7):=(blk_cell BK2.out 0).trans rfl;have hc2:w4.cell? ⟨g2,2,none⟩=some (.int .i64 (a:Int)):=(blk_cell BK2.out 2).trans rfl;have hc4:w4.cell? ⟨g2,4,none⟩=some (.int .i64 N):=(blk_cell BK2.out 4).trans rfl;obtain ⟨ad,A5,c5,rfl,hx,k5,g5⟩:=rowc_at (Kd.C_below HR1.out HB2.out) a ha;have q:((a:Int) < (cs.length:Int))=True:=eq_true (by omega);have HCF:Sd (Calls Tryz.prog 147 #[.slice A5 (cs.getD a []).length c5,.func (.func 148) #[] #[.pointer (some ⟨g2,0,none⟩)]] w4 fun e w''=>e = .returned (.bool ((cs.getD a []).any (fun x=>decide (N < x.f1))))∧Below w4.heap.size w4 w'') :=
  ⟨hasFCell1 _ _ enter_holds3 _ A5 c5 _ w4 g5 k5 (hok.2.2 _ (getD_at cs [] a ha)) (fun x hx2 v hv w5 hb5=>by
   cases hv
   exact holds3_call g2 _ _ _ _ N x w5 (blk_below BK2.out hb5))⟩
 rw [HRR.out] at HCF;clear HRR;clear ha g5 k5 hok ho HR0 HR1;generalize (cs.getD a []).length=n5 at *;generalize ss.length=n0 at *;generalize cs.length=n1 at *;go_wp2_with fail;refine HCF.out.mono ?_;rintro e w5 ⟨rfl,hb5⟩;have HB5:=Sd.mk (below_step HB2.out hb5);clear hb5;go_wp2_with fail;go_ret;exact ⟨rfl,HB5.out⟩
set_option maxHeartbeats 8000000 in
set_option maxRecDepth 100000 in
theorem holds_k8 (B0:Option Addr) (d0:Nat) (ss:List (List ByteArray)) (B1:Option Addr) (d1:Nat) (cs:List (List Ce)) (f1:Bool) (a:Nat) (b N:Int) (w:World)
  (hr0:Kd.C (Kd.slice 9 Kd.string) w B0 ss.length ss) (hr1:Kd.C (Kd.slice 158 k158) w B1 cs.length cs) (hok:StOk ss cs) (ho:∀ l ∈ ss,OrdK l) (ha:a < cs.length) :
  Calls Tryz.prog 122 #[.agg #[.slice B0 ss.length d0,.slice B1 cs.length d1],.agg #[.int .i64 8,.bool f1,.int .i64 (a:Int),.int .i64 b,.int .i64 N]] w fun e w'=>e = .returned (.bool (!(cs.getD a []).any (fun x=>decide (x.f1 < N))))∧Below w.heap.size w w':=by
 (have hmf:∀ (fn:Fn) (first cap:Array Value) (w:World),(Instr.makeFunc fn first cap).run Tryz.prog w = .ok (.func fn first cap) w:=fun _ _ _ _=>rfl);have HR0:=Sd.mk hr0;have HR1:=Sd.mk hr1;clear hr0 hr1;generalize hR:((cs.getD a []).any (fun x=>decide (x.f1 < N)))=r;have HRR:=Sd.mk hR;clear hR;go_enter Tryz.func122,Tryz.ntmps122;go_upto_region 1 with (first|((with_reducible refine gate_dst (N:=2) rfl ?_);refine box_event ?hg (N:=2) ?hd (cs:=#[.slice B0 ss.length d0,.slice B1 cs.length d1]) (t:=80) ?hr ?_;(case hd=>rfl);(case hg=>rfl);(case hr=>first|(go_simp;done)|(go_simp;rfl));intro g hg w3 hbox hb3;have HB:=Sd.mk hb3;have BK:=Sd.mk hbox;clear hb3 hbox hg)|((with_reducible refine gate_dst (N:=3) rfl ?_);refine box_event ?hg (N:=3) ?hd (cs:=#[.int .i64 8,.bool f1,.int .i64 (a:Int),.int .i64 b,.int .i64 N]) (t:=85) ?hr ?_;(case hd=>rfl);(case hg=>rfl);(case hr=>first|(go_simp;done)|(go_simp;rfl));intro g2 hg w4 hbox hb3;have HB2:=Sd.mk (below_step HB.out hb3);have BK1:=Sd.mk (blk_below BK.out hb3);have BK2:=Sd.mk hbox;clear hb3 hbox hg));obtain ⟨ha0,ha1⟩:=bc2 BK1.out;have hc0:w4.cell? ⟨g2,0,none⟩=some (.int .i64 8):=(blk_cell BK2.out 0).trans rfl;have hc2:w4.cell? ⟨g2,2,none⟩=some (.int .i64 (a:Int)):=(blk_cell BK2.out 2).trans rfl;have hc4:w4.cell? ⟨g2,4,none⟩=some (.int .i64 N):=(blk_cell BK2.out 4).trans rfl;obtain ⟨ad,A5,c5,rfl,hx,k5,g5⟩:=rowc_at (Kd.C_below HR1.out HB2.out) a ha;have q:((a:Int) < (cs.length:Int))=True:=eq_true (by omega);have HCF:Sd (Calls Tryz.prog 147 #[.slice A5 (cs.getD a []).length c5,.func (.func 149) #[] #[.pointer (some ⟨g2,0,none⟩)]] w4 fun e w''=>e = .returned (.bool ((cs.getD a []).any (fun x=>decide (x.f1 < N))))∧Below w4.heap.size w4 w'') :=
  ⟨hasFCell1 _ _ enter_holds4 _ A5 c5 _ w4 g5 k5 (hok.2.2 _ (getD_at cs [] a ha)) (fun x hx2 v hv w5 hb5=>by
   cases hv
   exact holds4_call g2 _ _ _ _ N x w5 (blk_below BK2.out hb5))⟩
 rw [HRR.out] at HCF;clear HRR;clear ha g5 k5 hok ho HR0 HR1;generalize (cs.getD a []).length=n5 at *;generalize ss.length=n0 at *;generalize cs.length=n1 at *;go_wp2_with fail;refine HCF.out.mono ?_;rintro e w5 ⟨rfl,hb5⟩;have HB5:=Sd.mk (below_step HB2.out hb5);clear hb5;go_wp2_with fail;go_ret;exact ⟨rfl,HB5.out⟩
set_option maxHeartbeats 8000000 in
set_option maxRecDepth 100000 in
theorem holds_k9 (B0:Option Addr) (d0:Nat) (ss:List (List ByteArray)) (B1:Option Addr) (d1:Nat) (cs:List (List Ce)) (f1:Bool) (a b:Nat) (N:Int) (w:World)
  (hr0:Kd.C (Kd.slice 9 Kd.string) w B0 ss.length ss) (hr1:Kd.C (Kd.slice 158 k158) w B1 cs.length cs) (hok:StOk ss cs) (ho:∀ l ∈ ss,OrdK l) (ha:a < cs.length) (hb:b < ss.length) :
  Calls Tryz.prog 122 #[.agg #[.slice B0 ss.length d0,.slice B1 cs.length d1],.agg #[.int .i64 9,.bool f1,.int .i64 (a:Int),.int .i64 (b:Int),.int .i64 N]] w fun e w'=>e = .returned (.bool (!(cs.getD a []).any (fun x=>decide (0 < x.f1) && !inB (ss.getD b []) x.f0)))∧Below w.heap.size w w':=by
 (have hmf:∀ (fn:Fn) (first cap:Array Value) (w:World),(Instr.makeFunc fn first cap).run Tryz.prog w = .ok (.func fn first cap) w:=fun _ _ _ _=>rfl);have HR0:=Sd.mk hr0;have HR1:=Sd.mk hr1;clear hr0 hr1;generalize hR:((cs.getD a []).any (fun x=>decide (0 < x.f1) && !inB (ss.getD b []) x.f0))=r;have HRR:=Sd.mk hR;clear hR;go_enter Tryz.func122,Tryz.ntmps122;go_upto_region 1 with (first|((with_reducible refine gate_dst (N:=2) rfl ?_);refine box_event ?hg (N:=2) ?hd (cs:=#[.slice B0 ss.length d0,.slice B1 cs.length d1]) (t:=80) ?hr ?_;(case hd=>rfl);(case hg=>rfl);(case hr=>first|(go_simp;done)|(go_simp;rfl));intro g hg w3 hbox hb3;have HB:=Sd.mk hb3;have BK:=Sd.mk hbox;clear hb3 hbox hg)|((with_reducible refine gate_dst (N:=3) rfl ?_);refine box_event ?hg (N:=3) ?hd (cs:=#[.int .i64 9,.bool f1,.int .i64 (a:Int),.int .i64 (b:Int),.int .i64 N]) (t:=85) ?hr ?_;(case hd=>rfl);(case hg=>rfl);(case hr=>first|(go_simp;done)|(go_simp;rfl));intro g2 hg w4 hbox hb3;have HB2:=Sd.mk (below_step HB.out hb3);have BK1:=Sd.mk (blk_below BK.out hb3);have BK2:=Sd.mk hbox;clear hb3 hbox hg));obtain ⟨ha0,ha1⟩:=bc2 BK1.out;have hc0:w4.cell? ⟨g2,0,none⟩=some (.int .i64 9):=(blk_cell BK2.out 0).trans rfl;have hc2:w4.cell? ⟨g2,2,none⟩=some (.int .i64 (a:Int)):=(blk_cell BK2.out 2).trans rfl;have hc4:w4.cell? ⟨g2,4,none⟩=some (.int .i64 N):=(blk_cell BK2.out 4).trans rfl;obtain ⟨ad,A5,c5,rfl,hx,k5,g5⟩:=rowc_at (Kd.C_below HR1.out HB2.out) a ha;have q:((a:Int) < (cs.length:Int))=True:=eq_true (by omega);have HCF:Sd (Calls Tryz.prog 147 #[.slice A5 (cs.getD a []).length c5,.func (.func 150) #[] #[.pointer (some ⟨g,0,none⟩),.pointer (some ⟨g2,0,none⟩)]] w4 fun e w''=>e = .returned (.bool ((cs.getD a []).any (fun x=>decide (0 < x.f1) && !inB (ss.getD b []) x.f0)))∧Below w4.heap.size w4 w'') :=
  ⟨hasFCell2 _ _ _ enter_holds5 _ A5 c5 _ w4 g5 k5 (hok.2.2 _ (getD_at cs [] a ha)) (fun x hx2 v hv w5 hb5=>by
   cases hv
   exact holds5_call g g2 B0 d0 ss _ _ _ _ _ b x w5 (blk_below BK1.out hb5) (blk_below BK2.out hb5) (Kd.C_below HR0.out (below_step HB2.out hb5)) hb (hok.2.1 _ (getD_at ss [] b hb)) (ho _ (getD_at ss [] b hb)))⟩
 rw [HRR.out] at HCF;clear HRR;clear ha g5 k5 hok ho HR0 HR1 hb;generalize (cs.getD a []).length=n5 at *;generalize ss.length=n0 at *;generalize cs.length=n1 at *;go_wp2_with fail;refine HCF.out.mono ?_;rintro e w5 ⟨rfl,hb5⟩;have HB5:=Sd.mk (below_step HB2.out hb5);clear hb5;go_wp2_with fail;go_ret;exact ⟨rfl,HB5.out⟩
def eval_holds.f (ss:List (List ByteArray)) (cs:List (List Ce)) (f0:Int) (f1:Bool) (f2 f3 f4:Int):Option Bool:=if HoldsOk ss cs ⟨f0,f1,f2,f3,f4⟩ then some (holdsB ss cs ⟨f0,f1,f2,f3,f4⟩) else none
theorem eval_holds.calls (B0:Option Addr) (d0:Nat) (ss:List (List ByteArray)) (B1:Option Addr) (d1:Nat) (cs:List (List Ce)) (f0:Int) (f1:Bool) (f2 f3 f4:Int) (r:Bool) (w:World)
  (hr0:Kd.C (Kd.slice 9 Kd.string) w B0 ss.length ss) (_:ss.length ≤ d0) (hr1:Kd.C (Kd.slice 158 k158) w B1 cs.length cs) (_:cs.length ≤ d1) (h:eval_holds.f ss cs f0 f1 f2 f3 f4=some r) :
  Calls Tryz.prog 122 #[.agg #[.slice B0 ss.length d0,.slice B1 cs.length d1],.agg #[.int .i64 f0,.bool f1,.int .i64 f2,.int .i64 f3,.int .i64 f4]] w fun e w'=>e = .returned (.bool r)∧Below w.heap.size w w':=by
 unfold eval_holds.f at h;split at h
 ·rename_i hok;cases h;obtain ⟨h1,h2,h3⟩:=hok;unfold inR at h3;simp only at h3;rcases h3 with ⟨rfl,ha,hb⟩ | ⟨rfl,ha,hb⟩ | ⟨rfl,ha⟩ | ⟨rfl,ha⟩ | ⟨rfl,ha⟩ | ⟨rfl,ha,hb⟩
  ·obtain ⟨a,rfl⟩:=Int.eq_ofNat_of_zero_le ha.1;obtain ⟨b,rfl⟩:=Int.eq_ofNat_of_zero_le hb.1;exact holds_k4 B0 d0 ss B1 d1 cs f1 a b f4 w hr0 hr1 h1 h2 (by omega) (by omega)
  ·obtain ⟨a,rfl⟩:=Int.eq_ofNat_of_zero_le ha.1;obtain ⟨b,rfl⟩:=Int.eq_ofNat_of_zero_le hb.1;exact holds_k5 B0 d0 ss B1 d1 cs f1 a b f4 w hr0 hr1 h1 h2 (by omega) (by omega)
  ·obtain ⟨a,rfl⟩:=Int.eq_ofNat_of_zero_le ha.1;exact holds_k6 B0 d0 ss B1 d1 cs f1 a f3 f4 w hr0 hr1 h1 h2 (by omega)
  ·obtain ⟨a,rfl⟩:=Int.eq_ofNat_of_zero_le ha.1;exact holds_k7 B0 d0 ss B1 d1 cs f1 a f3 f4 w hr0 hr1 h1 h2 (by omega)
  ·obtain ⟨a,rfl⟩:=Int.eq_ofNat_of_zero_le ha.1;exact holds_k8 B0 d0 ss B1 d1 cs f1 a f3 f4 w hr0 hr1 h1 h2 (by omega)
  ·obtain ⟨a,rfl⟩:=Int.eq_ofNat_of_zero_le ha.1;obtain ⟨b,rfl⟩:=Int.eq_ofNat_of_zero_le hb.1;exact holds_k9 B0 d0 ss B1 d1 cs f1 a b f4 w hr0 hr1 h1 h2 (by omega) (by omega)
 ·cases h
end Go.Proofs.YtjbjbeihkoeciaaGreat.X
namespace Go
open Go.Maps (Keyed)
open Go.RowKit Go.MapKept
def getF (z:Value):List (Int × Value) → Int → Value
 | [],_=>z
 | (k,v) :: r,o=>if k=o then v else getF z r o
def putF:List (Int × Value) → Int → Value → List (Int × Value)
 | [],o,v=>[(o,v)]
 | (k,u) :: r,o,v=>if k=o then (k,v) :: r else (k,u) :: putF r o v
def findE:List (Int × Value) → Int → Option (Nat × Value)
 | [],_=>none
 | (k,v) :: r,o=>if k=o then some (0,v) else (findE r o).map fun p=>(p.1 + 1,p.2)
theorem getF_none {z:Value}:∀ {fs:List (Int × Value)} {o:Int},findE fs o=none → getF z fs o=z
 | [],_,_=>rfl
 | (k,v) :: r,o,h=>by
  unfold findE at h;unfold getF;split at h
  ·cases h
  ·rename_i hk;rw [if_neg hk];exact getF_none (by simpa using h)
theorem getF_some {z:Value}:∀ {fs:List (Int × Value)} {o:Int} {j:Nat} {v:Value},findE fs o=some (j,v) → getF z fs o=v
 | [],_,_,_,h=>by cases h
 | (k,u) :: r,o,j,v,h=>by
  unfold findE at h;unfold getF;split at h
  ·rename_i hk;cases h;rw [if_pos hk]
  ·rename_i hk;rw [if_neg hk];simp only [Option.map_eq_some_iff] at h;obtain ⟨p,hp,he⟩:=h;cases he;exact getF_some (j:=p.1) (by rw [hp])
theorem putF_none:∀ {fs:List (Int × Value)} {o:Int} (v:Value),findE fs o=none → putF fs o v=fs ++ [(o,v)]
 | [],_,_,_=>rfl
 | (k,u) :: r,o,v,h=>by
  unfold findE at h;unfold putF;split at h
  ·cases h
  ·rename_i hk;rw [if_neg hk,putF_none v (by simpa using h)];rfl
theorem putF_some:∀ {fs:List (Int × Value)} {o:Int} {j:Nat} {u:Value} (v:Value),findE fs o=some (j,u) → putF fs o v=fs.modify j fun p=>(p.1,v)
 | [],_,_,_,_,h=>by cases h
 | (k,u0) :: r,o,j,u,v,h=>by
  unfold findE at h;unfold putF;split at h
  ·rename_i hk;cases h;rw [if_pos hk];rfl
  ·rename_i hk;rw [if_neg hk];simp only [Option.map_eq_some_iff] at h;obtain ⟨p,hp,he⟩:=h;cases he;rw [putF_some (j:=p.1) (u:=p.2) v hp];rfl
theorem findE_key:∀ {fs:List (Int × Value)} {o:Int} {j:Nat} {v:Value},findE fs o=some (j,v) → fs[j]? = some (o,v)
 | [],_,_,_,h=>by cases h
 | (k,u) :: r,o,j,v,h=>by
  unfold findE at h;split at h
  ·rename_i hk;cases h;rw [hk];rfl
  ·simp only [Option.map_eq_some_iff] at h;obtain ⟨p,hp,he⟩:=h;cases he;exact findE_key (j:=p.1) hp
theorem findNow_int (o:Int):∀ (l:List MapEntry) (fs:List (Int × Value)) (i:Nat),l.map (fun e=>(e.key,e.val))=fs.map (fun p=>(Value.int .i64 p.1,p.2)) →
  Instr.findNow (.int .i64) (.int .i64 o) l i=some ((findE fs o).map fun p=>(i + p.1,p.2))
 | [],[],_,_=>rfl
 | [],_ :: _,_,h=>by simp at h
 | _ :: _,[],_,h=>by simp at h
 | e :: l,(k,v) :: fs,i,h=>by
  simp only [List.map_cons,List.cons.injEq,Prod.mk.injEq] at h;obtain ⟨⟨h1,h2⟩,h3⟩:=h;unfold Instr.findNow findE;rw [h1];by_cases hk:k=o
  ·subst hk;simp [Instr.sameNow,h2]
  ·(have hok:(o == k)=false:=by simpa using Ne.symm hk);simp only [Instr.sameNow,if_true,hok,if_neg hk];rw [findNow_int o l fs (i + 1) h3];cases findE fs o with
   | none=>rfl
   | some p=>simp;omega
def IMap (w:World) (b:Nat) (fs:List (Int × Value)):Prop:=∃ es clock,w.heap[b]? = some (.map es clock)∧es.toList.map (fun e=>(e.key,e.val))=fs.map (fun p=>(Value.int .i64 p.1,p.2))
section
variable {P:Program} {k e t:TypeId} {w w':World} {b:Nat} {fs:List (Int × Value)}
theorem IMap.made (w:World):IMap (w.alloc (.map #[] 0)) w.heap.size []:=⟨#[],0,heap_alloc_new w _,rfl⟩
theorem IMap.lt (h:IMap w b fs):b < w.heap.size:=by
 obtain ⟨es,c,h1,_⟩:=h;by_cases hl:b < w.heap.size
 ·exact hl
 ·rw [Array.getElem?_eq_none (by omega)] at h1;cases h1
theorem IMap.of_block (h:IMap w b fs) (hb:w'.heap[b]? = w.heap[b]?):IMap w' b fs:=by
 obtain ⟨es,c,h1,h2⟩:=h;exact ⟨es,c,hb.trans h1,h2⟩
theorem IMap.below (h:IMap w b fs) (hb:Below w.heap.size w w'):IMap w' b fs:=h.of_block (hb.block b h.lt)
theorem IMap.ne_cells (h:IMap w b fs) {g t0:Nat} {c:Array Value} (hg:w.heap[g]? = some (.cells c t0 (0,0))):g ≠ b:=by
 rintro rfl;obtain ⟨es,cl,h1,_⟩:=h;rw [hg] at h1;cases h1
theorem IMap.setCell (h:IMap w b fs) {a:Addr} (ha:b ≠ a.block) (u:Value):IMap (w.setCell a u) b fs:=h.of_block (Below.heap_setCell w a u b ha)
theorem IMap.grown (h:IMap w b fs) {row:Option Nat} (hg:w.grownBy w' row) (hr:some b ≠ row):IMap w' b fs:=h.of_block (hg.block b h.lt hr)
theorem IMap.look (h:IMap w b fs) (ht:P.underlying t=some (.map k e)) (hk:P.underlying k=some (.int .i64)) {z:Value} (hz:(zeroValue e).run P w = .ok z w) (o:Int) :
  (Instr.lookup t (.map (some b)) (.int .i64 o) false).run P w = .ok (getF z fs o) w:=by
 obtain ⟨es,c,h1,h2⟩:=h;have hf:=findNow_int o es.toList fs 0 h2;have hkey:IsKey (.int .i64) (.int .i64 o):=rfl;cases hfe:findE fs o with
 | none =>
  rw [hfe] at hf;rw [getF_none hfe];simp [Instr.lookup,run_underlying ht,MapKept.run_getObj_map h1,MapKept.run_checkKey hk hkey,MapKept.run_findKey hk hf,Result.andThen,hz]
 | some p =>
  rw [hfe] at hf;rw [getF_some (j:=p.1) (v:=p.2) hfe];simp [Instr.lookup,run_underlying ht,MapKept.run_getObj_map h1,MapKept.run_checkKey hk hkey,MapKept.run_findKey hk hf,Result.andThen]
theorem IMap.put (h:IMap w b fs) (ht:P.underlying t=some (.map k e)) (hk:P.underlying k=some (.int .i64)) (o:Int) (v:Value) :
  ∃ w',(Instr.mapUpdate t (.map (some b)) (.int .i64 o) v).run P w = .ok () w'∧IMap w' b (putF fs o v)∧w.grownBy w' (some b)∧∀ j,j ≠ b → w'.heap[j]? = w.heap[j]?:=by
 obtain ⟨es,c,h1,h2⟩:=h;have hf:=findNow_int o es.toList fs 0 h2;have hkey:IsKey (.int .i64) (.int .i64 o):=rfl;(have hgr:∀ ob:Obj,w.grownBy (ChangeMaps.setBlock w b ob) (some b):=fun ob=>⟨rfl,rfl,rfl,by simp [ChangeMaps.setBlock],fun j hj hne=>ChangeMaps.heap_setBlock_other h1 ob (fun e=>hne (by rw [e]))⟩);cases hfe:findE fs o with
 | none =>
  rw [hfe] at hf;refine ⟨ChangeMaps.setBlock w b (.map (es.push ⟨.int .i64 o,v,c⟩) (c + 1)),?_,⟨_,_,ChangeMaps.heap_setBlock_same h1 _,?_⟩,hgr _,fun j hj=>ChangeMaps.heap_setBlock_other h1 _ hj⟩
  ·simp [Instr.mapUpdate,run_underlying ht,MapKept.run_getObj_map h1,MapKept.run_checkKey hk hkey,MapKept.run_findKey hk hf,MapKept.run_setObj_map _ h1,Result.andThen,ChangeMaps.setBlock]
  ·rw [putF_none v hfe];simp [h2]
 | some p =>
  obtain ⟨j,u⟩:=p;rw [hfe] at hf;have hget:=findE_key hfe;have hj:∃ e0,es[j]? = some e0∧e0.key = .int .i64 o:=by
   (have h3:(es.toList.map (fun e=>(e.key,e.val)))[j]? = some (Value.int .i64 o,u):=by rw [h2,List.getElem?_map,hget];rfl);rw [List.getElem?_map,Option.map_eq_some_iff] at h3;obtain ⟨e0,h4,h5⟩:=h3;exact ⟨e0,by simpa using h4,(Prod.mk.inj h5).1⟩
  obtain ⟨e0,hj0,hj1⟩:=hj;refine ⟨ChangeMaps.setBlock w b (.map (es.modify j fun e=>{ e with key:=.int .i64 o,val:=v }) c),?_,⟨_,_,ChangeMaps.heap_setBlock_same h1 _,?_⟩,hgr _,fun j hj=>ChangeMaps.heap_setBlock_other h1 _ hj⟩
  ·simp [Instr.mapUpdate,run_underlying ht,MapKept.run_getObj_map h1,MapKept.run_checkKey hk hkey,MapKept.run_findKey hk hf,hj0,hj1,MapKept.run_keyThatStays hkey,MapKept.run_setObj_map _ h1,Result.andThen,ChangeMaps.setBlock]
  ·rw [putF_some v hfe];apply List.ext_getElem?;intro m;have h3:=congrArg (fun l=>l[m]?) h2;simp only [List.getElem?_map] at h3 ⊢;rw [Array.toList_modify,List.getElem?_modify,List.getElem?_modify];by_cases hm:j=m
   ·subst hm;rw [hget,Array.getElem?_toList,hj0];simp
   ·simp only [if_neg hm];simpa using h3
end
end Go
namespace Go.Proofs.YtjbjbeihkoeciaaGreat.X
open Go.RowKit Go.Proofs.YtjbjbeihkoeciaaGreatW.PrintWords Go.Proofs.YtjbjbeihkoeciaaGreatW.PrintLast Go.Proofs.YtjbjbeihkoeciaaGreatW.PrintMore
structure S34 where
 f0:(List Bool)
 f1:(List Int)
def z34:S34:=⟨([]:List Bool),([]:List Int)⟩
def k34:Kd S34:=Kd.iso (Kd.pair (Kd.slice 4 Kd.bool) (Kd.slice 3 (Kd.int .i64))) (fun x:S34=>(x.f0,x.f1))
theorem k34_openM {w:World} {base:Nat} {ok:Nat → Prop} {x:S34} {cs:List Value} (h:k34.M w base ok x cs):∃ v0 v1,cs = [v0,v1]∧Kd.bool.R 4 w base ok v0 x.f0∧(Kd.int .i64).R 3 w base ok v1 x.f1:=by
 obtain ⟨_,_,rfl,⟨v0,rfl,g0⟩,⟨v1,rfl,g1⟩⟩:=h;exact ⟨v0,v1,rfl,g0,g1⟩
theorem k34_mkM (w:World) (base:Nat) (ok:Nat → Prop) (x:S34) {v0:Value} (g0:Kd.bool.R 4 w base ok v0 x.f0) {v1:Value} (g1:(Kd.int .i64).R 3 w base ok v1 x.f1):k34.M w base ok x [v0,v1]:=⟨[v0],[v1],rfl,⟨v0,rfl,g0⟩,⟨v1,rfl,g1⟩⟩
end Go.Proofs.YtjbjbeihkoeciaaGreat.X
namespace Go.Proofs.YtjbjbeihkoeciaaGreat.X
open Go.RowKit Go.Proofs.YtjbjbeihkoeciaaGreatW.PrintWords Go.Proofs.YtjbjbeihkoeciaaGreatW.PrintLast Go.Proofs.YtjbjbeihkoeciaaGreatW.PrintMore
abbrev Sm:=S34
abbrev kSm:=k34
def nilV:Value:=.slice none 0 0
def Keys1 (fs:List (Int × Value)):Prop:=fs.Pairwise fun p q=>p.1 ≠ q.1
theorem mem_putF {fs:List (Int × Value)} (hu:Keys1 fs) {o:Int} {v:Value} {p:Int × Value} (h:p ∈ putF fs o v):p=(o,v) ∨ (p ∈ fs∧p.1 ≠ o):=by
 induction fs with
 | nil=>exact .inl (by simpa [putF] using h)
 | cons a r ih =>
  obtain ⟨k,u⟩:=a;obtain ⟨h1,h2⟩:=List.pairwise_cons.1 hu;unfold putF at h;split at h
  ·rename_i hk;rcases List.mem_cons.1 h with rfl|h
   ·exact .inl (by rw [hk])
   ·exact .inr ⟨List.mem_cons_of_mem _ h,fun e=>h1 p h (hk.trans e.symm)⟩
  ·rename_i hk;rcases List.mem_cons.1 h with rfl|h
   ·exact .inr ⟨List.mem_cons_self,hk⟩
   ·rcases ih h2 h with h | ⟨h,h3⟩
    ·exact .inl h
    ·exact .inr ⟨List.mem_cons_of_mem _ h,h3⟩
theorem putF_keys {fs:List (Int × Value)} (hu:Keys1 fs) (o:Int) (v:Value):Keys1 (putF fs o v):=by
 induction fs with
 | nil=>simp [putF,Keys1]
 | cons a r ih =>
  obtain ⟨k,u⟩:=a;obtain ⟨h1,h2⟩:=List.pairwise_cons.1 hu;unfold putF;split
  ·exact List.pairwise_cons.2 ⟨h1,h2⟩
  ·rename_i hk;refine List.pairwise_cons.2 ⟨fun q hq=>?_,ih h2⟩;rcases mem_putF h2 hq with rfl | ⟨hq,_⟩
   ·exact hk
   ·exact h1 q hq
theorem getF_mem {fs:List (Int × Value)} (hu:Keys1 fs) (z:Value) {p:Int × Value} (h:p ∈ fs):getF z fs p.1=p.2:=by
 induction fs with
 | nil=>cases h
 | cons a r ih =>
  obtain ⟨k,u⟩:=a;obtain ⟨h1,h2⟩:=List.pairwise_cons.1 hu;unfold getF;rcases List.mem_cons.1 h with rfl|h
  ·rw [if_pos rfl]
  ·rw [if_neg (h1 p h)];exact ih h2 h
theorem mem_putF_other {fs:List (Int × Value)} {o:Int} {v:Value} {p:Int × Value} (hp:p ∈ fs) (hk:p.1 ≠ o):p ∈ putF fs o v:=by
 induction fs with
 | nil=>cases hp
 | cons a r ih =>
  obtain ⟨k,u⟩:=a;unfold putF;split
  ·rename_i h;rcases List.mem_cons.1 hp with rfl|hp
   ·exact absurd h hk
   ·exact List.mem_cons_of_mem _ hp
  ·rcases List.mem_cons.1 hp with rfl|hp
   ·exact List.mem_cons_self
   ·exact List.mem_cons_of_mem _ (ih hp)
theorem mem_putF_self (fs:List (Int × Value)) (o:Int) (v:Value):(o,v) ∈ putF fs o v:=by
 induction fs with
 | nil=>simp [putF]
 | cons a r ih =>
  obtain ⟨k,u⟩:=a;unfold putF;split
  ·rename_i h;rw [h];exact List.mem_cons_self
  ·exact List.mem_cons_of_mem _ ih
theorem getF_no (z:Value) {fs:List (Int × Value)} {o:Int} (h:∀ p ∈ fs,p.1 ≠ o):getF z fs o=z:=by
 induction fs with
 | nil=>rfl
 | cons a r ih =>
  obtain ⟨k,u⟩:=a;unfold getF;rw [if_neg (h (k,u) List.mem_cons_self)];exact ih (fun p hp=>h p (List.mem_cons_of_mem _ hp))
def FrOff (fs:List (Int × Value)) (k:Nat):Prop:=∀ p ∈ fs,p.2.ownBlock ≠ some k
structure TabW (w0s:Nat) (W:World) (mb:Nat) (fs:List (Int × Value)) (val:Int → List Bool) (vs:Value) (sts:List Sm):Prop where
 map:IMap W mb fs
 rows:∀ p ∈ fs,Kd.R Kd.bool 4 W w0s (fun _=>True) p.2 (val p.1)
 keys:Keys1 fs
 off:∀ p ∈ fs,∀ q ∈ fs,p.1 ≠ q.1 → ∀ k,p.2.ownBlock=some k → q.2.ownBlock ≠ some k
 void:∀ o,(∀ p ∈ fs,p.1 ≠ o) → val o = []
 sts:Kd.R kSm 34 W w0s (FrOff fs) vs sts
def PendW (w0s:Nat) (W:World) (fs:List (Int × Value)) (vs:Value) (x:Sm) (cs:List Value):Prop:=kSm.M W w0s (fun k=>FrOff fs k∧some k ≠ vs.ownBlock) x cs
def Keep4 (W W':World):Prop:=W.heap.size ≤ W'.heap.size∧∀ (k:Nat) (c:Array Value) (t:Nat),W.heap[k]? = some (Obj.cells c t (0,0)) → t ≠ 4 → W'.heap[k]? = W.heap[k]?
theorem Keep4.refl (W:World):Keep4 W W:=⟨Nat.le_refl _,fun _ _ _ _ _=>rfl⟩
theorem lt_of_some {W:World} {k:Nat} {o:Obj} (h:W.heap[k]? = some o):k < W.heap.size:=by
 by_cases hl:k < W.heap.size
 ·exact hl
 ·rw [Array.getElem?_eq_none (by omega)] at h;cases h
theorem Keep4.trans {W W1 W2:World} (h:Keep4 W W1) (k:Keep4 W1 W2):Keep4 W W2 :=
 ⟨Nat.le_trans h.1 k.1,fun j c t hj ht=>by
  have h1:=h.2 j c t hj ht
  have h2:=k.2 j c t (h1.trans hj) ht
  exact h2.trans h1⟩
theorem Keep4.below {W W1:World} (h:Below W.heap.size W W1):Keep4 W W1:=⟨h.size,fun j c t hj _=>h.block j (lt_of_some hj)⟩
theorem Keep4.cell {W W1:World} (h:Keep4 W W1) {k:Nat} {c:Array Value} {t:Nat} (hk:W.heap[k]? = some (.cells c t (0,0))) (ht:t ≠ 4):W1.heap[k]? = some (.cells c t (0,0)):=(h.2 k c t hk ht).trans hk
theorem Keep4.R {α:Type} {d:Kd α} {e:Nat} {W W1:World} {base:Nat} {ok:Nat → Prop} {v:Value} {xs:List α} (h:Keep4 W W1) (hr:d.R e W base ok v xs) (ht:∀ q,q ∈ e :: d.E → q ≠ 4):d.R e W1 base ok v xs:=by
 refine Kd.R_mono (Kd.R_move (Kd.R_bound hr) (fun k hk=>?_)) (fun k hk=>hk.1);obtain ⟨_,_,_,q,hq,c,hc⟩:=hk;exact h.2 k c q hc (ht q hq)
section
variable {w0s:Nat} {W W1:World} {mb:Nat} {fs:List (Int × Value)} {val:Int → List Bool} {vs:Value} {sts:List Sm}
theorem TabW.below (h:TabW w0s W mb fs val vs sts) (hb:Below W.heap.size W W1):TabW w0s W1 mb fs val vs sts :=
 ⟨h.map.below hb,fun p hp=>Kd.R_below (h.rows p hp) hb,h.keys,h.off,h.void,Kd.R_below h.sts hb⟩
theorem PendW.below {x:Sm} {cs:List Value} (h:PendW w0s W fs vs x cs) (hb:Below W.heap.size W W1):PendW w0s W1 fs vs x cs :=
 kSm.M_mono (fun k hk=>hk.1) (kSm.M_move (fun k hk=>hb.block k hk.2.2.1) (kSm.M_bound h))
theorem TabW.look (h:TabW w0s W mb fs val vs sts) (o:Int):Kd.R Kd.bool 4 W w0s (fun _=>True) (getF nilV fs o) (val o):=by
 by_cases hk:∃ p ∈ fs,p.1=o
 ·obtain ⟨p,hp,rfl⟩:=hk;rw [getF_mem h.keys nilV hp];exact h.rows p hp
 ·(have hno:∀ p ∈ fs,p.1 ≠ o:=fun p hp he=>hk ⟨p,hp,he⟩);rw [getF_no _ hno,h.void o hno];exact Kd.R_nil _ _ _ _ _
theorem TabW.set (h:TabW w0s W mb fs val vs sts) {g t:Nat} {cells:Array Value} (hb:W.heap[g]? = some (.cells cells t (0,0))) (ht:∀ q,q ∈ 34 :: 4 :: kSm.E → q ≠ t) (j:Nat) (u:Value):TabW w0s (W.setCell ⟨g,j,none⟩ u) mb fs val vs sts :=
 ⟨h.map.setCell (by have:=h.map.ne_cells hb;exact fun e=>this e.symm) u,fun p hp=>Kd.R_set (h.rows p hp) hb (fun q hq=>ht q (by
   have:q=4:=by simpa [Kd.bool,Kd.scalar] using hq
   rw [this];exact List.mem_cons_of_mem _ List.mem_cons_self)) j u,h.keys,h.off,h.void,Kd.R_set h.sts hb (fun q hq=>ht q (by
   rcases List.mem_cons.1 hq with rfl|hq
   ·exact List.mem_cons_self
   ·exact List.mem_cons_of_mem _ (List.mem_cons_of_mem _ hq))) j u⟩
theorem own_cells {α:Type} {d:Kd α} {e base:Nat} {ok:Nat → Prop} {v:Value} {xs:List α} (h:d.R e W base ok v xs) (k:Nat) (hk:v.ownBlock=some k):k < W.heap.size∧∃ c,W.heap[k]? = some (.cells c e (0,0)):=⟨Kd.R_lt h k hk,Kd.R_typed h k hk⟩
theorem TabW.put (h:TabW w0s W mb fs val vs sts) (o:Int) (b:Bool) {v1:Value} {W2:World} (h1:Kd.R Kd.bool 4 W1 w0s (fun _=>True) v1 (val o ++ [b])) (hg:W.grownBy W1 (getF nilV fs o).ownBlock)
  (hat:v1.ownBlock=(getF nilV fs o).ownBlock ∨ ∃ k,v1.ownBlock=some k∧W.heap.size ≤ k) (hm:IMap W2 mb (putF fs o v1)) (hj:∀ j,j ≠ mb → W2.heap[j]? = W1.heap[j]?) :
  TabW w0s W2 mb (putF fs o v1) (fun k=>if k=o then val o ++ [b] else val k) vs sts∧(∀ x cs,PendW w0s W fs vs x cs → PendW w0s W2 (putF fs o v1) vs x cs)∧Keep4 W W2:=by
 have hlk:=h.look o;have hst:∀ k c t,W.heap[k]? = some (Obj.cells c t (0,0)) → some k ≠ (getF nilV fs o).ownBlock → W2.heap[k]? = W.heap[k]?:=fun k c t hk hne=>by
  have hkm:k ≠ mb:=by
   rintro rfl;obtain ⟨es,cl,h3,_⟩:=h.map;rw [hk] at h3;cases h3
  rw [hj k hkm];exact hg.block k (lt_of_some hk) hne
 have hv1m:∀ k,v1.ownBlock=some k → k ≠ mb:=fun k hk=>by
  rintro rfl;obtain ⟨c,hc⟩:=Kd.R_typed h1 k hk;obtain ⟨es,cl,h3,_⟩:=h.map;rcases hat with he | ⟨k',hk',hle⟩
  ·obtain ⟨c',hc'⟩:=Kd.R_typed hlk k (by rw [← he];exact hk);rw [hc'] at h3;cases h3
  ·rw [hk] at hk';cases hk';exact absurd (lt_of_some h3) (by omega)
 have hoff:∀ k,k < W.heap.size → FrOff fs k → FrOff (putF fs o v1) k:=fun k hk hf p hp he=>by
  rcases mem_putF h.keys hp with rfl | ⟨hp,_⟩
  ·rcases hat with h2 | ⟨k',hk',hle⟩
   ·(have he':(getF nilV fs o).ownBlock=some k:=by rw [← h2];exact he);by_cases hq:∃ q ∈ fs,q.1=o
    ·obtain ⟨q,hq,rfl⟩:=hq;rw [getF_mem h.keys nilV hq] at he';exact hf q hq he'
    ·rw [getF_no _ (fun q hq2 he2=>hq ⟨q,hq2,he2⟩)] at he';simp [nilV,Value.ownBlock] at he'
   ·rw [he] at hk';cases hk';omega
  ·exact hf p hp he
 (have hput:∀ r ∈ putF fs o v1,(r=(o,v1)) ∨ (r.1 ≠ o∧r ∈ fs):=fun r hr=>(mem_putF h.keys hr).imp id (fun ⟨a,b⟩=>⟨b,a⟩));refine ⟨⟨hm,fun p hp=>?_,putF_keys h.keys o v1,fun p hp q hq hne k hk=>?_,fun k hk=>?_,?_⟩,fun x cs hx=>?_,⟨?_,?_⟩⟩
 ·rcases hput p hp with rfl | ⟨hpo,hp2⟩
  ·simp only [if_true];exact Kd.R_mono (Kd.R_move (Kd.R_flat (ok':=fun k=>v1.ownBlock=some k) (fun hx=>hx) h1 (fun k hk _=>hk)) (fun k hk=>hj k (hv1m k hk))) (fun _ _=>trivial)
  ·simp only [if_neg hpo];refine Kd.R_mono (Kd.R_move (Kd.R_flat (ok':=fun k=>p.2.ownBlock=some k) (fun hx=>hx) (h.rows p hp2) (fun k hk _=>hk)) (fun k hk=>?_)) (fun _ _=>trivial);obtain ⟨hl,c,hc⟩:=own_cells (h.rows p hp2) k hk;refine hst k c _ hc (fun he=>?_);by_cases hq:∃ q ∈ fs,q.1=o
   ·obtain ⟨q,hq,hqo⟩:=hq;rw [← hqo,getF_mem h.keys nilV hq] at he;exact h.off p hp2 q hq (fun e=>hpo (e.trans hqo)) k hk he.symm
   ·rw [getF_no _ (fun q hq2 he2=>hq ⟨q,hq2,he2⟩)] at he;simp [nilV,Value.ownBlock] at he
 ·have key:∀ r ∈ fs,r.1 ≠ o → ∀ k,v1.ownBlock=some k → r.2.ownBlock ≠ some k:=fun r hr hro k hk he=>by
   rcases hat with h2 | ⟨k',hk',hle⟩
   ·rw [h2] at hk;by_cases hq:∃ q ∈ fs,q.1=o
    ·obtain ⟨q,hq,hqo⟩:=hq;rw [← hqo,getF_mem h.keys nilV hq] at hk;exact h.off q hq r hr (fun e=>hro (e.symm.trans hqo)) k hk he
    ·rw [getF_no _ (fun q hq2 he2=>hq ⟨q,hq2,he2⟩)] at hk;simp [nilV,Value.ownBlock] at hk
   ·rw [hk] at hk';cases hk';have:=(own_cells (h.rows r hr) k he).1;omega
  rcases hput p hp with rfl | ⟨h2,h3⟩ <;> rcases hput q hq with rfl | ⟨h4,h5⟩
  ·exact absurd rfl hne
  ·exact key q h5 h4 k hk
  ·exact fun he=>key p h3 h2 k he hk
  ·exact h.off p h3 q h5 hne k hk
 ·(have hko:k ≠ o:=fun e=>hk (o,v1) (mem_putF_self fs o v1) e.symm);simp only [if_neg hko];exact h.void k (fun p hp he=>hk p (mem_putF_other hp (fun e=>hko (he.symm.trans e))) he)
 ·refine Kd.R_mono (Kd.R_move (Kd.R_bound h.sts) (fun k hk=>?_)) (fun k hk=>hoff k hk.2.2.1 hk.1);obtain ⟨h2,_,_,q,_,c,hc⟩:=hk;refine hst k c q hc (fun he=>?_);by_cases hq:∃ q ∈ fs,q.1=o
  ·obtain ⟨q,hq,hqo⟩:=hq;rw [← hqo,getF_mem h.keys nilV hq] at he;exact h2 q hq he.symm
  ·rw [getF_no _ (fun q hq2 he2=>hq ⟨q,hq2,he2⟩)] at he;simp [nilV,Value.ownBlock] at he
 ·refine kSm.M_mono (fun k hk=>?_) (kSm.M_move (fun k hk=>?_) (kSm.M_bound hx))
  ·exact ⟨hoff k hk.2.2.1 hk.1.1,hk.1.2⟩
  ·obtain ⟨⟨h2,_⟩,_,_,q,_,c,hc⟩:=hk;refine hst k c q hc (fun he=>?_);by_cases hq:∃ q ∈ fs,q.1=o
   ·obtain ⟨q,hq,hqo⟩:=hq;rw [← hqo,getF_mem h.keys nilV hq] at he;exact h2 q hq he.symm
   ·rw [getF_no _ (fun q hq2 he2=>hq ⟨q,hq2,he2⟩)] at he;simp [nilV,Value.ownBlock] at he
 ·have e1:W.heap.size ≤ W1.heap.size:=hg.size;have e2:W1.heap.size ≤ W2.heap.size:=by
   by_cases hl:W1.heap.size ≤ W2.heap.size
   ·exact hl
   ·exfalso;have hmb:=hm.lt;have hmb1:mb < W.heap.size:=h.map.lt;by_cases hw:W2.heap.size=mb
    ·omega
    ·have h5:=hj W2.heap.size hw;rw [Array.getElem?_eq_none (Nat.le_refl _),Array.getElem?_eq_getElem (by omega)] at h5;cases h5
  omega
 ·intro k c t hk ht;refine hst k c t hk (fun he=>?_);obtain ⟨c',hc'⟩:=Kd.R_typed hlk k he.symm;rw [hk] at hc';injection hc' with hc';injection hc' with _ h6;exact ht h6
theorem TabW.push (h:TabW w0s W mb fs val vs sts) {x:Sm} {v1:Value} (h1:Kd.R kSm 34 W1 w0s (FrOff fs) v1 (sts ++ [x])) (hg:W.grownBy W1 vs.ownBlock):TabW w0s W1 mb fs val v1 (sts ++ [x]):=by
 have hmb:some mb ≠ vs.ownBlock:=fun e=>by
  obtain ⟨c,hc⟩:=Kd.R_typed h.sts mb e.symm;obtain ⟨es,cl,h3,_⟩:=h.map;rw [hc] at h3;cases h3
 refine ⟨h.map.grown hg hmb,fun p hp=>?_,h.keys,h.off,h.void,h1⟩;refine Kd.R_mono (Kd.R_grown (Kd.R_flat (ok':=fun k=>p.2.ownBlock=some k) (fun hx=>hx) (h.rows p hp) (fun k hk _=>hk)) hg (fun k hk he=>?_)) (fun _ _=>trivial);exact h.sts.1 k he.symm p hp hk
theorem TabW.keep_push (h:TabW w0s W mb fs val vs sts) (hg:W.grownBy W1 vs.ownBlock) {g t:Nat} {c:Array Value} (hb:W.heap[g]? = some (.cells c t (0,0))) (ht:34 ≠ t):W1.heap[g]? = some (.cells c t (0,0)) :=
 blk_grown hb hg (Kd.R_ne h.sts hb ht)
theorem TabW.made (w:World) (mb:Nat) (hm:IMap W mb []) (w0s:Nat):TabW w0s W mb [] (fun _=>[]) (.slice none 0 0) [] :=
 ⟨hm,fun p hp=>by simp at hp,List.Pairwise.nil,fun p hp=>by simp at hp,fun _ _=>rfl,Kd.R_nil _ _ _ _ _⟩
end
def cntT (os:List Int) (n p:Nat) (o:Int):Nat:=if o ∈ os.take p then n + 1 else if o ∈ os then n else 0
def valT (os:List Int) (fr:Int → Nat → Bool) (n p:Nat) (o:Int):List Bool:=(List.range (cntT os n p o)).map (fr o)
theorem valT_len (os:List Int) (fr:Int → Nat → Bool) (n p:Nat) (o:Int):(valT os fr n p o).length=cntT os n p o:=by simp [valT]
theorem valT_first (os:List Int) (fr:Int → Nat → Bool):valT os fr 0 0=fun _=>[]:=by
 funext o;simp [valT,cntT]
theorem valT_next (os:List Int) (fr:Int → Nat → Bool) (n:Nat):valT os fr n os.length=valT os fr (n + 1) 0:=by
 funext o;simp only [valT,cntT,List.take_length,List.take_zero,List.not_mem_nil,if_false];split <;> rfl
theorem take_in (os:List Int) (p:Nat) (h:p < os.length) (o:Int):o ∈ os.take (p + 1) ↔ o ∈ os.take p ∨ o=os.getD p 0:=by
 rw [List.take_succ_eq_append_getElem h,List.mem_append,List.mem_singleton];simp [List.getD,h]
theorem valT_skip (os:List Int) (fr:Int → Nat → Bool) (n p:Nat) (h:p < os.length) (hk:os.getD p 0 ∈ os.take p):valT os fr n (p + 1)=valT os fr n p:=by
 funext o;have:(o ∈ os.take (p + 1))=(o ∈ os.take p):=by
  rw [take_in os p h];exact propext ⟨fun h2=>h2.elim id (fun e=>e ▸ hk),.inl⟩
 simp only [valT,cntT,this]
theorem valT_put (os:List Int) (fr:Int → Nat → Bool) (n p:Nat) (h:p < os.length) (hk:¬ os.getD p 0 ∈ os.take p) :
  (fun k=>if k=os.getD p 0 then valT os fr n p (os.getD p 0) ++ [fr (os.getD p 0) n] else valT os fr n p k)=valT os fr n (p + 1):=by
 funext k;(have hm:os.getD p 0 ∈ os:=by simp [List.getD,h]);by_cases hko:k=os.getD p 0
 ·subst hko;rw [if_pos rfl];simp only [valT,cntT];rw [if_neg hk,if_pos hm,if_pos ((take_in os p h _).2 (.inr rfl)),List.range_succ,List.map_append];rfl
 ·rw [if_neg hko];have:(k ∈ os.take (p + 1))=(k ∈ os.take p):=by
   rw [take_in os p h];exact propext ⟨fun h2=>h2.elim id (fun e=>absurd e hko),.inl⟩
  simp only [valT,cntT,this]
end Go.Proofs.YtjbjbeihkoeciaaGreat.X
namespace Go.Proofs.YtjbjbeihkoeciaaGreat.X
open Go.RowKit Go.Proofs.YtjbjbeihkoeciaaGreatW.PrintWords Go.Proofs.YtjbjbeihkoeciaaGreatW.PrintLast Go.Proofs.YtjbjbeihkoeciaaGreatW.PrintMore
attribute [local go_sem] max2_int min2_int max_two min_two max_three min_three max_four min_four
def eval_Check.f (l00:List ByteArray) (l01:List ByteArray) (l02:List ByteArray) (l03:List (S85)) (l04:List (S89)) (l10:List (List ByteArray)) (l11:List (List (S158))):Option (Int):=(sorts_Check.f l00 l01 l02 l03 l04).bind fun t410=>(if t410=0 then ((eval_may.f l00 l01 l02 l03 l04 l10 l11).bind fun t411=>(if t411=true then (some 0) else (some 1))) else (some 1))
set_option maxHeartbeats 8000000 in
set_option maxRecDepth 100000 in
theorem eval_Check.calls (A0_0:Option Addr) (c0_0:Nat) (l00:List ByteArray) (A0_1:Option Addr) (c0_1:Nat) (l01:List ByteArray) (A0_2:Option Addr) (c0_2:Nat) (l02:List ByteArray) (A0_3:Option Addr) (c0_3:Nat) (l03:List (S85)) (A0_4:Option Addr) (c0_4:Nat) (l04:List (S89)) (A1_0:Option Addr) (c1_0:Nat) (l10:List (List ByteArray)) (A1_1:Option Addr) (c1_1:Nat) (l11:List (List (S158))) (r:Int) (w:World) (hr00:Kd.C Kd.string w A0_0 l00.length l00) (hc00:l00.length ≤ c0_0) (hr01:Kd.C Kd.string w A0_1 l01.length l01) (hc01:l01.length ≤ c0_1) (hr02:Kd.C Kd.string w A0_2 l02.length l02) (hc02:l02.length ≤ c0_2) (hr03:Kd.C k85 w A0_3 l03.length l03) (hc03:l03.length ≤ c0_3) (hr04:Kd.C k89 w A0_4 l04.length l04) (hc04:l04.length ≤ c0_4) (hr10:Kd.C (Kd.slice 9 Kd.string) w A1_0 l10.length l10) (hc10:l10.length ≤ c1_0) (hr11:Kd.C (Kd.slice 158 k158) w A1_1 l11.length l11) (hc11:l11.length ≤ c1_1) (h:eval_Check.f l00 l01 l02 l03 l04 l10 l11=some r) :
  Calls Tryz.prog 121 #[.agg #[.slice A0_0 l00.length c0_0,.slice A0_1 l01.length c0_1,.slice A0_2 l02.length c0_2,.slice A0_3 l03.length c0_3,.slice A0_4 l04.length c0_4],.agg #[.slice A1_0 l10.length c1_0,.slice A1_1 l11.length c1_1]] w fun e w'=>e = .returned (.int .i64 r)∧Below w.heap.size w w':=by
 have hu26:=Tryz.underlying26;have hu80:=Tryz.underlying80;have HR00:=Sd.mk hr00;have J00:=Sd.mk hc00;clear hr00 hc00;have HR01:=Sd.mk hr01;have J01:=Sd.mk hc01;clear hr01 hc01;have HR02:=Sd.mk hr02;have J02:=Sd.mk hc02;clear hr02 hc02;have HR03:=Sd.mk hr03;have J03:=Sd.mk hc03;clear hr03 hc03;have HR04:=Sd.mk hr04;have J04:=Sd.mk hc04;clear hr04 hc04;have HR10:=Sd.mk hr10;have J10:=Sd.mk hc10;clear hr10 hc10;have HR11:=Sd.mk hr11;have J11:=Sd.mk hc11;clear hr11 hc11;have HB:=Sd.mk (Below.refl w.heap.size w);have H:=h;clear h;unfold eval_Check.f at H;obtain ⟨t410,A3,H⟩:=oB H;by_cases c4:t410=0
 ·rw [if_pos c4] at H;obtain ⟨c4b0,c4b1⟩:=bT c4;clear c4;obtain ⟨t411,A5,H⟩:=oB H;by_cases c6:t411=true
  ·subst c6;replace H:=iT H;obtain rfl:=sI H;go_enter Tryz.func121,Tryz.ntmps121;go_wp2_with (first|((with_reducible refine gate_dst (N:=2) rfl ?_);refine uX 2 (cs:=#[.slice A0_0 l00.length c0_0,.slice A0_1 l01.length c0_1,.slice A0_2 l02.length c0_2,.slice A0_3 l03.length c0_3,.slice A0_4 l04.length c0_4]) (t:=26) fun gb408 hg w7 BK408 hb=>?_;have GW408:Sd (w.heap.size ≤ gb408):=uG hg;have GE408:=GW408;replace HB:=uH hb;clear hb hg)|((with_reducible refine gate_dst (N:=3) rfl ?_);refine uX 3 (cs:=#[.slice A1_0 l10.length c1_0,.slice A1_1 l11.length c1_1]) (t:=80) fun gb409 hg w8 BK409 hb=>?_;have GW409:Sd (w.heap.size ≤ gb409):=uG hg;have GE409:=GW409;have NB408_409:=uN hg BK408;have NB409_408:=uM (uN hg BK408);replace BK408:=uK BK408 hb;replace HB:=uH hb;clear hb hg;have hnb9:=NB408_409.out;have hnc9:=NB409_408.out;obtain ⟨Z10_0,Z10_1,Z10_2,Z10_3,Z10_4,Y10_0,Y10_1,Y10_2,Y10_3,Y10_4⟩:=bd5 BK408)|((with_reducible refine gate_callee (f:=48) rfl ?_);refine gL Tryz.func48 (some 6) #[.agg #[.slice A0_0 l00.length c0_0,.slice A0_1 l01.length c0_1,.slice A0_2 l02.length c0_2,.slice A0_3 l03.length c0_3,.slice A0_4 l04.length c0_4]] ?_;(with_reducible refine (sorts_Check.calls _ _ l00 _ _ l01 _ _ l02 _ _ l03 _ _ l04 t410 _ (sC HR00) J00.out (sC HR01) J01.out (sC HR02) J02.out (sC HR03) J03.out (sC HR04) J04.out A3.out).mono ?_);rintro e w11 ⟨rfl,hb⟩;refine ⟨_,rfl,?_⟩;replace BK408:=uK BK408 hb;replace BK409:=uK BK409 hb;replace HB:=uH hb;(try clear hb);(try clear hb2);(try clear hk);(try clear hi);obtain ⟨Z12_0,Z12_1,Z12_2,Z12_3,Z12_4,Y12_0,Y12_1,Y12_2,Y12_3,Y12_4⟩:=bd5 BK408;obtain ⟨Z13_0,Z13_1,Y13_0,Y13_1⟩:=bd2 BK409)|(go_at_call 142;(with_reducible refine (eval_may.calls _ _ l00 _ _ l01 _ _ l02 _ _ l03 _ _ l04 _ _ l10 _ _ l11 true _ (sC HR00) J00.out (sC HR01) J01.out (sC HR02) J02.out (sC HR03) J03.out (sC HR04) J04.out (sC HR10) J10.out (sC HR11) J11.out A5.out).mono ?_);rintro e w14 ⟨rfl,hb⟩;replace BK408:=uK BK408 hb;replace BK409:=uK BK409 hb;replace HB:=uH hb;(try clear hb);(try clear hb2);(try clear hk);(try clear hi)));go_ret;exact ⟨tW,uB⟩
  ·replace c6:=Bool.eq_false_iff.mpr c6;subst c6;replace H:=iF H;obtain rfl:=sI H;go_enter Tryz.func121,Tryz.ntmps121;go_wp2_with (first|((with_reducible refine gate_dst (N:=2) rfl ?_);refine uX 2 (cs:=#[.slice A0_0 l00.length c0_0,.slice A0_1 l01.length c0_1,.slice A0_2 l02.length c0_2,.slice A0_3 l03.length c0_3,.slice A0_4 l04.length c0_4]) (t:=26) fun gb408 hg w15 BK408 hb=>?_;have GW408:Sd (w.heap.size ≤ gb408):=uG hg;have GE408:=GW408;replace HB:=uH hb;clear hb hg)|((with_reducible refine gate_dst (N:=3) rfl ?_);refine uX 3 (cs:=#[.slice A1_0 l10.length c1_0,.slice A1_1 l11.length c1_1]) (t:=80) fun gb409 hg w16 BK409 hb=>?_;have GW409:Sd (w.heap.size ≤ gb409):=uG hg;have GE409:=GW409;have NB408_409:=uN hg BK408;have NB409_408:=uM (uN hg BK408);replace BK408:=uK BK408 hb;replace HB:=uH hb;clear hb hg;have hnb17:=NB408_409.out;have hnc17:=NB409_408.out;obtain ⟨Z18_0,Z18_1,Z18_2,Z18_3,Z18_4,Y18_0,Y18_1,Y18_2,Y18_3,Y18_4⟩:=bd5 BK408)|((with_reducible refine gate_callee (f:=48) rfl ?_);refine gL Tryz.func48 (some 6) #[.agg #[.slice A0_0 l00.length c0_0,.slice A0_1 l01.length c0_1,.slice A0_2 l02.length c0_2,.slice A0_3 l03.length c0_3,.slice A0_4 l04.length c0_4]] ?_;(with_reducible refine (sorts_Check.calls _ _ l00 _ _ l01 _ _ l02 _ _ l03 _ _ l04 t410 _ (sC HR00) J00.out (sC HR01) J01.out (sC HR02) J02.out (sC HR03) J03.out (sC HR04) J04.out A3.out).mono ?_);rintro e w19 ⟨rfl,hb⟩;refine ⟨_,rfl,?_⟩;replace BK408:=uK BK408 hb;replace BK409:=uK BK409 hb;replace HB:=uH hb;(try clear hb);(try clear hb2);(try clear hk);(try clear hi);obtain ⟨Z20_0,Z20_1,Z20_2,Z20_3,Z20_4,Y20_0,Y20_1,Y20_2,Y20_3,Y20_4⟩:=bd5 BK408;obtain ⟨Z21_0,Z21_1,Y21_0,Y21_1⟩:=bd2 BK409)|(go_at_call 142;(with_reducible refine (eval_may.calls _ _ l00 _ _ l01 _ _ l02 _ _ l03 _ _ l04 _ _ l10 _ _ l11 false _ (sC HR00) J00.out (sC HR01) J01.out (sC HR02) J02.out (sC HR03) J03.out (sC HR04) J04.out (sC HR10) J10.out (sC HR11) J11.out A5.out).mono ?_);rintro e w22 ⟨rfl,hb⟩;replace BK408:=uK BK408 hb;replace BK409:=uK BK409 hb;replace HB:=uH hb;(try clear hb);(try clear hb2);(try clear hk);(try clear hi)));go_ret;exact ⟨tW,uB⟩
 ·rw [if_neg c4] at H;obtain ⟨c4b0,c4b1⟩:=bN c4;obtain rfl:=sI H;go_enter Tryz.func121,Tryz.ntmps121;go_wp2_with (first|((with_reducible refine gate_dst (N:=2) rfl ?_);refine uX 2 (cs:=#[.slice A0_0 l00.length c0_0,.slice A0_1 l01.length c0_1,.slice A0_2 l02.length c0_2,.slice A0_3 l03.length c0_3,.slice A0_4 l04.length c0_4]) (t:=26) fun gb408 hg w23 BK408 hb=>?_;have GW408:Sd (w.heap.size ≤ gb408):=uG hg;have GE408:=GW408;replace HB:=uH hb;clear hb hg)|((with_reducible refine gate_dst (N:=3) rfl ?_);refine uX 3 (cs:=#[.slice A1_0 l10.length c1_0,.slice A1_1 l11.length c1_1]) (t:=80) fun gb409 hg w24 BK409 hb=>?_;have GW409:Sd (w.heap.size ≤ gb409):=uG hg;have GE409:=GW409;have NB408_409:=uN hg BK408;have NB409_408:=uM (uN hg BK408);replace BK408:=uK BK408 hb;replace HB:=uH hb;clear hb hg;have hnb25:=NB408_409.out;have hnc25:=NB409_408.out;obtain ⟨Z26_0,Z26_1,Z26_2,Z26_3,Z26_4,Y26_0,Y26_1,Y26_2,Y26_3,Y26_4⟩:=bd5 BK408)|((with_reducible refine gate_callee (f:=48) rfl ?_);refine gL Tryz.func48 (some 6) #[.agg #[.slice A0_0 l00.length c0_0,.slice A0_1 l01.length c0_1,.slice A0_2 l02.length c0_2,.slice A0_3 l03.length c0_3,.slice A0_4 l04.length c0_4]] ?_;(with_reducible refine (sorts_Check.calls _ _ l00 _ _ l01 _ _ l02 _ _ l03 _ _ l04 t410 _ (sC HR00) J00.out (sC HR01) J01.out (sC HR02) J02.out (sC HR03) J03.out (sC HR04) J04.out A3.out).mono ?_);rintro e w27 ⟨rfl,hb⟩;refine ⟨_,rfl,?_⟩;replace BK408:=uK BK408 hb;replace BK409:=uK BK409 hb;replace HB:=uH hb;(try clear hb);(try clear hb2);(try clear hk);(try clear hi)));go_ret;exact ⟨tW,uB⟩
def eval_Holds.f (l00:List ByteArray) (l01:List ByteArray) (l02:List ByteArray) (l03:List (S85)) (l04:List (S89)) (l10:List (List ByteArray)) (l11:List (List (S158))) (a2:Int):Option (Bool):=(eval_Check.f l00 l01 l02 l03 l04 l10 l11).bind fun t421=>(if t421=0 then (if a2 ≥ 0 then (if a2 < (l03.length:Int) then (if 0 ≤ a2 then ((eval_holds.f l10 l11 ((rd_T85 l03 a2).f0) ((rd_T85 l03 a2).f1) ((rd_T85 l03 a2).f2) ((rd_T85 l03 a2).f3) ((rd_T85 l03 a2).f4)).bind fun t423=>(some t423)) else (none)) else (some false)) else (some false)) else (some false))
def eval_Holds.T1:Bool × List (List Nat × List Nat):=(true,[([],[]),([],[]),([0,1],[0,1]),([2],[2]),([3,2],[3]),([4],[4]),([5,4],[4,5]),([4,6],[4,6]),([7,4],[7]),([8],[8]),([8],[8]),([10,8],[8,10]),([11,8],[8,11]),([9,12,8],[8,9,12]),([8,13],[8,13]),([14,8],[14]),([15],[15]),([15],[15]),([17,15],[15,17]),([15],[15]),([18,19,15],[15,18,19]),([20,15],[15,20]),([16,21,15,15],[15,16,21]),([15,22],[15,22]),([23,22,0,1,2,3,4,5,6,7,8,9,10,11,12,13,14,15,16,17,18,19,20,21,22,23],[23])])
def eval_Holds.B1:List Nat:=[0,0,3,7,15,31,63,127,255,511,511,1535,3583,8191,16383,32767,65535,65535,196607,65535,983039,2031615,4194303,8388607,16777215]
theorem eval_Holds.tab1:rtab .any (opsOf Tryz.f79 1)=eval_Holds.T1:=by kernel_rfl
theorem eval_Holds.bits1:waitsOk eval_Holds.T1.2 eval_Holds.B1=true:=by kernel_rfl
set_option maxHeartbeats 8000000 in
set_option maxRecDepth 100000 in
theorem eval_Holds.calls (A0_0:Option Addr) (c0_0:Nat) (l00:List ByteArray) (A0_1:Option Addr) (c0_1:Nat) (l01:List ByteArray) (A0_2:Option Addr) (c0_2:Nat) (l02:List ByteArray) (A0_3:Option Addr) (c0_3:Nat) (l03:List (S85)) (A0_4:Option Addr) (c0_4:Nat) (l04:List (S89)) (A1_0:Option Addr) (c1_0:Nat) (l10:List (List ByteArray)) (A1_1:Option Addr) (c1_1:Nat) (l11:List (List (S158))) (a2:Int) (r:Bool) (w:World) (hr00:Kd.C Kd.string w A0_0 l00.length l00) (hc00:l00.length ≤ c0_0) (hr01:Kd.C Kd.string w A0_1 l01.length l01) (hc01:l01.length ≤ c0_1) (hr02:Kd.C Kd.string w A0_2 l02.length l02) (hc02:l02.length ≤ c0_2) (hr03:Kd.C k85 w A0_3 l03.length l03) (hc03:l03.length ≤ c0_3) (hr04:Kd.C k89 w A0_4 l04.length l04) (hc04:l04.length ≤ c0_4) (hr10:Kd.C (Kd.slice 9 Kd.string) w A1_0 l10.length l10) (hc10:l10.length ≤ c1_0) (hr11:Kd.C (Kd.slice 158 k158) w A1_1 l11.length l11) (hc11:l11.length ≤ c1_1) (h:eval_Holds.f l00 l01 l02 l03 l04 l10 l11 a2=some r) :
  Calls Tryz.prog 79 #[.agg #[.slice A0_0 l00.length c0_0,.slice A0_1 l01.length c0_1,.slice A0_2 l02.length c0_2,.slice A0_3 l03.length c0_3,.slice A0_4 l04.length c0_4],.agg #[.slice A1_0 l10.length c1_0,.slice A1_1 l11.length c1_1],.int .i64 a2] w fun e w'=>e = .returned (.bool r)∧Below w.heap.size w w':=by
 have hu26:=Tryz.underlying26;have hu80:=Tryz.underlying80;have hu85:=Tryz.underlying85;have HR00:=Sd.mk hr00;have J00:=Sd.mk hc00;clear hr00 hc00;have HR01:=Sd.mk hr01;have J01:=Sd.mk hc01;clear hr01 hc01;have HR02:=Sd.mk hr02;have J02:=Sd.mk hc02;clear hr02 hc02;have HR03:=Sd.mk hr03;have J03:=Sd.mk hc03;clear hr03 hc03;have HR04:=Sd.mk hr04;have J04:=Sd.mk hc04;clear hr04 hc04;have HR10:=Sd.mk hr10;have J10:=Sd.mk hc10;clear hr10 hc10;have HR11:=Sd.mk hr11;have J11:=Sd.mk hc11;clear hr11 hc11;have HB:=Sd.mk (Below.refl w.heap.size w);have H:=h;clear h;unfold eval_Holds.f at H;obtain ⟨t421,A4,H⟩:=oB H;by_cases c5:t421=0
 ·rw [if_pos c5] at H;obtain ⟨c5b0,c5b1⟩:=bT c5;clear c5;by_cases c6:a2 ≥ 0
  ·rw [if_pos c6] at H;have c6b0:=dTr c6;clear c6;by_cases c7:a2 < (l03.length:Int)
   ·rw [if_pos c7] at H;have c7b0:=dTr c7;clear c7;by_cases c8:0 ≤ a2
    ·rw [if_pos c8] at H;have c8b0:=dTr c8;clear c8;obtain ⟨t423,A9,H⟩:=oB H;obtain rfl:=sI H;go_enter Tryz.func79,Tryz.ntmps79;(try go_wp2_with (first|((with_reducible refine gate_dst (N:=3) rfl ?_);(try (refine gate_guard (by rfl) ?_;dsimp only));refine uX 3 (cs:=#[.slice A0_0 l00.length c0_0,.slice A0_1 l01.length c0_1,.slice A0_2 l02.length c0_2,.slice A0_3 l03.length c0_3,.slice A0_4 l04.length c0_4]) (t:=26) fun gb419 hg w10 BK419 hb=>?_;have GW419:Sd (w.heap.size ≤ gb419):=uG hg;have GE419:=GW419;replace HB:=uH hb;clear hb hg)|((with_reducible refine gate_dst (N:=4) rfl ?_);(try (refine gate_guard (by rfl) ?_;dsimp only));refine uX 4 (cs:=#[.slice A1_0 l10.length c1_0,.slice A1_1 l11.length c1_1]) (t:=80) fun gb420 hg w11 BK420 hb=>?_;have GW420:Sd (w.heap.size ≤ gb420):=uG hg;have GE420:=GW420;have NB419_420:=uN hg BK419;have NB420_419:=uM (uN hg BK419);replace BK419:=uK BK419 hb;replace HB:=uH hb;clear hb hg)));replace BK419:=uE BK419;replace BK420:=uE BK420;replace HB:=uI HB;have p422:0 ≤ (a2:Int):=tD;have q422:a2 < (l03.length:Int):=tD;obtain ⟨ad422,e422,hx422_0,hx422_1,hx422_2,hx422_3,hx422_4⟩:=at_T85 HR03.out a2 p422 q422;have hw422_4:=hx422_4;have hw422_3:=hx422_3;have hw422_2:=hx422_2;have hw422_1:=hx422_1;have hw422_0:=hx422_0;cases e422;replace hx422_0:=uC HB hx422_0;replace hx422_1:=uC HB hx422_1;replace hx422_2:=uC HB hx422_2;replace hx422_3:=uC HB hx422_3;replace hx422_4:=uC HB hx422_4;replace p422:=eq_true p422;replace q422:=eq_true q422;refine start_ (n:=25) (S:=fun w'=>w'.cell? ⟨gb419,0,none⟩=some (.slice A0_0 l00.length c0_0)∧w'.cell? ⟨gb419,1,none⟩=some (.slice A0_1 l01.length c0_1)∧w'.cell? ⟨gb419,2,none⟩=some (.slice A0_2 l02.length c0_2)∧w'.cell? ⟨gb419,3,none⟩=some (.slice (some ad422) l03.length c0_3)∧w'.cell? ⟨gb419,4,none⟩=some (.slice A0_4 l04.length c0_4)∧w'.cell? ⟨gb420,0,none⟩=some (.slice A1_0 l10.length c1_0)∧w'.cell? ⟨gb420,1,none⟩=some (.slice A1_1 l11.length c1_1)∧w'.cell? (ad422.add ((a2).toNat * 5))=some (.int .i64 ((rd_T85 l03 a2).f0))∧w'.cell? ⟨(ad422.add ((a2).toNat * 5)).block,(ad422.add ((a2).toNat * 5)).off + 1,none⟩=some (.bool ((rd_T85 l03 a2).f1))∧w'.cell? ⟨(ad422.add ((a2).toNat * 5)).block,(ad422.add ((a2).toNat * 5)).off + 2,none⟩=some (.int .i64 ((rd_T85 l03 a2).f2))∧w'.cell? ⟨(ad422.add ((a2).toNat * 5)).block,(ad422.add ((a2).toNat * 5)).off + 3,none⟩=some (.int .i64 ((rd_T85 l03 a2).f3))∧w'.cell? ⟨(ad422.add ((a2).toNat * 5)).block,(ad422.add ((a2).toNat * 5)).off + 4,none⟩=some (.int .i64 ((rd_T85 l03 a2).f4))) (ds:=[]) (ab 25 0) (by kernel_rfl) rfl rfl ⟨cB BK419 0,cB BK419 1,cB BK419 2,cB BK419 3,cB BK419 4,cB BK420 0,cB BK420 1,uV hw422_0,uV hw422_1,uV hw422_2,uV hw422_3,uV hw422_4⟩ (fun hH=>?_);refine with_tabW eval_Holds.tab1 eval_Holds.bits1 (fun HT_ HW_=>?_);generalize w11.drew=w12 at BK419 BK420 HB hx422_0 hx422_1 hx422_2 hx422_3 hx422_4 hH ⊢;refine tU 0 7 ?_;refine tU 1 8 ?_;refine oU (N:=some 9) 2 (fun K hK=>?_);refine gO Tryz.func121 #[.agg #[.slice A0_0 l00.length c0_0,.slice A0_1 l01.length c0_1,.slice A0_2 l02.length c0_2,.slice (some ad422) l03.length c0_3,.slice A0_4 l04.length c0_4],.agg #[.slice A1_0 l10.length c1_0,.slice A1_1 l11.length c1_1]] ?_;(with_reducible refine (eval_Check.calls _ _ l00 _ _ l01 _ _ l02 _ _ l03 _ _ l04 _ _ l10 _ _ l11 t421 _ (sC HR00) J00.out (sC HR01) J01.out (sC HR02) J02.out (sC HR03) J03.out (sC HR04) J04.out (sC HR10) J10.out (sC HR11) J11.out A4.out).mono ?_);rintro e w13 ⟨rfl,hb⟩;refine ⟨_,rfl,?_⟩;replace BK419:=uK BK419 hb;replace BK420:=uK BK420 hb;replace HB:=uH hb;(try clear hb);(try clear hb2);(try clear hk);(try clear hi);refine hK.out _ _ ⟨cB BK419 0,cB BK419 1,cB BK419 2,cB BK419 3,cB BK419 4,cB BK420 0,cB BK420 1,uV hw422_0,uV hw422_1,uV hw422_2,uV hw422_3,uV hw422_4⟩ (fun hH=>?_);clear hK K;refine nU ?_;refine pU 3 10 ?_;refine pU 4 11 ?_;refine pU 5 12 ?_;refine pU 6 13 ?_;refine pU 7 14 ?_;refine pU 8 15 ?_;refine pU 9 16 ?_;refine pU 10 17 ?_;refine tU 11 18 ?_;refine pU 12 19 ?_;refine pU 13 20 ?_;refine pU 14 21 ?_;refine pU 15 22 ?_;refine pU 17 24 ?_;refine pU 19 26 ?_;refine tU 16 23 ?_;refine tU 18 25 ?_;refine pU 20 27 ?_;refine tU 21 28 ?_;refine oU (N:=some 29) 22 (fun K hK=>?_);refine gO Tryz.func122 #[.agg #[.slice A1_0 l10.length c1_0,.slice A1_1 l11.length c1_1],.agg #[.int .i64 ((rd_T85 l03 a2).f0),.bool ((rd_T85 l03 a2).f1),.int .i64 ((rd_T85 l03 a2).f2),.int .i64 ((rd_T85 l03 a2).f3),.int .i64 ((rd_T85 l03 a2).f4)]] ?_;(with_reducible refine (eval_holds.calls _ _ l10 _ _ l11 ((rd_T85 l03 a2).f0) ((rd_T85 l03 a2).f1) ((rd_T85 l03 a2).f2) ((rd_T85 l03 a2).f3) ((rd_T85 l03 a2).f4) t423 _ (sC HR10) J10.out (sC HR11) J11.out A9.out).mono ?_);rintro e w14 ⟨rfl,hb⟩;refine ⟨_,rfl,?_⟩;replace BK419:=uK BK419 hb;replace BK420:=uK BK420 hb;replace HB:=uH hb;(try clear hb);(try clear hb2);(try clear hk);(try clear hi);refine hK.out _ _ ⟨cB BK419 0,cB BK419 1,cB BK419 2,cB BK419 3,cB BK419 4,cB BK420 0,cB BK420 1,uV hw422_0,uV hw422_1,uV hw422_2,uV hw422_3,uV hw422_4⟩ (fun hH=>?_);clear hK K;refine nU ?_;refine pU 23 30 ?_;refine pU 24 6 ?_;refine dU ?_;(try go_wp2);go_ret;exact ⟨tW,uB⟩
    ·rw [if_neg c8] at H;exact absurd H (by simp)
   ·rw [if_neg c7] at H;have c7b0:=dFa c7;clear c7;obtain rfl:=sI H;go_enter Tryz.func79,Tryz.ntmps79;(try go_wp2_with (first|((with_reducible refine gate_dst (N:=3) rfl ?_);(try (refine gate_guard (by rfl) ?_;dsimp only));refine uX 3 (cs:=#[.slice A0_0 l00.length c0_0,.slice A0_1 l01.length c0_1,.slice A0_2 l02.length c0_2,.slice A0_3 l03.length c0_3,.slice A0_4 l04.length c0_4]) (t:=26) fun gb419 hg w15 BK419 hb=>?_;have GW419:Sd (w.heap.size ≤ gb419):=uG hg;have GE419:=GW419;replace HB:=uH hb;clear hb hg)|((with_reducible refine gate_dst (N:=4) rfl ?_);(try (refine gate_guard (by rfl) ?_;dsimp only));refine uX 4 (cs:=#[.slice A1_0 l10.length c1_0,.slice A1_1 l11.length c1_1]) (t:=80) fun gb420 hg w16 BK420 hb=>?_;have GW420:Sd (w.heap.size ≤ gb420):=uG hg;have GE420:=GW420;have NB419_420:=uN hg BK419;have NB420_419:=uM (uN hg BK419);replace BK419:=uK BK419 hb;replace HB:=uH hb;clear hb hg)));replace BK419:=uE BK419;replace BK420:=uE BK420;replace HB:=uI HB;refine start_ (n:=25) (S:=fun w'=>w'.cell? ⟨gb419,0,none⟩=some (.slice A0_0 l00.length c0_0)∧w'.cell? ⟨gb419,1,none⟩=some (.slice A0_1 l01.length c0_1)∧w'.cell? ⟨gb419,2,none⟩=some (.slice A0_2 l02.length c0_2)∧w'.cell? ⟨gb419,3,none⟩=some (.slice A0_3 l03.length c0_3)∧w'.cell? ⟨gb419,4,none⟩=some (.slice A0_4 l04.length c0_4)∧w'.cell? ⟨gb420,0,none⟩=some (.slice A1_0 l10.length c1_0)∧w'.cell? ⟨gb420,1,none⟩=some (.slice A1_1 l11.length c1_1)) (ds:=[]) (ab 25 0) (by kernel_rfl) rfl rfl ⟨cB BK419 0,cB BK419 1,cB BK419 2,cB BK419 3,cB BK419 4,cB BK420 0,cB BK420 1⟩ (fun hH=>?_);refine with_tabW eval_Holds.tab1 eval_Holds.bits1 (fun HT_ HW_=>?_);generalize w16.drew=w17 at BK419 BK420 HB hH ⊢;refine tU 0 7 ?_;refine tU 1 8 ?_;refine oU (N:=some 9) 2 (fun K hK=>?_);refine gO Tryz.func121 #[.agg #[.slice A0_0 l00.length c0_0,.slice A0_1 l01.length c0_1,.slice A0_2 l02.length c0_2,.slice A0_3 l03.length c0_3,.slice A0_4 l04.length c0_4],.agg #[.slice A1_0 l10.length c1_0,.slice A1_1 l11.length c1_1]] ?_;(with_reducible refine (eval_Check.calls _ _ l00 _ _ l01 _ _ l02 _ _ l03 _ _ l04 _ _ l10 _ _ l11 t421 _ (sC HR00) J00.out (sC HR01) J01.out (sC HR02) J02.out (sC HR03) J03.out (sC HR04) J04.out (sC HR10) J10.out (sC HR11) J11.out A4.out).mono ?_);rintro e w18 ⟨rfl,hb⟩;refine ⟨_,rfl,?_⟩;replace BK419:=uK BK419 hb;replace BK420:=uK BK420 hb;replace HB:=uH hb;(try clear hb);(try clear hb2);(try clear hk);(try clear hi);refine hK.out _ _ ⟨cB BK419 0,cB BK419 1,cB BK419 2,cB BK419 3,cB BK419 4,cB BK420 0,cB BK420 1⟩ (fun hH=>?_);clear hK K;refine nU ?_;refine pU 3 10 ?_;refine pU 4 11 ?_;refine pU 5 12 ?_;refine pU 6 13 ?_;refine pU 7 14 ?_;refine pU 8 15 ?_;refine pU 9 16 ?_;refine pU 10 17 ?_;refine tU 11 18 ?_;refine pU 12 19 ?_;refine pU 13 20 ?_;refine pU 14 21 ?_;refine pU 15 22 ?_;refine pV 16 23 ?_;refine pV 17 24 ?_;refine pV 18 25 ?_;refine pV 19 26 ?_;refine pV 20 27 ?_;refine pV 21 28 ?_;refine pV 22 29 ?_;refine pU 23 30 ?_;refine pU 24 6 ?_;refine dU ?_;(try go_wp2);go_ret;exact ⟨tW,uB⟩
  ·rw [if_neg c6] at H;have c6b0:=dFa c6;clear c6;obtain rfl:=sI H;go_enter Tryz.func79,Tryz.ntmps79;(try go_wp2_with (first|((with_reducible refine gate_dst (N:=3) rfl ?_);(try (refine gate_guard (by rfl) ?_;dsimp only));refine uX 3 (cs:=#[.slice A0_0 l00.length c0_0,.slice A0_1 l01.length c0_1,.slice A0_2 l02.length c0_2,.slice A0_3 l03.length c0_3,.slice A0_4 l04.length c0_4]) (t:=26) fun gb419 hg w19 BK419 hb=>?_;have GW419:Sd (w.heap.size ≤ gb419):=uG hg;have GE419:=GW419;replace HB:=uH hb;clear hb hg)|((with_reducible refine gate_dst (N:=4) rfl ?_);(try (refine gate_guard (by rfl) ?_;dsimp only));refine uX 4 (cs:=#[.slice A1_0 l10.length c1_0,.slice A1_1 l11.length c1_1]) (t:=80) fun gb420 hg w20 BK420 hb=>?_;have GW420:Sd (w.heap.size ≤ gb420):=uG hg;have GE420:=GW420;have NB419_420:=uN hg BK419;have NB420_419:=uM (uN hg BK419);replace BK419:=uK BK419 hb;replace HB:=uH hb;clear hb hg)));replace BK419:=uE BK419;replace BK420:=uE BK420;replace HB:=uI HB;refine start_ (n:=25) (S:=fun w'=>w'.cell? ⟨gb419,0,none⟩=some (.slice A0_0 l00.length c0_0)∧w'.cell? ⟨gb419,1,none⟩=some (.slice A0_1 l01.length c0_1)∧w'.cell? ⟨gb419,2,none⟩=some (.slice A0_2 l02.length c0_2)∧w'.cell? ⟨gb419,3,none⟩=some (.slice A0_3 l03.length c0_3)∧w'.cell? ⟨gb419,4,none⟩=some (.slice A0_4 l04.length c0_4)∧w'.cell? ⟨gb420,0,none⟩=some (.slice A1_0 l10.length c1_0)∧w'.cell? ⟨gb420,1,none⟩=some (.slice A1_1 l11.length c1_1)) (ds:=[]) (ab 25 0) (by kernel_rfl) rfl rfl ⟨cB BK419 0,cB BK419 1,cB BK419 2,cB BK419 3,cB BK419 4,cB BK420 0,cB BK420 1⟩ (fun hH=>?_);refine with_tabW eval_Holds.tab1 eval_Holds.bits1 (fun HT_ HW_=>?_);generalize w20.drew=w21 at BK419 BK420 HB hH ⊢;refine tU 0 7 ?_;refine tU 1 8 ?_;refine oU (N:=some 9) 2 (fun K hK=>?_);refine gO Tryz.func121 #[.agg #[.slice A0_0 l00.length c0_0,.slice A0_1 l01.length c0_1,.slice A0_2 l02.length c0_2,.slice A0_3 l03.length c0_3,.slice A0_4 l04.length c0_4],.agg #[.slice A1_0 l10.length c1_0,.slice A1_1 l11.length c1_1]] ?_;(with_reducible refine (eval_Check.calls _ _ l00 _ _ l01 _ _ l02 _ _ l03 _ _ l04 _ _ l10 _ _ l11 t421 _ (sC HR00) J00.out (sC HR01) J01.out (sC HR02) J02.out (sC HR03) J03.out (sC HR04) J04.out (sC HR10) J10.out (sC HR11) J11.out A4.out).mono ?_);rintro e w22 ⟨rfl,hb⟩;refine ⟨_,rfl,?_⟩;replace BK419:=uK BK419 hb;replace BK420:=uK BK420 hb;replace HB:=uH hb;(try clear hb);(try clear hb2);(try clear hk);(try clear hi);refine hK.out _ _ ⟨cB BK419 0,cB BK419 1,cB BK419 2,cB BK419 3,cB BK419 4,cB BK420 0,cB BK420 1⟩ (fun hH=>?_);clear hK K;refine nU ?_;refine pU 3 10 ?_;refine pU 4 11 ?_;refine pU 5 12 ?_;refine pU 6 13 ?_;refine pU 7 14 ?_;refine pU 8 15 ?_;refine pV 9 16 ?_;refine pV 10 17 ?_;refine pV 11 18 ?_;refine pV 12 19 ?_;refine pV 13 20 ?_;refine pU 14 21 ?_;refine pU 15 22 ?_;refine pV 16 23 ?_;refine pV 17 24 ?_;refine pV 18 25 ?_;refine pV 19 26 ?_;refine pV 20 27 ?_;refine pV 21 28 ?_;refine pV 22 29 ?_;refine pU 23 30 ?_;refine pU 24 6 ?_;refine dU ?_;(try go_wp2);go_ret;exact ⟨tW,uB⟩
 ·rw [if_neg c5] at H;obtain ⟨c5b0,c5b1⟩:=bN c5;obtain rfl:=sI H;go_enter Tryz.func79,Tryz.ntmps79;(try go_wp2_with (first|((with_reducible refine gate_dst (N:=3) rfl ?_);(try (refine gate_guard (by rfl) ?_;dsimp only));refine uX 3 (cs:=#[.slice A0_0 l00.length c0_0,.slice A0_1 l01.length c0_1,.slice A0_2 l02.length c0_2,.slice A0_3 l03.length c0_3,.slice A0_4 l04.length c0_4]) (t:=26) fun gb419 hg w23 BK419 hb=>?_;have GW419:Sd (w.heap.size ≤ gb419):=uG hg;have GE419:=GW419;replace HB:=uH hb;clear hb hg)|((with_reducible refine gate_dst (N:=4) rfl ?_);(try (refine gate_guard (by rfl) ?_;dsimp only));refine uX 4 (cs:=#[.slice A1_0 l10.length c1_0,.slice A1_1 l11.length c1_1]) (t:=80) fun gb420 hg w24 BK420 hb=>?_;have GW420:Sd (w.heap.size ≤ gb420):=uG hg;have GE420:=GW420;have NB419_420:=uN hg BK419;have NB420_419:=uM (uN hg BK419);replace BK419:=uK BK419 hb;replace HB:=uH hb;clear hb hg)));replace BK419:=uE BK419;replace BK420:=uE BK420;replace HB:=uI HB;refine start_ (n:=25) (S:=fun w'=>w'.cell? ⟨gb419,0,none⟩=some (.slice A0_0 l00.length c0_0)∧w'.cell? ⟨gb419,1,none⟩=some (.slice A0_1 l01.length c0_1)∧w'.cell? ⟨gb419,2,none⟩=some (.slice A0_2 l02.length c0_2)∧w'.cell? ⟨gb419,3,none⟩=some (.slice A0_3 l03.length c0_3)∧w'.cell? ⟨gb419,4,none⟩=some (.slice A0_4 l04.length c0_4)∧w'.cell? ⟨gb420,0,none⟩=some (.slice A1_0 l10.length c1_0)∧w'.cell? ⟨gb420,1,none⟩=some (.slice A1_1 l11.length c1_1)) (ds:=[]) (ab 25 0) (by kernel_rfl) rfl rfl ⟨cB BK419 0,cB BK419 1,cB BK419 2,cB BK419 3,cB BK419 4,cB BK420 0,cB BK420 1⟩ (fun hH=>?_);refine with_tabW eval_Holds.tab1 eval_Holds.bits1 (fun HT_ HW_=>?_);generalize w24.drew=w25 at BK419 BK420 HB hH ⊢;refine tU 0 7 ?_;refine tU 1 8 ?_;refine oU (N:=some 9) 2 (fun K hK=>?_);refine gO Tryz.func121 #[.agg #[.slice A0_0 l00.length c0_0,.slice A0_1 l01.length c0_1,.slice A0_2 l02.length c0_2,.slice A0_3 l03.length c0_3,.slice A0_4 l04.length c0_4],.agg #[.slice A1_0 l10.length c1_0,.slice A1_1 l11.length c1_1]] ?_;(with_reducible refine (eval_Check.calls _ _ l00 _ _ l01 _ _ l02 _ _ l03 _ _ l04 _ _ l10 _ _ l11 t421 _ (sC HR00) J00.out (sC HR01) J01.out (sC HR02) J02.out (sC HR03) J03.out (sC HR04) J04.out (sC HR10) J10.out (sC HR11) J11.out A4.out).mono ?_);rintro e w26 ⟨rfl,hb⟩;refine ⟨_,rfl,?_⟩;replace BK419:=uK BK419 hb;replace BK420:=uK BK420 hb;replace HB:=uH hb;(try clear hb);(try clear hb2);(try clear hk);(try clear hi);refine hK.out _ _ ⟨cB BK419 0,cB BK419 1,cB BK419 2,cB BK419 3,cB BK419 4,cB BK420 0,cB BK420 1⟩ (fun hH=>?_);clear hK K;refine nU ?_;refine pU 3 10 ?_;refine pU 4 11 ?_;refine pV 5 12 ?_;refine pV 6 13 ?_;refine pU 7 14 ?_;refine pU 8 15 ?_;refine pV 9 16 ?_;refine pV 10 17 ?_;refine pV 11 18 ?_;refine pV 12 19 ?_;refine pV 13 20 ?_;refine pU 14 21 ?_;refine pU 15 22 ?_;refine pV 16 23 ?_;refine pV 17 24 ?_;refine pV 18 25 ?_;refine pV 19 26 ?_;refine pV 20 27 ?_;refine pV 21 28 ?_;refine pV 22 29 ?_;refine pU 23 30 ?_;refine pU 24 6 ?_;refine dU ?_;(try go_wp2);go_ret;exact ⟨tW,uB⟩
end Go.Proofs.YtjbjbeihkoeciaaGreat.X

/- Joined texts of this session, without what nothing needs: PairP, PairQ, PairR, Tabled, AtTab, PairAt, PairS, AtFn, Clash, All, AllFn. -/
import Derived.Test.YtjbjbeihkoeciaaGreatK1
import Derived.Test.YtjbjbeihkoeciaaGreatK2
import Derived.Test.YtjbjbeihkoeciaaGreatK3
import Derived.Test.YtjbjbeihkoeciaaGreatK4
import Derived.Test.YtjbjbeihkoeciaaGreatK5
set_option maxHeartbeats 16000000
set_option maxRecDepth 100000
set_option linter.unusedVariables false
set_option linter.unusedSimpArgs false
namespace Go.Proofs.YtjbjbeihkoeciaaGreat.X
open Go.RowKit Go.Proofs.YtjbjbeihkoeciaaGreatW.PrintWords Go.Proofs.YtjbjbeihkoeciaaGreatW.PrintLast Go.Proofs.YtjbjbeihkoeciaaGreatW.PrintMore
theorem rdCe_at (l:List Ce) (pos:Nat):rd_T158 l (pos:Int)=l.getD pos z158:=by simp [rd_T158]
def makeL:List Dg → Int → Int
 | [],_=>0
 | d :: r,s=>if d.f1=s then (if d.f0=1 then 1 else if d.f0=2 then -1 else makeL r s) else makeL r s
def moreL:List Dg → Int → Int
 | [],_=>0
 | d :: r,s=>if d.f1=s then (if d.f0=3 then d.f2 else if d.f0=4 then -d.f2 else moreL r s) else moreL r s
def doesO (l4:List Op_) (o:Int):List Dg:=if 0 ≤ o∧o < (l4.length:Int) then (rd_T89 l4 o).f1 else []
def makeN (l4:List Op_) (o s:Int):Int:=makeL (doesO l4 o) s
def moreN (l4:List Op_) (o s:Int):Int:=moreL (doesO l4 o) s
theorem makeL_is (l:List Dg) (s:Int):makeL l s=1 ∨ makeL l s=0 ∨ makeL l s = -1:=by
 induction l with
 | nil=>exact .inr (.inl rfl)
 | cons d r ih =>
  unfold makeL;split
  ·split
   ·exact .inl rfl
   ·split
    ·exact .inr (.inr rfl)
    ·exact ih
  ·exact ih
theorem moreL_le (l:List Dg) (s:Int) (h:∀ d ∈ l,-1000 ≤ d.f2∧d.f2 ≤ 1000) : -1000 ≤ moreL l s∧moreL l s ≤ 1000:=by
 induction l with
 | nil=>exact ⟨by show (-1000:Int) ≤ 0;decide,by show (0:Int) ≤ 1000;decide⟩
 | cons d r ih =>
  have h1:=h d List.mem_cons_self;have h2:=ih (fun d hd=>h d (List.mem_cons_of_mem _ hd));unfold moreL;split
  ·split
   ·exact h1
   ·split
    ·omega
    ·exact h2
  ·exact h2
theorem there_f (l0 l1 l2:List ByteArray) (l3:List Cl) (l4:List Op_) (o:Int):wp_there.f l0 l1 l2 l3 l4 o=some (decide (0 ≤ o∧o < (l4.length:Int))):=by
 unfold wp_there.f;by_cases h:o ≥ 0
 ·rw [if_pos h];congr 1;simp;omega
 ·rw [if_neg h,decide_eq_false (by omega)]
theorem pthere_f (l0 l1 l2:List ByteArray) (l3:List Cl) (l4:List Op_) (o:Int):pairs_there.f l0 l1 l2 l3 l4 o=some (decide (0 ≤ o∧o < (l4.length:Int))):=by
 unfold pairs_there.f;by_cases h:o ≥ 0
 ·rw [if_pos h];congr 1;simp;omega
 ·rw [if_neg h,decide_eq_false (by omega)]
section
variable (l0 l1 l2:List ByteArray) (l3:List Cl) (l4:List Op_)
theorem make_ev (o s:Int) (hd:∀ x ∈ l4,x.f1.length ≤ 4000000000):Ev (fun k=>wp_Make.f k l0 l1 l2 l3 l4 o s) (makeN l4 o s):=by
 unfold wp_Make.f makeN doesO;refine Ev.bind1 (there_f _ _ _ _ _ _) ?_;by_cases h:0 ≤ o∧o < (l4.length:Int)
 ·rw [decide_eq_true h,if_pos h];refine Ev.yes rfl (Ev.yes h.1 (Ev.yes h.2 ?_));have hl:(rd_T89 l4 o).f1.length ≤ 4000000000:=hd _ (getD_at l4 z89 o.toNat (by omega));generalize (rd_T89 l4 o).f1=L at *;refine Ev.loop (g:=fun k pos=>wp_Make.l0 k s L (L.length:Int) (pos:Int)) (spec:=fun pos=>makeL (L.drop pos) s) L.length ?_ ?_ 0 (by omega)
  ·refine Ev.succ ?_;simp only [wp_Make.l0,List.drop_length];exact Ev.no (by omega) (Ev.now _)
  ·intro pos hp ih;refine Ev.succ ?_;simp only [wp_Make.l0,rdDg_at];rw [wrap_up pos (by omega),drop_getD L z94 pos hp,makeL];generalize L.getD pos z94=d at *;refine Ev.yes (by omega) (Ev.yes (by omega) (Ev.yes (by omega) ?_));by_cases h1:d.f1=s
   ·rw [if_pos h1];refine Ev.yes h1 ?_;by_cases h2:d.f0=1
    ·rw [if_pos h2];exact Ev.yes h2 (Ev.now _)
    ·rw [if_neg h2];refine Ev.no h2 ?_;by_cases h3:d.f0=2
     ·rw [if_pos h3];exact Ev.yes h3 (Ev.now _)
     ·rw [if_neg h3];exact Ev.no h3 ih
   ·rw [if_neg h1];exact Ev.no h1 ih
 ·rw [decide_eq_false h,if_neg h];exact Ev.no (by decide) (Ev.now _)
theorem more_ev (o s:Int) (hd:∀ x ∈ l4,x.f1.length ≤ 4000000000) (hb:∀ x ∈ l4,∀ d ∈ x.f1,-1000 ≤ d.f2∧d.f2 ≤ 1000):Ev (fun k=>wp_More.f k l0 l1 l2 l3 l4 o s) (moreN l4 o s):=by
 unfold wp_More.f moreN doesO;refine Ev.bind1 (there_f _ _ _ _ _ _) ?_;by_cases h:0 ≤ o∧o < (l4.length:Int)
 ·rw [decide_eq_true h,if_pos h];refine Ev.yes rfl (Ev.yes h.1 (Ev.yes h.2 ?_));have hm:=getD_at l4 z89 o.toNat (by omega);have hl:(rd_T89 l4 o).f1.length ≤ 4000000000:=hd _ hm;have hbl:∀ d ∈ (rd_T89 l4 o).f1,-1000 ≤ d.f2∧d.f2 ≤ 1000:=hb _ hm;generalize (rd_T89 l4 o).f1=L at *;refine Ev.loop (g:=fun k pos=>wp_More.l0 k s L (L.length:Int) (pos:Int)) (spec:=fun pos=>moreL (L.drop pos) s) L.length ?_ ?_ 0 (by omega)
  ·refine Ev.succ ?_;simp only [wp_More.l0,List.drop_length];exact Ev.no (by omega) (Ev.now _)
  ·intro pos hp ih;refine Ev.succ ?_;simp only [wp_More.l0,rdDg_at];have hdb:=hbl _ (getD_at L z94 pos hp);rw [wrap_up pos (by omega),drop_getD L z94 pos hp,moreL];generalize L.getD pos z94=d at *;refine Ev.yes (by omega) (Ev.yes (by omega) (Ev.yes (by omega) ?_));by_cases h1:d.f1=s
   ·rw [if_pos h1];refine Ev.yes h1 ?_;by_cases h2:d.f0=3
    ·rw [if_pos h2];exact Ev.yes h2 (Ev.now _)
    ·rw [if_neg h2];refine Ev.no h2 ?_;by_cases h3:d.f0=4
     ·rw [if_pos h3];exact Ev.yes h3 (Ev.is (by unfold wrap64;omega))
     ·rw [if_neg h3];exact Ev.no h3 ih
   ·rw [if_neg h1];exact Ev.no h1 ih
 ·rw [decide_eq_false h,if_neg h];exact Ev.no (by decide) (Ev.now _)
def manyN:Nat:=if checkB l0 l1 l2 l3 l4=true∧l0.length ≤ 4∧l1.length ≤ 3 then 2 ^ l0.length * 3 ^ l1.length else 0
def bitsL:Nat → Nat → List Bool
 | 0,_=>[]
 | k + 1,n=>(n % 2 == 1) :: bitsL k (n / 2)
def digsL:Nat → Nat → List Int
 | 0,_=>[]
 | k + 1,n=>((n % 3:Nat):Int) :: digsL k (n / 3)
def halfs:Nat → Nat → Nat
 | 0,n=>n
 | k + 1,n=>halfs k (n / 2)
def stN (n0 n1 n:Nat):Sm:=⟨bitsL n0 n,digsL n1 (halfs n0 n)⟩
theorem bitsL_len (k n:Nat):(bitsL k n).length=k:=by induction k generalizing n with|zero=>rfl|succ k ih=>simp [bitsL,ih]
theorem digsL_len (k n:Nat):(digsL k n).length=k:=by induction k generalizing n with|zero=>rfl|succ k ih=>simp [digsL,ih]
theorem digsL_le (k n:Nat):∀ x ∈ digsL k n,0 ≤ x∧x ≤ 2:=by
 induction k generalizing n with
 | zero=>intro x hx;simp [digsL] at hx
 | succ k ih =>
  intro x hx;rcases List.mem_cons.1 hx with rfl|hx
  ·omega
  ·exact ih _ x hx
theorem many_le:manyN l0 l1 l2 l3 l4 ≤ 1000:=by
 unfold manyN;split
 ·rename_i h;have h1:2 ^ l0.length ≤ 2 ^ 4:=Nat.pow_le_pow_right (by decide) h.2.1;have h2:3 ^ l1.length ≤ 3 ^ 3:=Nat.pow_le_pow_right (by decide) h.2.2;calc 2 ^ l0.length * 3 ^ l1.length ≤ 2 ^ 4 * 3 ^ 3:=Nat.mul_le_mul h1 h2
   _ ≤ 1000:=by decide
 ·exact Nat.zero_le _
theorem many_ev (hru:RuOk l0 l1 l2 l3 l4):Ev (fun k=>pairs_Many.f k l0 l1 l2 l3 l4) ((manyN l0 l1 l2 l3 l4:Nat):Int):=by
 have hz:∀ b,b=true → manyN l0 l1 l2 l3 l4=0 → Ev (fun k=>pairs_Many.j0 k b l0 l1 l2 l3 l4) ((manyN l0 l1 l2 l3 l4:Nat):Int):=by
  rintro b rfl h;refine Ev.succ ?_;simp only [pairs_Many.j0];rw [h];exact Ev.yes (by first|trivial|rfl) (Ev.now _)
 unfold pairs_Many.f;refine Ev.bind1 (show sorts_Check.f l0 l1 l2 l3 l4=some (checkE l0 l1 l2 l3 l4) by unfold sorts_Check.f;rw [if_pos hru]) ?_;unfold checkE;cases hck:checkB l0 l1 l2 l3 l4
 ·exact Ev.no (by decide) (hz true rfl (by unfold manyN;rw [if_neg (by simp [hck])]))
 ·refine Ev.yes rfl ?_;by_cases h0:l0.length ≤ 4
  ·refine Ev.no (by omega) ?_;by_cases h1:l1.length ≤ 3
   ·rw [decide_eq_false (by omega)];refine Ev.succ ?_;simp only [pairs_Many.j0];refine Ev.no (by decide) ?_;have hs:shl .i64 1 (l0.length:Int)=((2 ^ l0.length:Nat):Int):=by
     (have:l0.length=0 ∨ l0.length=1 ∨ l0.length=2 ∨ l0.length=3 ∨ l0.length=4:=by omega);rcases this with h|h|h|h|h <;> rw [h] <;> rfl
    rw [hs];have hm:manyN l0 l1 l2 l3 l4=2 ^ l0.length * 3 ^ l1.length:=if_pos ⟨hck,h0,h1⟩;rw [hm];have hb:2 ^ l0.length ≤ 16:=(Nat.pow_le_pow_right (by decide) h0:2 ^ l0.length ≤ 2 ^ 4);generalize 2 ^ l0.length=B at *;have h3:∀ (m B:Nat),m ≤ 3 → B ≤ 16 * 3 ^ (3 - m) → ∀ p:Nat,p + m=l1.length → Ev (fun k=>pairs_Many.l0 k (B:Int) (l1.length:Int) (p:Int)) ((B * 3 ^ m:Nat):Int):=by
     intro m;induction m with
     | zero =>
      intro B _ _ p hp;refine Ev.succ ?_;simp only [pairs_Many.l0];exact Ev.no (by omega) (Ev.is (by simp))
     | succ m ih =>
      intro B hm hB p hp;refine Ev.succ ?_;simp only [pairs_Many.l0];have hB2:B * 3 ≤ 16 * 3 ^ (3 - m):=by
       (have e:3 - m=(3 - (m + 1)) + 1:=by omega);rw [e,Nat.pow_succ];have:=Nat.mul_le_mul_right 3 hB;rwa [Nat.mul_assoc] at this
      have hB3:16 * 3 ^ (3 - m) ≤ 432:=Nat.le_trans (Nat.mul_le_mul_left 16 (Nat.pow_le_pow_right (by decide) (show 3 - m ≤ 3 by omega))) (by decide);(have e1:wrap64 ((B:Int) * 3)=((B * 3:Nat):Int):=by unfold wrap64;omega);rw [e1,wrap_up p (by omega)];refine Ev.yes (by omega) ?_;have h4:=ih (B * 3) (by omega) hB2 (p + 1) (by omega);rwa [show B * 3 * 3 ^ m=B * 3 ^ (m + 1) by rw [Nat.pow_succ,Nat.mul_assoc,Nat.mul_comm 3]] at h4
    exact h3 l1.length B h1 (Nat.le_trans hb (Nat.le_mul_of_pos_right _ (Nat.pow_pos (by decide)))) 0 (by omega)
   ·rw [decide_eq_true (by omega)];exact hz true rfl (by unfold manyN;rw [if_neg (by omega)])
  ·exact Ev.yes (by omega) (hz true rfl (by unfold manyN;rw [if_neg (by omega)]))
def mayN (drops:List Bool) (a b:Int):Bool:=decide (0 < manyN l0 l1 l2 l3 l4) && (decide (drops.length=l0.length) && (decide (0 ≤ a∧a < (l4.length:Int)) && decide (0 ≤ b∧b < (l4.length:Int))))
theorem may_ev2 (hru:RuOk l0 l1 l2 l3 l4) (drops:List Bool) (a b:Int):Ev (fun k=>pairs_may.f k l0 l1 l2 l3 l4 drops a b) (mayN l0 l1 l2 l3 l4 drops a b):=by
 unfold pairs_may.f mayN;refine Ev.bind (many_ev l0 l1 l2 l3 l4 hru) ?_;by_cases h0:0 < manyN l0 l1 l2 l3 l4
 ·rw [decide_eq_true h0];refine Ev.yes (by omega) ?_;by_cases h1:drops.length=l0.length
  ·rw [decide_eq_true h1];refine Ev.yes (by omega) (Ev.bind1 (pthere_f _ _ _ _ _ _) ?_);cases ha:decide (0 ≤ a∧a < (l4.length:Int))
   ·exact Ev.no (by decide) (Ev.is rfl)
   ·exact Ev.yes rfl (Ev.bind1 (pthere_f _ _ _ _ _ _) (Ev.is rfl))
  ·rw [decide_eq_false h1];exact Ev.no (by omega) (Ev.is rfl)
 ·rw [decide_eq_false h0];exact Ev.no (by omega) (Ev.is rfl)
theorem state_ev (h0:l0.length ≤ 1000) (h1:l1.length ≤ 1000) (n:Nat) (hn:n ≤ 1000000):Ev (fun k=>pairs_state.f k l0 l1 l2 l3 l4 (n:Int)) ((stN l0.length l1.length n).f0,(stN l0.length l1.length n).f1):=by
 have hdigs:∀ (m:Nat) (n:Nat) (bs:List Bool) (acc:List Int),n ≤ 1000000 → ∀ p:Nat,p + m=l1.length → acc.length=p → Ev (fun k=>pairs_state.l1 k (n:Int) (l1.length:Int) (p:Int) bs acc) (bs,acc ++ digsL m n):=by
  intro m;induction m with
  | zero =>
   intro n bs acc hn p hp ha;refine Ev.succ ?_;simp only [pairs_state.l1];exact Ev.no (by omega) (Ev.is (by simp [digsL]))
  | succ m ih =>
   intro n bs acc hn p hp ha;refine Ev.succ ?_;simp only [pairs_state.l1];have e1:wrap64 (Int.tdiv (n:Int) 3)=((n / 3:Nat):Int):=by
    rw [Int.tdiv_eq_ediv_of_nonneg (by omega)];unfold wrap64;omega
   have e2:Int.tmod (n:Int) 3=((n % 3:Nat):Int):=by
    rw [Int.tmod_eq_emod_of_nonneg (by omega)];omega
   rw [e1,e2,wrap_up p (by omega)];refine Ev.yes (by omega) (Ev.yes (by omega) ?_);have h:=ih (n / 3) bs (acc ++ [((n % 3:Nat):Int)]) (by omega) (p + 1) (by omega) (by simp [ha]);rwa [List.append_assoc,List.singleton_append] at h
 have hbits:∀ (m:Nat) (n:Nat) (acc:List Bool),n ≤ 1000000 → ∀ p:Nat,p + m=l0.length → acc.length=p → Ev (fun k=>pairs_state.l0 k (n:Int) (l0.length:Int) (p:Int) l0 l1 l2 l3 l4 acc) (acc ++ bitsL m n,digsL l1.length (halfs m n)):=by
  intro m;induction m with
  | zero =>
   intro n acc hn p hp ha;refine Ev.succ ?_;simp only [pairs_state.l0];refine Ev.no (by omega) ?_;have h:=hdigs l1.length n acc [] hn 0 (by omega) rfl;simpa [bitsL,halfs] using h
  | succ m ih =>
   intro n acc hn p hp ha;refine Ev.succ ?_;simp only [pairs_state.l0];have e1:wrap64 (Int.tdiv (n:Int) 2)=((n / 2:Nat):Int):=by
    rw [Int.tdiv_eq_ediv_of_nonneg (by omega)];unfold wrap64;omega
   have e2:(Int.tmod (n:Int) 2 == 1)=(n % 2 == 1):=by
    rw [Int.tmod_eq_emod_of_nonneg (by omega)];by_cases h:n % 2=1
    ·rw [beq_iff_eq.2 h,beq_iff_eq.2 (by omega)]
    ·rw [beq_eq_false_iff_ne.2 h,beq_eq_false_iff_ne.2 (by omega)]
   rw [e1,e2,wrap_up p (by omega)];refine Ev.yes (by omega) (Ev.yes (by omega) ?_);have h:=ih (n / 2) (acc ++ [n % 2 == 1]) (by omega) (p + 1) (by omega) (by simp [ha]);rwa [List.append_assoc,List.singleton_append] at h
 unfold pairs_state.f stN;have h:=hbits l0.length n [] hn 0 (by omega) rfl;simpa using h
end
end Go.Proofs.YtjbjbeihkoeciaaGreat.X
namespace Go.Proofs.YtjbjbeihkoeciaaGreat.X
open Go.RowKit Go.Proofs.YtjbjbeihkoeciaaGreatW.PrintWords Go.Proofs.YtjbjbeihkoeciaaGreatW.PrintLast Go.Proofs.YtjbjbeihkoeciaaGreatW.PrintMore
def kB:ByteArray:=⟨#[107]⟩
def wS (l:List Bool):List (List ByteArray):=l.map fun b=>if b=true then [kB] else []
def wC (l:List Int):List (List Ce):=l.map fun n=>if n=0 then [] else [⟨kB,n⟩]
theorem set_mid {α:Type} (A:List α) (z y:α) (R:List α):(A ++ z :: R).set A.length y=A ++ y :: R:=by
 induction A with
 | nil=>rfl
 | cons a r ih=>simp [ih]
theorem wide_ev (s:Sm) (h0:s.f0.length ≤ 1000) (h1:s.f1.length ≤ 1000):Ev (fun k=>pairs_wide.f k s.f0 s.f1) (wS s.f0,wC s.f1):=by
 obtain ⟨f0,f1⟩:=s;simp only at h0 h1 ⊢;have hcs:Ev (fun k=>pairs_wide.l1 k f1 (f1.length:Int) ((0:Nat):Int) (wS f0) (wC (f1.take 0) ++ List.replicate (f1.length - 0) [])) (wS f0,wC f1):=by
  refine Ev.loop (g:=fun k pos=>pairs_wide.l1 k f1 (f1.length:Int) (pos:Int) (wS f0) (wC (f1.take pos) ++ List.replicate (f1.length - pos) [])) (spec:=fun _=>(wS f0,wC f1)) f1.length ?_ ?_ 0 (by omega)
  ·refine Ev.succ ?_;simp only [pairs_wide.l1,List.take_length,Nat.sub_self,List.replicate_zero,List.append_nil];exact Ev.no (by omega) (Ev.now _)
  ·intro pos hp ih;refine Ev.succ ?_;simp only [pairs_wide.l1];(have hrd:rd f1 (pos:Int)=f1.getD pos 0:=by simp [rd]);rw [hrd,wrap_up pos (by omega)];(have hlen:(wC (f1.take pos)).length=pos:=by simp [wC];omega);have hrep:List.replicate (f1.length - pos) ([]:List Ce) = [] :: List.replicate (f1.length - (pos + 1)) []:=by
    rw [show f1.length - pos=(f1.length - (pos + 1)) + 1 by omega,List.replicate_succ]
   have htk:wC (f1.take (pos + 1))=wC (f1.take pos) ++ [if f1.getD pos 0=0 then [] else [⟨kB,f1.getD pos 0⟩]]:=by
    unfold wC;rw [List.take_succ_eq_append_getElem hp,List.map_append];simp [List.getD,hp]
   rw [htk] at ih;refine Ev.yes (by omega) (Ev.yes (by omega) (Ev.yes (by omega) ?_));by_cases hz:f1.getD pos 0=0
   ·refine Ev.yes hz ?_;rw [hrep];rw [if_pos hz,List.append_assoc,List.singleton_append] at ih;exact ih
   ·refine Ev.no hz (Ev.yes (by rw [List.length_append,hlen,List.length_replicate];omega) ?_);rw [if_neg hz,List.append_assoc,List.singleton_append] at ih;have hset:(wC (f1.take pos) ++ List.replicate (f1.length - pos) []).set ((pos:Int)).toNat [⟨kB,f1.getD pos 0⟩]=wC (f1.take pos) ++ [⟨kB,f1.getD pos 0⟩] :: List.replicate (f1.length - (pos + 1)) []:=by
     rw [hrep,Int.toNat_natCast];(conv=>lhs;rw [← hlen]);rw [hlen];have:=set_mid (wC (f1.take pos)) [] [(⟨kB,f1.getD pos 0⟩:Ce)] (List.replicate (f1.length - (pos + 1)) []);rw [hlen] at this;exact this
    rw [show ((⟨#[107]⟩:ByteArray))=kB from rfl,hset];exact ih
 have hss:Ev (fun k=>pairs_wide.l0 k f0 (f0.length:Int) ((0:Nat):Int) f0 f1 (wS (f0.take 0) ++ List.replicate (f0.length - 0) []) (wC (f1.take 0) ++ List.replicate (f1.length - 0) [])) (wS f0,wC f1):=by
  refine Ev.loop (g:=fun k pos=>pairs_wide.l0 k f0 (f0.length:Int) (pos:Int) f0 f1 (wS (f0.take pos) ++ List.replicate (f0.length - pos) []) (wC (f1.take 0) ++ List.replicate (f1.length - 0) [])) (spec:=fun _=>(wS f0,wC f1)) f0.length ?_ ?_ 0 (by omega)
  ·refine Ev.succ ?_;simp only [pairs_wide.l0,List.take_length,Nat.sub_self,List.replicate_zero,List.append_nil];exact Ev.no (by omega) hcs
  ·intro pos hp ih;refine Ev.succ ?_;simp only [pairs_wide.l0,rdOf_at];rw [wrap_up pos (by omega)];(have hlen:(wS (f0.take pos)).length=pos:=by simp [wS];omega);have hrep:List.replicate (f0.length - pos) ([]:List ByteArray) = [] :: List.replicate (f0.length - (pos + 1)) []:=by
    rw [show f0.length - pos=(f0.length - (pos + 1)) + 1 by omega,List.replicate_succ]
   have htk:wS (f0.take (pos + 1))=wS (f0.take pos) ++ [if f0.getD pos false=true then [kB] else []]:=by
    unfold wS;rw [List.take_succ_eq_append_getElem hp,List.map_append];simp [List.getD,hp]
   rw [htk] at ih;refine Ev.yes (by omega) (Ev.yes (by omega) (Ev.yes (by omega) ?_));cases hz:f0.getD pos false
   ·refine Ev.no (by decide) ?_;rw [hrep];rw [hz,if_neg (by decide),List.append_assoc,List.singleton_append] at ih;exact ih
   ·refine Ev.yes rfl (Ev.yes (by rw [List.length_append,hlen,List.length_replicate];omega) ?_);rw [hz,if_pos rfl,List.append_assoc,List.singleton_append] at ih;have hset:(wS (f0.take pos) ++ List.replicate (f0.length - pos) []).set ((pos:Int)).toNat [kB]=wS (f0.take pos) ++ [kB] :: List.replicate (f0.length - (pos + 1)) []:=by
     rw [hrep,Int.toNat_natCast];have:=set_mid (wS (f0.take pos)) [] [kB] (List.replicate (f0.length - (pos + 1)) []);rw [hlen] at this;exact this
    rw [show ((⟨#[107]⟩:ByteArray))=kB from rfl,hset];exact ih
 unfold pairs_wide.f;refine Ev.yes (by omega) (Ev.yes (by rw [Int.toNat_natCast];omega) (Ev.yes (by omega) (Ev.yes (by rw [Int.toNat_natCast];omega) ?_)));simpa [wS,wC] using hss
def apIn (x y:Int) (drop i:Bool):Bool:=if x * y < 0 then !drop else if x + y > 0 then true else if x + y < 0 then false else i
def apartS (l4:List Op_) (drops:List Bool) (s:Sm) (a b:Int):Sm :=
 ⟨(List.range s.f0.length).map fun (i:Nat)=>apIn (makeN l4 a (i:Int)) (makeN l4 b (i:Int)) (drops.getD i false) (s.f0.getD i false),(List.range s.f1.length).map fun (i:Nat)=>s.f1.getD i 0 + moreN l4 a (i:Int) + moreN l4 b (i:Int)⟩
theorem apartS_len (l4:List Op_) (drops:List Bool) (s:Sm) (a b:Int):(apartS l4 drops s a b).f0.length=s.f0.length∧(apartS l4 drops s a b).f1.length=s.f1.length:=by simp [apartS]
section
variable (l0 l1 l2:List ByteArray) (l3:List Cl) (l4:List Op_) (hd:∀ x ∈ l4,x.f1.length ≤ 4000000000) (hb:∀ x ∈ l4,∀ d ∈ x.f1,-1000 ≤ d.f2∧d.f2 ≤ 1000)
include hb in
theorem moreN_le (o s:Int) : -1000 ≤ moreN l4 o s∧moreN l4 o s ≤ 1000:=by
 unfold moreN doesO;split
 ·rename_i h;exact moreL_le _ _ (hb _ (getD_at l4 z89 o.toNat (by omega)))
 ·exact ⟨by show (-1000:Int) ≤ 0;decide,by show (0:Int) ≤ 1000;decide⟩
include hb in
theorem apartS_le (drops:List Bool) (s:Sm) (a b:Int) (hs:∀ x ∈ s.f1,-1000000 ≤ x∧x ≤ 1000000):∀ x ∈ (apartS l4 drops s a b).f1,-1002000 ≤ x∧x ≤ 1002000:=by
 intro x hx;simp only [apartS,List.mem_map,List.mem_range] at hx;obtain ⟨i,hi,rfl⟩:=hx;have h1:=moreN_le l4 hb a (i:Int);have h2:=moreN_le l4 hb b (i:Int);have h3:=hs _ (getD_at s.f1 0 i hi);omega
include hd hb in
theorem apart_ev (drops:List Bool) (s:Sm) (a b:Int) (h0:s.f0.length ≤ 1000) (h1:s.f1.length ≤ 1000) (hdr:drops.length=s.f0.length) (hs:∀ x ∈ s.f1,-1000000 ≤ x∧x ≤ 1000000) :
  Ev (fun k=>pairs_apart.f k l0 l1 l2 l3 l4 drops s.f0 s.f1 a b) ((apartS l4 drops s a b).f0,(apartS l4 drops s a b).f1):=by
 obtain ⟨f0,f1⟩:=s;simp only at h0 h1 hs hdr ⊢;generalize hI:(fun i:Nat=>apIn (makeN l4 a (i:Int)) (makeN l4 b (i:Int)) (drops.getD i false) (f0.getD i false))=I;generalize hN:(fun i:Nat=>f1.getD i 0 + moreN l4 a (i:Int) + moreN l4 b (i:Int))=Nn;(have e:apartS l4 drops ⟨f0,f1⟩ a b=⟨(List.range f0.length).map I,(List.range f1.length).map Nn⟩:=by unfold apartS;rw [← hI,← hN]);rw [e];simp only;have hcs:Ev (fun k=>pairs_apart.l1 k a b f1 (f1.length:Int) ((0:Nat):Int) l0 l1 l2 l3 l4 ((List.range f0.length).map I) ((List.range 0).map Nn)) ((List.range f0.length).map I,(List.range f1.length).map Nn):=by
  refine Ev.loop (g:=fun k pos=>pairs_apart.l1 k a b f1 (f1.length:Int) (pos:Int) l0 l1 l2 l3 l4 ((List.range f0.length).map I) ((List.range pos).map Nn)) (spec:=fun _=>((List.range f0.length).map I,(List.range f1.length).map Nn)) f1.length ?_ ?_ 0 (by omega)
  ·refine Ev.succ ?_;simp only [pairs_apart.l1];exact Ev.no (by omega) (Ev.now _)
  ·intro pos hp ih;refine Ev.succ ?_;simp only [pairs_apart.l1];(have hrd:rd f1 (pos:Int)=f1.getD pos 0:=by simp [rd]);rw [hrd,wrap_up pos (by omega)];have m1:=moreN_le l4 hb a (pos:Int);have m2:=moreN_le l4 hb b (pos:Int);have m3:=hs _ (getD_at f1 0 pos hp);refine Ev.yes (by omega) (Ev.yes (by omega) (Ev.yes (by omega) (Ev.bind (more_ev l0 l1 l2 l3 l4 a (pos:Int) hd hb) (Ev.bind (more_ev l0 l1 l2 l3 l4 b (pos:Int) hd hb) (Ev.yes (by rw [List.length_map,List.length_range];omega) ?_)))));have ew:wrap64 (wrap64 (f1.getD pos 0 + moreN l4 a (pos:Int)) + moreN l4 b (pos:Int))=Nn pos:=by
    (have e2:Nn pos=f1.getD pos 0 + moreN l4 a (pos:Int) + moreN l4 b (pos:Int):=by rw [← hN]);rw [e2];unfold wrap64;omega
   rw [ew];rw [List.range_succ,List.map_append] at ih;exact ih
 have hss:Ev (fun k=>pairs_apart.l0 k drops a b f0 (f0.length:Int) ((0:Nat):Int) l0 l1 l2 l3 l4 f0 f1 ((List.range 0).map I)) ((List.range f0.length).map I,(List.range f1.length).map Nn):=by
  refine Ev.loop (g:=fun k pos=>pairs_apart.l0 k drops a b f0 (f0.length:Int) (pos:Int) l0 l1 l2 l3 l4 f0 f1 ((List.range pos).map I)) (spec:=fun _=>((List.range f0.length).map I,(List.range f1.length).map Nn)) f0.length ?_ ?_ 0 (by omega)
  ·refine Ev.succ ?_;simp only [pairs_apart.l0];exact Ev.no (by omega) hcs
  ·intro pos hp ih;refine Ev.succ ?_;simp only [pairs_apart.l0,rdOf_at];rw [wrap_up pos (by omega)];refine Ev.yes (by omega) (Ev.yes (by omega) (Ev.yes (by omega) (Ev.bind (make_ev l0 l1 l2 l3 l4 a (pos:Int) hd) (Ev.bind (make_ev l0 l1 l2 l3 l4 b (pos:Int) hd) ?_))));have x1:=makeL_is (doesO l4 a) (pos:Int);have x2:=makeL_is (doesO l4 b) (pos:Int);(have hIp:I pos=apIn (makeN l4 a (pos:Int)) (makeN l4 b (pos:Int)) (drops.getD pos false) (f0.getD pos false):=by rw [← hI]);unfold makeN at hIp ⊢;generalize makeL (doesO l4 a) (pos:Int)=x at *;generalize makeL (doesO l4 b) (pos:Int)=y at *;(have hw:∀ z,-2 ≤ z → z ≤ 2 → wrap64 z=z:=fun z h1 h2=>by unfold wrap64;omega);(have hxy : -1 ≤ x * y∧x * y ≤ 1:=by rcases x1 with rfl|rfl|rfl <;> rcases x2 with rfl|rfl|rfl <;> decide);rw [hw (x * y) (by omega) (by omega),hw (x + y) (by omega) (by omega)];rw [List.range_succ,List.map_append,List.map_singleton,hIp] at ih;(have hl:((List.range pos).map I).length < 140737488355328:=by rw [List.length_map,List.length_range];omega);unfold apIn at ih;by_cases c1:x * y < 0
   ·rw [if_pos c1] at ih;exact Ev.yes c1 (Ev.yes (by omega) (Ev.yes hl ih))
   ·rw [if_neg c1] at ih;refine Ev.no c1 ?_;by_cases c2:x + y > 0
    ·rw [if_pos c2] at ih;exact Ev.yes c2 (Ev.yes hl ih)
    ·rw [if_neg c2] at ih;refine Ev.no c2 ?_;by_cases c3:x + y < 0
     ·rw [if_pos c3] at ih;exact Ev.yes c3 (Ev.yes hl ih)
     ·rw [if_neg c3] at ih;exact Ev.no c3 (Ev.yes hl ih)
 unfold pairs_apart.f;exact hss
end
end Go.Proofs.YtjbjbeihkoeciaaGreat.X
namespace Go.Proofs.YtjbjbeihkoeciaaGreat.X
open Go.RowKit Go.Proofs.YtjbjbeihkoeciaaGreatW.PrintWords Go.Proofs.YtjbjbeihkoeciaaGreatW.PrintLast Go.Proofs.YtjbjbeihkoeciaaGreatW.PrintMore
abbrev Nd:=S127
theorem key_k:keyB kB=true:=by kernel_rfl
theorem set_nil:setB []=true:=by kernel_rfl
theorem set_k:setB [kB]=true:=by kernel_rfl
theorem cnt_nil:cntB []=true:=by kernel_rfl
theorem cnt_k (n:Int) (h0:n ≠ 0) (h1 : -1048576 ≤ n) (h2:n ≤ 1048576):cntB [⟨kB,n⟩]=true:=by
 show ((cntAt [⟨kB,n⟩] 0 && true) && decide (1 ≤ 4000))=true;rw [Bool.and_eq_true,Bool.and_eq_true];refine ⟨⟨?_,rfl⟩,rfl⟩;unfold cntAt;show (keyB kB && ((decide (0=0) || _) && (n != 0 && (decide (n ≤ 1048576) && decide (-1048576 ≤ n)))))=true;rw [key_k,decide_eq_true h1,decide_eq_true h2,bne_iff_ne.2 h0];rfl
theorem wS_len (l:List Bool):(wS l).length=l.length:=by simp [wS]
theorem wC_len (l:List Int):(wC l).length=l.length:=by simp [wC]
theorem wS_mem {l:List Bool} {x:List ByteArray} (h:x ∈ wS l):x = [kB] ∨ x = []:=by
 simp only [wS,List.mem_map] at h;obtain ⟨b,_,rfl⟩:=h;split
 ·exact .inl rfl
 ·exact .inr rfl
theorem wC_mem {l:List Int} {x:List Ce} (h:x ∈ wC l):x = [] ∨ ∃ n,n ∈ l∧n ≠ 0∧x = [⟨kB,n⟩]:=by
 simp only [wC,List.mem_map] at h;obtain ⟨n,hn,rfl⟩:=h;by_cases hz:n=0
 ·rw [if_pos hz];exact .inl rfl
 ·rw [if_neg hz];exact .inr ⟨n,hn,hz,rfl⟩
theorem wide_ok (s:Sm) (h0:s.f0.length ≤ 1000) (h1:s.f1.length ≤ 1000):StOk (wS s.f0) (wC s.f1):=by
 refine ⟨⟨by rw [wS_len];omega,by rw [wC_len];omega⟩,fun l hl=>?_,fun l hl=>?_⟩
 ·rcases wS_mem hl with rfl|rfl <;> simp
 ·rcases wC_mem hl with rfl | ⟨_,_,_,rfl⟩ <;> simp
theorem wide_may (s:Sm) (hs:∀ x ∈ s.f1,-1048576 ≤ x∧x ≤ 1048576):mayS s.f0.length s.f1.length (wS s.f0) (wC s.f1)=true:=by
 unfold mayS;rw [decide_eq_true (wS_len _),decide_eq_true (wC_len _),Bool.true_and,Bool.true_and,Bool.and_eq_true,List.all_eq_true,List.all_eq_true];refine ⟨fun l hl=>?_,fun l hl=>?_⟩
 ·rcases wS_mem hl with rfl|rfl
  ·exact set_k
  ·exact set_nil
 ·rcases wC_mem hl with rfl | ⟨n,hn,hz,rfl⟩
  ·exact cnt_nil
  ·exact cnt_k n hz (hs n hn).1 (hs n hn).2
theorem mayS_ord {ns nc:Nat} {ss:List (List ByteArray)} {cs:List (List Ce)} (h:mayS ns nc ss cs=true):ss.length=ns∧cs.length=nc∧∀ l ∈ ss,OrdK l:=by
 unfold mayS at h;rw [Bool.and_eq_true,Bool.and_eq_true,Bool.and_eq_true,List.all_eq_true] at h;exact ⟨of_decide_eq_true h.1,of_decide_eq_true h.2.1,fun l hl=>setB_ord (h.2.2.1 l hl)⟩
theorem holds_ok {ns nc:Nat} {ss:List (List ByteArray)} {cs:List (List Ce)} {c:Cl} (hst:StOk ss cs) (h:mayS ns nc ss cs=true) (hc:clB ns nc c=true):HoldsOk ss cs c:=by
 obtain ⟨h0,h1,h2⟩:=mayS_ord h;refine ⟨hst,h2,?_⟩;unfold clB at hc;have w:∀ {n lo hi:Int},wB n lo hi=true → lo ≤ n∧n ≤ hi:=fun h=>by
  unfold wB at h;rw [Bool.and_eq_true] at h;exact ⟨of_decide_eq_true h.1,of_decide_eq_true h.2⟩
 (have r:∀ {i:Int} {n:Nat},wB i 0 ((n:Int) - 1)=true → inR i n:=fun h=>by have:=w h;unfold inR;omega);split at hc
 ·rename_i hk;simp only [Bool.and_eq_true] at hc;have a:=r hc.1;have b:=r hc.2.1;rw [← h0] at a b;rcases hk with hk|hk
  ·exact .inl ⟨hk,a,b⟩
  ·exact .inr (.inl ⟨hk,a,b⟩)
 split at hc
 ·rename_i hk;simp only [Bool.and_eq_true] at hc;have a:=r hc.1;have b:=r hc.2.1;rw [← h1] at a;rw [← h0] at b;exact .inr (.inr (.inr (.inr (.inr ⟨hk,a,b⟩))))
 split at hc
 ·rename_i hk;simp only [Bool.and_eq_true] at hc;have a:=r hc.1;rw [← h0] at a;exact .inr (.inr (.inl ⟨hk,a⟩))
 split at hc
 ·rename_i hk;simp only [Bool.and_eq_true] at hc;have a:=r hc.1;rw [← h1] at a;exact .inr (.inr (.inr (.inl ⟨hk,a⟩)))
 split at hc
 ·rename_i hk;simp only [Bool.and_eq_true] at hc;have a:=r hc.1;rw [← h1] at a;exact .inr (.inr (.inr (.inr (.inl ⟨hk,a⟩))))
 ·cases hc
def brL (l3:List Cl) (ss:List (List ByteArray)) (cs:List (List Ce)):List Int:=((List.range l3.length).filter fun i=>!holdsB ss cs (l3.getD i z85)).map fun (i:Nat)=>(i:Int)
def needsN (c:Cl) (d b:Int):Int × Int × Int × Int:=if b=1 then (0,0,0,0) else if b = -1 then (5,c.f2,-d,0) else if d > 0 then (7,c.f2,-d,c.f3) else (0,0,0,0)
def ofN (l4:List Op_) (o:Int) (c:Cl):Int × Int × Int × Int :=
 if c.f0=4 then refN c (makeN l4 o c.f2) (makeN l4 o c.f3) else if c.f0=5 then bothN c (makeN l4 o c.f2) (makeN l4 o c.f3) else if c.f0=9 then needsN c (moreN l4 o c.f2) (makeN l4 o c.f3)
 else if c.f0=6 then (if makeN l4 o c.f2=1 then (4,c.f2,c.f4,0) else (0,0,0,0)) else if c.f0=7 then (if moreN l4 o c.f2 > 0 then (5,c.f2,c.f4 - moreN l4 o c.f2,0) else (0,0,0,0))
 else if c.f0=8 then (if moreN l4 o c.f2 < 0 then (6,c.f2,c.f4 - moreN l4 o c.f2,0) else (0,0,0,0)) else (0,0,0,0)
def needsR (l4:List Op_) (o:Int):List Cl → Nat → List Nd
 | [],_=>[]
 | c :: r,i=>if (ofN l4 o c).1=0 then needsR l4 o r (i + 1) else ⟨(i:Int),(ofN l4 o c).1,(ofN l4 o c).2.1,(ofN l4 o c).2.2.1,(ofN l4 o c).2.2.2⟩ :: needsR l4 o r (i + 1)
def inS (ss:List (List ByteArray)) (i:Int) (key:ByteArray):Bool:=decide (0 ≤ i∧i < (ss.length:Int)) && inB (ss.getD i.toNat []) key
def numL:List Ce → ByteArray → Int
 | [],_=>0
 | c :: r,key=>if c.f0.toList=key.toList then c.f1 else numL r key
def numS (cs:List (List Ce)) (i:Int) (key:ByteArray):Int:=if 0 ≤ i∧i < (cs.length:Int) then numL (cs.getD i.toNat []) key else 0
def metB (ss:List (List ByteArray)) (cs:List (List Ce)) (key:ByteArray) (n:Nd):Bool :=
 if n.f1=2 then inS ss n.f2 key else if n.f1=3 then !inS ss n.f2 key else if n.f1=4 then inS ss n.f2 key || (decide (0 ≤ n.f2∧n.f2 < (ss.length:Int)) && decide (((ss.getD n.f2.toNat []).length:Int) < n.f3))
 else if n.f1=5 then decide (numS cs n.f2 key ≤ n.f3) else if n.f1=6 then decide (numS cs n.f2 key ≥ n.f3) else if n.f1=7 then decide (numS cs n.f2 key ≤ n.f3) || inS ss n.f4 key else false
def firstM (ss:List (List ByteArray)) (cs:List (List Ce)) (key:ByteArray):List Nd → Int
 | []=>-1
 | n :: r=>if metB ss cs key n=true then firstM ss cs key r else n.f0
theorem in_any (l:List ByteArray) (key:ByteArray) (hl:l.length ≤ 4000000000):Ev (fun k=>slices_Contains_string.f k l key) (inB l key):=by
 have h:Ev (fun k=>slices_Index_string.f k l key) (idxF (fun x=>decide (x.toList=key.toList)) l):=by
  unfold slices_Index_string.f;have h2:∀ (m pos:Nat),pos + m=l.length → Ev (fun k=>slices_Index_string.l0 k l key (l.length:Int) (pos:Int)) (match (l.drop pos).findIdx? (fun x=>decide (x.toList=key.toList)) with|some i=>((pos + i:Nat):Int)|none=>-1):=by
   intro m;induction m with
   | zero =>
    intro pos hp;(obtain rfl:pos=l.length:=by omega);refine Ev.succ ?_;simp only [slices_Index_string.l0,List.drop_length];exact Ev.no (by omega) (Ev.now _)
   | succ m ih =>
    intro pos hp;refine Ev.succ ?_;simp only [slices_Index_string.l0,rdOf_at];have ihp:=ih (pos + 1) (by omega);rw [wrap_up pos (by omega),drop_getD l ByteArray.empty pos (by omega),List.findIdx?_cons];refine Ev.yes (by omega) (Ev.yes (by omega) (Ev.yes (by omega) ?_));by_cases he:(l.getD pos ByteArray.empty).toList=key.toList
    ·rw [decide_eq_true he];exact Ev.yes he.symm (Ev.is (by simp))
    ·rw [decide_eq_false he];refine Ev.no (fun h=>he h.symm) ?_;simp only [Bool.false_eq_true,if_false];cases hf:(l.drop (pos + 1)).findIdx? (fun x=>decide (x.toList=key.toList)) with
     | none=>rw [hf] at ihp;exact ihp
     | some j =>
      rw [hf] at ihp;(have e:((pos + 1 + j:Nat):Int)=((pos + (j + 1):Nat):Int):=by omega);simp only [Option.map_some];rw [← e];exact ihp
  have h3:=h2 l.length 0 (by omega);rw [List.drop_zero] at h3;unfold idxF;have h4:(match l.findIdx? (fun x=>decide (x.toList=key.toList)) with|some i=>((0 + i:Nat):Int)|none=>-1)=(match l.findIdx? (fun x=>decide (x.toList=key.toList)) with|some i=>(i:Int)|none=>-1):=by
   cases l.findIdx? (fun x=>decide (x.toList=key.toList)) <;> simp
  rw [h4] at h3;exact h3
 unfold slices_Contains_string.f;refine Ev.bind h (Ev.is ?_);unfold inB;rw [← idxF_any]
section
variable (ss:List (List ByteArray)) (cs:List (List Ce)) (hst:StOk ss cs)
include hst
theorem In_ev (i:Int) (key:ByteArray):Ev (fun k=>eval_In.f k ss cs i key) (inS ss i key):=by
 unfold eval_In.f inS;by_cases h0:0 ≤ i
 ·by_cases h1:i < (ss.length:Int)
  ·rw [decide_eq_true ⟨h0,h1⟩,Bool.true_and];have hm:=getD_at ss [] i.toNat (by omega);exact Ev.yes h0 (Ev.yes h1 (Ev.yes h0 (Ev.bind (in_any _ key (hst.2.1 _ hm)) (Ev.now _))))
  ·rw [decide_eq_false (by omega)];exact Ev.yes h0 (Ev.no h1 (Ev.now _))
 ·rw [decide_eq_false (by omega)];exact Ev.no h0 (Ev.now _)
theorem Num_ev (i:Int) (key:ByteArray):Ev (fun k=>eval_Number.f k ss cs i key) (numS cs i key):=by
 unfold eval_Number.f numS;by_cases h0:i < 0
 ·rw [if_neg (by omega)];refine Ev.yes h0 (Ev.succ ?_);simp only [eval_Number.j0];exact Ev.yes (by first|trivial|rfl) (Ev.now _)
 ·refine Ev.no h0 (Ev.succ ?_);simp only [eval_Number.j0];by_cases h1:i < (cs.length:Int)
  ·rw [if_pos ⟨by omega,h1⟩,decide_eq_false (by omega)];refine Ev.no (by decide) (Ev.yes (by omega) (Ev.yes h1 ?_));have hm:=getD_at cs [] i.toNat (by omega);have hl:=hst.2.2 _ hm;rw [show rd_L16 cs i=cs.getD i.toNat [] from rfl];generalize cs.getD i.toNat []=L at *;refine Ev.loop (g:=fun k pos=>eval_Number.l0 k key L (L.length:Int) (pos:Int)) (spec:=fun pos=>numL (L.drop pos) key) L.length ?_ ?_ 0 (by omega)
   ·refine Ev.succ ?_;simp only [eval_Number.l0,List.drop_length];exact Ev.no (by omega) (Ev.now _)
   ·intro pos hp ih;refine Ev.succ ?_;simp only [eval_Number.l0,rdCe_at];rw [wrap_up pos (by omega),drop_getD L z158 pos hp,numL];refine Ev.yes (by omega) (Ev.yes (by omega) (Ev.yes (by omega) ?_));by_cases he:(L.getD pos z158).f0.toList=key.toList
    ·rw [if_pos he];exact Ev.yes he (Ev.now _)
    ·rw [if_neg he];exact Ev.no he ih
  ·rw [if_neg (by omega),decide_eq_true (by omega)];exact Ev.yes rfl (Ev.now _)
theorem met_ev (key:ByteArray) (n:Nd):Ev (fun k=>wp_Met.f k ss cs key n.f0 n.f1 n.f2 n.f3 n.f4) (metB ss cs key n):=by
 unfold wp_Met.f metB;(have hi:=fun i=>In_ev ss cs hst i key);(have hn:=fun i=>Num_ev ss cs hst i key);by_cases h2:n.f1=2
 ·rw [if_pos h2];exact Ev.yes h2 (Ev.bind (hi _) (Ev.now _))
 rw [if_neg h2];refine Ev.no h2 ?_;by_cases h3:n.f1=3
 ·rw [if_pos h3];exact Ev.yes h3 (Ev.bind (hi _) (Ev.now _))
 rw [if_neg h3];refine Ev.no h3 ?_;by_cases h4:n.f1=4
 ·rw [if_pos h4];refine Ev.yes h4 (Ev.bind (hi _) ?_);cases hb:inS ss n.f2 key
  ·refine Ev.no (by decide) ?_;rw [Bool.false_or];by_cases h0:n.f2 ≥ 0
   ·by_cases h1:n.f2 < (ss.length:Int)
    ·rw [decide_eq_true (show 0 ≤ n.f2∧n.f2 < (ss.length:Int) from ⟨h0,h1⟩),Bool.true_and];exact Ev.yes h0 (Ev.yes h1 (Ev.yes h0 (Ev.is rfl)))
    ·rw [decide_eq_false (show ¬ (0 ≤ n.f2∧n.f2 < (ss.length:Int)) by omega)];exact Ev.yes h0 (Ev.no h1 (Ev.is rfl))
   ·rw [decide_eq_false (show ¬ (0 ≤ n.f2∧n.f2 < (ss.length:Int)) by omega)];exact Ev.no h0 (Ev.is rfl)
  ·exact Ev.yes rfl (Ev.now _)
 rw [if_neg h4];refine Ev.no h4 ?_;by_cases h5:n.f1=5
 ·rw [if_pos h5];exact Ev.yes h5 (Ev.bind (hn _) (Ev.now _))
 rw [if_neg h5];refine Ev.no h5 ?_;by_cases h6:n.f1=6
 ·rw [if_pos h6];exact Ev.yes h6 (Ev.bind (hn _) (Ev.now _))
 rw [if_neg h6];refine Ev.no h6 ?_;by_cases h7:n.f1=7
 ·rw [if_pos h7];refine Ev.yes h7 (Ev.bind (hn _) ?_);by_cases hle:numS cs n.f2 key ≤ n.f3
  ·rw [decide_eq_true hle];exact Ev.yes hle (Ev.now _)
  ·rw [decide_eq_false hle,Bool.false_or];exact Ev.no hle (Ev.bind (hi _) (Ev.now _))
 rw [if_neg h7];exact Ev.no h7 (Ev.now _)
end
end Go.Proofs.YtjbjbeihkoeciaaGreat.X
namespace Go.Proofs.YtjbjbeihkoeciaaGreat.X
open Go.RowKit Go.Proofs.YtjbjbeihkoeciaaGreatW.PrintWords Go.Proofs.YtjbjbeihkoeciaaGreatW.PrintLast Go.Proofs.YtjbjbeihkoeciaaGreatW.PrintMore
theorem infoSm:(Tryz.prog.info? 34).map (fun i=>(i.zero,i.size,i.bytes))=some (some (.agg #[.slice none 0 0,.slice none 0 0]),2,48):=by kernel_rfl
theorem zero_bools (w:World):(zeroValue 27).run Tryz.prog w = .ok (.slice none 0 0) w:=by kernel_rfl
theorem tabled_walk (A0:Option Addr) (n0 c0:Nat) (A1:Option Addr) (n1 c1:Nat) (A2:Option Addr) (n2 c2:Nat) (A3:Option Addr) (n3 c3:Nat) (A4:Option Addr) (n4 c4:Nat) (Ao:Option Addr) (co:Nat) (os:List Int) (w:World)
  (N:Nat) (st:Nat → Sm) (wd:Nat → List (List ByteArray) × List (List Ce)) (br:Nat → List Int) (fi:Int → Nat → Int) (fr:Int → Nat → Bool)
  (hro:Kd.C (Kd.int .i64) w Ao os.length os) (hco:os.length ≤ co) (hos:os.length ≤ 1000) (hN:N ≤ 1000)
  (hfr:∀ o n,fr o n=decide ((if br n = [] then fi o n else 0) < 0))
  (hmany:∀ w',Below w.heap.size w w' → Calls Tryz.prog 21 #[.agg #[.slice A0 n0 c0,.slice A1 n1 c1,.slice A2 n2 c2,.slice A3 n3 c3,.slice A4 n4 c4]] w' fun e w''=>e = .returned (.int .i64 (N:Int))∧Below w'.heap.size w' w'')
  (hst:∀ n:Nat,n < N → ∀ w',Below w.heap.size w w' → Calls Tryz.prog 47 #[.agg #[.slice A0 n0 c0,.slice A1 n1 c1,.slice A2 n2 c2,.slice A3 n3 c3,.slice A4 n4 c4],.int .i64 (n:Int)] w' fun e w''=>∃ v0 v1:Value,e = .returned (.agg #[v0,v1])∧Kd.R Kd.bool 4 w'' w'.heap.size (fun _=>True) v0 (st n).f0∧Kd.R (Kd.int .i64) 3 w'' w'.heap.size (fun _=>True) v1 (st n).f1∧Below w'.heap.size w' w'')
  (hwd:∀ n:Nat,n < N → ∀ w' B0 d0 B1 d1,Kd.C Kd.bool w' B0 (st n).f0.length (st n).f0 → (st n).f0.length ≤ d0 → Kd.C (Kd.int .i64) w' B1 (st n).f1.length (st n).f1 → (st n).f1.length ≤ d1 → Calls Tryz.prog 76 #[.agg #[.slice B0 (st n).f0.length d0,.slice B1 (st n).f1.length d1]] w' fun e w''=>∃ v0 v1:Value,e = .returned (.agg #[v0,v1])∧Kd.R (Kd.slice 9 Kd.string) 22 w'' w'.heap.size (fun _=>True) v0 (wd n).1∧Kd.R (Kd.slice 158 k158) 121 w'' w'.heap.size (fun _=>True) v1 (wd n).2∧Below w'.heap.size w' w'')
  (hbr:∀ n:Nat,n < N → ∀ w' B0 d0 B1 d1,Below w.heap.size w w' → Kd.C (Kd.slice 9 Kd.string) w' B0 (wd n).1.length (wd n).1 → (wd n).1.length ≤ d0 → Kd.C (Kd.slice 158 k158) w' B1 (wd n).2.length (wd n).2 → (wd n).2.length ≤ d1 → Calls Tryz.prog 77 #[.agg #[.slice A0 n0 c0,.slice A1 n1 c1,.slice A2 n2 c2,.slice A3 n3 c3,.slice A4 n4 c4],.agg #[.slice B0 (wd n).1.length d0,.slice B1 (wd n).2.length d1]] w' fun e w''=>∃ v:Value,e = .returned v∧Kd.R (Kd.int .i64) 3 w'' w'.heap.size (fun _=>True) v (br n)∧Below w'.heap.size w' w'')
  (hfi:∀ n:Nat,n < N → ∀ o,o ∈ os → br n = [] → ∀ w' B0 d0 B1 d1,Below w.heap.size w w' → Kd.C (Kd.slice 9 Kd.string) w' B0 (wd n).1.length (wd n).1 → (wd n).1.length ≤ d0 → Kd.C (Kd.slice 158 k158) w' B1 (wd n).2.length (wd n).2 → (wd n).2.length ≤ d1 → Calls Tryz.prog 78 #[.agg #[.slice A0 n0 c0,.slice A1 n1 c1,.slice A2 n2 c2,.slice A3 n3 c3,.slice A4 n4 c4],.agg #[.slice B0 (wd n).1.length d0,.slice B1 (wd n).2.length d1],.int .i64 o,.string ⟨#[107]⟩] w' fun e w''=>∃ er:Int,e = .returned (.tuple #[.int .i64 (fi o n),.int .i64 er])∧Below w'.heap.size w' w'') :
  Calls Tryz.prog 41 #[.agg #[.slice A0 n0 c0,.slice A1 n1 c1,.slice A2 n2 c2,.slice A3 n3 c3,.slice A4 n4 c4],.slice Ao os.length co] w fun e w'=>∃ vs mb fs,e = .returned (.agg #[vs,.map (some mb)])∧TabW w.heap.size w' mb fs (valT os fr N 0) vs ((List.range N).map st)∧Below w.heap.size w w':=by
 have HRO:=Sd.mk hro;have HMANY:=Sd.mk hmany;have HST:=Sd.mk hst;have HWD:=Sd.mk hwd;have HBR:=Sd.mk hbr;have HFI:=Sd.mk hfi;have HFR:=Sd.mk hfr;clear hro hmany hst hwd hbr hfi hfr;have HOL:Sd (os.length=os.length):=⟨rfl⟩;generalize hno:os.length=no at *;have HNO:=Sd.mk hno;clear hno HOL;have hmm:=@run_makeMap Tryz.prog;go_enter Tryz.func41,Tryz.ntmps41;go_upto_region 1 with (first|((with_reducible refine gate_dst (N:=2) rfl ?_);refine box_event ?hg (N:=2) ?hd (cs:=#[.slice A0 n0 c0,.slice A1 n1 c1,.slice A2 n2 c2,.slice A3 n3 c3,.slice A4 n4 c4]) (t:=26) ?hr ?_;(case hd=>rfl);(case hg=>rfl);(case hr=>first|(go_simp;done)|(go_simp;rfl));intro g hg w3 hbox hb;have HB:=Sd.mk hb;have BK:=Sd.mk hbox;clear hb hbox hg)|((with_reducible refine gate_dst (N:=4) rfl ?_);refine box_event ?hg (N:=4) ?hd (cs:=#[.slice none 0 0,.map none]) (t:=75) ?hr ?_;(case hd=>rfl);(case hg=>rfl);(case hr=>first|(go_simp;done)|(go_simp;rfl));intro g4 hg w4 hbox hb;have HB4:=Sd.mk (below_step HB.out hb);have BKr:=Sd.mk (blk_below BK.out hb);have BK4:=Sd.mk hbox;have HG4a:Sd (w.heap.size ≤ g4):=⟨by rw [hg];exact below_size HB.out⟩;clear hb hbox hg));go_upto_region 2 with (((with_reducible refine gate_dst (N:=5) rfl ?_);refine box_event ?hg (N:=5) ?hd (cs:=#[.slice none 0 0,.map none]) (t:=75) ?hr ?_;(case hd=>rfl);(case hg=>rfl);(case hr=>first|(go_simp;done)|(go_simp;rfl));intro g5 hg5 w5 hbox hb;have HB5:=Sd.mk hb;have BK5:=Sd.mk hbox;have HG5:=Sd.mk hg5;have hcz0:=(blk_cell hbox 0);have hcz1:=(blk_cell hbox 1);have hfz0:=blk_frozen hbox 0;have hfz1:=blk_frozen hbox 1;clear hb hbox hg5));have HB5w:=Sd.mk (below_set (j:=1) (v:=.map (some w4.heap.size)) (below_set (j:=0) (v:=.slice none 0 0) (below_step (below_alloc HB4.out (.map #[] 0)) HB5.out) (show w.heap.size ≤ g5 by rw [HG5.out];exact below_size (below_alloc HB4.out (.map #[] 0)))) (show w.heap.size ≤ g5 by rw [HG5.out];exact below_size (below_alloc HB4.out (.map #[] 0))));have BK5w:Sd (((w5.setCell ⟨g5,0,none⟩ (.slice none 0 0)).setCell ⟨g5,1,none⟩ (.map (some w4.heap.size))).heap[g5]? = some (.cells #[.slice none 0 0,.map (some w4.heap.size)] 75 (0,0))):=⟨by
  refine blk_put (cs:=#[.slice none 0 0,.map none]) ?_ 1 _ rfl
  exact blk_put BK5.out 0 _ rfl⟩
 (have hg5m:g5 ≠ w4.heap.size:=by rw [HG5.out];simp);have HM5:Sd (IMap ((w5.setCell ⟨g5,0,none⟩ (.slice none 0 0)).setCell ⟨g5,1,none⟩ (.map (some w4.heap.size))) w4.heap.size []):=⟨(((IMap.made w4).below HB5.out).setCell (fun e=>hg5m e.symm) _).setCell (fun e=>hg5m e.symm) _⟩;have HKw:Sd (Below (w4.alloc (.map #[] 0)).heap.size (w4.alloc (.map #[] 0)) ((w5.setCell ⟨g5,0,none⟩ (.slice none 0 0)).setCell ⟨g5,1,none⟩ (.map (some w4.heap.size)))):=⟨below_set (below_set HB5.out (by rw [HG5.out];exact Nat.le_refl _)) (by rw [HG5.out];exact Nat.le_refl _)⟩;have BK4w:=Sd.mk (blk_below (blk_alloc BK4.out _) HKw.out);have BKrw:=Sd.mk (blk_below (blk_alloc BKr.out _) HKw.out);have HG4Z:Sd (w.heap.size ≤ g4):=HG4a;have HG5W:Sd (w.heap.size ≤ g5):=⟨by rw [HG5.out];exact below_size (below_alloc HB4.out (.map #[] 0))⟩;have HN45:Sd (g4 ≠ g5∧g ≠ g5):=⟨by
  have h4:=lt_of_some BK4.out
  have h5:=lt_of_some BKr.out
  have h6:g5=w4.heap.size + 1:=by rw [HG5.out];exact Array.size_push ..
  omega⟩
 have HMB:Sd (w.heap.size ≤ w4.heap.size):=⟨below_size HB4.out⟩;generalize ((w5.setCell ⟨g5,0,none⟩ (.slice none 0 0)).setCell ⟨g5,1,none⟩ (.map (some w4.heap.size)))=w6 at *;generalize w4.heap.size=mb at *;clear hcz0 hcz1 hfz0 hfz1 hg5m HKw HB5 HB4 HB BK BK4 BKr BK5 HG5;obtain ⟨ha0,ha1,ha2,ha3,ha4⟩:=bc5 BKrw.out;go_wp2_with fail;refine (HMANY.out _ HB5w.out).mono ?_;rintro e w7 ⟨rfl,hb7⟩;have HB7:=Sd.mk (below_step HB5w.out hb7);have BK5a:=Sd.mk (blk_below BK5w.out hb7);have BK4a:=Sd.mk (blk_below BK4w.out hb7);have BKra:=Sd.mk (blk_below BKrw.out hb7);have HM7:=Sd.mk (HM5.out.below hb7);clear hb7 ha0 ha1 ha2 ha3 ha4 BK5w BK4w BKrw HM5 HB5w;go_wp2_with fail;go_loopw [17] (fun v17 wr=>∃ (n:Nat) (vs:Value) (fs:List (Int × Value)),v17 = .int .i64 (n:Int)∧n ≤ N∧Sd (TabW w.heap.size wr mb fs (valT os fr n 0) vs ((List.range n).map st))∧Sd (wr.heap[g5]? = some (.cells #[vs,.map (some mb)] 75 (0,0)))∧Sd (wr.heap[g4]? = some (.cells #[.slice none 0 0,.map none] 75 (0,0)))∧Sd (wr.heap[g]? = some (.cells #[.slice A0 n0 c0,.slice A1 n1 c1,.slice A2 n2 c2,.slice A3 n3 c3,.slice A4 n4 c4] 26 (0,0)))∧Sd (Below w.heap.size w wr)) (fun v17 _=>((N:Int) - intV v17).toNat)
 case atStart=>exact ⟨0,_,[],rfl,Nat.zero_le _,⟨by rw [valT_first];exact TabW.made w mb HM7.out _⟩,BK5a,BK4a,BKra,HB7⟩
 case round =>
  obtain ⟨n,vs,fs,rfl,hn,HT,B5,B4,Br,HBr⟩:=hrel;clear HM7 BK5a BK4a BKra HB7;by_cases hlt:n < N
  ·(have hlt':decide ((n:Int) < (N:Int))=true:=by simp;omega);obtain ⟨ha0,ha1,ha2,ha3,ha4⟩:=bc5 Br.out;go_wp2_with fail;refine (HST.out n hlt _ HBr.out).mono ?_;rintro e w8 ⟨v0,v1,rfl,hv0,hv1,hb8⟩;have HV0:=Sd.mk hv0;have HV1:=Sd.mk hv1;have HB8:=Sd.mk hb8;obtain ⟨D0,d0,rfl,_,_⟩:=Kd.R_reads hv0;obtain ⟨D1,d1,rfl,_,_⟩:=Kd.R_reads hv1;clear hv0 hv1 hb8 ha0 ha1 ha2 ha3 ha4;generalize hs0:(st n).f0.length=s0 at *;generalize hs1:(st n).f1.length=s1 at *;have HS0:=Sd.mk hs0;have HS1:=Sd.mk hs1;clear hs0 hs1;go_upto_region 6 with (((with_reducible refine gate_dst (N:=7) rfl ?_);refine box_event ?hg (N:=7) ?hd (cs:=#[.slice none 0 0,.slice none 0 0]) (t:=34) ?hr ?_;(case hd=>rfl);(case hg=>rfl);(case hr=>first|(go_simp;done)|(go_simp;rfl));intro g7 hg7 w9 hbox hb;have HB9:=Sd.mk hb;have BK9:=Sd.mk hbox;have HG7:=Sd.mk hg7;have hcz0:=(blk_cell hbox 0);have hcz1:=(blk_cell hbox 1);have hfz0:=blk_frozen hbox 0;have hfz1:=blk_frozen hbox 1;clear hb hbox hg7));(have hgs:w8.heap.size ≤ g7:=by rw [HG7.out];exact Nat.le_refl _);have HBA:Sd (Below w8.heap.size w8 ((w9.setCell ⟨g7,0,none⟩ (.slice D0 s0 d0)).setCell ⟨g7,1,none⟩ (.slice D1 s1 d1))):=⟨below_set (below_set HB9.out hgs) hgs⟩;have BKs:Sd (((w9.setCell ⟨g7,0,none⟩ (.slice D0 s0 d0)).setCell ⟨g7,1,none⟩ (.slice D1 s1 d1)).heap[g7]? = some (.cells #[.slice D0 s0 d0,.slice D1 s1 d1] 34 (0,0))):=⟨by
    refine blk_put (cs:=#[.slice D0 s0 d0,.slice none 0 0]) ?_ 1 _ rfl
    exact blk_put BK9.out 0 _ rfl⟩
   generalize ((w9.setCell ⟨g7,0,none⟩ (.slice D0 s0 d0)).setCell ⟨g7,1,none⟩ (.slice D1 s1 d1))=wA at *;clear hcz0 hcz1 hfz0 hfz1 hgs BK9 HB9 HG7;have HBrA:Sd (Below wr.heap.size wr wA):=⟨below_step HB8.out HBA.out⟩;have HWA:=Sd.mk (below_step HBr.out HBrA.out);have HV0A:=Sd.mk (Kd.R_below HV0.out HBA.out);have HV1A:=Sd.mk (Kd.R_below HV1.out HBA.out);have HTA:=Sd.mk (HT.out.below HBrA.out);have HPA:Sd (PendW w.heap.size wA fs vs (st n) [.slice D0 s0 d0,.slice D1 s1 d1]):=⟨by
    have hbase:w.heap.size ≤ wr.heap.size:=below_size HBr.out
    have hnew:∀ k,wr.heap.size ≤ k → FrOff fs k∧some k ≠ vs.ownBlock:=fun k hk=>⟨fun q hq he=>by have:=Kd.R_lt (HT.out.rows q hq) k he;omega,fun he=>by have:=Kd.R_lt HT.out.sts k he.symm;omega⟩
    refine k34_mkM _ _ _ (st n) ?_ ?_
    ·exact Kd.R_lower (Kd.R_mono (Kd.R_bound HV0A.out) (fun k hk=>hnew k hk.2.1)) hbase
    ·exact Kd.R_lower (Kd.R_mono (Kd.R_bound HV1A.out) (fun k hk=>hnew k hk.2.1)) hbase⟩
   have B5A:=Sd.mk (blk_below B5.out HBrA.out);have B4A:=Sd.mk (blk_below B4.out HBrA.out);have BrA:=Sd.mk (blk_below Br.out HBrA.out);have HWD2:Sd (∀ w',Below wA.heap.size wA w' → Calls Tryz.prog 76 #[.agg #[.slice D0 s0 d0,.slice D1 s1 d1]] w' fun e w''=>∃ v0 v1:Value,e = .returned (.agg #[v0,v1])∧Kd.R (Kd.slice 9 Kd.string) 22 w'' w'.heap.size (fun _=>True) v0 (wd n).1∧Kd.R (Kd.slice 158 k158) 121 w'' w'.heap.size (fun _=>True) v1 (wd n).2∧Below w'.heap.size w' w''):=⟨fun w' hw=>by
    obtain ⟨_,l0,C0⟩:=Kd.R_reads' HV0A.out
    obtain ⟨_,l1,C1⟩:=Kd.R_reads' HV1A.out
    have:=HWD.out n hlt w' D0 d0 D1 d1 (Kd.C_below C0 hw) (by rw [HS0.out];exact l0) (Kd.C_below C1 hw) (by rw [HS1.out];exact l1)
    rw [HS0.out,HS1.out] at this
    exact this⟩
   clear HV0 HV1 HT B5 B4 Br HB8 HBA;obtain ⟨hb0,hb1⟩:=bc2 BKs.out;go_wp2_with fail;refine (HWD2.out _ (Below.refl _ _)).mono ?_;rintro e wB ⟨u0,u1,rfl,hu0,hu1,hbB⟩;have HU0:=Sd.mk hu0;have HU1:=Sd.mk hu1;have HBB:=Sd.mk hbB;obtain ⟨E0,f0,rfl,_,_⟩:=Kd.R_reads hu0;obtain ⟨E1,f1,rfl,_,_⟩:=Kd.R_reads hu1;clear hu0 hu1 hbB hb0 hb1;generalize ht0:(wd n).1.length=t0 at *;generalize ht1:(wd n).2.length=t1 at *;have HT0:=Sd.mk ht0;have HT1:=Sd.mk ht1;clear ht0 ht1;go_upto_region 7 with (((with_reducible refine gate_dst (N:=8) rfl ?_);refine box_event ?hg (N:=8) ?hd (cs:=#[.slice none 0 0,.slice none 0 0]) (t:=80) ?hr ?_;(case hd=>rfl);(case hg=>rfl);(case hr=>first|(go_simp;done)|(go_simp;rfl));intro g8 hg8 wC hbox hb;have HBC:=Sd.mk hb;have BKC:=Sd.mk hbox;have HG8:=Sd.mk hg8;have hcz0:=(blk_cell hbox 0);have hcz1:=(blk_cell hbox 1);have hfz0:=blk_frozen hbox 0;have hfz1:=blk_frozen hbox 1;clear hb hbox hg8));(have hgs:wB.heap.size ≤ g8:=by rw [HG8.out];exact Nat.le_refl _);have HBD:Sd (Below wB.heap.size wB ((wC.setCell ⟨g8,0,none⟩ (.slice E0 t0 f0)).setCell ⟨g8,1,none⟩ (.slice E1 t1 f1))):=⟨below_set (below_set HBC.out hgs) hgs⟩;have BKw:Sd (((wC.setCell ⟨g8,0,none⟩ (.slice E0 t0 f0)).setCell ⟨g8,1,none⟩ (.slice E1 t1 f1)).heap[g8]? = some (.cells #[.slice E0 t0 f0,.slice E1 t1 f1] 80 (0,0))):=⟨by
    refine blk_put (cs:=#[.slice E0 t0 f0,.slice none 0 0]) ?_ 1 _ rfl
    exact blk_put BKC.out 0 _ rfl⟩
   generalize ((wC.setCell ⟨g8,0,none⟩ (.slice E0 t0 f0)).setCell ⟨g8,1,none⟩ (.slice E1 t1 f1))=wD at *;clear hcz0 hcz1 hfz0 hfz1 hgs BKC HBC HG8;have HBAD:Sd (Below wA.heap.size wA wD):=⟨below_step HBB.out HBD.out⟩;have HWDw:=Sd.mk (below_step HWA.out HBAD.out);have HU0D:=Sd.mk (Kd.R_below HU0.out HBD.out);have HU1D:=Sd.mk (Kd.R_below HU1.out HBD.out);have BKsD:=Sd.mk (blk_below BKs.out HBAD.out);have B5D:=Sd.mk (blk_below B5A.out HBAD.out);have B4D:=Sd.mk (blk_below B4A.out HBAD.out);have BrD:=Sd.mk (blk_below BrA.out HBAD.out);have HTD:=Sd.mk (HTA.out.below HBAD.out);have HPD:=Sd.mk (HPA.out.below HBAD.out);clear HU0 HU1 BKs B5A B4A BrA HTA HPA HBB HBD HWD2 HV0A HV1A HWA HBrA;obtain ⟨ha0,ha1,ha2,ha3,ha4⟩:=bc5 BrD.out;obtain ⟨hb0,hb1⟩:=bc2 BKw.out;have HR2:Sd (∀ w',Kd.R (Kd.slice 9 Kd.string) 22 w' wA.heap.size (fun _=>True) (.slice E0 t0 f0) (wd n).1 → Kd.R (Kd.slice 158 k158) 121 w' wA.heap.size (fun _=>True) (.slice E1 t1 f1) (wd n).2 → (Kd.C (Kd.slice 9 Kd.string) w' E0 (wd n).1.length (wd n).1∧(wd n).1.length ≤ f0)∧(Kd.C (Kd.slice 158 k158) w' E1 (wd n).2.length (wd n).2∧(wd n).2.length ≤ f1)):=⟨fun w' h0 h1=>by
    obtain ⟨_,l0,C0⟩:=Kd.R_reads' h0
    obtain ⟨_,l1,C1⟩:=Kd.R_reads' h1
    exact ⟨⟨C0,by rw [HT0.out];exact l0⟩,⟨C1,by rw [HT1.out];exact l1⟩⟩⟩
   have HBRD:=Sd.mk (HBR.out n hlt wD E0 f0 E1 f1 HWDw.out (HR2.out wD HU0D.out HU1D.out).1.1 (HR2.out wD HU0D.out HU1D.out).1.2 (HR2.out wD HU0D.out HU1D.out).2.1 (HR2.out wD HU0D.out HU1D.out).2.2);rw [HT0.out,HT1.out] at HBRD;go_wp2_with fail;refine HBRD.out.mono ?_;rintro e wE ⟨v,rfl,hv,hbE⟩;obtain ⟨F0,h0,rfl,_,_⟩:=Kd.R_reads hv;have HBE:=Sd.mk hbE;clear hv hbE hb0 hb1 HBRD ha0 ha1 ha2 ha3 ha4;obtain ⟨hd,hhd⟩:∃ b:Bool,b=decide (br n = []):=⟨_,rfl⟩;(have hd0:(((br n).length:Int) == 0)=hd:=by rw [hhd];cases br n <;> simp;try omega);(have hd1:((br n).length == 0)=hd:=by rw [hhd];cases br n <;> simp);(have hd2:decide ((br n).length=0)=hd:=by rw [hhd];cases br n <;> simp);have HHD:=Sd.mk hhd;clear hhd;generalize (br n).length=lb at *;have HWE:=Sd.mk (below_step HWDw.out HBE.out);have HU0E:=Sd.mk (Kd.R_below HU0D.out HBE.out);have HU1E:=Sd.mk (Kd.R_below HU1D.out HBE.out);have BKsE:=Sd.mk (blk_below BKsD.out HBE.out);have BKwE:=Sd.mk (blk_below BKw.out HBE.out);have B5E:=Sd.mk (blk_below B5D.out HBE.out);have B4E:=Sd.mk (blk_below B4D.out HBE.out);have BrE:=Sd.mk (blk_below BrD.out HBE.out);have HTE:=Sd.mk (HTD.out.below HBE.out);have HPE:=Sd.mk (HPD.out.below HBE.out);clear HU0D HU1D BKsD BKw B5D B4D BrD HTD HPD HBE HWDw HBAD;go_wp2_with fail;clear hd0 hd1 hd2;go_loopw [32] (fun v32 wr=>∃ (q:Nat) (fs:List (Int × Value)),v32 = .int .i64 (q:Int)∧q ≤ no∧Sd (TabW w.heap.size wr mb fs (valT os fr n q) vs ((List.range n).map st))∧Sd (PendW w.heap.size wr fs vs (st n) [.slice D0 s0 d0,.slice D1 s1 d1])∧Sd (Keep4 wE wr)∧Sd (Below w.heap.size w wr)) (fun v32 _=>((no:Int) - intV v32).toNat)
   case atStart=>exact ⟨0,fs,rfl,Nat.zero_le _,HTE,HPE,⟨Keep4.refl _⟩,HWE⟩
   case round =>
    obtain ⟨q,fs,rfl,hq,HTq,HPq,HKq,HBq⟩:=hrel;clear HTE HPE HWE;have B5q:=Sd.mk (HKq.out.cell B5E.out (by decide));by_cases hlq:q < no
    ·(have hlq':decide ((q:Int) < (no:Int))=true:=by simp;omega);(have p1:0 ≤ (q:Int):=by omega);(have p2:(q:Int) < (no:Int):=by omega);obtain ⟨ad,e0,hx0⟩:=Kd.at_int (Kd.C_below HRO.out HBq.out) (q:Int) p1 p2;cases e0;simp only [Int.toNat_natCast] at hx0;replace p1:=eq_true p1;replace p2:=eq_true p2;have HO:Sd (os.getD q 0=rd os (q:Int)):=⟨by unfold rd;simp only [Int.toNat_natCast]⟩;have HOM:Sd (rd os (q:Int) ∈ os):=⟨by rw [← HO.out];exact getD_at os 0 q (by rw [HNO.out];exact hlq)⟩;generalize rd os (q:Int)=o at *;have hlk:=HTq.out.map.look (t:=73) Tryz.underlying73 Tryz.underlying3 (zero_bools wr) o;obtain ⟨Av,cv,hv,_,_⟩:=Kd.R_reads (HTq.out.look o);rw [valT_len] at hv;have HGV:Sd (getF nilV fs o = .slice Av (cntT os n q o) cv):=⟨hv⟩;have HCN:Sd ((o ∈ os.take q → cntT os n q o=n + 1)∧(¬ o ∈ os.take q → cntT os n q o=n)):=⟨by unfold cntT;exact ⟨fun h=>if_pos h,fun h=>by rw [if_neg h,if_pos HOM.out]⟩⟩;have HCE:Sd ((valT os fr n q o).length=cntT os n q o):=⟨valT_len _ _ _ _ _⟩;change (Instr.lookup 73 (.map (some mb)) (.int .i64 o) false).run Tryz.prog wr = .ok (getF nilV fs o) wr at hlk;rw [hv] at hlk;clear hv;generalize cntT os n q o=cn at *;have hb5:wr.cell? ⟨g5,1,none⟩=some (.map (some mb)):=(blk_cell B5q.out 1).trans rfl;by_cases hin:o ∈ os.take q
     ·have hcn:cn=n + 1:=HCN.out.1 hin;(have hc1:decide ((n:Int) < (cn:Int))=true:=by simp;omega);(have hc2:decide (n < cn)=true:=by simp;omega);have HIN:=Sd.mk hin;clear hin hcn HCN;go_wp2_with fail;go_roundw
      case measure=>simp [intV];omega
      case rel=>exact ⟨q + 1,fs,by simp,by omega,⟨by rw [valT_skip os fr n q (by rw [HNO.out];exact hlq) (by rw [HO.out];exact HIN.out)];exact HTq.out⟩,HPq,HKq,HBq⟩
     ·have hcn:cn=n:=HCN.out.2 hin;(have hc1:decide ((n:Int) < (cn:Int))=false:=by simp;omega);(have hc2:decide (n < cn)=false:=by simp;omega);have HNI:=Sd.mk hin;have HCN2:=Sd.mk hcn;clear hin hcn HCN;have HFO:=Sd.mk (HFR.out o n);have HFB:Sd (∃ b:Bool,b=fr o n):=⟨⟨_,rfl⟩⟩;obtain ⟨bb,hbb⟩:=HFB.out;rw [← hbb] at HFO;have HBBq:=Sd.mk hbb;clear hbb HFB;cases hd with
      | false =>
       (have hb0:bb=false:=by rw [HFO.out,if_neg (of_decide_eq_false HHD.out.symm)];rfl);subst hb0;go_wp2_with fail;have fc0:wr.drew.cell? ⟨g5,1,none⟩=some (.map (some mb)):=(blk_cell (w:=wr.drew) B5q.out 1).trans rfl;have HTd:Sd (TabW w.heap.size wr.drew mb fs (valT os fr n q) vs ((List.range n).map st)):=⟨HTq.out.below (below_drew (Below.refl _ _))⟩;have HPd:Sd (PendW w.heap.size wr.drew fs vs (st n) [.slice D0 s0 d0,.slice D1 s1 d1]):=⟨HPq.out.below (below_drew (Below.refl _ _))⟩;have HBd:Sd (Below w.heap.size w wr.drew):=⟨below_drew HBq.out⟩;have HKd:Sd (Keep4 wE wr.drew):=⟨HKq.out.trans (Keep4.below (below_drew (Below.refl _ _)))⟩;have fc1:(Instr.lookup 73 (.map (some mb)) (.int .i64 o) false).run Tryz.prog wr.drew = .ok (.slice Av cn cv) wr.drew:=by
        have h:=HTd.out.map.look (t:=73) Tryz.underlying73 Tryz.underlying3 (zero_bools wr.drew) o;change _=Result.ok (getF nilV fs o) _ at h;rw [HGV.out] at h;exact h
       have HOd:Sd (Kd.R Kd.bool 4 wr.drew w.heap.size (fun _=>True) (.slice Av cn cv) (valT os fr n q o)):=⟨by have h:=HTd.out.look o;rw [HGV.out] at h;exact h⟩;have HMN:Sd (some mb ≠ (Value.slice Av cn cv).ownBlock):=⟨fun e=>by
        obtain ⟨c,hc⟩:=Kd.R_typed HOd.out mb e.symm
        obtain ⟨es,cl,h3,_⟩:=HTd.out.map
        rw [hc] at h3;cases h3⟩
       have HLK:Sd (∀ W',IMap W' mb fs → (Instr.lookup 73 (.map (some mb)) (.int .i64 o) false).run Tryz.prog W' = .ok (.slice Av cn cv) W'):=⟨fun W' hW'=>by
        have h:=hW'.look (t:=73) Tryz.underlying73 Tryz.underlying3 (zero_bools W') o
        change _=Result.ok (getF nilV fs o) _ at h
        rw [HGV.out] at h
        exact h⟩
       have B5d:Sd (wr.drew.heap[g5]? = some (.cells #[vs,.map (some mb)] 75 (0,0))):=⟨B5q.out⟩;clear hlk hb5;refine start_ (n:=12) (S:=fun w'=>w'.cell? ⟨g5,1,none⟩=some (.map (some mb))∧(Instr.lookup 73 (.map (some mb)) (.int .i64 o) false).run Tryz.prog w' = .ok (.slice Av cn cv) w') (ds:=[11]) (ab 12 0) (by kernel_rfl) rfl rfl ⟨fc0,fc1⟩ (fun hH=>?_);refine pure_ (i:=0) (N:=some 51) (v:=?_) (a':=?_) (ab 12 1) rfl rfl (by kernel_rfl) (fun _ _ _ h=>h) (Or.inl ⟨by rfl,?_⟩) ?_ ?_;rotate_left
       ·intro w';go_simp;with_reducible rfl
       rotate_left
       ·simp only [Act.put,q1_,q2_,q3_,i64_w,i32_w];rfl
       refine pure_ (i:=2) (N:=some 53) (v:=?_) (a':=?_) (ab 12 5) rfl rfl (by kernel_rfl) (fun _ _ _ h=>h) (Or.inl ⟨by rfl,?_⟩) ?_ ?_;rotate_left
       ·intro w';go_simp;with_reducible rfl
       rotate_left
       ·simp only [Act.put,q1_,q2_,q3_,i64_w,i32_w];rfl
       refine pure_ (i:=3) (N:=some 54) (v:=?_) (a':=?_) (ab 12 13) rfl rfl (by kernel_rfl) (fun _ _ _ h=>h) (Or.inl ⟨by rfl,?_⟩) ?_ ?_;rotate_left
       ·intro w';go_simp;with_reducible rfl
       rotate_left
       ·simp only [Act.put,q1_,q2_,q3_,i64_w,i32_w];rfl
       refine pure_ (i:=5) (N:=some 56) (v:=?_) (a':=?_) (ab 12 45) rfl rfl (by kernel_rfl) (fun _ _ _ h=>h) (Or.inl ⟨by rfl,?_⟩) ?_ ?_;rotate_left
       ·intro w';go_simp;with_reducible rfl
       rotate_left
       ·simp only [Act.put,q1_,q2_,q3_,i64_w,i32_w];rfl
       refine pure_ (i:=7) (N:=some 58) (v:=?_) (a':=?_) (ab 12 173) rfl rfl (by kernel_rfl) (fun _ _ _ h=>h) (Or.inl ⟨by rfl,?_⟩) ?_ ?_;rotate_left
       ·intro w';go_simp;with_reducible rfl
       rotate_left
       ·simp only [Act.put,q1_,q2_,q3_,i64_w,i32_w];rfl
       refine pure_ (i:=8) (N:=some 59) (v:=?_) (a':=?_) (ab 12 429) rfl rfl (by kernel_rfl) (fun _ _ _ h=>h) (Or.inl ⟨by rfl,?_⟩) ?_ ?_;rotate_left
       ·intro w';go_simp;with_reducible rfl
       rotate_left
       ·simp only [Act.put,q1_,q2_,q3_,i64_w,i32_w];rfl
       refine take_ (i:=1) (N:=some 52) (v:=?_) (a':=?_) (ab 12 431) rfl rfl (by kernel_rfl) (fun _ _ _ h=>h) (Or.inl ⟨by rfl,?_⟩) hH ?_ ?_;rotate_left
       ·rintro w' ⟨s0,s1⟩;go_simp;with_reducible rfl
       rotate_left
       ·simp only [Act.put,q1_,q2_,q3_,i64_w,i32_w];rfl
       refine take_ (i:=4) (N:=some 55) (v:=?_) (a':=?_) (ab 12 447) rfl rfl (by kernel_rfl) (fun _ _ _ h=>h) (Or.inl ⟨by rfl,?_⟩) hH ?_ ?_;rotate_left
       ·rintro w' ⟨s0,s1⟩;go_simp;with_reducible rfl
       rotate_left
       ·simp only [Act.put,q1_,q2_,q3_,i64_w,i32_w];rfl
       refine take_ (i:=6) (N:=some 57) (v:=?_) (a':=?_) (ab 12 511) rfl rfl (by kernel_rfl) (fun _ _ _ h=>h) (Or.inl ⟨by rfl,?_⟩) hH ?_ ?_;rotate_left
       ·rintro w' ⟨s0,s1⟩;go_simp;with_reducible rfl
       rotate_left
       ·simp only [Act.put,q1_,q2_,q3_,i64_w,i32_w];rfl
       refine one_ (i:=9) (N:=some 60) (ab 12 1023) rfl rfl (by kernel_rfl) (by decide) (fun K hK=>?_);refine value_ (w1:=?_) (v:=?_) (by rfl) rfl ?_ ?_;rotate_left 2
       ·go_simp;constructor
        ·rfl
        ·rfl
       refine hK.out _ _ ⟨(pw_cell_below (below_alloc (Below.refl _ _) _) fc0),(HLK.out _ (HTd.out.map.below (below_alloc (Below.refl _ _) _)))⟩ (fun hH=>?_);clear hK K;refine norm_ (a':=?_) ?_ ?_;rotate_left
       ·show Act.put _ (some 60) _=_;simp only [Act.put,q1_,q2_,q3_,i64_w,i32_w];rfl
       refine one_ (i:=10) (N:=some 61) (ab 12 2047) rfl rfl (by kernel_rfl) (by decide) (fun K hK=>?_);refine Kd.R_append_step Kd.bool (w0:=w) w.heap.size (by rfl) (.tmp 57) (.tmp 60) 27 4 (.bool false) 1 rfl Tryz.underlying27 info4 rfl (by decide) (by decide) (.slice Av cn cv) (valT os fr n q o) false [.bool false] (fun _=>True) (fun _=>False) rfl (by simp [Act.eval]) rfl (fun _ h=>h.elim) (fun _ _=>trivial) HOd.out HBd.out (below_size HBd.out) (by have h1:=HCE.out;have h2:=HCN2.out;rw [h1];omega) ?_;intro v1 w1 hO1 hB1 hG1 hA1;have fd0:w1.cell? ⟨g5,1,none⟩=some (.map (some mb)):=(blk_cell (blk_grown B5d.out hG1 (Kd.R_ne HOd.out B5d.out (by decide))) 1).trans rfl;have fd1:=HLK.out w1 (HTd.out.map.grown hG1 HMN.out);refine hK.out _ _ ⟨fd0,fd1⟩ (fun hH=>?_);clear hK K;refine norm_ (a':=?_) ?_ ?_;rotate_left
       ·show Act.put _ (some 61) _=_;simp only [Act.put,q1_,q2_,q3_,i64_w,i32_w];rfl
       refine last_ (i:=11) (N:=none) (ab 12 4095) rfl rfl (by kernel_rfl) (by decide) (fun K hK=>?_);obtain ⟨w2,hput,hm2,hg2,hj2⟩:=(HTd.out.map.grown hG1 HMN.out).put (t:=73) Tryz.underlying73 Tryz.underlying3 o v1;refine skip_ (w1:=?_) (by rfl) rfl ?_ ?_;rotate_left
       ·go_simp;rfl
       refine hK.out _ _ ?_;clear hK K;refine done_ (by kernel_rfl) ?_;have HPUT:=Sd.mk (HTd.out.put o false (v1:=v1) (W2:=w2) hO1 (by rw [HGV.out];exact hG1) (by rw [HGV.out];exact hA1) hm2 hj2);have HB2:Sd (Below w.heap.size w w2):=⟨hB1.grown hg2 (below_size hB1) (by intro k hk;cases hk;exact HMB.out)⟩;clear hput hm2 hg2 hj2 hO1 hB1 hG1 hA1 fc0 fc1 fd0 fd1 hH;go_wp2_with fail;go_roundw
       case measure=>simp [intV];omega
       case rel=>exact ⟨q + 1,putF fs o v1,by simp,by omega,⟨by rw [← valT_put os fr n q (by rw [HNO.out];exact hlq) (by rw [HO.out];exact HNI.out),HO.out,← HBBq.out];exact HPUT.out.1⟩,⟨HPUT.out.2.1 _ _ HPd.out⟩,⟨HKd.out.trans HPUT.out.2.2⟩,HB2⟩
      | true =>
       have hbr:br n = []:=of_decide_eq_true HHD.out.symm;rw [if_pos hbr] at HFO;have HBRN:=Sd.mk hbr;clear hbr;have Brq:=Sd.mk (HKq.out.cell BrE.out (by decide));have BKwr:=Sd.mk (HKq.out.cell BKwE.out (by decide));have HC2:=Sd.mk (HR2.out wr (HKq.out.R HU0E.out (by decide)) (HKq.out.R HU1E.out (by decide)));have HFq:=Sd.mk (HFI.out n hlt o HOM.out HBRN.out wr E0 f0 E1 f1 HBq.out HC2.out.1.1 HC2.out.1.2 HC2.out.2.1 HC2.out.2.2);rw [HT0.out,HT1.out] at HFq;obtain ⟨ha0,ha1,ha2,ha3,ha4⟩:=bc5 Brq.out;obtain ⟨hb0,hb1⟩:=bc2 BKwr.out;generalize fi o n=z at *;have hz:decide (z < 0)=bb:=HFO.out.symm;go_wp2_with fail;refine HFq.out.mono ?_;rintro e wF ⟨er,rfl,hbF⟩;have HTF:=Sd.mk (HTq.out.below hbF);have HPF:=Sd.mk (HPq.out.below hbF);have HKF:=Sd.mk (HKq.out.trans (Keep4.below hbF));have HBF:=Sd.mk (below_step HBq.out hbF);have B5F:=Sd.mk (blk_below B5q.out hbF);clear hbF hb0 hb1 HFq HC2 hlk hb5 ha0 ha1 ha2 ha3 ha4;have hlk:True:=trivial;have hb5:True:=trivial;go_wp2_with fail;have fc0:wF.drew.cell? ⟨g5,1,none⟩=some (.map (some mb)):=(blk_cell (w:=wF.drew) B5F.out 1).trans rfl;have HTd:Sd (TabW w.heap.size wF.drew mb fs (valT os fr n q) vs ((List.range n).map st)):=⟨HTF.out.below (below_drew (Below.refl _ _))⟩;have HPd:Sd (PendW w.heap.size wF.drew fs vs (st n) [.slice D0 s0 d0,.slice D1 s1 d1]):=⟨HPF.out.below (below_drew (Below.refl _ _))⟩;have HBd:Sd (Below w.heap.size w wF.drew):=⟨below_drew HBF.out⟩;have HKd:Sd (Keep4 wE wF.drew):=⟨HKF.out.trans (Keep4.below (below_drew (Below.refl _ _)))⟩;have fc1:(Instr.lookup 73 (.map (some mb)) (.int .i64 o) false).run Tryz.prog wF.drew = .ok (.slice Av cn cv) wF.drew:=by
        have h:=HTd.out.map.look (t:=73) Tryz.underlying73 Tryz.underlying3 (zero_bools wF.drew) o;change _=Result.ok (getF nilV fs o) _ at h;rw [HGV.out] at h;exact h
       have HOd:Sd (Kd.R Kd.bool 4 wF.drew w.heap.size (fun _=>True) (.slice Av cn cv) (valT os fr n q o)):=⟨by have h:=HTd.out.look o;rw [HGV.out] at h;exact h⟩;have HMN:Sd (some mb ≠ (Value.slice Av cn cv).ownBlock):=⟨fun e=>by
        obtain ⟨c,hc⟩:=Kd.R_typed HOd.out mb e.symm
        obtain ⟨es,cl,h3,_⟩:=HTd.out.map
        rw [hc] at h3;cases h3⟩
       have HLK:Sd (∀ W',IMap W' mb fs → (Instr.lookup 73 (.map (some mb)) (.int .i64 o) false).run Tryz.prog W' = .ok (.slice Av cn cv) W'):=⟨fun W' hW'=>by
        have h:=hW'.look (t:=73) Tryz.underlying73 Tryz.underlying3 (zero_bools W') o
        change _=Result.ok (getF nilV fs o) _ at h
        rw [HGV.out] at h
        exact h⟩
       have B5d:Sd (wF.drew.heap[g5]? = some (.cells #[vs,.map (some mb)] 75 (0,0))):=⟨B5F.out⟩;clear hlk hb5;refine start_ (n:=12) (S:=fun w'=>w'.cell? ⟨g5,1,none⟩=some (.map (some mb))∧(Instr.lookup 73 (.map (some mb)) (.int .i64 o) false).run Tryz.prog w' = .ok (.slice Av cn cv) w') (ds:=[11]) (ab 12 0) (by kernel_rfl) rfl rfl ⟨fc0,fc1⟩ (fun hH=>?_);refine pure_ (i:=0) (N:=some 51) (v:=?_) (a':=?_) (ab 12 1) rfl rfl (by kernel_rfl) (fun _ _ _ h=>h) (Or.inl ⟨by rfl,?_⟩) ?_ ?_;rotate_left
       ·intro w';go_simp;with_reducible rfl
       rotate_left
       ·simp only [Act.put,q1_,q2_,q3_,i64_w,i32_w];rfl
       refine pure_ (i:=2) (N:=some 53) (v:=?_) (a':=?_) (ab 12 5) rfl rfl (by kernel_rfl) (fun _ _ _ h=>h) (Or.inl ⟨by rfl,?_⟩) ?_ ?_;rotate_left
       ·intro w';go_simp;with_reducible rfl
       rotate_left
       ·simp only [Act.put,q1_,q2_,q3_,i64_w,i32_w];rfl
       refine pure_ (i:=3) (N:=some 54) (v:=?_) (a':=?_) (ab 12 13) rfl rfl (by kernel_rfl) (fun _ _ _ h=>h) (Or.inl ⟨by rfl,?_⟩) ?_ ?_;rotate_left
       ·intro w';go_simp;with_reducible rfl
       rotate_left
       ·simp only [Act.put,q1_,q2_,q3_,i64_w,i32_w];rfl
       refine pure_ (i:=5) (N:=some 56) (v:=?_) (a':=?_) (ab 12 45) rfl rfl (by kernel_rfl) (fun _ _ _ h=>h) (Or.inl ⟨by rfl,?_⟩) ?_ ?_;rotate_left
       ·intro w';go_simp;with_reducible rfl
       rotate_left
       ·simp only [Act.put,q1_,q2_,q3_,i64_w,i32_w];rfl
       refine pure_ (i:=7) (N:=some 58) (v:=?_) (a':=?_) (ab 12 173) rfl rfl (by kernel_rfl) (fun _ _ _ h=>h) (Or.inl ⟨by rfl,?_⟩) ?_ ?_;rotate_left
       ·intro w';go_simp;with_reducible rfl
       rotate_left
       ·simp only [Act.put,q1_,q2_,q3_,i64_w,i32_w];rfl
       refine pure_ (i:=8) (N:=some 59) (v:=?_) (a':=?_) (ab 12 429) rfl rfl (by kernel_rfl) (fun _ _ _ h=>h) (Or.inl ⟨by rfl,?_⟩) ?_ ?_;rotate_left
       ·intro w';go_simp;with_reducible rfl
       rotate_left
       ·simp only [Act.put,q1_,q2_,q3_,i64_w,i32_w];rfl
       refine take_ (i:=1) (N:=some 52) (v:=?_) (a':=?_) (ab 12 431) rfl rfl (by kernel_rfl) (fun _ _ _ h=>h) (Or.inl ⟨by rfl,?_⟩) hH ?_ ?_;rotate_left
       ·rintro w' ⟨s0,s1⟩;go_simp;with_reducible rfl
       rotate_left
       ·simp only [Act.put,q1_,q2_,q3_,i64_w,i32_w];rfl
       refine take_ (i:=4) (N:=some 55) (v:=?_) (a':=?_) (ab 12 447) rfl rfl (by kernel_rfl) (fun _ _ _ h=>h) (Or.inl ⟨by rfl,?_⟩) hH ?_ ?_;rotate_left
       ·rintro w' ⟨s0,s1⟩;go_simp;with_reducible rfl
       rotate_left
       ·simp only [Act.put,q1_,q2_,q3_,i64_w,i32_w];rfl
       refine take_ (i:=6) (N:=some 57) (v:=?_) (a':=?_) (ab 12 511) rfl rfl (by kernel_rfl) (fun _ _ _ h=>h) (Or.inl ⟨by rfl,?_⟩) hH ?_ ?_;rotate_left
       ·rintro w' ⟨s0,s1⟩;go_simp;with_reducible rfl
       rotate_left
       ·simp only [Act.put,q1_,q2_,q3_,i64_w,i32_w];rfl
       refine one_ (i:=9) (N:=some 60) (ab 12 1023) rfl rfl (by kernel_rfl) (by decide) (fun K hK=>?_);refine value_ (w1:=?_) (v:=?_) (by rfl) rfl ?_ ?_;rotate_left 2
       ·go_simp;constructor
        ·rfl
        ·rfl
       refine hK.out _ _ ⟨(pw_cell_below (below_alloc (Below.refl _ _) _) fc0),(HLK.out _ (HTd.out.map.below (below_alloc (Below.refl _ _) _)))⟩ (fun hH=>?_);clear hK K;refine norm_ (a':=?_) ?_ ?_;rotate_left
       ·show Act.put _ (some 60) _=_;simp only [Act.put,q1_,q2_,q3_,i64_w,i32_w];rfl
       refine one_ (i:=10) (N:=some 61) (ab 12 2047) rfl rfl (by kernel_rfl) (by decide) (fun K hK=>?_);refine Kd.R_append_step Kd.bool (w0:=w) w.heap.size (by rfl) (.tmp 57) (.tmp 60) 27 4 (.bool false) 1 rfl Tryz.underlying27 info4 rfl (by decide) (by decide) (.slice Av cn cv) (valT os fr n q o) bb [.bool bb] (fun _=>True) (fun _=>False) rfl (by simp [Act.eval]) rfl (fun _ h=>h.elim) (fun _ _=>trivial) HOd.out HBd.out (below_size HBd.out) (by have h1:=HCE.out;have h2:=HCN2.out;rw [h1];omega) ?_;intro v1 w1 hO1 hB1 hG1 hA1;have fd0:w1.cell? ⟨g5,1,none⟩=some (.map (some mb)):=(blk_cell (blk_grown B5d.out hG1 (Kd.R_ne HOd.out B5d.out (by decide))) 1).trans rfl;have fd1:=HLK.out w1 (HTd.out.map.grown hG1 HMN.out);refine hK.out _ _ ⟨fd0,fd1⟩ (fun hH=>?_);clear hK K;refine norm_ (a':=?_) ?_ ?_;rotate_left
       ·show Act.put _ (some 61) _=_;simp only [Act.put,q1_,q2_,q3_,i64_w,i32_w];rfl
       refine last_ (i:=11) (N:=none) (ab 12 4095) rfl rfl (by kernel_rfl) (by decide) (fun K hK=>?_);obtain ⟨w2,hput,hm2,hg2,hj2⟩:=(HTd.out.map.grown hG1 HMN.out).put (t:=73) Tryz.underlying73 Tryz.underlying3 o v1;refine skip_ (w1:=?_) (by rfl) rfl ?_ ?_;rotate_left
       ·go_simp;rfl
       refine hK.out _ _ ?_;clear hK K;refine done_ (by kernel_rfl) ?_;have HPUT:=Sd.mk (HTd.out.put o bb (v1:=v1) (W2:=w2) hO1 (by rw [HGV.out];exact hG1) (by rw [HGV.out];exact hA1) hm2 hj2);have HB2:Sd (Below w.heap.size w w2):=⟨hB1.grown hg2 (below_size hB1) (by intro k hk;cases hk;exact HMB.out)⟩;clear hput hm2 hg2 hj2 hO1 hB1 hG1 hA1 fc0 fc1 fd0 fd1 hH;go_wp2_with fail;go_roundw
       case measure=>simp [intV];omega
       case rel=>exact ⟨q + 1,putF fs o v1,by simp,by omega,⟨by rw [← valT_put os fr n q (by rw [HNO.out];exact hlq) (by rw [HO.out];exact HNI.out),HO.out,← HBBq.out];exact HPUT.out.1⟩,⟨HPUT.out.2.1 _ _ HPd.out⟩,⟨HKd.out.trans HPUT.out.2.2⟩,HB2⟩
    ·(have hlq':decide ((q:Int) < (no:Int))=false:=by simp;omega);(obtain rfl:q=no:=by omega);have BKs7:=Sd.mk (HKq.out.cell BKsE.out (by decide));have B4q:=Sd.mk (HKq.out.cell B4E.out (by decide));have Brq:=Sd.mk (HKq.out.cell BrE.out (by decide));obtain ⟨hb0,hb1⟩:=bc2 BKs7.out;have hb5:wr.cell? ⟨g5,0,none⟩=some vs:=(blk_cell B5q.out 0).trans rfl;have HSL:Sd (((List.range n).map st).length ≤ 1000):=⟨by rw [List.length_map,List.length_range];omega⟩;clear BKsE BKwE B5E B4E BrE HU0E HU1E HR2;obtain ⟨Avs,cvs,hvs⟩:=Kd.R_slice HTq.out.sts;subst hvs;generalize hL:((List.range n).map st)=L at *;have HL:=Sd.mk hL;clear hL;generalize hLn:L.length=ln at *;have HLN:=Sd.mk hLn;clear hLn;go_wp2_with (((with_reducible refine gate_builtin (b:=.append) (xs:=#[.tmp 64,.tmp 66]) rfl ?_);at_builtin;refine Kd.R_append kSm (w0:=w) w.heap.size rfl (.tmp 64) (.tmp 66) 72 34 (.agg #[.slice none 0 0,.slice none 0 0]) 48 rfl Tryz.underlying72 infoSm rfl (by decide) (by omega) (.slice Avs ln cvs) L (st n) [.slice D0 s0 d0,.slice D1 s1 d1] (FrOff fs) (fun k=>FrOff fs k∧some k ≠ (Value.slice Avs ln cvs).ownBlock) rfl rfl ?aP (fun _ hk=>hk) ?aF ?aO ?aB ?aS ?aL ?_;(case aP=>exact HPq.out);(case aB=>exact HBq.out);(case aF=>exact fun k hk q hq he=>by have:=Kd.R_lt (HTq.out.rows q hq) k he;omega);(case aO=>exact HTq.out.sts);(case aS=>exact below_size HBq.out);(case aL=>have h1:=HSL.out;have h2:=HLN.out;omega);intro vn wG ho hb hg hat;obtain ⟨An,cp,rfl⟩:=Kd.R_slice ho;have HTG:=Sd.mk (HTq.out.push ho hg);have HBG:=Sd.mk hb;have B5G:=Sd.mk (HTq.out.keep_push hg B5q.out (by decide));have B4G:=Sd.mk (HTq.out.keep_push hg B4q.out (by decide));have BrG:=Sd.mk (HTq.out.keep_push hg Brq.out (by decide));have hcz0:wG.cell? ⟨g5,0,none⟩=some (.slice Avs ln cvs):=(blk_cell B5G.out 0).trans rfl;have hfz0:=blk_frozen B5G.out 0;clear ho hb hg hat hb0 hb1 hb5));go_roundw
     case measure=>simp [intV];omega
     case rel =>
      refine ⟨n + 1,.slice An (L.length + 1) cp,fs,by simp,by omega,⟨?_⟩,⟨?_⟩,⟨?_⟩,⟨?_⟩,⟨?_⟩⟩
      ·have h1:=HTG.out.set B5G.out (by decide) 0 (.slice An (L ++ [st n]).length cp);(have h2:(List.range (n + 1)).map st=L ++ [st n]:=by rw [List.range_succ,List.map_append,HL.out];rfl);(have h3:(L ++ [st n]).length=L.length + 1:=by rw [List.length_append];rfl);rw [h3] at h1;rw [h2,← valT_next,HNO.out];exact h1
      ·exact blk_put (cs:=#[.slice Avs ln cvs,.map (some mb)]) B5G.out 0 _ rfl
      ·exact blk_far B4G.out HN45.out.1 _
      ·exact blk_far BrG.out HN45.out.2 _
      ·exact below_set HBG.out HG5W.out
  ·(have hlt':decide ((n:Int) < (N:Int))=false:=by simp;omega);(obtain rfl:n=N:=by omega);have hb5:wr.cell? ⟨g5,0,none⟩=some vs:=(blk_cell B5.out 0).trans rfl;have hb51:wr.cell? ⟨g5,1,none⟩=some (.map (some mb)):=(blk_cell B5.out 1).trans rfl;obtain ⟨hb4,hb41⟩:=bc2 B4.out;obtain ⟨hf4,hf41⟩:=bf2 B4.out;have hn45:=HN45.out.1;(have hn54:g5 ≠ g4:=fun e=>hn45 e.symm);have HG4W:Sd (w.heap.size ≤ g4):=HG4Z;obtain ⟨Avs,cvs,hvs⟩:=Kd.R_slice HT.out.sts;subst hvs;have HLN:Sd (((List.range n).map st).length=n):=⟨by simp⟩;generalize hLn:((List.range n).map st).length=ln at *;go_wp2_with fail;refine bodyPost_ret (results_cell_row rfl _ _ g4 75 #[.slice Avs ln cvs,.map (some mb)] (0,0) _ rfl (by refine blk_put (cs:=#[.slice Avs ln cvs,.map none]) ?_ 1 _ rfl;refine blk_put (cs:=#[.slice none 0 0,.map none]) ?_ 0 _ rfl;exact B4.out) Tryz.underlying75 rfl (by kernel_rfl)) rfl ?_;refine ⟨_,mb,fs,rfl,?_,below_set (below_set HBr.out HG4W.out) HG4W.out⟩;have h1:=HT.out.set B4.out (by decide) 0 (.slice Avs ln cvs);exact h1.set (blk_put (cs:=#[.slice none 0 0,.map none]) B4.out 0 _ rfl) (by decide) 1 _
theorem sm_at {W:World} {base:Nat} {ok:Nat → Prop} {A:Option Addr} {n c:Nat} {sts:List Sm} (h:Kd.R kSm 34 W base ok (.slice A n c) sts) (i:Nat) (hi:i < n) :
  ∃ ad D0 d0 D1 d1,A=some ad∧W.cell? (ad.add (i * 2))=some (.slice D0 (sts.getD i z34).f0.length d0)∧W.cell? ⟨(ad.add (i * 2)).block,(ad.add (i * 2)).off + 1,none⟩=some (.slice D1 (sts.getD i z34).f1.length d1) ∧
   Kd.R Kd.bool 4 W base (fun _=>True) (.slice D0 (sts.getD i z34).f0.length d0) (sts.getD i z34).f0∧Kd.R (Kd.int .i64) 3 W base (fun _=>True) (.slice D1 (sts.getD i z34).f1.length d1) (sts.getD i z34).f1:=by
 obtain ⟨hn,hnc,hC⟩:=Kd.R_reads' h;obtain ⟨g,cap,hv,_⟩:=Kd.R_form h (by omega);injection hv with hA _ _;subst hA;obtain ⟨cs,hcl,hM,hcc,_⟩:=Kd.R_elem h z34 (i:Int) (by omega) (by omega);simp only [Int.toNat_natCast] at hM hcc;obtain ⟨v0,v1,rfl,r0,r1⟩:=k34_openM hM;obtain ⟨D0,d0,rfl,_,_⟩:=Kd.R_reads r0;obtain ⟨D1,d1,rfl,_,_⟩:=Kd.R_reads r1;have h0:=hcc 0 _ rfl;have h1:=hcc 1 _ rfl;have e:(⟨g,0,none⟩:Addr).add (i * 2)=⟨g,i * 2,none⟩:=add_plain _ _;refine ⟨_,D0,d0,D1,d1,rfl,?_,?_,Kd.R_mono r0 (fun _ _=>trivial),Kd.R_mono r1 (fun _ _=>trivial)⟩
 ·rw [e];exact h0
 ·rw [e];exact h1
theorem TabW.told {w0s:Nat} {W:World} {mb:Nat} {fs:List (Int × Value)} {val:Int → List Bool} {vs:Value} {sts:List Sm} (h:TabW w0s W mb fs val vs sts) (o:Int) (n:Nat) (hn:(val o).length=n) :
  ∃ A c,(∀ W',Below W.heap.size W W' → (Instr.lookup 73 (.map (some mb)) (.int .i64 o) false).run Tryz.prog W' = .ok (.slice A n c) W')∧Kd.C Kd.bool W A n (val o):=by
 obtain ⟨A,c,hv,_,hC⟩:=Kd.R_reads (h.look o);rw [hn] at hv hC;refine ⟨A,c,fun W' hW'=>?_,hC⟩;have h2:=(h.map.below hW').look (t:=73) Tryz.underlying73 Tryz.underlying3 (zero_bools W') o;change _=Result.ok (getF nilV fs o) _ at h2;rw [hv] at h2;exact h2
theorem find_range (p:Nat → Bool) (N n:Nat) (hn:n < N) (hm:∀ m,m < n → p m=false) (h:p n=true):(List.range N).find? p=some n:=by
 rw [List.find?_eq_some_iff_getElem];refine ⟨h,n,by simpa using hn,by simp,fun j hj=>?_⟩;simp [hm j hj]
theorem attab_walk (A0:Option Addr) (n0 c0:Nat) (A1:Option Addr) (n1 c1:Nat) (A2:Option Addr) (n2 c2:Nat) (A3:Option Addr) (n3 c3:Nat) (A4:Option Addr) (n4 c4:Nat) (Ad:Option Addr) (nd cd:Nat) (a b cl:Int) (w:World)
  (w0s mb:Nat) (fs:List (Int × Value)) (val:Int → List Bool) (vs:Value) (N:Nat) (st:Nat → Sm) (fr:Int → Nat → Bool) (ap wa:Nat → List Bool × List Int) (wd:Nat → List (List ByteArray) × List (List Ce)) (ho:Nat → Bool)
  (hT:TabW w0s w mb fs val vs ((List.range N).map st)) (hb0:w0s ≤ w.heap.size) (hN:N ≤ 1000) (hva:val a=(List.range N).map (fr a)) (hvb:val b=(List.range N).map (fr b))
  (hap:∀ n:Nat,n < N → fr a n=true → fr b n=true → ∀ w' D0 d0 D1 d1,Below w.heap.size w w' → Kd.C Kd.bool w' D0 (st n).f0.length (st n).f0 → (st n).f0.length ≤ d0 → Kd.C (Kd.int .i64) w' D1 (st n).f1.length (st n).f1 → (st n).f1.length ≤ d1 → Calls Tryz.prog 49 #[.agg #[.slice A0 n0 c0,.slice A1 n1 c1,.slice A2 n2 c2,.slice A3 n3 c3,.slice A4 n4 c4],.slice Ad nd cd,.agg #[.slice D0 (st n).f0.length d0,.slice D1 (st n).f1.length d1],.int .i64 a,.int .i64 b] w' fun e w''=>∃ v0 v1:Value,e = .returned (.agg #[v0,v1])∧Kd.R Kd.bool 4 w'' w'.heap.size (fun _=>True) v0 (ap n).1∧Kd.R (Kd.int .i64) 3 w'' w'.heap.size (fun _=>True) v1 (ap n).2∧Below w'.heap.size w' w'')
  (hwd:∀ n:Nat,n < N → fr a n=true → fr b n=true → ∀ w' D0 d0 D1 d1,Kd.C Kd.bool w' D0 (ap n).1.length (ap n).1 → (ap n).1.length ≤ d0 → Kd.C (Kd.int .i64) w' D1 (ap n).2.length (ap n).2 → (ap n).2.length ≤ d1 → Calls Tryz.prog 76 #[.agg #[.slice D0 (ap n).1.length d0,.slice D1 (ap n).2.length d1]] w' fun e w''=>∃ v0 v1:Value,e = .returned (.agg #[v0,v1])∧Kd.R (Kd.slice 9 Kd.string) 22 w'' w'.heap.size (fun _=>True) v0 (wd n).1∧Kd.R (Kd.slice 158 k158) 121 w'' w'.heap.size (fun _=>True) v1 (wd n).2∧Below w'.heap.size w' w'')
  (hho:∀ n:Nat,n < N → fr a n=true → fr b n=true → ∀ w' D0 d0 D1 d1,Below w.heap.size w w' → Kd.C (Kd.slice 9 Kd.string) w' D0 (wd n).1.length (wd n).1 → (wd n).1.length ≤ d0 → Kd.C (Kd.slice 158 k158) w' D1 (wd n).2.length (wd n).2 → (wd n).2.length ≤ d1 → Calls Tryz.prog 79 #[.agg #[.slice A0 n0 c0,.slice A1 n1 c1,.slice A2 n2 c2,.slice A3 n3 c3,.slice A4 n4 c4],.agg #[.slice D0 (wd n).1.length d0,.slice D1 (wd n).2.length d1],.int .i64 cl] w' fun e w''=>e = .returned (.bool (ho n))∧Below w'.heap.size w' w'') :
  Calls Tryz.prog 42 #[.agg #[vs,.map (some mb)],.agg #[.slice A0 n0 c0,.slice A1 n1 c1,.slice A2 n2 c2,.slice A3 n3 c3,.slice A4 n4 c4],.slice Ad nd cd,.int .i64 a,.int .i64 b,.int .i64 cl] w fun e w'=>∃ v0 v1:Value,e = .returned (.tuple #[.agg #[v0,v1],.bool (((List.range N).find? fun n=>fr a n && (fr b n && !ho n)).isSome)]) ∧
   Kd.R Kd.bool 4 w' w0s (fun _=>True) v0 (match (List.range N).find? (fun n=>fr a n && (fr b n && !ho n)) with|some n=>(st n).f0|none=>[])∧Kd.R (Kd.int .i64) 3 w' w0s (fun _=>True) v1 (match (List.range N).find? (fun n=>fr a n && (fr b n && !ho n)) with|some n=>(st n).f1|none=>[])∧Below w.heap.size w w':=by
 have HT:=Sd.mk hT;have HAP:=Sd.mk hap;have HWD:=Sd.mk hwd;have HHO:=Sd.mk hho;have HFY:Sd (∀ n,n < N → (∀ m,m < n → (fr a m && (fr b m && !ho m))=false) → (fr a n && (fr b n && !ho n))=true → (List.range N).find? (fun n=>fr a n && (fr b n && !ho n))=some n):=⟨fun n hn hm h=>find_range _ N n hn hm h⟩;have HFN:Sd ((∀ m,m < N → (fr a m && (fr b m && !ho m))=false) → (List.range N).find? (fun n=>fr a n && (fr b n && !ho n))=none):=⟨fun hm=>by
  rw [List.find?_eq_none]
  intro x hx
  rw [hm x (List.mem_range.1 hx)]
  decide⟩
 generalize (List.range N).find? (fun n=>fr a n && (fr b n && !ho n))=FF at *;obtain ⟨Avs,cvs,hvs⟩:=Kd.R_slice hT.sts;subst hvs;(have hln:((List.range N).map st).length=N:=by simp);rw [hln] at HT hT ⊢;obtain ⟨Aa,ca,hla,hCa⟩:=hT.told a N (by rw [hva];simp);obtain ⟨Ab,cb,hlb,hCb⟩:=hT.told b N (by rw [hvb];simp);have HLA:=Sd.mk hla;have HLB:=Sd.mk hlb;have HCA:Sd (Kd.C Kd.bool w Aa N ((List.range N).map (fr a))):=⟨by rw [← hva];exact hCa⟩;have HCB:Sd (Kd.C Kd.bool w Ab N ((List.range N).map (fr b))):=⟨by rw [← hvb];exact hCb⟩;have HST:Sd (∀ n,n < N → ((List.range N).map st).getD n z34=st n):=⟨fun n hn=>by simp [List.getD,hn]⟩;have HBA:Sd (∀ (f:Nat → Bool) n,n < N → rdOf false ((List.range N).map f) (n:Int)=f n):=⟨fun f n hn=>by simp [rdOf,List.getD,hn]⟩;have HW0:=Sd.mk hb0;generalize hL:(List.range N).map st=L at *;have HL:=Sd.mk hL;clear hT hap hwd hho hva hvb hla hlb hCa hCb hL hln hb0;go_enter Tryz.func42,Tryz.ntmps42;go_upto_region 1 with (first|((with_reducible refine gate_dst (N:=6) rfl ?_);refine box_event ?hg (N:=6) ?hd (cs:=#[.slice Avs N cvs,.map (some mb)]) (t:=75) ?hr ?_;(case hd=>rfl);(case hg=>rfl);(case hr=>first|(go_simp;done)|(go_simp;rfl));intro g6 hg w3 hbox hb;have HB3:=Sd.mk hb;have BK6:=Sd.mk hbox;clear hb hbox hg)|((with_reducible refine gate_dst (N:=7) rfl ?_);refine box_event ?hg (N:=7) ?hd (cs:=#[.slice A0 n0 c0,.slice A1 n1 c1,.slice A2 n2 c2,.slice A3 n3 c3,.slice A4 n4 c4]) (t:=26) ?hr ?_;(case hd=>rfl);(case hg=>rfl);(case hr=>first|(go_simp;done)|(go_simp;rfl));intro g7 hg w4 hbox hb;have HB4:=Sd.mk (below_step HB3.out hb);have BK6b:=Sd.mk (blk_below BK6.out hb);have BK7:=Sd.mk hbox;clear hb hbox hg)|((with_reducible refine gate_dst (N:=12) rfl ?_);refine box_event ?hg (N:=12) ?hd (cs:=#[.slice none 0 0,.slice none 0 0]) (t:=34) ?hr ?_;(case hd=>rfl);(case hg=>rfl);(case hr=>first|(go_simp;done)|(go_simp;rfl));intro g12 hg w5 hbox hb;have HG12:Sd (w.heap.size ≤ g12):=⟨by rw [hg];exact below_size HB4.out⟩;have HB5:=Sd.mk (below_step HB4.out hb);have BK6c:=Sd.mk (blk_below BK6b.out hb);have BK7c:=Sd.mk (blk_below BK7.out hb);have BK12:=Sd.mk hbox;clear hb hbox hg));have hb60:w5.cell? ⟨g6,0,none⟩=some (.slice Avs N cvs):=(blk_cell BK6c.out 0).trans rfl;clear BK6 BK6b BK7 HB3 HB4;go_wp2_with fail;clear hb60;go_loopw [19] (fun v19 wr=>∃ n:Nat,v19 = .int .i64 (n:Int)∧n ≤ N∧Sd (∀ m,m < n → (fr a m && (fr b m && !ho m))=false)∧Sd (Below w5.heap.size w5 wr)) (fun v19 _=>((N:Int) - intV v19).toNat)
 case atStart=>exact ⟨0,rfl,Nat.zero_le _,⟨fun m hm=>absurd hm (by omega)⟩,⟨Below.refl _ _⟩⟩
 case round =>
  obtain ⟨n,rfl,hn,HNO,HB5r⟩:=hrel;have HBr:=Sd.mk (below_step HB5.out HB5r.out);by_cases hlt:n < N
  ·(have hlt':decide ((n:Int) < (N:Int))=true:=by simp;omega);have p1:(0 ≤ (n:Int))=True:=eq_true (by omega);have p2:((n:Int) < (N:Int))=True:=eq_true (by omega);obtain ⟨ad,D0,d0,D1,d1,hAv,hx0,hx1,hr0,hr1⟩:=sm_at (Kd.R_below HT.out.sts HBr.out) n hlt;rw [HST.out n hlt] at hx0 hx1 hr0 hr1;have HR0:=Sd.mk hr0;have HR1:=Sd.mk hr1;subst hAv;clear hr0 hr1;generalize hs0:(st n).f0.length=s0 at *;generalize hs1:(st n).f1.length=s1 at *;have HS0:=Sd.mk hs0;have HS1:=Sd.mk hs1;clear hs0 hs1;go_upto_region 4 with (((with_reducible refine gate_dst (N:=15) rfl ?_);refine box_event ?hg (N:=15) ?hd (cs:=#[.slice none 0 0,.slice none 0 0]) (t:=34) ?hr ?_;(case hd=>rfl);(case hg=>rfl);(case hr=>first|(go_simp;done)|(go_simp;rfl));intro g9 hg9 w9 hbox hb;have HB9:=Sd.mk hb;have BK9:=Sd.mk hbox;have HNE9:g9 ≠ g12:=(by have h1:=lt_of_some BK12.out;have h2:=HB5r.out.size;omega);have HG9:=Sd.mk hg9;have hcz0:=(blk_cell hbox 0);have hcz1:=(blk_cell hbox 1);have hfz0:=blk_frozen hbox 0;have hfz1:=blk_frozen hbox 1;clear hb hbox hg9));(have hgs:wr.heap.size ≤ g9:=by rw [HG9.out];exact Nat.le_refl _);have HBrA:Sd (Below wr.heap.size wr ((w9.setCell ⟨g9,0,none⟩ (.slice D0 s0 d0)).setCell ⟨g9,1,none⟩ (.slice D1 s1 d1))):=⟨below_set (below_set HB9.out hgs) hgs⟩;have BKs:Sd (((w9.setCell ⟨g9,0,none⟩ (.slice D0 s0 d0)).setCell ⟨g9,1,none⟩ (.slice D1 s1 d1)).heap[g9]? = some (.cells #[.slice D0 s0 d0,.slice D1 s1 d1] 34 (0,0))):=⟨by
    refine blk_put (cs:=#[.slice D0 s0 d0,.slice none 0 0]) ?_ 1 _ rfl
    exact blk_put BK9.out 0 _ rfl⟩
   generalize ((w9.setCell ⟨g9,0,none⟩ (.slice D0 s0 d0)).setCell ⟨g9,1,none⟩ (.slice D1 s1 d1))=wA at *;clear hcz0 hcz1 hfz0 hfz1 hgs BK9 HB9 HG9 hx0 hx1;have HWA:=Sd.mk (below_step HBr.out HBrA.out);have HB5A:=Sd.mk (below_step HB5r.out HBrA.out);have B6A:=Sd.mk (blk_below BK6c.out HB5A.out);have B7A:=Sd.mk (blk_below BK7c.out HB5A.out);have B12A:=Sd.mk (blk_below BK12.out HB5A.out);have HR0A:=Sd.mk (Kd.R_below HR0.out HBrA.out);have HR1A:=Sd.mk (Kd.R_below HR1.out HBrA.out);clear HR0 HR1 HBr HB5r HBrA;obtain ⟨ada,ea,hya⟩:=Kd.at_bool (Kd.C_below HCA.out HWA.out) (n:Int) (by omega) (by omega);obtain ⟨adb,eb,hyb⟩:=Kd.at_bool (Kd.C_below HCB.out HWA.out) (n:Int) (by omega) (by omega);subst ea;subst eb;rw [HBA.out _ n hlt] at hya hyb;simp only [Int.toNat_natCast] at hya hyb;have hk6:wA.cell? ⟨g6,1,none⟩=some (.map (some mb)):=(blk_cell B6A.out 1).trans rfl;(have hqa:∀ m,(Instr.lookup 73 (.map (some mb)) (.int .i64 a) false).run Tryz.prog (wA.drewN m) = .ok (.slice (some ada) N ca) (wA.drewN m):=fun m=>HLA.out _ (pw_below_drewN HWA.out m));(have hqb:∀ m,(Instr.lookup 73 (.map (some mb)) (.int .i64 b) false).run Tryz.prog (wA.drewN m) = .ok (.slice (some adb) N cb) (wA.drewN m):=fun m=>HLB.out _ (pw_below_drewN HWA.out m));have HPN:Sd (∀ v,(fr a n && (fr b n && !ho n))=v → v=false → ∀ m,m < n + 1 → (fr a m && (fr b m && !ho m))=false):=⟨fun v h1 h2 m hm=>by
    rcases Nat.lt_or_ge m n with h|h
    ·exact HNO.out m h
    ·obtain rfl:m=n:=by omega
     rw [h1,h2]⟩
   cases hfa:fr a n with
   | false =>
    rw [hfa] at hya;have HFA:=Sd.mk hfa;clear hfa hyb hqb;go_quiet (fail);go_wp2_with fail;go_roundw
    case measure=>simp [intV];omega
    case rel=>exact ⟨n + 1,by simp,by omega,⟨HPN.out _ (by rw [HFA.out];rfl) rfl⟩,⟨pw_below_drewN HB5A.out _⟩⟩
   | true =>
    rw [hfa] at hya;have HFA:=Sd.mk hfa;clear hfa;cases hfb:fr b n with
    | false =>
     rw [hfb] at hyb;have HFB:=Sd.mk hfb;clear hfb;go_quiet (fail);go_wp2_with fail;go_roundw
     case measure=>simp [intV];omega
     case rel=>exact ⟨n + 1,by simp,by omega,⟨HPN.out _ (by rw [HFA.out,HFB.out];rfl) rfl⟩,⟨pw_below_drewN HB5A.out _⟩⟩
    | true =>
     rw [hfb] at hyb;have HFB:=Sd.mk hfb;clear hfb hqa hqb;have HD:Sd (Below wA.heap.size wA wA.drew):=⟨below_drew (Below.refl _ _)⟩;have HALL:Sd (∀ w',Below wA.heap.size wA w' → (w'.cell? ⟨g6,1,none⟩=some (.map (some mb)))∧((Instr.lookup 73 (.map (some mb)) (.int .i64 a) false).run Tryz.prog w' = .ok (.slice (some ada) N ca) w')∧((Instr.lookup 73 (.map (some mb)) (.int .i64 b) false).run Tryz.prog w' = .ok (.slice (some adb) N cb) w')∧(w'.cell? (ada.add n)=some (.bool true))∧(w'.cell? (adb.add n)=some (.bool true))∧(w'.cell? ⟨g7,0,none⟩=some (.slice A0 n0 c0))∧(w'.cell? ⟨g7,1,none⟩=some (.slice A1 n1 c1))∧(w'.cell? ⟨g7,2,none⟩=some (.slice A2 n2 c2))∧(w'.cell? ⟨g7,3,none⟩=some (.slice A3 n3 c3))∧(w'.cell? ⟨g7,4,none⟩=some (.slice A4 n4 c4))∧(w'.cell? ⟨g9,0,none⟩=some (.slice D0 s0 d0))∧(w'.cell? ⟨g9,1,none⟩=some (.slice D1 s1 d1))):=⟨fun w' hw=>⟨(blk_cell (blk_below B6A.out hw) 1).trans rfl,HLA.out _ (below_step HWA.out hw),HLB.out _ (below_step HWA.out hw),(hw.cell (World.block_lt_of_cell? _ _ hya)).trans hya,(hw.cell (World.block_lt_of_cell? _ _ hyb)).trans hyb,(blk_cell (blk_below B7A.out hw) 0).trans rfl,(blk_cell (blk_below B7A.out hw) 1).trans rfl,(blk_cell (blk_below B7A.out hw) 2).trans rfl,(blk_cell (blk_below B7A.out hw) 3).trans rfl,(blk_cell (blk_below B7A.out hw) 4).trans rfl,(blk_cell (blk_below BKs.out hw) 0).trans rfl,(blk_cell (blk_below BKs.out hw) 1).trans rfl⟩⟩;obtain ⟨fc0,fc1,fc2,fc3,fc4,fc5,fc6,fc7,fc8,fc9,fc10,fc11⟩:=HALL.out _ HD.out;have HAPc:Sd (Calls Tryz.prog 49 #[.agg #[.slice A0 n0 c0,.slice A1 n1 c1,.slice A2 n2 c2,.slice A3 n3 c3,.slice A4 n4 c4],.slice Ad nd cd,.agg #[.slice D0 s0 d0,.slice D1 s1 d1],.int .i64 a,.int .i64 b] wA.drew fun e w''=>∃ v0 v1:Value,e = .returned (.agg #[v0,v1])∧Kd.R Kd.bool 4 w'' wA.drew.heap.size (fun _=>True) v0 (ap n).1∧Kd.R (Kd.int .i64) 3 w'' wA.drew.heap.size (fun _=>True) v1 (ap n).2∧Below wA.drew.heap.size wA.drew w''):=⟨by
      obtain ⟨_,l0,C0⟩:=Kd.R_reads' (Kd.R_below HR0A.out HD.out)
      obtain ⟨_,l1,C1⟩:=Kd.R_reads' (Kd.R_below HR1A.out HD.out)
      have:=HAP.out n hlt HFA.out HFB.out wA.drew D0 d0 D1 d1 (below_step HWA.out HD.out) C0 (by rw [HS0.out];exact l0) C1 (by rw [HS1.out];exact l1)
      rw [HS0.out,HS1.out] at this
      exact this⟩
     have HWDc:Sd (∀ W E0 f0 E1 f1,Kd.R Kd.bool 4 W wA.drew.heap.size (fun _=>True) (.slice E0 (ap n).1.length f0) (ap n).1 → Kd.R (Kd.int .i64) 3 W wA.drew.heap.size (fun _=>True) (.slice E1 (ap n).2.length f1) (ap n).2 → Calls Tryz.prog 76 #[.agg #[.slice E0 (ap n).1.length f0,.slice E1 (ap n).2.length f1]] W fun e w''=>∃ v0 v1:Value,e = .returned (.agg #[v0,v1])∧Kd.R (Kd.slice 9 Kd.string) 22 w'' W.heap.size (fun _=>True) v0 (wd n).1∧Kd.R (Kd.slice 158 k158) 121 w'' W.heap.size (fun _=>True) v1 (wd n).2∧Below W.heap.size W w''):=⟨fun W E0 f0 E1 f1 h0 h1=>by
      obtain ⟨_,l0,C0⟩:=Kd.R_reads' h0
      obtain ⟨_,l1,C1⟩:=Kd.R_reads' h1
      exact HWD.out n hlt HFA.out HFB.out W E0 f0 E1 f1 C0 l0 C1 l1⟩
     have HHOc:Sd (∀ W B E0 f0 E1 f1,Below wA.heap.size wA W → Kd.R (Kd.slice 9 Kd.string) 22 W B (fun _=>True) (.slice E0 (wd n).1.length f0) (wd n).1 → Kd.R (Kd.slice 158 k158) 121 W B (fun _=>True) (.slice E1 (wd n).2.length f1) (wd n).2 → Calls Tryz.prog 79 #[.agg #[.slice A0 n0 c0,.slice A1 n1 c1,.slice A2 n2 c2,.slice A3 n3 c3,.slice A4 n4 c4],.agg #[.slice E0 (wd n).1.length f0,.slice E1 (wd n).2.length f1],.int .i64 cl] W fun e w''=>e = .returned (.bool (ho n))∧Below W.heap.size W w''):=⟨fun W B E0 f0 E1 f1 hW h0 h1=>by
      obtain ⟨_,l0,C0⟩:=Kd.R_reads' h0
      obtain ⟨_,l1,C1⟩:=Kd.R_reads' h1
      exact HHO.out n hlt HFA.out HFB.out W E0 f0 E1 f1 (below_step HWA.out hW) C0 l0 C1 l1⟩
     clear hya hyb hk6;refine start_ (n:=29) (S:=fun w'=>w'.cell? ⟨g6,1,none⟩=some (.map (some mb))∧(Instr.lookup 73 (.map (some mb)) (.int .i64 a) false).run Tryz.prog w' = .ok (.slice (some ada) N ca) w'∧(Instr.lookup 73 (.map (some mb)) (.int .i64 b) false).run Tryz.prog w' = .ok (.slice (some adb) N cb) w'∧w'.cell? (ada.add n)=some (.bool true)∧w'.cell? (adb.add n)=some (.bool true)∧w'.cell? ⟨g7,0,none⟩=some (.slice A0 n0 c0)∧w'.cell? ⟨g7,1,none⟩=some (.slice A1 n1 c1)∧w'.cell? ⟨g7,2,none⟩=some (.slice A2 n2 c2)∧w'.cell? ⟨g7,3,none⟩=some (.slice A3 n3 c3)∧w'.cell? ⟨g7,4,none⟩=some (.slice A4 n4 c4)∧w'.cell? ⟨g9,0,none⟩=some (.slice D0 s0 d0)∧w'.cell? ⟨g9,1,none⟩=some (.slice D1 s1 d1)) (ds:=[26]) (ab 29 0) (by kernel_rfl) rfl rfl ⟨fc0,fc1,fc2,fc3,fc4,fc5,fc6,fc7,fc8,fc9,fc10,fc11⟩ (fun hH=>?_);refine pure_ (i:=0) (N:=some 24) (v:=?_) (a':=?_) (ab 29 1) rfl rfl (by kernel_rfl) (fun _ _ _ h=>h) (Or.inl ⟨by rfl,?_⟩) ?_ ?_;rotate_left
     ·intro w';go_simp;with_reducible rfl
     rotate_left
     ·simp only [Act.put,q1_,q2_,q3_,i64_w,i32_w];rfl
     refine pure_ (i:=2) (N:=some 26) (v:=?_) (a':=?_) (ab 29 5) rfl rfl (by kernel_rfl) (fun _ _ _ h=>h) (Or.inl ⟨by rfl,?_⟩) ?_ ?_;rotate_left
     ·intro w';go_simp;with_reducible rfl
     rotate_left
     ·simp only [Act.put,q1_,q2_,q3_,i64_w,i32_w];rfl
     refine pure_ (i:=4) (N:=some 28) (v:=?_) (a':=?_) (ab 29 21) rfl rfl (by kernel_rfl) (fun _ _ _ h=>h) (Or.inl ⟨by rfl,?_⟩) ?_ ?_;rotate_left
     ·intro w';go_simp;with_reducible rfl
     rotate_left
     ·simp only [Act.put,q1_,q2_,q3_,i64_w,i32_w];rfl
     refine take_ (i:=1) (N:=some 25) (v:=?_) (a':=?_) (ab 29 23) rfl rfl (by kernel_rfl) (fun _ _ _ h=>h) (Or.inl ⟨by rfl,?_⟩) hH ?_ ?_;rotate_left
     ·rintro w' ⟨s0,s1,s2,s3,s4,s5,s6,s7,s8,s9,s10,s11⟩;go_simp;with_reducible rfl
     rotate_left
     ·simp only [Act.put,q1_,q2_,q3_,i64_w,i32_w];rfl
     refine take_ (i:=3) (N:=some 27) (v:=?_) (a':=?_) (ab 29 31) rfl rfl (by kernel_rfl) (fun _ _ _ h=>h) (Or.inl ⟨by rfl,?_⟩) hH ?_ ?_;rotate_left
     ·rintro w' ⟨s0,s1,s2,s3,s4,s5,s6,s7,s8,s9,s10,s11⟩;go_simp;with_reducible rfl
     rotate_left
     ·simp only [Act.put,q1_,q2_,q3_,i64_w,i32_w];rfl
     refine pure_ (i:=5) (N:=some 29) (v:=?_) (a':=?_) (ab 29 63) rfl rfl (by kernel_rfl) (fun _ _ _ h=>h) (Or.inl ⟨by rfl,?_⟩) ?_ ?_;rotate_left
     ·intro w';go_simp;with_reducible rfl
     rotate_left
     ·simp only [Act.put,q1_,q2_,q3_,i64_w,i32_w];rfl
     refine take_ (i:=6) (N:=some 30) (v:=?_) (a':=?_) (ab 29 127) rfl rfl (by kernel_rfl) (fun _ _ _ h=>h) (Or.inl ⟨by rfl,?_⟩) hH ?_ ?_;rotate_left
     ·rintro w' ⟨s0,s1,s2,s3,s4,s5,s6,s7,s8,s9,s10,s11⟩;go_simp;with_reducible rfl
     rotate_left
     ·simp only [Act.put,q1_,q2_,q3_,i64_w,i32_w];rfl
     refine pure_ (i:=7) (N:=some 31) (v:=?_) (a':=?_) (ab 29 255) rfl rfl (by kernel_rfl) (fun _ _ _ h=>h) (Or.inl ⟨by rfl,?_⟩) ?_ ?_;rotate_left
     ·intro w';go_simp;with_reducible rfl
     rotate_left
     ·simp only [Act.put,q1_,q2_,q3_,i64_w,i32_w];rfl
     refine pure_ (i:=8) (N:=some 32) (v:=?_) (a':=?_) (ab 29 511) rfl rfl (by kernel_rfl) (fun _ _ _ h=>h) (Or.inl ⟨by rfl,?_⟩) ?_ ?_;rotate_left
     ·intro w';go_simp;with_reducible rfl
     rotate_left
     ·simp only [Act.put,q1_,q2_,q3_,i64_w,i32_w];rfl
     refine pure_ (i:=10) (N:=some 34) (v:=?_) (a':=?_) (ab 29 1535) rfl rfl (by kernel_rfl) (fun _ _ _ h=>h) (Or.inl ⟨by rfl,?_⟩) ?_ ?_;rotate_left
     ·intro w';go_simp;with_reducible rfl
     rotate_left
     ·simp only [Act.put,q1_,q2_,q3_,i64_w,i32_w];rfl
     refine pure_ (i:=12) (N:=some 36) (v:=?_) (a':=?_) (ab 29 5631) rfl rfl (by kernel_rfl) (fun _ _ _ h=>h) (Or.inl ⟨by rfl,?_⟩) ?_ ?_;rotate_left
     ·intro w';go_simp;with_reducible rfl
     rotate_left
     ·simp only [Act.put,q1_,q2_,q3_,i64_w,i32_w];rfl
     refine take_ (i:=9) (N:=some 33) (v:=?_) (a':=?_) (ab 29 6143) rfl rfl (by kernel_rfl) (fun _ _ _ h=>h) (Or.inl ⟨by rfl,?_⟩) hH ?_ ?_;rotate_left
     ·rintro w' ⟨s0,s1,s2,s3,s4,s5,s6,s7,s8,s9,s10,s11⟩;go_simp;with_reducible rfl
     rotate_left
     ·simp only [Act.put,q1_,q2_,q3_,i64_w,i32_w];rfl
     refine take_ (i:=11) (N:=some 35) (v:=?_) (a':=?_) (ab 29 8191) rfl rfl (by kernel_rfl) (fun _ _ _ h=>h) (Or.inl ⟨by rfl,?_⟩) hH ?_ ?_;rotate_left
     ·rintro w' ⟨s0,s1,s2,s3,s4,s5,s6,s7,s8,s9,s10,s11⟩;go_simp;with_reducible rfl
     rotate_left
     ·simp only [Act.put,q1_,q2_,q3_,i64_w,i32_w];rfl
     refine pure_ (i:=13) (N:=some 37) (v:=?_) (a':=?_) (ab 29 16383) rfl rfl (by kernel_rfl) (fun _ _ _ h=>h) (Or.inl ⟨by rfl,?_⟩) ?_ ?_;rotate_left
     ·intro w';go_simp;with_reducible rfl
     rotate_left
     ·simp only [Act.put,q1_,q2_,q3_,i64_w,i32_w];rfl
     refine take_ (i:=14) (N:=some 38) (v:=?_) (a':=?_) (ab 29 32767) rfl rfl (by kernel_rfl) (fun _ _ _ h=>h) (Or.inl ⟨by rfl,?_⟩) hH ?_ ?_;rotate_left
     ·rintro w' ⟨s0,s1,s2,s3,s4,s5,s6,s7,s8,s9,s10,s11⟩;go_simp;with_reducible rfl
     rotate_left
     ·simp only [Act.put,q1_,q2_,q3_,i64_w,i32_w];rfl
     refine pure_ (i:=15) (N:=some 39) (v:=?_) (a':=?_) (ab 29 65535) rfl rfl (by kernel_rfl) (fun _ _ _ h=>h) (Or.inl ⟨by rfl,?_⟩) ?_ ?_;rotate_left
     ·intro w';go_simp;with_reducible rfl
     rotate_left
     ·simp only [Act.put,q1_,q2_,q3_,i64_w,i32_w];rfl
     refine pure_ (i:=16) (N:=some 40) (v:=?_) (a':=?_) (ab 29 131071) rfl rfl (by kernel_rfl) (fun _ _ _ h=>h) (Or.inl ⟨by rfl,?_⟩) ?_ ?_;rotate_left
     ·intro w';go_simp;with_reducible rfl
     rotate_left
     ·simp only [Act.put,q1_,q2_,q3_,i64_w,i32_w];rfl
     refine pure_ (i:=19) (N:=some 43) (v:=?_) (a':=?_) (ab 29 655359) rfl rfl (by kernel_rfl) (fun _ _ _ h=>h) (Or.inl ⟨by rfl,?_⟩) ?_ ?_;rotate_left
     ·intro w';go_simp;with_reducible rfl
     rotate_left
     ·simp only [Act.put,q1_,q2_,q3_,i64_w,i32_w];rfl
     refine pure_ (i:=21) (N:=some 45) (v:=?_) (a':=?_) (ab 29 2752511) rfl rfl (by kernel_rfl) (fun _ _ _ h=>h) (Or.inl ⟨by rfl,?_⟩) ?_ ?_;rotate_left
     ·intro w';go_simp;with_reducible rfl
     rotate_left
     ·simp only [Act.put,q1_,q2_,q3_,i64_w,i32_w];rfl
     refine pure_ (i:=22) (N:=some 46) (v:=?_) (a':=?_) (ab 29 6946815) rfl rfl (by kernel_rfl) (fun _ _ _ h=>h) (Or.inl ⟨by rfl,?_⟩) ?_ ?_;rotate_left
     ·intro w';go_simp;with_reducible rfl
     rotate_left
     ·simp only [Act.put,q1_,q2_,q3_,i64_w,i32_w];rfl
     refine pure_ (i:=25) (N:=some 49) (v:=?_) (a':=?_) (ab 29 40501247) rfl rfl (by kernel_rfl) (fun _ _ _ h=>h) (Or.inl ⟨by rfl,?_⟩) ?_ ?_;rotate_left
     ·intro w';go_simp;with_reducible rfl
     rotate_left
     ·simp only [Act.put,q1_,q2_,q3_,i64_w,i32_w];rfl
     refine take_ (i:=17) (N:=some 41) (v:=?_) (a':=?_) (ab 29 40632319) rfl rfl (by kernel_rfl) (fun _ _ _ h=>h) (Or.inl ⟨by rfl,?_⟩) hH ?_ ?_;rotate_left
     ·rintro w' ⟨s0,s1,s2,s3,s4,s5,s6,s7,s8,s9,s10,s11⟩;go_simp;with_reducible rfl
     rotate_left
     ·simp only [Act.put,q1_,q2_,q3_,i64_w,i32_w];rfl
     refine take_ (i:=18) (N:=some 42) (v:=?_) (a':=?_) (ab 29 40894463) rfl rfl (by kernel_rfl) (fun _ _ _ h=>h) (Or.inl ⟨by rfl,?_⟩) hH ?_ ?_;rotate_left
     ·rintro w' ⟨s0,s1,s2,s3,s4,s5,s6,s7,s8,s9,s10,s11⟩;go_simp;with_reducible rfl
     rotate_left
     ·simp only [Act.put,q1_,q2_,q3_,i64_w,i32_w];rfl
     refine take_ (i:=20) (N:=some 44) (v:=?_) (a':=?_) (ab 29 41943039) rfl rfl (by kernel_rfl) (fun _ _ _ h=>h) (Or.inl ⟨by rfl,?_⟩) hH ?_ ?_;rotate_left
     ·rintro w' ⟨s0,s1,s2,s3,s4,s5,s6,s7,s8,s9,s10,s11⟩;go_simp;with_reducible rfl
     rotate_left
     ·simp only [Act.put,q1_,q2_,q3_,i64_w,i32_w];rfl
     refine one_ (i:=23) (N:=some 47) (ab 29 50331647) rfl rfl (by kernel_rfl) (by decide) (fun K hK=>?_);refine goes_ Tryz.func49 (by kernel_rfl) rfl #[.agg #[.slice A0 n0 c0,.slice A1 n1 c1,.slice A2 n2 c2,.slice A3 n3 c3,.slice A4 n4 c4],.slice Ad nd cd,.agg #[.slice D0 s0 d0,.slice D1 s1 d1],.int .i64 a,.int .i64 b] (by rfl) rfl rfl (by simp only [List.map_toArray,List.map_cons,List.map_nil];rfl) ?_;(with_reducible refine (HAPc.out).mono ?_);rintro e wB ⟨x0,x1,rfl,hu0,hu1,hbB⟩;refine ⟨_,rfl,?_⟩;obtain ⟨E0,f0,rfl,_,_⟩:=Kd.R_reads hu0;obtain ⟨E1,f1,rfl,_,_⟩:=Kd.R_reads hu1;have HU0:=Sd.mk hu0;have HU1:=Sd.mk hu1;have HBB:=Sd.mk (below_step HD.out hbB);have HF1:=Sd.mk (HALL.out _ HBB.out);clear hu0 hu1 hbB;refine hK.out _ _ ⟨(HF1.out).1,(HF1.out).2.1,(HF1.out).2.2.1,(HF1.out).2.2.2.1,(HF1.out).2.2.2.2.1,(HF1.out).2.2.2.2.2.1,(HF1.out).2.2.2.2.2.2.1,(HF1.out).2.2.2.2.2.2.2.1,(HF1.out).2.2.2.2.2.2.2.2.1,(HF1.out).2.2.2.2.2.2.2.2.2.1,(HF1.out).2.2.2.2.2.2.2.2.2.2.1,(HF1.out).2.2.2.2.2.2.2.2.2.2.2⟩ (fun hH=>?_);clear hK K;refine norm_ (a':=?_) ?_ ?_;rotate_left
     ·show Act.put _ (some 47) _=_;simp only [Act.put,q1_,q2_,q3_,i64_w,i32_w];rfl
     refine one_ (i:=24) (N:=some 48) (ab 29 67108863) rfl rfl (by kernel_rfl) (by decide) (fun K hK=>?_);refine goes_ Tryz.func76 (by kernel_rfl) rfl #[.agg #[.slice E0 (ap n).1.length f0,.slice E1 (ap n).2.length f1]] (by rfl) rfl rfl (by simp only [List.map_toArray,List.map_cons,List.map_nil];rfl) ?_;(with_reducible refine ((HWDc.out _ E0 f0 E1 f1 HU0.out HU1.out)).mono ?_);rintro e wC ⟨y0,y1,rfl,hu0,hu1,hbC⟩;refine ⟨_,rfl,?_⟩;obtain ⟨G0,k0,rfl,_,_⟩:=Kd.R_reads hu0;obtain ⟨G1,k1,rfl,_,_⟩:=Kd.R_reads hu1;have HX0:=Sd.mk hu0;have HX1:=Sd.mk hu1;have HBC:=Sd.mk (below_step HBB.out hbC);have HF2:=Sd.mk (HALL.out _ HBC.out);clear hu0 hu1 hbC;refine hK.out _ _ ⟨(HF2.out).1,(HF2.out).2.1,(HF2.out).2.2.1,(HF2.out).2.2.2.1,(HF2.out).2.2.2.2.1,(HF2.out).2.2.2.2.2.1,(HF2.out).2.2.2.2.2.2.1,(HF2.out).2.2.2.2.2.2.2.1,(HF2.out).2.2.2.2.2.2.2.2.1,(HF2.out).2.2.2.2.2.2.2.2.2.1,(HF2.out).2.2.2.2.2.2.2.2.2.2.1,(HF2.out).2.2.2.2.2.2.2.2.2.2.2⟩ (fun hH=>?_);clear hK K;refine norm_ (a':=?_) ?_ ?_;rotate_left
     ·show Act.put _ (some 48) _=_;simp only [Act.put,q1_,q2_,q3_,i64_w,i32_w];rfl
     refine last_ (i:=26) (N:=some 50) (ab 29 134217727) rfl rfl (by kernel_rfl) (by decide) (fun K hK=>?_);refine goes_ Tryz.func79 (by kernel_rfl) rfl #[.agg #[.slice A0 n0 c0,.slice A1 n1 c1,.slice A2 n2 c2,.slice A3 n3 c3,.slice A4 n4 c4],.agg #[.slice G0 (wd n).1.length k0,.slice G1 (wd n).2.length k1],.int .i64 cl] (by rfl) rfl rfl (by simp only [List.map_toArray,List.map_cons,List.map_nil];rfl) ?_;(with_reducible refine ((HHOc.out _ _ G0 k0 G1 k1 HBC.out HX0.out HX1.out)).mono ?_);rintro e wE ⟨rfl,hbE⟩;refine ⟨_,rfl,?_⟩;have HBE:=Sd.mk (below_step HBC.out hbE);clear hbE;refine hK.out _ _ ?_;clear hK K;refine norm_ (a':=?_) ?_ ?_;rotate_left
     ·show Act.put _ (some 50) _=_;simp only [Act.put,q1_,q2_,q3_,i64_w,i32_w];rfl
     refine pure_ (i:=27) (N:=some 51) (v:=?_) (a':=?_) (ab 29 268435455) rfl rfl (by kernel_rfl) (fun _ _ _ h=>h) (Or.inl ⟨by rfl,?_⟩) ?_ ?_;rotate_left
     ·intro w';go_simp;with_reducible rfl
     rotate_left
     ·simp only [Act.put,q1_,q2_,q3_,i64_w,i32_w];rfl
     refine pure_ (i:=28) (N:=some 52) (v:=?_) (a':=?_) (ab 29 536870911) rfl rfl (by kernel_rfl) (fun _ _ _ h=>h) (Or.inl ⟨by rfl,?_⟩) ?_ ?_;rotate_left
     ·intro w';go_simp;with_reducible rfl
     rotate_left
     ·simp only [Act.put,q1_,q2_,q3_,i64_w,i32_w];rfl
     refine done_ (by kernel_rfl) ?_;clear hH fc0 fc1 fc2 fc3 fc4 fc5 fc6 fc7 fc8 fc9 fc10 fc11 HF1 HF2 HU0 HU1 HX0 HX1 HBB HBC HAPc HWDc HHOc;cases hho:ho n with
     | true =>
      have HH:=Sd.mk hho;clear hho;go_wp2_with fail;go_roundw
      case measure=>simp [intV];omega
      case rel=>exact ⟨n + 1,by simp,by omega,⟨HPN.out _ (by rw [HFA.out,HFB.out,HH.out];rfl) rfl⟩,⟨below_step HB5A.out HBE.out⟩⟩
     | false =>
      have HH:=Sd.mk hho;clear hho;have hff:FF=some n:=HFY.out n hlt HNO.out (by rw [HFA.out,HFB.out,HH.out];rfl);subst hff;have BKe:=Sd.mk (blk_below BKs.out HBE.out);have B12e:=Sd.mk (blk_below B12A.out HBE.out);obtain ⟨hb0,hb1⟩:=bc2 BKe.out;have hc0:=(blk_cell B12e.out 0);have hc1:=(blk_cell B12e.out 1);obtain ⟨hf0,hf1⟩:=bf2 B12e.out;have hne:g9 ≠ g12:=HNE9;(have hne2:g12 ≠ g9:=fun e=>hne e.symm);go_wp2_with fail;refine bodyPost_ret (results_ct rfl _ _ g12 34 #[.slice D0 s0 d0,.slice D1 s1 d1] (0,0) _ rfl (by refine blk_put (cs:=#[.slice D0 s0 d0,.slice none 0 0]) ?_ 1 _ rfl;refine blk_put (cs:=#[.slice none 0 0,.slice none 0 0]) ?_ 0 _ rfl;exact B12e.out) Tryz.underlying34 rfl (by kernel_rfl)) rfl ?_;refine ⟨_,_,rfl,?_,?_,below_set (below_set (below_step HWA.out HBE.out) HG12.out) HG12.out⟩
      ·exact Kd.R_set (Kd.R_set (Kd.R_below HR0A.out HBE.out) B12e.out (by decide) 0 _) (blk_put (cs:=#[.slice none 0 0,.slice none 0 0]) B12e.out 0 _ rfl) (by decide) 1 _
      ·exact Kd.R_set (Kd.R_set (Kd.R_below HR1A.out HBE.out) B12e.out (by decide) 0 _) (blk_put (cs:=#[.slice none 0 0,.slice none 0 0]) B12e.out 0 _ rfl) (by decide) 1 _
  ·(have hlt':decide ((n:Int) < (N:Int))=false:=by simp;omega);(obtain rfl:n=N:=by omega);have hff:FF=none:=HFN.out HNO.out;subst hff;have B12e:=Sd.mk (blk_below BK12.out HB5r.out);have hc0:=(blk_cell B12e.out 0);have hc1:=(blk_cell B12e.out 1);obtain ⟨hf0,hf1⟩:=bf2 B12e.out;(have hbl:∀ w:World,(Instr.build 34 #[]).run Tryz.prog w = .ok (.agg #[.slice none 0 0,.slice none 0 0]) w:=fun _=>by kernel_rfl);go_wp2_with fail;refine bodyPost_ret (results_ct rfl _ _ g12 34 #[.slice none 0 0,.slice none 0 0] (0,0) _ rfl (by refine blk_put (cs:=#[.slice none 0 0,.slice none 0 0]) ?_ 1 _ rfl;refine blk_put (cs:=#[.slice none 0 0,.slice none 0 0]) ?_ 0 _ rfl;exact B12e.out) Tryz.underlying34 rfl (by kernel_rfl)) rfl ?_;exact ⟨_,_,rfl,Kd.R_nil _ _ _ _ _,Kd.R_nil _ _ _ _ _,below_set (below_set HBr.out HG12.out) HG12.out⟩
theorem C_ints2 {w:World} {g t:Nat} {a b:Int} (hb:w.heap[g]? = some (.cells #[.int .i64 a,.int .i64 b] t (0,0))):Kd.C (Kd.int .i64) w (some ⟨g,0,none⟩) 2 [a,b]:=by
 refine ⟨rfl,by decide,fun _=>⟨⟨g,0,none⟩,rfl,fun j p hj=>?_⟩⟩;match j,hj with
 | 0,hj =>
  cases hj;refine ⟨[.int .i64 a],rfl,rfl,fun i u hu=>?_⟩;match i,hu with
  | 0,hu=>cases hu;exact (blk_cell hb 0).trans rfl
 | 1,hj =>
  cases hj;refine ⟨[.int .i64 b],rfl,rfl,fun i u hu=>?_⟩;match i,hu with
  | 0,hu=>cases hu;exact (blk_cell hb 1).trans rfl
theorem at_no (A0:Option Addr) (n0 c0:Nat) (A1:Option Addr) (n1 c1:Nat) (A2:Option Addr) (n2 c2:Nat) (A3:Option Addr) (n3 c3:Nat) (A4:Option Addr) (n4 c4:Nat) (Ad:Option Addr) (nd cd:Nat) (a b cl:Int) (w:World)
  (mv:Bool) (hmay:∀ w',Below w.heap.size w w' → Calls Tryz.prog 40 #[.agg #[.slice A0 n0 c0,.slice A1 n1 c1,.slice A2 n2 c2,.slice A3 n3 c3,.slice A4 n4 c4],.slice Ad nd cd,.int .i64 a,.int .i64 b] w' fun e w''=>e = .returned (.bool mv)∧Below w'.heap.size w' w'') (hno:¬ (mv=true∧0 ≤ cl∧cl < (n3:Int))) :
  Calls Tryz.prog 11 #[.agg #[.slice A0 n0 c0,.slice A1 n1 c1,.slice A2 n2 c2,.slice A3 n3 c3,.slice A4 n4 c4],.slice Ad nd cd,.int .i64 a,.int .i64 b,.int .i64 cl] w fun e w'=>∃ v0 v1:Value,e = .returned (.tuple #[.agg #[v0,v1],.bool false])∧v0 = .slice none 0 0∧v1 = .slice none 0 0∧Below w.heap.size w w':=by
 have HNO:=Sd.mk hno;clear hno;have HMAY:=Sd.mk hmay;clear hmay;go_enter Tryz.func11,Tryz.ntmps11;go_upto_region 1 with (first|((with_reducible refine gate_dst (N:=5) rfl ?_);refine box_event ?hg (N:=5) ?hd (cs:=#[.slice A0 n0 c0,.slice A1 n1 c1,.slice A2 n2 c2,.slice A3 n3 c3,.slice A4 n4 c4]) (t:=26) ?hr ?_;(case hd=>rfl);(case hg=>rfl);(case hr=>first|(go_simp;done)|(go_simp;rfl));intro g hg w3 hbox hb;have HB3:=Sd.mk hb;have BK:=Sd.mk hbox;clear hb hbox hg)|((with_reducible refine gate_dst (N:=10) rfl ?_);refine box_event ?hg (N:=10) ?hd (cs:=#[.slice none 0 0,.slice none 0 0]) (t:=34) ?hr ?_;(case hd=>rfl);(case hg=>rfl);(case hr=>first|(go_simp;done)|(go_simp;rfl));intro g4 hg w4 hbox hb;have HG4:Sd (w.heap.size ≤ g4):=⟨by rw [hg];exact below_size HB3.out⟩;have HB4:=Sd.mk (below_step HB3.out hb);have BKr:=Sd.mk (blk_below BK.out hb);have BK4:=Sd.mk hbox;clear hb hbox hg));obtain ⟨ha0,ha1,ha2,ha3,ha4⟩:=bc5 BKr.out;go_wp2_with fail;refine (HMAY.out _ HB4.out).mono ?_;rintro e w5 ⟨rfl,hb5⟩;have HB5:=Sd.mk (below_step HB4.out hb5);have BKr5:=Sd.mk (blk_below BKr.out hb5);have BK45:=Sd.mk (blk_below BK4.out hb5);clear hb5 ha0 ha1 ha2 ha3 ha4 HB3 HB4 BK BKr BK4;(have hbl:∀ w:World,(Instr.build 34 #[]).run Tryz.prog w = .ok (.agg #[.slice none 0 0,.slice none 0 0]) w:=fun _=>by kernel_rfl);have ha3:w5.cell? ⟨g,3,none⟩=some (.slice A3 n3 c3):=(blk_cell BKr5.out 3).trans rfl;have hc0:=(blk_cell BK45.out 0);have hc1:=(blk_cell BK45.out 1);obtain ⟨hf0,hf1⟩:=bf2 BK45.out;cases mv with
 | false =>
  go_wp2_with fail;refine bodyPost_ret (results_ct rfl _ _ g4 34 #[.slice none 0 0,.slice none 0 0] (0,0) _ rfl (by refine blk_put (cs:=#[.slice none 0 0,.slice none 0 0]) ?_ 1 _ rfl;refine blk_put (cs:=#[.slice none 0 0,.slice none 0 0]) ?_ 0 _ rfl;exact BK45.out) Tryz.underlying34 rfl (by kernel_rfl)) rfl ?_;exact ⟨_,_,rfl,rfl,rfl,below_set (below_set HB5.out HG4.out) HG4.out⟩
 | true =>
  by_cases h0:cl < 0
  ·have h0':decide (cl < 0)=true:=decide_eq_true h0;go_wp2_with fail;refine bodyPost_ret (results_ct rfl _ _ g4 34 #[.slice none 0 0,.slice none 0 0] (0,0) _ rfl (by refine blk_put (cs:=#[.slice none 0 0,.slice none 0 0]) ?_ 1 _ rfl;refine blk_put (cs:=#[.slice none 0 0,.slice none 0 0]) ?_ 0 _ rfl;exact BK45.out) Tryz.underlying34 rfl (by kernel_rfl)) rfl ?_;exact ⟨_,_,rfl,rfl,rfl,below_set (below_set HB5.out HG4.out) HG4.out⟩
  ·have h0':decide (cl < 0)=false:=decide_eq_false h0;have h1:decide ((n3:Int) ≤ cl)=true:=decide_eq_true (Classical.byContradiction fun hc=>HNO.out ⟨rfl,by omega,by omega⟩);go_wp2_with fail;refine bodyPost_ret (results_ct rfl _ _ g4 34 #[.slice none 0 0,.slice none 0 0] (0,0) _ rfl (by refine blk_put (cs:=#[.slice none 0 0,.slice none 0 0]) ?_ 1 _ rfl;refine blk_put (cs:=#[.slice none 0 0,.slice none 0 0]) ?_ 0 _ rfl;exact BK45.out) Tryz.underlying34 rfl (by kernel_rfl)) rfl ?_;exact ⟨_,_,rfl,rfl,rfl,below_set (below_set HB5.out HG4.out) HG4.out⟩
theorem at_yes (A0:Option Addr) (n0 c0:Nat) (A1:Option Addr) (n1 c1:Nat) (A2:Option Addr) (n2 c2:Nat) (A3:Option Addr) (n3 c3:Nat) (A4:Option Addr) (n4 c4:Nat) (Ad:Option Addr) (nd cd:Nat) (a b cl:Int) (w:World)
  (hmay:∀ w',Below w.heap.size w w' → Calls Tryz.prog 40 #[.agg #[.slice A0 n0 c0,.slice A1 n1 c1,.slice A2 n2 c2,.slice A3 n3 c3,.slice A4 n4 c4],.slice Ad nd cd,.int .i64 a,.int .i64 b] w' fun e w''=>e = .returned (.bool true)∧Below w'.heap.size w' w'') (h0:0 ≤ cl) (h1:cl < (n3:Int)) (val:Int → List Bool) (sts:List Sm) (fd:Bool) (x:Sm)
  (htab:∀ w' Ao,Below w.heap.size w w' → Kd.C (Kd.int .i64) w' Ao 2 [a,b] → Calls Tryz.prog 41 #[.agg #[.slice A0 n0 c0,.slice A1 n1 c1,.slice A2 n2 c2,.slice A3 n3 c3,.slice A4 n4 c4],.slice Ao 2 2] w' fun e w''=>∃ vs mb fs,e = .returned (.agg #[vs,.map (some mb)])∧TabW w'.heap.size w'' mb fs val vs sts∧Below w'.heap.size w' w'')
  (hatt:∀ w' w0s mb fs vs,Below w.heap.size w w' → TabW w0s w' mb fs val vs sts → w0s ≤ w'.heap.size → Calls Tryz.prog 42 #[.agg #[vs,.map (some mb)],.agg #[.slice A0 n0 c0,.slice A1 n1 c1,.slice A2 n2 c2,.slice A3 n3 c3,.slice A4 n4 c4],.slice Ad nd cd,.int .i64 a,.int .i64 b,.int .i64 cl] w' fun e w''=>∃ v0 v1:Value,e = .returned (.tuple #[.agg #[v0,v1],.bool fd])∧Kd.R Kd.bool 4 w'' w0s (fun _=>True) v0 x.f0∧Kd.R (Kd.int .i64) 3 w'' w0s (fun _=>True) v1 x.f1∧Below w'.heap.size w' w'') :
  Calls Tryz.prog 11 #[.agg #[.slice A0 n0 c0,.slice A1 n1 c1,.slice A2 n2 c2,.slice A3 n3 c3,.slice A4 n4 c4],.slice Ad nd cd,.int .i64 a,.int .i64 b,.int .i64 cl] w fun e w'=>∃ v0 v1:Value,e = .returned (.tuple #[.agg #[v0,v1],.bool fd])∧Kd.R Kd.bool 4 w' w.heap.size (fun _=>True) v0 x.f0∧Kd.R (Kd.int .i64) 3 w' w.heap.size (fun _=>True) v1 x.f1∧Below w.heap.size w w':=by
 have HTAB:=Sd.mk htab;have HATT:=Sd.mk hatt;clear htab hatt;have HMAY:=Sd.mk hmay;clear hmay;go_enter Tryz.func11,Tryz.ntmps11;go_upto_region 1 with (first|((with_reducible refine gate_dst (N:=5) rfl ?_);refine box_event ?hg (N:=5) ?hd (cs:=#[.slice A0 n0 c0,.slice A1 n1 c1,.slice A2 n2 c2,.slice A3 n3 c3,.slice A4 n4 c4]) (t:=26) ?hr ?_;(case hd=>rfl);(case hg=>rfl);(case hr=>first|(go_simp;done)|(go_simp;rfl));intro g hg w3 hbox hb;have HB3:=Sd.mk hb;have BK:=Sd.mk hbox;clear hb hbox hg)|((with_reducible refine gate_dst (N:=10) rfl ?_);refine box_event ?hg (N:=10) ?hd (cs:=#[.slice none 0 0,.slice none 0 0]) (t:=34) ?hr ?_;(case hd=>rfl);(case hg=>rfl);(case hr=>first|(go_simp;done)|(go_simp;rfl));intro g4 hg w4 hbox hb;have HG4:Sd (w.heap.size ≤ g4):=⟨by rw [hg];exact below_size HB3.out⟩;have HB4:=Sd.mk (below_step HB3.out hb);have BKr:=Sd.mk (blk_below BK.out hb);have BK4:=Sd.mk hbox;clear hb hbox hg));obtain ⟨ha0,ha1,ha2,ha3,ha4⟩:=bc5 BKr.out;go_wp2_with fail;refine (HMAY.out _ HB4.out).mono ?_;rintro e w5 ⟨rfl,hb5⟩;have HB5:=Sd.mk (below_step HB4.out hb5);have BKr5:=Sd.mk (blk_below BKr.out hb5);have BK45:=Sd.mk (blk_below BK4.out hb5);clear hb5 ha0 ha1 ha2 ha3 ha4 HB3 HB4 BK BKr BK4;have h0':decide (cl < 0)=false:=decide_eq_false (by omega);have h1':decide ((n3:Int) ≤ cl)=false:=decide_eq_false (by omega);have ha3:w5.cell? ⟨g,3,none⟩=some (.slice A3 n3 c3):=(blk_cell BKr5.out 3).trans rfl;go_wp2_with fail;clear ha3;have HD:Sd (Below w5.heap.size w5 w5.drew):=⟨below_drew (Below.refl _ _)⟩;have HDA:Sd (Below w5.heap.size w5 (w5.alloc (.cells #[.int .i64 a,.int .i64 b] 3 (0,0))).drew):=⟨below_drew (below_alloc (Below.refl _ _) _)⟩;have HNEW:Sd ((w5.alloc (.cells #[.int .i64 a,.int .i64 b] 3 (0,0))).drew.heap[w5.drew.heap.size]? = some (.cells #[.int .i64 a,.int .i64 b] 3 (0,0))):=⟨by
  show (w5.alloc _).heap[w5.heap.size]? = _
  exact heap_alloc_new w5 _⟩
 have HALL:Sd (∀ w',Below w5.heap.size w5 w' → (w'.cell? ⟨g,0,none⟩=some (.slice A0 n0 c0))∧(w'.cell? ⟨g,1,none⟩=some (.slice A1 n1 c1))∧(w'.cell? ⟨g,2,none⟩=some (.slice A2 n2 c2))∧(w'.cell? ⟨g,3,none⟩=some (.slice A3 n3 c3))∧(w'.cell? ⟨g,4,none⟩=some (.slice A4 n4 c4))):=⟨fun w' hw=>⟨(blk_cell (blk_below BKr5.out hw) 0).trans rfl,(blk_cell (blk_below BKr5.out hw) 1).trans rfl,(blk_cell (blk_below BKr5.out hw) 2).trans rfl,(blk_cell (blk_below BKr5.out hw) 3).trans rfl,(blk_cell (blk_below BKr5.out hw) 4).trans rfl⟩⟩;obtain ⟨fc0,fc1,fc2,fc3,fc4⟩:=HALL.out _ HD.out;refine start_ (n:=15) (S:=fun w'=>w'.cell? ⟨g,0,none⟩=some (.slice A0 n0 c0)∧w'.cell? ⟨g,1,none⟩=some (.slice A1 n1 c1)∧w'.cell? ⟨g,2,none⟩=some (.slice A2 n2 c2)∧w'.cell? ⟨g,3,none⟩=some (.slice A3 n3 c3)∧w'.cell? ⟨g,4,none⟩=some (.slice A4 n4 c4)) (ds:=[10,13]) (ab 15 0) (by kernel_rfl) rfl rfl ⟨fc0,fc1,fc2,fc3,fc4⟩ (fun hH=>?_);refine pure_ (i:=1) (N:=some 31) (v:=?_) (a':=?_) (ab 15 2) rfl rfl (by kernel_rfl) (fun _ _ _ h=>h) (Or.inl ⟨by rfl,?_⟩) ?_ ?_;rotate_left
 ·intro w';go_simp;with_reducible rfl
 rotate_left
 ·simp only [Act.put,q1_,q2_,q3_,i64_w,i32_w];rfl
 refine pure_ (i:=2) (N:=some 32) (v:=?_) (a':=?_) (ab 15 6) rfl rfl (by kernel_rfl) (fun _ _ _ h=>h) (Or.inl ⟨by rfl,?_⟩) ?_ ?_;rotate_left
 ·intro w';go_simp;with_reducible rfl
 rotate_left
 ·simp only [Act.put,q1_,q2_,q3_,i64_w,i32_w];rfl
 refine pure_ (i:=6) (N:=some 36) (v:=?_) (a':=?_) (ab 15 70) rfl rfl (by kernel_rfl) (fun _ _ _ h=>h) (Or.inl ⟨by rfl,?_⟩) ?_ ?_;rotate_left
 ·intro w';go_simp;with_reducible rfl
 rotate_left
 ·simp only [Act.put,q1_,q2_,q3_,i64_w,i32_w];rfl
 refine pure_ (i:=7) (N:=some 37) (v:=?_) (a':=?_) (ab 15 198) rfl rfl (by kernel_rfl) (fun _ _ _ h=>h) (Or.inl ⟨by rfl,?_⟩) ?_ ?_;rotate_left
 ·intro w';go_simp;with_reducible rfl
 rotate_left
 ·simp only [Act.put,q1_,q2_,q3_,i64_w,i32_w];rfl
 refine pure_ (i:=8) (N:=some 38) (v:=?_) (a':=?_) (ab 15 454) rfl rfl (by kernel_rfl) (fun _ _ _ h=>h) (Or.inl ⟨by rfl,?_⟩) ?_ ?_;rotate_left
 ·intro w';go_simp;with_reducible rfl
 rotate_left
 ·simp only [Act.put,q1_,q2_,q3_,i64_w,i32_w];rfl
 refine pure_ (i:=9) (N:=some 39) (v:=?_) (a':=?_) (ab 15 966) rfl rfl (by kernel_rfl) (fun _ _ _ h=>h) (Or.inl ⟨by rfl,?_⟩) ?_ ?_;rotate_left
 ·intro w';go_simp;with_reducible rfl
 rotate_left
 ·simp only [Act.put,q1_,q2_,q3_,i64_w,i32_w];rfl
 refine take_ (i:=0) (N:=some 30) (v:=?_) (a':=?_) (ab 15 967) rfl rfl (by kernel_rfl) (fun _ _ _ h=>h) (Or.inl ⟨by rfl,?_⟩) hH ?_ ?_;rotate_left
 ·rintro w' ⟨s0,s1,s2,s3,s4⟩;go_simp;with_reducible rfl
 rotate_left
 ·simp only [Act.put,q1_,q2_,q3_,i64_w,i32_w];rfl
 refine take_ (i:=5) (N:=some 35) (v:=?_) (a':=?_) (ab 15 999) rfl rfl (by kernel_rfl) (fun _ _ _ h=>h) (Or.inl ⟨by rfl,?_⟩) hH ?_ ?_;rotate_left
 ·rintro w' ⟨s0,s1,s2,s3,s4⟩;go_simp;with_reducible rfl
 rotate_left
 ·simp only [Act.put,q1_,q2_,q3_,i64_w,i32_w];rfl
 refine one_ (i:=3) (N:=some 33) (ab 15 1007) rfl rfl (by kernel_rfl) (by decide) (fun K hK=>?_);refine value_ (w1:=?_) (v:=?_) (by rfl) rfl ?_ ?_;rotate_left 2
 ·go_simp;constructor
  ·rfl
  ·rfl
 have HA:=Sd.mk (HALL.out _ HDA.out);refine hK.out _ _ ⟨(HA.out).1,(HA.out).2.1,(HA.out).2.2.1,(HA.out).2.2.2.1,(HA.out).2.2.2.2⟩ (fun hH=>?_);clear hK K;refine norm_ (a':=?_) ?_ ?_;rotate_left
 ·show Act.put _ (some 33) _=_;simp only [Act.put,q1_,q2_,q3_,i64_w,i32_w];rfl
 refine one_ (i:=4) (N:=some 34) (ab 15 1023) rfl rfl (by kernel_rfl) (by decide) (fun K hK=>?_);refine goes_ Tryz.func41 (by kernel_rfl) rfl #[.agg #[.slice A0 n0 c0,.slice A1 n1 c1,.slice A2 n2 c2,.slice A3 n3 c3,.slice A4 n4 c4],.slice (some ⟨w5.drew.heap.size,0,none⟩) 2 2] (by rfl) rfl rfl (by simp only [List.map_toArray,List.map_cons,List.map_nil];rfl) ?_;(with_reducible refine ((HTAB.out _ (some ⟨w5.drew.heap.size,0,none⟩) (below_step HB5.out HDA.out) (C_ints2 (t:=3) HNEW.out))).mono ?_);rintro e wB ⟨vs,mb,fs,rfl,hT,hbB⟩;refine ⟨_,rfl,?_⟩;have HT:=Sd.mk hT;have HBB:=Sd.mk (below_step HDA.out hbB);have HWW:=Sd.mk hbB.size;have HA2:=Sd.mk (HALL.out _ HBB.out);clear hT hbB;refine hK.out _ _ ⟨(HA2.out).1,(HA2.out).2.1,(HA2.out).2.2.1,(HA2.out).2.2.2.1,(HA2.out).2.2.2.2⟩ (fun hH=>?_);clear hK K;refine norm_ (a':=?_) ?_ ?_;rotate_left
 ·show Act.put _ (some 34) _=_;simp only [Act.put,q1_,q2_,q3_,i64_w,i32_w];rfl
 refine last_ (i:=10) (N:=some 40) (ab 15 2047) rfl rfl (by kernel_rfl) (by decide) (fun K hK=>?_);refine goes_ Tryz.func42 (by kernel_rfl) rfl #[.agg #[vs,.map (some mb)],.agg #[.slice A0 n0 c0,.slice A1 n1 c1,.slice A2 n2 c2,.slice A3 n3 c3,.slice A4 n4 c4],.slice Ad nd cd,.int .i64 a,.int .i64 b,.int .i64 cl] (by rfl) rfl rfl (by simp only [List.map_toArray,List.map_cons,List.map_nil];rfl) ?_;(with_reducible refine ((HATT.out _ _ mb fs vs (below_step HB5.out HBB.out) HT.out HWW.out)).mono ?_);rintro e wC ⟨y0,y1,rfl,hy0,hy1,hbC⟩;refine ⟨_,rfl,?_⟩;obtain ⟨E0,f0,rfl,_,_⟩:=Kd.R_reads hy0;obtain ⟨E1,f1,rfl,_,_⟩:=Kd.R_reads hy1;have HY0:=Sd.mk hy0;have HY1:=Sd.mk hy1;have HBC:=Sd.mk (below_step HBB.out hbC);have BKc:=Sd.mk (blk_below BK45.out HBC.out);have hc0:=(blk_cell BKc.out 0);have hc1:=(blk_cell BKc.out 1);obtain ⟨hf0,hf1⟩:=bf2 BKc.out;clear hy0 hy1 hbC;refine hK.out _ _ ?_;clear hK K;refine norm_ (a':=?_) ?_ ?_;rotate_left
 ·show Act.put _ (some 40) _=_;simp only [Act.put,q1_,q2_,q3_,i64_w,i32_w];rfl
 refine pure_ (i:=11) (N:=some 41) (v:=?_) (a':=?_) (ab 15 4095) rfl rfl (by kernel_rfl) (fun _ _ _ h=>h) (Or.inl ⟨by rfl,?_⟩) ?_ ?_;rotate_left
 ·intro w';go_simp;with_reducible rfl
 rotate_left
 ·simp only [Act.put,q1_,q2_,q3_,i64_w,i32_w];rfl
 refine pure_ (i:=12) (N:=some 42) (v:=?_) (a':=?_) (ab 15 8191) rfl rfl (by kernel_rfl) (fun _ _ _ h=>h) (Or.inl ⟨by rfl,?_⟩) ?_ ?_;rotate_left
 ·intro w';go_simp;with_reducible rfl
 rotate_left
 ·simp only [Act.put,q1_,q2_,q3_,i64_w,i32_w];rfl
 refine last_ (i:=13) (N:=none) (ab 15 16383) rfl rfl (by kernel_rfl) (by decide) (fun K hK=>?_);refine skip_ (w1:=?_) (by rfl) rfl ?_ ?_;rotate_left
 ·go_simp;rfl
 refine hK.out _ _ ?_;clear hK K;refine pure_ (i:=14) (N:=some 11) (v:=?_) (a':=?_) (ab 15 32767) rfl rfl (by kernel_rfl) (fun _ _ _ h=>h) (Or.inl ⟨by rfl,?_⟩) ?_ ?_;rotate_left
 ·intro w';go_simp;with_reducible rfl
 rotate_left
 ·simp only [Act.put,q1_,q2_,q3_,i64_w,i32_w];rfl
 refine done_ (by kernel_rfl) ?_;go_wp2_with fail;refine bodyPost_ret (results_ct rfl _ _ g4 34 #[.slice E0 x.f0.length f0,.slice E1 x.f1.length f1] (0,0) _ rfl (by refine blk_put (cs:=#[.slice E0 x.f0.length f0,.slice none 0 0]) ?_ 1 _ rfl;refine blk_put (cs:=#[.slice none 0 0,.slice none 0 0]) ?_ 0 _ rfl;exact BKc.out) Tryz.underlying34 rfl (by kernel_rfl)) rfl ?_;have hle:w.heap.size ≤ (w5.alloc (.cells #[.int .i64 a,.int .i64 b] 3 (0,0))).drew.heap.size:=below_size (below_step HB5.out HDA.out);refine ⟨_,_,rfl,?_,?_,below_set (below_set (below_step HB5.out HBC.out) HG4.out) HG4.out⟩
 ·exact Kd.R_set (Kd.R_set (Kd.R_lower HY0.out hle) BKc.out (by decide) 0 _) (blk_put (cs:=#[.slice none 0 0,.slice none 0 0]) BKc.out 0 _ rfl) (by decide) 1 _
 ·exact Kd.R_set (Kd.R_set (Kd.R_lower HY1.out hle) BKc.out (by decide) 0 _) (blk_put (cs:=#[.slice none 0 0,.slice none 0 0]) BKc.out 0 _ rfl) (by decide) 1 _
end Go.Proofs.YtjbjbeihkoeciaaGreat.X
namespace Go.Proofs.YtjbjbeihkoeciaaGreat.X
open Go.RowKit Go.Proofs.YtjbjbeihkoeciaaGreatW.PrintWords Go.Proofs.YtjbjbeihkoeciaaGreatW.PrintLast Go.Proofs.YtjbjbeihkoeciaaGreatW.PrintMore
theorem wB_ok {n lo hi:Int} (h:wB n lo hi=true):lo ≤ n∧n ≤ hi:=by
 unfold wB at h;rw [Bool.and_eq_true] at h;exact ⟨of_decide_eq_true h.1,of_decide_eq_true h.2⟩
theorem checkB_parts {l0 l1 l2:List ByteArray} {l3:List Cl} {l4:List Op_} (h:checkB l0 l1 l2 l3 l4=true) :
  (l0.length ≤ 6∧l1.length ≤ 4∧l2.length ≤ 3∧l3.length ≤ 12∧l4.length ≤ 16)∧(∀ c ∈ l3,clB l0.length l1.length c=true)∧(∀ o ∈ l4,operOk l0.length l1.length l2.length o.f1=true):=by
 unfold checkB at h;(split at h;· cases h);(split at h;· cases h);(split at h;· cases h);(split at h;· cases h);(split at h;· cases h);simp only [Bool.and_eq_true,Bool.not_eq_true',List.any_eq_false,Bool.not_eq_false'] at h;refine ⟨by omega,fun c hc=>by simpa using h.2.2.1 c hc,fun o ho=>by simpa using h.2.2.2 o ho⟩
theorem operU_mem {ns nc nn:Nat}:∀ (l:List Dg) (seen:List (Int × Int)),operU ns nc nn seen l=true → ∀ d ∈ l,doB ns nc nn d=true
 | [],_,_,d,hd=>by simp at hd
 | x :: r,seen,h,d,hd=>by
  rw [operU,Bool.and_eq_true,Bool.and_eq_true] at h;rcases List.mem_cons.1 hd with rfl|hd
  ·exact h.1
  ·exact operU_mem r _ h.2.2 d hd
theorem doB_le {ns nc nn:Nat} {d:Dg} (h:doB ns nc nn d=true) : -1000 ≤ d.f2∧d.f2 ≤ 1000:=by
 unfold doB at h;split at h
 ·simp only [Bool.and_eq_true,beq_iff_eq] at h;omega
 split at h
 ·rw [Bool.and_eq_true] at h;have:=wB_ok h.2;omega
 split at h
 ·simp only [Bool.and_eq_true,beq_iff_eq] at h;omega
 ·cases h
theorem clB_le {ns nc:Nat} {c:Cl} (h:clB ns nc c=true) : -1000 ≤ c.f4∧c.f4 ≤ 1000:=by
 unfold clB at h;split at h
 ·simp only [Bool.and_eq_true,beq_iff_eq] at h;omega
 split at h
 ·simp only [Bool.and_eq_true,beq_iff_eq] at h;omega
 split at h
 ·simp only [Bool.and_eq_true] at h;have:=wB_ok h.2.2.1;omega
 split at h
 ·simp only [Bool.and_eq_true] at h;have:=wB_ok h.2.2.1;omega
 split at h
 ·simp only [Bool.and_eq_true] at h;have:=wB_ok h.2.2.1;omega
 ·cases h
theorem needsR_len (l4:List Op_) (o:Int):∀ (l:List Cl) (i:Nat),(needsR l4 o l i).length ≤ l.length
 | [],_=>Nat.le_refl _
 | c :: r,i=>by
  unfold needsR;have:=needsR_len l4 o r (i + 1);split <;> simp <;> omega
section
variable (l0 l1 l2:List ByteArray) (l3:List Cl) (l4:List Op_) (hck:checkB l0 l1 l2 l3 l4=true) (hru:RuOk l0 l1 l2 l3 l4)
include hck
theorem dlen:∀ x ∈ l4,x.f1.length ≤ 4000000000:=fun x hx=>by
 have h:=(checkB_parts hck).2.2 x hx;unfold operOk at h;rw [Bool.and_eq_true] at h;have:=wB_ok h.1;omega
theorem dle:∀ x ∈ l4,∀ d ∈ x.f1,-1000 ≤ d.f2∧d.f2 ≤ 1000:=fun x hx d hd=>by
 have h:=(checkB_parts hck).2.2 x hx;unfold operOk at h;rw [Bool.and_eq_true] at h;exact doB_le (operU_mem _ _ h.2 d hd)
theorem of_ev (o:Int) (c:Cl) (hc:clB l0.length l1.length c=true):Ev (fun k=>wp_of.f k l0 l1 l2 l3 l4 o c.f0 c.f1 c.f2 c.f3 c.f4) (0,ofN l4 o c):=by
 have hd:=dlen l0 l1 l2 l3 l4 hck;have hb:=dle l0 l1 l2 l3 l4 hck;have h4:=clB_le hc;(have mk:=fun s=>make_ev l0 l1 l2 l3 l4 o s hd);(have mo:=fun s=>more_ev l0 l1 l2 l3 l4 o s hd hb);(have ml:=fun s=>moreN_le l4 hb o s);(have mi:=fun s=>makeL_is (doesO l4 o) s);unfold wp_of.f ofN;by_cases k4:c.f0=4
 ·rw [if_pos k4];refine Ev.yes k4 (Ev.bind (mk _) (Ev.bind (mk _) (Ev.bind1 rfl (Ev.now _))))
 rw [if_neg k4];refine Ev.no k4 ?_;by_cases k5:c.f0=5
 ·rw [if_pos k5];refine Ev.yes k5 (Ev.bind (mk _) (Ev.bind (mk _) (Ev.bind1 rfl (Ev.now _))))
 rw [if_neg k5];refine Ev.no k5 ?_;by_cases k9:c.f0=9
 ·rw [if_pos k9];refine Ev.yes k9 (Ev.bind (mo _) (Ev.bind (mk _) ?_));have e:wp_needs.f c.f0 c.f1 c.f2 c.f3 c.f4 (moreN l4 o c.f2) (makeN l4 o c.f3)=some (0,needsN c (moreN l4 o c.f2) (makeN l4 o c.f3)):=by
   have h1:=ml c.f2;(have hw:wrap64 (-moreN l4 o c.f2) = -moreN l4 o c.f2:=by unfold wrap64;omega);unfold wp_needs.f needsN needsW;rw [hw]
  exact Ev.bind1 e (Ev.now _)
 rw [if_neg k9];refine Ev.no k9 ?_;by_cases k6:c.f0=6
 ·rw [if_pos k6];refine Ev.yes k6 (Ev.bind (mk _) ?_);by_cases h:makeN l4 o c.f2=1
  ·simp only [if_pos h];exact Ev.now _
  ·simp only [if_neg h];exact Ev.now _
 rw [if_neg k6];refine Ev.no k6 ?_;(have hw:wrap64 (c.f4 - moreN l4 o c.f2)=c.f4 - moreN l4 o c.f2:=by have:=ml c.f2;unfold wrap64;omega);by_cases k7:c.f0=7
 ·rw [if_pos k7];refine Ev.yes k7 (Ev.bind (mo _) ?_);rw [hw];by_cases h:moreN l4 o c.f2 > 0
  ·simp only [if_pos h];exact Ev.now _
  ·simp only [if_neg h];exact Ev.now _
 rw [if_neg k7];refine Ev.no k7 ?_;by_cases k8:c.f0=8
 ·rw [if_pos k8];refine Ev.yes k8 (Ev.bind (mo _) ?_);rw [hw];by_cases h:moreN l4 o c.f2 < 0
  ·simp only [if_pos h];exact Ev.now _
  ·simp only [if_neg h];exact Ev.now _
 rw [if_neg k8];exact Ev.no k8 (Ev.now _)
theorem needs_ev (hru:RuOk l0 l1 l2 l3 l4) (o:Int) (ho:0 ≤ o∧o < (l4.length:Int)):Ev (fun k=>wp_Needs.f k l0 l1 l2 l3 l4 o) (needsR l4 o l3 0,0):=by
 unfold wp_Needs.f;refine Ev.bind1 (show sorts_Check.f l0 l1 l2 l3 l4=some 0 by unfold sorts_Check.f checkE;rw [if_pos hru,hck];rfl) (Ev.yes rfl (Ev.bind1 (there_f _ _ _ _ _ _) ?_));rw [decide_eq_true ho];refine Ev.yes rfl ?_;have hpt:=checkB_parts hck;have h:∀ (m pos:Nat) (acc:List Nd),pos + m=l3.length → acc.length ≤ pos → Ev (fun k=>wp_Needs.l0 k o acc l3 (l3.length:Int) (pos:Int) l0 l1 l2 l3 l4) (acc ++ needsR l4 o (l3.drop pos) pos,0):=by
  intro m;induction m with
  | zero =>
   intro pos acc hp ha;(obtain rfl:pos=l3.length:=by omega);refine Ev.succ ?_;simp only [wp_Needs.l0,List.drop_length];exact Ev.no (by omega) (Ev.is (by simp [needsR]))
  | succ m ih =>
   intro pos acc hp ha;refine Ev.succ ?_;simp only [wp_Needs.l0,rdCl_at];have hm:=getD_at l3 z85 pos (by omega);have hcl:=hpt.2.1 _ hm;rw [wrap_up pos (by omega),drop_getD l3 z85 pos (by omega),needsR];generalize l3.getD pos z85=c at *;refine Ev.yes (by omega) (Ev.yes (by omega) (Ev.yes (by omega) (Ev.bind (of_ev l0 l1 l2 l3 l4 hck o c hcl) ?_)));by_cases hz:(ofN l4 o c).1=0
   ·rw [if_pos hz];exact Ev.yes hz (ih (pos + 1) acc (by omega) (by omega))
   ·rw [if_neg hz];refine Ev.no hz (Ev.yes (by omega) ?_);have h2:=ih (pos + 1) (acc ++ [⟨(pos:Int),(ofN l4 o c).1,(ofN l4 o c).2.1,(ofN l4 o c).2.2.1,(ofN l4 o c).2.2.2⟩]) (by omega) (by simp;omega);rwa [List.append_assoc,List.singleton_append] at h2
 have h3:=h l3.length 0 [] (by omega) (by simp);simpa using h3
theorem check_f (hru:RuOk l0 l1 l2 l3 l4) (ss:List (List ByteArray)) (cs:List (List Ce)) (hst:StOk ss cs):eval_Check.f l0 l1 l2 l3 l4 ss cs=some (if mayS l0.length l1.length ss cs=true then 0 else 1):=by
 (have h1:sorts_Check.f l0 l1 l2 l3 l4=some 0:=by unfold sorts_Check.f checkE;rw [if_pos hru,hck];rfl);(have h2:eval_may.f l0 l1 l2 l3 l4 ss cs=some (mayS l0.length l1.length ss cs):=by unfold eval_may.f;rw [if_pos hst]);unfold eval_Check.f;rw [h1,Option.bind_some,if_pos rfl,h2,Option.bind_some];cases mayS l0.length l1.length ss cs <;> rfl
def firstN (ss:List (List ByteArray)) (cs:List (List Ce)) (o:Int):Int:=firstM ss cs kB (needsR l4 o l3 0)
omit hck in
theorem firstM_ev (ss:List (List ByteArray)) (cs:List (List Ce)) (hst:StOk ss cs) (key:ByteArray) (L:List Nd) (hL:L.length ≤ 4000000000):Ev (fun k=>wp_First.l0 k key L (L.length:Int) ((0:Nat):Int) ss cs) (firstM ss cs key L,0):=by
 refine Ev.loop (g:=fun k pos=>wp_First.l0 k key L (L.length:Int) (pos:Int) ss cs) (spec:=fun pos=>(firstM ss cs key (L.drop pos),0)) L.length ?_ ?_ 0 (by omega)
 ·refine Ev.succ ?_;simp only [wp_First.l0,List.drop_length];exact Ev.no (by omega) (Ev.now _)
 ·intro pos hp ih;refine Ev.succ ?_;simp only [wp_First.l0];(have e:rd_T127 L (pos:Int)=L.getD pos z127:=by simp [rd_T127]);rw [e,wrap_up pos (by omega),drop_getD L z127 pos hp,firstM];refine Ev.yes (by omega) (Ev.yes (by omega) (Ev.yes (by omega) (Ev.bind (met_ev ss cs hst key _) ?_)));cases metB ss cs key (L.getD pos z127)
  ·exact Ev.no (by decide) (Ev.is (by simp))
  ·exact Ev.yes rfl (by simpa using ih)
theorem first_ev (hru:RuOk l0 l1 l2 l3 l4) (ss:List (List ByteArray)) (cs:List (List Ce)) (hst:StOk ss cs) (hm:mayS l0.length l1.length ss cs=true) (o:Int) (ho:0 ≤ o∧o < (l4.length:Int)) :
  Ev (fun k=>wp_First.f k l0 l1 l2 l3 l4 ss cs o kB) (firstN l3 l4 ss cs o,0):=by
 unfold wp_First.f firstN;refine Ev.bind1 (check_f l0 l1 l2 l3 l4 hck hru ss cs hst) ?_;rw [if_pos hm];have hk:¬ kB.toList=([]:List UInt8):=by
  intro h;have:=key_k;unfold keyB at this;rw [decide_eq_true h] at this;cases this
 refine Ev.yes rfl (Ev.no hk ?_);rw [show decide ((kB.size:Int) > 32)=false from rfl];refine Ev.succ ?_;simp only [wp_First.j0];refine Ev.no (by decide) (Ev.bind (needs_ev l0 l1 l2 l3 l4 hck hru o ho) (Ev.yes rfl ?_));have hl:=needsR_len l4 o l3 0;have:=(checkB_parts hck).1;exact firstM_ev ss cs hst kB (needsR l4 o l3 0) (by omega)
theorem broken_ev (hru:RuOk l0 l1 l2 l3 l4) (ss:List (List ByteArray)) (cs:List (List Ce)) (hst:StOk ss cs) (hm:mayS l0.length l1.length ss cs=true) :
  Ev (fun k=>eval_Broken.f k l0 l1 l2 l3 l4 ss cs) (brL l3 ss cs):=by
 unfold eval_Broken.f;refine Ev.bind1 (check_f l0 l1 l2 l3 l4 hck hru ss cs hst) ?_;rw [if_pos hm];refine Ev.yes rfl ?_;have hpt:=checkB_parts hck;have h:Ev (fun k=>eval_Broken.l0 k (((List.range 0).filter fun i=>!holdsB ss cs (l3.getD i z85)).map fun (i:Nat)=>(i:Int)) l3 (l3.length:Int) ((0:Nat):Int) ss cs) (brL l3 ss cs):=by
  refine Ev.loop (g:=fun k pos=>eval_Broken.l0 k (((List.range pos).filter fun i=>!holdsB ss cs (l3.getD i z85)).map fun (i:Nat)=>(i:Int)) l3 (l3.length:Int) (pos:Int) ss cs) (spec:=fun _=>brL l3 ss cs) l3.length ?_ ?_ 0 (by omega)
  ·refine Ev.succ ?_;simp only [eval_Broken.l0];exact Ev.no (by omega) (Ev.now _)
  ·intro pos hp ih;refine Ev.succ ?_;simp only [eval_Broken.l0,rdCl_at];rw [wrap_up pos (by omega)];have hc:=hpt.2.1 _ (getD_at l3 z85 pos hp);have hh:eval_holds.f ss cs (l3.getD pos z85).f0 (l3.getD pos z85).f1 (l3.getD pos z85).f2 (l3.getD pos z85).f3 (l3.getD pos z85).f4=some (holdsB ss cs (l3.getD pos z85)):=if_pos (holds_ok hst hm hc);refine Ev.yes (by omega) (Ev.yes (by omega) (Ev.yes (by omega) (Ev.bind1 hh ?_)));rw [List.range_succ,List.filter_append,List.map_append] at ih;cases hb:holdsB ss cs (l3.getD pos z85)
   ·refine Ev.no (by decide) (Ev.yes ?_ ?_)
    ·rw [List.length_map];have:=List.length_filter_le (fun i=>!holdsB ss cs (l3.getD i z85)) (List.range pos);rw [List.length_range] at this;omega
    ·(have e:(([pos].filter fun i=>!holdsB ss cs (l3.getD i z85)).map fun (i:Nat)=>(i:Int)) = [(pos:Int)]:=by rw [List.filter_cons,hb];rfl);rw [e] at ih;exact ih
   ·(have e:(([pos].filter fun i=>!holdsB ss cs (l3.getD i z85)).map fun (i:Nat)=>(i:Int)) = []:=by rw [List.filter_cons,hb];rfl);rw [e,List.append_nil] at ih;exact Ev.yes rfl ih
 simpa using h
theorem holds_f (hru:RuOk l0 l1 l2 l3 l4) (ss:List (List ByteArray)) (cs:List (List Ce)) (hst:StOk ss cs) (hm:mayS l0.length l1.length ss cs=true) (i:Int) (h0:0 ≤ i) (h1:i < (l3.length:Int)) :
  eval_Holds.f l0 l1 l2 l3 l4 ss cs i=some (holdsB ss cs (rd_T85 l3 i)):=by
 have hc:=(checkB_parts hck).2.1 _ (getD_at l3 z85 i.toNat (by omega));have hh:eval_holds.f ss cs (rd_T85 l3 i).f0 (rd_T85 l3 i).f1 (rd_T85 l3 i).f2 (rd_T85 l3 i).f3 (rd_T85 l3 i).f4=some (holdsB ss cs (rd_T85 l3 i)):=if_pos (holds_ok hst hm hc);unfold eval_Holds.f;rw [check_f l0 l1 l2 l3 l4 hck hru ss cs hst,if_pos hm,Option.bind_some,if_pos rfl,if_pos h0,if_pos h1,if_pos h0,hh];rfl
end
end Go.Proofs.YtjbjbeihkoeciaaGreat.X
namespace Go.Proofs.YtjbjbeihkoeciaaGreat.X
open Go.RowKit Go.Proofs.YtjbjbeihkoeciaaGreatW.PrintWords Go.Proofs.YtjbjbeihkoeciaaGreatW.PrintLast Go.Proofs.YtjbjbeihkoeciaaGreatW.PrintMore
def freeN (l3:List Cl) (l4:List Op_) (s:Sm) (o:Int):Bool:=decide ((if brL l3 (wS s.f0) (wC s.f1) = [] then firstN l3 l4 (wS s.f0) (wC s.f1) o else 0) < 0)
def clashN (l3:List Cl) (l4:List Op_) (drops:List Bool) (a b cl:Int) (s:Sm):Bool :=
 freeN l3 l4 s a && (freeN l3 l4 s b && !holdsB (wS (apartS l4 drops s a b).f0) (wC (apartS l4 drops s a b).f1) (rd_T85 l3 cl))
def findN (l0 l1 l2:List ByteArray) (l3:List Cl) (l4:List Op_) (drops:List Bool) (a b cl:Int):Option Nat:=(List.range (manyN l0 l1 l2 l3 l4)).find? fun n=>clashN l3 l4 drops a b cl (stN l0.length l1.length n)
def sm0:Sm:=⟨[],[]⟩
def atR (l0 l1 l2:List ByteArray) (l3:List Cl) (l4:List Op_) (drops:List Bool) (a b cl:Int):Sm × Bool :=
 if mayN l0 l1 l2 l3 l4 drops a b=true∧0 ≤ cl∧cl < (l3.length:Int) then (match findN l0 l1 l2 l3 l4 drops a b cl with|some n=>(stN l0.length l1.length n,true)|none=>(sm0,false)) else (sm0,false)
theorem mayN_check {l0 l1 l2:List ByteArray} {l3:List Cl} {l4:List Op_} {drops:List Bool} {a b:Int} (h:mayN l0 l1 l2 l3 l4 drops a b=true) :
  checkB l0 l1 l2 l3 l4=true∧drops.length=l0.length∧(0 ≤ a∧a < (l4.length:Int))∧(0 ≤ b∧b < (l4.length:Int)):=by
 unfold mayN at h;rw [Bool.and_eq_true,Bool.and_eq_true,Bool.and_eq_true] at h;refine ⟨?_,of_decide_eq_true h.2.1,of_decide_eq_true h.2.2.1,of_decide_eq_true h.2.2.2⟩;have h1:=of_decide_eq_true h.1;unfold manyN at h1;split at h1
 ·rename_i h2;exact h2.1
 ·omega
theorem at_call (A0:Option Addr) (c0:Nat) (l0:List ByteArray) (A1:Option Addr) (c1:Nat) (l1:List ByteArray) (A2:Option Addr) (c2:Nat) (l2:List ByteArray) (A3:Option Addr) (c3:Nat) (l3:List Cl) (A4:Option Addr) (c4:Nat) (l4:List Op_) (Ad:Option Addr) (cd:Nat) (drops:List Bool) (a b cl:Int) (w:World)
  (hr0:Kd.C Kd.string w A0 l0.length l0) (hc0:l0.length ≤ c0) (hr1:Kd.C Kd.string w A1 l1.length l1) (hc1:l1.length ≤ c1) (hr2:Kd.C Kd.string w A2 l2.length l2) (hc2:l2.length ≤ c2) (hr3:Kd.C k85 w A3 l3.length l3) (hc3:l3.length ≤ c3) (hr4:Kd.C k89 w A4 l4.length l4) (hc4:l4.length ≤ c4) (hrd:Kd.C Kd.bool w Ad drops.length drops) (hcd:drops.length ≤ cd)
  (hru:RuOk l0 l1 l2 l3 l4) :
  Calls Tryz.prog 11 #[.agg #[.slice A0 l0.length c0,.slice A1 l1.length c1,.slice A2 l2.length c2,.slice A3 l3.length c3,.slice A4 l4.length c4],.slice Ad drops.length cd,.int .i64 a,.int .i64 b,.int .i64 cl] w fun e w'=>∃ v0 v1:Value,e = .returned (.tuple #[.agg #[v0,v1],.bool (atR l0 l1 l2 l3 l4 drops a b cl).2]) ∧
   Kd.R Kd.bool 4 w' w.heap.size (fun _=>True) v0 (atR l0 l1 l2 l3 l4 drops a b cl).1.f0∧Kd.R (Kd.int .i64) 3 w' w.heap.size (fun _=>True) v1 (atR l0 l1 l2 l3 l4 drops a b cl).1.f1∧Below w.heap.size w w':=by
 obtain ⟨km,hkm⟩:=Ev.rounds (g:=fun k=>pairs_may.f k l0 l1 l2 l3 l4 drops a b) (may_ev2 l0 l1 l2 l3 l4 hru drops a b);have hmay:∀ w',Below w.heap.size w w' → Calls Tryz.prog 40 #[.agg #[.slice A0 l0.length c0,.slice A1 l1.length c1,.slice A2 l2.length c2,.slice A3 l3.length c3,.slice A4 l4.length c4],.slice Ad drops.length cd,.int .i64 a,.int .i64 b] w' fun e w''=>e = .returned (.bool (mayN l0 l1 l2 l3 l4 drops a b))∧Below w'.heap.size w' w'' :=
  fun w' hw=>pairs_may.calls km A0 c0 l0 A1 c1 l1 A2 c2 l2 A3 c3 l3 A4 c4 l4 Ad cd drops a b _ w' (Kd.C_below hr0 hw) hc0 (Kd.C_below hr1 hw) hc1 (Kd.C_below hr2 hw) hc2 (Kd.C_below hr3 hw) hc3 (Kd.C_below hr4 hw) hc4 (Kd.C_below hrd hw) hcd hkm
 by_cases hyes:mayN l0 l1 l2 l3 l4 drops a b=true∧0 ≤ cl∧cl < (l3.length:Int)
 ·obtain ⟨hmv,h0,h1⟩:=hyes;rw [hmv] at hmay;obtain ⟨hck,hdl,ha,hb⟩:=mayN_check hmv;have hpt:=checkB_parts hck;have hdn:=dlen l0 l1 l2 l3 l4 hck;have hdb:=dle l0 l1 l2 l3 l4 hck;have hML:=many_le l0 l1 l2 l3 l4;have eR:atR l0 l1 l2 l3 l4 drops a b cl=(match findN l0 l1 l2 l3 l4 drops a b cl with|some n=>(stN l0.length l1.length n,true)|none=>(sm0,false)):=if_pos ⟨hmv,h0,h1⟩;(have hs0:∀ n,(stN l0.length l1.length n).f0.length=l0.length:=fun n=>bitsL_len _ _);(have hs1:∀ n,(stN l0.length l1.length n).f1.length=l1.length:=fun n=>digsL_len _ _);(have hsd:∀ n,∀ x ∈ (stN l0.length l1.length n).f1,0 ≤ x∧x ≤ 2:=fun n=>digsL_le _ _);(have hwo:∀ n,StOk (wS (stN l0.length l1.length n).f0) (wC (stN l0.length l1.length n).f1):=fun n=>wide_ok _ (by rw [hs0];omega) (by rw [hs1];omega));have hwm:∀ n,mayS l0.length l1.length (wS (stN l0.length l1.length n).f0) (wC (stN l0.length l1.length n).f1)=true:=fun n=>by
   have:=wide_may (stN l0.length l1.length n) (fun x hx=>by have:=hsd n x hx;omega);rwa [hs0,hs1] at this
  (have hal:=fun n=>apartS_len l4 drops (stN l0.length l1.length n) a b);(have hab:=fun n=>apartS_le l4 hdb drops (stN l0.length l1.length n) a b (fun x hx=>by have:=hsd n x hx;omega));(have hao:∀ n,StOk (wS (apartS l4 drops (stN l0.length l1.length n) a b).f0) (wC (apartS l4 drops (stN l0.length l1.length n) a b).f1):=fun n=>wide_ok _ (by rw [(hal n).1,hs0];omega) (by rw [(hal n).2,hs1];omega));have ham:∀ n,mayS l0.length l1.length (wS (apartS l4 drops (stN l0.length l1.length n) a b).f0) (wC (apartS l4 drops (stN l0.length l1.length n) a b).f1)=true:=fun n=>by
   have:=wide_may (apartS l4 drops (stN l0.length l1.length n) a b) (fun x hx=>by have:=hab n x hx;omega);rwa [(hal n).1,(hal n).2,hs0,hs1] at this
  obtain ⟨kn,hkn⟩:=Ev.rounds (g:=fun k=>pairs_Many.f k l0 l1 l2 l3 l4) (many_ev l0 l1 l2 l3 l4 hru);refine (at_yes A0 l0.length c0 A1 l1.length c1 A2 l2.length c2 A3 l3.length c3 A4 l4.length c4 Ad drops.length cd a b cl w hmay h0 h1
   (valT [a,b] (fun o n=>freeN l3 l4 (stN l0.length l1.length n) o) (manyN l0 l1 l2 l3 l4) 0) ((List.range (manyN l0 l1 l2 l3 l4)).map (stN l0.length l1.length)) (atR l0 l1 l2 l3 l4 drops a b cl).2 (atR l0 l1 l2 l3 l4 drops a b cl).1 ?_ ?_)
  ·intro w' Ao hw hCo;refine tabled_walk A0 l0.length c0 A1 l1.length c1 A2 l2.length c2 A3 l3.length c3 A4 l4.length c4 Ao 2 [a,b] w' (manyN l0 l1 l2 l3 l4) (stN l0.length l1.length) (fun n=>(wS (stN l0.length l1.length n).f0,wC (stN l0.length l1.length n).f1)) (fun n=>brL l3 (wS (stN l0.length l1.length n).f0) (wC (stN l0.length l1.length n).f1)) (fun o n=>firstN l3 l4 (wS (stN l0.length l1.length n).f0) (wC (stN l0.length l1.length n).f1) o) (fun o n=>freeN l3 l4 (stN l0.length l1.length n) o) hCo (Nat.le_refl _) (by simp) hML (fun o n=>rfl) ?_ ?_ ?_ ?_ ?_
   ·intro w2 hw2;have hx:=below_step hw hw2;exact pairs_Many.calls kn A0 c0 l0 A1 c1 l1 A2 c2 l2 A3 c3 l3 A4 c4 l4 _ w2 (Kd.C_below hr0 hx) hc0 (Kd.C_below hr1 hx) hc1 (Kd.C_below hr2 hx) hc2 (Kd.C_below hr3 hx) hc3 (Kd.C_below hr4 hx) hc4 hkn
   ·intro n hn w2 hw2;have hx:=below_step hw hw2;obtain ⟨k,hk⟩:=Ev.rounds (g:=fun k=>pairs_state.f k l0 l1 l2 l3 l4 (n:Int)) (state_ev l0 l1 l2 l3 l4 (by omega) (by omega) n (by omega));exact pairs_state.calls k A0 c0 l0 A1 c1 l1 A2 c2 l2 A3 c3 l3 A4 c4 l4 _ _ _ w2 (Kd.C_below hr0 hx) hc0 (Kd.C_below hr1 hx) hc1 (Kd.C_below hr2 hx) hc2 (Kd.C_below hr3 hx) hc3 (Kd.C_below hr4 hx) hc4 hk
   ·intro n hn w2 B0 d0 B1 d1 k0 e0 k1 e1;obtain ⟨k,hk⟩:=Ev.rounds (g:=fun k=>pairs_wide.f k (stN l0.length l1.length n).f0 (stN l0.length l1.length n).f1) (wide_ev _ (by rw [hs0];omega) (by rw [hs1];omega));exact pairs_wide.calls k B0 d0 _ B1 d1 _ _ _ w2 k0 e0 k1 e1 hk
   ·intro n hn w2 B0 d0 B1 d1 hw2 k0 e0 k1 e1;have hx:=below_step hw hw2;obtain ⟨k,hk⟩:=Ev.rounds (g:=fun k=>eval_Broken.f k l0 l1 l2 l3 l4 (wS (stN l0.length l1.length n).f0) (wC (stN l0.length l1.length n).f1)) (broken_ev l0 l1 l2 l3 l4 hck hru _ _ (hwo n) (hwm n));exact eval_Broken.calls k A0 c0 l0 A1 c1 l1 A2 c2 l2 A3 c3 l3 A4 c4 l4 B0 d0 _ B1 d1 _ _ w2 (Kd.C_below hr0 hx) hc0 (Kd.C_below hr1 hx) hc1 (Kd.C_below hr2 hx) hc2 (Kd.C_below hr3 hx) hc3 (Kd.C_below hr4 hx) hc4 k0 e0 k1 e1 hk
   ·intro n hn o ho hbr w2 B0 d0 B1 d1 hw2 k0 e0 k1 e1;have hx:=below_step hw hw2;have hor:0 ≤ o∧o < (l4.length:Int):=by
     rcases List.mem_cons.1 ho with rfl|ho
     ·exact ha
     ·rcases List.mem_cons.1 ho with rfl|ho
      ·exact hb
      ·cases ho
    obtain ⟨k,hk⟩:=Ev.rounds (g:=fun k=>wp_First.f k l0 l1 l2 l3 l4 (wS (stN l0.length l1.length n).f0) (wC (stN l0.length l1.length n).f1) o kB) (first_ev l0 l1 l2 l3 l4 hck hru _ _ (hwo n) (hwm n) o hor);exact (wp_First.calls k A0 c0 l0 A1 c1 l1 A2 c2 l2 A3 c3 l3 A4 c4 l4 B0 d0 _ B1 d1 _ o kB _ _ w2 (Kd.C_below hr0 hx) hc0 (Kd.C_below hr1 hx) hc1 (Kd.C_below hr2 hx) hc2 (Kd.C_below hr3 hx) hc3 (Kd.C_below hr4 hx) hc4 k0 e0 k1 e1 hk).mono fun e w3 ⟨he,hb3⟩=>⟨_,he,hb3⟩
  ·intro w' w0s mb fs vs hw hT hle;have hval:∀ o,o ∈ [a,b] → valT [a,b] (fun o n=>freeN l3 l4 (stN l0.length l1.length n) o) (manyN l0 l1 l2 l3 l4) 0 o=(List.range (manyN l0 l1 l2 l3 l4)).map (fun n=>freeN l3 l4 (stN l0.length l1.length n) o):=fun o ho=>by
    unfold valT cntT;rw [List.take_zero,if_neg (by simp),if_pos ho]
   have hfe:(List.range (manyN l0 l1 l2 l3 l4)).find? (fun n=>freeN l3 l4 (stN l0.length l1.length n) a && (freeN l3 l4 (stN l0.length l1.length n) b && !holdsB (wS (apartS l4 drops (stN l0.length l1.length n) a b).f0) (wC (apartS l4 drops (stN l0.length l1.length n) a b).f1) (rd_T85 l3 cl)))=findN l0 l1 l2 l3 l4 drops a b cl:=rfl;have hA:=attab_walk A0 l0.length c0 A1 l1.length c1 A2 l2.length c2 A3 l3.length c3 A4 l4.length c4 Ad drops.length cd a b cl w' w0s mb fs _ vs (manyN l0 l1 l2 l3 l4) (stN l0.length l1.length) (fun o n=>freeN l3 l4 (stN l0.length l1.length n) o) (fun n=>((apartS l4 drops (stN l0.length l1.length n) a b).f0,(apartS l4 drops (stN l0.length l1.length n) a b).f1)) (fun n=>([],[])) (fun n=>(wS (apartS l4 drops (stN l0.length l1.length n) a b).f0,wC (apartS l4 drops (stN l0.length l1.length n) a b).f1)) (fun n=>holdsB (wS (apartS l4 drops (stN l0.length l1.length n) a b).f0) (wC (apartS l4 drops (stN l0.length l1.length n) a b).f1) (rd_T85 l3 cl)) hT hle hML (hval a (by simp)) (hval b (by simp)) ?_ ?_ ?_
   ·rw [hfe] at hA;rw [eR];(refine hA.mono fun e w2 ⟨v0,v1,he,h3,h4,h5⟩=>?_);cases hf:findN l0 l1 l2 l3 l4 drops a b cl with
    | none=>rw [hf] at he h3 h4;exact ⟨v0,v1,he,h3,h4,h5⟩
    | some n=>rw [hf] at he h3 h4;exact ⟨v0,v1,he,h3,h4,h5⟩
   ·intro n hn _ _ w2 D0 d0 D1 d1 hw2 k0 e0 k1 e1;have hx:=below_step hw hw2;obtain ⟨k,hk⟩:=Ev.rounds (g:=fun k=>pairs_apart.f k l0 l1 l2 l3 l4 drops (stN l0.length l1.length n).f0 (stN l0.length l1.length n).f1 a b) (apart_ev l0 l1 l2 l3 l4 hdn hdb drops (stN l0.length l1.length n) a b (by rw [hs0];omega) (by rw [hs1];omega) (by rw [hs0];exact hdl) (fun x hx2=>by have:=hsd n x hx2;omega));exact pairs_apart.calls k A0 c0 l0 A1 c1 l1 A2 c2 l2 A3 c3 l3 A4 c4 l4 Ad cd drops D0 d0 _ D1 d1 _ a b _ _ w2 (Kd.C_below hr0 hx) hc0 (Kd.C_below hr1 hx) hc1 (Kd.C_below hr2 hx) hc2 (Kd.C_below hr3 hx) hc3 (Kd.C_below hr4 hx) hc4 (Kd.C_below hrd hx) hcd k0 e0 k1 e1 hk
   ·intro n hn _ _ w2 D0 d0 D1 d1 k0 e0 k1 e1;obtain ⟨k,hk⟩:=Ev.rounds (g:=fun k=>pairs_wide.f k (apartS l4 drops (stN l0.length l1.length n) a b).f0 (apartS l4 drops (stN l0.length l1.length n) a b).f1) (wide_ev _ (by rw [(hal n).1,hs0];omega) (by rw [(hal n).2,hs1];omega));exact pairs_wide.calls k D0 d0 _ D1 d1 _ _ _ w2 k0 e0 k1 e1 hk
   ·intro n hn _ _ w2 D0 d0 D1 d1 hw2 k0 e0 k1 e1;have hx:=below_step hw hw2;exact eval_Holds.calls A0 c0 l0 A1 c1 l1 A2 c2 l2 A3 c3 l3 A4 c4 l4 D0 d0 _ D1 d1 _ cl _ w2 (Kd.C_below hr0 hx) hc0 (Kd.C_below hr1 hx) hc1 (Kd.C_below hr2 hx) hc2 (Kd.C_below hr3 hx) hc3 (Kd.C_below hr4 hx) hc4 k0 e0 k1 e1 (holds_f l0 l1 l2 l3 l4 hck hru _ _ (hao n) (ham n) cl h0 h1)
 ·have eR:atR l0 l1 l2 l3 l4 drops a b cl=(sm0,false):=if_neg hyes;rw [eR];refine (at_no A0 l0.length c0 A1 l1.length c1 A2 l2.length c2 A3 l3.length c3 A4 l4.length c4 Ad drops.length cd a b cl w _ hmay hyes).mono fun e w2 ⟨v0,v1,he,h3,h4,h5⟩=>⟨v0,v1,he,?_,?_,h5⟩
  ·rw [h3];exact Kd.R_nil _ _ _ _ _
  ·rw [h4];exact Kd.R_nil _ _ _ _ _
abbrev Cs:=S70
abbrev kCs:=k70
def allL (F:Nat → Nat → Nat → List Cs) (n m p:Nat):List Cs:=(List.range p).flatMap fun a=>(List.range (n - a)).flatMap fun j=>(List.range m).flatMap fun i=>F a (a + j) i
def allP (F:Nat → Nat → Nat → List Cs) (m a q:Nat):List Cs:=(List.range q).flatMap fun j=>(List.range m).flatMap fun i=>F a (a + j) i
def allQ (F:Nat → Nat → Nat → List Cs) (a b i:Nat):List Cs:=(List.range i).flatMap fun i=>F a b i
theorem allL_next (F:Nat → Nat → Nat → List Cs) (n m p:Nat):allL F n m (p + 1)=allL F n m p ++ allP F m p (n - p):=by
 simp [allL,allP,List.range_succ]
theorem allP_next (F:Nat → Nat → Nat → List Cs) (m a q:Nat):allP F m a (q + 1)=allP F m a q ++ allQ F a (a + q) m:=by
 simp [allP,allQ,List.range_succ]
theorem allQ_next (F:Nat → Nat → Nat → List Cs) (a b i:Nat):allQ F a b (i + 1)=allQ F a b i ++ F a b i:=by
 simp [allQ,List.range_succ]
theorem flat_len (G:Nat → List Cs) (k:Nat) (hG:∀ x,(G x).length ≤ k) (L:List Nat):(L.flatMap G).length ≤ L.length * k:=by
 induction L with
 | nil=>simp
 | cons a r ih =>
  rw [List.flatMap_cons,List.length_append,List.length_cons,Nat.succ_mul];have:=hG a;omega
theorem all_len (F:Nat → Nat → Nat → List Cs) (hF:∀ a b i,(F a b i).length ≤ 1) (n m p q a b i:Nat) (h1:n ≤ 1000) (h2:m ≤ 1000) (h3:p ≤ 1000) (h4:q ≤ 1000) (h5:i ≤ 1000) :
  (allL F n m p ++ allP F m a q ++ allQ F a b i).length ≤ 2000000000:=by
 have hQ:∀ a b i,(allQ F a b i).length ≤ i * 1:=fun a b i=>by
  have:=flat_len (fun i=>F a b i) 1 (hF a b) (List.range i);rwa [List.length_range] at this
 have hP:∀ a q,(allP F m a q).length ≤ q * (m * 1):=fun a q=>by
  have:=flat_len (fun j=>(List.range m).flatMap fun i=>F a (a + j) i) (m * 1) (fun j=>hQ a (a + j) m) (List.range q);rwa [List.length_range] at this
 have hL:(allL F n m p).length ≤ p * (n * (m * 1)):=by
  have:=flat_len (fun a=>(List.range (n - a)).flatMap fun j=>(List.range m).flatMap fun i=>F a (a + j) i) (n * (m * 1)) (fun a=>Nat.le_trans (hP a (n - a)) (Nat.mul_le_mul_right _ (Nat.sub_le _ _))) (List.range p);rwa [List.length_range] at this
 have e1:=hQ a b i;have e2:=Nat.le_trans (hP a q) (Nat.mul_le_mul h4 (Nat.mul_le_mul_right 1 h2));have e3:=Nat.le_trans hL (Nat.mul_le_mul h3 (Nat.mul_le_mul h1 (Nat.mul_le_mul_right 1 h2)));rw [List.length_append,List.length_append];omega
theorem infoCla:(Tryz.prog.info? 70).map (fun i=>(i.zero,i.size,i.bytes))=some (some (.agg #[.int .i64 0,.int .i64 0,.int .i64 0]),3,24):=by kernel_rfl
theorem all_walk (A0:Option Addr) (n0 c0:Nat) (A1:Option Addr) (n1 c1:Nat) (A2:Option Addr) (n2 c2:Nat) (A3:Option Addr) (c3:Nat) (l3:List Cl) (A4:Option Addr) (n4 c4:Nat) (Ad:Option Addr) (nd cd:Nat) (w:World) (hnd:n0=nd)
  (N:Nat) (val:Int → List Bool) (sts:List Sm) (fd:Nat → Nat → Nat → Bool) (F:Nat → Nat → Nat → List Cs)
  (hr3:Kd.C k85 w A3 l3.length l3) (hc3:l3.length ≤ c3) (h3:l3.length ≤ 1000) (h4:n4 ≤ 1000) (hN:0 < N)
  (hF:∀ a b i,F a b i=if (l3.getD i z85).f1=true∧fd a b i=true then [⟨(a:Int),(b:Int),(i:Int)⟩] else [])
  (hmany:∀ w',Below w.heap.size w w' → Calls Tryz.prog 21 #[.agg #[.slice A0 n0 c0,.slice A1 n1 c1,.slice A2 n2 c2,.slice A3 l3.length c3,.slice A4 n4 c4]] w' fun e w''=>e = .returned (.int .i64 (N:Int))∧Below w'.heap.size w' w'')
  (htab:∀ w' Ao co,Below w.heap.size w w' → Kd.C (Kd.int .i64) w' Ao n4 ((List.range n4).map fun (i:Nat)=>(i:Int)) → n4 ≤ co → Calls Tryz.prog 41 #[.agg #[.slice A0 n0 c0,.slice A1 n1 c1,.slice A2 n2 c2,.slice A3 l3.length c3,.slice A4 n4 c4],.slice Ao n4 co] w' fun e w''=>∃ vs mb fs,e = .returned (.agg #[vs,.map (some mb)])∧TabW w'.heap.size w'' mb fs val vs sts∧Below w'.heap.size w' w'')
  (hatt:∀ w' w0s mb fs vs (a b i:Nat),a < n4 → b < n4 → i < l3.length → Below w.heap.size w w' → TabW w0s w' mb fs val vs sts → w0s ≤ w'.heap.size → Calls Tryz.prog 42 #[.agg #[vs,.map (some mb)],.agg #[.slice A0 n0 c0,.slice A1 n1 c1,.slice A2 n2 c2,.slice A3 l3.length c3,.slice A4 n4 c4],.slice Ad nd cd,.int .i64 (a:Int),.int .i64 (b:Int),.int .i64 (i:Int)] w' fun e w''=>∃ v0 v1:Value,e = .returned (.tuple #[.agg #[v0,v1],.bool (fd a b i)])∧(∃ B0 m0 d0,v0 = .slice B0 m0 d0)∧(∃ B0 m0 d0,v1 = .slice B0 m0 d0)∧Below w'.heap.size w' w'') :
  Calls Tryz.prog 16 #[.agg #[.slice A0 n0 c0,.slice A1 n1 c1,.slice A2 n2 c2,.slice A3 l3.length c3,.slice A4 n4 c4],.slice Ad nd cd] w fun e w'=>∃ v:Value,e = .returned v∧Kd.R kCs 70 w' w.heap.size (fun _=>True) v (allL F n4 l3.length n4)∧Below w.heap.size w w':=by
 subst hnd;have HR3:=Sd.mk hr3;have HMANY:=Sd.mk hmany;have HTAB:=Sd.mk htab;have HATT:=Sd.mk hatt;have HF1:Sd (∀ a b i,(F a b i).length ≤ 1):=⟨fun a b i=>by rw [hF a b i];split <;> simp⟩;have HF:=Sd.mk hF;clear hr3 hmany htab hatt hF;have HC3:Sd (∀ i,i < l3.length → rd_T85 l3 (i:Int)=l3.getD i z85):=⟨fun i _=>by simp [rd_T85]⟩;generalize hn3:l3.length=n3 at *;have HN3:=Sd.mk hn3;clear hn3;go_enter Tryz.func16,Tryz.ntmps16;go_upto_region 1 with (((with_reducible refine gate_dst (N:=2) rfl ?_);refine box_event ?hg (N:=2) ?hd (cs:=#[.slice A0 n0 c0,.slice A1 n1 c1,.slice A2 n2 c2,.slice A3 n3 c3,.slice A4 n4 c4]) (t:=26) ?hr ?_;(case hd=>rfl);(case hg=>rfl);(case hr=>first|(go_simp;done)|(go_simp;rfl));intro g hg w3 hbox hb;have HB3:=Sd.mk hb;have BK:=Sd.mk hbox;clear hb hbox hg));obtain ⟨ha0,ha1,ha2,ha3,ha4⟩:=bc5 BK.out;go_wp2_with fail;refine (HMANY.out _ HB3.out).mono ?_;rintro e w4 ⟨rfl,hb4⟩;have HB4:=Sd.mk (below_step HB3.out hb4);have BK4:=Sd.mk (blk_below BK.out hb4);clear hb4 ha0 ha1 ha2 ha3 ha4 HB3 BK;have ha0:w4.cell? ⟨g,0,none⟩=some (.slice A0 n0 c0):=(blk_cell BK4.out 0).trans rfl;have ha4:w4.cell? ⟨g,4,none⟩=some (.slice A4 n4 c4):=(blk_cell BK4.out 4).trans rfl;(have hnz:((N:Int) == 0)=false:=by simp;omega);(have hnz2:(N == 0)=false:=by simp;omega);have hnz3:decide (N=0)=false:=decide_eq_false (by omega);(have hdd:((n0:Int) != (n0:Int))=false:=by simp);go_wp2_with fail;clear ha0 ha4 hnz hnz2 hnz3 hdd;go_loopw [6,31] (fun v6 v31 wr=>∃ p:Nat,v31 = .int .i64 (p:Int)∧p ≤ n4∧Sd (Kd.R (Kd.int .i64) 3 wr w.heap.size (fun _=>True) v6 ((List.range p).map fun (i:Nat)=>(i:Int)))∧Sd (Below w.heap.size w wr)∧Sd (wr.heap[g]? = some (.cells #[.slice A0 n0 c0,.slice A1 n1 c1,.slice A2 n2 c2,.slice A3 n3 c3,.slice A4 n4 c4] 26 (0,0)))) (fun _ v31 _=>((n4:Int) - intV v31).toNat)
 case atStart=>exact ⟨0,rfl,Nat.zero_le _,⟨Kd.R_nil _ _ _ _ _⟩,HB4,BK4⟩
 case round =>
  obtain ⟨p,rfl,hp,HO,HBr,Br⟩:=hrel;clear HB4 BK4;by_cases hlt:p < n4
  ·(have hlt':decide ((p:Int) < (n4:Int))=true:=by simp;omega);have HLL:Sd (((List.range p).map fun (i:Nat)=>(i:Int)).length ≤ 1000):=⟨by rw [List.length_map,List.length_range];omega⟩;have HNX:Sd ((List.range (p + 1)).map (fun (i:Nat)=>(i:Int))=((List.range p).map fun (i:Nat)=>(i:Int)) ++ [(p:Int)]):=⟨by rw [List.range_succ,List.map_append];rfl⟩;generalize hL:((List.range p).map fun (i:Nat)=>(i:Int))=L at *;have HL:=Sd.mk hL;clear hL;go_wp2_with (((with_reducible refine gate_builtin (b:=.append) (xs:=#[.tmp 34,.tmp 36]) rfl ?_);at_builtin;refine Kd.R_append (Kd.int .i64) (w0:=w) w.heap.size rfl (.tmp 34) (.tmp 36) 32 3 (.int .i64 0) 8 rfl Tryz.underlying32 info3 rfl (by decide) (by omega) u6 L (p:Int) [.int .i64 (p:Int)] (fun _=>True) (fun _=>False) rfl rfl ?aP (fun _ hk=>hk.elim) ?aF ?aO ?aB ?aS ?aL ?_;(case aP=>exact rfl);(case aB=>exact HBr.out);(case aF=>exact (fun _ _=>trivial));(case aO=>exact HO.out);(case aS=>exact below_size HBr.out);(case aL=>have:=HLL.out;omega);intro v37 w5 ho hb hg5 hat;have HO5:=Sd.mk ho;have HB5:=Sd.mk hb;have B5:=Sd.mk (blk_grown Br.out hg5 (Kd.R_ne HO.out Br.out (by decide)));clear ho hb hg5 hat));go_roundw
   case measure=>simp [intV];omega
   case rel=>exact ⟨p + 1,by simp,by omega,⟨by rw [HNX.out];exact HO5.out⟩,HB5,B5⟩
  ·(have hlt':decide ((p:Int) < (n4:Int))=false:=by simp;omega);(obtain rfl:p=n4:=by omega);have HOL:Sd (((List.range p).map fun (i:Nat)=>(i:Int)).length=p):=⟨by simp⟩;have HOR:Sd (∀ j,j < p → rd ((List.range p).map fun (i:Nat)=>(i:Int)) (j:Int)=(j:Int)):=⟨fun j hj=>by simp [rd,List.getD,hj]⟩;obtain ⟨Ao,co,hvo,hz1,hz2⟩:=Kd.R_reads HO.out;clear hz1 hz2;rw [HOL.out] at hvo;subst hvo;obtain ⟨ha0,ha1,ha2,ha3,ha4⟩:=bc5 Br.out;have HTB:Sd (Calls Tryz.prog 41 #[.agg #[.slice A0 n0 c0,.slice A1 n1 c1,.slice A2 n2 c2,.slice A3 n3 c3,.slice A4 p c4],.slice Ao p co] wr fun e w''=>∃ vs mb fs,e = .returned (.agg #[vs,.map (some mb)])∧TabW wr.heap.size w'' mb fs val vs sts∧Below wr.heap.size wr w''):=⟨by
    obtain ⟨_,l1,C1⟩:=Kd.R_reads' HO.out
    rw [HOL.out] at C1
    exact HTAB.out wr Ao co HBr.out C1 l1⟩
   go_wp2_with fail;refine HTB.out.mono ?_;rintro e w6 ⟨vs,mb,fs,rfl,hT,hb6⟩;have HT6:=Sd.mk hT;obtain ⟨Avs,cvs,hvs⟩:=Kd.R_slice hT.sts;subst hvs;have HB6:=Sd.mk hb6;clear hT hb6 ha0 ha1 ha2 ha3 ha4 HTB;generalize hsl:sts.length=sl at *;have HSL:=Sd.mk hsl;clear hsl;go_upto_region 11 with (((with_reducible refine gate_dst (N:=8) rfl ?_);refine box_event ?hg (N:=8) ?hd (cs:=#[.slice none 0 0,.map none]) (t:=75) ?hr ?_;(case hd=>rfl);(case hg=>rfl);(case hr=>first|(go_simp;done)|(go_simp;rfl));intro g8 hg8 w7 hbox hb;have HB7:=Sd.mk hb;have BK7:=Sd.mk hbox;have HG8:=Sd.mk hg8;have hcz0:=(blk_cell hbox 0);have hcz1:=(blk_cell hbox 1);have hfz0:=blk_frozen hbox 0;have hfz1:=blk_frozen hbox 1;clear hb hbox hg8));(have hgs:w6.heap.size ≤ g8:=by rw [HG8.out];exact Nat.le_refl _);have HBA:Sd (Below w6.heap.size w6 ((w7.setCell ⟨g8,0,none⟩ (.slice Avs sl cvs)).setCell ⟨g8,1,none⟩ (.map (some mb)))):=⟨below_set (below_set HB7.out hgs) hgs⟩;have BK8:Sd (((w7.setCell ⟨g8,0,none⟩ (.slice Avs sl cvs)).setCell ⟨g8,1,none⟩ (.map (some mb))).heap[g8]? = some (.cells #[.slice Avs sl cvs,.map (some mb)] 75 (0,0))):=⟨by
    refine blk_put (cs:=#[.slice Avs sl cvs,.map none]) ?_ 1 _ rfl
    exact blk_put BK7.out 0 _ rfl⟩
   generalize ((w7.setCell ⟨g8,0,none⟩ (.slice Avs sl cvs)).setCell ⟨g8,1,none⟩ (.map (some mb)))=wA at *;clear hcz0 hcz1 hfz0 hfz1 hgs BK7 HB7 HG8;have HrA:Sd (Below wr.heap.size wr wA):=⟨below_step HB6.out HBA.out⟩;have HWA:=Sd.mk (below_step HBr.out HrA.out);have HTA:=Sd.mk (HT6.out.below HBA.out);have BrA:=Sd.mk (blk_below Br.out HrA.out);have HOA:=Sd.mk (Kd.R_below HO.out HrA.out);have HWS:Sd (wr.heap.size ≤ wA.heap.size):=⟨HrA.out.size⟩;generalize wr.heap.size=wrs at *;clear hlt hlt' hp;clear HT6 HB6 HBA HrA HO Br HBr;go_wp2_with fail;go_loopw [5,44] (fun v5 v44 wr=>∃ a:Nat,v44 = .int .i64 (a:Int)∧a ≤ p∧Sd (Kd.R kCs 70 wr wA.heap.size (fun _=>True) v5 (allL F p n3 a))∧Sd (Below wA.heap.size wA wr)) (fun _ v44 _=>((p:Int) - intV v44).toNat)
   case atStart=>exact ⟨0,rfl,Nat.zero_le _,⟨Kd.R_nil _ _ _ _ _⟩,⟨Below.refl _ _⟩⟩
   case round =>
    obtain ⟨a,rfl,ha,HR,HBr⟩:=hrel;by_cases hla:a < p
    ·(have hla':decide ((a:Int) < (p:Int))=true:=by simp;omega);have p1:(0 ≤ (a:Int))=True:=eq_true (by omega);have p2:((a:Int) < (p:Int))=True:=eq_true (by omega);have p3:((a:Int) ≤ (p:Int))=True:=eq_true (by omega);obtain ⟨hnn,hoc,hOC⟩:=Kd.R_reads' (Kd.R_below HOA.out HBr.out);clear hnn;rw [HOL.out] at hOC;obtain ⟨ad,e0,hx0⟩:=Kd.at_int hOC (a:Int) (by omega) (by omega);subst e0;rw [HOR.out a hla] at hx0;simp only [Int.toNat_natCast] at hx0;have HOCR:=Sd.mk hOC;have p4:((p:Int) ≤ (co:Int))=True:=eq_true (by omega);have P3:=Sd.mk p3;have P4:=Sd.mk p4;have HLA:=Sd.mk hla;have p7:(co=a)=False:=eq_false (by omega);clear hOC hoc;go_upto_region 14 with fail;go_wp2_with fail;clear hx0;go_loopw [5,52] (fun v5 v52 wr=>∃ q:Nat,v52 = .int .i64 (q:Int)∧q ≤ p - a∧Sd (Kd.R kCs 70 wr wA.heap.size (fun _=>True) v5 (allL F p n3 a ++ allP F n3 a q))∧Sd (Below wA.heap.size wA wr)) (fun _ v52 _=>(((p - a:Nat):Int) - intV v52).toNat)
     case atStart=>exact ⟨0,rfl,Nat.zero_le _,⟨by rw [show allP F n3 a 0 = [] from rfl,List.append_nil];exact HR.out⟩,HBr⟩
     case round =>
      clear HR HBr HOCR;obtain ⟨q,rfl,hq,HR,HBr⟩:=hrel;by_cases hlq:q < p - a
      ·(have hlq':decide ((q:Int) < ((p - a:Nat):Int))=true:=by simp;omega);(have hlq2:decide ((q:Int) < (p:Int) - (a:Int))=true:=by simp;omega);have q1:(0 ≤ (q:Int))=True:=eq_true (by omega);have q2:((q:Int) < (p:Int) - (a:Int))=True:=eq_true (by omega);have q3:((q:Int) < ((p - a:Nat):Int))=True:=eq_true (by omega);obtain ⟨hnn,hoc,hOC⟩:=Kd.R_reads' (Kd.R_below HOA.out HBr.out);clear hnn hoc;rw [HOL.out] at hOC;obtain ⟨ad',e0,hx0⟩:=Kd.at_int hOC ((a + q:Nat):Int) (by omega) (by omega);cases e0;rw [HOR.out (a + q) (by omega)] at hx0;rw [Int.toNat_natCast,← Addr.add_add] at hx0;have HLB:Sd (a + q < p):=⟨by omega⟩;generalize hbq:a + q=b at *;have HBQ:=Sd.mk hbq;clear hbq;have hb3:wr.cell? ⟨g,3,none⟩=some (.slice A3 n3 c3):=(blk_cell (blk_below BrA.out HBr.out) 3).trans rfl;have HLQ:=Sd.mk hlq;clear hOC;go_wp2_with fail;clear hx0 hb3;go_loopw [5,59] (fun v5 v59 wr=>∃ i:Nat,v59 = .int .i64 (i:Int)∧i ≤ n3∧Sd (Kd.R kCs 70 wr wA.heap.size (fun _=>True) v5 (allL F p n3 a ++ allP F n3 a q ++ allQ F a b i))∧Sd (Below wA.heap.size wA wr)) (fun _ v59 _=>((n3:Int) - intV v59).toNat)
       case atStart=>exact ⟨0,rfl,Nat.zero_le _,⟨by rw [show allQ F a b 0 = [] from rfl,List.append_nil];exact HR.out⟩,HBr⟩
       case round =>
        clear HR HBr;obtain ⟨i,rfl,hi,HR,HBr⟩:=hrel;by_cases hli:i < n3
        ·(have hli':decide ((i:Int) < (n3:Int))=true:=by simp;omega);have r1:(0 ≤ (i:Int))=True:=eq_true (by omega);have r2:((i:Int) < (n3:Int))=True:=eq_true (by omega);obtain ⟨ad3,e3,hx0,hx1,hx2,hx3,hx4⟩:=at_T85 (Kd.C_below HR3.out (below_step HWA.out HBr.out)) (i:Int) (by omega) (by omega);subst e3;rw [HC3.out i hli] at hx0 hx1 hx2 hx3 hx4;simp only [Int.toNat_natCast] at hx0 hx1 hx2 hx3 hx4;have HFX:=Sd.mk (HF.out a b i);generalize l3.getD i z85=x at *;have HLI:=Sd.mk hli;go_upto_region 20 with (((with_reducible refine gate_dst (N:=14) rfl ?_);refine box_event ?hg (N:=14) ?hd (cs:=#[.int .i64 0,.bool false,.int .i64 0,.int .i64 0,.int .i64 0]) (t:=85) ?hr ?_;(case hd=>rfl);(case hg=>rfl);(case hr=>first|(go_simp;done)|(go_simp;rfl));intro gb hgb w9 hbox hb;have HB9:=Sd.mk hb;have BK9:=Sd.mk hbox;have HGB:=Sd.mk hgb;have hcz0:=(blk_cell hbox 0);have hcz1:=(blk_cell hbox 1);have hcz2:=(blk_cell hbox 2);have hcz3:=(blk_cell hbox 3);have hcz4:=(blk_cell hbox 4);have hfz0:=blk_frozen hbox 0;have hfz1:=blk_frozen hbox 1;have hfz2:=blk_frozen hbox 2;have hfz3:=blk_frozen hbox 3;have hfz4:=blk_frozen hbox 4;clear hb hbox hgb));have HrB:Sd (Below wr.heap.size wr (((((w9.setCell { block:=gb,off:=0 } (Value.int IntKind.i64 x.f0)).setCell { block:=gb,off:=1 } (Value.bool x.f1)).setCell { block:=gb,off:=2 } (Value.int IntKind.i64 x.f2)).setCell { block:=gb,off:=3 } (Value.int IntKind.i64 x.f3)).setCell { block:=gb,off:=4 } (Value.int IntKind.i64 x.f4))):=⟨by
          have hle:wr.heap.size ≤ gb:=by rw [HGB.out];exact Nat.le_refl _
          exact below_set (below_set (below_set (below_set (below_set HB9.out hle) hle) hle) hle) hle⟩
         have BKb:Sd ((((((w9.setCell { block:=gb,off:=0 } (Value.int IntKind.i64 x.f0)).setCell { block:=gb,off:=1 } (Value.bool x.f1)).setCell { block:=gb,off:=2 } (Value.int IntKind.i64 x.f2)).setCell { block:=gb,off:=3 } (Value.int IntKind.i64 x.f3)).setCell { block:=gb,off:=4 } (Value.int IntKind.i64 x.f4)).heap[gb]? = some (.cells #[.int .i64 x.f0,.bool x.f1,.int .i64 x.f2,.int .i64 x.f3,.int .i64 x.f4] 85 (0,0))):=⟨by
          refine blk_put (cs:=#[.int .i64 x.f0,.bool x.f1,.int .i64 x.f2,.int .i64 x.f3,.int .i64 0]) ?_ 4 _ rfl
          refine blk_put (cs:=#[.int .i64 x.f0,.bool x.f1,.int .i64 x.f2,.int .i64 0,.int .i64 0]) ?_ 3 _ rfl
          refine blk_put (cs:=#[.int .i64 x.f0,.bool x.f1,.int .i64 0,.int .i64 0,.int .i64 0]) ?_ 2 _ rfl
          refine blk_put (cs:=#[.int .i64 x.f0,.bool false,.int .i64 0,.int .i64 0,.int .i64 0]) ?_ 1 _ rfl
          exact blk_put BK9.out 0 _ rfl⟩
         generalize (((((w9.setCell { block:=gb,off:=0 } (Value.int IntKind.i64 x.f0)).setCell { block:=gb,off:=1 } (Value.bool x.f1)).setCell { block:=gb,off:=2 } (Value.int IntKind.i64 x.f2)).setCell { block:=gb,off:=3 } (Value.int IntKind.i64 x.f3)).setCell { block:=gb,off:=4 } (Value.int IntKind.i64 x.f4))=wB at *;have HRB:=Sd.mk (Kd.R_below HR.out HrB.out);have HAB:=Sd.mk (below_step HBr.out HrB.out);clear hcz0 hcz1 hcz2 hcz3 hcz4 hfz0 hfz1 hfz2 hfz3 hfz4 HB9 BK9 HGB HR HBr HrB;obtain ⟨x0,sx,x2,x3,x4⟩:=x;have hs1:wB.cell? ⟨gb,1,none⟩=some (.bool sx):=(blk_cell BKb.out 1).trans rfl;clear hx0 hx1 hx2 hx3 hx4;cases sx with
         | false =>
          have HE:Sd (allQ F a b (i + 1)=allQ F a b i):=⟨by rw [allQ_next,HFX.out,if_neg (by simp),List.append_nil]⟩;go_wp2_with fail;go_roundw
          case measure=>simp [intV];omega
          case rel=>exact ⟨i + 1,by simp,by omega,⟨by rw [HE.out];exact HRB.out⟩,HAB⟩
         | true =>
          have ha0:wB.cell? ⟨g,0,none⟩=some (.slice A0 n0 c0):=(blk_cell (blk_below BrA.out HAB.out) 0).trans rfl;have ha1:wB.cell? ⟨g,1,none⟩=some (.slice A1 n1 c1):=(blk_cell (blk_below BrA.out HAB.out) 1).trans rfl;have ha2:wB.cell? ⟨g,2,none⟩=some (.slice A2 n2 c2):=(blk_cell (blk_below BrA.out HAB.out) 2).trans rfl;have ha3:wB.cell? ⟨g,3,none⟩=some (.slice (some ad3) n3 c3):=(blk_cell (blk_below BrA.out HAB.out) 3).trans rfl;have ha4:wB.cell? ⟨g,4,none⟩=some (.slice A4 p c4):=(blk_cell (blk_below BrA.out HAB.out) 4).trans rfl;have hb0:wB.cell? ⟨g8,0,none⟩=some (.slice Avs sl cvs):=(blk_cell (blk_below BK8.out HAB.out) 0).trans rfl;have hb1:wB.cell? ⟨g8,1,none⟩=some (.map (some mb)):=(blk_cell (blk_below BK8.out HAB.out) 1).trans rfl;have HCALL:=Sd.mk (HATT.out wB wrs mb fs _ a b i HLA.out HLB.out HLI.out (below_step HWA.out HAB.out) (HTA.out.below HAB.out) (Nat.le_trans HWS.out HAB.out.size));go_upto_region 21 with fail;go_wp2_with fail;refine HCALL.out.mono ?_;rintro e wC ⟨v0,v1,rfl,⟨B0,m0,d0,rfl⟩,⟨B1,m1,d1,rfl⟩,hbC⟩;have HRC:=Sd.mk (Kd.R_below HRB.out hbC);have HAC:=Sd.mk (below_step HAB.out hbC);clear hbC ha0 ha1 ha2 ha3 ha4 hb0 hb1 hs1 HCALL HRB HAB BKb;generalize fd a b i=t at *;go_upto_region 22 with (((with_reducible refine gate_dst (N:=15) rfl ?_);refine box_event ?hg (N:=15) ?hd (cs:=#[.slice none 0 0,.slice none 0 0]) (t:=34) ?hr ?_;(case hd=>rfl);(case hg=>rfl);(case hr=>first|(go_simp;done)|(go_simp;rfl));intro gc hgc wD hbox hb;have HBD:=Sd.mk hb;have HGC:=Sd.mk hgc;have hcz0:=(blk_cell hbox 0);have hcz1:=(blk_cell hbox 1);have hfz0:=blk_frozen hbox 0;have hfz1:=blk_frozen hbox 1;clear hb hbox hgc));have HrE:Sd (Below wC.heap.size wC ((wD.setCell { block:=gc,off:=0 } (.slice B0 m0 d0)).setCell { block:=gc,off:=1 } (.slice B1 m1 d1))):=⟨by
           have hle:wC.heap.size ≤ gc:=by rw [HGC.out];exact Nat.le_refl _
           exact below_set (below_set HBD.out hle) hle⟩
          generalize ((wD.setCell { block:=gc,off:=0 } (.slice B0 m0 d0)).setCell { block:=gc,off:=1 } (.slice B1 m1 d1))=wE at *;have HRE:=Sd.mk (Kd.R_below HRC.out HrE.out);have HAE:=Sd.mk (below_step HAC.out HrE.out);clear hcz0 hcz1 hfz0 hfz1 HBD HGC HrE HRC HAC;cases t with
          | false =>
           have HE:Sd (allQ F a b (i + 1)=allQ F a b i):=⟨by rw [allQ_next,HFX.out,if_neg (by simp),List.append_nil]⟩;go_wp2_with fail;go_roundw
           case measure=>simp [intV];omega
           case rel=>exact ⟨i + 1,by simp,by omega,⟨by rw [HE.out];exact HRE.out⟩,HAE⟩
          | true =>
           have HE:Sd (allQ F a b (i + 1)=allQ F a b i ++ [⟨(a:Int),(b:Int),(i:Int)⟩]):=⟨by rw [allQ_next,HFX.out,if_pos (by simp)]⟩;have HLN:Sd ((allL F p n3 a ++ allP F n3 a q ++ allQ F a b i).length ≤ 2000000000):=⟨all_len F HF1.out _ _ _ _ _ _ _ (by omega) (by omega) (by omega) (by omega) (by omega)⟩;have HEA:Sd (allL F p n3 a ++ allP F n3 a q ++ allQ F a b (i + 1)=(allL F p n3 a ++ allP F n3 a q ++ allQ F a b i) ++ [⟨(a:Int),(b:Int),(i:Int)⟩]):=⟨by rw [HE.out];simp only [List.append_assoc]⟩;clear HE;generalize (allL F p n3 a ++ allP F n3 a q ++ allQ F a b i)=L at *;go_wp2_with (((with_reducible refine gate_builtin (b:=.append) (xs:=#[.tmp 78,.tmp 83]) rfl ?_);at_builtin;refine Kd.R_append kCs (w0:=wA) wA.heap.size rfl (.tmp 78) (.tmp 83) 42 70 (.agg #[.int .i64 0,.int .i64 0,.int .i64 0]) 24 rfl Tryz.underlying42 infoCla rfl (by decide) (by omega) u5 L ⟨(a:Int),(b:Int),(i:Int)⟩ [.int .i64 (a:Int),.int .i64 (b:Int),.int .i64 (i:Int)] (fun _=>True) (fun _=>False) rfl rfl ?aP (fun _ hk=>hk.elim) ?aF ?aO ?aB ?aS ?aL ?_;(case aP=>exact ⟨_,_,rfl,rfl,⟨_,_,rfl,rfl,rfl⟩⟩);(case aB=>exact HAE.out);(case aF=>exact (fun _ _=>trivial));(case aO=>exact HRE.out);(case aS=>exact below_size HAE.out);(case aL=>have:=HLN.out;omega);intro vF wF ho hb hg5 hat;have HRF:=Sd.mk ho;have HAF:=Sd.mk hb;clear ho hb hg5 hat));go_roundw
           case measure=>simp [intV];omega
           case rel=>exact ⟨i + 1,by simp,by omega,⟨by rw [HEA.out];exact HRF.out⟩,HAF⟩
        ·(have hli':decide ((i:Int) < (n3:Int))=false:=by simp;omega);(obtain rfl:i=n3:=by omega);have HE:Sd (allL F p i a ++ allP F i a (q + 1)=allL F p i a ++ allP F i a q ++ allQ F a b i):=⟨by rw [allP_next,HBQ.out,List.append_assoc]⟩;go_wp2_with fail;go_roundw
         case measure=>simp [intV];omega
         case rel=>exact ⟨q + 1,by simp,by have:=HLQ.out;omega,⟨by rw [HE.out];exact HR.out⟩,HBr⟩
      ·(have hlq':decide ((q:Int) < ((p - a:Nat):Int))=false:=by simp;omega);(have hlq2:decide ((q:Int) < (p:Int) - (a:Int))=false:=by simp;omega);(obtain rfl:q=p - a:=by omega);have HE:Sd (allL F p n3 (a + 1)=allL F p n3 a ++ allP F n3 a (p - a)):=⟨allL_next F p n3 a⟩;go_wp2_with fail;go_roundw
       case measure=>simp [intV];omega
       case rel=>exact ⟨a + 1,by simp,by have:=HLA.out;omega,⟨by rw [HE.out];exact HR.out⟩,HBr⟩
    ·(have hla':decide ((a:Int) < (p:Int))=false:=by simp;omega);(obtain rfl:a=p:=by omega);go_wp2_with fail;go_ret;exact ⟨_,rfl,Kd.R_lower HR.out (below_size HWA.out),below_step HWA.out HBr.out⟩
theorem all_no (A0:Option Addr) (n0 c0:Nat) (A1:Option Addr) (n1 c1:Nat) (A2:Option Addr) (n2 c2:Nat) (A3:Option Addr) (n3 c3:Nat) (A4:Option Addr) (n4 c4:Nat) (Ad:Option Addr) (nd cd:Nat) (w:World) (N:Nat) (hN:N=0 ∨ nd ≠ n0)
  (hmany:∀ w',Below w.heap.size w w' → Calls Tryz.prog 21 #[.agg #[.slice A0 n0 c0,.slice A1 n1 c1,.slice A2 n2 c2,.slice A3 n3 c3,.slice A4 n4 c4]] w' fun e w''=>e = .returned (.int .i64 (N:Int))∧Below w'.heap.size w' w'') :
  Calls Tryz.prog 16 #[.agg #[.slice A0 n0 c0,.slice A1 n1 c1,.slice A2 n2 c2,.slice A3 n3 c3,.slice A4 n4 c4],.slice Ad nd cd] w fun e w'=>e = .returned (.slice none 0 0)∧Below w.heap.size w w':=by
 have HMANY:=Sd.mk hmany;have HNO:=Sd.mk hN;clear hmany hN;go_enter Tryz.func16,Tryz.ntmps16;go_upto_region 1 with (((with_reducible refine gate_dst (N:=2) rfl ?_);refine box_event ?hg (N:=2) ?hd (cs:=#[.slice A0 n0 c0,.slice A1 n1 c1,.slice A2 n2 c2,.slice A3 n3 c3,.slice A4 n4 c4]) (t:=26) ?hr ?_;(case hd=>rfl);(case hg=>rfl);(case hr=>first|(go_simp;done)|(go_simp;rfl));intro g hg w3 hbox hb;have HB3:=Sd.mk hb;have BK:=Sd.mk hbox;clear hb hbox hg));obtain ⟨ha0,ha1,ha2,ha3,ha4⟩:=bc5 BK.out;go_wp2_with fail;refine (HMANY.out _ HB3.out).mono ?_;rintro e w4 ⟨rfl,hb4⟩;have HB4:=Sd.mk (below_step HB3.out hb4);have BK4:=Sd.mk (blk_below BK.out hb4);clear hb4 ha0 ha1 ha2 ha3 ha4 HB3 BK;have ha0:w4.cell? ⟨g,0,none⟩=some (.slice A0 n0 c0):=(blk_cell BK4.out 0).trans rfl;by_cases hz:N=0
 ·subst hz;have hq:(((0:Nat):Int) == 0)=true:=rfl;go_wp2_with fail;go_ret;exact ⟨rfl,HB4.out⟩
 ·(have hnz:((N:Int) == 0)=false:=by simp;omega);(have hnz2:(N == 0)=false:=by simp;omega);have hnz3:decide (N=0)=false:=decide_eq_false (by omega);have hne:nd ≠ n0:=HNO.out.resolve_left hz;(have hdd:((nd:Int) != (n0:Int))=true:=by simp;omega);have hdd2:decide (nd=n0)=false:=decide_eq_false hne;(have hdd3:(nd == n0)=false:=by simp;omega);clear hz hne;go_wp2_with fail;go_ret;exact ⟨rfl,HB4.out⟩
def fdN (l0 l1 l2:List ByteArray) (l3:List Cl) (l4:List Op_) (drops:List Bool) (a b i:Nat):Bool:=(findN l0 l1 l2 l3 l4 drops (a:Int) (b:Int) (i:Int)).isSome
def clF (l0 l1 l2:List ByteArray) (l3:List Cl) (l4:List Op_) (drops:List Bool) (a b i:Nat):List Cs:=if (l3.getD i z85).f1=true∧fdN l0 l1 l2 l3 l4 drops a b i=true then [⟨(a:Int),(b:Int),(i:Int)⟩] else []
def allR (l0 l1 l2:List ByteArray) (l3:List Cl) (l4:List Op_) (drops:List Bool):List Cs :=
 if manyN l0 l1 l2 l3 l4=0 ∨ drops.length ≠ l0.length then [] else allL (clF l0 l1 l2 l3 l4 drops) l4.length l3.length l4.length
theorem many_check {l0 l1 l2:List ByteArray} {l3:List Cl} {l4:List Op_} (h:manyN l0 l1 l2 l3 l4 ≠ 0):checkB l0 l1 l2 l3 l4=true:=by
 unfold manyN at h;split at h
 ·rename_i h2;exact h2.1
 ·omega
theorem all_call (A0:Option Addr) (c0:Nat) (l0:List ByteArray) (A1:Option Addr) (c1:Nat) (l1:List ByteArray) (A2:Option Addr) (c2:Nat) (l2:List ByteArray) (A3:Option Addr) (c3:Nat) (l3:List Cl) (A4:Option Addr) (c4:Nat) (l4:List Op_) (Ad:Option Addr) (cd:Nat) (drops:List Bool) (w:World)
  (hr0:Kd.C Kd.string w A0 l0.length l0) (hc0:l0.length ≤ c0) (hr1:Kd.C Kd.string w A1 l1.length l1) (hc1:l1.length ≤ c1) (hr2:Kd.C Kd.string w A2 l2.length l2) (hc2:l2.length ≤ c2) (hr3:Kd.C k85 w A3 l3.length l3) (hc3:l3.length ≤ c3) (hr4:Kd.C k89 w A4 l4.length l4) (hc4:l4.length ≤ c4) (hrd:Kd.C Kd.bool w Ad drops.length drops) (hcd:drops.length ≤ cd)
  (hru:RuOk l0 l1 l2 l3 l4) :
  Calls Tryz.prog 16 #[.agg #[.slice A0 l0.length c0,.slice A1 l1.length c1,.slice A2 l2.length c2,.slice A3 l3.length c3,.slice A4 l4.length c4],.slice Ad drops.length cd] w fun e w'=>∃ v:Value,e = .returned v∧Kd.R kCs 70 w' w.heap.size (fun _=>True) v (allR l0 l1 l2 l3 l4 drops)∧Below w.heap.size w w':=by
 obtain ⟨kn,hkn⟩:=Ev.rounds (g:=fun k=>pairs_Many.f k l0 l1 l2 l3 l4) (many_ev l0 l1 l2 l3 l4 hru);have hmany:∀ w',Below w.heap.size w w' → Calls Tryz.prog 21 #[.agg #[.slice A0 l0.length c0,.slice A1 l1.length c1,.slice A2 l2.length c2,.slice A3 l3.length c3,.slice A4 l4.length c4]] w' fun e w''=>e = .returned (.int .i64 (manyN l0 l1 l2 l3 l4:Int))∧Below w'.heap.size w' w'':=fun w' hx =>
  pairs_Many.calls kn A0 c0 l0 A1 c1 l1 A2 c2 l2 A3 c3 l3 A4 c4 l4 _ w' (Kd.C_below hr0 hx) hc0 (Kd.C_below hr1 hx) hc1 (Kd.C_below hr2 hx) hc2 (Kd.C_below hr3 hx) hc3 (Kd.C_below hr4 hx) hc4 hkn
 by_cases hno:manyN l0 l1 l2 l3 l4=0 ∨ drops.length ≠ l0.length
 ·rw [show allR l0 l1 l2 l3 l4 drops = [] from if_pos hno];exact (all_no A0 l0.length c0 A1 l1.length c1 A2 l2.length c2 A3 l3.length c3 A4 l4.length c4 Ad drops.length cd w _ hno hmany).mono fun e w2 ⟨he,hb⟩=>⟨_,he,Kd.R_nil _ _ _ _ _,hb⟩
 ·(have hN:manyN l0 l1 l2 l3 l4 ≠ 0:=fun e=>hno (.inl e));(have hdl:drops.length=l0.length:=Classical.byContradiction fun e=>hno (.inr e));have hck:=many_check hN;have hpt:=checkB_parts hck;have hdn:=dlen l0 l1 l2 l3 l4 hck;have hdb:=dle l0 l1 l2 l3 l4 hck;have hML:=many_le l0 l1 l2 l3 l4;(have hs0:∀ n,(stN l0.length l1.length n).f0.length=l0.length:=fun n=>bitsL_len _ _);(have hs1:∀ n,(stN l0.length l1.length n).f1.length=l1.length:=fun n=>digsL_len _ _);(have hsd:∀ n,∀ x ∈ (stN l0.length l1.length n).f1,0 ≤ x∧x ≤ 2:=fun n=>digsL_le _ _);(have hwo:∀ n,StOk (wS (stN l0.length l1.length n).f0) (wC (stN l0.length l1.length n).f1):=fun n=>wide_ok _ (by rw [hs0];omega) (by rw [hs1];omega));have hwm:∀ n,mayS l0.length l1.length (wS (stN l0.length l1.length n).f0) (wC (stN l0.length l1.length n).f1)=true:=fun n=>by
   have:=wide_may (stN l0.length l1.length n) (fun x hx=>by have:=hsd n x hx;omega);rwa [hs0,hs1] at this
  (have hal:=fun (a b:Int) (n:Nat)=>apartS_len l4 drops (stN l0.length l1.length n) a b);(have hab:=fun (a b:Int) (n:Nat)=>apartS_le l4 hdb drops (stN l0.length l1.length n) a b (fun x hx=>by have:=hsd n x hx;omega));(have hao:∀ (a b:Int) (n:Nat),StOk (wS (apartS l4 drops (stN l0.length l1.length n) a b).f0) (wC (apartS l4 drops (stN l0.length l1.length n) a b).f1):=fun a b n=>wide_ok _ (by rw [(hal a b n).1,hs0];omega) (by rw [(hal a b n).2,hs1];omega));have ham:∀ (a b:Int) (n:Nat),mayS l0.length l1.length (wS (apartS l4 drops (stN l0.length l1.length n) a b).f0) (wC (apartS l4 drops (stN l0.length l1.length n) a b).f1)=true:=fun a b n=>by
   have:=wide_may (apartS l4 drops (stN l0.length l1.length n) a b) (fun x hx=>by have:=hab a b n x hx;omega);rwa [(hal a b n).1,(hal a b n).2,hs0,hs1] at this
  obtain ⟨kn,hkn⟩:=Ev.rounds (g:=fun k=>pairs_Many.f k l0 l1 l2 l3 l4) (many_ev l0 l1 l2 l3 l4 hru);have hmem:∀ o:Int,o ∈ (List.range l4.length).map (fun (i:Nat)=>(i:Int)) ↔ 0 ≤ o∧o < (l4.length:Int):=fun o=>by
   rw [List.mem_map];constructor
   ·rintro ⟨j,hj,rfl⟩;have:=List.mem_range.1 hj;omega
   ·rintro ⟨h0,h1⟩;exact ⟨o.toNat,List.mem_range.2 (by omega),by omega⟩
  rw [show allR l0 l1 l2 l3 l4 drops=allL (clF l0 l1 l2 l3 l4 drops) l4.length l3.length l4.length from if_neg hno];refine all_walk A0 l0.length c0 A1 l1.length c1 A2 l2.length c2 A3 c3 l3 A4 l4.length c4 Ad drops.length cd w hdl.symm (manyN l0 l1 l2 l3 l4)
   (valT ((List.range l4.length).map (fun (i:Nat)=>(i:Int))) (fun o n=>freeN l3 l4 (stN l0.length l1.length n) o) (manyN l0 l1 l2 l3 l4) 0) ((List.range (manyN l0 l1 l2 l3 l4)).map (stN l0.length l1.length)) (fdN l0 l1 l2 l3 l4 drops) (clF l0 l1 l2 l3 l4 drops) hr3 hc3 (by omega) (by omega) (by omega) (fun _ _ _=>rfl) hmany ?_ ?_
  ·intro w' Ao co hw hCo hco;rw [show (Value.slice Ao l4.length co)=Value.slice Ao ((List.range l4.length).map (fun (i:Nat)=>(i:Int))).length co by rw [List.length_map,List.length_range]];refine tabled_walk A0 l0.length c0 A1 l1.length c1 A2 l2.length c2 A3 l3.length c3 A4 l4.length c4 Ao co ((List.range l4.length).map (fun (i:Nat)=>(i:Int))) w' (manyN l0 l1 l2 l3 l4) (stN l0.length l1.length) (fun n=>(wS (stN l0.length l1.length n).f0,wC (stN l0.length l1.length n).f1)) (fun n=>brL l3 (wS (stN l0.length l1.length n).f0) (wC (stN l0.length l1.length n).f1)) (fun o n=>firstN l3 l4 (wS (stN l0.length l1.length n).f0) (wC (stN l0.length l1.length n).f1) o) (fun o n=>freeN l3 l4 (stN l0.length l1.length n) o) (by rw [List.length_map,List.length_range];exact hCo) (by rw [List.length_map,List.length_range];exact hco) (by rw [List.length_map,List.length_range];omega) hML (fun o n=>rfl) ?_ ?_ ?_ ?_ ?_
   ·intro w2 hw2;have hx:=below_step hw hw2;exact pairs_Many.calls kn A0 c0 l0 A1 c1 l1 A2 c2 l2 A3 c3 l3 A4 c4 l4 _ w2 (Kd.C_below hr0 hx) hc0 (Kd.C_below hr1 hx) hc1 (Kd.C_below hr2 hx) hc2 (Kd.C_below hr3 hx) hc3 (Kd.C_below hr4 hx) hc4 hkn
   ·intro n hn w2 hw2;have hx:=below_step hw hw2;obtain ⟨k,hk⟩:=Ev.rounds (g:=fun k=>pairs_state.f k l0 l1 l2 l3 l4 (n:Int)) (state_ev l0 l1 l2 l3 l4 (by omega) (by omega) n (by omega));exact pairs_state.calls k A0 c0 l0 A1 c1 l1 A2 c2 l2 A3 c3 l3 A4 c4 l4 _ _ _ w2 (Kd.C_below hr0 hx) hc0 (Kd.C_below hr1 hx) hc1 (Kd.C_below hr2 hx) hc2 (Kd.C_below hr3 hx) hc3 (Kd.C_below hr4 hx) hc4 hk
   ·intro n hn w2 B0 d0 B1 d1 k0 e0 k1 e1;obtain ⟨k,hk⟩:=Ev.rounds (g:=fun k=>pairs_wide.f k (stN l0.length l1.length n).f0 (stN l0.length l1.length n).f1) (wide_ev _ (by rw [hs0];omega) (by rw [hs1];omega));exact pairs_wide.calls k B0 d0 _ B1 d1 _ _ _ w2 k0 e0 k1 e1 hk
   ·intro n hn w2 B0 d0 B1 d1 hw2 k0 e0 k1 e1;have hx:=below_step hw hw2;obtain ⟨k,hk⟩:=Ev.rounds (g:=fun k=>eval_Broken.f k l0 l1 l2 l3 l4 (wS (stN l0.length l1.length n).f0) (wC (stN l0.length l1.length n).f1)) (broken_ev l0 l1 l2 l3 l4 hck hru _ _ (hwo n) (hwm n));exact eval_Broken.calls k A0 c0 l0 A1 c1 l1 A2 c2 l2 A3 c3 l3 A4 c4 l4 B0 d0 _ B1 d1 _ _ w2 (Kd.C_below hr0 hx) hc0 (Kd.C_below hr1 hx) hc1 (Kd.C_below hr2 hx) hc2 (Kd.C_below hr3 hx) hc3 (Kd.C_below hr4 hx) hc4 k0 e0 k1 e1 hk
   ·intro n hn o ho hbr w2 B0 d0 B1 d1 hw2 k0 e0 k1 e1;have hx:=below_step hw hw2;have hor:0 ≤ o∧o < (l4.length:Int):=(hmem o).1 ho;obtain ⟨k,hk⟩:=Ev.rounds (g:=fun k=>wp_First.f k l0 l1 l2 l3 l4 (wS (stN l0.length l1.length n).f0) (wC (stN l0.length l1.length n).f1) o kB) (first_ev l0 l1 l2 l3 l4 hck hru _ _ (hwo n) (hwm n) o hor);exact (wp_First.calls k A0 c0 l0 A1 c1 l1 A2 c2 l2 A3 c3 l3 A4 c4 l4 B0 d0 _ B1 d1 _ o kB _ _ w2 (Kd.C_below hr0 hx) hc0 (Kd.C_below hr1 hx) hc1 (Kd.C_below hr2 hx) hc2 (Kd.C_below hr3 hx) hc3 (Kd.C_below hr4 hx) hc4 k0 e0 k1 e1 hk).mono fun e w3 ⟨he,hb3⟩=>⟨_,he,hb3⟩
  ·intro w' w0s mb fs vs a b cl ha hb hcl hw hT hle;have hval:∀ o,0 ≤ o∧o < (l4.length:Int) → valT ((List.range l4.length).map (fun (i:Nat)=>(i:Int))) (fun o n=>freeN l3 l4 (stN l0.length l1.length n) o) (manyN l0 l1 l2 l3 l4) 0 o=(List.range (manyN l0 l1 l2 l3 l4)).map (fun n=>freeN l3 l4 (stN l0.length l1.length n) o):=fun o ho=>by
    unfold valT cntT;rw [List.take_zero,if_neg (by simp),if_pos ((hmem o).2 ho)]
   have hA:=attab_walk A0 l0.length c0 A1 l1.length c1 A2 l2.length c2 A3 l3.length c3 A4 l4.length c4 Ad drops.length cd (a:Int) (b:Int) (cl:Int) w' w0s mb fs _ vs (manyN l0 l1 l2 l3 l4) (stN l0.length l1.length) (fun o n=>freeN l3 l4 (stN l0.length l1.length n) o) (fun n=>((apartS l4 drops (stN l0.length l1.length n) (a:Int) (b:Int)).f0,(apartS l4 drops (stN l0.length l1.length n) (a:Int) (b:Int)).f1)) (fun n=>([],[])) (fun n=>(wS (apartS l4 drops (stN l0.length l1.length n) (a:Int) (b:Int)).f0,wC (apartS l4 drops (stN l0.length l1.length n) (a:Int) (b:Int)).f1)) (fun n=>holdsB (wS (apartS l4 drops (stN l0.length l1.length n) (a:Int) (b:Int)).f0) (wC (apartS l4 drops (stN l0.length l1.length n) (a:Int) (b:Int)).f1) (rd_T85 l3 (cl:Int))) hT hle hML (hval a ⟨by omega,by omega⟩) (hval b ⟨by omega,by omega⟩) ?_ ?_ ?_
   ·exact hA.mono fun e w2 ⟨v0,v1,he,h3,h4,h5⟩=>by
     obtain ⟨B0,d0,rfl,_,_⟩:=Kd.R_reads h3;obtain ⟨B1,d1,rfl,_,_⟩:=Kd.R_reads h4;exact ⟨_,_,he,⟨_,_,_,rfl⟩,⟨_,_,_,rfl⟩,h5⟩
   ·intro n hn _ _ w2 D0 d0 D1 d1 hw2 k0 e0 k1 e1;have hx:=below_step hw hw2;obtain ⟨k,hk⟩:=Ev.rounds (g:=fun k=>pairs_apart.f k l0 l1 l2 l3 l4 drops (stN l0.length l1.length n).f0 (stN l0.length l1.length n).f1 (a:Int) (b:Int)) (apart_ev l0 l1 l2 l3 l4 hdn hdb drops (stN l0.length l1.length n) (a:Int) (b:Int) (by rw [hs0];omega) (by rw [hs1];omega) (by rw [hs0];exact hdl) (fun x hx2=>by have:=hsd n x hx2;omega));exact pairs_apart.calls k A0 c0 l0 A1 c1 l1 A2 c2 l2 A3 c3 l3 A4 c4 l4 Ad cd drops D0 d0 _ D1 d1 _ (a:Int) (b:Int) _ _ w2 (Kd.C_below hr0 hx) hc0 (Kd.C_below hr1 hx) hc1 (Kd.C_below hr2 hx) hc2 (Kd.C_below hr3 hx) hc3 (Kd.C_below hr4 hx) hc4 (Kd.C_below hrd hx) hcd k0 e0 k1 e1 hk
   ·intro n hn _ _ w2 D0 d0 D1 d1 k0 e0 k1 e1;obtain ⟨k,hk⟩:=Ev.rounds (g:=fun k=>pairs_wide.f k (apartS l4 drops (stN l0.length l1.length n) (a:Int) (b:Int)).f0 (apartS l4 drops (stN l0.length l1.length n) (a:Int) (b:Int)).f1) (wide_ev _ (by rw [(hal _ _ n).1,hs0];omega) (by rw [(hal _ _ n).2,hs1];omega));exact pairs_wide.calls k D0 d0 _ D1 d1 _ _ _ w2 k0 e0 k1 e1 hk
   ·intro n hn _ _ w2 D0 d0 D1 d1 hw2 k0 e0 k1 e1;have hx:=below_step hw hw2;exact eval_Holds.calls A0 c0 l0 A1 c1 l1 A2 c2 l2 A3 c3 l3 A4 c4 l4 D0 d0 _ D1 d1 _ (cl:Int) _ w2 (Kd.C_below hr0 hx) hc0 (Kd.C_below hr1 hx) hc1 (Kd.C_below hr2 hx) hc2 (Kd.C_below hr3 hx) hc3 (Kd.C_below hr4 hx) hc4 k0 e0 k1 e1 (holds_f l0 l1 l2 l3 l4 hck hru _ _ (hao _ _ n) (ham _ _ n) (cl:Int) (by omega) (by omega))
def pairs_All.f (l0 l1 l2:List ByteArray) (l3:List Cl) (l4:List Op_) (drops:List Bool):Option (List Cs) :=
 if RuOk l0 l1 l2 l3 l4 then some (allR l0 l1 l2 l3 l4 drops) else none
theorem pairs_All.calls (A0:Option Addr) (c0:Nat) (l0:List ByteArray) (A1:Option Addr) (c1:Nat) (l1:List ByteArray) (A2:Option Addr) (c2:Nat) (l2:List ByteArray) (A3:Option Addr) (c3:Nat) (l3:List Cl) (A4:Option Addr) (c4:Nat) (l4:List Op_) (Ad:Option Addr) (cd:Nat) (drops:List Bool) (r:List Cs) (w:World)
  (hr0:Kd.C Kd.string w A0 l0.length l0) (hc0:l0.length ≤ c0) (hr1:Kd.C Kd.string w A1 l1.length l1) (hc1:l1.length ≤ c1) (hr2:Kd.C Kd.string w A2 l2.length l2) (hc2:l2.length ≤ c2) (hr3:Kd.C k85 w A3 l3.length l3) (hc3:l3.length ≤ c3) (hr4:Kd.C k89 w A4 l4.length l4) (hc4:l4.length ≤ c4) (hrd:Kd.C Kd.bool w Ad drops.length drops) (hcd:drops.length ≤ cd)
  (h:pairs_All.f l0 l1 l2 l3 l4 drops=some r) :
  Calls Tryz.prog 16 #[.agg #[.slice A0 l0.length c0,.slice A1 l1.length c1,.slice A2 l2.length c2,.slice A3 l3.length c3,.slice A4 l4.length c4],.slice Ad drops.length cd] w fun e w'=>∃ v0_:Value,e = .returned v0_∧Kd.R kCs 70 w' w.heap.size (fun _=>True) v0_ r∧Below w.heap.size w w':=by
 unfold pairs_All.f at h;by_cases hru:RuOk l0 l1 l2 l3 l4
 ·rw [if_pos hru] at h;obtain rfl:=Option.some.inj h;exact all_call A0 c0 l0 A1 c1 l1 A2 c2 l2 A3 c3 l3 A4 c4 l4 Ad cd drops w hr0 hc0 hr1 hc1 hr2 hc2 hr3 hc3 hr4 hc4 hrd hcd hru
 ·rw [if_neg hru] at h;exact absurd h (by simp)
end Go.Proofs.YtjbjbeihkoeciaaGreat.X

/- Joined texts of this session, without what nothing needs: Ord, X0, Sq, Sq2, Marks, SoP, ConStr, SoNames, LexA, LexB, LexWord, XslicesIndexstring, XslicesContainsstring, XparseKept, Xsortsword, PaK, SoWord, SoNamed, SoLeast, Xsortswithin, Xsortsdoing, Xsortsto, SoThing, SoDo, SoClause, SoOper, EvClause, EvOper, SoLits, FnP, IdxClause1, IdxOper1, SoCheck, Xhucksterref16in, R16Cl, Evx. -/
import Derived.Test.YtjbjbeihkoeciaaGreatProg
import Derived.Below
import Derived.Deep.Draws
import Derived.Deep.AppendLies
import Derived.Maps.AppendAt
import Derived.OwnWalk
import Derived.Laws.BytesArg
import Derived.Laws.MakeOwn
import Derived.Laws.OwnMore
import Derived.Deep.OwnRows
import Derived.Tactics
import Derived.Lib.ConvBytes
import Derived.Laws.Slices
import Derived.WalkKit
import Derived.KernelRfl
import Derived.RowKit3
import Derived.Deep.LoopGhost
import Derived.Deep.QuietTactic
import Derived.BigQuiet
import Derived.WideLaws
import Derived.Deep.DeepCutAuto
import Derived.Deep.CutBlock
import Derived.Deep.RegionHeld3
import Derived.Laws.Rows
import Derived.Lib.AppendStr
import Derived.ArgAppend
import Derived.Laws.IdiomCopy
import Derived.OrdersHeld
import Derived.Laws.BitsLemmas
import Derived.RowKit
import Derived.Maps.OwnSet
import Derived.Lib.SliceRun
import Derived.BigCall
import Derived.Laws.RangeAny
import Derived.Lib.Hide
import Derived.Outline
import Derived.LoopTactic
import Derived.StillTailTactics
import Derived.WideKeyArgs
import Derived.DeepKeys4
import Derived.Shelf.Spec.SlicesInsert
import Derived.Lib.AppendZerosOnto
import Derived.Laws.CopyOwn
import Derived.Lib.Overlaps
import Derived.Lib.Bytealg
import Derived.Deep.RegionLaw
import Derived.Test.YtjbjbeihkoeciaaGreatK1
set_option maxHeartbeats 8000000
set_option maxRecDepth 1000000
set_option linter.unusedVariables false
set_option linter.unusedSimpArgs false
namespace Go.Proofs.YtjbjbeihkoeciaaGreat.X
open Go.RowKit Go.Proofs.YtjbjbeihkoeciaaGreatW.PrintWords
theorem less_nil (a:List UInt8):Op.bytesLess a []=false:=by cases a <;> rfl
theorem less_cons (a b:UInt8) (x y:List UInt8):Op.bytesLess (a :: x) (b :: y)=(decide (a < b) || (a == b && Op.bytesLess x y)):=rfl
theorem less_irrefl (a:List UInt8):Op.bytesLess a a=false:=by
 induction a with
 | nil=>rfl
 | cons x a ih =>
  rw [less_cons,ih];simp
theorem less_trans (a b c:List UInt8):Op.bytesLess a b=true → Op.bytesLess b c=true → Op.bytesLess a c=true:=by
 induction a generalizing b c with
 | nil =>
  intro h1 h2;cases b with
  | nil=>rw [less_nil] at h1;cases h1
  | cons y b =>
   cases c with
   | nil=>rw [less_nil] at h2;cases h2
   | cons z c=>rfl
 | cons x a ih =>
  intro h1 h2;cases b with
  | nil=>rw [less_nil] at h1;cases h1
  | cons y b =>
   cases c with
   | nil=>rw [less_nil] at h2;cases h2
   | cons z c =>
    rw [less_cons] at *;simp only [Bool.or_eq_true,decide_eq_true_eq,Bool.and_eq_true,beq_iff_eq,UInt8.lt_iff_toNat_lt] at *;rcases h1 with h1 | ⟨rfl,h1⟩
    ·rcases h2 with h2 | ⟨rfl,h2⟩
     ·exact .inl (by omega)
     ·exact .inl h1
    ·rcases h2 with h2 | ⟨rfl,h2⟩
     ·exact .inl h2
     ·exact .inr ⟨rfl,ih _ _ h1 h2⟩
theorem less_tri (a b:List UInt8):Op.bytesLess a b=false → Op.bytesLess b a=false → a=b:=by
 induction a generalizing b with
 | nil =>
  intro h1 h2;cases b with
  | nil=>rfl
  | cons y b=>exact absurd h1 (by simp [Op.bytesLess])
 | cons x a ih =>
  intro h1 h2;cases b with
  | nil=>exact absurd h2 (by simp [Op.bytesLess])
  | cons y b =>
   rw [less_cons] at *;simp only [Bool.or_eq_false_iff,decide_eq_false_iff_not,Bool.and_eq_false_iff,beq_eq_false_iff_ne,UInt8.lt_iff_toNat_lt] at *;have hxy:x=y:=UInt8.toNat_inj.1 (by omega);subst hxy;rw [ih b (h1.2.resolve_left (fun h=>h rfl)) (h2.2.resolve_left (fun h=>h rfl))]
def blt (a b:ByteArray):Bool:=Op.bytesLess a.toList b.toList
theorem blt_irrefl (a:ByteArray):blt a a=false:=less_irrefl _
theorem blt_trans {a b c:ByteArray} (h:blt a b=true) (k:blt b c=true):blt a c=true:=less_trans _ _ _ h k
theorem bytes_eq {a b:ByteArray} (h:a.toList=b.toList):a=b:=by
 rw [ByteArray.toList_eq,ByteArray.toList_eq] at h;have h2:a.data=b.data:=Array.toList_inj.1 h;cases a;cases b;simp only at h2;rw [h2]
theorem blt_asymm {a b:ByteArray} (h:blt a b=true):blt b a=false:=by
 cases k:blt b a with
 | false=>rfl
 | true=>have:=blt_trans h k;rw [blt_irrefl] at this;cases this
theorem bytes_le (a b:ByteArray):(Op.bytesLess a.toList b.toList || a.toList == b.toList) = !(Op.bytesLess b.toList a.toList):=by
 cases h:Op.bytesLess a.toList b.toList with
 | true =>
  have:=blt_asymm (a:=a) (b:=b) h;unfold blt at this;rw [this];rfl
 | false =>
  cases k:Op.bytesLess b.toList a.toList with
  | true =>
   have:(a.toList == b.toList)=false:=by
    rw [beq_eq_false_iff_ne];intro e;rw [e,less_irrefl] at k;cases k
   rw [this];rfl
  | false=>rw [less_tri _ _ h k];simp
@[go_sem] theorem binOp_leq_less (t:TypeId) (a b:ByteArray):binOp .leq t (.string a) (.string b)=pure (.bool (!(Op.bytesLess b.toList a.toList))):=by
 rw [← bytes_le];simp [binOp,Op.stringOp]
@[go_sem] theorem binOp_gtr_less (t:TypeId) (a b:ByteArray):binOp .gtr t (.string a) (.string b)=pure (.bool (Op.bytesLess b.toList a.toList)):=by
 rw [← Bool.not_not (Op.bytesLess b.toList a.toList),← bytes_le];simp [binOp,Op.stringOp]
@[go_sem] theorem binOp_geq_less (t:TypeId) (a b:ByteArray):binOp .geq t (.string a) (.string b)=pure (.bool (!(Op.bytesLess a.toList b.toList))):=by simp [binOp,Op.stringOp]
def posK (ks:List ByteArray) (key:ByteArray):Nat:=(ks.takeWhile fun x=>blt x key).length
def OrdK (ks:List ByteArray):Prop:=ks.Pairwise fun a b=>blt a b=true
instance (ks:List ByteArray):Decidable (OrdK ks):=by unfold OrdK;infer_instance
theorem ordK_get {ks:List ByteArray} (h:OrdK ks) (i j:Nat) (hij:i < j) (hj:j < ks.length):blt (ks[i]'(by omega)) ks[j]=true:=List.pairwise_iff_getElem.1 h i j (by omega) hj hij
theorem posK_of (ks:List ByteArray) (key:ByteArray) (i:Nat) (hi:i ≤ ks.length) (h1:∀ k (hk:k < ks.length),k < i → blt ks[k] key=true) (h2:∀ (hk:i < ks.length),blt ks[i] key=false):posK ks key=i:=by
 unfold posK;induction ks generalizing i with
 | nil=>simp at hi;simp [hi]
 | cons a ks ih =>
  rcases i with _|i
  ·have:=h2 (by simp);simp only [List.getElem_cons_zero] at this;rw [List.takeWhile_cons,this];rfl
  ·have:=h1 0 (by simp) (by omega);simp only [List.getElem_cons_zero] at this;rw [List.takeWhile_cons,if_pos this,List.length_cons,ih i (by simpa using hi) (fun k hk hki=>by have:=h1 (k + 1) (by simpa using hk) (by omega);simp only [List.getElem_cons_succ] at this;exact this) (fun hk=>by have:=h2 (by simpa using hk);simp only [List.getElem_cons_succ] at this;exact this)]
end Go.Proofs.YtjbjbeihkoeciaaGreat.X
namespace Go.Proofs.YtjbjbeihkoeciaaGreat.X
open Go.RowKit Go.Proofs.YtjbjbeihkoeciaaGreatW.PrintWords Go.Proofs.YtjbjbeihkoeciaaGreatW.PrintLast Go.Proofs.YtjbjbeihkoeciaaGreatW.PrintMore
section
attribute [local go_sem] max2_int min2_int max_two min_two max_three min_three max_four min_four
def errW:Option Int → Value
 | none=>.nilIface
 | some c=>.iface 0 (.int .i64 c)
theorem errW_none:errW none = .nilIface:=rfl
theorem errW_some (c:Int):errW (some c) = .iface 0 (.int .i64 c):=rfl
theorem info3:(Tryz.prog.info? 3).map (fun i=>(i.zero,i.size,i.bytes))=some (some (.int .i64 0),1,8):=by kernel_rfl
theorem info4:(Tryz.prog.info? 4).map (fun i=>(i.zero,i.size,i.bytes))=some (some (.bool false),1,1):=by kernel_rfl
theorem info9:(Tryz.prog.info? 9).map (fun i=>(i.zero,i.size,i.bytes))=some (some (.string ⟨#[]⟩),1,16):=by kernel_rfl
theorem info22:(Tryz.prog.info? 22).map (fun i=>(i.zero,i.size,i.bytes))=some (some (.slice none 0 0),1,24):=by kernel_rfl
theorem info70:(Tryz.prog.info? 70).map (fun i=>(i.zero,i.size,i.bytes))=some (some (.agg #[(.int .i64 0),(.int .i64 0),(.int .i64 0)]),3,24):=by kernel_rfl
theorem info121:(Tryz.prog.info? 121).map (fun i=>(i.zero,i.size,i.bytes))=some (some (.slice none 0 0),1,24):=by kernel_rfl
theorem info127:(Tryz.prog.info? 127).map (fun i=>(i.zero,i.size,i.bytes))=some (some (.agg #[(.int .i64 0),(.int .i64 0),(.int .i64 0),(.int .i64 0),(.int .i64 0)]),5,40):=by kernel_rfl
theorem info158:(Tryz.prog.info? 158).map (fun i=>(i.zero,i.size,i.bytes))=some (some (.agg #[(.string ⟨#[]⟩),(.int .i64 0)]),2,24):=by kernel_rfl
structure S94 where
 f0:Int
 f1:Int
 f2:Int
def z94:S94:=⟨(0:Int),(0:Int),(0:Int)⟩
def k94:Kd S94:=Kd.iso (Kd.pair (Kd.int .i64) (Kd.pair (Kd.int .i64) (Kd.int .i64))) (fun x:S94=>(x.f0,x.f1,x.f2))
theorem k94_open {w:World} {x:S94} {cs:List Value} (h:k94.K w x cs):cs = [.int .i64 x.f0,.int .i64 x.f1,.int .i64 x.f2]:=by
 obtain ⟨_,_,rfl,rfl,⟨_,_,rfl,rfl,rfl⟩⟩:=h;exact rfl
theorem k94_mk (w:World) (x:S94)  : k94.K w x [.int .i64 x.f0,.int .i64 x.f1,.int .i64 x.f2]:=⟨[.int .i64 x.f0],[.int .i64 x.f1,.int .i64 x.f2],rfl,rfl,⟨[.int .i64 x.f1],[.int .i64 x.f2],rfl,rfl,rfl⟩⟩
def rd_T94 (xs:List S94) (i:Int):S94:=xs.getD i.toNat z94
theorem at_T94 {w:World} {A:Option Addr} {n:Nat} {xs:List S94} (h:Kd.C k94 w A n xs) (i:Int) (h0:0 ≤ i) (h1:i < n):∃ ad ,A=some ad∧w.cell? (ad.add (i.toNat * 3))=some (.int .i64 (rd_T94 xs i).f0)∧w.cell? ⟨(ad.add (i.toNat * 3)).block,(ad.add (i.toNat * 3)).off + 1,none⟩=some (.int .i64 (rd_T94 xs i).f1)∧w.cell? ⟨(ad.add (i.toNat * 3)).block,(ad.add (i.toNat * 3)).off + 2,none⟩=some (.int .i64 (rd_T94 xs i).f2):=by
 obtain ⟨ad,c,e,_,hK,hc0⟩:=Kd.C_get h z94 i h0 h1;have hc:∀ j u,c[j]? = some u → w.cell? (ad.add (i.toNat * 3 + j))=some u:=hc0;obtain rfl:=k94_open hK;exact ⟨ad,e,hc 0 _ rfl,by rw [← add_field _ _ 1 (by omega)];exact hc 1 _ rfl,by rw [← add_field _ _ 2 (by omega)];exact hc 2 _ rfl⟩
structure S89 where
 f0:ByteArray
 f1:(List S94)
def z89:S89:=⟨(⟨#[]⟩:ByteArray),([]:List S94)⟩
def k89:Kd S89:=Kd.iso (Kd.pair Kd.string (Kd.slice 94 k94)) (fun x:S89=>(x.f0,x.f1))
theorem k89_open {w:World} {x:S89} {cs:List Value} (h:k89.K w x cs):∃ A1 c1,cs = [.string x.f0,.slice A1 x.f1.length c1]∧x.f1.length ≤ c1∧k94.C w A1 x.f1.length x.f1:=by
 obtain ⟨_,_,rfl,rfl,⟨A1,c1,rfl,l1,g1⟩⟩:=h;exact ⟨A1,c1,rfl,l1,g1⟩
theorem k89_mk (w:World) (x:S89) {A1:Option Addr} {c1:Nat} (l1:x.f1.length ≤ c1) (g1:k94.C w A1 x.f1.length x.f1):k89.K w x [.string x.f0,.slice A1 x.f1.length c1]:=⟨[.string x.f0],[.slice A1 x.f1.length c1],rfl,rfl,⟨A1,c1,rfl,l1,g1⟩⟩
def rd_T89 (xs:List S89) (i:Int):S89:=xs.getD i.toNat z89
theorem at_T89 {w:World} {A:Option Addr} {n:Nat} {xs:List S89} (h:Kd.C k89 w A n xs) (i:Int) (h0:0 ≤ i) (h1:i < n):∃ ad A1 c1,A=some ad∧w.cell? (ad.add (i.toNat * 2))=some (.string (rd_T89 xs i).f0)∧w.cell? ⟨(ad.add (i.toNat * 2)).block,(ad.add (i.toNat * 2)).off + 1,none⟩=some (.slice A1 (rd_T89 xs i).f1.length c1)∧(rd_T89 xs i).f1.length ≤ c1∧k94.C w A1 (rd_T89 xs i).f1.length (rd_T89 xs i).f1:=by
 obtain ⟨ad,c,e,_,hK,hc0⟩:=Kd.C_get h z89 i h0 h1;have hc:∀ j u,c[j]? = some u → w.cell? (ad.add (i.toNat * 2 + j))=some u:=hc0;obtain ⟨A1,c1,rfl,l1,g1⟩:=k89_open hK;exact ⟨ad,A1,c1,e,hc 0 _ rfl,by rw [← add_field _ _ 1 (by omega)];exact hc 1 _ rfl,l1,g1⟩
structure S85 where
 f0:Int
 f1:Bool
 f2:Int
 f3:Int
 f4:Int
def z85:S85:=⟨(0:Int),false,(0:Int),(0:Int),(0:Int)⟩
def k85:Kd S85:=Kd.iso (Kd.pair (Kd.int .i64) (Kd.pair Kd.bool (Kd.pair (Kd.int .i64) (Kd.pair (Kd.int .i64) (Kd.int .i64))))) (fun x:S85=>(x.f0,x.f1,x.f2,x.f3,x.f4))
theorem k85_open {w:World} {x:S85} {cs:List Value} (h:k85.K w x cs):cs = [.int .i64 x.f0,.bool x.f1,.int .i64 x.f2,.int .i64 x.f3,.int .i64 x.f4]:=by
 obtain ⟨_,_,rfl,rfl,⟨_,_,rfl,rfl,⟨_,_,rfl,rfl,⟨_,_,rfl,rfl,rfl⟩⟩⟩⟩:=h;exact rfl
theorem k85_mk (w:World) (x:S85)  : k85.K w x [.int .i64 x.f0,.bool x.f1,.int .i64 x.f2,.int .i64 x.f3,.int .i64 x.f4]:=⟨[.int .i64 x.f0],[.bool x.f1,.int .i64 x.f2,.int .i64 x.f3,.int .i64 x.f4],rfl,rfl,⟨[.bool x.f1],[.int .i64 x.f2,.int .i64 x.f3,.int .i64 x.f4],rfl,rfl,⟨[.int .i64 x.f2],[.int .i64 x.f3,.int .i64 x.f4],rfl,rfl,⟨[.int .i64 x.f3],[.int .i64 x.f4],rfl,rfl,rfl⟩⟩⟩⟩
def rd_T85 (xs:List S85) (i:Int):S85:=xs.getD i.toNat z85
theorem at_T85 {w:World} {A:Option Addr} {n:Nat} {xs:List S85} (h:Kd.C k85 w A n xs) (i:Int) (h0:0 ≤ i) (h1:i < n):∃ ad ,A=some ad∧w.cell? (ad.add (i.toNat * 5))=some (.int .i64 (rd_T85 xs i).f0)∧w.cell? ⟨(ad.add (i.toNat * 5)).block,(ad.add (i.toNat * 5)).off + 1,none⟩=some (.bool (rd_T85 xs i).f1)∧w.cell? ⟨(ad.add (i.toNat * 5)).block,(ad.add (i.toNat * 5)).off + 2,none⟩=some (.int .i64 (rd_T85 xs i).f2)∧w.cell? ⟨(ad.add (i.toNat * 5)).block,(ad.add (i.toNat * 5)).off + 3,none⟩=some (.int .i64 (rd_T85 xs i).f3)∧w.cell? ⟨(ad.add (i.toNat * 5)).block,(ad.add (i.toNat * 5)).off + 4,none⟩=some (.int .i64 (rd_T85 xs i).f4):=by
 obtain ⟨ad,c,e,_,hK,hc0⟩:=Kd.C_get h z85 i h0 h1;have hc:∀ j u,c[j]? = some u → w.cell? (ad.add (i.toNat * 5 + j))=some u:=hc0;obtain rfl:=k85_open hK;exact ⟨ad,e,hc 0 _ rfl,by rw [← add_field _ _ 1 (by omega)];exact hc 1 _ rfl,by rw [← add_field _ _ 2 (by omega)];exact hc 2 _ rfl,by rw [← add_field _ _ 3 (by omega)];exact hc 3 _ rfl,by rw [← add_field _ _ 4 (by omega)];exact hc 4 _ rfl⟩
def rd_L7 (xs:List (List ByteArray)) (i:Int):(List ByteArray):=xs.getD i.toNat ([]:List ByteArray)
theorem at_L7 {w:World} {A:Option Addr} {n:Nat} {xs:List (List ByteArray)} (h:Kd.C (Kd.slice 9 Kd.string) w A n xs) (i:Int) (h0:0 ≤ i) (h1:i < n):∃ ad A0 c0,A=some ad∧w.cell? (ad.add i.toNat)=some (.slice A0 (rd_L7 xs i).length c0)∧(rd_L7 xs i).length ≤ c0∧Kd.string.C w A0 (rd_L7 xs i).length (rd_L7 xs i):=by
 obtain ⟨ad,c,e,_,hK,hc0⟩:=Kd.C_get h ([]:List ByteArray) i h0 h1;have hc:∀ j u,c[j]? = some u → w.cell? (ad.add (i.toNat * 1 + j))=some u:=hc0;obtain ⟨A0,c0,rfl,l0,g0⟩:=hK;exact ⟨ad,A0,c0,e,by have hq:=hc 0 _ rfl;rwa [Nat.mul_one,Nat.add_zero] at hq,l0,g0⟩
structure S26 where
 f0:(List ByteArray)
 f1:(List ByteArray)
 f2:(List ByteArray)
 f3:(List S85)
 f4:(List S89)
structure S34 where
 f0:(List Bool)
 f1:(List Int)
def z34:S34:=⟨([]:List Bool),([]:List Int)⟩
def k34:Kd S34:=Kd.iso (Kd.pair (Kd.slice 4 Kd.bool) (Kd.slice 3 (Kd.int .i64))) (fun x:S34=>(x.f0,x.f1))
theorem k34_openM {w:World} {base:Nat} {ok:Nat → Prop} {x:S34} {cs:List Value} (h:k34.M w base ok x cs):∃ v0 v1,cs = [v0,v1]∧Kd.bool.R 4 w base ok v0 x.f0∧(Kd.int .i64).R 3 w base ok v1 x.f1:=by
 obtain ⟨_,_,rfl,⟨v0,rfl,g0⟩,⟨v1,rfl,g1⟩⟩:=h;exact ⟨v0,v1,rfl,g0,g1⟩
theorem k34_mkM (w:World) (base:Nat) (ok:Nat → Prop) (x:S34) {v0:Value} (g0:Kd.bool.R 4 w base ok v0 x.f0) {v1:Value} (g1:(Kd.int .i64).R 3 w base ok v1 x.f1):k34.M w base ok x [v0,v1]:=⟨[v0],[v1],rfl,⟨v0,rfl,g0⟩,⟨v1,rfl,g1⟩⟩
structure S158 where
 f0:ByteArray
 f1:Int
def z158:S158:=⟨(⟨#[]⟩:ByteArray),(0:Int)⟩
def k158:Kd S158:=Kd.iso (Kd.pair Kd.string (Kd.int .i64)) (fun x:S158=>(x.f0,x.f1))
theorem k158_open {w:World} {x:S158} {cs:List Value} (h:k158.K w x cs):cs = [.string x.f0,.int .i64 x.f1]:=by
 obtain ⟨_,_,rfl,rfl,rfl⟩:=h;exact rfl
theorem k158_mkM (w:World) (base:Nat) (ok:Nat → Prop) (x:S158)  : k158.M w base ok x [.string x.f0,.int .i64 x.f1]:=⟨[.string x.f0],[.int .i64 x.f1],rfl,rfl,rfl⟩
def rd_T158 (xs:List S158) (i:Int):S158:=xs.getD i.toNat z158
theorem at_T158 {w:World} {A:Option Addr} {n:Nat} {xs:List S158} (h:Kd.C k158 w A n xs) (i:Int) (h0:0 ≤ i) (h1:i < n):∃ ad ,A=some ad∧w.cell? (ad.add (i.toNat * 2))=some (.string (rd_T158 xs i).f0)∧w.cell? ⟨(ad.add (i.toNat * 2)).block,(ad.add (i.toNat * 2)).off + 1,none⟩=some (.int .i64 (rd_T158 xs i).f1):=by
 obtain ⟨ad,c,e,_,hK,hc0⟩:=Kd.C_get h z158 i h0 h1;have hc:∀ j u,c[j]? = some u → w.cell? (ad.add (i.toNat * 2 + j))=some u:=hc0;obtain rfl:=k158_open hK;exact ⟨ad,e,hc 0 _ rfl,by rw [← add_field _ _ 1 (by omega)];exact hc 1 _ rfl⟩
def rd_L16 (xs:List (List S158)) (i:Int):(List S158):=xs.getD i.toNat ([]:List S158)
theorem at_L16 {w:World} {A:Option Addr} {n:Nat} {xs:List (List S158)} (h:Kd.C (Kd.slice 158 k158) w A n xs) (i:Int) (h0:0 ≤ i) (h1:i < n):∃ ad A0 c0,A=some ad∧w.cell? (ad.add i.toNat)=some (.slice A0 (rd_L16 xs i).length c0)∧(rd_L16 xs i).length ≤ c0∧k158.C w A0 (rd_L16 xs i).length (rd_L16 xs i):=by
 obtain ⟨ad,c,e,_,hK,hc0⟩:=Kd.C_get h ([]:List S158) i h0 h1;have hc:∀ j u,c[j]? = some u → w.cell? (ad.add (i.toNat * 1 + j))=some u:=hc0;obtain ⟨A0,c0,rfl,l0,g0⟩:=hK;exact ⟨ad,A0,c0,e,by have hq:=hc 0 _ rfl;rwa [Nat.mul_one,Nat.add_zero] at hq,l0,g0⟩
structure S80 where
 f0:(List (List ByteArray))
 f1:(List (List S158))
structure S127 where
 f0:Int
 f1:Int
 f2:Int
 f3:Int
 f4:Int
def z127:S127:=⟨(0:Int),(0:Int),(0:Int),(0:Int),(0:Int)⟩
def k127:Kd S127:=Kd.iso (Kd.pair (Kd.int .i64) (Kd.pair (Kd.int .i64) (Kd.pair (Kd.int .i64) (Kd.pair (Kd.int .i64) (Kd.int .i64))))) (fun x:S127=>(x.f0,x.f1,x.f2,x.f3,x.f4))
theorem k127_open {w:World} {x:S127} {cs:List Value} (h:k127.K w x cs):cs = [.int .i64 x.f0,.int .i64 x.f1,.int .i64 x.f2,.int .i64 x.f3,.int .i64 x.f4]:=by
 obtain ⟨_,_,rfl,rfl,⟨_,_,rfl,rfl,⟨_,_,rfl,rfl,⟨_,_,rfl,rfl,rfl⟩⟩⟩⟩:=h;exact rfl
theorem k127_mkM (w:World) (base:Nat) (ok:Nat → Prop) (x:S127)  : k127.M w base ok x [.int .i64 x.f0,.int .i64 x.f1,.int .i64 x.f2,.int .i64 x.f3,.int .i64 x.f4]:=⟨[.int .i64 x.f0],[.int .i64 x.f1,.int .i64 x.f2,.int .i64 x.f3,.int .i64 x.f4],rfl,rfl,⟨[.int .i64 x.f1],[.int .i64 x.f2,.int .i64 x.f3,.int .i64 x.f4],rfl,rfl,⟨[.int .i64 x.f2],[.int .i64 x.f3,.int .i64 x.f4],rfl,rfl,⟨[.int .i64 x.f3],[.int .i64 x.f4],rfl,rfl,rfl⟩⟩⟩⟩
def rd_T127 (xs:List S127) (i:Int):S127:=xs.getD i.toNat z127
theorem at_T127 {w:World} {A:Option Addr} {n:Nat} {xs:List S127} (h:Kd.C k127 w A n xs) (i:Int) (h0:0 ≤ i) (h1:i < n):∃ ad ,A=some ad∧w.cell? (ad.add (i.toNat * 5))=some (.int .i64 (rd_T127 xs i).f0)∧w.cell? ⟨(ad.add (i.toNat * 5)).block,(ad.add (i.toNat * 5)).off + 1,none⟩=some (.int .i64 (rd_T127 xs i).f1)∧w.cell? ⟨(ad.add (i.toNat * 5)).block,(ad.add (i.toNat * 5)).off + 2,none⟩=some (.int .i64 (rd_T127 xs i).f2)∧w.cell? ⟨(ad.add (i.toNat * 5)).block,(ad.add (i.toNat * 5)).off + 3,none⟩=some (.int .i64 (rd_T127 xs i).f3)∧w.cell? ⟨(ad.add (i.toNat * 5)).block,(ad.add (i.toNat * 5)).off + 4,none⟩=some (.int .i64 (rd_T127 xs i).f4):=by
 obtain ⟨ad,c,e,_,hK,hc0⟩:=Kd.C_get h z127 i h0 h1;have hc:∀ j u,c[j]? = some u → w.cell? (ad.add (i.toNat * 5 + j))=some u:=hc0;obtain rfl:=k127_open hK;exact ⟨ad,e,hc 0 _ rfl,by rw [← add_field _ _ 1 (by omega)];exact hc 1 _ rfl,by rw [← add_field _ _ 2 (by omega)];exact hc 2 _ rfl,by rw [← add_field _ _ 3 (by omega)];exact hc 3 _ rfl,by rw [← add_field _ _ 4 (by omega)];exact hc 4 _ rfl⟩
structure S70 where
 f0:Int
 f1:Int
 f2:Int
def z70:S70:=⟨(0:Int),(0:Int),(0:Int)⟩
def k70:Kd S70:=Kd.iso (Kd.pair (Kd.int .i64) (Kd.pair (Kd.int .i64) (Kd.int .i64))) (fun x:S70=>(x.f0,x.f1,x.f2))
theorem k70_open {w:World} {x:S70} {cs:List Value} (h:k70.K w x cs):cs = [.int .i64 x.f0,.int .i64 x.f1,.int .i64 x.f2]:=by
 obtain ⟨_,_,rfl,rfl,⟨_,_,rfl,rfl,rfl⟩⟩:=h;exact rfl
theorem k70_mkM (w:World) (base:Nat) (ok:Nat → Prop) (x:S70)  : k70.M w base ok x [.int .i64 x.f0,.int .i64 x.f1,.int .i64 x.f2]:=⟨[.int .i64 x.f0],[.int .i64 x.f1,.int .i64 x.f2],rfl,rfl,⟨[.int .i64 x.f1],[.int .i64 x.f2],rfl,rfl,rfl⟩⟩
def rd_T70 (xs:List S70) (i:Int):S70:=xs.getD i.toNat z70
theorem at_T70 {w:World} {A:Option Addr} {n:Nat} {xs:List S70} (h:Kd.C k70 w A n xs) (i:Int) (h0:0 ≤ i) (h1:i < n):∃ ad ,A=some ad∧w.cell? (ad.add (i.toNat * 3))=some (.int .i64 (rd_T70 xs i).f0)∧w.cell? ⟨(ad.add (i.toNat * 3)).block,(ad.add (i.toNat * 3)).off + 1,none⟩=some (.int .i64 (rd_T70 xs i).f1)∧w.cell? ⟨(ad.add (i.toNat * 3)).block,(ad.add (i.toNat * 3)).off + 2,none⟩=some (.int .i64 (rd_T70 xs i).f2):=by
 obtain ⟨ad,c,e,_,hK,hc0⟩:=Kd.C_get h z70 i h0 h1;have hc:∀ j u,c[j]? = some u → w.cell? (ad.add (i.toNat * 3 + j))=some u:=hc0;obtain rfl:=k70_open hK;exact ⟨ad,e,hc 0 _ rfl,by rw [← add_field _ _ 1 (by omega)];exact hc 1 _ rfl,by rw [← add_field _ _ 2 (by omega)];exact hc 2 _ rfl⟩
end
end Go.Proofs.YtjbjbeihkoeciaaGreat.X
namespace Go.Proofs.YtjbjbeihkoeciaaGreat.X
open Go.RowKit Go.Proofs.YtjbjbeihkoeciaaGreatW.PrintWords Go.Proofs.YtjbjbeihkoeciaaGreatW.PrintLast Go.Proofs.YtjbjbeihkoeciaaGreatW.PrintMore
section
variable {P:Program} {ops:Array Oper} {Q:Exit → Act → World → Prop} {md:Region.Mode} {S:World → Prop} {ds:List Nat}
theorem pU {oi:Oper} {v:Value} {fuel:Nat} {l:Array Bool} {a:Act} {w:World} {a':Act} (i:Nat) (n:Tmp) (h:wpAnyLast P md ops Q S ds fuel (l.setIfInBounds i true) a' w)
  (hi:ops[i]? = some oi:=by exact rfl) (hN:oi.dst=some n:=by exact rfl) (hc:anyB md ops l (l.setIfInBounds i true) i=true:=by exact any_of HT_.out (by kernel_rfl))
  (hQ:∀ c a w,Q (.panic c) (a.put oi.dst v) w → Q (.panic c) a w:=by exact fun _ _ _ h=>h) (h1:Region.wanted oi (yielded ops a.tmps)=true:=by rfl) (h2:∀ w,(execOp a.eval oi).run P w = .ok (.value v) w:=by (intro w';go_simp;with_reducible rfl))
  (ha:a.put (some n) v=a':=by (simp only [Act.put,q1_,q2_,q3_,i64_w,i32_w];rfl)):wpAnyLast P md ops Q S ds (fuel + 1) l a w :=
 pure_ (l.setIfInBounds i true) hi hN hc hQ (Or.inl ⟨h1,h2⟩) ha h
theorem pV {oi:Oper} {fuel:Nat} {l:Array Bool} {a:Act} {w:World} {a':Act} (i:Nat) (n:Tmp) (h:wpAnyLast P md ops Q S ds fuel (l.setIfInBounds i true) a' w)
  (hi:ops[i]? = some oi:=by exact rfl) (hN:oi.dst=some n:=by exact rfl) (hc:anyB md ops l (l.setIfInBounds i true) i=true:=by exact any_of HT_.out (by kernel_rfl))
  (hQ:∀ c a w,Q (.panic c) (a.put oi.dst undef) w → Q (.panic c) a w:=by exact fun _ _ _ h=>h) (h1:Region.wanted oi (yielded ops a.tmps)=false:=by rfl)
  (ha:a.put (some n) undef=a':=by (simp only [Act.put,q1_,q2_,q3_,i64_w,i32_w];rfl)):wpAnyLast P md ops Q S ds (fuel + 1) l a w :=
 pure_ (l.setIfInBounds i true) hi hN hc hQ (Or.inr ⟨h1,rfl⟩) ha h
theorem tU {oi:Oper} {v:Value} {fuel:Nat} {l:Array Bool} {a:Act} {w:World} {a':Act} (i:Nat) (n:Tmp) (h:wpAnyLast P md ops Q S ds fuel (l.setIfInBounds i true) a' w)
  (hi:ops[i]? = some oi:=by exact rfl) (hN:oi.dst=some n:=by exact rfl) (hc:takeB md ops ds l (l.setIfInBounds i true) i=true:=by exact take_ofW HT_.out HW_.out (by kernel_rfl))
  (hQ:∀ c a w,Q (.panic c) (a.put oi.dst v) w → Q (.panic c) a w:=by exact fun _ _ _ h=>h) (h1:Region.wanted oi (yielded ops a.tmps)=true:=by rfl) (h2:∀ w,S w → (execOp a.eval oi).run P w = .ok (.value v) w:=by (intro w' hs;repeat (have s_:=hs.1;replace hs:=hs.2);go_simp;with_reducible rfl)) (hS:S w:=by exact hH)
  (ha:a.put (some n) v=a':=by (simp only [Act.put,q1_,q2_,q3_,i64_w,i32_w];rfl)):wpAnyLast P md ops Q S ds (fuel + 1) l a w :=
 take_ (l.setIfInBounds i true) hi hN hc hQ (Or.inl ⟨h1,h2⟩) hS ha h
theorem oU {N:Option Tmp} {oi:Oper} {fuel:Nat} {l:Array Bool} {a:Act} {w:World} (i:Nat)
  (h:∀ K:Act → World → Prop,Shut (∀ a' w',S w' → (S w' → wpAnyLast P md ops Q S ds fuel (l.setIfInBounds i true) a' w') → K a' w') → if Region.wanted oi (yielded ops a.tmps)=true then Oper.wp P oi a w K Q else K (a.put N undef) w)
  (hi:ops[i]? = some oi:=by exact rfl) (hN:oi.dst=N:=by exact rfl) (hc:readyB md ops l (l.setIfInBounds i true) i=true:=by exact one_of HT_.out (by kernel_rfl)) (hd:i ∉ ds:=by decide):wpAnyLast P md ops Q S ds (fuel + 1) l a w :=
 one_ (l.setIfInBounds i true) hi hN hc hd h
theorem nU {fuel:Nat} {l:Array Bool} {a a':Act} {w:World} (h:wpAnyLast P md ops Q S ds fuel l a' w) (ha:a=a':=by (show Act.put _ (some _) _=_;simp only [Act.put,q1_,q2_,q3_,i64_w,i32_w];rfl)):wpAnyLast P md ops Q S ds fuel l a w :=
 norm_ ha h
theorem dU {l:Array Bool} {a:Act} {w:World} {n:Nat} (h:Q .normal a w) (hr:(Region.ready md ops l == [])=true:=by exact done_of HT_.out (by kernel_rfl)):wpAnyLast P md ops Q S ds n l a w:=done_ hr h
end
theorem uB {p:Prop} (h:p:=by repeat (first|(with_reducible first|exact HB.out|apply below_alloc|apply pw_below_drewN|apply below_drew1|refine below_set ?_ (Sd.out (by with_reducible assumption)))|exact HB.out)):p:=h
theorem uA {p:Prop} (h:p:=by repeat (first|(with_reducible first|exact HB.out|apply below_alloc|apply pw_below_drewN|apply below_drew1|refine below_set ?_ (Sd.out (by with_reducible assumption)))|exact HB.out)):Sd p:=⟨h⟩
theorem uH {w W w2:World} (k:Below W.heap.size W w2) (h:Below w.heap.size w W:=by repeat (first|(with_reducible first|exact HB.out|apply below_alloc|apply pw_below_drewN|apply below_drew1|refine below_set ?_ (Sd.out (by with_reducible assumption)))|exact HB.out)):Sd (Below w.heap.size w w2):=⟨below_step h k⟩
theorem uG {w W:World} {g:Nat} (hg:g=W.heap.size) (h:Below w.heap.size w W:=by repeat (first|(with_reducible first|exact HB.out|apply below_alloc|apply pw_below_drewN|apply below_drew1|refine below_set ?_ (Sd.out (by with_reducible assumption)))|exact HB.out)):Sd (w.heap.size ≤ g):=⟨by rw [hg];exact below_size h⟩
theorem uK {W0 W w':World} {g:Nat} {o:Obj} (h:Sd (W0.heap[g]? = some o)) (hb:Below W.heap.size W w') (hp:W0.heap[g]? = some o → W.heap[g]? = some o:=by intro h_;(with_reducible repeat (first|refine blk_drewN ?_ _|refine blk_drew ?_|refine blk_alloc ?_ _));exact h_):Sd (w'.heap[g]? = some o):=⟨blk_below (hp h.out) hb⟩
theorem uP {W0 W w':World} {g:Nat} (o:Obj) (h:W0.heap[g]? = some o) (hb:Below W.heap.size W w') (hp:W0.heap[g]? = some o → W.heap[g]? = some o:=by intro h_;(with_reducible repeat (first|refine blk_drewN ?_ _|refine blk_drew ?_|refine blk_alloc ?_ _));exact h_):Sd (w'.heap[g]? = some o):=⟨blk_below (hp h) hb⟩
theorem bF1 {w:World} {g q t:Nat} {cs:Array Value} {u0:Value} {i0:Nat} (h:Sd (w.heap[g]? = some (.cells cs t (0,0)))) (n:Sd (g ≠ q)):(w.setCell ⟨q,i0,none⟩ u0).heap[g]? = some (.cells cs t (0,0)):=blk_far h.out n.out u0
theorem bP1 {w:World} {g t:Nat} {cs:Array Value} {u0:Value} {i0:Nat} (h:Sd (w.heap[g]? = some (.cells cs t (0,0)))):(w.setCell ⟨g,i0,none⟩ u0).heap[g]? = some (.cells (cs.setIfInBounds i0 u0) t (0,0)):=blk_put h.out i0 u0 rfl
theorem bF2 {w:World} {g q t:Nat} {cs:Array Value} {u0 u1:Value} {i0 i1:Nat} (h:Sd (w.heap[g]? = some (.cells cs t (0,0)))) (n:Sd (g ≠ q)):((w.setCell ⟨q,i0,none⟩ u0).setCell ⟨q,i1,none⟩ u1).heap[g]? = some (.cells cs t (0,0)):=blk_far (blk_far h.out n.out u0) n.out u1
theorem bF3 {w:World} {g q t:Nat} {cs:Array Value} {u0 u1 u2:Value} {i0 i1 i2:Nat} (h:Sd (w.heap[g]? = some (.cells cs t (0,0)))) (n:Sd (g ≠ q)):(((w.setCell ⟨q,i0,none⟩ u0).setCell ⟨q,i1,none⟩ u1).setCell ⟨q,i2,none⟩ u2).heap[g]? = some (.cells cs t (0,0)):=blk_far (blk_far (blk_far h.out n.out u0) n.out u1) n.out u2
theorem bF5 {w:World} {g q t:Nat} {cs:Array Value} {u0 u1 u2 u3 u4:Value} {i0 i1 i2 i3 i4:Nat} (h:Sd (w.heap[g]? = some (.cells cs t (0,0)))) (n:Sd (g ≠ q)):(((((w.setCell ⟨q,i0,none⟩ u0).setCell ⟨q,i1,none⟩ u1).setCell ⟨q,i2,none⟩ u2).setCell ⟨q,i3,none⟩ u3).setCell ⟨q,i4,none⟩ u4).heap[g]? = some (.cells cs t (0,0)):=blk_far (blk_far (blk_far (blk_far (blk_far h.out n.out u0) n.out u1) n.out u2) n.out u3) n.out u4
theorem bF6 {w:World} {g q t:Nat} {cs:Array Value} {u0 u1 u2 u3 u4 u5:Value} {i0 i1 i2 i3 i4 i5:Nat} (h:Sd (w.heap[g]? = some (.cells cs t (0,0)))) (n:Sd (g ≠ q)):((((((w.setCell ⟨q,i0,none⟩ u0).setCell ⟨q,i1,none⟩ u1).setCell ⟨q,i2,none⟩ u2).setCell ⟨q,i3,none⟩ u3).setCell ⟨q,i4,none⟩ u4).setCell ⟨q,i5,none⟩ u5).heap[g]? = some (.cells cs t (0,0)):=blk_far (blk_far (blk_far (blk_far (blk_far (blk_far h.out n.out u0) n.out u1) n.out u2) n.out u3) n.out u4) n.out u5
theorem bP6 {w:World} {g t:Nat} {cs:Array Value} {u0 u1 u2 u3 u4 u5:Value} {i0 i1 i2 i3 i4 i5:Nat} (h:Sd (w.heap[g]? = some (.cells cs t (0,0)))):((((((w.setCell ⟨g,i0,none⟩ u0).setCell ⟨g,i1,none⟩ u1).setCell ⟨g,i2,none⟩ u2).setCell ⟨g,i3,none⟩ u3).setCell ⟨g,i4,none⟩ u4).setCell ⟨g,i5,none⟩ u5).heap[g]? = some (.cells ((((((cs.setIfInBounds i0 u0).setIfInBounds i1 u1).setIfInBounds i2 u2).setIfInBounds i3 u3).setIfInBounds i4 u4).setIfInBounds i5 u5) t (0,0)):=blk_put (blk_put (blk_put (blk_put (blk_put (blk_put h.out i0 u0 rfl) i1 u1 rfl) i2 u2 rfl) i3 u3 rfl) i4 u4 rfl) i5 u5 rfl
theorem kG {p q:Prop} (h:q) (hp:q → p:=by intro h_;(with_reducible repeat (first|refine blk_drewN ?_ _|refine blk_drew ?_|refine blk_alloc ?_ _));exact h_):p:=hp h
theorem kH {p q:Prop} (h:q) (hp:q → p:=by intro h_;(with_reducible repeat (first|refine blk_drewN ?_ _|refine blk_drew ?_|refine blk_alloc ?_ _));exact h_):Sd p:=⟨hp h⟩
theorem fR1 {α:Type} {d:Kd α} {e:TypeId} {w:World} {base:Nat} {ok:Nat → Prop} {v:Value} {xs:List α} {g t:Nat} {cs:Array Value} {u0:Value} {i0:Nat} (h:Sd (d.R e w base ok v xs)) (b:Sd (w.heap[g]? = some (.cells cs t (0,0)))) (ht:∀ q,q ∈ e :: d.E → q ≠ t:=by decide):d.R e (w.setCell ⟨g,i0,none⟩ u0) base ok v xs:=Kd.R_mono (Kd.R_far (p:=⟨g,i0,none⟩) (Kd.R_types h.out b.out ht) (fun _ hk=>hk.2) u0) (fun _ hk=>hk.1)
theorem fR2 {α:Type} {d:Kd α} {e:TypeId} {w:World} {base:Nat} {ok:Nat → Prop} {v:Value} {xs:List α} {g t:Nat} {cs:Array Value} {u0 u1:Value} {i0 i1:Nat} (h:Sd (d.R e w base ok v xs)) (b:Sd (w.heap[g]? = some (.cells cs t (0,0)))) (ht:∀ q,q ∈ e :: d.E → q ≠ t:=by decide):d.R e ((w.setCell ⟨g,i0,none⟩ u0).setCell ⟨g,i1,none⟩ u1) base ok v xs:=Kd.R_mono (Kd.R_far (p:=⟨g,i1,none⟩) (Kd.R_far (p:=⟨g,i0,none⟩) (Kd.R_types h.out b.out ht) (fun _ hk=>hk.2) u0) (fun _ hk=>hk.2) u1) (fun _ hk=>hk.1)
theorem fR3 {α:Type} {d:Kd α} {e:TypeId} {w:World} {base:Nat} {ok:Nat → Prop} {v:Value} {xs:List α} {g t:Nat} {cs:Array Value} {u0 u1 u2:Value} {i0 i1 i2:Nat} (h:Sd (d.R e w base ok v xs)) (b:Sd (w.heap[g]? = some (.cells cs t (0,0)))) (ht:∀ q,q ∈ e :: d.E → q ≠ t:=by decide):d.R e (((w.setCell ⟨g,i0,none⟩ u0).setCell ⟨g,i1,none⟩ u1).setCell ⟨g,i2,none⟩ u2) base ok v xs:=Kd.R_mono (Kd.R_far (p:=⟨g,i2,none⟩) (Kd.R_far (p:=⟨g,i1,none⟩) (Kd.R_far (p:=⟨g,i0,none⟩) (Kd.R_types h.out b.out ht) (fun _ hk=>hk.2) u0) (fun _ hk=>hk.2) u1) (fun _ hk=>hk.2) u2) (fun _ hk=>hk.1)
theorem fR5 {α:Type} {d:Kd α} {e:TypeId} {w:World} {base:Nat} {ok:Nat → Prop} {v:Value} {xs:List α} {g t:Nat} {cs:Array Value} {u0 u1 u2 u3 u4:Value} {i0 i1 i2 i3 i4:Nat} (h:Sd (d.R e w base ok v xs)) (b:Sd (w.heap[g]? = some (.cells cs t (0,0)))) (ht:∀ q,q ∈ e :: d.E → q ≠ t:=by decide):d.R e (((((w.setCell ⟨g,i0,none⟩ u0).setCell ⟨g,i1,none⟩ u1).setCell ⟨g,i2,none⟩ u2).setCell ⟨g,i3,none⟩ u3).setCell ⟨g,i4,none⟩ u4) base ok v xs:=Kd.R_mono (Kd.R_far (p:=⟨g,i4,none⟩) (Kd.R_far (p:=⟨g,i3,none⟩) (Kd.R_far (p:=⟨g,i2,none⟩) (Kd.R_far (p:=⟨g,i1,none⟩) (Kd.R_far (p:=⟨g,i0,none⟩) (Kd.R_types h.out b.out ht) (fun _ hk=>hk.2) u0) (fun _ hk=>hk.2) u1) (fun _ hk=>hk.2) u2) (fun _ hk=>hk.2) u3) (fun _ hk=>hk.2) u4) (fun _ hk=>hk.1)
theorem kE {p q:Prop} (h:q) (hp:q → p:=by intro h_;(with_reducible repeat (first|apply Kd.R_alloc|apply Kd.R_drewN|apply Kd.R_drew));exact h_):p:=hp h
theorem tW {p:Prop} (h:p:=by first|rfl|(simp [errW_none,errW_some] <;> rfl)|(simp [*,errW_none,errW_some] <;> rfl)):p:=h
theorem cf2 {W:World} {g q i:Nat} {v u0 u1:Value} {i0 i1:Nat} (n:Sd (g ≠ q)) (h:W.cell? ⟨g,i,none⟩=some v):((W.setCell ⟨q,i0,none⟩ u0).setCell ⟨q,i1,none⟩ u1).cell? ⟨g,i,none⟩=some v:=(cell_far (p:=⟨q,i1,none⟩) n.out u1).trans ((cell_far (p:=⟨q,i0,none⟩) n.out u0).trans (h))
theorem cf5 {W:World} {g q i:Nat} {v u0 u1 u2 u3 u4:Value} {i0 i1 i2 i3 i4:Nat} (n:Sd (g ≠ q)) (h:W.cell? ⟨g,i,none⟩=some v):(((((W.setCell ⟨q,i0,none⟩ u0).setCell ⟨q,i1,none⟩ u1).setCell ⟨q,i2,none⟩ u2).setCell ⟨q,i3,none⟩ u3).setCell ⟨q,i4,none⟩ u4).cell? ⟨g,i,none⟩=some v:=(cell_far (p:=⟨q,i4,none⟩) n.out u4).trans ((cell_far (p:=⟨q,i3,none⟩) n.out u3).trans ((cell_far (p:=⟨q,i2,none⟩) n.out u2).trans ((cell_far (p:=⟨q,i1,none⟩) n.out u1).trans ((cell_far (p:=⟨q,i0,none⟩) n.out u0).trans (h)))))
theorem uW {W0 W w1:World} {g:Nat} {o:Obj} {row:Option Nat} (h:Sd (W0.heap[g]? = some o)) (hne:some g ≠ row) (hg:W.grownBy w1 row) (hp:W0.heap[g]? = some o → W.heap[g]? = some o:=by intro h_;(with_reducible repeat (first|refine blk_drewN ?_ _|refine blk_drew ?_|refine blk_alloc ?_ _));exact h_):Sd (w1.heap[g]? = some o):=⟨blk_grown (hp h.out) hg hne⟩
theorem oB {α β:Type} {f:Option α} {g:α → Option β} {r:β} (h:f.bind g=some r):∃ t,Sd (f=some t)∧g t=some r:=by obtain ⟨t,a,b⟩:=Option.bind_eq_some_iff.mp h;exact ⟨t,⟨a⟩,b⟩
theorem iT {α:Type} {i:Decidable (true=true)} {a b r:α} (h : @ite α (true=true) i a b=r):a=r:=by rw [if_pos rfl] at h;exact h
theorem iF {α:Type} {i:Decidable (false=true)} {a b r:α} (h : @ite α (false=true) i a b=r):b=r:=by rw [if_neg Bool.false_ne_true] at h;exact h
theorem bT {α:Type} [BEq α] [LawfulBEq α] {a b:α} (h:a=b):(a == b)=true∧(a != b)=false:=⟨beq_iff_eq.mpr h,bne_eq_false_iff_eq.mpr h⟩
theorem bN {α:Type} [BEq α] [LawfulBEq α] {a b:α} (h:¬ a=b):(a == b)=false∧(a != b)=true:=⟨beq_eq_false_iff_ne.mpr h,bne_iff_ne.mpr h⟩
theorem uN {W0 W:World} {g g':Nat} {o:Obj} (hg:g' = W.heap.size) (h:Sd (W0.heap[g]? = some o)) (hp:W0.heap[g]? = some o → W.heap[g]? = some o:=by intro h_;(with_reducible repeat (first|refine blk_drewN ?_ _|refine blk_drew ?_|refine blk_alloc ?_ _));exact h_):Sd (g ≠ g'):=⟨by rw [hg];exact Nat.ne_of_lt (blk_lt (hp h.out))⟩
theorem uM {g g':Nat} (h:Sd (g ≠ g')):Sd (g' ≠ g):=⟨Ne.symm h.out⟩
theorem uE {w:World} {g:Nat} {o:Obj} (h:Sd (w.heap[g]? = some o)):Sd (w.drew.heap[g]? = some o):=⟨blk_drew h.out⟩
theorem uF {w:World} {g:Nat} {o:Obj} (h:Sd (w.heap[g]? = some o)) (n:Nat):Sd ((w.drewN n).heap[g]? = some o):=⟨blk_drewN h.out n⟩
theorem uI {b:Nat} {w W:World} (h:Sd (Below b w W)):Sd (Below b w W.drew):=⟨below_drew1 h.out⟩
theorem uJ {b:Nat} {w W:World} (h:Sd (Below b w W)) (n:Nat):Sd (Below b w (W.drewN n)):=⟨pw_below_drewN h.out n⟩
theorem uC {w W:World} {p:Addr} {v:Value} (hb:Sd (Below w.heap.size w W)) (h:w.cell? p=some v):W.cell? p=some v:=(hb.out.cell (World.block_lt_of_cell? w _ h)).trans h
theorem uV {p q:Prop} (h:q) (hp:q → p:=by intro h_;exact (HB.out.cell (World.block_lt_of_cell? _ _ h_)).trans h_):p:=hp h
theorem kBB {p q:Prop} (h:Sd q) (hp:q → p:=by intro h_;(with_reducible repeat (first|refine blk_drewN ?_ _|refine blk_drew ?_|refine blk_alloc ?_ _));exact h_):p:=hp h.out
theorem kA {p q:Prop} (h:Sd q) (hp:q → p:=by intro h_;(with_reducible repeat (first|refine blk_drewN ?_ _|refine blk_drew ?_|refine blk_alloc ?_ _));exact h_):Sd p:=⟨hp h.out⟩
theorem kR {p q:Prop} (h:Sd q) (hp:q → p:=by intro h_;(with_reducible repeat (first|apply Kd.R_alloc|apply Kd.R_drewN|apply Kd.R_drew));exact h_):p:=hp h.out
theorem kS {p q:Prop} (h:Sd q) (hp:q → p:=by intro h_;(with_reducible repeat (first|apply Kd.R_alloc|apply Kd.R_drewN|apply Kd.R_drew));exact h_):Sd p:=⟨hp h.out⟩
theorem cB {w:World} {g t:Nat} {cs:Array Value} {v:Value} (h:Sd (w.heap[g]? = some (.cells cs t (0,0)))) (i:Nat) (hv:cs[i]? = some v:=by exact rfl):w.cell? ⟨g,i,none⟩=some v:=(blk_cell h.out i).trans hv
theorem sC {p q:Prop} (h:Sd q) (hp:q → p:=by intro h_;repeat (first|exact (Kd.C_below h_ HB.out)|(with_reducible refine Kd.C_alloc ?_ _)|(with_reducible refine Kd.C_drewN ?_ _)|(with_reducible refine Kd.C_drew ?_))):p:=hp h.out
theorem sD {p q:Prop} (h:Sd q) (hp:q → p:=by intro h_;repeat (first|exact h_|(with_reducible refine Kd.C_alloc ?_ _)|(with_reducible refine Kd.C_drewN ?_ _)|(with_reducible refine Kd.C_drew ?_))):p:=hp h.out
theorem tSS {p:Prop} (h:p:=by first|rfl|(simp;done)|(simp [*];done)):p:=h
theorem tQ {p:Prop} (h:p:=by first|exact ⟨rfl,_,World.drewN_drewN _ _ _⟩|exact ⟨rfl,_,Eq.trans (World.drewN_drewN _ _ _) (congrArg (World.drewN _) (Nat.add_assoc _ _ _))⟩):p:=h
theorem tR {p:Prop} (h:p:=by repeat (first|exact Drawn0.refl _|apply Drawn0.step)):p:=h
theorem tO {p:Prop} (h:p:=by first|omega|exact Nat.le_refl _):p:=h
theorem tD {p:Prop} {i:Decidable p} (h:decide p=true:=by first|(with_reducible assumption)|assumption):p:=of_decide_eq_true h
theorem tZ {p:Prop} (h:p:=by first|exact Kd.R_nil _ _ _ _ _|exact Kd.N_nil _ _ _ _ _|exact Kd.V_nil _ _ _ _ _|exact Kd.Q_nil _ _ _ _ _|exact Kd.S_nil _ _ _ _ _):p:=h
section
variable {P:Program} {ops:Array Oper} {rest:List Oper} {o:Oper} {a:Act} {Q:Exit → Act → World → Prop}
theorem uX {W:World} (N:Tmp) {cs:Array Value} {t:TypeId}
  (h:∀ g,g=W.heap.size → ∀ w1,Sd (w1.heap[g]? = some (.cells cs t (0,0))) → Below W.heap.size W w1 → wpList P ops Q rest (a.put o.dst (.pointer (some ⟨g,0,none⟩))) w1)
  (hd:o.dst=some N:=by rfl) (hgd:o.guard=none:=by rfl)
  (hrun:(execOp a.eval o).run P W = .ok (.value (.pointer (some ⟨W.heap.size,0,none⟩))) (W.alloc (.cells cs t (0,0))):=by first|(go_simp;done)|(go_simp;rfl)):wpList P ops Q (o :: rest) a W:=box_event hgd hd hrun (fun g hg w1 hb=>h g hg w1 ⟨hb⟩)
theorem gL {oi:Oper} {w:World} {f:FuncId} {fn:Func} (hf:P.funcs[f]? = some fn) (N:Option Tmp) (args:Array Value) {az:Array Operand} {ts:Array TypeId}
  (h:Calls P f args w fun e w'=>∃ v,e = .returned v∧wpList P ops Q rest (a.put N v) w')
  (hd:oi.dst=N:=by exact rfl) (hg:oi.guard=none:=by exact rfl) (hop:oi.op = .call { callee:=.value (.func f),args:=az,argTypes:=ts }:=by exact rfl) (hname:(fn.name == "runtime.NumGoroutine")=false:=by kernel_rfl) (hb:fn.body.isSome=true:=by exact rfl)
  (hargs:az.map a.eval=args:=by (try simp only [List.map_toArray,List.map_cons,List.map_nil]);first|done|rfl|(simp only [List.length_drop,List.length_take];rfl)):wpList P ops Q (oi :: rest) a w:=goesL_ N hd hg hf hname hb args hop hargs h
theorem gO {oi:Oper} {N:Option Tmp} {w:World} {K:Act → World → Prop} {f:FuncId} {fn:Func} (hf:P.funcs[f]? = some fn) (args:Array Value) {az:Array Operand} {ts:Array TypeId}
  (h:Calls P f args w fun e w'=>∃ v,e = .returned v∧K (a.put N v) w')
  (hw:Region.wanted oi (yielded ops a.tmps)=true:=by rfl) (hN:oi.dst=N:=by exact rfl) (hop:oi.op = .call { callee:=.value (.func f),args:=az,argTypes:=ts }:=by exact rfl) (hname:(fn.name == "runtime.NumGoroutine")=false:=by kernel_rfl) (hb:fn.body.isSome=true:=by exact rfl)
  (hargs:az.map a.eval=args:=by (try simp only [List.map_toArray,List.map_cons,List.map_nil]);first|done|rfl|(simp only [List.length_drop,List.length_take];rfl)):if Region.wanted oi (yielded ops a.tmps)=true then Oper.wp P oi a w K Q else K (a.put N undef) w:=goes_ hf hname hb args hw hN hop hargs h
end
theorem bd1 {w:World} {g t:Nat} {a0:Value} {r:List Value} (h:Sd (w.heap[g]? = some (.cells (a0 :: r).toArray t (0,0)))):w.cell? ⟨g,0,none⟩=some a0∧w.frozen? ⟨g,0,none⟩=false:=⟨(blk_cell h.out 0).trans rfl,blk_frozen h.out 0⟩
theorem bd2 {w:World} {g t:Nat} {a0 a1:Value} {r:List Value} (h:Sd (w.heap[g]? = some (.cells (a0 :: a1 :: r).toArray t (0,0)))):w.cell? ⟨g,0,none⟩=some a0∧w.cell? ⟨g,1,none⟩=some a1∧w.frozen? ⟨g,0,none⟩=false∧w.frozen? ⟨g,1,none⟩=false:=⟨(blk_cell h.out 0).trans rfl,(blk_cell h.out 1).trans rfl,blk_frozen h.out 0,blk_frozen h.out 1⟩
theorem bd3 {w:World} {g t:Nat} {a0 a1 a2:Value} {r:List Value} (h:Sd (w.heap[g]? = some (.cells (a0 :: a1 :: a2 :: r).toArray t (0,0)))):w.cell? ⟨g,0,none⟩=some a0∧w.cell? ⟨g,1,none⟩=some a1∧w.cell? ⟨g,2,none⟩=some a2∧w.frozen? ⟨g,0,none⟩=false∧w.frozen? ⟨g,1,none⟩=false∧w.frozen? ⟨g,2,none⟩=false:=⟨(blk_cell h.out 0).trans rfl,(blk_cell h.out 1).trans rfl,(blk_cell h.out 2).trans rfl,blk_frozen h.out 0,blk_frozen h.out 1,blk_frozen h.out 2⟩
theorem bd5 {w:World} {g t:Nat} {a0 a1 a2 a3 a4:Value} {r:List Value} (h:Sd (w.heap[g]? = some (.cells (a0 :: a1 :: a2 :: a3 :: a4 :: r).toArray t (0,0)))):w.cell? ⟨g,0,none⟩=some a0∧w.cell? ⟨g,1,none⟩=some a1∧w.cell? ⟨g,2,none⟩=some a2∧w.cell? ⟨g,3,none⟩=some a3∧w.cell? ⟨g,4,none⟩=some a4∧w.frozen? ⟨g,0,none⟩=false∧w.frozen? ⟨g,1,none⟩=false∧w.frozen? ⟨g,2,none⟩=false∧w.frozen? ⟨g,3,none⟩=false∧w.frozen? ⟨g,4,none⟩=false:=⟨(blk_cell h.out 0).trans rfl,(blk_cell h.out 1).trans rfl,(blk_cell h.out 2).trans rfl,(blk_cell h.out 3).trans rfl,(blk_cell h.out 4).trans rfl,blk_frozen h.out 0,blk_frozen h.out 1,blk_frozen h.out 2,blk_frozen h.out 3,blk_frozen h.out 4⟩
end Go.Proofs.YtjbjbeihkoeciaaGreat.X
namespace Go.Proofs.YtjbjbeihkoeciaaGreat.X
open Go.RowKit Go.Proofs.YtjbjbeihkoeciaaGreatW.PrintWords Go.Proofs.YtjbjbeihkoeciaaGreatW.PrintLast Go.Proofs.YtjbjbeihkoeciaaGreatW.PrintMore
theorem yR {p q e:Prop} (hy:e) (h:q) (hp:e → q → p:=by intro hy_ H_;first|(rw [hy_];with_reducible exact H_)|(have H2_:=(Option.bind_some _ _).symm.trans H_;rw [hy_];with_reducible exact H2_)|(have H2_:=(Option.bind_some _ _).symm.trans H_;with_reducible exact H2_)|with_reducible exact H_|(rw [hy_];exact H_)|exact H_):p:=hp hy h
theorem sE {p q:Prop} (h:q) (hp:q → p:=by intro h_;repeat (first|exact h_|(with_reducible refine Kd.C_alloc ?_ _)|(with_reducible refine Kd.C_drewN ?_ _)|(with_reducible refine Kd.C_drew ?_))):p:=hp h
theorem iB {α:Type} {c:Prop} {i:Decidable c} {a b r:α} (h : @ite α c i a b=r):(c∧a=r) ∨ (¬ c∧b=r):=by
 by_cases hc:c
 ·rw [if_pos hc] at h;exact .inl ⟨hc,h⟩
 ·rw [if_neg hc] at h;exact .inr ⟨hc,h⟩
theorem iD {α:Type} {c:Prop} {i:Decidable c} {a b r:α} (h : @ite α c i a b=r):(c∧decide c=true∧a=r) ∨ (¬ c∧decide c=false∧b=r):=by
 by_cases hc:c
 ·rw [if_pos hc] at h;exact .inl ⟨hc,decide_eq_true hc,h⟩
 ·rw [if_neg hc] at h;exact .inr ⟨hc,decide_eq_false hc,h⟩
theorem iE {α β:Type} [BEq β] [LawfulBEq β] {x y:β} {i:Decidable (x=y)} {a b r:α} (h : @ite α (x=y) i a b=r):(x=y∧(x == y)=true∧(x != y)=false∧a=r) ∨ (¬ x=y∧(x == y)=false∧(x != y)=true∧b=r):=by
 by_cases hc:x=y
 ·rw [if_pos hc] at h;exact .inl ⟨hc,beq_iff_eq.mpr hc,bne_eq_false_iff_eq.mpr hc,h⟩
 ·rw [if_neg hc] at h;exact .inr ⟨hc,beq_eq_false_iff_ne.mpr hc,bne_iff_ne.mpr hc,h⟩
theorem nP {g g':Nat} (h:Sd (g ≠ g')):g ≠ g'∧g' ≠ g:=⟨h.out,h.out.symm⟩
section
variable {P:Program} {ops:Array Oper} {rest:List Oper} {o:Oper} {a:Act} {Q:Exit → Act → World → Prop}
theorem uY {w W:World} (N:Tmp) {cs:Array Value} {t:TypeId}
  (h:∀ g,g=W.heap.size → ∀ w1,Sd (w1.heap[g]? = some (.cells cs t (0,0))) → Below W.heap.size W w1 → Sd (w.heap.size ≤ g) → Sd (Below w.heap.size w w1) → wpList P ops Q rest (a.put o.dst (.pointer (some ⟨g,0,none⟩))) w1)
  (hd:o.dst=some N:=by rfl) (hgd:o.guard=none:=by rfl)
  (hrun:(execOp a.eval o).run P W = .ok (.value (.pointer (some ⟨W.heap.size,0,none⟩))) (W.alloc (.cells cs t (0,0))):=by first|(go_simp;done)|(go_simp;rfl))
  (hB:Below w.heap.size w W:=by repeat (first|(with_reducible first|exact HB.out|apply below_alloc|apply pw_below_drewN|apply below_drew1|refine below_set ?_ (Sd.out (by with_reducible assumption)))|exact HB.out)):wpList P ops Q (o :: rest) a W:=box_event hgd hd hrun (fun g hg w1 hb hk=>h g hg w1 ⟨hb⟩ hk ⟨by rw [hg];exact below_size hB⟩ ⟨below_step hB hk⟩)
end
theorem bQ2 {w:World} {g t:Nat} {a0 a1 u0 u1:Value} (h:Sd (w.heap[g]? = some (.cells #[a0,a1] t (0,0)))):((w.setCell ⟨g,0,none⟩ u0).setCell ⟨g,1,none⟩ u1).heap[g]? = some (.cells #[u0,u1] t (0,0)):=(blk_put (cs':=#[u0,u1]) (blk_put (cs':=#[u0,a1]) h.out 0 u0 rfl) 1 u1 rfl)
theorem bQ3 {w:World} {g t:Nat} {a0 a1 a2 u0 u1 u2:Value} (h:Sd (w.heap[g]? = some (.cells #[a0,a1,a2] t (0,0)))):(((w.setCell ⟨g,0,none⟩ u0).setCell ⟨g,1,none⟩ u1).setCell ⟨g,2,none⟩ u2).heap[g]? = some (.cells #[u0,u1,u2] t (0,0)):=(blk_put (cs':=#[u0,u1,u2]) (blk_put (cs':=#[u0,u1,a2]) (blk_put (cs':=#[u0,a1,a2]) h.out 0 u0 rfl) 1 u1 rfl) 2 u2 rfl)
theorem bQ5 {w:World} {g t:Nat} {a0 a1 a2 a3 a4 u0 u1 u2 u3 u4:Value} (h:Sd (w.heap[g]? = some (.cells #[a0,a1,a2,a3,a4] t (0,0)))):(((((w.setCell ⟨g,0,none⟩ u0).setCell ⟨g,1,none⟩ u1).setCell ⟨g,2,none⟩ u2).setCell ⟨g,3,none⟩ u3).setCell ⟨g,4,none⟩ u4).heap[g]? = some (.cells #[u0,u1,u2,u3,u4] t (0,0)):=(blk_put (cs':=#[u0,u1,u2,u3,u4]) (blk_put (cs':=#[u0,u1,u2,u3,a4]) (blk_put (cs':=#[u0,u1,u2,a3,a4]) (blk_put (cs':=#[u0,u1,a2,a3,a4]) (blk_put (cs':=#[u0,a1,a2,a3,a4]) h.out 0 u0 rfl) 1 u1 rfl) 2 u2 rfl) 3 u3 rfl) 4 u4 rfl)
theorem cn1 {W w0:World} {p:Addr} {g i:Nat} {u v v0:Value} (hw:w0.cell? p=some v0) (GE:Sd (w0.heap.size ≤ g)) (h:W.cell? p=some v):(W.setCell ⟨g,i,none⟩ u).cell? p=some v:=(cell_far (p:=⟨g,i,none⟩) (Nat.ne_of_lt (Nat.lt_of_lt_of_le (World.block_lt_of_cell? _ _ hw) GE.out)) u).trans h
theorem gG {α:Type} {c:Prop} {i:Decidable c} {a:Option α} {r:α} (h : @ite (Option α) c i a none=some r):c∧a=some r:=by
 by_cases h2:c
 ·rw [if_pos h2] at h;exact ⟨h2,h⟩
 ·rw [if_neg h2] at h;cases h
end Go.Proofs.YtjbjbeihkoeciaaGreat.X
namespace Go
open Go.Maps (Keyed)
open Go.RowKit
theorem plainElem_bool_inv {H:Type} {P:Program} {e:TypeId} (he:P.underlying e=some .bool) {v:Value} {z:DataW H × List MemPlace} (h:plainElem P e v=some z):∃ x,v = .bool x∧z=(.lit (.bool x),[]):=by
 unfold plainElem at h;rw [he] at h;cases v <;> simp at h;exact ⟨_,rfl,h.symm⟩
def onList (ks:List Lit) (y:Lit):Bool:=ks.any (fun z=>z.sameKey y)
theorem onList_int (q:IntKind) (l:List Int) (a:Int):onList (l.map (Lit.int q)) (.int q a)=l.contains a:=by
 induction l with
 | nil=>rfl
 | cons x r ih =>
  simp only [onList,List.map_cons,List.any_cons,List.contains_cons] at ih ⊢;rw [ih];congr 1;by_cases h:x=a
  ·subst h;simp [Lit.sameKey]
  ·simp [Lit.sameKey,h,Ne.symm h]
def World.marks (w:World) (P:Program) (k e:TypeId) (b:Nat) (ks:List Lit):Prop :=
 ∃ D:DataW Unit,w.ownsMap P k (plainElem P e) b ks.length D∧∀ kl,WideAt.IsKeyLit kl → D.atKey kl (.lit (.bool false)) = .lit (.bool (onList ks kl))
section
variable {P:Program} {k e:TypeId} {w:World} {b:Nat} {S:List Lit}
theorem World.marks_made (w:World) (P:Program) (k e:TypeId):(w.alloc (.map #[] 0)).marks P k e w.heap.size [] :=
 ⟨.map [],World.ownsMap_made w P k _,fun _ _=>rfl⟩
theorem World.marks.lt (h:w.marks P k e b S):b < w.heap.size:=by
 obtain ⟨D,h1,_⟩:=h;exact h1.lt
theorem World.marks.kept {w':World} {row:Option Nat} (h:w.marks P k e b S) (hg:w.grownBy w' row) (hne:some b ≠ row):w'.marks P k e b S:=by
 obtain ⟨D,h1,h2⟩:=h;exact ⟨D,h1.kept hg hne,h2⟩
theorem World.marks.of_block {w':World} (h:w.marks P k e b S) (hb:w'.heap[b]? = w.heap[b]?):w'.marks P k e b S:=by
 obtain ⟨D,⟨es,clock,h1,h2⟩,h3⟩:=h;exact ⟨D,⟨es,clock,hb.trans h1,h2⟩,h3⟩
theorem World.marks.below {w':World} (h:w.marks P k e b S) (hb:Below w.heap.size w w'):w'.marks P k e b S:=h.of_block (hb.block b h.lt)
theorem World.marks.alloc (h:w.marks P k e b S) (o:Obj):(w.alloc o).marks P k e b S:=h.kept (World.grownBy_alloc w o none) (by simp)
theorem World.marks.drew (h:w.marks P k e b S):w.drew.marks P k e b S:=h
theorem World.marks.setCell (h:w.marks P k e b S) {a:Addr} (ha:b ≠ a.block) (u:Value):(w.setCell a u).marks P k e b S:=by
 obtain ⟨D,h1,h2⟩:=h;exact ⟨D,h1.setCell ha u,h2⟩
theorem World.marks.congr {S':List Lit} (h:w.marks P k e b S) (hS:S=S'):w.marks P k e b S':=hS ▸ h
theorem World.marks.look {t:TypeId} (h:w.marks P k e b S) (K:Keyed P k) (ht:P.underlying t=some (.map k e)) (he:P.underlying e=some .bool) (hz:(zeroValue e).run P w = .ok (.bool false) w)
  {key:Value} {kl:Lit} (hkey:keyOf P k key=some kl):(Instr.lookup t (.map (some b)) key false).run P w = .ok (.bool (onList S kl)) w:=by
 obtain ⟨D,h1,h2⟩:=h;obtain ⟨v,ps,hrun,hv⟩:=h1.lookup K ht hz (plainElem_bool he false) hkey;obtain ⟨x,rfl,hx⟩:=plainElem_bool_inv he hv;rw [h2 kl (K.key hkey)] at hx;simp at hx;rw [hrun,hx.1]
theorem World.marks.mark {t:TypeId} (h:w.marks P k e b S) (K:Keyed P k) (ht:P.underlying t=some (.map k e)) (he:P.underlying e=some .bool) (hn:S.length < maxLen)
  {key:Value} {kl:Lit} (hkey:keyOf P k key=some kl):∃ w',(Instr.mapUpdate t (.map (some b)) key (.bool true)).run P w = .ok () w'∧w'.marks P k e b (kl :: S)∧w.grownBy w' (some b):=by
 obtain ⟨D,h1,h2⟩:=h;have hM:Maps.IsMap D:=h1.isMap;obtain ⟨w',hrun,ho,hg⟩:=h1.update K ht hn hkey (plainElem_bool he true);refine ⟨w',hrun,⟨_,ho,fun x hx=>?_⟩,hg⟩;by_cases hxk:x=kl
 ·subst hxk;rw [Maps.atKey_put_same hM hx];simp [onList,WideAt.sameKey_self hx]
 ·rw [Maps.atKey_put_other hxk,h2 x hx];simp [onList,Maps.sameKey_ne (Ne.symm hxk)]
end
theorem wpList_lookup_marks {P:Program} (w:World) {ops:Array Oper} {rest:List Oper} {o:Oper} {a:Act} {Q:Exit → Act → World → Prop}
  (hg:o.guard=none) (m x:Operand) (t:TypeId) (hop:o.op=Op.lookup t m x false)
  (k e:TypeId) (K:Keyed P k) (ht:P.underlying t=some (.map k e)) (he:P.underlying e=some .bool) (hz:(zeroValue e).run P w = .ok (.bool false) w) (b:Nat) (S:List Lit)
  (hm:a.eval m = .map (some b)) (hown:w.marks P k e b S) (key:Value) (kl:Lit) (hx:a.eval x=key) (hkey:keyOf P k key=some kl)
  (hK:wpList P ops Q rest (a.put o.dst (.bool (onList S kl))) w) :
  wpList P ops Q (o :: rest) a w:=by
 (refine wpList_plain hg fun K' hK'=>?_);have hrun:=hown.look K ht he hz hkey;unfold Oper.wp;simp [execOp,hop,hm,hx,hrun,Result.andThen];exact hK' _ _ hK
theorem wpList_mark {P:Program} (w:World) {ops:Array Oper} {rest:List Oper} {o:Oper} {a:Act} {Q:Exit → Act → World → Prop}
  (hg:o.guard=none) (m x v:Operand) (t:TypeId) (hop:o.op=Op.mapUpdate t m x v)
  (k e:TypeId) (K:Keyed P k) (ht:P.underlying t=some (.map k e)) (he:P.underlying e=some .bool) (b:Nat) (S:List Lit)
  (hm:a.eval m = .map (some b)) (hown:w.marks P k e b S) (hn:S.length < maxLen) (key:Value) (kl:Lit) (hx:a.eval x=key) (hv:a.eval v = .bool true) (hkey:keyOf P k key=some kl)
  (hK:∀ w',w'.marks P k e b (kl :: S) → w.grownBy w' (some b) → wpList P ops Q rest (a.put o.dst undef) w') :
  wpList P ops Q (o :: rest) a w:=by
 (refine wpList_plain hg fun K' hK'=>?_);obtain ⟨w',hrun,r1,r2⟩:=hown.mark K ht he hn hkey;unfold Oper.wp;simp [execOp,hop,hm,hx,hv,hrun,Result.andThen];exact hK' _ _ (hK w' r1 r2)
#print axioms wpList_lookup_marks
#print axioms wpList_mark
end Go
namespace Go.Proofs.YtjbjbeihkoeciaaGreat.X
open Go.RowKit Go.Proofs.YtjbjbeihkoeciaaGreatW.PrintWords Go.Proofs.YtjbjbeihkoeciaaGreatW.PrintLast Go.Proofs.YtjbjbeihkoeciaaGreatW.PrintMore
abbrev Cl:=S85
abbrev Op_:=S89
abbrev Dg:=S94
theorem drop_getD {α:Type} (l:List α) (z:α) (k:Nat) (h:k < l.length):l.drop k=l.getD k z :: l.drop (k + 1):=by
 rw [← List.getElem_cons_drop (h:=h)];simp [List.getD,h]
theorem zero_bool (w:World):(zeroValue 4).run Tryz.prog w = .ok (.bool false) w:=by kernel_rfl
def intV:Value → Int
 | .int _ a=>a
 | _=>0
def leastU:List Int → List Cl → Bool
 | _,[]=>true
 | seen,c :: l=>if c.f0=8 then (if seen.contains c.f2 then false else leastU (c.f2 :: seen) l) else leastU seen l
def leastOk (l:List Cl):Bool:=leastU [] l
theorem grow0Str (n:Int) (w:World) (h0:0 ≤ n) (h1:n ≤ 1000000000) :
  Calls Tryz.prog 157 #[.slice none 0 0,.int .i64 n] w fun e w'=>∃ v,e = .returned v∧Kd.R Kd.string 9 w' w.heap.size (fun _=>True) v ([]:List ByteArray)∧Below w.heap.size w w':=by
 by_cases hz:n=0
 ·subst hz;go_enter Tryz.func157,Tryz.ntmps157;go_wp2_with fail;go_ret;exact ⟨_,rfl,Kd.R_nil _ _ _ _ _,Below.refl _ _⟩
 ·(have hp:0 < n:=by omega);clear hz;go_enter Tryz.func157,Tryz.ntmps157;go_wp2_with (at_builtin;refine Kd.R_append_zeros Kd.string (w0:=w) w.heap.size rfl (.tmp 20) (.tmp 21) 22 3 9 (.string ⟨#[]⟩) 16 rfl Tryz.underlying22 Tryz.underlying3 info9 rfl (by decide) (by omega) (.slice none 0 0) [] (⟨#[]⟩:ByteArray) (n:Int) (fun _=>True) rfl rfl rfl ?aF ?aO h0 ?aB ?aS ?aL ?_;(case aF=>exact (fun _ _=>trivial));(case aO=>exact Kd.R_nil _ _ _ _ _);(case aB=>exact Below.refl _ _);(case aS=>exact Nat.le_refl _);(case aL=>simp;omega);intro v370 w16 ho hb hg hat;obtain ⟨A7,c7,e7⟩:=Kd.R_slice ho;subst e7;have HO:=Sd.mk ho;have HB:=Sd.mk hb;clear ho hb hg hat);go_ret;exact ⟨_,rfl,by have h:=Kd.R_take HO.out (Nat.zero_le _);simpa using h,HB.out⟩
def intVC:Value → Int
 | .int _ a=>a
 | _=>0
theorem flat_take {α:Type} (ll:List (List α)) (i:Nat) (l:List α) (h:ll[i]? = some l):(ll.take (i + 1)).flatten=(ll.take i).flatten ++ l:=by
 obtain ⟨hi,rfl⟩:=List.getElem?_eq_some_iff.1 h;rw [List.take_succ_eq_append_getElem hi,List.flatten_append];simp
theorem flat_le {α:Type} (ll:List (List α)) (i:Nat):(ll.take i).flatten.length ≤ ll.flatten.length:=by
 (conv=>rhs;rw [← List.take_append_drop i ll,List.flatten_append,List.length_append]);omega
theorem concatStr (A:Option Addr) (c:Nat) (ll:List (List ByteArray)) (w:World) (hr:Kd.C (Kd.slice 9 Kd.string) w A ll.length ll) (hc:ll.length ≤ c) (hn:ll.length ≤ 1000000000) (hs:ll.flatten.length ≤ 1000000000) :
  Calls Tryz.prog 129 #[.slice A ll.length c] w fun e w'=>∃ v,e = .returned v∧Kd.R Kd.string 9 w' w.heap.size (fun _=>True) v ll.flatten∧Below w.heap.size w w':=by
 generalize hnl:ll.length=n at *;have HNL:=Sd.mk hnl;have HR:=Sd.mk hr;have HS:=Sd.mk hs;clear hr hnl hs;go_enter Tryz.func129,Tryz.ntmps129;go_wp2_with fail;go_loopw [3,11] (fun v3 v11 w'=>∃ i:Nat,v3 = .int .i64 ((ll.take i).flatten.length:Nat)∧v11 = .int .i64 (i:Int)∧i ≤ n∧w=w') (fun _ v11 _=>((n:Int) - intVC v11).toNat)
 case atStart=>exact ⟨0,rfl,rfl,Nat.zero_le _,rfl⟩
 case round =>
  obtain ⟨i,rfl,rfl,hi,rfl⟩:=hrel;by_cases hlt:i < n
  ·(have hlt':decide ((i:Int) < (n:Int))=true:=by simp;omega);(have p0:0 ≤ (i:Int):=by omega);(have q0:(i:Int) < (n:Int):=by omega);obtain ⟨ad,cs,e0,_,hK,hc0⟩:=Kd.C_get HR.out ([]:List ByteArray) (i:Int) p0 q0;cases e0;(have hget:ll[i]? = some (ll.getD i []):=by rw [List.getD_eq_getElem?_getD,List.getElem?_eq_getElem (by rw [HNL.out];exact hlt)];rfl);simp only [Int.toNat_natCast] at hK hc0;generalize hx:ll.getD i []=x at *;have hfl:=flat_take ll i x hget;have hle:=flat_le ll (i + 1);have hle2:=HS.out;rw [hfl,List.length_append] at hle;have HFL:=Sd.mk hfl;clear hx hget hfl;obtain ⟨A1,c1,rfl,l1,g1⟩:=hK;have hc1:∀ j u,[Value.slice A1 x.length c1][j]? = some u → w.cell? (ad.add (i * 1 + j))=some u:=hc0;(have hx0:w.cell? (ad.add i)=some (.slice A1 x.length c1):=by have h_:=hc1 0 _ rfl;simpa using h_);clear hc0 hc1 g1;replace p0:=eq_true p0;replace q0:=eq_true q0;generalize hm:(ll.take i).flatten.length=m at *;have HM:=Sd.mk hm;clear hm;generalize hxl:x.length=xl at *;have HXL:=Sd.mk hxl;clear hxl;(have hge:decide ((m:Int) + (xl:Int) < 0)=false:=by simp;omega);go_wp2_with fail;go_roundw
   case measure=>simp [intVC];omega
   case rel=>exact ⟨i + 1,by rw [HFL.out,List.length_append,HM.out,HXL.out];simp,by simp,by omega,by first|rfl|trivial⟩
  ·(have hlt':decide ((i:Int) < (n:Int))=false:=by simp;omega);have HI:Sd (ll.take i=ll):=⟨List.take_of_length_le (by rw [HNL.out];omega)⟩;rw [HI.out];have hle2:=HS.out;generalize hm:ll.flatten.length=m at *;have HM:=Sd.mk hm;clear hm;go_wp2_with fail;refine (grow0Str (m:Int) _ (by omega) (by omega)).mono ?_;rintro e w1 ⟨v1,rfl,ho1,hb1⟩;have HO1:=Sd.mk ho1;have HB1:=Sd.mk hb1;clear ho1 hb1;go_wp2_with fail;go_loopw [6,27] (fun v6 v27 w'=>∃ j:Nat,v27 = .int .i64 (j:Int)∧j ≤ n∧Sd (Kd.R Kd.string 9 w' w.heap.size (fun _=>True) v6 (ll.take j).flatten)∧Sd (Below w.heap.size w w')) (fun _ v27 _=>((n:Int) - intVC v27).toNat)
   case atStart=>exact ⟨0,rfl,Nat.zero_le _,HO1,HB1⟩
   case round =>
    obtain ⟨j,rfl,hj,HO,HB⟩:=hrel;by_cases hlt2:j < n
    ·(have hlt2':decide ((j:Int) < (n:Int))=true:=by simp;omega);(have p0:0 ≤ (j:Int):=by omega);(have q0:(j:Int) < (n:Int):=by omega);obtain ⟨ad,cs,e0,_,hK,hc0⟩:=Kd.C_get (Kd.C_below HR.out HB.out) ([]:List ByteArray) (j:Int) p0 q0;cases e0;(have hget:ll[j]? = some (ll.getD j []):=by rw [List.getD_eq_getElem?_getD,List.getElem?_eq_getElem (by rw [HNL.out];exact hlt2)];rfl);simp only [Int.toNat_natCast] at hK hc0;generalize hx:ll.getD j []=x at *;have hfl:=flat_take ll j x hget;have hle:=flat_le ll (j + 1);rw [hfl,List.length_append,HM.out] at hle;have HFL:=Sd.mk hfl;have HLE:=Sd.mk hle;clear hx hget hfl hle;obtain ⟨A1,c1,rfl,l1,g1⟩:=hK;have hc1:∀ k u,[Value.slice A1 x.length c1][k]? = some u → wr.cell? (ad.add (j * 1 + k))=some u:=hc0;(have hx0:wr.cell? (ad.add j)=some (.slice A1 x.length c1):=by have h_:=hc1 0 _ rfl;simpa using h_);have G1:=Sd.mk g1;clear hc0 hc1 g1;replace p0:=eq_true p0;replace q0:=eq_true q0;obtain ⟨A6,c6,e6⟩:=Kd.R_slice HO.out;cases e6;go_wp2_with ((with_reducible refine gate_builtin (b:=.append) (xs:=#[.tmp 31,.tmp 32]) rfl ?_);at_builtin;refine Kd.R_append_rows Kd.string (w0:=w) w.heap.size rfl (.tmp 31) (.tmp 32) 22 9 (.string ⟨#[]⟩) 16 rfl Tryz.underlying22 info9 rfl (by decide) (by omega) _ (ll.take j).flatten x _ _ _ (fun k_=>True) (fun _=>False) rfl rfl ?aO ?aR (fun _ _ h=>h) (fun _ h=>h.elim) ?aF ?aB ?aS ?aL ?_;(case aR=>exact G1.out);(case aB=>exact HB.out);(case aF=>exact (fun _ _=>trivial));(case aO=>exact HO.out);(case aS=>exact below_size HB.out);(case aL=>have:=HLE.out;omega);intro v370 w16 ho hb hg hat;have HO2:=Sd.mk ho;have HB2:=Sd.mk hb;clear ho hb hg hat);go_roundw
     case measure=>simp [intVC];omega
     case rel=>exact ⟨j + 1,by simp,by omega,⟨by rw [HFL.out];exact HO2.out⟩,HB2⟩
    ·(have hlt2':decide ((j:Int) < (n:Int))=false:=by simp;omega);go_wp2_with fail;go_ret;exact ⟨_,rfl,by have h:=HO.out;rwa [List.take_of_length_le (by rw [HNL.out];omega)] at h,HB.out⟩
theorem rows3 {w:World} {g:Nat} {A0 A1 A2:Option Addr} {c0 c1 c2:Nat} {l0 l1 l2:List ByteArray} (hb:w.heap[g]? = some (.cells #[.slice A0 l0.length c0,.slice A1 l1.length c1,.slice A2 l2.length c2] 22 (0,0)))
  (h0:Kd.C Kd.string w A0 l0.length l0) (k0:l0.length ≤ c0) (h1:Kd.C Kd.string w A1 l1.length l1) (k1:l1.length ≤ c1) (h2:Kd.C Kd.string w A2 l2.length l2) (k2:l2.length ≤ c2) :
  Kd.C (Kd.slice 9 Kd.string) w (some ⟨g,0,none⟩) [l0,l1,l2].length [l0,l1,l2]:=by
 (have ha:∀ j,(⟨g,0,none⟩:Addr).add j=⟨g,j,none⟩:=fun j=>by simp [Addr.add];try omega);refine ⟨rfl,by simp,fun _=>⟨⟨g,0,none⟩,rfl,fun j p hj=>?_⟩⟩;rcases j with _|_|_|j
 ·cases hj;exact ⟨_,rfl,⟨A0,c0,rfl,k0,h0⟩,fun i u hu=>by
   rcases i with _|i
   ·cases hu
    rw [ha];exact (blk_cell hb 0).trans rfl
   ·simp at hu⟩
 ·cases hj;exact ⟨_,rfl,⟨A1,c1,rfl,k1,h1⟩,fun i u hu=>by
   rcases i with _|i
   ·cases hu
    rw [ha];exact (blk_cell hb 1).trans rfl
   ·simp at hu⟩
 ·cases hj;exact ⟨_,rfl,⟨A2,c2,rfl,k2,h2⟩,fun i u hu=>by
   rcases i with _|i
   ·cases hu
    rw [ha];exact (blk_cell hb 2).trans rfl
   ·simp at hu⟩
 ·simp at hj
def namesL (l0 l1 l2:List ByteArray) (l4:List Op_):List ByteArray:=l0 ++ l1 ++ l2 ++ l4.map (·.f0)
theorem names_call (A0:Option Addr) (c0:Nat) (l0:List ByteArray) (A1:Option Addr) (c1:Nat) (l1:List ByteArray) (A2:Option Addr) (c2:Nat) (l2:List ByteArray) (v3:Value) (A4:Option Addr) (c4:Nat) (l4:List Op_) (w:World)
  (hr0:Kd.C Kd.string w A0 l0.length l0) (hc0:l0.length ≤ c0) (hr1:Kd.C Kd.string w A1 l1.length l1) (hc1:l1.length ≤ c1) (hr2:Kd.C Kd.string w A2 l2.length l2) (hc2:l2.length ≤ c2) (hr4:Kd.C k89 w A4 l4.length l4) (hc4:l4.length ≤ c4)
  (hn0:l0.length ≤ 100000000) (hn1:l1.length ≤ 100000000) (hn2:l2.length ≤ 100000000) (hn4:l4.length ≤ 100000000) :
  Calls Tryz.prog 89 #[.agg #[.slice A0 l0.length c0,.slice A1 l1.length c1,.slice A2 l2.length c2,v3,.slice A4 l4.length c4]] w fun e w'=>∃ v,e = .returned v∧Kd.R Kd.string 9 w' w.heap.size (fun _=>True) v (namesL l0 l1 l2 l4)∧Below w.heap.size w w':=by
 have HR0:=Sd.mk hr0;have HR1:=Sd.mk hr1;have HR2:=Sd.mk hr2;have HR4:=Sd.mk hr4;clear hr0 hr1 hr2 hr4;have HLEN:Sd ([l0,l1,l2].flatten.length ≤ 300000000):=⟨by simp;omega⟩;have HFLAT:Sd ([l0,l1,l2].flatten=l0 ++ l1 ++ l2):=⟨by simp⟩;have HCON:Sd (∀ (g:Nat) (w1:World),Below w.heap.size w w1 → w1.heap[g]? = some (.cells #[.slice A0 l0.length c0,.slice A1 l1.length c1,.slice A2 l2.length c2] 22 (0,0)) → Calls Tryz.prog 129 #[.slice (some ⟨g,0,none⟩) 3 3] w1 fun e w'=>∃ v,e = .returned v∧Kd.R Kd.string 9 w' w1.heap.size (fun _=>True) v (l0 ++ l1 ++ l2)∧Below w1.heap.size w1 w') :=
  ⟨fun g w1 hw hb=>by
   have:=concatStr (some ⟨g,0,none⟩) 3 [l0,l1,l2] w1 (rows3 hb (Kd.C_below HR0.out hw) hc0 (Kd.C_below HR1.out hw) hc1 (Kd.C_below HR2.out hw) hc2) (by simp) (by simp) (Nat.le_trans HLEN.out (by decide))
   rw [HFLAT.out] at this
   exact this⟩
 generalize l0.length=n0 at *;generalize l1.length=n1 at *;generalize l2.length=n2 at *;generalize hn:l4.length=n4 at *;have HN4:=Sd.mk hn;have HL012:Sd ((l0 ++ l1 ++ l2).length ≤ 300000000):=⟨by rw [← HFLAT.out];exact HLEN.out⟩;clear hn;go_enter Tryz.func89,Tryz.ntmps89;go_upto_region 1 with (((with_reducible refine gate_dst (N:=1) rfl ?_);refine box_event ?hg (N:=1) ?hd (cs:=#[.slice A0 n0 c0,.slice A1 n1 c1,.slice A2 n2 c2,v3,.slice A4 n4 c4]) (t:=26) ?hr ?_;(case hd=>rfl);(case hg=>rfl);(case hr=>first|(go_simp;done)|(go_simp;rfl));intro g hg w3 hbox hb;have HB:=Sd.mk hb;have BK:=Sd.mk hbox;have HG:=Sd.mk hg;clear hb hbox hg));obtain ⟨hb0,hb1,hb2⟩:=bc3 BK.out;go_wp2_with fail;refine (HCON.out _ _ (below_alloc HB.out _) (blk_new w3 _)).mono ?_;rintro e w4 ⟨v4,rfl,ho4,hb4⟩;have HB4:=Sd.mk (below_step (below_alloc HB.out _) hb4);have BK4:=Sd.mk (blk_below (blk_alloc BK.out _) hb4);have HO4:Sd (Kd.R Kd.string 9 w4 w.heap.size (fun _=>True) v4 (l0 ++ l1 ++ l2)):=⟨Kd.R_lower ho4 (Nat.le_trans (below_size HB.out) (by simp))⟩;clear ho4 hb4 hb0 hb1 hb2;have hb4':w4.cell? ⟨g,4,none⟩=some (.slice A4 n4 c4):=(blk_cell BK4.out 4).trans rfl;go_wp2_with fail;go_loopw [3,17] (fun v3 v17 wr=>∃ pos:Nat,v17 = .int .i64 (pos:Int)∧pos ≤ n4∧Sd (Kd.R Kd.string 9 wr w.heap.size (fun _=>True) v3 (l0 ++ l1 ++ l2 ++ (l4.take pos).map (·.f0)))∧Sd (Below w.heap.size w wr)) (fun _ v17 _=>((n4:Int) - intV v17).toNat)
 case atStart=>exact ⟨0,rfl,Nat.zero_le _,⟨by simpa using HO4.out⟩,HB4⟩
 case round =>
  obtain ⟨pos,rfl,hpos,HO,HBr⟩:=hrel;by_cases hlt:pos < n4
  ·(have hlt':decide ((pos:Int) < (n4:Int))=true:=by simp;omega);(have p:0 ≤ (pos:Int):=by omega);(have q:(pos:Int) < (n4:Int):=by omega);obtain ⟨ad,A5,c5,e0,hx0,hx1,_,_⟩:=at_T89 (Kd.C_below HR4.out HBr.out) (pos:Int) p q;cases e0;have HTK:Sd ((l4.take (pos + 1)).map (·.f0)=(l4.take pos).map (·.f0) ++ [(rd_T89 l4 (pos:Int)).f0]):=⟨by
    have hlt4:pos < l4.length:=by rw [HN4.out];exact hlt
    rw [List.take_succ_eq_append_getElem hlt4,List.map_append]
    simp [rd_T89,List.getD,hlt4]⟩
   simp only [Int.toNat_natCast] at hx0 hx1;generalize hx:rd_T89 l4 (pos:Int)=x at *;clear hx;replace p:=eq_true p;replace q:=eq_true q;go_upto_region 5 with (((with_reducible refine gate_dst (N:=5) rfl ?_);refine box_event ?hg (N:=5) ?hd (cs:=#[.string ⟨#[]⟩,.slice none 0 0]) (t:=89) ?hr ?_;(case hd=>rfl);(case hg=>rfl);(case hr=>first|(go_simp;done)|(go_simp;rfl));intro g1 hg1 w6 hbox1 hb1;have hcz0:w6.cell? ⟨g1,0,none⟩=some (.string ⟨#[]⟩):=(blk_cell hbox1 0).trans rfl;have hcz1:w6.cell? ⟨g1,1,none⟩=some (.slice none 0 0):=(blk_cell hbox1 1).trans rfl;have hfz0:=blk_frozen hbox1 0;have hfz1:=blk_frozen hbox1 1;have HB1:=Sd.mk hb1;have BK1:=Sd.mk hbox1;have HG1:=Sd.mk hg1;clear hb1 hbox1 hg1));(have hgw:w.heap.size ≤ g1:=by rw [HG1.out];exact below_size HBr.out);have HB5:=Sd.mk (below_set (j:=1) (v:=.slice A5 x.f1.length c5) (below_set (j:=0) (v:=.string x.f0) (below_step HBr.out HB1.out) hgw) hgw);have HO5:Sd (Kd.R Kd.string 9 ((w6.setCell ⟨g1,0,none⟩ (.string x.f0)).setCell ⟨g1,1,none⟩ (.slice A5 x.f1.length c5)) w.heap.size (fun _=>True) u3 (l0 ++ l1 ++ l2 ++ (l4.take pos).map (·.f0))):=⟨by
    refine Kd.R_mono (Kd.R_far (p:=⟨g1,1,none⟩) (Kd.R_far (p:=⟨g1,0,none⟩) (Kd.R_types (Kd.R_below HO.out HB1.out) BK1.out (by decide)) (fun _ hk=>hk.2) _) (fun _ hk=>hk.2) _) (fun _ _=>trivial)⟩
   have HK5:Sd (((w6.setCell ⟨g1,0,none⟩ (.string x.f0)).setCell ⟨g1,1,none⟩ (.slice A5 x.f1.length c5)).heap[g1]? = some (.cells #[.string x.f0,.slice A5 x.f1.length c5] 89 (0,0))):=⟨by
    refine blk_put (cs:=#[.string x.f0,.slice none 0 0]) ?_ 1 _ rfl
    exact blk_put BK1.out 0 _ rfl⟩
   generalize ((w6.setCell ⟨g1,0,none⟩ (.string x.f0)).setCell ⟨g1,1,none⟩ (.slice A5 x.f1.length c5))=w7 at *;have hd0:w7.cell? ⟨g1,0,none⟩=some (.string x.f0):=(blk_cell HK5.out 0).trans rfl;clear hcz0 hcz1 hfz0 hfz1 hx0 hx1;have HLL:Sd ((l0 ++ l1 ++ l2 ++ (l4.take pos).map (·.f0)).length + 1 ≤ 500000000):=⟨by
    have:=HL012.out
    rw [List.length_append,List.length_map,List.length_take];omega⟩
   generalize hL:l0 ++ l1 ++ l2 ++ (l4.take pos).map (·.f0)=L at *;have HL:=Sd.mk hL;clear hL;go_wp2_with (((with_reducible refine gate_builtin (b:=.append) (xs:=#[.tmp 21,.tmp 24]) rfl ?_);at_builtin;refine Kd.R_append Kd.string (w0:=w) w.heap.size rfl (.tmp 21) (.tmp 24) 22 9 (.string ⟨#[]⟩) 16 rfl Tryz.underlying22 info9 rfl (by decide) (by omega) u3 L (x.f0) [.string (x.f0)] (fun _=>True) (fun _=>False) rfl rfl ?aP (fun _ hk=>hk.elim) ?aF ?aO ?aB ?aS ?aL ?_;(case aP=>exact rfl);(case aB=>exact HB5.out);(case aF=>exact (fun _ _=>trivial));(case aO=>exact HO5.out);(case aS=>exact below_size HB5.out);(case aL=>have:=HLL.out;omega);intro v116 w16 ho hb hg hat;have HO8:=Sd.mk ho;have HB8:=Sd.mk hb;clear ho hb hg hat));go_roundw
   case measure=>simp [intV];omega
   case rel=>exact ⟨pos + 1,by simp,by omega,⟨by rw [HTK.out,← List.append_assoc,HL.out];exact HO8.out⟩,HB8⟩
  ·(have hlt':decide ((pos:Int) < (n4:Int))=false:=by simp;omega);go_wp2_with fail;go_ret;exact ⟨_,rfl,by have h:=HO.out;rwa [List.take_of_length_le (by rw [HN4.out];omega)] at h,HBr.out⟩
end Go.Proofs.YtjbjbeihkoeciaaGreat.X
namespace Go.Proofs.YtjbjbeihkoeciaaGreat.X
open Go.RowKit
def letB (c:Int):Bool:=decide (97 ≤ c∧c ≤ 122)
def digB (c:Int):Bool:=decide (48 ≤ c∧c ≤ 57)
theorem letB_t {c:Int} (h1:97 ≤ c) (h2:c ≤ 122):letB c=true:=by unfold letB;simp;omega
theorem letB_f {c:Int} (h:¬ (97 ≤ c∧c ≤ 122)):letB c=false:=by unfold letB;simp at *;omega
theorem digB_t {c:Int} (h1:48 ≤ c) (h2:c ≤ 57):digB c=true:=by unfold digB;simp;omega
theorem digB_f {c:Int} (h:¬ (48 ≤ c∧c ≤ 57)):digB c=false:=by unfold digB;simp at *;omega
theorem ret_bool {a b:Bool} (h:a=b):Ending.returned (.bool a) = .returned (.bool b):=by rw [h]
theorem letter_any (c:Int) (w:World):Calls Tryz.prog 175 #[.int .i32 c] w fun e w'=>e = .returned (.bool (letB c))∧w=w':=by
 by_cases h1:97 ≤ c
 ·by_cases h2:c ≤ 122
  ·have H:=Lib.hid (letB_t h1 h2);go_enter Tryz.func175,Tryz.ntmps175;go_wp2;go_ret;exact ⟨ret_bool H.out.symm,rfl⟩
  ·have H:=Lib.hid (letB_f (c:=c) (by omega));go_enter Tryz.func175,Tryz.ntmps175;go_wp2;go_ret;exact ⟨ret_bool H.out.symm,rfl⟩
 ·have H:=Lib.hid (letB_f (c:=c) (by omega));go_enter Tryz.func175,Tryz.ntmps175;go_wp2;go_ret;exact ⟨ret_bool H.out.symm,rfl⟩
theorem digit_any (c:Int) (w:World):Calls Tryz.prog 176 #[.int .i32 c] w fun e w'=>e = .returned (.bool (digB c))∧w=w':=by
 by_cases h1:48 ≤ c
 ·by_cases h2:c ≤ 57
  ·have H:=Lib.hid (digB_t h1 h2);go_enter Tryz.func176,Tryz.ntmps176;go_wp2;go_ret;exact ⟨ret_bool H.out.symm,rfl⟩
  ·have H:=Lib.hid (digB_f (c:=c) (by omega));go_enter Tryz.func176,Tryz.ntmps176;go_wp2;go_ret;exact ⟨ret_bool H.out.symm,rfl⟩
 ·have H:=Lib.hid (digB_f (c:=c) (by omega));go_enter Tryz.func176,Tryz.ntmps176;go_wp2;go_ret;exact ⟨ret_bool H.out.symm,rfl⟩
def byt (s:ByteArray) (i:Nat):Int:=if h:i < s.size then ((s[i]'h).toNat:Int) else 0
def wchar (s:ByteArray) (i:Nat):Bool:=letB (byt s i) || (decide (0 < i) && digB (byt s i))
def wordFrom (s:ByteArray):Nat → Nat → Bool
 | 0,_=>true
 | b + 1,pos=>if pos < s.size then wchar s pos && wordFrom s b (pos + 1) else true
def wordB (s:ByteArray):Bool:=decide (1 ≤ s.size∧s.size ≤ 16) && wordFrom s s.size 0
theorem wordFrom_end (s:ByteArray) (b pos:Nat) (h:¬ pos < s.size):wordFrom s b pos=true:=by
 cases b with
 | zero=>rfl
 | succ b=>simp [wordFrom,h]
theorem rune_byte (s:ByteArray) (pos:Nat) (h:pos < s.size):(byt s pos < 128∧((Utf8.decode s pos).1:Int)=byt s pos∧(Utf8.decode s pos).2=1) ∨ (128 ≤ byt s pos∧128 ≤ ((Utf8.decode s pos).1:Int)∧1 ≤ (Utf8.decode s pos).2):=by
 unfold byt;rw [dif_pos h];by_cases ha:(s[pos]'h).toNat < 128
 ·rw [decode_ascii s pos h ha];exact .inl ⟨by omega,rfl,rfl⟩
 ·have:=decode_high s pos h (by omega);exact .inr ⟨by omega,by omega,this.2⟩
theorem toList_len (s:ByteArray):s.toList.length=s.size:=by
 rw [ByteArray.toList_eq];rfl
theorem word_any (s:ByteArray) (w:World) :
  Calls Tryz.prog 155 #[.string s] w fun e w'=>e = .returned (.bool (wordB s))∧Below w.heap.size w w':=by
 by_cases h0:s.toList.isEmpty=true
 ·have hb:wordB s=false:=by
   (have:s.toList = []:=by simpa using h0);have h2:=toList_len s;rw [this] at h2;unfold wordB;(have h3:¬ (1 ≤ s.size∧s.size ≤ 16):=by simp at h2;omega);simp [h3]
  have H:=Lib.hid hb;go_enter Tryz.func155,Tryz.ntmps155;go_wp2;go_ret;exact ⟨ret_bool H.out.symm,Below.refl _ _⟩
 (have h0':s.toList.isEmpty=false:=by simpa using h0);have h2:1 ≤ s.size:=by
  have h2:=toList_len s;rcases Nat.eq_zero_or_pos s.size with h|h
  ·rw [h] at h2;have:s.toList = []:=List.eq_nil_of_length_eq_zero h2;rw [this] at h0;exact absurd rfl h0
  ·exact h
 clear h0;by_cases h1:s.size ≤ 16
 ·(have h1':decide (16 < (s.size:Int))=false:=by simp;omega);go_enter Tryz.func155,Tryz.ntmps155;go_wp2;go_loopw [] (fun w'=>∃ (pos b:Nat),w' = w.iter s pos∧wordFrom s b pos=wordFrom s s.size 0∧s.size ≤ pos + b) (fun w'=>s.size - w'.iterPos w.heap.size)
  case atStart=>exact ⟨0,s.size,rfl,rfl,by omega⟩
  case round =>
   obtain ⟨pos,b,rfl,hc,hb⟩:=hrel;have HC:=Lib.hid hc;clear hc;by_cases hp:pos < s.size
   ·(have hnx:∀ ty,(Instr.next (.pointer (some ⟨w.heap.size,0,none⟩)) true ty).run Tryz.prog (w.iter s pos)=_:=fun ty=>run_next_any w s pos ty hp);have hr:=rune_byte s pos hp;(have hround:∀ (K:Prop),letB ((Utf8.decode s pos).1:Int)=letB (byt s pos) → digB ((Utf8.decode s pos).1:Int)=digB (byt s pos) → K → K:=fun _ _ _ h=>h);have hlb:letB ((Utf8.decode s pos).1:Int)=letB (byt s pos):=by
     rcases hr with ⟨_,h,_⟩ | ⟨h,h',_⟩
     ·rw [h]
     ·rw [letB_f (by omega),letB_f (by omega)]
    have hdb:digB ((Utf8.decode s pos).1:Int)=digB (byt s pos):=by
     rcases hr with ⟨_,h,_⟩ | ⟨h,h',_⟩
     ·rw [h]
     ·rw [digB_f (by omega),digB_f (by omega)]
    have hwd:wchar s pos=true → (Utf8.decode s pos).2=1:=by
     intro hw;rcases hr with ⟨_,_,h⟩ | ⟨h,_,_⟩
     ·exact h
     ·unfold wchar at hw;rw [letB_f (by omega),digB_f (by omega)] at hw;simp at hw
    have HW:=Lib.hid hwd;clear hwd hr hround;by_cases hl:letB ((Utf8.decode s pos).1:Int)=true
    ·have HL:=Lib.hid hlb;have HD:=Lib.hid hdb;clear hlb hdb;go_wp2_with (go_at_call 175;refine (letter_any _ _).mono ?_;rintro e w' ⟨rfl,rfl⟩);(have hwc:wchar s pos=true:=by unfold wchar;rw [← HL.out,hl];rfl);have hwd:=HW.out hwc;go_roundw
     case rel =>
      cases b with
      | zero=>omega
      | succ b =>
       refine ⟨pos + (Utf8.decode s pos).2,b,rfl,?_,by omega⟩;rw [← HC.out];simp [wordFrom,hp,hwc,hwd]
     case measure =>
      simp;omega
    ·(have hl':letB ((Utf8.decode s pos).1:Int)=false:=by simpa using hl);clear hl;have HL:=Lib.hid hlb;have HD:=Lib.hid hdb;clear hlb hdb;have hno:wchar s pos=false → wordB s=false:=by
      intro hw;unfold wordB;rw [← HC.out];cases b with
      | zero=>omega
      | succ b=>simp [wordFrom,hp,hw]
     have HN:=Lib.hid hno;clear hno;by_cases hz:pos=0
     ·have HZ:=Lib.hid hz;have hz1:((pos:Int) == 0)=true:=beq_iff_eq.2 (by omega);clear hz;go_wp2_with (go_at_call 175;refine (letter_any _ _).mono ?_;rintro e w' ⟨rfl,rfl⟩);go_ret;(have hwc:wchar s pos=false:=by unfold wchar;rw [← HL.out,hl',HZ.out];rfl);exact ⟨ret_bool (HN.out hwc).symm,(Below.refl _ _).alloc (Nat.le_refl _) _⟩
     ·have hz1:((pos:Int) == 0)=false:=beq_eq_false_iff_ne.2 (by omega);by_cases hd:digB ((Utf8.decode s pos).1:Int)=true
      ·go_wp2_with (first|(go_at_call 175;refine (letter_any _ _).mono ?_;rintro e w' ⟨rfl,rfl⟩)|(go_at_call 176;refine (digit_any _ _).mono ?_;rintro e w' ⟨rfl,rfl⟩));(have hwc:wchar s pos=true:=by unfold wchar;rw [← HD.out,hd];simp;omega);have hwd:=HW.out hwc;go_roundw
       case rel =>
        cases b with
        | zero=>omega
        | succ b =>
         refine ⟨pos + (Utf8.decode s pos).2,b,rfl,?_,by omega⟩;rw [← HC.out];simp [wordFrom,hp,hwc,hwd]
       case measure =>
        simp;omega
      ·(have hd':digB ((Utf8.decode s pos).1:Int)=false:=by simpa using hd);clear hd;go_wp2_with (first|(go_at_call 175;refine (letter_any _ _).mono ?_;rintro e w' ⟨rfl,rfl⟩)|(go_at_call 176;refine (digit_any _ _).mono ?_;rintro e w' ⟨rfl,rfl⟩));go_ret;(have hwc:wchar s pos=false:=by unfold wchar;rw [← HL.out,← HD.out,hl',hd'];simp);exact ⟨ret_bool (HN.out hwc).symm,(Below.refl _ _).alloc (Nat.le_refl _) _⟩
   ·(have hnx:∀ ty,(Instr.next (.pointer (some ⟨w.heap.size,0,none⟩)) true ty).run Tryz.prog (w.iter s pos)=_:=fun ty=>run_next_end w s pos ty hp);have hfin:wordB s=true:=by
     unfold wordB;rw [← HC.out,wordFrom_end s b pos hp];simp;omega
    have HF:=Lib.hid hfin;clear hfin;go_wp2;go_ret;exact ⟨ret_bool HF.out.symm,(Below.refl _ _).alloc (Nat.le_refl _) _⟩
 ·(have h1':decide (16 < (s.size:Int))=true:=by simp;omega);have hb:wordB s=false:=by
   unfold wordB;(have h3:¬ (1 ≤ s.size∧s.size ≤ 16):=by omega);simp [h3]
  have H:=Lib.hid hb;go_enter Tryz.func155,Tryz.ntmps155;go_wp2;go_ret;exact ⟨ret_bool H.out.symm,Below.refl _ _⟩
def lex_Word.f (a0:ByteArray):Option Bool:=some (wordB a0)
theorem lex_Word.calls (a0:ByteArray) (r:Bool) (w:World) (h:lex_Word.f a0=some r) :
  Calls Tryz.prog 155 #[.string a0] w fun e w'=>e = .returned (.bool r)∧Below w.heap.size w w':=by
 obtain rfl:wordB a0=r:=Option.some.inj h;exact word_any a0 w
end Go.Proofs.YtjbjbeihkoeciaaGreat.X
namespace Go.Proofs.YtjbjbeihkoeciaaGreat.X
open Go.RowKit Go.Proofs.YtjbjbeihkoeciaaGreatW.PrintWords Go.Proofs.YtjbjbeihkoeciaaGreatW.PrintLast Go.Proofs.YtjbjbeihkoeciaaGreatW.PrintMore
section
attribute [local go_sem] max2_int min2_int max_two min_two max_three min_three max_four min_four
def slices_Index_string.l0:Nat → List ByteArray → ByteArray → Int → Int → Option (Int)
 | 0,_,_,_,_=>none
 | k + 1,x0,x1,x7,x8=>if x8 < x7 then (if 0 ≤ x8 then (if x8 < (x0.length:Int) then (if x1.toList=(rdOf ByteArray.empty x0 x8).toList then (some x8) else (slices_Index_string.l0 k x0 x1 x7 (wrap64 (x8 + 1)))) else (none)) else (none)) else (some (-1))
def slices_Index_string.f (k:Nat) (l0:List ByteArray) (a1:ByteArray):Option (Int):=slices_Index_string.l0 k l0 a1 (l0.length:Int) 0
theorem slices_Index_string.calls (k:Nat) (A0:Option Addr) (c0:Nat) (l0:List ByteArray) (a1:ByteArray) (r:Int) (w:World) (hr0:Kd.C Kd.string w A0 l0.length l0) (hc0:l0.length ≤ c0) (h:slices_Index_string.f k l0 a1=some r) :
  Calls Tryz.prog 182 #[.slice A0 l0.length c0,.string a1] w fun e w'=>e = .returned (.int .i64 r)∧Drawn0 w w':=by
 have HR0:=Sd.mk hr0;have HC0:=Sd.mk hc0;clear hr0 hc0;have H:=h;clear h;unfold slices_Index_string.f at H;have H':=Sd.mk H;clear H;go_enter Tryz.func182,Tryz.ntmps182;go_wp2;go_loopg [8] k (fun kq v8 w'=>∃ (x8_1:Int),v8 = .int .i64 x8_1∧Sd (slices_Index_string.l0 kq l0 a1 (l0.length:Int) x8_1=some r)∧Sd (kq ≤ k)∧Drawn0 w w')
 case atStart=>exact ⟨(0),tSS,H',⟨Nat.le_refl _⟩,tR⟩
 case round =>
  clear H';obtain ⟨x8_1,rfl,HA,HK1,⟨m1,rfl⟩⟩:=hrel;cases gk with
  | zero=>exact absurd HA.out (by simp [slices_Index_string.l0])
  | succ k1 =>
   have H:=HA.out;clear HA;simp only [slices_Index_string.l0] at H;replace H:=iD H;rcases H with ⟨c3,c3b0,H⟩ | ⟨c3,c3b0,H⟩
   ·clear c3;obtain ⟨c4,H⟩:=gG H;have c4b0:=dTr c4;clear c4;obtain ⟨c5,H⟩:=gG H;have c5b0:=dTr c5;clear c5;replace H:=iE H;rcases H with ⟨c6,c6b0,c6b1,H⟩ | ⟨c6,c6b0,c6b1,H⟩
    ·clear c6;obtain rfl:=sI H;have p527:0 ≤ (x8_1:Int):=tD;have q527:x8_1 < (l0.length:Int):=tD;obtain ⟨ad527,e527,hx527_0⟩:=Kd.at_string HR0.out x8_1 p527 q527;cases e527;replace p527:=eq_true p527;replace q527:=eq_true q527;go_wp2;go_ret;exact ⟨by first|rfl|(simp;done)|(simp [*];done),tR⟩
    ·have H':=Sd.mk H;clear H;have p527:0 ≤ (x8_1:Int):=tD;have q527:x8_1 < (l0.length:Int):=tD;obtain ⟨ad527,e527,hx527_0⟩:=Kd.at_string HR0.out x8_1 p527 q527;cases e527;replace p527:=eq_true p527;replace q527:=eq_true q527;go_wp2;go_roundg k1
     case measure=>have:=HK1.out;omega
     case rel=>exact ⟨(wrap64 (x8_1 + 1)),tSS,H',⟨by have:=HK1.out;omega⟩,tR⟩
   ·clear c3;obtain rfl:=sI H;go_wp2;go_ret;exact ⟨by first|rfl|(simp;done)|(simp [*];done),tR⟩
def slices_Contains_string.f (k:Nat) (l0:List ByteArray) (a1:ByteArray):Option (Bool):=(slices_Index_string.f k l0 a1).bind fun t528=>(some (decide (t528 ≥ 0)))
theorem slices_Contains_string.calls (k:Nat) (A0:Option Addr) (c0:Nat) (l0:List ByteArray) (a1:ByteArray) (r:Bool) (w:World) (hr0:Kd.C Kd.string w A0 l0.length l0) (hc0:l0.length ≤ c0) (h:slices_Contains_string.f k l0 a1=some r) :
  Calls Tryz.prog 174 #[.slice A0 l0.length c0,.string a1] w fun e w'=>e = .returned (.bool r)∧Drawn0 w w':=by
 have HR0:=Sd.mk hr0;have HC0:=Sd.mk hc0;clear hr0 hc0;have H:=h;clear h;unfold slices_Contains_string.f at H;obtain ⟨t528,A3,H⟩:=oB H;obtain rfl:=sI H;go_enter Tryz.func174,Tryz.ntmps174;go_wp2_with (first|((with_reducible refine gate_callee (f:=182) rfl ?_);refine gL Tryz.func182 (some 7) #[.slice A0 l0.length c0,.string a1] ?_;(with_reducible refine (slices_Index_string.calls k _ _ l0 a1 t528 _ (sD HR0) HC0.out A3.out).mono ?_);rintro e w' ⟨rfl,⟨nd,rfl⟩⟩;refine ⟨_,rfl,?_⟩));go_ret;exact ⟨by first|rfl|(simp;done)|(simp [*];done),tR⟩
def parse_Kept.f (k:Nat) (a0:ByteArray):Option (Bool):=(slices_Contains_string.f k (([(⟨#[115,101,116]⟩:ByteArray),(⟨#[99,111,117,110,116]⟩:ByteArray),(⟨#[110,111,116,101]⟩:ByteArray),(⟨#[114,117,108,101]⟩:ByteArray),(⟨#[111,112]⟩:ByteArray),(⟨#[115,116,114,105,99,116]⟩:ByteArray),(⟨#[114,101,102]⟩:ByteArray),(⟨#[98,111,116,104]⟩:ByteArray),(⟨#[108,105,109,105,116]⟩:ByteArray),(⟨#[109,111,115,116]⟩:ByteArray),(⟨#[108,101,97,115,116]⟩:ByteArray),(⟨#[110,101,101,100,115]⟩:ByteArray),(⟨#[97,100,100]⟩:ByteArray),(⟨#[100,114,111,112]⟩:ByteArray),(⟨#[117,112]⟩:ByteArray),(⟨#[100,111,119,110]⟩:ByteArray),(⟨#[112,117,116]⟩:ByteArray)]:List ByteArray)) a0).bind fun t569=>(some t569)
theorem parse_Kept.calls (k:Nat) (a0:ByteArray) (r:Bool) (w:World) (h:parse_Kept.f k a0=some r) :
  Calls Tryz.prog 156 #[.string a0] w fun e w'=>e = .returned (.bool r)∧Below w.heap.size w w':=by
 have HB:=Sd.mk (Below.refl w.heap.size w);have H:=h;clear h;unfold parse_Kept.f at H;obtain ⟨y566,hy566⟩:∃ y_:List ByteArray,y_=(([(⟨#[115,101,116]⟩:ByteArray),(⟨#[99,111,117,110,116]⟩:ByteArray),(⟨#[110,111,116,101]⟩:ByteArray),(⟨#[114,117,108,101]⟩:ByteArray),(⟨#[111,112]⟩:ByteArray),(⟨#[115,116,114,105,99,116]⟩:ByteArray),(⟨#[114,101,102]⟩:ByteArray),(⟨#[98,111,116,104]⟩:ByteArray),(⟨#[108,105,109,105,116]⟩:ByteArray),(⟨#[109,111,115,116]⟩:ByteArray),(⟨#[108,101,97,115,116]⟩:ByteArray),(⟨#[110,101,101,100,115]⟩:ByteArray),(⟨#[97,100,100]⟩:ByteArray),(⟨#[100,114,111,112]⟩:ByteArray),(⟨#[117,112]⟩:ByteArray),(⟨#[100,111,119,110]⟩:ByteArray),(⟨#[112,117,116]⟩:ByteArray)]:List ByteArray)):=⟨_,rfl⟩;replace H:((slices_Contains_string.f k y566 a0).bind fun t569=>(some t569))=some r:=yR hy566 H;have Ny566:=Sd.mk hy566;clear hy566;obtain ⟨t569,A2,H⟩:=oB H;obtain rfl:=sI H;go_enter Tryz.func156,Tryz.ntmps156;go_wp2_with (first|((with_reducible refine gate_dst (N:=3) rfl ?_);refine Kd.R_lit Kd.string _ 9 ?hg (N:=3) ?hd (xs:=([(⟨#[115,101,116]⟩:ByteArray),(⟨#[99,111,117,110,116]⟩:ByteArray),(⟨#[110,111,116,101]⟩:ByteArray),(⟨#[114,117,108,101]⟩:ByteArray),(⟨#[111,112]⟩:ByteArray),(⟨#[115,116,114,105,99,116]⟩:ByteArray),(⟨#[114,101,102]⟩:ByteArray),(⟨#[98,111,116,104]⟩:ByteArray),(⟨#[108,105,109,105,116]⟩:ByteArray),(⟨#[109,111,115,116]⟩:ByteArray),(⟨#[108,101,97,115,116]⟩:ByteArray),(⟨#[110,101,101,100,115]⟩:ByteArray),(⟨#[97,100,100]⟩:ByteArray),(⟨#[100,114,111,112]⟩:ByteArray),(⟨#[117,112]⟩:ByteArray),(⟨#[100,111,119,110]⟩:ByteArray),(⟨#[112,117,116]⟩:ByteArray)]:List ByteArray)) (inner:=[.string (⟨#[115,101,116]⟩:ByteArray),.string (⟨#[99,111,117,110,116]⟩:ByteArray),.string (⟨#[110,111,116,101]⟩:ByteArray),.string (⟨#[114,117,108,101]⟩:ByteArray),.string (⟨#[111,112]⟩:ByteArray),.string (⟨#[115,116,114,105,99,116]⟩:ByteArray),.string (⟨#[114,101,102]⟩:ByteArray),.string (⟨#[98,111,116,104]⟩:ByteArray),.string (⟨#[108,105,109,105,116]⟩:ByteArray),.string (⟨#[109,111,115,116]⟩:ByteArray),.string (⟨#[108,101,97,115,116]⟩:ByteArray),.string (⟨#[110,101,101,100,115]⟩:ByteArray),.string (⟨#[97,100,100]⟩:ByteArray),.string (⟨#[100,114,111,112]⟩:ByteArray),.string (⟨#[117,112]⟩:ByteArray),.string (⟨#[100,111,119,110]⟩:ByteArray),.string (⟨#[112,117,116]⟩:ByteArray)]) (ok:=fun _=>True) (okp:=fun _=>True) ?hr ?hp (fun _ hk=>hk) trivial (Below.refl _ _) (Nat.le_refl _) (by simp) ?_;(case hd=>rfl);(case hg=>rfl);(case hr=>first|(go_simp;done)|(go_simp;rfl));(case hp=>exact (Reps.one (show Kd.M Kd.string _ _ _ (⟨#[115,101,116]⟩:ByteArray) [.string (⟨#[115,101,116]⟩:ByteArray)] from rfl) (Reps.one (show Kd.M Kd.string _ _ _ (⟨#[99,111,117,110,116]⟩:ByteArray) [.string (⟨#[99,111,117,110,116]⟩:ByteArray)] from rfl) (Reps.one (show Kd.M Kd.string _ _ _ (⟨#[110,111,116,101]⟩:ByteArray) [.string (⟨#[110,111,116,101]⟩:ByteArray)] from rfl) (Reps.one (show Kd.M Kd.string _ _ _ (⟨#[114,117,108,101]⟩:ByteArray) [.string (⟨#[114,117,108,101]⟩:ByteArray)] from rfl) (Reps.one (show Kd.M Kd.string _ _ _ (⟨#[111,112]⟩:ByteArray) [.string (⟨#[111,112]⟩:ByteArray)] from rfl) (Reps.one (show Kd.M Kd.string _ _ _ (⟨#[115,116,114,105,99,116]⟩:ByteArray) [.string (⟨#[115,116,114,105,99,116]⟩:ByteArray)] from rfl) (Reps.one (show Kd.M Kd.string _ _ _ (⟨#[114,101,102]⟩:ByteArray) [.string (⟨#[114,101,102]⟩:ByteArray)] from rfl) (Reps.one (show Kd.M Kd.string _ _ _ (⟨#[98,111,116,104]⟩:ByteArray) [.string (⟨#[98,111,116,104]⟩:ByteArray)] from rfl) (Reps.one (show Kd.M Kd.string _ _ _ (⟨#[108,105,109,105,116]⟩:ByteArray) [.string (⟨#[108,105,109,105,116]⟩:ByteArray)] from rfl) (Reps.one (show Kd.M Kd.string _ _ _ (⟨#[109,111,115,116]⟩:ByteArray) [.string (⟨#[109,111,115,116]⟩:ByteArray)] from rfl) (Reps.one (show Kd.M Kd.string _ _ _ (⟨#[108,101,97,115,116]⟩:ByteArray) [.string (⟨#[108,101,97,115,116]⟩:ByteArray)] from rfl) (Reps.one (show Kd.M Kd.string _ _ _ (⟨#[110,101,101,100,115]⟩:ByteArray) [.string (⟨#[110,101,101,100,115]⟩:ByteArray)] from rfl) (Reps.one (show Kd.M Kd.string _ _ _ (⟨#[97,100,100]⟩:ByteArray) [.string (⟨#[97,100,100]⟩:ByteArray)] from rfl) (Reps.one (show Kd.M Kd.string _ _ _ (⟨#[100,114,111,112]⟩:ByteArray) [.string (⟨#[100,114,111,112]⟩:ByteArray)] from rfl) (Reps.one (show Kd.M Kd.string _ _ _ (⟨#[117,112]⟩:ByteArray) [.string (⟨#[117,112]⟩:ByteArray)] from rfl) (Reps.one (show Kd.M Kd.string _ _ _ (⟨#[100,111,119,110]⟩:ByteArray) [.string (⟨#[100,111,119,110]⟩:ByteArray)] from rfl) (Reps.one (show Kd.M Kd.string _ _ _ (⟨#[112,117,116]⟩:ByteArray) [.string (⟨#[112,117,116]⟩:ByteArray)] from rfl) (Reps.none _ _)))))))))))))))))));intro v567 w3 ho4 hb hg_ hnew_;clear hg_ hnew_;(first|rw [← Ny566.out] at ho4|(simp only [Int.reduceToNat] at ho4;rw [← Ny566.out] at ho4));have HO568:=Sd.mk (Kd.R_lower ho4 (below_size uB));replace HB:=uH hb;clear hb ho4;obtain ⟨Ao5,co5,eo5⟩:=Kd.R_slice HO568.out;subst eo5)|((with_reducible refine gate_callee (f:=174) rfl ?_);refine gL Tryz.func174 (some 5) #[.slice Ao5 y566.length co5,.string a0] ?_;(with_reducible refine (slices_Contains_string.calls k _ _ y566 a0 t569 _ ?side1 ?side2 A2.out).mono ?_);(case side1=>exact sE (Kd.R_reads' HO568.out).2.2);(case side2=>exact (Kd.R_reads' HO568.out).2.1);rintro e w' ⟨rfl,⟨nd,rfl⟩⟩;refine ⟨_,rfl,?_⟩));go_ret;exact ⟨tW,uB⟩
def sorts_word.f (k:Nat) (a0:ByteArray):Option (Bool):=(lex_Word.f a0).bind fun t570=>(if t570=true then ((parse_Kept.f k a0).bind fun t571=>(some (!t571))) else (some false))
theorem sorts_word.calls (k:Nat) (a0:ByteArray) (r:Bool) (w:World) (h:sorts_word.f k a0=some r) :
  Calls Tryz.prog 128 #[.string a0] w fun e w'=>e = .returned (.bool r)∧Below w.heap.size w w':=by
 have HB:=Sd.mk (Below.refl w.heap.size w);have H:=h;clear h;unfold sorts_word.f at H;obtain ⟨t570,A2,H⟩:=oB H;by_cases c3:t570=true
 ·subst c3;replace H:=iT H;obtain ⟨t571,A4,H⟩:=oB H;obtain rfl:=sI H;go_enter Tryz.func128,Tryz.ntmps128;go_wp2_with (first|((with_reducible refine gate_callee (f:=155) rfl ?_);refine gL Tryz.func155 (some 4) #[.string a0] ?_;(with_reducible refine (lex_Word.calls a0 true _ A2.out).mono ?_);rintro e w5 ⟨rfl,hb⟩;refine ⟨_,rfl,?_⟩;replace HB:=uH hb;(try clear hb))|(go_at_call 156;(with_reducible refine (parse_Kept.calls k a0 t571 _ A4.out).mono ?_);rintro e w6 ⟨rfl,hb⟩;replace HB:=uH hb;(try clear hb)));go_ret;exact ⟨tW,uB⟩
 ·replace c3:=Bool.eq_false_iff.mpr c3;subst c3;replace H:=iF H;obtain rfl:=sI H;go_enter Tryz.func128,Tryz.ntmps128;go_wp2_with (first|((with_reducible refine gate_callee (f:=155) rfl ?_);refine gL Tryz.func155 (some 4) #[.string a0] ?_;(with_reducible refine (lex_Word.calls a0 false _ A2.out).mono ?_);rintro e w7 ⟨rfl,hb⟩;refine ⟨_,rfl,?_⟩;replace HB:=uH hb;(try clear hb)));go_ret;exact ⟨tW,uB⟩
end
theorem ba_toList_inj {a b:ByteArray} (h:a.toList=b.toList):a=b:=by
 (have h2:a.data.toList=b.data.toList:=by simpa [ByteArray.toList_eq] using h);cases a;cases b;simp only at h2;congr 1;exact Array.toList_inj.mp h2
theorem wrap_of {i:Int} (h1:0 ≤ i) (h2:i < 4611686018427387904):wrap64 i=i:=by
 unfold wrap64;omega
def hasB (l:List ByteArray) (a:ByteArray):Bool:=l.any (fun w=>decide (w=a))
theorem index_l0 (l:List ByteArray) (a:ByteArray) (hl:l.length < 4611686018427387904):∀ (m pos k:Nat),pos + m=l.length → m < k →
  ∃ r,slices_Index_string.l0 k l a (l.length:Int) (pos:Int)=some r∧decide (r ≥ 0)=hasB (l.drop pos) a
 | 0,pos,k,hp,hk=>by
  obtain ⟨k,rfl⟩:∃ k',k=k' + 1:=⟨k - 1,by omega⟩;refine ⟨-1,?_,?_⟩
  ·rw [slices_Index_string.l0,if_neg (by omega)]
  ·rw [List.drop_eq_nil_of_le (by omega)];rfl
 | m + 1,pos,k,hp,hk=>by
  obtain ⟨k,rfl⟩:∃ k',k=k' + 1:=⟨k - 1,by omega⟩;(have hlt:pos < l.length:=by omega);have hd:l.drop pos=l.getD pos ByteArray.empty :: l.drop (pos + 1):=by
   rw [← List.getElem_cons_drop (h:=hlt)];simp [List.getD,hlt]
  (have hrd:rdOf ByteArray.empty l (pos:Int)=l.getD pos ByteArray.empty:=by simp [rdOf]);rw [slices_Index_string.l0,if_pos (by omega),if_pos (by omega),if_pos (by omega),hrd,hd];by_cases he:a.toList=(l.getD pos ByteArray.empty).toList
  ·rw [if_pos he];have:=ba_toList_inj he;refine ⟨_,rfl,?_⟩;rw [← this];simp [hasB]
  ·rw [if_neg he];obtain ⟨r,h1,h2⟩:=index_l0 l a hl m (pos + 1) k (by omega) (by omega);refine ⟨r,?_,?_⟩
   ·rw [wrap_of (by omega) (by omega)];exact_mod_cast h1
   ·rw [h2];have:decide (l.getD pos ByteArray.empty=a)=false:=by
     rw [decide_eq_false_iff_not];intro h;exact he (by rw [h])
    show _=(decide (l.getD pos ByteArray.empty=a) || hasB (l.drop (pos + 1)) a);rw [this];rfl
def kwords:List ByteArray:=[(⟨#[115,101,116]⟩:ByteArray),(⟨#[99,111,117,110,116]⟩:ByteArray),(⟨#[110,111,116,101]⟩:ByteArray),(⟨#[114,117,108,101]⟩:ByteArray),(⟨#[111,112]⟩:ByteArray),(⟨#[115,116,114,105,99,116]⟩:ByteArray),(⟨#[114,101,102]⟩:ByteArray),(⟨#[98,111,116,104]⟩:ByteArray),(⟨#[108,105,109,105,116]⟩:ByteArray),(⟨#[109,111,115,116]⟩:ByteArray),(⟨#[108,101,97,115,116]⟩:ByteArray),(⟨#[110,101,101,100,115]⟩:ByteArray),(⟨#[97,100,100]⟩:ByteArray),(⟨#[100,114,111,112]⟩:ByteArray),(⟨#[117,112]⟩:ByteArray),(⟨#[100,111,119,110]⟩:ByteArray),(⟨#[112,117,116]⟩:ByteArray)]
def nmB (s:ByteArray):Bool:=wordB s && !hasB kwords s
theorem kept_f (s:ByteArray):parse_Kept.f 30 s=some (hasB kwords s):=by
 obtain ⟨r,h1,h2⟩:=index_l0 kwords s (by decide) 17 0 30 rfl (by decide);have e:slices_Index_string.f 30 kwords s=some r:=h1;unfold parse_Kept.f;show ((slices_Contains_string.f 30 kwords s).bind fun t=>some t)=_;unfold slices_Contains_string.f;rw [e];show some (decide (r ≥ 0))=_;rw [h2];rfl
theorem word_f (s:ByteArray):sorts_word.f 30 s=some (nmB s):=by
 unfold sorts_word.f nmB;rw [kept_f];show (if wordB s=true then _ else _)=_;cases wordB s <;> simp
theorem soword_call (s:ByteArray) (w:World):Calls Tryz.prog 128 #[.string s] w fun e w'=>e = .returned (.bool (nmB s))∧Below w.heap.size w w' :=
 sorts_word.calls 30 s (nmB s) w (word_f s)
def namedU:List ByteArray → List ByteArray → Bool
 | _,[]=>true
 | seen,s :: l=>nmB s && (!hasB seen s && namedU (s :: seen) l)
def namedOk (l:List ByteArray):Bool:=namedU [] l
theorem onList_str (l:List ByteArray) (a:ByteArray):onList (l.map (fun s=>Lit.string s.data.toList)) (.string a.data.toList)=hasB l a:=by
 induction l with
 | nil=>rfl
 | cons x r ih =>
  simp only [onList,List.map_cons,List.any_cons,hasB] at ih ⊢;rw [ih];congr 1;by_cases h:x=a
  ·subst h;simp [Lit.sameKey]
  ·(have:x.data.toList ≠ a.data.toList:=fun e=>h (by cases x;cases a;simp only at e;congr 1;exact Array.toList_inj.mp e));rw [Maps.sameKey_ne (by intro e;injection e with e;exact this e),decide_eq_false h]
theorem named_call (A0:Option Addr) (c0:Nat) (l0:List ByteArray) (w:World) (hr0:Kd.C Kd.string w A0 l0.length l0) (hc0:l0.length ≤ c0) (hn0:l0.length ≤ 4000000000) (hwf:∀ s ∈ l0,s.size ≤ maxLen) :
  Calls Tryz.prog 88 #[.slice A0 l0.length c0] w fun e w'=>e = .returned (.bool (namedOk l0))∧Below w.heap.size w w':=by
 have HR0:=Sd.mk hr0;have HWF:=Sd.mk hwf;clear hr0 hwf;have hmm:=@run_makeMap Tryz.prog;generalize hnl:l0.length=n at *;have HNL:=Sd.mk hnl;clear hnl;go_enter Tryz.func88,Tryz.ntmps88;go_wp2_with fail;go_loopw [9] (fun v9 wr=>∃ (pos:Nat) (seen:List ByteArray),v9 = .int .i64 pos∧pos ≤ n∧seen.length ≤ pos∧Sd (namedU seen (l0.drop pos)=namedOk l0)∧Sd (wr.marks Tryz.prog 9 4 w.heap.size (seen.map (fun s=>Lit.string s.data.toList)))∧Sd (Below w.heap.size w wr)) (fun v9 _=>((n:Int) - intV v9).toNat)
 case atStart=>exact ⟨0,[],rfl,Nat.zero_le _,Nat.le_refl _,⟨rfl⟩,⟨World.marks_made w _ _ _⟩,⟨below_alloc (Below.refl _ _) _⟩⟩
 case round =>
  obtain ⟨pos,seen,rfl,hpos,hsl,HE,HM,HBr⟩:=hrel;by_cases hlt:pos < n
  ·(have hlt':decide ((pos:Int) < (n:Int))=true:=by simp;omega);(have p:0 ≤ (pos:Int):=by omega);(have q:(pos:Int) < (n:Int):=by omega);(have hlt2:pos < l0.length:=by rw [HNL.out];exact hlt);have HDR:Sd (l0.drop pos=l0.getD pos ByteArray.empty :: l0.drop (pos + 1)):=⟨drop_getD l0 _ pos hlt2⟩;obtain ⟨ad,e0,hx0⟩:=Kd.at_string (Kd.C_below HR0.out HBr.out) (pos:Int) p q;cases e0;(have hrd:rdOf ByteArray.empty l0 (pos:Int)=l0.getD pos ByteArray.empty:=by simp [rdOf]);rw [hrd] at hx0;simp only [Int.toNat_natCast] at hx0;clear hrd;have HW2:Sd ((l0.getD pos ByteArray.empty).size ≤ maxLen):=⟨HWF.out _ (by
     have hm:=List.mem_of_mem_drop (i:=pos) (l:=l0) (a:=l0.getD pos ByteArray.empty) (by rw [HDR.out];exact List.mem_cons_self)
     exact hm)⟩
   generalize l0.getD pos ByteArray.empty=s at *;have HE1:Sd ((nmB s && (!hasB seen s && namedU (s :: seen) (l0.drop (pos + 1))))=namedOk l0):=⟨by rw [← HE.out,HDR.out];rfl⟩;go_wp2_with fail;refine (soword_call s _).mono ?_;rintro e w1 ⟨rfl,hb1⟩;have HM1:=Sd.mk (HM.out.below hb1);have HB1:=Sd.mk (below_step HBr.out hb1);clear hb1;cases hns:nmB s with
   | false =>
    have HE2:Sd (namedOk l0=false):=⟨by rw [← HE1.out,hns];rfl⟩;clear hns;go_wp2_with fail;go_ret;exact ⟨by rw [HE2.out];rfl,HB1.out⟩
   | true =>
    rw [hns] at HE1;clear hns;have hlk:=HM1.out.look (Maps.string_keyed Tryz.underlying9) Tryz.underlying165 Tryz.underlying4 (zero_bool _) (_root_.Go.WideMaps.keyOf_string_mk Tryz.underlying9 HW2.out);rw [onList_str] at hlk;cases hsc:hasB seen s with
    | true =>
     have HE3:Sd (namedOk l0=false):=⟨by rw [← HE1.out,hsc];rfl⟩;rw [hsc] at hlk;clear hsc;go_wp2_with fail;go_ret;exact ⟨by rw [HE3.out];rfl,HB1.out⟩
    | false =>
     have HE3:Sd (namedU (s :: seen) (l0.drop (pos + 1))=namedOk l0):=⟨by rw [← HE1.out,hsc];rfl⟩;rw [hsc] at hlk;clear hsc;(have hsm:(seen.map (fun s=>Lit.string s.data.toList)).length < maxLen:=by rw [List.length_map];unfold maxLen;omega);have HSM:=Sd.mk hsm;clear hsm;go_wp2_with (at_mapUpdate;refine wpList_mark _ rfl _ _ _ 165 rfl 9 4 (Maps.string_keyed Tryz.underlying9) Tryz.underlying165 Tryz.underlying4 w.heap.size (seen.map (fun s=>Lit.string s.data.toList)) rfl HM1.out HSM.out _ _ rfl rfl (_root_.Go.WideMaps.keyOf_string_mk Tryz.underlying9 HW2.out) ?_;intro w6 hm6 hg6;have HM6:=Sd.mk hm6;have HG6:=Sd.mk hg6;clear hm6 hg6);go_roundw
     case measure=>simp [intV];omega
     case rel=>exact ⟨pos + 1,s :: seen,by simp,by omega,by simp;omega,HE3,HM6,⟨HB1.out.grown HG6.out (below_size HB1.out) (by intro k hk;cases hk;exact Nat.le_refl _)⟩⟩
  ·(have hlt':decide ((pos:Int) < (n:Int))=false:=by simp;omega);(have hpn:pos=n:=by omega);have HE2:Sd (namedOk l0=true):=⟨by rw [← HE.out,List.drop_eq_nil_of_le (by rw [HNL.out];omega)];rfl⟩;go_wp2_with fail;go_ret;exact ⟨by rw [HE2.out];rfl,HBr.out⟩
theorem least_call (v0 v1 v2 v4:Value) (A3:Option Addr) (c3:Nat) (l3:List Cl) (w:World) (hr3:Kd.C k85 w A3 l3.length l3) (hc3:l3.length ≤ c3) (hn3:l3.length ≤ 4000000000) (hwf:∀ c ∈ l3,(Lit.int .i64 c.f2).wf=true) :
  Calls Tryz.prog 90 #[.agg #[v0,v1,v2,.slice A3 l3.length c3,v4]] w fun e w'=>e = .returned (.bool (leastOk l3))∧Below w.heap.size w w':=by
 have HR3:=Sd.mk hr3;have HWF:=Sd.mk hwf;clear hr3 hwf;have hmm:=@run_makeMap Tryz.prog;generalize hnl:l3.length=n at *;have HNL:=Sd.mk hnl;clear hnl;go_enter Tryz.func90,Tryz.ntmps90;go_upto_region 1 with (first|((with_reducible refine gate_dst (N:=1) rfl ?_);refine box_event ?hg (N:=1) ?hd (cs:=#[v0,v1,v2,.slice A3 n c3,v4]) (t:=26) ?hr ?_;(case hd=>rfl);(case hg=>rfl);(case hr=>first|(go_simp;done)|(go_simp;rfl));intro g hg w3 hbox hb;have HB:=Sd.mk hb;have BK:=Sd.mk hbox;have HG:=Sd.mk hg;clear hb hbox hg));have hm3:(w3.alloc (Obj.map #[] 0)).cell? ⟨g,3,none⟩=some (.slice A3 n c3):=(blk_cell (blk_alloc BK.out _) 3).trans rfl;go_wp2_with fail;go_loopw [10] (fun v10 wr=>∃ (pos:Nat) (seen:List Int),v10 = .int .i64 pos∧pos ≤ n∧seen.length ≤ pos∧Sd (leastU seen (l3.drop pos)=leastOk l3)∧Sd (wr.marks Tryz.prog 3 4 w3.heap.size (seen.map (Lit.int .i64)))∧Sd (Below w.heap.size w wr)) (fun v10 _=>((n:Int) - intV v10).toNat)
 case atStart=>exact ⟨0,[],rfl,Nat.zero_le _,Nat.le_refl _,⟨rfl⟩,⟨World.marks_made w3 _ _ _⟩,⟨below_alloc HB.out _⟩⟩
 case round =>
  obtain ⟨pos,seen,rfl,hpos,hsl,HE,HM,HBr⟩:=hrel;by_cases hlt:pos < n
  ·(have hlt':decide ((pos:Int) < (n:Int))=true:=by simp;omega);(have p:0 ≤ (pos:Int):=by omega);(have q:(pos:Int) < (n:Int):=by omega);obtain ⟨ad,e0,hx0,hx1,hx2,hx3,hx4⟩:=at_T85 (Kd.C_below HR3.out HBr.out) (pos:Int) p q;cases e0;simp only [Int.toNat_natCast] at hx0 hx1 hx2 hx3 hx4;generalize hx:rd_T85 l3 (pos:Int)=x at *;have HX:=Sd.mk hx;clear hx;go_upto_region 5 with (first|((with_reducible refine gate_dst (N:=5) rfl ?_);refine box_event ?hg (N:=5) ?hd (cs:=#[.int .i64 0,.bool false,.int .i64 0,.int .i64 0,.int .i64 0]) (t:=85) ?hr ?_;(case hd=>rfl);(case hg=>rfl);(case hr=>first|(go_simp;done)|(go_simp;rfl));intro g1 hg1 w4 hbox1 hb1;have hcz0:w4.cell? ⟨g1,0,none⟩=some (.int .i64 0):=(blk_cell hbox1 0).trans rfl;have hcz1:w4.cell? ⟨g1,1,none⟩=some (.bool false):=(blk_cell hbox1 1).trans rfl;have hcz2:w4.cell? ⟨g1,2,none⟩=some (.int .i64 0):=(blk_cell hbox1 2).trans rfl;have hcz3:w4.cell? ⟨g1,3,none⟩=some (.int .i64 0):=(blk_cell hbox1 3).trans rfl;have hcz4:w4.cell? ⟨g1,4,none⟩=some (.int .i64 0):=(blk_cell hbox1 4).trans rfl;have hfz0:=blk_frozen hbox1 0;have hfz1:=blk_frozen hbox1 1;have hfz2:=blk_frozen hbox1 2;have hfz3:=blk_frozen hbox1 3;have hfz4:=blk_frozen hbox1 4;have HB1:=Sd.mk hb1;have BK1:=Sd.mk hbox1;have HG1:=Sd.mk hg1;clear hb1 hbox1 hg1));(have hgm:w3.heap.size ≠ g1:=by rw [HG1.out];exact Nat.ne_of_lt HM.out.lt);(have hgw:w.heap.size ≤ g1:=by rw [HG1.out];exact below_size HBr.out);have HB5:=Sd.mk (below_set (j:=4) (v:=.int .i64 x.f4) (below_set (j:=3) (v:=.int .i64 x.f3) (below_set (j:=2) (v:=.int .i64 x.f2) (below_set (j:=1) (v:=.bool x.f1) (below_set (j:=0) (v:=.int .i64 x.f0) (below_step HBr.out HB1.out) hgw) hgw) hgw) hgw) hgw);have HM5:=Sd.mk (((((((HM.out.below HB1.out).setCell (a:=⟨g1,0,none⟩) hgm (.int .i64 x.f0)).setCell (a:=⟨g1,1,none⟩) hgm (.bool x.f1)).setCell (a:=⟨g1,2,none⟩) hgm (.int .i64 x.f2)).setCell (a:=⟨g1,3,none⟩) hgm (.int .i64 x.f3)).setCell (a:=⟨g1,4,none⟩) hgm (.int .i64 x.f4)));have hbk:(((((w4.setCell ⟨g1,0,none⟩ (.int .i64 x.f0)).setCell ⟨g1,1,none⟩ (.bool x.f1)).setCell ⟨g1,2,none⟩ (.int .i64 x.f2)).setCell ⟨g1,3,none⟩ (.int .i64 x.f3)).setCell ⟨g1,4,none⟩ (.int .i64 x.f4)).heap[g1]? = some (.cells #[.int .i64 x.f0,.bool x.f1,.int .i64 x.f2,.int .i64 x.f3,.int .i64 x.f4] 85 (0,0)):=by
    refine blk_put (cs:=#[.int .i64 x.f0,.bool x.f1,.int .i64 x.f2,.int .i64 x.f3,.int .i64 0]) ?_ 4 _ rfl;refine blk_put (cs:=#[.int .i64 x.f0,.bool x.f1,.int .i64 x.f2,.int .i64 0,.int .i64 0]) ?_ 3 _ rfl;refine blk_put (cs:=#[.int .i64 x.f0,.bool x.f1,.int .i64 0,.int .i64 0,.int .i64 0]) ?_ 2 _ rfl;refine blk_put (cs:=#[.int .i64 x.f0,.bool false,.int .i64 0,.int .i64 0,.int .i64 0]) ?_ 1 _ rfl;exact blk_put BK1.out 0 _ rfl
   have HK5:=Sd.mk hbk;clear hbk;generalize (((((w4.setCell ⟨g1,0,none⟩ (.int .i64 x.f0)).setCell ⟨g1,1,none⟩ (.bool x.f1)).setCell ⟨g1,2,none⟩ (.int .i64 x.f2)).setCell ⟨g1,3,none⟩ (.int .i64 x.f3)).setCell ⟨g1,4,none⟩ (.int .i64 x.f4))=w5 at *;have hc0:w5.cell? ⟨g1,0,none⟩=some (.int .i64 x.f0):=(blk_cell HK5.out 0).trans rfl;have hc2:w5.cell? ⟨g1,2,none⟩=some (.int .i64 x.f2):=(blk_cell HK5.out 2).trans rfl;have HDR:Sd (l3.drop pos=x :: l3.drop (pos + 1)):=⟨by
    rw [drop_getD l3 z85 pos (by rw [HNL.out];exact hlt),← HX.out];rfl⟩
   clear hcz0 hcz1 hcz2 hcz3 hcz4 hfz0 hfz1 hfz2 hfz3 hfz4 hx0 hx1 hx2 hx3 hx4;by_cases h8:x.f0=8
   ·have HF:=Sd.mk h8;(have b8:(x.f0 != 8)=false:=by simp [h8]);clear h8;have HE2:Sd ((if seen.contains x.f2 then false else leastU (x.f2 :: seen) (l3.drop (pos + 1)))=leastOk l3):=⟨by rw [← HE.out,HDR.out,leastU,if_pos HF.out]⟩;have HW2:Sd ((Lit.int .i64 x.f2).wf=true):=⟨HWF.out x (by
     have hm:=List.mem_of_mem_drop (i:=pos) (l:=l3) (a:=x) (by rw [HDR.out];exact List.mem_cons_self)
     exact hm)⟩
    go_upto_if 20 with (at_lookup;refine wpList_lookup_marks _ rfl _ _ 167 rfl 3 4 (Maps.int_keyed Tryz.underlying3) Tryz.underlying167 Tryz.underlying4 (zero_bool _) w3.heap.size (seen.map (Lit.int .i64)) rfl HM5.out _ _ rfl (Maps.keyOf_int_mk Tryz.underlying3 HW2.out) ?_);rw [onList_int];cases hsc:seen.contains x.f2 with
    | true =>
     have HE3:Sd (leastOk l3=false):=⟨by rw [← HE2.out,hsc];rfl⟩;clear hsc;go_wp2_with fail;go_ret;exact ⟨by rw [HE3.out];rfl,HB5.out⟩
    | false =>
     have HE3:Sd (leastU (x.f2 :: seen) (l3.drop (pos + 1))=leastOk l3):=⟨by rw [← HE2.out,hsc];rfl⟩;clear hsc;(have hsm:(seen.map (Lit.int .i64)).length < maxLen:=by rw [List.length_map];unfold maxLen;omega);have HSM:=Sd.mk hsm;clear hsm;go_wp2_with (at_mapUpdate;refine wpList_mark _ rfl _ _ _ 167 rfl 3 4 (Maps.int_keyed Tryz.underlying3) Tryz.underlying167 Tryz.underlying4 w3.heap.size (seen.map (Lit.int .i64)) rfl HM5.out HSM.out _ _ rfl rfl (Maps.keyOf_int_mk Tryz.underlying3 HW2.out) ?_;intro w6 hm6 hg6;have HM6:=Sd.mk hm6;have HG6:=Sd.mk hg6;clear hm6 hg6);go_roundw
     case measure=>simp [intV];omega
     case rel=>exact ⟨pos + 1,x.f2 :: seen,by simp,by omega,by simp;omega,HE3,HM6,⟨HB5.out.grown HG6.out (below_size HB5.out) (by intro k hk;cases hk;exact below_size HB.out)⟩⟩
   ·(have b8:(x.f0 != 8)=true:=by simp [h8]);have HE2:Sd (leastU seen (l3.drop (pos + 1))=leastOk l3):=⟨by rw [← HE.out,HDR.out,leastU,if_neg h8]⟩;clear h8;go_wp2_with fail;go_roundw
    case measure=>simp [intV];omega
    case rel=>exact ⟨pos + 1,seen,by simp,by omega,by omega,HE2,HM5,HB5⟩
  ·(have hlt':decide ((pos:Int) < (n:Int))=false:=by simp;omega);(have hpn:pos=n:=by omega);have HE2:Sd (leastOk l3=true):=⟨by rw [← HE.out,List.drop_eq_nil_of_le (by rw [HNL.out];omega)];rfl⟩;go_wp2_with fail;go_ret;exact ⟨by rw [HE2.out];rfl,HBr.out⟩
section
attribute [local go_sem] max2_int min2_int max_two min_two max_three min_three max_four min_four
def sorts_within.f (a0:Int) (a1:Int) (a2:Int):Option (Bool):=if a0 ≥ a1 then (some (decide (a0 ≤ a2))) else (some false)
theorem sorts_within.calls (a0:Int) (a1:Int) (a2:Int) (r:Bool) (w:World) (h:sorts_within.f a0 a1 a2=some r) :
  Calls Tryz.prog 132 #[.int .i64 a0,.int .i64 a1,.int .i64 a2] w fun e w'=>e = .returned (.bool r)∧Drawn0 w w':=by
 have H:=h;clear h;unfold sorts_within.f at H;replace H:=iD H;rcases H with ⟨c4,c4b0,H⟩ | ⟨c4,c4b0,H⟩
 ·clear c4;obtain rfl:=sI H;go_enter Tryz.func132,Tryz.ntmps132;go_wp2;go_ret;exact ⟨by first|rfl|(simp;done)|(simp [*];done),tR⟩
 ·clear c4;obtain rfl:=sI H;go_enter Tryz.func132,Tryz.ntmps132;go_wp2;go_ret;exact ⟨by first|rfl|(simp;done)|(simp [*];done),tR⟩
mutual
def sorts_doing.j0:Nat → Int → Bool → List ByteArray → List ByteArray → List ByteArray → List (S85) → List (S89) → Int → Int → Int → Option (Bool)
 | 0,_,_,_,_,_,_,_,_,_,_=>none
 | k + 1,x6,x7,Xaa,Xab,Xac,Xad,Xae,Xaf,Xag,Xah=>if x7=true then ((sorts_within.f Xag 0 (wrap64 ((Xaa.length:Int) - 1))).bind fun t574=>(if t574=true then (some (Xah == 0)) else (some false))) else (if x6=3 then (sorts_doing.j1 k x6 (x6 == 3) Xaa Xab Xac Xad Xae Xaf Xag Xah) else (sorts_doing.j1 k x6 (x6 == 4) Xaa Xab Xac Xad Xae Xaf Xag Xah))
def sorts_doing.j1:Nat → Int → Bool → List ByteArray → List ByteArray → List ByteArray → List (S85) → List (S89) → Int → Int → Int → Option (Bool)
 | 0,_,_,_,_,_,_,_,_,_,_=>none
 | k + 1,x6,x22,Xaa,Xab,Xac,Xad,Xae,Xaf,Xag,Xah=>if x22=true then ((sorts_within.f Xag 0 (wrap64 ((Xab.length:Int) - 1))).bind fun t575=>(if t575=true then ((sorts_within.f Xah 1 1000).bind fun t576=>(some t576)) else (some false))) else (if x6=6 then ((sorts_within.f Xag 0 (wrap64 ((Xac.length:Int) - 1))).bind fun t577=>(if t577=true then (some (Xah == 0)) else (some false))) else (some false))
end
def sorts_doing.f (k:Nat) (l00:List ByteArray) (l01:List ByteArray) (l02:List ByteArray) (l03:List (S85)) (l04:List (S89)) (a1_0:Int) (a1_1:Int) (a1_2:Int):Option (Bool):=if a1_0=1 then (sorts_doing.j0 k a1_0 (a1_0 == 1) l00 l01 l02 l03 l04 a1_0 a1_1 a1_2) else (sorts_doing.j0 k a1_0 (a1_0 == 2) l00 l01 l02 l03 l04 a1_0 a1_1 a1_2)
theorem sorts_doing.calls (k:Nat) (A0_0:Option Addr) (c0_0:Nat) (l00:List ByteArray) (A0_1:Option Addr) (c0_1:Nat) (l01:List ByteArray) (A0_2:Option Addr) (c0_2:Nat) (l02:List ByteArray) (A0_3:Option Addr) (c0_3:Nat) (l03:List (S85)) (A0_4:Option Addr) (c0_4:Nat) (l04:List (S89)) (a1_0:Int) (a1_1:Int) (a1_2:Int) (r:Bool) (w:World) (hr00:Kd.C Kd.string w A0_0 l00.length l00) (hc00:l00.length ≤ c0_0) (hr01:Kd.C Kd.string w A0_1 l01.length l01) (hc01:l01.length ≤ c0_1) (hr02:Kd.C Kd.string w A0_2 l02.length l02) (hc02:l02.length ≤ c0_2) (hr03:Kd.C k85 w A0_3 l03.length l03) (hc03:l03.length ≤ c0_3) (hr04:Kd.C k89 w A0_4 l04.length l04) (hc04:l04.length ≤ c0_4) (h:sorts_doing.f k l00 l01 l02 l03 l04 a1_0 a1_1 a1_2=some r) :
  Calls Tryz.prog 134 #[.agg #[.slice A0_0 l00.length c0_0,.slice A0_1 l01.length c0_1,.slice A0_2 l02.length c0_2,.slice A0_3 l03.length c0_3,.slice A0_4 l04.length c0_4],.agg #[.int .i64 a1_0,.int .i64 a1_1,.int .i64 a1_2]] w fun e w'=>e = .returned (.bool r)∧Below w.heap.size w w':=by
 have hu26:=Tryz.underlying26;have hu94:=Tryz.underlying94;have HR00:=Sd.mk hr00;have J00:=Sd.mk hc00;clear hr00 hc00;have HR01:=Sd.mk hr01;have J01:=Sd.mk hc01;clear hr01 hc01;have HR02:=Sd.mk hr02;have J02:=Sd.mk hc02;clear hr02 hc02;have HR03:=Sd.mk hr03;have J03:=Sd.mk hc03;clear hr03 hc03;have HR04:=Sd.mk hr04;have J04:=Sd.mk hc04;clear hr04 hc04;have HB:=Sd.mk (Below.refl w.heap.size w);have H:=h;clear h;unfold sorts_doing.f at H;have HC3:=Sd.mk H;clear H;go_enter Tryz.func134,Tryz.ntmps134;go_upto_if 7 with (first|((with_reducible refine gate_dst (N:=2) rfl ?_);refine uY 2 (cs:=#[.slice A0_0 l00.length c0_0,.slice A0_1 l01.length c0_1,.slice A0_2 l02.length c0_2,.slice A0_3 l03.length c0_3,.slice A0_4 l04.length c0_4]) (t:=26) fun gb572 hg w4 BK572 hb GE572 HB=>?_;clear hb hg)|((with_reducible refine gate_dst (N:=3) rfl ?_);refine uY 3 (cs:=#[.int .i64 a1_0,.int .i64 a1_1,.int .i64 a1_2]) (t:=94) fun gb573 hg w5 BK573 hb GE573 HB=>?_;have NB572_573:=uN hg BK572;have NB573_572:=uM NB572_573;replace BK572:=uK BK572 hb;clear hb hg;have M6:=nP NB573_572;have Z7:=bd3 BK573));(try simp only [Act.put,q1_,q2_,q3_]);go_cut [7] (fun v7 wc=>∃ (kq:Nat) (x7_2:Bool),v7 = .bool x7_2∧Sd (sorts_doing.j0 kq a1_0 x7_2 l00 l01 l02 l03 l04 a1_0 a1_1 a1_2=some r)∧Sd (kq ≤ k)∧Sd (wc.heap[gb572]? = some (.cells #[(.slice A0_0 l00.length c0_0),(.slice A0_1 l01.length c0_1),(.slice A0_2 l02.length c0_2),(.slice A0_3 l03.length c0_3),(.slice A0_4 l04.length c0_4)] 26 (0,0)))∧Sd (wc.heap[gb573]? = some (.cells #[.int .i64 a1_0,.int .i64 a1_1,.int .i64 a1_2] 94 (0,0)))∧Sd (Below w.heap.size w wc))
 case first =>
  have H:=HC3.out;clear HC3;replace H:=iE H;rcases H with ⟨c8,c8b0,c8b1,H⟩ | ⟨c8,c8b0,c8b1,H⟩
  ·clear c8;(first|rw [c8b0]|(simp only [i64_w,i32_w];rw [c8b0])|rw [c8b1]|skip);have H':=Sd.mk H;clear H;go_wp2;go_meet
   case rel=>exact ⟨_,((a1_0 == 1)),tSS,H',⟨tO⟩,kA BK572,kA BK573,uA⟩
  ·(first|rw [c8b0]|(simp only [i64_w,i32_w];rw [c8b0])|rw [c8b1]|skip);have H':=Sd.mk H;clear H;go_wp2;go_meet
   case rel=>exact ⟨_,((a1_0 == 2)),tSS,H',⟨tO⟩,kA BK572,kA BK573,uA⟩
 case rest =>
  clear HC3;(try clear Z7);obtain ⟨kq,x7_2,rfl,HA,HJ2,BK572,BK573,HB⟩:=hcut;cases kq with
  | zero=>exact absurd HA.out (by simp [sorts_doing.j0])
  | succ kj2 =>
   have H:=HA.out;clear HA;simp only [sorts_doing.j0] at H;by_cases c9:x7_2=true
   ·subst c9;replace H:=iT H;obtain ⟨t574,A10,H⟩:=oB H;by_cases c11:t574=true
    ·subst c11;replace H:=iT H;obtain rfl:=sI H;have M12:=nP NB573_572;have Z13:=bd3 BK573;have Z14:=bd5 BK572;go_wp2_with (first|((with_reducible refine gate_callee (f:=132) rfl ?_);refine gL Tryz.func132 (some 16) #[.int .i64 a1_1,.int .i64 0,.int .i64 (wrap64 ((l00.length:Int) - 1))] ?_;(with_reducible refine (sorts_within.calls a1_1 0 (wrap64 ((l00.length:Int) - 1)) true _ A10.out).mono ?_);rintro e w' ⟨rfl,⟨nd,rfl⟩⟩;refine ⟨_,rfl,?_⟩));go_ret;exact ⟨tW,uB⟩
    ·replace c11:=Bool.eq_false_iff.mpr c11;subst c11;replace H:=iF H;obtain rfl:=sI H;have M15:=nP NB573_572;have Z16:=bd3 BK573;have Z17:=bd5 BK572;go_wp2_with (first|((with_reducible refine gate_callee (f:=132) rfl ?_);refine gL Tryz.func132 (some 16) #[.int .i64 a1_1,.int .i64 0,.int .i64 (wrap64 ((l00.length:Int) - 1))] ?_;(with_reducible refine (sorts_within.calls a1_1 0 (wrap64 ((l00.length:Int) - 1)) false _ A10.out).mono ?_);rintro e w' ⟨rfl,⟨nd,rfl⟩⟩;refine ⟨_,rfl,?_⟩));go_ret;exact ⟨tW,uB⟩
   ·replace c9:=Bool.eq_false_iff.mpr c9;subst c9;replace H:=iF H;have HC18:=Sd.mk H;clear H;go_upto_if 22 with (fail);go_cut [22] (fun v22 wc=>∃ (kq:Nat) (x22_17:Bool),v22 = .bool x22_17∧Sd (sorts_doing.j1 kq a1_0 x22_17 l00 l01 l02 l03 l04 a1_0 a1_1 a1_2=some r)∧Sd (kq ≤ kj2)∧Sd (wc.heap[gb572]? = some (.cells #[(.slice A0_0 l00.length c0_0),(.slice A0_1 l01.length c0_1),(.slice A0_2 l02.length c0_2),(.slice A0_3 l03.length c0_3),(.slice A0_4 l04.length c0_4)] 26 (0,0)))∧Sd (wc.heap[gb573]? = some (.cells #[.int .i64 a1_0,.int .i64 a1_1,.int .i64 a1_2] 94 (0,0)))∧Sd (Below w.heap.size w wc))
    case first =>
     have H:=HC18.out;clear HC18;replace H:=iE H;rcases H with ⟨c19,c19b0,c19b1,H⟩ | ⟨c19,c19b0,c19b1,H⟩
     ·clear c19;(first|rw [c19b0]|(simp only [i64_w,i32_w];rw [c19b0])|rw [c19b1]|skip);have H':=Sd.mk H;clear H;go_wp2;go_meet
      case rel=>exact ⟨_,((a1_0 == 3)),tSS,H',⟨by have:=HJ2.out;first|omega|exact Nat.le_refl _⟩,kA BK572,kA BK573,uA⟩
     ·(first|rw [c19b0]|(simp only [i64_w,i32_w];rw [c19b0])|rw [c19b1]|skip);have H':=Sd.mk H;clear H;go_wp2;go_meet
      case rel=>exact ⟨_,((a1_0 == 4)),tSS,H',⟨by have:=HJ2.out;first|omega|exact Nat.le_refl _⟩,kA BK572,kA BK573,uA⟩
    case rest =>
     clear HC18;(try clear c9);obtain ⟨kq,x22_17,rfl,HA,HJ17,BK572,BK573,HB⟩:=hcut;cases kq with
     | zero=>exact absurd HA.out (by simp [sorts_doing.j1])
     | succ kj17 =>
      have H:=HA.out;clear HA;simp only [sorts_doing.j1] at H;by_cases c20:x22_17=true
      ·subst c20;replace H:=iT H;obtain ⟨t575,A21,H⟩:=oB H;by_cases c22:t575=true
       ·subst c22;replace H:=iT H;obtain ⟨t576,A23,H⟩:=oB H;obtain rfl:=sI H;have M24:=nP NB573_572;have Z25:=bd3 BK573;have Z26:=bd5 BK572;go_wp2_with (first|((with_reducible refine gate_callee (f:=132) rfl ?_);refine gL Tryz.func132 (some 31) #[.int .i64 a1_1,.int .i64 0,.int .i64 (wrap64 ((l01.length:Int) - 1))] ?_;(with_reducible refine (sorts_within.calls a1_1 0 (wrap64 ((l01.length:Int) - 1)) true _ A21.out).mono ?_);rintro e w' ⟨rfl,⟨nd,rfl⟩⟩;refine ⟨_,rfl,?_⟩)|(go_at_call 132;(with_reducible refine (sorts_within.calls a1_2 1 1000 t576 _ A23.out).mono ?_);rintro e w' ⟨rfl,⟨nd,rfl⟩⟩));go_ret;exact ⟨tW,uB⟩
       ·replace c22:=Bool.eq_false_iff.mpr c22;subst c22;replace H:=iF H;obtain rfl:=sI H;have M27:=nP NB573_572;have Z28:=bd3 BK573;have Z29:=bd5 BK572;go_wp2_with (first|((with_reducible refine gate_callee (f:=132) rfl ?_);refine gL Tryz.func132 (some 31) #[.int .i64 a1_1,.int .i64 0,.int .i64 (wrap64 ((l01.length:Int) - 1))] ?_;(with_reducible refine (sorts_within.calls a1_1 0 (wrap64 ((l01.length:Int) - 1)) false _ A21.out).mono ?_);rintro e w' ⟨rfl,⟨nd,rfl⟩⟩;refine ⟨_,rfl,?_⟩));go_ret;exact ⟨tW,uB⟩
      ·replace c20:=Bool.eq_false_iff.mpr c20;subst c20;replace H:=iF H;replace H:=iE H;rcases H with ⟨c30,c30b0,c30b1,H⟩ | ⟨c30,c30b0,c30b1,H⟩
       ·clear c30;obtain ⟨t577,A31,H⟩:=oB H;by_cases c32:t577=true
        ·subst c32;replace H:=iT H;obtain rfl:=sI H;have M33:=nP NB573_572;have Z34:=bd3 BK573;have Z35:=bd5 BK572;go_wp2_with (first|((with_reducible refine gate_callee (f:=132) rfl ?_);refine gL Tryz.func132 (some 45) #[.int .i64 a1_1,.int .i64 0,.int .i64 (wrap64 ((l02.length:Int) - 1))] ?_;(with_reducible refine (sorts_within.calls a1_1 0 (wrap64 ((l02.length:Int) - 1)) true _ A31.out).mono ?_);rintro e w' ⟨rfl,⟨nd,rfl⟩⟩;refine ⟨_,rfl,?_⟩));go_ret;exact ⟨tW,uB⟩
        ·replace c32:=Bool.eq_false_iff.mpr c32;subst c32;replace H:=iF H;obtain rfl:=sI H;have M36:=nP NB573_572;have Z37:=bd3 BK573;have Z38:=bd5 BK572;go_wp2_with (first|((with_reducible refine gate_callee (f:=132) rfl ?_);refine gL Tryz.func132 (some 45) #[.int .i64 a1_1,.int .i64 0,.int .i64 (wrap64 ((l02.length:Int) - 1))] ?_;(with_reducible refine (sorts_within.calls a1_1 0 (wrap64 ((l02.length:Int) - 1)) false _ A31.out).mono ?_);rintro e w' ⟨rfl,⟨nd,rfl⟩⟩;refine ⟨_,rfl,?_⟩));go_ret;exact ⟨tW,uB⟩
       ·obtain rfl:=sI H;go_wp2;go_ret;exact ⟨tW,uB⟩
def sorts_to.j0:Nat → Int → Bool → Int → Int → Int → Option (Int × Int)
 | 0,_,_,_,_,_=>none
 | k + 1,x4,x5,Xai,Xaj,Xak=>if x5=true then (some (0,Xaj)) else (if x4=3 then (some (1,Xaj)) else (if x4=4 then (some (1,Xaj)) else (some (2,Xaj))))
def sorts_to.f (k:Nat) (a0_0:Int) (a0_1:Int) (a0_2:Int):Option (Int × Int):=if a0_0=1 then (sorts_to.j0 k a0_0 (a0_0 == 1) a0_0 a0_1 a0_2) else (sorts_to.j0 k a0_0 (a0_0 == 2) a0_0 a0_1 a0_2)
theorem sorts_to.calls (k:Nat) (a0_0:Int) (a0_1:Int) (a0_2:Int) (r1:Int) (r2:Int) (w:World) (h:sorts_to.f k a0_0 a0_1 a0_2=some (r1,r2)) :
  Calls Tryz.prog 135 #[.agg #[.int .i64 a0_0,.int .i64 a0_1,.int .i64 a0_2]] w fun e w'=>e = .returned (.agg #[.int .i64 r1,.int .i64 r2])∧Below w.heap.size w w':=by
 have hu94:=Tryz.underlying94;have hu174:=Tryz.underlying174;have HB:=Sd.mk (Below.refl w.heap.size w);have H:=h;clear h;unfold sorts_to.f at H;have HC2:=Sd.mk H;clear H;go_enter Tryz.func135,Tryz.ntmps135;go_upto_if 5 with (first|((with_reducible refine gate_dst (N:=1) rfl ?_);refine uY 1 (cs:=#[.int .i64 a0_0,.int .i64 a0_1,.int .i64 a0_2]) (t:=94) fun gb578 hg w3 BK578 hb GE578 HB=>?_;clear hb hg)|((with_reducible refine gate_dst (N:=2) rfl ?_);refine uY 2 (cs:=#[.int .i64 0,.int .i64 0]) (t:=174) fun gb579 hg w4 BK579 hb GE579 HB=>?_;have NB578_579:=uN hg BK578;have NB579_578:=uM NB578_579;replace BK578:=uK BK578 hb;clear hb hg;have M5:=nP NB578_579;have Z6:=bd3 BK578));(try simp only [Act.put,q1_,q2_,q3_]);go_cut [5] (fun v5 wc=>∃ (kq:Nat) (x5_1:Bool),v5 = .bool x5_1∧Sd (sorts_to.j0 kq a0_0 x5_1 a0_0 a0_1 a0_2=some (r1,r2))∧Sd (kq ≤ k)∧Sd (wc.heap[gb578]? = some (.cells #[.int .i64 a0_0,.int .i64 a0_1,.int .i64 a0_2] 94 (0,0)))∧Sd (wc.heap[gb579]? = some (.cells #[.int .i64 0,.int .i64 0] 174 (0,0)))∧Sd (Below w.heap.size w wc))
 case first =>
  have H:=HC2.out;clear HC2;replace H:=iE H;rcases H with ⟨c7,c7b0,c7b1,H⟩ | ⟨c7,c7b0,c7b1,H⟩
  ·clear c7;(first|rw [c7b0]|(simp only [i64_w,i32_w];rw [c7b0])|rw [c7b1]|skip);have H':=Sd.mk H;clear H;go_wp2;go_meet
   case rel=>exact ⟨_,((a0_0 == 1)),tSS,H',⟨tO⟩,kA BK578,kA BK579,uA⟩
  ·(first|rw [c7b0]|(simp only [i64_w,i32_w];rw [c7b0])|rw [c7b1]|skip);have H':=Sd.mk H;clear H;go_wp2;go_meet
   case rel=>exact ⟨_,((a0_0 == 2)),tSS,H',⟨tO⟩,kA BK578,kA BK579,uA⟩
 case rest =>
  clear HC2;(try clear Z6);obtain ⟨kq,x5_1,rfl,HA,HJ1,BK578,BK579,HB⟩:=hcut;cases kq with
  | zero=>exact absurd HA.out (by simp [sorts_to.j0])
  | succ kj1 =>
   have H:=HA.out;clear HA;simp only [sorts_to.j0] at H;by_cases c8:x5_1=true
   ·subst c8;replace H:=iT H;simp only [Option.some.injEq,Prod.mk.injEq] at H;obtain ⟨rfl,rfl⟩:=H;have M9:=nP NB578_579;have Z10:=bd3 BK578;have Z11:=bd2 BK579;go_wp2;refine bodyPost_ret (results_cell_row rfl _ _ gb579 174 #[.int .i64 0,.int .i64 a0_1] (0,0) _ rfl (kG (bQ2 BK579)) Tryz.underlying174 rfl (by kernel_rfl)) rfl ?_;exact ⟨tW,uB⟩
   ·replace c8:=Bool.eq_false_iff.mpr c8;subst c8;replace H:=iF H;replace H:=iE H;rcases H with ⟨c12,c12b0,c12b1,H⟩ | ⟨c12,c12b0,c12b1,H⟩
    ·clear c12;simp only [Option.some.injEq,Prod.mk.injEq] at H;obtain ⟨rfl,rfl⟩:=H;have M13:=nP NB578_579;have Z14:=bd3 BK578;have Z15:=bd2 BK579;go_wp2;refine bodyPost_ret (results_cell_row rfl _ _ gb579 174 #[.int .i64 1,.int .i64 a0_1] (0,0) _ rfl (kG (bQ2 BK579)) Tryz.underlying174 rfl (by kernel_rfl)) rfl ?_;exact ⟨tW,uB⟩
    ·by_cases c16:a0_0=4
     ·rw [if_pos c16] at H;obtain ⟨c16b0,c16b1⟩:=bT c16;clear c16;simp only [Option.some.injEq,Prod.mk.injEq] at H;obtain ⟨rfl,rfl⟩:=H;have M17:=nP NB578_579;have Z18:=bd3 BK578;have Z19:=bd2 BK579;go_wp2;refine bodyPost_ret (results_cell_row rfl _ _ gb579 174 #[.int .i64 1,.int .i64 a0_1] (0,0) _ rfl (kG (bQ2 BK579)) Tryz.underlying174 rfl (by kernel_rfl)) rfl ?_;exact ⟨tW,uB⟩
     ·rw [if_neg c16] at H;obtain ⟨c16b0,c16b1⟩:=bN c16;simp only [Option.some.injEq,Prod.mk.injEq] at H;obtain ⟨rfl,rfl⟩:=H;have M20:=nP NB578_579;have Z21:=bd3 BK578;have Z22:=bd2 BK579;go_wp2;refine bodyPost_ret (results_cell_row rfl _ _ gb579 174 #[.int .i64 2,.int .i64 a0_1] (0,0) _ rfl (kG (bQ2 BK579)) Tryz.underlying174 rfl (by kernel_rfl)) rfl ?_;exact ⟨tW,uB⟩
end
def thV (p:Int × Int):Value:=.agg #[.int .i64 p.1,.int .i64 p.2]
def thL (p:Int × Int):Lit:=.string (keyBytes [.int .i64 p.1,.int .i64 p.2])
theorem th_wide:(match Tryz.prog.underlying 174 with|some (.array _ _)|some (.struct _)=>true|_=>false)=true:=by rw [Tryz.underlying174]
theorem th_row:(174:TypeId) < Tryz.prog.types.size:=of_decide_eq_true (by kernel_rfl)
theorem th_laid:laidOutB Tryz.prog=true:=by kernel_rfl
theorem th_kt:Tryz.prog.keyTypeAt 2 174=true:=by kernel_rfl
theorem th_law:Maps.Keyed Tryz.prog 174:=Maps.Keyed.of_law (deep_law_laid th_laid (m:=2) (by omega) th_row th_kt th_wide)
theorem th_key (p:Int × Int) (h1:(Lit.int .i64 p.1).wf=true) (h2:(Lit.int .i64 p.2).wf=true):keyOf Tryz.prog 174 (thV p)=some (thL p):=by
 unfold keyOf;rw [Tryz.underlying174];(have hk:Tryz.prog.keyType 174=true:=by kernel_rfl);(have hf:(thV p).formed Tryz.prog 174=true:=by simp [thV,Value.formed,Tryz.underlying174,show Tryz.prog.cellsOf 174=2 by kernel_rfl]);simp only [hk,hf,Bool.and_self,if_true];obtain ⟨m,hm⟩:∃ m,Tryz.prog.types.size=m + 1:=⟨_,(Nat.succ_pred_eq_of_pos (Nat.lt_of_le_of_lt (Nat.zero_le _) th_row)).symm⟩;rw [hm];(have hc:Tryz.prog.cellsOf 174=2:=by kernel_rfl);(have hc3:Tryz.prog.cellsOf 3=1:=by kernel_rfl);have e1:∀ a:Int,(Lit.int .i64 a).wf=true → Tryz.prog.keyLits (m + 1) 3 [.int .i64 a]=some [.int .i64 a]:=fun a ha=>by
  simp [Program.keyLits,Tryz.underlying3,ha]
 have e2:Tryz.prog.keyLits (m + 1 + 1) 174 [.int .i64 p.1,.int .i64 p.2]=some [.int .i64 p.1,.int .i64 p.2]:=by
  simp [Program.keyLits,Tryz.underlying174,Tryz.underlying3,hc,hc3,h1,h2]
 show Option.map _ (Tryz.prog.keyLits (m + 1 + 1) 174 [.int .i64 p.1,.int .i64 p.2])=_;rw [e2];rfl
theorem onList_th (l:List (Int × Int)) (a:Int × Int) (hl:∀ p ∈ l,(Lit.int .i64 p.1).wf=true∧(Lit.int .i64 p.2).wf=true) (ha:(Lit.int .i64 a.1).wf=true∧(Lit.int .i64 a.2).wf=true) :
  onList (l.map thL) (thL a)=l.contains a:=by
 induction l with
 | nil=>rfl
 | cons x r ih =>
  have ih:=ih (fun p hp=>hl p (List.mem_cons_of_mem _ hp));simp only [onList,List.map_cons,List.any_cons,List.contains_cons] at ih ⊢;rw [ih];congr 1;have hx:=hl x List.mem_cons_self;by_cases h:x=a
  ·subst h;rw [WideAt.sameKey_self (th_law.key (th_key x hx.1 hx.2))];simp
  ·rw [Maps.sameKey_ne (fun e=>h (by
    have k1:=th_key x hx.1 hx.2
    rw [e] at k1
    have:=th_law.inj k1 (th_key a ha.1 ha.2)
    unfold thV at this
    simp at this
    exact Prod.ext this.1 this.2))]
   simp [Ne.symm h]
def toTh (d:Dg):Int × Int:=(if d.f0=1 ∨ d.f0=2 then 0 else if d.f0=3 ∨ d.f0=4 then 1 else 2,d.f1)
def wB (n lo hi:Int):Bool:=decide (lo ≤ n) && decide (n ≤ hi)
def doB (ns nc nn:Nat) (d:Dg):Bool :=
 if d.f0=1 ∨ d.f0=2 then wB d.f1 0 ((ns:Int) - 1) && d.f2 == 0
 else if d.f0=3 ∨ d.f0=4 then wB d.f1 0 ((nc:Int) - 1) && wB d.f2 1 1000
 else if d.f0=6 then wB d.f1 0 ((nn:Int) - 1) && d.f2 == 0
 else false
theorem to_f (d:Dg):sorts_to.f 1 d.f0 d.f1 d.f2=some (toTh d):=by
 unfold sorts_to.f sorts_to.j0 toTh;by_cases h1:d.f0=1 <;> by_cases h2:d.f0=2 <;> by_cases h3:d.f0=3 <;> by_cases h4:d.f0=4 <;> simp [h1,h2,h3,h4] <;> (try (split <;> simp_all))
theorem within_f (n lo hi:Int):sorts_within.f n lo hi=some (wB n lo hi):=by
 unfold sorts_within.f wB;by_cases h:n ≥ lo
 ·rw [if_pos h,decide_eq_true h];rfl
 ·rw [if_neg h,decide_eq_false h];rfl
theorem do_f (l0 l1 l2:List ByteArray) (l3:List Cl) (l4:List Op_) (d:Dg) (h0:l0.length ≤ 4000000000) (h1:l1.length ≤ 4000000000) (h2:l2.length ≤ 4000000000) :
  sorts_doing.f 2 l0 l1 l2 l3 l4 d.f0 d.f1 d.f2=some (doB l0.length l1.length l2.length d):=by
 (have w0:wrap64 ((l0.length:Int) - 1)=(l0.length:Int) - 1:=by unfold wrap64;omega);(have w1:wrap64 ((l1.length:Int) - 1)=(l1.length:Int) - 1:=by unfold wrap64;omega);(have w2:wrap64 ((l2.length:Int) - 1)=(l2.length:Int) - 1:=by unfold wrap64;omega);unfold sorts_doing.f sorts_doing.j0 sorts_doing.j1 doB;simp only [within_f,w0,w1,w2,Option.bind_some];by_cases a1:d.f0=1
 ·simp [a1];cases wB d.f1 0 ((l0.length:Int) - 1) <;> simp
 by_cases a2:d.f0=2
 ·simp [a2];cases wB d.f1 0 ((l0.length:Int) - 1) <;> simp
 by_cases a3:d.f0=3
 ·simp [a3];cases wB d.f1 0 ((l1.length:Int) - 1) <;> simp
 by_cases a4:d.f0=4
 ·simp [a4];cases wB d.f1 0 ((l1.length:Int) - 1) <;> simp
 by_cases a6:d.f0=6
 ·simp [a6];cases wB d.f1 0 ((l2.length:Int) - 1) <;> simp
 simp [a1,a2,a3,a4,a6]
def clB (ns nc:Nat) (c:Cl):Bool :=
 if c.f0=4 ∨ c.f0=5 then wB c.f2 0 ((ns:Int) - 1) && (wB c.f3 0 ((ns:Int) - 1) && (c.f2 != c.f3 && c.f4 == 0))
 else if c.f0=9 then wB c.f2 0 ((nc:Int) - 1) && (wB c.f3 0 ((ns:Int) - 1) && c.f4 == 0)
 else if c.f0=6 then wB c.f2 0 ((ns:Int) - 1) && (c.f3 == 0 && (wB c.f4 0 1000 && !c.f1))
 else if c.f0=7 then wB c.f2 0 ((nc:Int) - 1) && (c.f3 == 0 && (wB c.f4 0 1000 && !c.f1))
 else if c.f0=8 then wB c.f2 0 ((nc:Int) - 1) && (c.f3 == 0 && (wB c.f4 (-1000) 0 && c.f1))
 else false
theorem within_q (n lo hi:Int) (w:World):Calls Tryz.prog 132 #[.int .i64 n,.int .i64 lo,.int .i64 hi] w fun e w'=>e = .returned (.bool (wB n lo hi))∧∃ m,w' = w.drewN m :=
 (sorts_within.calls n lo hi (wB n lo hi) w (within_f _ _ _)).mono fun e w' ⟨he,m,hm⟩=>⟨he,m,hm⟩
theorem set_q (g:Nat) (A0:Option Addr) (c0 ns:Nat) (v1 v2 v3 v4:Value) (n:Int) (w:World) (hb:w.heap[g]? = some (.cells #[.slice A0 ns c0,v1,v2,v3,v4] 26 (0,0))) (hn:ns ≤ 4000000000) :
  Calls Tryz.prog 131 #[.int .i64 n,.pointer (some ⟨g,0,none⟩)] w fun e w'=>e = .returned (.bool (wB n 0 ((ns:Int) - 1)))∧∃ m,w' = w.drewN m:=by
 have h0:w.cell? ⟨g,0,none⟩=some (.slice A0 ns c0):=(blk_cell hb 0).trans rfl;have HB:=Sd.mk hb;clear hb;go_enter Tryz.func131,Tryz.ntmps131;go_wp2_with fail;refine (within_q _ _ _ _).mono ?_;rintro e w1 ⟨rfl,m1,rfl⟩;go_wp2_with fail;go_ret;exact ⟨rfl,m1,rfl⟩
theorem clause_call (A0:Option Addr) (c0 ns:Nat) (A1:Option Addr) (c1 nc:Nat) (v2 v3 v4:Value) (k:Int) (st:Bool) (a b n:Int) (w:World) (hns:ns ≤ 4000000000) (hnc:nc ≤ 4000000000) :
  Calls Tryz.prog 93 #[.agg #[.slice A0 ns c0,.slice A1 nc c1,v2,v3,v4],.agg #[.int .i64 k,.bool st,.int .i64 a,.int .i64 b,.int .i64 n]] w fun e w'=>e = .returned (.bool (clB ns nc ⟨k,st,a,b,n⟩))∧Below w.heap.size w w':=by
 (have hmf:∀ (fn:Fn) (first cap:Array Value) (w:World),(Instr.makeFunc fn first cap).run Tryz.prog w = .ok (.func fn first cap) w:=fun _ _ _ _=>rfl);go_enter Tryz.func93,Tryz.ntmps93;go_upto_region 1 with (first|((with_reducible refine gate_dst (N:=2) rfl ?_);refine box_event ?hg (N:=2) ?hd (cs:=#[.slice A0 ns c0,.slice A1 nc c1,v2,v3,v4]) (t:=26) ?hr ?_;(case hd=>rfl);(case hg=>rfl);(case hr=>first|(go_simp;done)|(go_simp;rfl));intro g hg w3 hbox hb;have HB:=Sd.mk hb;have BK:=Sd.mk hbox;have HG:=Sd.mk hg;clear hb hbox hg)|((with_reducible refine gate_dst (N:=3) rfl ?_);refine box_event ?hg (N:=3) ?hd (cs:=#[.int .i64 k,.bool st,.int .i64 a,.int .i64 b,.int .i64 n]) (t:=85) ?hr ?_;(case hd=>rfl);(case hg=>rfl);(case hr=>first|(go_simp;done)|(go_simp;rfl));intro go hgo wo hbo hbb;have HBo:=Sd.mk hbb;have BKo:=Sd.mk hbo;have HGo:=Sd.mk hgo;clear hbb hbo hgo));have HB1:=Sd.mk (below_step HB.out HBo.out);have BK1:=Sd.mk (blk_below BK.out HBo.out);obtain ⟨hc0,hc1,hc2,hc3,hc4⟩:=bc5 BKo.out;have hr1:wo.cell? ⟨g,1,none⟩=some (.slice A1 nc c1):=(blk_cell BK1.out 1).trans rfl;have HS:Sd (∀ (n:Int) (m:Nat),Calls Tryz.prog 131 #[.int .i64 n,.pointer (some ⟨g,0,none⟩)] (wo.drewN m) fun e w'=>e = .returned (.bool (wB n 0 ((ns:Int) - 1)))∧∃ m',w' = (wo.drewN m).drewN m'):=⟨fun n m=>set_q g A0 c0 ns _ _ _ _ n _ (blk_drewN BK1.out m) hns⟩;go_wp2_with fail;refine (within_q _ _ _ _).mono ?_;rintro e w1 ⟨rfl,m1,rfl⟩;have HP:Sd (∀ m,Below w.heap.size w (wo.drewN m)):=⟨fun m=>pw_below_drewN HB1.out m⟩;by_cases k4:k=4
 ·subst k4;go_wp2_with (first|(go_at_call 131;refine (HS.out _ _).mono ?_;rintro e w2 ⟨rfl,m2,rfl⟩)|(go_at_call 132;refine (within_q _ _ _ _).mono ?_;rintro e w2 ⟨rfl,m2,rfl⟩));all_goals
   go_ret
   refine ⟨congrArg (fun b=>Ending.returned (.bool b)) ?_,?_⟩
   ·simp_all [clB,-World.drewN_drewN]
   ·first|exact HP.out _|exact HB1.out|(rw [World.drewN_drewN];exact HP.out _)
 by_cases k5:k=5
 ·subst k5;go_wp2_with (first|(go_at_call 131;refine (HS.out _ _).mono ?_;rintro e w2 ⟨rfl,m2,rfl⟩)|(go_at_call 132;refine (within_q _ _ _ _).mono ?_;rintro e w2 ⟨rfl,m2,rfl⟩));all_goals
   go_ret
   refine ⟨congrArg (fun b=>Ending.returned (.bool b)) ?_,?_⟩
   ·simp_all [clB,-World.drewN_drewN]
   ·first|exact HP.out _|exact HB1.out|(rw [World.drewN_drewN];exact HP.out _)
 by_cases k9:k=9
 ·subst k9;go_wp2_with (first|(go_at_call 131;refine (HS.out _ _).mono ?_;rintro e w2 ⟨rfl,m2,rfl⟩)|(go_at_call 132;refine (within_q _ _ _ _).mono ?_;rintro e w2 ⟨rfl,m2,rfl⟩));all_goals
   go_ret
   refine ⟨congrArg (fun b=>Ending.returned (.bool b)) ?_,?_⟩
   ·simp_all [clB,-World.drewN_drewN]
   ·first|exact HP.out _|exact HB1.out|(rw [World.drewN_drewN];exact HP.out _)
 by_cases k6:k=6
 ·subst k6;go_wp2_with (first|(go_at_call 131;refine (HS.out _ _).mono ?_;rintro e w2 ⟨rfl,m2,rfl⟩)|(go_at_call 132;refine (within_q _ _ _ _).mono ?_;rintro e w2 ⟨rfl,m2,rfl⟩));all_goals
   go_ret
   refine ⟨congrArg (fun b=>Ending.returned (.bool b)) ?_,?_⟩
   ·simp_all [clB,-World.drewN_drewN]
   ·first|exact HP.out _|exact HB1.out|(rw [World.drewN_drewN];exact HP.out _)
 by_cases k7:k=7
 ·subst k7;go_wp2_with (first|(go_at_call 131;refine (HS.out _ _).mono ?_;rintro e w2 ⟨rfl,m2,rfl⟩)|(go_at_call 132;refine (within_q _ _ _ _).mono ?_;rintro e w2 ⟨rfl,m2,rfl⟩));all_goals
   go_ret
   refine ⟨congrArg (fun b=>Ending.returned (.bool b)) ?_,?_⟩
   ·simp_all [clB,-World.drewN_drewN]
   ·first|exact HP.out _|exact HB1.out|(rw [World.drewN_drewN];exact HP.out _)
 by_cases k8:k=8
 ·subst k8;go_wp2_with (first|(go_at_call 131;refine (HS.out _ _).mono ?_;rintro e w2 ⟨rfl,m2,rfl⟩)|(go_at_call 132;refine (within_q _ _ _ _).mono ?_;rintro e w2 ⟨rfl,m2,rfl⟩));all_goals
   go_ret
   refine ⟨congrArg (fun b=>Ending.returned (.bool b)) ?_,?_⟩
   ·simp_all [clB,-World.drewN_drewN]
   ·first|exact HP.out _|exact HB1.out|(rw [World.drewN_drewN];exact HP.out _)
 have e4:(k == 4)=false:=beq_eq_false_iff_ne.2 k4;have e5:(k == 5)=false:=beq_eq_false_iff_ne.2 k5;have e6:(k == 6)=false:=beq_eq_false_iff_ne.2 k6;have e7:(k == 7)=false:=beq_eq_false_iff_ne.2 k7;have e8:(k == 8)=false:=beq_eq_false_iff_ne.2 k8;have e9:(k == 9)=false:=beq_eq_false_iff_ne.2 k9;go_wp2_with fail;go_ret;exact ⟨by simp [clB,k4,k5,k6,k7,k8,k9],HP.out _⟩
def operU (ns nc nn:Nat):List (Int × Int) → List Dg → Bool
 | _,[]=>true
 | seen,d :: l=>doB ns nc nn d && (!seen.contains (toTh d) && operU ns nc nn (toTh d :: seen) l)
def operOk (ns nc nn:Nat) (l:List Dg):Bool:=wB l.length 1 16 && operU ns nc nn [] l
theorem wf_toTh {d:Dg} (h:(Lit.int .i64 d.f1).wf=true):(Lit.int .i64 (toTh d).1).wf=true∧(Lit.int .i64 (toTh d).2).wf=true:=by
 refine ⟨?_,h⟩;unfold toTh;simp only;split
 ·decide
 ·split <;> decide
theorem oper_call (A0:Option Addr) (c0:Nat) (l0:List ByteArray) (A1:Option Addr) (c1:Nat) (l1:List ByteArray) (A2:Option Addr) (c2:Nat) (l2:List ByteArray) (A3:Option Addr) (c3:Nat) (l3:List Cl) (A4:Option Addr) (c4:Nat) (l4:List Op_) (nm:ByteArray) (A5:Option Addr) (c5:Nat) (l5:List Dg) (w:World)
  (hr0:Kd.C Kd.string w A0 l0.length l0) (hc0:l0.length ≤ c0) (hr1:Kd.C Kd.string w A1 l1.length l1) (hc1:l1.length ≤ c1) (hr2:Kd.C Kd.string w A2 l2.length l2) (hc2:l2.length ≤ c2) (hr3:Kd.C k85 w A3 l3.length l3) (hc3:l3.length ≤ c3) (hr4:Kd.C k89 w A4 l4.length l4) (hc4:l4.length ≤ c4)
  (hr5:Kd.C k94 w A5 l5.length l5) (hc5:l5.length ≤ c5) (hn0:l0.length ≤ 4000000000) (hn1:l1.length ≤ 4000000000) (hn2:l2.length ≤ 4000000000) (hn5:l5.length ≤ 4000000000) (hwf:∀ d ∈ l5,(Lit.int .i64 d.f1).wf=true) :
  Calls Tryz.prog 96 #[.agg #[.slice A0 l0.length c0,.slice A1 l1.length c1,.slice A2 l2.length c2,.slice A3 l3.length c3,.slice A4 l4.length c4],.agg #[.string nm,.slice A5 l5.length c5]] w fun e w'=>e = .returned (.bool (operOk l0.length l1.length l2.length l5))∧Below w.heap.size w w':=by
 have HR0:=Sd.mk hr0;have HR1:=Sd.mk hr1;have HR2:=Sd.mk hr2;have HR3:=Sd.mk hr3;have HR4:=Sd.mk hr4;have HR5:=Sd.mk hr5;have HWF:=Sd.mk hwf;clear hr0 hr1 hr2 hr3 hr4 hr5 hwf;have HDO:Sd (∀ d:Dg,sorts_doing.f 2 l0 l1 l2 l3 l4 d.f0 d.f1 d.f2=some (doB l0.length l1.length l2.length d)):=⟨fun d=>do_f l0 l1 l2 l3 l4 d hn0 hn1 hn2⟩;have hmm:=@run_makeMap Tryz.prog;generalize hs0:Value.slice A0 l0.length c0=v0 at *;generalize hs1:Value.slice A1 l1.length c1=v1 at *;generalize hs2:Value.slice A2 l2.length c2=v2 at *;generalize hs3:Value.slice A3 l3.length c3=v3 at *;generalize hs4:Value.slice A4 l4.length c4=v4 at *;have HS:=Sd.mk (And.intro hs0 (And.intro hs1 (And.intro hs2 (And.intro hs3 hs4))));clear hs0 hs1 hs2 hs3 hs4;generalize hnl:l5.length=n at *;have HNL:=Sd.mk hnl;clear hnl;go_enter Tryz.func96,Tryz.ntmps96;go_upto_region 1 with (first|((with_reducible refine gate_dst (N:=2) rfl ?_);refine box_event ?hg (N:=2) ?hd (cs:=#[v0,v1,v2,v3,v4]) (t:=26) ?hr ?_;(case hd=>rfl);(case hg=>rfl);(case hr=>first|(go_simp;done)|(go_simp;rfl));intro g hg w3 hbox hb;have HB:=Sd.mk hb;have BK:=Sd.mk hbox;have HG:=Sd.mk hg;clear hb hbox hg)|((with_reducible refine gate_dst (N:=3) rfl ?_);refine box_event ?hg (N:=3) ?hd (cs:=#[.string nm,.slice A5 n c5]) (t:=89) ?hr ?_;(case hd=>rfl);(case hg=>rfl);(case hr=>first|(go_simp;done)|(go_simp;rfl));intro go hgo wo hbo hbb;have HBo:=Sd.mk hbb;have BKo:=Sd.mk hbo;have HGo:=Sd.mk hgo;clear hbb hbo hgo));have HB1:=Sd.mk (below_step HB.out HBo.out);have BK1:=Sd.mk (blk_below BK.out HBo.out);(have hwg:w.heap.size ≤ g:=by rw [HG.out];exact Nat.le_refl _);(have hwgo:w.heap.size ≤ go:=by rw [HGo.out];exact below_size HB.out);(have hggo:g ≠ go:=by rw [HGo.out];exact Nat.ne_of_lt (blk_lt BK.out));have HGG:=Sd.mk (And.intro hwg (And.intro hwgo hggo));clear hwg hwgo hggo;have hx5:wo.cell? ⟨go,1,none⟩=some (.slice A5 n c5):=(blk_cell BKo.out 1).trans rfl;go_wp2_with fail;refine (sorts_within.calls (n:Int) 1 16 (wB (n:Int) 1 16) _ (within_f _ _ _)).mono ?_;rintro e w1 ⟨rfl,⟨m1,rfl⟩⟩;have HB2:Sd (Below w.heap.size w (wo.drewN m1)):=⟨pw_below_drewN HB1.out m1⟩;have BK2:Sd ((wo.drewN m1).heap[g]? = some (.cells #[v0,v1,v2,v3,v4] 26 (0,0))):=⟨blk_drewN BK1.out m1⟩;have BKo2:Sd ((wo.drewN m1).heap[go]? = some (.cells #[.string nm,.slice A5 n c5] 89 (0,0))):=⟨blk_drewN BKo.out m1⟩;clear hx5 HB1 BK1;generalize wo.drewN m1=wv at *;cases hw:wB (n:Int) 1 16 with
 | false =>
  have HE:Sd (operOk l0.length l1.length l2.length l5=false):=⟨by unfold operOk;rw [HNL.out,hw];rfl⟩;clear hw;go_wp2_with fail;go_ret;exact ⟨by rw [HE.out];rfl,HB2.out⟩
 | true =>
  have HE:Sd (operOk l0.length l1.length l2.length l5=operU l0.length l1.length l2.length [] l5):=⟨by unfold operOk;rw [HNL.out,hw];rfl⟩;clear hw;have hx5:(wv.alloc (Obj.map #[] 0)).cell? ⟨go,1,none⟩=some (.slice A5 n c5):=(blk_cell (blk_alloc BKo2.out _) 1).trans rfl;go_wp2_with fail;go_loopw [17] (fun v17 wr=>∃ (pos:Nat) (seen:List (Int × Int)),v17 = .int .i64 pos∧pos ≤ n∧seen.length ≤ pos∧Sd (∀ p ∈ seen,(Lit.int .i64 p.1).wf=true∧(Lit.int .i64 p.2).wf=true)∧Sd (operU l0.length l1.length l2.length seen (l5.drop pos)=operOk l0.length l1.length l2.length l5)∧Sd (wr.marks Tryz.prog 174 4 wv.heap.size (seen.map thL))∧Sd (wr.heap[g]? = some (.cells #[v0,v1,v2,v3,v4] 26 (0,0)))∧Sd (Below w.heap.size w wr)) (fun v17 _=>((n:Int) - intV v17).toNat)
  case atStart=>exact ⟨0,[],rfl,Nat.zero_le _,Nat.le_refl _,⟨by simp⟩,⟨HE.out.symm⟩,⟨World.marks_made wv _ _ _⟩,⟨blk_alloc BK2.out _⟩,⟨below_alloc HB2.out _⟩⟩
  case round =>
   obtain ⟨pos,seen,rfl,hpos,hsl,HSW,HEp,HM,BKr,HBr⟩:=hrel;by_cases hlt:pos < n
   ·(have hlt':decide ((pos:Int) < (n:Int))=true:=by simp;omega);(have p:0 ≤ (pos:Int):=by omega);(have q:(pos:Int) < (n:Int):=by omega);obtain ⟨ad,e0,hx0,hx1,hx2⟩:=at_T94 (Kd.C_below HR5.out HBr.out) (pos:Int) p q;cases e0;simp only [Int.toNat_natCast] at hx0 hx1 hx2;generalize hx:rd_T94 l5 (pos:Int)=x at *;have HX:=Sd.mk hx;clear hx;go_upto_region 7 with (first|((with_reducible refine gate_dst (N:=7) rfl ?_);refine box_event ?hg (N:=7) ?hd (cs:=#[.int .i64 0,.int .i64 0,.int .i64 0]) (t:=94) ?hr ?_;(case hd=>rfl);(case hg=>rfl);(case hr=>first|(go_simp;done)|(go_simp;rfl));intro g1 hg1 w4 hbox1 hb1;have hcz0:w4.cell? ⟨g1,0,none⟩=some (.int .i64 0):=(blk_cell hbox1 0).trans rfl;have hcz1:w4.cell? ⟨g1,1,none⟩=some (.int .i64 0):=(blk_cell hbox1 1).trans rfl;have hcz2:w4.cell? ⟨g1,2,none⟩=some (.int .i64 0):=(blk_cell hbox1 2).trans rfl;have hfz0:=blk_frozen hbox1 0;have hfz1:=blk_frozen hbox1 1;have hfz2:=blk_frozen hbox1 2;have HB1:=Sd.mk hb1;have BK1:=Sd.mk hbox1;have HG1:=Sd.mk hg1;clear hb1 hbox1 hg1));(have hgm:wv.heap.size ≠ g1:=by rw [HG1.out];exact Nat.ne_of_lt HM.out.lt);(have hgw:w.heap.size ≤ g1:=by rw [HG1.out];exact below_size HBr.out);(have hgg:g ≠ g1:=by rw [HG1.out];exact Nat.ne_of_lt (blk_lt BKr.out));have HB5:=Sd.mk (below_set (j:=2) (v:=.int .i64 x.f2) (below_set (j:=1) (v:=.int .i64 x.f1) (below_set (j:=0) (v:=.int .i64 x.f0) (below_step HBr.out HB1.out) hgw) hgw) hgw);have HM5:=Sd.mk (((((HM.out.below HB1.out).setCell (a:=⟨g1,0,none⟩) hgm (.int .i64 x.f0)).setCell (a:=⟨g1,1,none⟩) hgm (.int .i64 x.f1)).setCell (a:=⟨g1,2,none⟩) hgm (.int .i64 x.f2)));have HK5:Sd ((((w4.setCell ⟨g1,0,none⟩ (.int .i64 x.f0)).setCell ⟨g1,1,none⟩ (.int .i64 x.f1)).setCell ⟨g1,2,none⟩ (.int .i64 x.f2)).heap[g1]? = some (.cells #[.int .i64 x.f0,.int .i64 x.f1,.int .i64 x.f2] 94 (0,0))):=⟨by
     refine blk_put (cs:=#[.int .i64 x.f0,.int .i64 x.f1,.int .i64 0]) ?_ 2 _ rfl
     refine blk_put (cs:=#[.int .i64 x.f0,.int .i64 0,.int .i64 0]) ?_ 1 _ rfl
     exact blk_put BK1.out 0 _ rfl⟩
    have BK5:Sd ((((w4.setCell ⟨g1,0,none⟩ (.int .i64 x.f0)).setCell ⟨g1,1,none⟩ (.int .i64 x.f1)).setCell ⟨g1,2,none⟩ (.int .i64 x.f2)).heap[g]? = some (.cells #[v0,v1,v2,v3,v4] 26 (0,0))):=⟨by
     rw [Below.heap_setCell _ _ _ _ hgg,Below.heap_setCell _ _ _ _ hgg,Below.heap_setCell _ _ _ _ hgg]
     exact blk_below BKr.out HB1.out⟩
    generalize (((w4.setCell ⟨g1,0,none⟩ (.int .i64 x.f0)).setCell ⟨g1,1,none⟩ (.int .i64 x.f1)).setCell ⟨g1,2,none⟩ (.int .i64 x.f2))=w5 at *;have ha0:w5.cell? ⟨g,0,none⟩=some v0:=(blk_cell BK5.out 0).trans rfl;have ha1:w5.cell? ⟨g,1,none⟩=some v1:=(blk_cell BK5.out 1).trans rfl;have ha2:w5.cell? ⟨g,2,none⟩=some v2:=(blk_cell BK5.out 2).trans rfl;have ha3:w5.cell? ⟨g,3,none⟩=some v3:=(blk_cell BK5.out 3).trans rfl;have ha4:w5.cell? ⟨g,4,none⟩=some v4:=(blk_cell BK5.out 4).trans rfl;obtain ⟨hd0,hd1,hd2⟩:=bc3 HK5.out;have HDR:Sd (l5.drop pos=x :: l5.drop (pos + 1)):=⟨by
     rw [drop_getD l5 z94 pos (by rw [HNL.out];exact hlt),← HX.out];rfl⟩
    have HW2:Sd ((Lit.int .i64 x.f1).wf=true):=⟨HWF.out x (by
     have hm:=List.mem_of_mem_drop (i:=pos) (l:=l5) (a:=x) (by rw [HDR.out];exact List.mem_cons_self)
     exact hm)⟩
    clear hcz0 hcz1 hcz2 hfz0 hfz1 hfz2 hx0 hx1 hx2;have HE1:Sd ((doB l0.length l1.length l2.length x && (!seen.contains (toTh x) && operU l0.length l1.length l2.length (toTh x :: seen) (l5.drop (pos + 1))))=operOk l0.length l1.length l2.length l5):=⟨by rw [← HEp.out,HDR.out];rfl⟩;have HDC:Sd (Calls Tryz.prog 134 #[.agg #[v0,v1,v2,v3,v4],.agg #[.int .i64 x.f0,.int .i64 x.f1,.int .i64 x.f2]] w5 fun e w'=>e = .returned (.bool (doB l0.length l1.length l2.length x))∧Below w5.heap.size w5 w'):=⟨by
     obtain ⟨rfl,rfl,rfl,rfl,rfl⟩:=HS.out
     exact sorts_doing.calls 2 A0 c0 l0 A1 c1 l1 A2 c2 l2 A3 c3 l3 A4 c4 l4 x.f0 x.f1 x.f2 _ w5 (Kd.C_below HR0.out HB5.out) hc0 (Kd.C_below HR1.out HB5.out) hc1 (Kd.C_below HR2.out HB5.out) hc2 (Kd.C_below HR3.out HB5.out) hc3 (Kd.C_below HR4.out HB5.out) hc4 (HDO.out x)⟩
    go_wp2_with fail;refine HDC.out.mono ?_;rintro e w6 ⟨rfl,hb6⟩;have HM6:=Sd.mk (HM5.out.below hb6);have HB6:=Sd.mk (below_step HB5.out hb6);have HK6:=Sd.mk (blk_below HK5.out hb6);have BK6:=Sd.mk (blk_below BK5.out hb6);clear hb6 HM5 HB5 HK5 BK5 HDC ha0 ha1 ha2 ha3 ha4 hd0 hd1 hd2;cases hdo:doB l0.length l1.length l2.length x with
    | false =>
     have HE2:Sd (operOk l0.length l1.length l2.length l5=false):=⟨by rw [← HE1.out,hdo];rfl⟩;clear hdo;go_wp2_with fail;go_ret;exact ⟨by rw [HE2.out];rfl,HB6.out⟩
    | true =>
     rw [hdo] at HE1;clear hdo;obtain ⟨hd0,hd1,hd2⟩:=bc3 HK6.out;go_wp2_with fail;refine (sorts_to.calls 1 x.f0 x.f1 x.f2 (toTh x).1 (toTh x).2 _ (to_f x)).mono ?_;rintro e w7 ⟨rfl,hb7⟩;have HM7:=Sd.mk (HM6.out.below hb7);have HB7:=Sd.mk (below_step HB6.out hb7);have HK7:=Sd.mk (blk_below HK6.out hb7);have BK7:=Sd.mk (blk_below BK6.out hb7);clear hb7 HM6 HB6 HK6 BK6 hd0 hd1 hd2;have HT:=Sd.mk (wf_toTh HW2.out);have hlk:(Instr.lookup 171 (.map (some wv.heap.size)) (.agg #[.int .i64 (toTh x).1,.int .i64 (toTh x).2]) false).run Tryz.prog w7 = .ok (.bool (onList (seen.map thL) (thL (toTh x)))) w7:=HM7.out.look th_law Tryz.underlying171 Tryz.underlying4 (zero_bool _) (th_key (toTh x) HT.out.1 HT.out.2);rw [onList_th seen (toTh x) HSW.out HT.out] at hlk;cases hsc:seen.contains (toTh x) with
     | true =>
      have HE3:Sd (operOk l0.length l1.length l2.length l5=false):=⟨by rw [← HE1.out,hsc];rfl⟩;rw [hsc] at hlk;clear hsc;go_wp2_with fail;go_ret;exact ⟨by rw [HE3.out];rfl,HB7.out⟩
     | false =>
      have HE3:Sd (operU l0.length l1.length l2.length (toTh x :: seen) (l5.drop (pos + 1))=operOk l0.length l1.length l2.length l5):=⟨by rw [← HE1.out,hsc];rfl⟩;rw [hsc] at hlk;clear hsc;obtain ⟨hd0,hd1,hd2⟩:=bc3 HK7.out;go_wp2_with fail;refine (sorts_to.calls 1 x.f0 x.f1 x.f2 (toTh x).1 (toTh x).2 _ (to_f x)).mono ?_;rintro e w8 ⟨rfl,hb8⟩;have HM8:=Sd.mk (HM7.out.below hb8);have HB8:=Sd.mk (below_step HB7.out hb8);have BK8:=Sd.mk (blk_below BK7.out hb8);clear hb8 hd0 hd1 hd2 hlk;have hgv:g ≠ wv.heap.size:=Nat.ne_of_lt (blk_lt BK2.out);(have hsm:(seen.map thL).length < maxLen:=by rw [List.length_map];unfold maxLen;omega);have HSM:=Sd.mk hsm;clear hsm;go_wp2_with (at_mapUpdate;refine wpList_mark _ rfl _ _ _ 171 rfl 174 4 th_law Tryz.underlying171 Tryz.underlying4 wv.heap.size (seen.map thL) rfl HM8.out HSM.out _ _ rfl rfl (th_key (toTh x) HT.out.1 HT.out.2) ?_;intro w9 hm9 hg9;have HM9:=Sd.mk hm9;have HG9:=Sd.mk hg9;clear hm9 hg9);go_roundw
      case measure=>simp [intV];omega
      case rel =>
       refine ⟨pos + 1,toTh x :: seen,by simp,by omega,by simp;omega,⟨?_⟩,HE3,HM9,⟨?_⟩,⟨HB8.out.grown HG9.out (below_size HB8.out) (by intro k hk;cases hk;exact below_size HB2.out)⟩⟩
       ·intro p hp;rcases List.mem_cons.1 hp with rfl|hp
        ·exact HT.out
        ·exact HSW.out p hp
       ·exact (HG9.out.block g (blk_lt BK8.out) (by intro e;injection e with e;exact hgv e)).trans BK8.out
   ·(have hlt':decide ((pos:Int) < (n:Int))=false:=by simp;omega);(have hpn:pos=n:=by omega);have HE2:Sd (operOk l0.length l1.length l2.length l5=true):=⟨by rw [← HEp.out,List.drop_eq_nil_of_le (by rw [HNL.out];omega)];rfl⟩;go_wp2_with fail;go_ret;exact ⟨by rw [HE2.out];rfl,HBr.out⟩
def EVClause (w:World) (x:S85) (v:Value):Prop:=v = .agg #[.int .i64 x.f0,.bool x.f1,.int .i64 x.f2,.int .i64 x.f3,.int .i64 x.f4]
theorem evClause {w:World} {x:S85} {cs:List Value} (h:Kd.K k85 w x cs):cs = [.int .i64 x.f0,.bool x.f1,.int .i64 x.f2,.int .i64 x.f3,.int .i64 x.f4]∧EVClause w x (.agg #[.int .i64 x.f0,.bool x.f1,.int .i64 x.f2,.int .i64 x.f3,.int .i64 x.f4]):=by
 obtain rfl:=k85_open h;exact ⟨rfl,rfl⟩
def EVOper (w:World) (x:S89) (v:Value):Prop:=∃ (A1:Option Addr) (c1:Nat),v = .agg #[.string x.f0,.slice A1 x.f1.length c1]∧x.f1.length ≤ c1∧k94.C w A1 x.f1.length x.f1
theorem evOper {w:World} {x:S89} {cs:List Value} (h:Kd.K k89 w x cs):∃ (A1:Option Addr) (c1:Nat),cs = [.string x.f0,.slice A1 x.f1.length c1]∧EVOper w x (.agg #[.string x.f0,.slice A1 x.f1.length c1]):=by
 obtain ⟨A1,c1,rfl,l1,g1⟩:=k89_open h;exact ⟨A1,c1,rfl,A1,c1,rfl,l1,g1⟩
theorem enter_check1 (args:Array Value) (w:World):(callFunc 92 args).run Tryz.prog w = .ok (.enter 92 args) w:=by
 simp [go_sem,Tryz.func92]
theorem enter_check2 (args:Array Value) (w:World):(callFunc 95 args).run Tryz.prog w = .ok (.enter 95 args) w:=by
 simp [go_sem,Tryz.func95]
theorem check1_call (g:Nat) (A0:Option Addr) (c0 ns:Nat) (A1:Option Addr) (c1 nc:Nat) (v2 v3 v4:Value) (x:Cl) (w:World) (hb:w.heap[g]? = some (.cells #[.slice A0 ns c0,.slice A1 nc c1,v2,v3,v4] 26 (0,0))) (hns:ns ≤ 4000000000) (hnc:nc ≤ 4000000000) :
  Calls Tryz.prog 92 #[.agg #[.int .i64 x.f0,.bool x.f1,.int .i64 x.f2,.int .i64 x.f3,.int .i64 x.f4],.pointer (some ⟨g,0,none⟩)] w fun e w'=>e = .returned (.bool (!clB ns nc x))∧Below w.heap.size w w':=by
 have HB:=Sd.mk hb;clear hb;go_enter Tryz.func92,Tryz.ntmps92;go_upto_region 1 with (((with_reducible refine gate_dst (N:=2) rfl ?_);refine box_event ?hg (N:=2) ?hd (cs:=#[.int .i64 x.f0,.bool x.f1,.int .i64 x.f2,.int .i64 x.f3,.int .i64 x.f4]) (t:=85) ?hr ?_;(case hd=>rfl);(case hg=>rfl);(case hr=>first|(go_simp;done)|(go_simp;rfl));intro go hgo wo hbo hbb;have HBo:=Sd.mk hbb;have BKo:=Sd.mk hbo;clear hbb hbo hgo));have BK:=Sd.mk (blk_below HB.out HBo.out);obtain ⟨hc0,hc1,hc2,hc3,hc4⟩:=bc5 BKo.out;obtain ⟨hr0,hr1⟩:=bc2 BK.out;have hr2:wo.cell? ⟨g,2,none⟩=some v2:=(blk_cell BK.out 2).trans rfl;have hr3:wo.cell? ⟨g,3,none⟩=some v3:=(blk_cell BK.out 3).trans rfl;have hr4:wo.cell? ⟨g,4,none⟩=some v4:=(blk_cell BK.out 4).trans rfl;go_wp2_with fail;refine (clause_call A0 c0 ns A1 c1 nc v2 v3 v4 _ _ _ _ _ _ hns hnc).mono ?_;rintro e w1 ⟨rfl,hb1⟩;go_wp2_with fail;go_ret;exact ⟨rfl,below_step HBo.out hb1⟩
theorem check2_call (g:Nat) (A0:Option Addr) (c0:Nat) (l0:List ByteArray) (A1:Option Addr) (c1:Nat) (l1:List ByteArray) (A2:Option Addr) (c2:Nat) (l2:List ByteArray) (A3:Option Addr) (c3:Nat) (l3:List Cl) (A4:Option Addr) (c4:Nat) (l4:List Op_) (nm:ByteArray) (A5:Option Addr) (c5:Nat) (l5:List Dg) (w:World)
  (hb:w.heap[g]? = some (.cells #[.slice A0 l0.length c0,.slice A1 l1.length c1,.slice A2 l2.length c2,.slice A3 l3.length c3,.slice A4 l4.length c4] 26 (0,0)))
  (hr0:Kd.C Kd.string w A0 l0.length l0) (hc0:l0.length ≤ c0) (hr1:Kd.C Kd.string w A1 l1.length l1) (hc1:l1.length ≤ c1) (hr2:Kd.C Kd.string w A2 l2.length l2) (hc2:l2.length ≤ c2) (hr3:Kd.C k85 w A3 l3.length l3) (hc3:l3.length ≤ c3) (hr4:Kd.C k89 w A4 l4.length l4) (hc4:l4.length ≤ c4)
  (hr5:Kd.C k94 w A5 l5.length l5) (hc5:l5.length ≤ c5) (hn0:l0.length ≤ 4000000000) (hn1:l1.length ≤ 4000000000) (hn2:l2.length ≤ 4000000000) (hn5:l5.length ≤ 4000000000) (hwf:∀ d ∈ l5,(Lit.int .i64 d.f1).wf=true) :
  Calls Tryz.prog 95 #[.agg #[.string nm,.slice A5 l5.length c5],.pointer (some ⟨g,0,none⟩)] w fun e w'=>e = .returned (.bool (!operOk l0.length l1.length l2.length l5))∧Below w.heap.size w w':=by
 have HB:=Sd.mk hb;have HR:Sd (∀ w',Below w.heap.size w w' → Calls Tryz.prog 96 #[.agg #[.slice A0 l0.length c0,.slice A1 l1.length c1,.slice A2 l2.length c2,.slice A3 l3.length c3,.slice A4 l4.length c4],.agg #[.string nm,.slice A5 l5.length c5]] w' fun e w''=>e = .returned (.bool (operOk l0.length l1.length l2.length l5))∧Below w'.heap.size w' w'') :=
  ⟨fun w' hw=>oper_call A0 c0 l0 A1 c1 l1 A2 c2 l2 A3 c3 l3 A4 c4 l4 nm A5 c5 l5 w' (Kd.C_below hr0 hw) hc0 (Kd.C_below hr1 hw) hc1 (Kd.C_below hr2 hw) hc2 (Kd.C_below hr3 hw) hc3 (Kd.C_below hr4 hw) hc4 (Kd.C_below hr5 hw) hc5 hn0 hn1 hn2 hn5 hwf⟩
 clear hb hr0 hr1 hr2 hr3 hr4 hr5 hwf;generalize operOk l0.length l1.length l2.length l5=b at *;generalize l0.length=n0 at *;generalize l1.length=n1 at *;generalize l2.length=n2 at *;generalize l3.length=n3 at *;generalize l4.length=n4 at *;generalize l5.length=n5 at *;go_enter Tryz.func95,Tryz.ntmps95;go_upto_region 1 with (((with_reducible refine gate_dst (N:=2) rfl ?_);refine box_event ?hg (N:=2) ?hd (cs:=#[.string nm,.slice A5 n5 c5]) (t:=89) ?hr ?_;(case hd=>rfl);(case hg=>rfl);(case hr=>first|(go_simp;done)|(go_simp;rfl));intro go hgo wo hbo hbb;have HBo:=Sd.mk hbb;have BKo:=Sd.mk hbo;clear hbb hbo hgo));have BK:=Sd.mk (blk_below HB.out HBo.out);obtain ⟨hx0,hx1⟩:=bc2 BKo.out;obtain ⟨hr0,hr1,hr2,hr3,hr4⟩:=bc5 BK.out;go_wp2_with fail;refine (HR.out _ HBo.out).mono ?_;rintro e w1 ⟨rfl,hb1⟩;go_wp2_with fail;go_ret;exact ⟨rfl,below_step HBo.out hb1⟩
end Go.Proofs.YtjbjbeihkoeciaaGreat.X
namespace Go.Proofs.YtjbjbeihkoeciaaGreat.X
def idxF {α:Type} (p:α → Bool) (l:List α):Int:=match l.findIdx? p with|some i=>(i:Int)|none=>-1
theorem idxF_at {α:Type} (p:α → Bool) (l:List α) (i:Nat) (x:α) (h:l[i]? = some x) (hp:p x=true) (ha:∀ j,j < i → ∀ y,l[j]? = some y → p y=false):idxF p l=i:=by
 have:l.findIdx? p=some i:=by
  obtain ⟨hi,rfl⟩:=List.getElem?_eq_some_iff.1 h;rw [List.findIdx?_eq_some_iff_getElem];exact ⟨hi,hp,fun j hj=>by simp [ha j hj _ (List.getElem?_eq_getElem (Nat.lt_trans hj hi))]⟩
 simp [idxF,this]
theorem idxF_none {α:Type} (p:α → Bool) (l:List α) (ha:∀ (j:Nat) x,l[j]? = some x → p x=false):idxF p l = -1:=by
 have:l.findIdx? p=none:=by
  rw [List.findIdx?_eq_none_iff];intro x hx;obtain ⟨j,hj,rfl⟩:=List.mem_iff_getElem.1 hx;exact ha j _ (List.getElem?_eq_getElem hj)
 simp [idxF,this]
theorem idxF_any {α:Type} (p:α → Bool) (l:List α):decide (0 ≤ idxF p l)=l.any p:=by
 unfold idxF;cases h:l.findIdx? p with
 | none =>
  rw [List.findIdx?_eq_none_iff] at h;(have:l.any p=false:=by rw [List.any_eq_false];intro x hx;simp [h x hx]);rw [this];rfl
 | some i =>
  rw [List.findIdx?_eq_some_iff_getElem] at h;obtain ⟨hi,hp,_⟩:=h;(have:l.any p=true:=by rw [List.any_eq_true];exact ⟨_,List.getElem_mem hi,hp⟩);rw [this];simp
end Go.Proofs.YtjbjbeihkoeciaaGreat.X
namespace Go.Proofs.YtjbjbeihkoeciaaGreat.X
open Go.RowKit Go.Proofs.YtjbjbeihkoeciaaGreatW.PrintWords Go.Proofs.YtjbjbeihkoeciaaGreatW.PrintLast Go.Proofs.YtjbjbeihkoeciaaGreatW.PrintMore
theorem idxFClause1 (F:FuncId) (cv0:Value) (hF:∀ (args:Array Value) (w:World),(callFunc F args).run Tryz.prog w = .ok (.enter F args) w) (p:S85 → Bool) (A:Option Addr) (c:Nat) (l:List S85) (w:World) (hr:Kd.C k85 w A l.length l) (hc:l.length ≤ c) (hn:l.length ≤ 4000000000)
  (hp:∀ x ∈ l,∀ v,EVClause w x v → ∀ w',Below w.heap.size w w' → Calls Tryz.prog F #[v,cv0] w' fun e w''=>e = .returned (.bool (p x))∧Below w'.heap.size w' w'') :
  Calls Tryz.prog 130 #[.slice A l.length c,.func (.func F) #[] #[cv0]] w fun e w'=>e = .returned (.int .i64 (idxF p l))∧Below w.heap.size w w':=by
 generalize hnl:l.length=n at *;have HNL:=Sd.mk hnl;have HR:=Sd.mk hr;have HP:=Sd.mk hp;clear hr hp hnl;go_enter Tryz.func130,Tryz.ntmps130;go_wp2_with fail;go_loopw [8] (fun v8 w'=>∃ i:Nat,v8 = .int .i64 (i:Int)∧i ≤ n∧Sd (∀ j,j < i → ∀ x,l[j]? = some x → p x=false)∧Sd (Below w.heap.size w w')) (fun v8 _=>((n:Int) - intV v8).toNat)
 case atStart=>exact ⟨0,rfl,Nat.zero_le _,⟨fun j hj=>absurd hj (by omega)⟩,⟨Below.refl _ _⟩⟩
 case round =>
  obtain ⟨i,rfl,hi,HA,HB⟩:=hrel;by_cases hlt:i < n
  ·(have hlt':decide ((i:Int) < (n:Int))=true:=by simp;omega);(have p0:0 ≤ (i:Int):=by omega);(have q0:(i:Int) < (n:Int):=by omega);obtain ⟨ad,cs,e0,_,hK,hc0⟩:=Kd.C_get HR.out z85 (i:Int) p0 q0;cases e0;(have hget:l[i]? = some (l.getD i z85):=by rw [List.getD_eq_getElem?_getD,List.getElem?_eq_getElem (by rw [HNL.out];exact hlt)];rfl);simp only [Int.toNat_natCast] at hK hc0;generalize hx:l.getD i z85=x at *;have HX:=Sd.mk hget;have HM:Sd (x ∈ l):=⟨List.mem_of_getElem? hget⟩;clear hx hget;have hc1:∀ j u,cs[j]? = some u → w.cell? (ad.add (i * 5 + j))=some u:=hc0;have hEV:=evClause hK;obtain ⟨rfl,hev⟩:=hEV;have hx0:w.cell? (ad.add (i * 5))=some (.int .i64 x.f0):=hc1 0 _ rfl;(have hx1:w.cell? ⟨(ad.add (i * 5)).block,(ad.add (i * 5)).off + 1,none⟩=some (.bool x.f1):=by rw [← add_field _ _ 1 (by omega)];exact hc1 1 _ rfl);(have hx2:w.cell? ⟨(ad.add (i * 5)).block,(ad.add (i * 5)).off + 2,none⟩=some (.int .i64 x.f2):=by rw [← add_field _ _ 2 (by omega)];exact hc1 2 _ rfl);(have hx3:w.cell? ⟨(ad.add (i * 5)).block,(ad.add (i * 5)).off + 3,none⟩=some (.int .i64 x.f3):=by rw [← add_field _ _ 3 (by omega)];exact hc1 3 _ rfl);(have hx4:w.cell? ⟨(ad.add (i * 5)).block,(ad.add (i * 5)).off + 4,none⟩=some (.int .i64 x.f4):=by rw [← add_field _ _ 4 (by omega)];exact hc1 4 _ rfl);replace hx0:=(HB.out.cell (World.block_lt_of_cell? w _ hx0)).trans hx0;replace hx1:=(HB.out.cell (World.block_lt_of_cell? w _ hx1)).trans hx1;replace hx2:=(HB.out.cell (World.block_lt_of_cell? w _ hx2)).trans hx2;replace hx3:=(HB.out.cell (World.block_lt_of_cell? w _ hx3)).trans hx3;replace hx4:=(HB.out.cell (World.block_lt_of_cell? w _ hx4)).trans hx4;clear hc1 hc0 hK;have HEV:=Sd.mk hev;clear hev;replace p0:=eq_true p0;replace q0:=eq_true q0;cases hpx:p x with
   | true =>
    have HPX:=Sd.mk hpx;clear hpx;go_wp2_with fail;refine (HP.out x HM.out _ HEV.out _ HB.out).mono ?_;rintro e w1 ⟨rfl,hb⟩;have HB1:=Sd.mk (below_step HB.out hb);clear hb;have hpx:=HPX.out;go_wp2_with fail;go_ret;exact ⟨by rw [idxF_at p l i x HX.out HPX.out HA.out];rfl,HB1.out⟩
   | false =>
    have HPX:=Sd.mk hpx;clear hpx;go_wp2_with fail;refine (HP.out x HM.out _ HEV.out _ HB.out).mono ?_;rintro e w1 ⟨rfl,hb⟩;have HB1:=Sd.mk (below_step HB.out hb);clear hb;have hpx:=HPX.out;go_wp2_with fail;go_roundw
    case measure=>simp [intV];omega
    case rel =>
     refine ⟨i + 1,by simp,by omega,⟨fun j hj x' hx'=>?_⟩,HB1⟩;rcases Nat.lt_or_ge j i with h1|h1
     ·exact HA.out j h1 x' hx'
     ·(obtain rfl:j=i:=by omega);rw [HX.out] at hx';cases hx';exact HPX.out
  ·(have hlt':decide ((i:Int) < (n:Int))=false:=by simp;omega);go_wp2_with fail;go_ret;exact ⟨by rw [idxF_none p l (fun j x hx=>HA.out j (by have:=(List.getElem?_eq_some_iff.1 hx).1;have:=HNL.out;omega) x hx)];rfl,HB.out⟩
theorem hasFClause1 (F:FuncId) (cv0:Value) (hF:∀ (args:Array Value) (w:World),(callFunc F args).run Tryz.prog w = .ok (.enter F args) w) (p:S85 → Bool) (A:Option Addr) (c:Nat) (l:List S85) (w:World) (hr:Kd.C k85 w A l.length l) (hc:l.length ≤ c) (hn:l.length ≤ 4000000000) (hp:∀ x ∈ l,∀ v,EVClause w x v → ∀ w',Below w.heap.size w w' → Calls Tryz.prog F #[v,cv0] w' fun e w''=>e = .returned (.bool (p x))∧Below w'.heap.size w' w''):Calls Tryz.prog 91 #[.slice A l.length c,.func (.func F) #[] #[cv0]] w fun e w'=>e = .returned (.bool (l.any p))∧Below w.heap.size w w':=by
 have HR:=Sd.mk hr;have HP:=Sd.mk hp;clear hr hp;go_enter Tryz.func91,Tryz.ntmps91;go_wp2_with fail;refine (idxFClause1 F cv0 hF p A c l _ HR.out hc hn HP.out).mono ?_;rintro e w' ⟨rfl,hb⟩;go_wp2_with fail;go_ret;exact ⟨congrArg (fun b=>Ending.returned (.bool b)) (idxF_any p l),hb⟩
theorem idxFOper1 (F:FuncId) (cv0:Value) (hF:∀ (args:Array Value) (w:World),(callFunc F args).run Tryz.prog w = .ok (.enter F args) w) (p:S89 → Bool) (A:Option Addr) (c:Nat) (l:List S89) (w:World) (hr:Kd.C k89 w A l.length l) (hc:l.length ≤ c) (hn:l.length ≤ 4000000000)
  (hp:∀ x ∈ l,∀ v,EVOper w x v → ∀ w',Below w.heap.size w w' → Calls Tryz.prog F #[v,cv0] w' fun e w''=>e = .returned (.bool (p x))∧Below w'.heap.size w' w'') :
  Calls Tryz.prog 133 #[.slice A l.length c,.func (.func F) #[] #[cv0]] w fun e w'=>e = .returned (.int .i64 (idxF p l))∧Below w.heap.size w w':=by
 generalize hnl:l.length=n at *;have HNL:=Sd.mk hnl;have HR:=Sd.mk hr;have HP:=Sd.mk hp;clear hr hp hnl;go_enter Tryz.func133,Tryz.ntmps133;go_wp2_with fail;go_loopw [8] (fun v8 w'=>∃ i:Nat,v8 = .int .i64 (i:Int)∧i ≤ n∧Sd (∀ j,j < i → ∀ x,l[j]? = some x → p x=false)∧Sd (Below w.heap.size w w')) (fun v8 _=>((n:Int) - intV v8).toNat)
 case atStart=>exact ⟨0,rfl,Nat.zero_le _,⟨fun j hj=>absurd hj (by omega)⟩,⟨Below.refl _ _⟩⟩
 case round =>
  obtain ⟨i,rfl,hi,HA,HB⟩:=hrel;by_cases hlt:i < n
  ·(have hlt':decide ((i:Int) < (n:Int))=true:=by simp;omega);(have p0:0 ≤ (i:Int):=by omega);(have q0:(i:Int) < (n:Int):=by omega);obtain ⟨ad,cs,e0,_,hK,hc0⟩:=Kd.C_get HR.out z89 (i:Int) p0 q0;cases e0;(have hget:l[i]? = some (l.getD i z89):=by rw [List.getD_eq_getElem?_getD,List.getElem?_eq_getElem (by rw [HNL.out];exact hlt)];rfl);simp only [Int.toNat_natCast] at hK hc0;generalize hx:l.getD i z89=x at *;have HX:=Sd.mk hget;have HM:Sd (x ∈ l):=⟨List.mem_of_getElem? hget⟩;clear hx hget;have hc1:∀ j u,cs[j]? = some u → w.cell? (ad.add (i * 2 + j))=some u:=hc0;have hEV:=evOper hK;obtain ⟨A1,c1,rfl,hev⟩:=hEV;have hx0:w.cell? (ad.add (i * 2))=some (.string x.f0):=hc1 0 _ rfl;(have hx1:w.cell? ⟨(ad.add (i * 2)).block,(ad.add (i * 2)).off + 1,none⟩=some (.slice A1 x.f1.length c1):=by rw [← add_field _ _ 1 (by omega)];exact hc1 1 _ rfl);replace hx0:=(HB.out.cell (World.block_lt_of_cell? w _ hx0)).trans hx0;replace hx1:=(HB.out.cell (World.block_lt_of_cell? w _ hx1)).trans hx1;clear hc1 hc0 hK;have HEV:=Sd.mk hev;clear hev;replace p0:=eq_true p0;replace q0:=eq_true q0;cases hpx:p x with
   | true =>
    have HPX:=Sd.mk hpx;clear hpx;go_wp2_with fail;refine (HP.out x HM.out _ HEV.out _ HB.out).mono ?_;rintro e w1 ⟨rfl,hb⟩;have HB1:=Sd.mk (below_step HB.out hb);clear hb;have hpx:=HPX.out;go_wp2_with fail;go_ret;exact ⟨by rw [idxF_at p l i x HX.out HPX.out HA.out];rfl,HB1.out⟩
   | false =>
    have HPX:=Sd.mk hpx;clear hpx;go_wp2_with fail;refine (HP.out x HM.out _ HEV.out _ HB.out).mono ?_;rintro e w1 ⟨rfl,hb⟩;have HB1:=Sd.mk (below_step HB.out hb);clear hb;have hpx:=HPX.out;go_wp2_with fail;go_roundw
    case measure=>simp [intV];omega
    case rel =>
     refine ⟨i + 1,by simp,by omega,⟨fun j hj x' hx'=>?_⟩,HB1⟩;rcases Nat.lt_or_ge j i with h1|h1
     ·exact HA.out j h1 x' hx'
     ·(obtain rfl:j=i:=by omega);rw [HX.out] at hx';cases hx';exact HPX.out
  ·(have hlt':decide ((i:Int) < (n:Int))=false:=by simp;omega);go_wp2_with fail;go_ret;exact ⟨by rw [idxF_none p l (fun j x hx=>HA.out j (by have:=(List.getElem?_eq_some_iff.1 hx).1;have:=HNL.out;omega) x hx)];rfl,HB.out⟩
theorem hasFOper1 (F:FuncId) (cv0:Value) (hF:∀ (args:Array Value) (w:World),(callFunc F args).run Tryz.prog w = .ok (.enter F args) w) (p:S89 → Bool) (A:Option Addr) (c:Nat) (l:List S89) (w:World) (hr:Kd.C k89 w A l.length l) (hc:l.length ≤ c) (hn:l.length ≤ 4000000000) (hp:∀ x ∈ l,∀ v,EVOper w x v → ∀ w',Below w.heap.size w w' → Calls Tryz.prog F #[v,cv0] w' fun e w''=>e = .returned (.bool (p x))∧Below w'.heap.size w' w''):Calls Tryz.prog 94 #[.slice A l.length c,.func (.func F) #[] #[cv0]] w fun e w'=>e = .returned (.bool (l.any p))∧Below w.heap.size w w':=by
 have HR:=Sd.mk hr;have HP:=Sd.mk hp;clear hr hp;go_enter Tryz.func94,Tryz.ntmps94;go_wp2_with fail;refine (idxFOper1 F cv0 hF p A c l _ HR.out hc hn HP.out).mono ?_;rintro e w' ⟨rfl,hb⟩;go_wp2_with fail;go_ret;exact ⟨congrArg (fun b=>Ending.returned (.bool b)) (idxF_any p l),hb⟩
def checkB (l0 l1 l2:List ByteArray) (l3:List Cl) (l4:List Op_):Bool :=
 if 6 < l0.length then false else if 4 < l1.length then false else if 3 < l2.length then false else if 16 < l4.length then false else if 12 < l3.length then false
 else namedOk (namesL l0 l1 l2 l4) && (leastOk l3 && (!l3.any (fun x=>!clB l0.length l1.length x) && !l4.any (fun x=>!operOk l0.length l1.length l2.length x.f1)))
def RuOk (l0 l1 l2:List ByteArray) (l3:List Cl) (l4:List Op_):Prop :=
 (∀ s ∈ namesL l0 l1 l2 l4,s.size ≤ maxLen)∧(∀ o ∈ l4,o.f1.length ≤ 4000000000∧∀ d ∈ o.f1,(Lit.int .i64 d.f1).wf=true)∧∀ c ∈ l3,(Lit.int .i64 c.f2).wf=true
theorem checkB_at {l0 l1 l2:List ByteArray} {l3:List Cl} {l4:List Op_} (h0:¬ 6 < l0.length) (h1:¬ 4 < l1.length) (h2:¬ 3 < l2.length) (h4:¬ 16 < l4.length) (h3:¬ 12 < l3.length) :
  checkB l0 l1 l2 l3 l4=(namedOk (namesL l0 l1 l2 l4) && (leastOk l3 && (!l3.any (fun x=>!clB l0.length l1.length x) && !l4.any (fun x=>!operOk l0.length l1.length l2.length x.f1)))):=by
 unfold checkB;rw [if_neg h0,if_neg h1,if_neg h2,if_neg h4,if_neg h3]
def checkE (l0 l1 l2:List ByteArray) (l3:List Cl) (l4:List Op_):Int:=if checkB l0 l1 l2 l3 l4 then 0 else 1
theorem dT {k n:Nat} (h:k < n):decide ((k:Int) < (n:Int))=true:=by simpa using h
theorem dF {k n:Nat} (h:¬ k < n):decide ((k:Int) < (n:Int))=false:=by simpa using h
theorem check_call (A0:Option Addr) (c0:Nat) (l0:List ByteArray) (A1:Option Addr) (c1:Nat) (l1:List ByteArray) (A2:Option Addr) (c2:Nat) (l2:List ByteArray) (A3:Option Addr) (c3:Nat) (l3:List Cl) (A4:Option Addr) (c4:Nat) (l4:List Op_) (w:World)
  (hr0:Kd.C Kd.string w A0 l0.length l0) (hc0:l0.length ≤ c0) (hr1:Kd.C Kd.string w A1 l1.length l1) (hc1:l1.length ≤ c1) (hr2:Kd.C Kd.string w A2 l2.length l2) (hc2:l2.length ≤ c2) (hr3:Kd.C k85 w A3 l3.length l3) (hc3:l3.length ≤ c3) (hr4:Kd.C k89 w A4 l4.length l4) (hc4:l4.length ≤ c4)
  (hok:RuOk l0 l1 l2 l3 l4) :
  Calls Tryz.prog 48 #[.agg #[.slice A0 l0.length c0,.slice A1 l1.length c1,.slice A2 l2.length c2,.slice A3 l3.length c3,.slice A4 l4.length c4]] w fun e w'=>e = .returned (.int .i64 (checkE l0 l1 l2 l3 l4))∧Below w.heap.size w w':=by
 have HR0:=Sd.mk hr0;have HR1:=Sd.mk hr1;have HR2:=Sd.mk hr2;have HR3:=Sd.mk hr3;have HR4:=Sd.mk hr4;have HOK:=Sd.mk hok;clear hr0 hr1 hr2 hr3 hr4 hok;(have hmf:∀ (fn:Fn) (first cap:Array Value) (w:World),(Instr.makeFunc fn first cap).run Tryz.prog w = .ok (.func fn first cap) w:=fun _ _ _ _=>rfl);have HF:Sd (checkB l0 l1 l2 l3 l4=false → checkE l0 l1 l2 l3 l4=1):=⟨fun h=>by unfold checkE;rw [h];rfl⟩;have HT:Sd (checkB l0 l1 l2 l3 l4=true → checkE l0 l1 l2 l3 l4=0):=⟨fun h=>by unfold checkE;rw [h];rfl⟩;generalize hE:checkE l0 l1 l2 l3 l4=r at *;have HNAMES:Sd (∀ w',Below w.heap.size w w' → l0.length ≤ 100 → l1.length ≤ 100 → l2.length ≤ 100 → l4.length ≤ 100 → Calls Tryz.prog 89 #[.agg #[.slice A0 l0.length c0,.slice A1 l1.length c1,.slice A2 l2.length c2,.slice A3 l3.length c3,.slice A4 l4.length c4]] w' fun e w''=>∃ v,e = .returned v∧Kd.R Kd.string 9 w'' w'.heap.size (fun _=>True) v (namesL l0 l1 l2 l4)∧Below w'.heap.size w' w'') :=
  ⟨fun w' hw a0 a1 a2 a4=>names_call A0 c0 l0 A1 c1 l1 A2 c2 l2 _ A4 c4 l4 w' (Kd.C_below HR0.out hw) hc0 (Kd.C_below HR1.out hw) hc1 (Kd.C_below HR2.out hw) hc2 (Kd.C_below HR4.out hw) hc4 (by omega) (by omega) (by omega) (by omega)⟩
 have HLEAST:Sd (∀ w',Below w.heap.size w w' → l3.length ≤ 100 → Calls Tryz.prog 90 #[.agg #[.slice A0 l0.length c0,.slice A1 l1.length c1,.slice A2 l2.length c2,.slice A3 l3.length c3,.slice A4 l4.length c4]] w' fun e w''=>e = .returned (.bool (leastOk l3))∧Below w'.heap.size w' w'') :=
  ⟨fun w' hw a3=>least_call _ _ _ _ A3 c3 l3 w' (Kd.C_below HR3.out hw) hc3 (by omega) HOK.out.2.2⟩
 have HCL:Sd (∀ (g:Nat) (w':World),Below w.heap.size w w' → w'.heap[g]? = some (.cells #[.slice A0 l0.length c0,.slice A1 l1.length c1,.slice A2 l2.length c2,.slice A3 l3.length c3,.slice A4 l4.length c4] 26 (0,0)) → l0.length ≤ 100 → l1.length ≤ 100 → l3.length ≤ 100 → Calls Tryz.prog 91 #[.slice A3 l3.length c3,.func (.func 92) #[] #[.pointer (some ⟨g,0,none⟩)]] w' fun e w''=>e = .returned (.bool (l3.any (fun x=>!clB l0.length l1.length x)))∧Below w'.heap.size w' w'') :=
  ⟨fun g w' hw hb a0 a1 a3=>hasFClause1 _ _ enter_check1 _ A3 c3 l3 w' (Kd.C_below HR3.out hw) hc3 (by omega) (fun x _ v hv w2 hb2=>by
   cases hv
   exact check1_call g A0 c0 l0.length A1 c1 l1.length _ _ _ x w2 (blk_below hb hb2) (by omega) (by omega))⟩
 have HOP:Sd (∀ (g:Nat) (w':World),Below w.heap.size w w' → w'.heap[g]? = some (.cells #[.slice A0 l0.length c0,.slice A1 l1.length c1,.slice A2 l2.length c2,.slice A3 l3.length c3,.slice A4 l4.length c4] 26 (0,0)) → l0.length ≤ 100 → l1.length ≤ 100 → l2.length ≤ 100 → l4.length ≤ 100 → Calls Tryz.prog 94 #[.slice A4 l4.length c4,.func (.func 95) #[] #[.pointer (some ⟨g,0,none⟩)]] w' fun e w''=>e = .returned (.bool (l4.any (fun x=>!operOk l0.length l1.length l2.length x.f1)))∧Below w'.heap.size w' w'') :=
  ⟨fun g w' hw hb a0 a1 a2 a4=>hasFOper1 _ _ enter_check2 _ A4 c4 l4 w' (Kd.C_below HR4.out hw) hc4 (by omega) (fun x hx v hv w2 hb2=>by
   obtain ⟨A5,c5,rfl,k5,g5⟩:=hv
   have hw2:=below_step hw hb2
   exact check2_call g A0 c0 l0 A1 c1 l1 A2 c2 l2 A3 c3 l3 A4 c4 l4 x.f0 A5 c5 x.f1 w2 (blk_below hb hb2) (Kd.C_below HR0.out hw2) hc0 (Kd.C_below HR1.out hw2) hc1 (Kd.C_below HR2.out hw2) hc2 (Kd.C_below HR3.out hw2) hc3 (Kd.C_below HR4.out hw2) hc4 (Kd.C_below g5 hb2) k5 (by omega) (by omega) (by omega) (HOK.out.2.1 x hx).1 (HOK.out.2.1 x hx).2)⟩
 have HNMD:Sd (∀ (v:Value) (w':World) (b:Nat),Kd.R Kd.string 9 w' b (fun _=>True) v (namesL l0 l1 l2 l4) → (namesL l0 l1 l2 l4).length ≤ 100 → Calls Tryz.prog 88 #[v] w' fun e w''=>e = .returned (.bool (namedOk (namesL l0 l1 l2 l4)))∧Below w'.heap.size w' w'') :=
  ⟨fun v w' b hv a=>by
   obtain ⟨A,c,rfl,hlc,hC⟩:=Kd.R_reads hv
   exact named_call A c _ w' hC hlc (by omega) HOK.out.1⟩
 have HNL:Sd (l0.length ≤ 6 → l1.length ≤ 4 → l2.length ≤ 3 → l4.length ≤ 16 → (namesL l0 l1 l2 l4).length ≤ 100):=⟨fun a b c d=>by unfold namesL;simp;omega⟩;have HC:Sd (checkB l0 l1 l2 l3 l4=if 6 < l0.length then false else if 4 < l1.length then false else if 3 < l2.length then false else if 16 < l4.length then false else if 12 < l3.length then false else namedOk (namesL l0 l1 l2 l4) && (leastOk l3 && (!l3.any (fun x=>!clB l0.length l1.length x) && !l4.any (fun x=>!operOk l0.length l1.length l2.length x.f1)))):=⟨rfl⟩;clear hE HR0 HR1 HR2 HR3 HR4 HOK;generalize checkB l0 l1 l2 l3 l4=B at *;generalize namedOk (namesL l0 l1 l2 l4)=b1 at *;generalize leastOk l3=b2 at *;generalize l3.any (fun x=>!clB l0.length l1.length x)=b3 at *;generalize l4.any (fun x=>!operOk l0.length l1.length l2.length x.f1)=b4 at *;generalize namesL l0 l1 l2 l4=L at *;generalize l0.length=n0 at *;generalize l1.length=n1 at *;generalize l2.length=n2 at *;generalize l3.length=n3 at *;generalize l4.length=n4 at *;go_enter Tryz.func48,Tryz.ntmps48;go_upto_region 1 with (((with_reducible refine gate_dst (N:=1) rfl ?_);refine box_event ?hg (N:=1) ?hd (cs:=#[.slice A0 n0 c0,.slice A1 n1 c1,.slice A2 n2 c2,.slice A3 n3 c3,.slice A4 n4 c4]) (t:=26) ?hr ?_;(case hd=>rfl);(case hg=>rfl);(case hr=>first|(go_simp;done)|(go_simp;rfl));intro g hg w3 hbox hb;have HB:=Sd.mk hb;have BK:=Sd.mk hbox;have HG:=Sd.mk hg;clear hb hbox hg));obtain ⟨ha0,ha1,ha2,ha3,ha4⟩:=bc5 BK.out;by_cases d0:6 < n0
 ·have HQ:=Sd.mk (HF.out (by rw [HC.out,if_pos d0]));have e0:=dT d0;clear HF HT HC;go_wp2_with fail;go_ret;exact ⟨by rw [HQ.out];rfl,HB.out⟩
 have e0:=dF d0;by_cases d1:4 < n1
 ·have HQ:=Sd.mk (HF.out (by rw [HC.out,if_neg d0,if_pos d1]));have e1:=dT d1;clear HF HT HC;go_wp2_with fail;go_ret;exact ⟨by rw [HQ.out];rfl,HB.out⟩
 have e1:=dF d1;by_cases d2:3 < n2
 ·have HQ:=Sd.mk (HF.out (by rw [HC.out,if_neg d0,if_neg d1,if_pos d2]));have e2:=dT d2;clear HF HT HC;go_wp2_with fail;go_ret;exact ⟨by rw [HQ.out];rfl,HB.out⟩
 have e2:=dF d2;by_cases d4:16 < n4
 ·have HQ:=Sd.mk (HF.out (by rw [HC.out,if_neg d0,if_neg d1,if_neg d2,if_pos d4]));have e4:=dT d4;clear HF HT HC;go_wp2_with fail;go_ret;exact ⟨by rw [HQ.out];rfl,HB.out⟩
 have e4:=dF d4;by_cases d3:12 < n3
 ·have HQ:=Sd.mk (HF.out (by rw [HC.out,if_neg d0,if_neg d1,if_neg d2,if_neg d4,if_pos d3]));have e3:=dT d3;clear HF HT HC;go_wp2_with fail;go_ret;exact ⟨by rw [HQ.out];rfl,HB.out⟩
 have e3:=dF d3;have HC2:Sd (B=(b1 && (b2 && (!b3 && !b4)))):=⟨by rw [HC.out,if_neg d0,if_neg d1,if_neg d2,if_neg d4,if_neg d3]⟩;clear HC;go_wp2_with fail;refine (HNAMES.out _ HB.out (by omega) (by omega) (by omega) (by omega)).mono ?_;rintro e w4 ⟨v4,rfl,ho4,hb4⟩;have HO4:=Sd.mk ho4;have HB4:=Sd.mk (below_step HB.out hb4);have BK4:=Sd.mk (blk_below BK.out hb4);clear ho4 hb4 ha0 ha1 ha2 ha3 ha4;go_wp2_with fail;refine (HNMD.out v4 _ _ HO4.out (HNL.out (by omega) (by omega) (by omega) (by omega))).mono ?_;rintro e w5 ⟨rfl,hb5⟩;have HB5:=Sd.mk (below_step HB4.out hb5);have BK5:=Sd.mk (blk_below BK4.out hb5);clear hb5;obtain ⟨ha0,ha1,ha2,ha3,ha4⟩:=bc5 BK5.out;cases b1 with
 | false =>
  have HQ:=Sd.mk (HF.out (by rw [HC2.out];rfl));clear HF HT HC2;go_wp2_with fail;go_ret;exact ⟨by rw [HQ.out];rfl,HB5.out⟩
 | true =>
  go_wp2_with fail;refine (HLEAST.out _ HB5.out (by omega)).mono ?_;rintro e w6 ⟨rfl,hb6⟩;have HB6:=Sd.mk (below_step HB5.out hb6);have BK6:=Sd.mk (blk_below BK5.out hb6);clear hb6 ha0 ha1 ha2 ha3 ha4;obtain ⟨ha0,ha1,ha2,ha3,ha4⟩:=bc5 BK6.out;cases b2 with
  | false =>
   have HQ:=Sd.mk (HF.out (by rw [HC2.out];rfl));clear HF HT HC2;go_wp2_with fail;go_ret;exact ⟨by rw [HQ.out];rfl,HB6.out⟩
  | true =>
   go_wp2_with fail;refine (HCL.out g _ HB6.out BK6.out (by omega) (by omega) (by omega)).mono ?_;rintro e w7 ⟨rfl,hb7⟩;have HB7:=Sd.mk (below_step HB6.out hb7);have BK7:=Sd.mk (blk_below BK6.out hb7);clear hb7 ha0 ha1 ha2 ha3 ha4;obtain ⟨ha0,ha1,ha2,ha3,ha4⟩:=bc5 BK7.out;cases b3 with
   | true =>
    have HQ:=Sd.mk (HF.out (by rw [HC2.out];rfl));clear HF HT HC2;go_wp2_with fail;go_ret;exact ⟨by rw [HQ.out];rfl,HB7.out⟩
   | false =>
    go_wp2_with fail;refine (HOP.out g _ HB7.out BK7.out (by omega) (by omega) (by omega) (by omega)).mono ?_;rintro e w8 ⟨rfl,hb8⟩;have HB8:=Sd.mk (below_step HB7.out hb8);clear hb8;cases b4 with
    | true =>
     have HQ:=Sd.mk (HF.out (by rw [HC2.out];rfl));clear HF HT HC2;go_wp2_with fail;go_ret;exact ⟨by rw [HQ.out];rfl,HB8.out⟩
    | false =>
     have HQ:=Sd.mk (HT.out (by rw [HC2.out];rfl));clear HF HT HC2;go_wp2_with fail;go_ret;exact ⟨by rw [HQ.out];rfl,HB8.out⟩
instance (l0 l1 l2:List ByteArray) (l3:List Cl) (l4:List Op_):Decidable (RuOk l0 l1 l2 l3 l4):=by unfold RuOk;infer_instance
def sorts_Check.f (l0 l1 l2:List ByteArray) (l3:List Cl) (l4:List Op_):Option Int:=if RuOk l0 l1 l2 l3 l4 then some (checkE l0 l1 l2 l3 l4) else none
theorem sorts_Check.calls (A0:Option Addr) (c0:Nat) (l0:List ByteArray) (A1:Option Addr) (c1:Nat) (l1:List ByteArray) (A2:Option Addr) (c2:Nat) (l2:List ByteArray) (A3:Option Addr) (c3:Nat) (l3:List Cl) (A4:Option Addr) (c4:Nat) (l4:List Op_) (r:Int) (w:World)
  (hr0:Kd.C Kd.string w A0 l0.length l0) (hc0:l0.length ≤ c0) (hr1:Kd.C Kd.string w A1 l1.length l1) (hc1:l1.length ≤ c1) (hr2:Kd.C Kd.string w A2 l2.length l2) (hc2:l2.length ≤ c2) (hr3:Kd.C k85 w A3 l3.length l3) (hc3:l3.length ≤ c3) (hr4:Kd.C k89 w A4 l4.length l4) (hc4:l4.length ≤ c4)
  (h:sorts_Check.f l0 l1 l2 l3 l4=some r) :
  Calls Tryz.prog 48 #[.agg #[.slice A0 l0.length c0,.slice A1 l1.length c1,.slice A2 l2.length c2,.slice A3 l3.length c3,.slice A4 l4.length c4]] w fun e w'=>e = .returned (.int .i64 r)∧Below w.heap.size w w':=by
 unfold sorts_Check.f at h;split at h
 ·rename_i hok;cases h;exact check_call A0 c0 l0 A1 c1 l1 A2 c2 l2 A3 c3 l3 A4 c4 l4 w hr0 hc0 hr1 hc1 hr2 hc2 hr3 hc3 hr4 hc4 hok
 ·cases h
section
attribute [local go_sem] max2_int min2_int max_two min_two max_three min_three max_four min_four
def r16_in.f (a0:Int) (a1:Int):Option (Bool):=if a0 ≥ 0 then (some (decide (a0 < a1))) else (some false)
theorem r16_in.calls (a0:Int) (a1:Int) (r:Bool) (w:World) (h:r16_in.f a0 a1=some r) :
  Calls Tryz.prog 108 #[.int .i64 a0,.int .i64 a1] w fun e w'=>e = .returned (.bool r)∧Drawn0 w w':=by
 have H:=h;clear h;unfold r16_in.f at H;replace H:=iD H;rcases H with ⟨c3,c3b0,H⟩ | ⟨c3,c3b0,H⟩
 ·clear c3;obtain rfl:=sI H;go_enter Tryz.func108,Tryz.ntmps108;go_wp2;go_ret;exact ⟨by first|rfl|(simp;done)|(simp [*];done),tR⟩
 ·clear c3;obtain rfl:=sI H;go_enter Tryz.func108,Tryz.ntmps108;go_wp2;go_ret;exact ⟨by first|rfl|(simp;done)|(simp [*];done),tR⟩
end
theorem in_f (n m:Int):r16_in.f n m=some (wB n 0 (m - 1)):=by
 unfold r16_in.f wB;by_cases h:n ≥ 0
 ·rw [if_pos h,decide_eq_true (by omega:0 ≤ n),Bool.true_and];congr 2;apply propext;omega
 ·rw [if_neg h,decide_eq_false (by omega:¬ 0 ≤ n)];rfl
def r16_Clause.f (l0 l1 l2:List ByteArray) (l3:List Cl) (l4:List Op_) (a0:Int) (a1:Bool) (a2 a3 a4:Int):Option Bool:=some (clB l0.length l1.length ⟨a0,a1,a2,a3,a4⟩)
theorem r16_Clause.calls (A0_0:Option Addr) (c0_0:Nat) (l00:List ByteArray) (A0_1:Option Addr) (c0_1:Nat) (l01:List ByteArray) (A0_2:Option Addr) (c0_2:Nat) (l02:List ByteArray) (A0_3:Option Addr) (c0_3:Nat) (l03:List Cl) (A0_4:Option Addr) (c0_4:Nat) (l04:List Op_) (a0:Int) (a1:Bool) (a2 a3 a4:Int) (r:Bool) (w:World) (hr00:Kd.C Kd.string w A0_0 l00.length l00) (hc00:l00.length ≤ c0_0) (hr01:Kd.C Kd.string w A0_1 l01.length l01) (hc01:l01.length ≤ c0_1) (hr02:Kd.C Kd.string w A0_2 l02.length l02) (hc02:l02.length ≤ c0_2) (hr03:Kd.C k85 w A0_3 l03.length l03) (hc03:l03.length ≤ c0_3) (hr04:Kd.C k89 w A0_4 l04.length l04) (hc04:l04.length ≤ c0_4)
  (h:r16_Clause.f l00 l01 l02 l03 l04 a0 a1 a2 a3 a4=some r) :
  Calls Tryz.prog 62 #[.agg #[.slice A0_0 l00.length c0_0,.slice A0_1 l01.length c0_1,.slice A0_2 l02.length c0_2,.slice A0_3 l03.length c0_3,.slice A0_4 l04.length c0_4],.agg #[.int .i64 a0,.bool a1,.int .i64 a2,.int .i64 a3,.int .i64 a4]] w fun e w'=>e = .returned (.bool r)∧Below w.heap.size w w':=by
 obtain rfl:=Option.some.inj h;clear h hr00 hc00 hr01 hc01 hr02 hc02 hr03 hc03 hr04 hc04;have hu26:=Tryz.underlying26;have hu85:=Tryz.underlying85;have HB:=Sd.mk (Below.refl w.heap.size w);go_enter Tryz.func62,Tryz.ntmps62;go_wp2_with (first|((with_reducible refine gate_dst (N:=2) rfl ?_);refine uY 2 (cs:=#[.slice A0_0 l00.length c0_0,.slice A0_1 l01.length c0_1,.slice A0_2 l02.length c0_2,.slice A0_3 l03.length c0_3,.slice A0_4 l04.length c0_4]) (t:=26) fun g1 hg w4 BK1 hb GE1 HB=>?_;clear hb hg)|((with_reducible refine gate_dst (N:=3) rfl ?_);refine uY 3 (cs:=#[.int .i64 a0,.bool a1,.int .i64 a2,.int .i64 a3,.int .i64 a4]) (t:=85) fun g2 hg w5 BK2 hb GE2 HB=>?_;have N12:=uN hg BK1;have N21:=uM N12;replace BK1:=uK BK1 hb;clear hb hg;have M1:=nP N12;have M2:=nP N21;have Z1:=bd5 BK1;have Z2:=bd5 BK2)|(go_at_call 108;(with_reducible refine (r16_in.calls _ _ _ _ (in_f _ _)).mono ?_);rintro e w' ⟨rfl,⟨nd,rfl⟩⟩;(try exact tQ)));all_goals (repeat (go_quiet ((go_at_call 108;(with_reducible refine (r16_in.calls _ _ _ _ (in_f _ _)).mono ?_);rintro e w' ⟨rfl,⟨nd,rfl⟩⟩;(try exact tQ)));try go_wp2))
 all_goals go_ret
 all_goals (refine ⟨?_,uB⟩)
 all_goals go_tidy
 all_goals (clear Z1 Z2 M1 M2 HB N12 N21 GE1 GE2 BK1 BK2 hu26 hu85)
 all_goals (simp only [beq_iff_eq,beq_eq_false_iff_ne] at *)
 all_goals (unfold clB wB)
 all_goals (try subst a0)
 all_goals (simp_all [Int.le_sub_one_iff])
 all_goals omega
theorem Ev.succ {α:Type} {g:Nat → Option α} {r:α} (h:Ev (fun k=>g (k + 1)) r):Ev g r:=Ev.step (fun _=>rfl) h
theorem Ev.bind1 {α β:Type} {g:Option α} {f:Nat → α → Option β} {a:α} {r:β} (h:g=some a) (k:Ev (fun n=>f n a) r):Ev (fun n=>g.bind (f n)) r:=by
 subst h;exact k
theorem Ev.yes {α:Type} {c:Prop} [Decidable c] {g f:Nat → Option α} {r:α} (h:c) (k:Ev g r):Ev (fun n=>if c then g n else f n) r:=Ev.congr (fun _=>if_pos h) k
theorem Ev.no {α:Type} {c:Prop} [Decidable c] {g f:Nat → Option α} {r:α} (h:¬ c) (k:Ev f r):Ev (fun n=>if c then g n else f n) r:=Ev.congr (fun _=>if_neg h) k
theorem Ev.is {α:Type} {r r':α} (h:r=r'):Ev (fun _=>some r) r':=h ▸ Ev.now r
theorem wrap_up (i:Nat) (h:(i:Int) < 9223372036854775807):wrap64 ((i:Int) + 1)=((i + 1:Nat):Int):=by
 unfold wrap64;omega
theorem Ev.loop {α:Type} {g:Nat → Nat → Option α} {spec:Nat → α} (n:Nat) (stop:Ev (fun k=>g k n) (spec n))
  (step:∀ pos,pos < n → Ev (fun k=>g k (pos + 1)) (spec (pos + 1)) → Ev (fun k=>g k pos) (spec pos)) (pos:Nat) (h:pos ≤ n):Ev (fun k=>g k pos) (spec pos):=by
 obtain ⟨m,hm⟩:∃ m,pos + m=n:=⟨n - pos,by omega⟩;clear h;induction m generalizing pos with
 | zero =>
  (obtain rfl:pos=n:=by omega);exact stop
 | succ m ih=>exact step pos (by omega) (ih (pos + 1) (by omega))
theorem rdOf_at {α:Type} (z:α) (l:List α) (pos:Nat):rdOf z l (pos:Int)=l.getD pos z:=by simp [rdOf]
end Go.Proofs.YtjbjbeihkoeciaaGreat.X

/- Joined texts of this session, without what nothing needs: X0, LexA, LexB, LexC, LexD, LexE, LexF, LexG, LexH, LexRead, XslicesIndexstring, XslicesContainsstring, XparseKept, LexWord, PaK, PaP, Onto, PaA, PaB, PaC. -/
import Derived.Test.YtjbjbeihkoeciaaProg
import Derived.Below
import Derived.Deep.Draws
import Derived.Deep.AppendLies
import Derived.Maps.AppendAt
import Derived.OwnWalk
import Derived.Laws.BytesArg
import Derived.Laws.MakeOwn
import Derived.Laws.OwnMore
import Derived.Deep.OwnRows
import Derived.Tactics
import Derived.Lib.ConvBytes
import Derived.Laws.Slices
import Derived.WalkKit
import Derived.KernelRfl
import Derived.RowKit3
import Derived.Deep.LoopGhost
import Derived.Deep.QuietTactic
import Derived.BigQuiet
import Derived.WideLaws
import Derived.Deep.DeepCutAuto
import Derived.Deep.CutBlock
import Derived.Deep.RegionHeld3
import Derived.Laws.Rows
import Derived.Lib.AppendStr
import Derived.ArgAppend
import Derived.Laws.IdiomCopy
import Derived.OrdersHeld
import Derived.Laws.BitsLemmas
import Derived.RowKit
import Derived.BigCall
import Derived.Laws.RangeAny
import Derived.Lib.Hide
import Derived.Outline
import Derived.LoopTactic
import Derived.Laws.Strings
import Derived.Laws.Strings3
import Derived.Lib.OthersKept
import Derived.WalkLawsBesides
import Derived.Test.YtjbjbeihkoeciaaK1
namespace Go.Proofs.Ytjbjbeihkoeciaa.X
open Go.RowKit Go.Proofs.YtjbjbeihkoeciaaW.PrintWords Go.Proofs.YtjbjbeihkoeciaaW.PrintLast Go.Proofs.YtjbjbeihkoeciaaW.PrintMore
attribute [local go_sem] max2_int min2_int max_two min_two max_three min_three max_four min_four
set_option linter.unusedVariables false
set_option linter.unusedSimpArgs false
def errW:Option Int → Value
 | none=>.nilIface
 | some c=>.iface 0 (.int .i64 c)
theorem errW_none:errW none = .nilIface:=rfl
theorem errW_some (c:Int):errW (some c) = .iface 0 (.int .i64 c):=rfl
theorem info9:(Try.prog.info? 9).map (fun i=>(i.zero,i.size,i.bytes))=some (some (.string ⟨#[]⟩),1,16):=by kernel_rfl
theorem info166:(Try.prog.info? 166).map (fun i=>(i.zero,i.size,i.bytes))=some (some (.agg #[(.int .i64 0),(.string ⟨#[]⟩),(.int .i64 0),(.int .i64 0)]),4,40):=by kernel_rfl
theorem info171:(Try.prog.info? 171).map (fun i=>(i.zero,i.size,i.bytes))=some (some (.agg #[(.int .i64 0),(.bool false),(.string ⟨#[]⟩),(.string ⟨#[]⟩),(.int .i64 0),(.slice none 0 0),(.int .i64 0)]),7,88):=by kernel_rfl
structure S84 where
 f0:Int
 f1:Int
 f2:Int
def z84:S84:=⟨(0:Int),(0:Int),(0:Int)⟩
def k84:Kd S84:=Kd.iso (Kd.pair (Kd.int .i64) (Kd.pair (Kd.int .i64) (Kd.int .i64))) (fun x:S84=>(x.f0,x.f1,x.f2))
theorem k84_open {w:World} {x:S84} {cs:List Value} (h:k84.K w x cs):cs = [.int .i64 x.f0,.int .i64 x.f1,.int .i64 x.f2]:=by
 obtain ⟨_,_,rfl,rfl,⟨_,_,rfl,rfl,rfl⟩⟩:=h;exact rfl
theorem k84_mk (w:World) (x:S84)  : k84.K w x [.int .i64 x.f0,.int .i64 x.f1,.int .i64 x.f2]:=⟨[.int .i64 x.f0],[.int .i64 x.f1,.int .i64 x.f2],rfl,rfl,⟨[.int .i64 x.f1],[.int .i64 x.f2],rfl,rfl,rfl⟩⟩
def rd_T84 (xs:List S84) (i:Int):S84:=xs.getD i.toNat z84
theorem at_T84 {w:World} {A:Option Addr} {n:Nat} {xs:List S84} (h:Kd.C k84 w A n xs) (i:Int) (h0:0 ≤ i) (h1:i < n):∃ ad ,A=some ad∧w.cell? (ad.add (i.toNat * 3))=some (.int .i64 (rd_T84 xs i).f0)∧w.cell? ⟨(ad.add (i.toNat * 3)).block,(ad.add (i.toNat * 3)).off + 1,none⟩=some (.int .i64 (rd_T84 xs i).f1)∧w.cell? ⟨(ad.add (i.toNat * 3)).block,(ad.add (i.toNat * 3)).off + 2,none⟩=some (.int .i64 (rd_T84 xs i).f2):=by
 obtain ⟨ad,c,e,_,hK,hc0⟩:=Kd.C_get h z84 i h0 h1;have hc:∀ j u,c[j]? = some u → w.cell? (ad.add (i.toNat * 3 + j))=some u:=hc0;obtain rfl:=k84_open hK;exact ⟨ad,e,hc 0 _ rfl,by rw [← add_field _ _ 1 (by omega)];exact hc 1 _ rfl,by rw [← add_field _ _ 2 (by omega)];exact hc 2 _ rfl⟩
structure S66 where
 f0:ByteArray
 f1:(List S84)
def z66:S66:=⟨(⟨#[]⟩:ByteArray),([]:List S84)⟩
def k66:Kd S66:=Kd.iso (Kd.pair Kd.string (Kd.slice 84 k84)) (fun x:S66=>(x.f0,x.f1))
theorem k66_open {w:World} {x:S66} {cs:List Value} (h:k66.K w x cs):∃ A1 c1,cs = [.string x.f0,.slice A1 x.f1.length c1]∧x.f1.length ≤ c1∧k84.C w A1 x.f1.length x.f1:=by
 obtain ⟨_,_,rfl,rfl,⟨A1,c1,rfl,l1,g1⟩⟩:=h;exact ⟨A1,c1,rfl,l1,g1⟩
theorem k66_mk (w:World) (x:S66) {A1:Option Addr} {c1:Nat} (l1:x.f1.length ≤ c1) (g1:k84.C w A1 x.f1.length x.f1):k66.K w x [.string x.f0,.slice A1 x.f1.length c1]:=⟨[.string x.f0],[.slice A1 x.f1.length c1],rfl,rfl,⟨A1,c1,rfl,l1,g1⟩⟩
def rd_T66 (xs:List S66) (i:Int):S66:=xs.getD i.toNat z66
theorem at_T66 {w:World} {A:Option Addr} {n:Nat} {xs:List S66} (h:Kd.C k66 w A n xs) (i:Int) (h0:0 ≤ i) (h1:i < n):∃ ad A1 c1,A=some ad∧w.cell? (ad.add (i.toNat * 2))=some (.string (rd_T66 xs i).f0)∧w.cell? ⟨(ad.add (i.toNat * 2)).block,(ad.add (i.toNat * 2)).off + 1,none⟩=some (.slice A1 (rd_T66 xs i).f1.length c1)∧(rd_T66 xs i).f1.length ≤ c1∧k84.C w A1 (rd_T66 xs i).f1.length (rd_T66 xs i).f1:=by
 obtain ⟨ad,c,e,_,hK,hc0⟩:=Kd.C_get h z66 i h0 h1;have hc:∀ j u,c[j]? = some u → w.cell? (ad.add (i.toNat * 2 + j))=some u:=hc0;obtain ⟨A1,c1,rfl,l1,g1⟩:=k66_open hK;exact ⟨ad,A1,c1,e,hc 0 _ rfl,by rw [← add_field _ _ 1 (by omega)];exact hc 1 _ rfl,l1,g1⟩
structure S70 where
 f0:Int
 f1:Bool
 f2:Int
 f3:Int
 f4:Int
def z70:S70:=⟨(0:Int),false,(0:Int),(0:Int),(0:Int)⟩
def k70:Kd S70:=Kd.iso (Kd.pair (Kd.int .i64) (Kd.pair Kd.bool (Kd.pair (Kd.int .i64) (Kd.pair (Kd.int .i64) (Kd.int .i64))))) (fun x:S70=>(x.f0,x.f1,x.f2,x.f3,x.f4))
theorem k70_open {w:World} {x:S70} {cs:List Value} (h:k70.K w x cs):cs = [.int .i64 x.f0,.bool x.f1,.int .i64 x.f2,.int .i64 x.f3,.int .i64 x.f4]:=by
 obtain ⟨_,_,rfl,rfl,⟨_,_,rfl,rfl,⟨_,_,rfl,rfl,⟨_,_,rfl,rfl,rfl⟩⟩⟩⟩:=h;exact rfl
theorem k70_mk (w:World) (x:S70)  : k70.K w x [.int .i64 x.f0,.bool x.f1,.int .i64 x.f2,.int .i64 x.f3,.int .i64 x.f4]:=⟨[.int .i64 x.f0],[.bool x.f1,.int .i64 x.f2,.int .i64 x.f3,.int .i64 x.f4],rfl,rfl,⟨[.bool x.f1],[.int .i64 x.f2,.int .i64 x.f3,.int .i64 x.f4],rfl,rfl,⟨[.int .i64 x.f2],[.int .i64 x.f3,.int .i64 x.f4],rfl,rfl,⟨[.int .i64 x.f3],[.int .i64 x.f4],rfl,rfl,rfl⟩⟩⟩⟩
theorem k70_mkM (w:World) (base:Nat) (ok:Nat → Prop) (x:S70)  : k70.M w base ok x [.int .i64 x.f0,.bool x.f1,.int .i64 x.f2,.int .i64 x.f3,.int .i64 x.f4]:=⟨[.int .i64 x.f0],[.bool x.f1,.int .i64 x.f2,.int .i64 x.f3,.int .i64 x.f4],rfl,rfl,⟨[.bool x.f1],[.int .i64 x.f2,.int .i64 x.f3,.int .i64 x.f4],rfl,rfl,⟨[.int .i64 x.f2],[.int .i64 x.f3,.int .i64 x.f4],rfl,rfl,⟨[.int .i64 x.f3],[.int .i64 x.f4],rfl,rfl,rfl⟩⟩⟩⟩
def rd_T70 (xs:List S70) (i:Int):S70:=xs.getD i.toNat z70
theorem at_T70 {w:World} {A:Option Addr} {n:Nat} {xs:List S70} (h:Kd.C k70 w A n xs) (i:Int) (h0:0 ≤ i) (h1:i < n):∃ ad ,A=some ad∧w.cell? (ad.add (i.toNat * 5))=some (.int .i64 (rd_T70 xs i).f0)∧w.cell? ⟨(ad.add (i.toNat * 5)).block,(ad.add (i.toNat * 5)).off + 1,none⟩=some (.bool (rd_T70 xs i).f1)∧w.cell? ⟨(ad.add (i.toNat * 5)).block,(ad.add (i.toNat * 5)).off + 2,none⟩=some (.int .i64 (rd_T70 xs i).f2)∧w.cell? ⟨(ad.add (i.toNat * 5)).block,(ad.add (i.toNat * 5)).off + 3,none⟩=some (.int .i64 (rd_T70 xs i).f3)∧w.cell? ⟨(ad.add (i.toNat * 5)).block,(ad.add (i.toNat * 5)).off + 4,none⟩=some (.int .i64 (rd_T70 xs i).f4):=by
 obtain ⟨ad,c,e,_,hK,hc0⟩:=Kd.C_get h z70 i h0 h1;have hc:∀ j u,c[j]? = some u → w.cell? (ad.add (i.toNat * 5 + j))=some u:=hc0;obtain rfl:=k70_open hK;exact ⟨ad,e,hc 0 _ rfl,by rw [← add_field _ _ 1 (by omega)];exact hc 1 _ rfl,by rw [← add_field _ _ 2 (by omega)];exact hc 2 _ rfl,by rw [← add_field _ _ 3 (by omega)];exact hc 3 _ rfl,by rw [← add_field _ _ 4 (by omega)];exact hc 4 _ rfl⟩
structure S26 where
 f0:(List ByteArray)
 f1:(List ByteArray)
 f2:(List ByteArray)
 f3:(List S70)
 f4:(List S66)
structure S166 where
 f0:Int
 f1:ByteArray
 f2:Int
 f3:Int
def z166:S166:=⟨(0:Int),(⟨#[]⟩:ByteArray),(0:Int),(0:Int)⟩
def k166:Kd S166:=Kd.iso (Kd.pair (Kd.int .i64) (Kd.pair Kd.string (Kd.pair (Kd.int .i64) (Kd.int .i64)))) (fun x:S166=>(x.f0,x.f1,x.f2,x.f3))
theorem k166_open {w:World} {x:S166} {cs:List Value} (h:k166.K w x cs):cs = [.int .i64 x.f0,.string x.f1,.int .i64 x.f2,.int .i64 x.f3]:=by
 obtain ⟨_,_,rfl,rfl,⟨_,_,rfl,rfl,⟨_,_,rfl,rfl,rfl⟩⟩⟩:=h;exact rfl
theorem k166_mk (w:World) (x:S166)  : k166.K w x [.int .i64 x.f0,.string x.f1,.int .i64 x.f2,.int .i64 x.f3]:=⟨[.int .i64 x.f0],[.string x.f1,.int .i64 x.f2,.int .i64 x.f3],rfl,rfl,⟨[.string x.f1],[.int .i64 x.f2,.int .i64 x.f3],rfl,rfl,⟨[.int .i64 x.f2],[.int .i64 x.f3],rfl,rfl,rfl⟩⟩⟩
theorem k166_mkM (w:World) (base:Nat) (ok:Nat → Prop) (x:S166)  : k166.M w base ok x [.int .i64 x.f0,.string x.f1,.int .i64 x.f2,.int .i64 x.f3]:=⟨[.int .i64 x.f0],[.string x.f1,.int .i64 x.f2,.int .i64 x.f3],rfl,rfl,⟨[.string x.f1],[.int .i64 x.f2,.int .i64 x.f3],rfl,rfl,⟨[.int .i64 x.f2],[.int .i64 x.f3],rfl,rfl,rfl⟩⟩⟩
def rd_T166 (xs:List S166) (i:Int):S166:=xs.getD i.toNat z166
theorem at_T166 {w:World} {A:Option Addr} {n:Nat} {xs:List S166} (h:Kd.C k166 w A n xs) (i:Int) (h0:0 ≤ i) (h1:i < n):∃ ad ,A=some ad∧w.cell? (ad.add (i.toNat * 4))=some (.int .i64 (rd_T166 xs i).f0)∧w.cell? ⟨(ad.add (i.toNat * 4)).block,(ad.add (i.toNat * 4)).off + 1,none⟩=some (.string (rd_T166 xs i).f1)∧w.cell? ⟨(ad.add (i.toNat * 4)).block,(ad.add (i.toNat * 4)).off + 2,none⟩=some (.int .i64 (rd_T166 xs i).f2)∧w.cell? ⟨(ad.add (i.toNat * 4)).block,(ad.add (i.toNat * 4)).off + 3,none⟩=some (.int .i64 (rd_T166 xs i).f3):=by
 obtain ⟨ad,c,e,_,hK,hc0⟩:=Kd.C_get h z166 i h0 h1;have hc:∀ j u,c[j]? = some u → w.cell? (ad.add (i.toNat * 4 + j))=some u:=hc0;obtain rfl:=k166_open hK;exact ⟨ad,e,hc 0 _ rfl,by rw [← add_field _ _ 1 (by omega)];exact hc 1 _ rfl,by rw [← add_field _ _ 2 (by omega)];exact hc 2 _ rfl,by rw [← add_field _ _ 3 (by omega)];exact hc 3 _ rfl⟩
structure S201 where
 f0:Int
 f1:ByteArray
 f2:Int
def k201:Kd S201:=Kd.iso (Kd.pair (Kd.int .i64) (Kd.pair Kd.string (Kd.int .i64))) (fun x:S201=>(x.f0,x.f1,x.f2))
theorem k201_mkM (w:World) (base:Nat) (ok:Nat → Prop) (x:S201)  : k201.M w base ok x [.int .i64 x.f0,.string x.f1,.int .i64 x.f2]:=⟨[.int .i64 x.f0],[.string x.f1,.int .i64 x.f2],rfl,rfl,⟨[.string x.f1],[.int .i64 x.f2],rfl,rfl,rfl⟩⟩
structure S171 where
 f0:Int
 f1:Bool
 f2:ByteArray
 f3:ByteArray
 f4:Int
 f5:(List S201)
 f6:Int
def z171:S171:=⟨(0:Int),false,(⟨#[]⟩:ByteArray),(⟨#[]⟩:ByteArray),(0:Int),([]:List S201),(0:Int)⟩
def k171:Kd S171:=Kd.iso (Kd.pair (Kd.int .i64) (Kd.pair Kd.bool (Kd.pair Kd.string (Kd.pair Kd.string (Kd.pair (Kd.int .i64) (Kd.pair (Kd.slice 201 k201) (Kd.int .i64))))))) (fun x:S171=>(x.f0,x.f1,x.f2,x.f3,x.f4,x.f5,x.f6))
theorem k171_open {w:World} {x:S171} {cs:List Value} (h:k171.K w x cs):∃ A5 c5,cs = [.int .i64 x.f0,.bool x.f1,.string x.f2,.string x.f3,.int .i64 x.f4,.slice A5 x.f5.length c5,.int .i64 x.f6]∧x.f5.length ≤ c5∧k201.C w A5 x.f5.length x.f5:=by
 obtain ⟨_,_,rfl,rfl,⟨_,_,rfl,rfl,⟨_,_,rfl,rfl,⟨_,_,rfl,rfl,⟨_,_,rfl,rfl,⟨_,_,rfl,⟨A5,c5,rfl,l5,g5⟩,rfl⟩⟩⟩⟩⟩⟩:=h;exact ⟨A5,c5,rfl,l5,g5⟩
theorem k171_mkM (w:World) (base:Nat) (ok:Nat → Prop) (x:S171) {v5:Value} (g5:k201.R 201 w base ok v5 x.f5):k171.M w base ok x [.int .i64 x.f0,.bool x.f1,.string x.f2,.string x.f3,.int .i64 x.f4,v5,.int .i64 x.f6]:=⟨[.int .i64 x.f0],[.bool x.f1,.string x.f2,.string x.f3,.int .i64 x.f4,v5,.int .i64 x.f6],rfl,rfl,⟨[.bool x.f1],[.string x.f2,.string x.f3,.int .i64 x.f4,v5,.int .i64 x.f6],rfl,rfl,⟨[.string x.f2],[.string x.f3,.int .i64 x.f4,v5,.int .i64 x.f6],rfl,rfl,⟨[.string x.f3],[.int .i64 x.f4,v5,.int .i64 x.f6],rfl,rfl,⟨[.int .i64 x.f4],[v5,.int .i64 x.f6],rfl,rfl,⟨[v5],[.int .i64 x.f6],rfl,⟨v5,rfl,g5⟩,rfl⟩⟩⟩⟩⟩⟩
def rd_T171 (xs:List S171) (i:Int):S171:=xs.getD i.toNat z171
theorem at_T171 {w:World} {A:Option Addr} {n:Nat} {xs:List S171} (h:Kd.C k171 w A n xs) (i:Int) (h0:0 ≤ i) (h1:i < n):∃ ad A5 c5,A=some ad∧w.cell? (ad.add (i.toNat * 7))=some (.int .i64 (rd_T171 xs i).f0)∧w.cell? ⟨(ad.add (i.toNat * 7)).block,(ad.add (i.toNat * 7)).off + 1,none⟩=some (.bool (rd_T171 xs i).f1)∧w.cell? ⟨(ad.add (i.toNat * 7)).block,(ad.add (i.toNat * 7)).off + 2,none⟩=some (.string (rd_T171 xs i).f2)∧w.cell? ⟨(ad.add (i.toNat * 7)).block,(ad.add (i.toNat * 7)).off + 3,none⟩=some (.string (rd_T171 xs i).f3)∧w.cell? ⟨(ad.add (i.toNat * 7)).block,(ad.add (i.toNat * 7)).off + 4,none⟩=some (.int .i64 (rd_T171 xs i).f4)∧w.cell? ⟨(ad.add (i.toNat * 7)).block,(ad.add (i.toNat * 7)).off + 5,none⟩=some (.slice A5 (rd_T171 xs i).f5.length c5)∧w.cell? ⟨(ad.add (i.toNat * 7)).block,(ad.add (i.toNat * 7)).off + 6,none⟩=some (.int .i64 (rd_T171 xs i).f6)∧(rd_T171 xs i).f5.length ≤ c5∧k201.C w A5 (rd_T171 xs i).f5.length (rd_T171 xs i).f5:=by
 obtain ⟨ad,c,e,_,hK,hc0⟩:=Kd.C_get h z171 i h0 h1;have hc:∀ j u,c[j]? = some u → w.cell? (ad.add (i.toNat * 7 + j))=some u:=hc0;obtain ⟨A5,c5,rfl,l5,g5⟩:=k171_open hK;exact ⟨ad,A5,c5,e,hc 0 _ rfl,by rw [← add_field _ _ 1 (by omega)];exact hc 1 _ rfl,by rw [← add_field _ _ 2 (by omega)];exact hc 2 _ rfl,by rw [← add_field _ _ 3 (by omega)];exact hc 3 _ rfl,by rw [← add_field _ _ 4 (by omega)];exact hc 4 _ rfl,by rw [← add_field _ _ 5 (by omega)];exact hc 5 _ rfl,by rw [← add_field _ _ 6 (by omega)];exact hc 6 _ rfl,l5,g5⟩
end Go.Proofs.Ytjbjbeihkoeciaa.X
namespace Go.Proofs.Ytjbjbeihkoeciaa.X
open Go.RowKit
def letB (c:Int):Bool:=decide (97 ≤ c∧c ≤ 122)
def digB (c:Int):Bool:=decide (48 ≤ c∧c ≤ 57)
theorem letB_t {c:Int} (h1:97 ≤ c) (h2:c ≤ 122):letB c=true:=by unfold letB;simp;omega
theorem letB_f {c:Int} (h:¬ (97 ≤ c∧c ≤ 122)):letB c=false:=by unfold letB;simp at *;omega
theorem digB_t {c:Int} (h1:48 ≤ c) (h2:c ≤ 57):digB c=true:=by unfold digB;simp;omega
theorem digB_f {c:Int} (h:¬ (48 ≤ c∧c ≤ 57)):digB c=false:=by unfold digB;simp at *;omega
theorem ret_bool {a b:Bool} (h:a=b):Ending.returned (.bool a) = .returned (.bool b):=by rw [h]
theorem letter_any (c:Int) (w:World):Calls Try.prog 148 #[.int .i32 c] w fun e w'=>e = .returned (.bool (letB c))∧w=w':=by
 by_cases h1:97 ≤ c
 ·by_cases h2:c ≤ 122
  ·have H:=Lib.hid (letB_t h1 h2);go_enter Try.func148,Try.ntmps148;go_wp2;go_ret;exact ⟨ret_bool H.out.symm,rfl⟩
  ·have H:=Lib.hid (letB_f (c:=c) (by omega));go_enter Try.func148,Try.ntmps148;go_wp2;go_ret;exact ⟨ret_bool H.out.symm,rfl⟩
 ·have H:=Lib.hid (letB_f (c:=c) (by omega));go_enter Try.func148,Try.ntmps148;go_wp2;go_ret;exact ⟨ret_bool H.out.symm,rfl⟩
theorem digit_any (c:Int) (w:World):Calls Try.prog 149 #[.int .i32 c] w fun e w'=>e = .returned (.bool (digB c))∧w=w':=by
 by_cases h1:48 ≤ c
 ·by_cases h2:c ≤ 57
  ·have H:=Lib.hid (digB_t h1 h2);go_enter Try.func149,Try.ntmps149;go_wp2;go_ret;exact ⟨ret_bool H.out.symm,rfl⟩
  ·have H:=Lib.hid (digB_f (c:=c) (by omega));go_enter Try.func149,Try.ntmps149;go_wp2;go_ret;exact ⟨ret_bool H.out.symm,rfl⟩
 ·have H:=Lib.hid (digB_f (c:=c) (by omega));go_enter Try.func149,Try.ntmps149;go_wp2;go_ret;exact ⟨ret_bool H.out.symm,rfl⟩
end Go.Proofs.Ytjbjbeihkoeciaa.X
namespace Go.Proofs.Ytjbjbeihkoeciaa.X
open Go.RowKit
def byt (s:ByteArray) (i:Nat):Int:=if h:i < s.size then ((s[i]'h).toNat:Int) else 0
def wchar (s:ByteArray) (i:Nat):Bool:=letB (byt s i) || (decide (0 < i) && digB (byt s i))
def wordFrom (s:ByteArray):Nat → Nat → Bool
 | 0,_=>true
 | b + 1,pos=>if pos < s.size then wchar s pos && wordFrom s b (pos + 1) else true
def wordB (s:ByteArray):Bool:=decide (1 ≤ s.size∧s.size ≤ 16) && wordFrom s s.size 0
theorem wordFrom_end (s:ByteArray) (b pos:Nat) (h:¬ pos < s.size):wordFrom s b pos=true:=by
 cases b with
 | zero=>rfl
 | succ b=>simp [wordFrom,h]
theorem rune_byte (s:ByteArray) (pos:Nat) (h:pos < s.size):(byt s pos < 128∧((Utf8.decode s pos).1:Int)=byt s pos∧(Utf8.decode s pos).2=1) ∨ (128 ≤ byt s pos∧128 ≤ ((Utf8.decode s pos).1:Int)∧1 ≤ (Utf8.decode s pos).2):=by
 unfold byt;rw [dif_pos h];by_cases ha:(s[pos]'h).toNat < 128
 ·rw [decode_ascii s pos h ha];exact .inl ⟨by omega,rfl,rfl⟩
 ·have:=decode_high s pos h (by omega);exact .inr ⟨by omega,by omega,this.2⟩
theorem toList_len (s:ByteArray):s.toList.length=s.size:=by
 rw [ByteArray.toList_eq];rfl
set_option maxRecDepth 1000000 in
set_option maxHeartbeats 4000000 in
theorem word_any (s:ByteArray) (w:World) :
  Calls Try.prog 121 #[.string s] w fun e w'=>e = .returned (.bool (wordB s))∧Below w.heap.size w w':=by
 by_cases h0:s.toList.isEmpty=true
 ·have hb:wordB s=false:=by
   (have:s.toList = []:=by simpa using h0);have h2:=toList_len s;rw [this] at h2;unfold wordB;(have h3:¬ (1 ≤ s.size∧s.size ≤ 16):=by simp at h2;omega);simp [h3]
  have H:=Lib.hid hb;go_enter Try.func121,Try.ntmps121;go_wp2;go_ret;exact ⟨ret_bool H.out.symm,Below.refl _ _⟩
 (have h0':s.toList.isEmpty=false:=by simpa using h0);have h2:1 ≤ s.size:=by
  have h2:=toList_len s;rcases Nat.eq_zero_or_pos s.size with h|h
  ·rw [h] at h2;have:s.toList = []:=List.eq_nil_of_length_eq_zero h2;rw [this] at h0;exact absurd rfl h0
  ·exact h
 clear h0;by_cases h1:s.size ≤ 16
 ·(have h1':decide (16 < (s.size:Int))=false:=by simp;omega);go_enter Try.func121,Try.ntmps121;go_wp2;go_loopw [] (fun w'=>∃ (pos b:Nat),w' = w.iter s pos∧wordFrom s b pos=wordFrom s s.size 0∧s.size ≤ pos + b) (fun w'=>s.size - w'.iterPos w.heap.size)
  case atStart=>exact ⟨0,s.size,rfl,rfl,by omega⟩
  case round =>
   obtain ⟨pos,b,rfl,hc,hb⟩:=hrel;have HC:=Lib.hid hc;clear hc;by_cases hp:pos < s.size
   ·(have hnx:∀ ty,(Instr.next (.pointer (some ⟨w.heap.size,0,none⟩)) true ty).run Try.prog (w.iter s pos)=_:=fun ty=>run_next_any w s pos ty hp);have hr:=rune_byte s pos hp;(have hround:∀ (K:Prop),letB ((Utf8.decode s pos).1:Int)=letB (byt s pos) → digB ((Utf8.decode s pos).1:Int)=digB (byt s pos) → K → K:=fun _ _ _ h=>h);have hlb:letB ((Utf8.decode s pos).1:Int)=letB (byt s pos):=by
     rcases hr with ⟨_,h,_⟩ | ⟨h,h',_⟩
     ·rw [h]
     ·rw [letB_f (by omega),letB_f (by omega)]
    have hdb:digB ((Utf8.decode s pos).1:Int)=digB (byt s pos):=by
     rcases hr with ⟨_,h,_⟩ | ⟨h,h',_⟩
     ·rw [h]
     ·rw [digB_f (by omega),digB_f (by omega)]
    have hwd:wchar s pos=true → (Utf8.decode s pos).2=1:=by
     intro hw;rcases hr with ⟨_,_,h⟩ | ⟨h,_,_⟩
     ·exact h
     ·unfold wchar at hw;rw [letB_f (by omega),digB_f (by omega)] at hw;simp at hw
    have HW:=Lib.hid hwd;clear hwd hr hround;by_cases hl:letB ((Utf8.decode s pos).1:Int)=true
    ·have HL:=Lib.hid hlb;have HD:=Lib.hid hdb;clear hlb hdb;go_wp2_with (go_at_call 148;refine (letter_any _ _).mono ?_;rintro e w' ⟨rfl,rfl⟩);(have hwc:wchar s pos=true:=by unfold wchar;rw [← HL.out,hl];rfl);have hwd:=HW.out hwc;go_roundw
     case rel =>
      cases b with
      | zero=>omega
      | succ b =>
       refine ⟨pos + (Utf8.decode s pos).2,b,rfl,?_,by omega⟩;rw [← HC.out];simp [wordFrom,hp,hwc,hwd]
     case measure =>
      simp;omega
    ·(have hl':letB ((Utf8.decode s pos).1:Int)=false:=by simpa using hl);clear hl;have HL:=Lib.hid hlb;have HD:=Lib.hid hdb;clear hlb hdb;have hno:wchar s pos=false → wordB s=false:=by
      intro hw;unfold wordB;rw [← HC.out];cases b with
      | zero=>omega
      | succ b=>simp [wordFrom,hp,hw]
     have HN:=Lib.hid hno;clear hno;by_cases hz:pos=0
     ·have HZ:=Lib.hid hz;have hz1:((pos:Int) == 0)=true:=beq_iff_eq.2 (by omega);clear hz;go_wp2_with (go_at_call 148;refine (letter_any _ _).mono ?_;rintro e w' ⟨rfl,rfl⟩);go_ret;(have hwc:wchar s pos=false:=by unfold wchar;rw [← HL.out,hl',HZ.out];rfl);exact ⟨ret_bool (HN.out hwc).symm,(Below.refl _ _).alloc (Nat.le_refl _) _⟩
     ·have hz1:((pos:Int) == 0)=false:=beq_eq_false_iff_ne.2 (by omega);by_cases hd:digB ((Utf8.decode s pos).1:Int)=true
      ·go_wp2_with (first|(go_at_call 148;refine (letter_any _ _).mono ?_;rintro e w' ⟨rfl,rfl⟩)|(go_at_call 149;refine (digit_any _ _).mono ?_;rintro e w' ⟨rfl,rfl⟩));(have hwc:wchar s pos=true:=by unfold wchar;rw [← HD.out,hd];simp;omega);have hwd:=HW.out hwc;go_roundw
       case rel =>
        cases b with
        | zero=>omega
        | succ b =>
         refine ⟨pos + (Utf8.decode s pos).2,b,rfl,?_,by omega⟩;rw [← HC.out];simp [wordFrom,hp,hwc,hwd]
       case measure =>
        simp;omega
      ·(have hd':digB ((Utf8.decode s pos).1:Int)=false:=by simpa using hd);clear hd;go_wp2_with (first|(go_at_call 148;refine (letter_any _ _).mono ?_;rintro e w' ⟨rfl,rfl⟩)|(go_at_call 149;refine (digit_any _ _).mono ?_;rintro e w' ⟨rfl,rfl⟩));go_ret;(have hwc:wchar s pos=false:=by unfold wchar;rw [← HL.out,← HD.out,hl',hd'];simp);exact ⟨ret_bool (HN.out hwc).symm,(Below.refl _ _).alloc (Nat.le_refl _) _⟩
   ·(have hnx:∀ ty,(Instr.next (.pointer (some ⟨w.heap.size,0,none⟩)) true ty).run Try.prog (w.iter s pos)=_:=fun ty=>run_next_end w s pos ty hp);have hfin:wordB s=true:=by
     unfold wordB;rw [← HC.out,wordFrom_end s b pos hp];simp;omega
    have HF:=Lib.hid hfin;clear hfin;go_wp2;go_ret;exact ⟨ret_bool HF.out.symm,(Below.refl _ _).alloc (Nat.le_refl _) _⟩
 ·(have h1':decide (16 < (s.size:Int))=true:=by simp;omega);have hb:wordB s=false:=by
   unfold wordB;(have h3:¬ (1 ≤ s.size∧s.size ≤ 16):=by omega);simp [h3]
  have H:=Lib.hid hb;go_enter Try.func121,Try.ntmps121;go_wp2;go_ret;exact ⟨ret_bool H.out.symm,Below.refl _ _⟩
end Go.Proofs.Ytjbjbeihkoeciaa.X
namespace Go.Proofs.Ytjbjbeihkoeciaa.X
open Go.RowKit
def lowB (s:ByteArray):Bool:=decide (0 < s.size) && decide (byt s 0=45)
def numD (s:ByteArray):ByteArray:=if lowB s then s.extract 1 s.size else s
def digsFrom (d:ByteArray):Nat → Nat → Int → Option Int
 | 0,_,acc=>some acc
 | b + 1,pos,acc=>if pos < d.size then (if digB (byt d pos) then digsFrom d b (pos + 1) (10 * acc + (byt d pos - 48)) else none) else some acc
def numBad (s:ByteArray):Bool:=decide ((numD s).size=0 ∨ 4 < (numD s).size) || (decide (byt (numD s) 0=48) && (decide (1 < (numD s).size) || lowB s))
def numO (s:ByteArray):Option Int:=if numBad s then none else (digsFrom (numD s) (numD s).size 0 0).map fun n=>if lowB s then -n else n
def numV (s:ByteArray):Int:=(numO s).getD 0
theorem isEmpty_of (s:ByteArray):s.toList.isEmpty=decide (s.size=0):=by
 have h2:=toList_len s;by_cases h:s.size=0
 ·rw [h] at h2;rw [List.eq_nil_of_length_eq_zero h2];simp [h]
 ·have h3:s.toList ≠ []:=by
   intro h3;rw [h3] at h2;simp at h2;omega
  (have h4:s.toList.isEmpty=false:=by simpa using h3);rw [h4];simp [h]
theorem byt_get (s:ByteArray) (i:Nat) (h:i < s.size):byt s i=((s[i]'h).toNat:Int):=by unfold byt;rw [dif_pos h]
theorem low_empty (s:ByteArray) (h:s.size=0):lowB s=false:=by unfold lowB;simp [h]
theorem low_yes (s:ByteArray) (h:0 < s.size) (h45:(s[0]'h).toNat=45):lowB s=true:=by unfold lowB;rw [byt_get s 0 h,h45];simp [h]
theorem low_no (s:ByteArray) (h:0 < s.size) (h45:¬ (s[0]'h).toNat=45):lowB s=false:=by unfold lowB;rw [byt_get s 0 h];simp;omega
theorem isEmpty_t (s:ByteArray) (h:s.size=0):s.toList.isEmpty=true:=by rw [isEmpty_of];simp [h]
theorem isEmpty_f (s:ByteArray) (h:0 < s.size):s.toList.isEmpty=false:=by rw [isEmpty_of];exact decide_eq_false (by omega)
theorem numD_t (s:ByteArray) (h:lowB s=true):numD s=s.extract 1 s.size:=by unfold numD;rw [if_pos h]
theorem numD_f (s:ByteArray) (h:lowB s=false):numD s=s:=by unfold numD;rw [h];rfl
theorem low_size (s:ByteArray) (h:lowB s=true):1 ≤ s.size:=by unfold lowB at h;simp at h;omega
theorem numD_size (s:ByteArray):(numD s).size ≤ s.size:=by
 unfold numD;split
 ·rw [ByteArray.size_extract];omega
 ·exact Nat.le_refl _
theorem bad_none (s:ByteArray) (h:numBad s=true):numV s=0∧(numO s).isSome=false:=by
 unfold numV numO;rw [h];exact ⟨rfl,rfl⟩
theorem bad_empty (s d:ByteArray) (hd:numD s=d) (h:d.size=0 ∨ 4 < d.size):numBad s=true:=by
 unfold numBad;rw [hd,decide_eq_true h];rfl
theorem bad_zero (s d:ByteArray) (b:Bool) (hd:numD s=d) (hb:lowB s=b) (h:byt d 0=48) (h2:1 < d.size ∨ b=true):numBad s=true:=by
 unfold numBad;rw [hd,hb];simp [h,h2]
theorem bad_not (s d:ByteArray) (b:Bool) (hd:numD s=d) (hb:lowB s=b) (h0:1 ≤ d.size) (h4:d.size ≤ 4) (h:¬ (byt d 0=48∧(1 < d.size ∨ b=true))):numBad s=false:=by
 unfold numBad;rw [hd,hb,decide_eq_false (show ¬ (d.size=0 ∨ 4 < d.size) by omega),Bool.false_or];by_cases h1:byt d 0=48
 ·(have h3:¬ (1 < d.size ∨ b=true):=fun h3=>h ⟨h1,h3⟩);rw [decide_eq_true h1,Bool.true_and,decide_eq_false (fun h4=>h3 (.inl h4)),Bool.false_or];cases b with
  | true=>exact absurd (.inr rfl) h3
  | false=>rfl
 ·rw [decide_eq_false h1,Bool.false_and]
theorem numO_fail (s d:ByteArray) (hd:numD s=d) (hb:numBad s=false) (h:digsFrom d d.size 0 0=none):numV s=0∧(numO s).isSome=false:=by
 unfold numV numO;rw [hb,hd,h];exact ⟨rfl,rfl⟩
theorem numO_good (s d:ByteArray) (b:Bool) (n:Int) (hd:numD s=d) (hl:lowB s=b) (hb:numBad s=false) (h:digsFrom d d.size 0 0=some n):numV s=(if b then -n else n)∧(numO s).isSome=true:=by
 unfold numV numO;rw [hb,hd,h,hl];exact ⟨rfl,rfl⟩
theorem digs_end (d:ByteArray) (b pos:Nat) (acc:Int) (h:¬ pos < d.size):digsFrom d b pos acc=some acc:=by
 cases b with
 | zero=>rfl
 | succ b=>simp [digsFrom,h]
theorem pow_step (pos:Nat) (acc x:Int) (h0:0 ≤ acc) (h:acc < 10 ^ pos) (hx:0 ≤ x∧x ≤ 9):0 ≤ 10 * acc + x∧10 * acc + x < 10 ^ (pos + 1):=by
 rw [Int.pow_succ];omega
theorem pow_small (pos:Nat) (acc:Int) (h:acc < 10 ^ pos) (hp:pos ≤ 4):acc < 10000:=by
 have:(10:Int) ^ pos ≤ 10 ^ 4:=by
  rcases pos with _|_|_|_|_|p <;> first|decide|omega
 omega
theorem ret_num {a b:Int} {c d:Bool} (h:a=b) (h':c=d):Ending.returned (.tuple #[.int .i64 a,.bool c]) = .returned (.tuple #[.int .i64 b,.bool d]):=by rw [h,h']
theorem digB_inv {c:Int} (h:digB c=true):48 ≤ c∧c ≤ 57:=by unfold digB at h;simpa using h
theorem rune_digit {d:ByteArray} {pos:Nat} (hr:(byt d pos < 128∧((Utf8.decode d pos).1:Int)=byt d pos∧(Utf8.decode d pos).2=1) ∨ (128 ≤ byt d pos∧128 ≤ ((Utf8.decode d pos).1:Int)∧1 ≤ (Utf8.decode d pos).2)) (h1:48 ≤ ((Utf8.decode d pos).1:Int)) (h2:((Utf8.decode d pos).1:Int) ≤ 57):((Utf8.decode d pos).1:Int)=byt d pos∧(Utf8.decode d pos).2=1:=by
 rcases hr with ⟨_,h,h'⟩ | ⟨_,h,_⟩
 ·exact ⟨h,h'⟩
 ·omega
theorem rune_dig {d:ByteArray} {pos:Nat} (hr:(byt d pos < 128∧((Utf8.decode d pos).1:Int)=byt d pos∧(Utf8.decode d pos).2=1) ∨ (128 ≤ byt d pos∧128 ≤ ((Utf8.decode d pos).1:Int)∧1 ≤ (Utf8.decode d pos).2)):digB ((Utf8.decode d pos).1:Int)=digB (byt d pos):=by
 rcases hr with ⟨_,h,_⟩ | ⟨h,h',_⟩
 ·rw [h]
 ·rw [digB_f (by omega),digB_f (by omega)]
set_option maxRecDepth 1000000 in
set_option maxHeartbeats 4000000 in
theorem number_any (s:ByteArray) (w:World) (hs:s.size ≤ 9223372036854775807) :
  Calls Try.prog 157 #[.string s] w fun e w'=>e = .returned (.tuple #[.int .i64 (numV s),.bool (numO s).isSome])∧Below w.heap.size w w':=by
 go_enter Try.func157,Try.ntmps157;go_upto_region 1 with fail;go_cut [4] (fun v4 wx=>∃ b:Bool,v4 = .bool b∧Hid (lowB s=b)∧w=wx)
 case first =>
  by_cases h0:0 < s.size
  ·have h0':=isEmpty_f s h0;by_cases h45:(s[0]'h0).toNat=45
   ·have HL:=Lib.hid (low_yes s h0 h45);(have h45':((((s[0]'h0).toNat:Int)) == 45)=true:=by rw [h45];rfl);clear h45;go_wp2_with fail;go_meet;exact ⟨true,rfl,HL,rfl⟩
   ·have HL:=Lib.hid (low_no s h0 h45);(have h45':((((s[0]'h0).toNat:Int)) == 45)=false:=by simp;omega);clear h45;go_wp2_with fail;go_meet;exact ⟨false,rfl,HL,rfl⟩
  ·have h0':=isEmpty_t s (by omega);have HL:=Lib.hid (low_empty s (by omega));clear h0;go_wp2_with fail;go_meet;exact ⟨false,rfl,HL,rfl⟩
 case rest =>
  obtain ⟨b,rfl,HL,rfl⟩:=hcut;go_upto_if 17 with fail;go_cut [5] (fun v5 wx=>∃ d:ByteArray,v5 = .string d∧Hid (numD s=d)∧w=wx)
  case first =>
   cases b with
   | true =>
    have h0:=low_size s HL.out;go_wp2_with fail;go_meet;exact ⟨_,rfl,Lib.hid (numD_t s HL.out),rfl⟩
   | false =>
    go_wp2_with fail;go_meet;exact ⟨_,rfl,Lib.hid (numD_f s HL.out),rfl⟩
  case rest =>
   obtain ⟨d,rfl,HD,rfl⟩:=hcut;(have hd:d.size ≤ 9223372036854775807:=by have:=numD_size s;rw [HD.out] at this;omega);go_upto_region 5 with fail;go_cut [39] (fun v wx=>∃ z:Bool,v = .bool z∧Hid (numBad s=z)∧w=wx)
   case first =>
    by_cases hd0:d.size=0
    ·have h0':=isEmpty_t d hd0;have HB:=Lib.hid (bad_empty s d HD.out (.inl hd0));clear hd0;go_wp2_with fail;go_meet;exact ⟨_,rfl,HB,rfl⟩
    (have hp:0 < d.size:=by omega);have h0':=isEmpty_f d hp;by_cases hd4:4 < d.size
    ·have HB:=Lib.hid (bad_empty s d HD.out (.inr hd4));(have hd4':decide (4 < (d.size:Int))=true:=by simp;omega);clear hd0;go_wp2_with fail;go_meet;exact ⟨_,rfl,HB,rfl⟩
    (have hd4':decide (4 < (d.size:Int))=false:=by simp;omega);have hb0:=byt_get d 0 hp;by_cases hz:byt d 0=48∧(1 < d.size ∨ b=true)
    ·have HB:=Lib.hid (bad_zero s d b HD.out HL.out hz.1 hz.2);(have hz1:(((d[0]'hp).toNat:Int) == 48)=true:=by rw [← hb0,hz.1];rfl);have hz2:=hz.2;clear hz hb0 hd0;by_cases h1:1 < d.size
     ·(have h1':decide (1 < (d.size:Int))=true:=by simp;omega);clear hz2;go_wp2_with fail;go_meet;exact ⟨_,rfl,HB,rfl⟩
     ·(have h1':decide (1 < (d.size:Int))=false:=by simp;omega);obtain rfl:b=true:=hz2.resolve_left h1;clear hz2;go_wp2_with fail;go_meet;exact ⟨_,rfl,HB,rfl⟩
    ·have HB:=Lib.hid (bad_not s d b HD.out HL.out (by omega) (by omega) hz);by_cases h48:byt d 0=48
     ·(have hz1:(((d[0]'hp).toNat:Int) == 48)=true:=by rw [← hb0,h48];rfl);(have h3:¬ (1 < d.size ∨ b=true):=fun h3=>hz ⟨h48,h3⟩);(have h1':decide (1 < (d.size:Int))=false:=by simp;omega);obtain rfl:b=false:=by
       cases b with
       | true=>exact absurd (.inr rfl) h3
       | false=>rfl
      clear hz hb0 hd0 h3 h48;go_wp2_with fail;go_meet;exact ⟨_,rfl,HB,rfl⟩
     ·(have hz1:(((d[0]'hp).toNat:Int) == 48)=false:=by rw [← hb0];simpa using h48);clear hz hb0 hd0 h48;go_wp2_with fail;go_meet;exact ⟨_,rfl,HB,rfl⟩
   case rest =>
    obtain ⟨z,rfl,HZ,rfl⟩:=hcut;cases z with
    | true =>
     have HB:=Lib.hid (bad_none s HZ.out);go_wp2;go_ret2;exact ⟨ret_num HB.out.1.symm HB.out.2.symm,Below.refl _ _⟩
    | false =>
     have hd4:d.size ≤ 4:=by
      have:=HZ.out;unfold numBad at this;rw [HD.out] at this;simp at this;omega
     go_wp2_with fail;go_loopw [6] (fun v w'=>∃ (pos f:Nat) (acc:Int),w' = w.iter d pos∧v = .int .i64 acc∧Hid (digsFrom d f pos acc=digsFrom d d.size 0 0)∧d.size ≤ pos + f∧pos ≤ 4∧0 ≤ acc∧Hid (acc < 10 ^ pos)) (fun _ w'=>d.size - w'.iterPos w.heap.size)
     case atStart=>exact ⟨0,d.size,0,rfl,rfl,Lib.hid rfl,by omega,by omega,by omega,Lib.hid (by decide)⟩
     case round =>
      obtain ⟨pos,f,acc,rfl,rfl,HC,hf,hp4,ha,HA⟩:=hrel;by_cases hp:pos < d.size
      ·(have hnx:∀ ty,(Instr.next (.pointer (some ⟨w.heap.size,0,none⟩)) true ty).run Try.prog (w.iter d pos)=_:=fun ty=>run_next_any w d pos ty hp);have HR:=Lib.hid (rune_byte d pos hp);have hacc:=pow_small pos acc HA.out hp4;by_cases hg:digB ((Utf8.decode d pos).1:Int)=true
       ·have hdig:=digB_inv hg;have HB:=Lib.hid (rune_digit HR.out hdig.1 hdig.2);obtain ⟨h48,h57⟩:=hdig;go_wp2_with (go_at_call 149;refine (digit_any _ _).mono ?_;rintro e w' ⟨rfl,rfl⟩);obtain ⟨hb1,hb2⟩:=HB.out;go_roundw
        case rel =>
         cases f with
         | zero=>omega
         | succ f =>
          have hst:=pow_step pos acc (byt d pos - 48) ha HA.out (by omega);refine ⟨pos + (Utf8.decode d pos).2,f,10 * acc + (byt d pos - 48),rfl,?_,?_,by omega,by omega,hst.1,?_⟩
          ·rw [← hb1]
          ·rw [← HC.out,hb2];refine Lib.hid ?_;rw [digsFrom,if_pos hp,← hb1,if_pos hg]
          ·rw [hb2];exact Lib.hid hst.2
        case measure =>
         simp;omega
       ·(have hg':digB ((Utf8.decode d pos).1:Int)=false:=by simpa using hg);clear hg;have HF:Hid (digsFrom d d.size 0 0=none):=by
         rw [← HC.out];cases f with
         | zero=>omega
         | succ f=>exact Lib.hid (by rw [digsFrom,if_pos hp,← rune_dig HR.out,hg'];rfl)
        have HB:=Lib.hid (numO_fail s d HD.out HZ.out HF.out);go_wp2_with (go_at_call 149;refine (digit_any _ _).mono ?_;rintro e w' ⟨rfl,rfl⟩);go_ret2;exact ⟨ret_num HB.out.1.symm HB.out.2.symm,(Below.refl _ _).alloc (Nat.le_refl _) _⟩
      ·(have hnx:∀ ty,(Instr.next (.pointer (some ⟨w.heap.size,0,none⟩)) true ty).run Try.prog (w.iter d pos)=_:=fun ty=>run_next_end w d pos ty hp);have HB:=Lib.hid (numO_good s d b acc HD.out HL.out HZ.out (by rw [← HC.out,digs_end d f pos acc hp]));have hacc:=pow_small pos acc HA.out hp4;cases b with
       | true =>
        go_wp2;go_ret2;exact ⟨ret_num HB.out.1.symm HB.out.2.symm,(Below.refl _ _).alloc (Nat.le_refl _) _⟩
       | false =>
        go_wp2;go_ret2;exact ⟨ret_num HB.out.1.symm HB.out.2.symm,(Below.refl _ _).alloc (Nat.le_refl _) _⟩
end Go.Proofs.Ytjbjbeihkoeciaa.X
set_option linter.unusedSimpArgs false
set_option linter.unusedVariables false
namespace Go.Proofs.Ytjbjbeihkoeciaa.X
open Go.RowKit Go.Proofs.YtjbjbeihkoeciaaW.PrintWords Go.Proofs.YtjbjbeihkoeciaaW.PrintLast Go.Proofs.YtjbjbeihkoeciaaW.PrintMore
def rdr (s:ByteArray) (lv:Value) (line fr:Int) (nt:Bool) (er:Int):Obj:=.cells #[.string s,lv,.int .i64 line,.int .i64 fr,.bool nt,.int .i64 er] 188 (0,0)
def errOver (n:Nat) (er:Int):Int:=if 800 ≤ n∧er=0 then 7 else er
theorem errOver_t {n:Nat} {er:Int} (h:800 ≤ n) (he:er=0):errOver n er=7:=if_pos ⟨h,he⟩
theorem errOver_f {n:Nat} {er:Int} (h:¬ (800 ≤ n∧er=0)):errOver n er=er:=if_neg h
theorem R_ne_rdr {g:Nat} {s:ByteArray} {lv:Value} {line fr:Int} {nt:Bool} {er:Int} {xs:List S166} {w:World} {base:Nat}
  (hR:w.heap[g]? = some (rdr s lv line fr nt er)) (hO:k166.R 166 w base (fun _=>True) lv xs):some g ≠ lv.ownBlock:=Kd.R_ne hO hR (by decide)
theorem put_facts {g:Nat} {s:ByteArray} {lv:Value} {line fr:Int} {nt:Bool} {er:Int} {xs:List S166} {w w1:World} {base:Nat} {v1:Value} {x:S166} {o1:Obj}
  (hR:w.heap[g]? = some (rdr s lv line fr nt er)) (hO:k166.R 166 w base (fun _=>True) lv xs) (hl:xs.length ≤ 100000)
  (hG:((w.alloc o1).drew).grownBy w1 lv.ownBlock) (hO1:k166.R 166 w1 base (fun _=>True) v1 (xs ++ [x])) :
  ∃ A1 c1,v1 = .slice A1 (xs.length + 1) c1∧w1.heap[g]? = some (rdr s lv line fr nt er):=by
 obtain ⟨A,c,h1,_,_⟩:=Kd.R_reads hO1;refine ⟨A,c,by rw [h1];simp,?_⟩;have hne:=R_ne_rdr hR hO;have h2:((w.alloc o1).drew).heap[g]? = some (rdr s lv line fr nt er):=((below_drew (below_alloc (Below.refl _ _) o1)).block g (blk_lt hR)).trans hR;exact blk_grown h2 hG hne
theorem put_done {g:Nat} {s:ByteArray} {lv:Value} {line fr:Int} {nt:Bool} {er:Int} {xs:List S166} {w w0 w1:World} {base:Nat} {v1:Value} {x:S166} {o1:Obj}
  (hR:w.heap[g]? = some (rdr s lv line fr nt er)) (hO:k166.R 166 w base (fun _=>True) lv xs) (hbg:base ≤ g)
  (hG:((w.alloc o1).drew).grownBy w1 lv.ownBlock) (hO1:k166.R 166 w1 base (fun _=>True) v1 (xs ++ [x])) (hB1:Below base w0 w1) (hR1:w1.heap[g]? = some (rdr s lv line fr nt er)) :
  (w1.setCell ⟨g,1,none⟩ v1).heap[g]? = some (rdr s v1 line fr nt er)∧k166.R 166 (w1.setCell ⟨g,1,none⟩ v1) base (fun _=>True) v1 (xs ++ [x])∧Below base w0 (w1.setCell ⟨g,1,none⟩ v1)∧KeepBut w (w1.setCell ⟨g,1,none⟩ v1) g lv.ownBlock:=by
 refine ⟨?_,Kd.R_set hO1 hR1 (by decide) 1 v1,hB1.setCell hbg _,?_⟩
 ·have h:=blk_set hR1 1 v1;exact h
 ·refine KeepBut.set_ ?_ 1 v1;exact KeepBut.trans (KeepBut.of_below (below_drew (below_alloc (Below.refl _ _) o1)) g lv.ownBlock) (KeepBut.of_grown hG g) (.inl rfl)
theorem put_over {g:Nat} {s:ByteArray} {lv:Value} {line fr:Int} {nt:Bool} {er e2:Int} {xs:List S166} {w0 w W:World} {base:Nat} {row:Option Nat}
  (h:W.heap[g]? = some (rdr s lv line fr nt er)∧k166.R 166 W base (fun _=>True) lv xs∧Below base w0 W∧KeepBut w W g row) (hbg:base ≤ g) :
  (W.setCell ⟨g,5,none⟩ (.int .i64 e2)).heap[g]? = some (rdr s lv line fr nt e2)∧k166.R 166 (W.setCell ⟨g,5,none⟩ (.int .i64 e2)) base (fun _=>True) lv xs∧Below base w0 (W.setCell ⟨g,5,none⟩ (.int .i64 e2))∧KeepBut w (W.setCell ⟨g,5,none⟩ (.int .i64 e2)) g row:=by
 obtain ⟨h1,h2,h3,h4⟩:=h;exact ⟨blk_set h1 5 _,Kd.R_set h2 h1 (by decide) 5 _,h3.setCell hbg _,KeepBut.set_ h4 5 _⟩
set_option maxRecDepth 1000000 in
set_option maxHeartbeats 4000000 in
theorem put_any (g:Nat) (s:ByteArray) (lv:Value) (line fr:Int) (nt:Bool) (er:Int) (xs:List S166) (k:Int) (t:ByteArray) (n ln0:Int) (w0 w:World) (base:Nat)
  (hR:w.heap[g]? = some (rdr s lv line fr nt er)) (hO:k166.R 166 w base (fun _=>True) lv xs) (hB:Below base w0 w) (hbg:base ≤ g) (hl:xs.length ≤ 100000) :
  Calls Try.prog 141 #[.pointer (some ⟨g,0,none⟩),.agg #[.int .i64 k,.string t,.int .i64 n,.int .i64 ln0]] w fun e w'=>e = .returned (.tuple #[]) ∧
   ∃ lv',w'.heap[g]? = some (rdr s lv' line fr nt (errOver xs.length er))∧k166.R 166 w' base (fun _=>True) lv' (xs ++ [⟨k,t,n,line⟩])∧Below base w0 w'∧KeepBut w w' g lv.ownBlock:=by
 have hg:g < w.heap.size:=blk_lt hR;have c2:=blk_cell hR 2;have hu33:=Try.underlying166;have hu36:=Try.underlying188;have huT:=Try.underlying156;have HO:=Lib.hid hO;have HB:=Lib.hid hB;clear hB;go_enter Try.func141,Try.ntmps141;go_wp2_with fail;have d1:((w.alloc (.cells #[.int .i64 k,.string t,.int .i64 n,.int .i64 line] 166)).drew).cell? ⟨g,1,none⟩=some lv:=pw_cell_below (below_drew (below_alloc (Below.refl _ _) _)) (blk_cell hR 1);have hnew:=heap_alloc_new w (.cells #[.int .i64 k,.string t,.int .i64 n,.int .i64 line] 166);have b0:((w.alloc (.cells #[.int .i64 k,.string t,.int .i64 n,.int .i64 line] 166)).drew).cell? ⟨w.heap.size,0,none⟩=some (.int .i64 k):=blk_cell hnew 0;have b1:((w.alloc (.cells #[.int .i64 k,.string t,.int .i64 n,.int .i64 line] 166)).drew).cell? ⟨w.heap.size,1,none⟩=some (.string t):=blk_cell hnew 1;have b2:((w.alloc (.cells #[.int .i64 k,.string t,.int .i64 n,.int .i64 line] 166)).drew).cell? ⟨w.heap.size,2,none⟩=some (.int .i64 n):=blk_cell hnew 2;have b3:((w.alloc (.cells #[.int .i64 k,.string t,.int .i64 n,.int .i64 line] 166)).drew).cell? ⟨w.heap.size,3,none⟩=some (.int .i64 line):=blk_cell hnew 3;(have hsz:base ≤ w.heap.size:=by omega);have HO1:Hid (k166.R 166 ((w.alloc (.cells #[.int .i64 k,.string t,.int .i64 n,.int .i64 line] 166)).drew) base (fun _=>True) lv xs):=Lib.hid (Kd.R_below HO.out (below_drew (below_alloc (Below.refl _ _) _)));have HB1:Hid (Below base w0 ((w.alloc (.cells #[.int .i64 k,.string t,.int .i64 n,.int .i64 line] 166)).drew)):=Lib.hid (below_drew (HB.out.alloc hsz _));clear hnew c2;refine start_ (n:=11) (S:=fun w'=>w'.cell? ⟨g,1,none⟩=some lv∧w'.cell? ⟨w.heap.size,0,none⟩=some (.int .i64 k)∧w'.cell? ⟨w.heap.size,1,none⟩=some (.string t)∧w'.cell? ⟨w.heap.size,2,none⟩=some (.int .i64 n)∧w'.cell? ⟨w.heap.size,3,none⟩=some (.int .i64 line)) (ds:=[7,10]) (ab 11 0) (by kernel_rfl) rfl rfl ⟨d1,b0,b1,b2,b3⟩ (fun hHeld=>?_);refine pure_ (i:=0) (N:=some 9) (v:=?_) (a':=?_) (ab 11 1) rfl rfl (by kernel_rfl) (fun _ _ _ h=>h) (Or.inl ⟨by rfl,?_⟩) ?_ ?_;rotate_left
 ·intro w';go_simp;with_reducible rfl
 rotate_left
 ·simp only [Act.put,q1_,q2_,q3_,i64_w,i32_w];rfl
 refine pure_ (i:=1) (N:=some 10) (v:=?_) (a':=?_) (ab 11 3) rfl rfl (by kernel_rfl) (fun _ _ _ h=>h) (Or.inl ⟨by rfl,?_⟩) ?_ ?_;rotate_left
 ·intro w';go_simp;with_reducible rfl
 rotate_left
 ·simp only [Act.put,q1_,q2_,q3_,i64_w,i32_w];rfl
 refine pure_ (i:=2) (N:=some 11) (v:=?_) (a':=?_) (ab 11 7) rfl rfl (by kernel_rfl) (fun _ _ _ h=>h) (Or.inl ⟨by rfl,?_⟩) ?_ ?_;rotate_left
 ·intro w';go_simp;with_reducible rfl
 rotate_left
 ·simp only [Act.put,q1_,q2_,q3_,i64_w,i32_w];rfl
 refine pure_ (i:=3) (N:=some 12) (v:=?_) (a':=?_) (ab 11 15) rfl rfl (by kernel_rfl) (fun _ _ _ h=>h) (Or.inl ⟨by rfl,?_⟩) ?_ ?_;rotate_left
 ·intro w';go_simp;with_reducible rfl
 rotate_left
 ·simp only [Act.put,q1_,q2_,q3_,i64_w,i32_w];rfl
 refine take_ (i:=4) (N:=some 13) (v:=?_) (a':=?_) (ab 11 31) rfl rfl (by kernel_rfl) (fun _ _ _ h=>h) (Or.inl ⟨by rfl,?_⟩) hHeld ?_ ?_;rotate_left
 ·rintro w' ⟨s0,s1,s2,s3,s4⟩;go_simp;with_reducible rfl
 rotate_left
 ·simp only [Act.put,q1_,q2_,q3_,i64_w,i32_w];rfl
 refine take_ (i:=5) (N:=some 14) (v:=?_) (a':=?_) (ab 11 63) rfl rfl (by kernel_rfl) (fun _ _ _ h=>h) (Or.inl ⟨by rfl,?_⟩) hHeld ?_ ?_;rotate_left
 ·rintro w' ⟨s0,s1,s2,s3,s4⟩;go_simp;with_reducible rfl
 rotate_left
 ·simp only [Act.put,q1_,q2_,q3_,i64_w,i32_w];rfl
 refine one_ (i:=6) (N:=some 15) (ab 11 127) rfl rfl (by kernel_rfl) (by decide) (fun K hK=>?_);refine value_ (w1:=?_) (v:=?_) (by rfl) rfl ?_ ?_;rotate_left 2
 ·go_simp;constructor
  ·rfl
  ·rfl
 refine hK.out _ _ ⟨(pw_cell_below (below_alloc (Below.refl _ _) _) d1),(pw_cell_below (below_alloc (Below.refl _ _) _) b0),(pw_cell_below (below_alloc (Below.refl _ _) _) b1),(pw_cell_below (below_alloc (Below.refl _ _) _) b2),(pw_cell_below (below_alloc (Below.refl _ _) _) b3)⟩ (fun hHeld=>?_);clear hK K;refine norm_ (a':=?_) ?_ ?_;rotate_left
 ·show Act.put _ (some 15) _=_;simp only [Act.put,q1_,q2_,q3_,i64_w,i32_w];rfl
 refine last_ (i:=7) (N:=some 16) (ab 11 255) rfl rfl (by kernel_rfl) (by decide) (fun K hK=>?_);refine Kd.R_append_step k166 (w0:=w0) base (by rfl) (.tmp 13) (.tmp 15) 156 166 (.agg #[.int .i64 0,.string ⟨#[]⟩,.int .i64 0,.int .i64 0]) 40 rfl huT info166 rfl (by decide) (by decide) lv xs ⟨k,t,n,line⟩ [.int .i64 k,.string t,.int .i64 n,.int .i64 line] (fun _=>True) (fun _=>False) rfl (by simp [Act.eval]) (k166_mkM _ _ _ ⟨k,t,n,line⟩) (fun _ h=>h.elim) (fun _ _=>trivial) HO1.out HB1.out (by simp;omega) (by omega) ?_;intro v1 w1 hO1 hB1 hG1 hA1;refine hK.out _ _ ?_;clear hK K;refine norm_ (a':=?_) ?_ ?_;rotate_left
 ·show Act.put _ (some 16) _=_;simp only [Act.put,q1_,q2_,q3_,i64_w,i32_w];rfl
 refine pure_ (i:=8) (N:=some 17) (v:=?_) (a':=?_) (ab 11 511) rfl rfl (by kernel_rfl) (fun _ _ _ h=>h) (Or.inl ⟨by rfl,?_⟩) ?_ ?_;rotate_left
 ·intro w';go_simp;with_reducible rfl
 rotate_left
 ·simp only [Act.put,q1_,q2_,q3_,i64_w,i32_w];rfl
 refine pure_ (i:=9) (N:=some 18) (v:=?_) (a':=?_) (ab 11 1023) rfl rfl (by kernel_rfl) (fun _ _ _ h=>h) (Or.inl ⟨by rfl,?_⟩) ?_ ?_;rotate_left
 ·intro w';go_simp;with_reducible rfl
 rotate_left
 ·simp only [Act.put,q1_,q2_,q3_,i64_w,i32_w];rfl
 refine last_ (i:=10) (N:=none) (ab 11 2047) rfl rfl (by kernel_rfl) (by decide) (fun K hK=>?_);have HS:=Lib.hid (put_facts hR hO hl hG1 hO1);obtain ⟨A1,p1,rfl,hR1⟩:=HS.out;have f1:=blk_frozen hR1 1;have e1:=blk_cell hR1 1;refine skip_ (w1:=?_) (by rfl) rfl ?_ ?_;rotate_left
 ·go_simp;rfl
 refine hK.out _ _ ?_;clear hK K;refine done_ (by kernel_rfl) ?_;have HP:=Lib.hid (put_done hR HO.out hbg hG1 hO1 hB1 hR1);have g1:=blk_cell HP.out.1 1;have g5:=blk_cell HP.out.1 5;have z5:=blk_frozen HP.out.1 5;clear hG1 hO1 hB1 hA1 HS HO HB HO1 HB1 hO hR e1 f1 hR1 d1 b0 b1 b2 b3;by_cases h8:800 ≤ xs.length
 ·(have h8':decide (800 < ((xs.length + 1:Nat):Int))=true:=by simp;omega);by_cases he:er=0
  ·(have he':(er == 0)=true:=by rw [he];rfl);have HE:=Lib.hid he;clear he;go_wp2;go_end0;exact ⟨rfl,_,by rw [errOver_t h8 HE.out];exact put_over HP.out hbg⟩
  ·(have he':(er == 0)=false:=by simpa using he);have HE:=Lib.hid he;clear he;go_wp2;go_end0;exact ⟨rfl,_,by rw [errOver_f (fun h=>HE.out h.2)];exact HP.out⟩
 ·(have h8':decide (800 < ((xs.length + 1:Nat):Int))=false:=by simp;omega);go_wp2;go_end0;exact ⟨rfl,_,by rw [errOver_f (fun h=>h8 h.1)];exact HP.out⟩
end Go.Proofs.Ytjbjbeihkoeciaa.X
set_option linter.unusedSimpArgs false
set_option linter.unusedVariables false
namespace Go.Proofs.Ytjbjbeihkoeciaa.X
open Go.RowKit Go.Proofs.YtjbjbeihkoeciaaW.PrintWords Go.Proofs.YtjbjbeihkoeciaaW.PrintLast Go.Proofs.YtjbjbeihkoeciaaW.PrintMore
structure RS where
 xs:List S166
 line:Int
 fr:Int
 nt:Bool
 er:Int
def RS.put (r:RS) (k:Int) (t:ByteArray) (n:Int):RS:=⟨r.xs ++ [⟨k,t,n,r.line⟩],r.line,r.fr,r.nt,errOver r.xs.length r.er⟩
def RS.one (r:RS) (c:Int):RS :=
 if c=32 ∨ c=9 then r else if c=58 then r.put 3 ⟨#[]⟩ 0 else if c=44 then r.put 4 ⟨#[]⟩ 0
 else if c=10 then { r.put 5 ⟨#[]⟩ 0 with line:=r.line + 1 } else if c=35 then { r with nt:=true } else { r with er:=2 }
def RS.close (r:RS) (s:ByteArray) (at_:Nat):RS :=
 if r.fr < 0 then r
 else if wordB (s.extract r.fr.toNat at_) then ({ r with fr:=-1 }:RS).put 1 (s.extract r.fr.toNat at_) 0
 else if (numO (s.extract r.fr.toNat at_)).isSome then ({ r with fr:=-1 }:RS).put 2 ⟨#[]⟩ (numV (s.extract r.fr.toNat at_))
 else { r with fr:=-1,er:=2 }
def ItKept (w w':World):Prop:=∀ (i:Nat) (s:ByteArray) (p:Nat),w.heap[i]? = some (Obj.stringIter s p) → w'.heap[i]? = some (Obj.stringIter s p)
theorem ItKept.refl (w:World):ItKept w w:=fun _ _ _ h=>h
theorem ItKept.trans {a b c:World} (h:ItKept a b) (k:ItKept b c):ItKept a c:=fun i s p hi=>k i s p (h i s p hi)
theorem ItKept.below {w w':World} (h:Below w.heap.size w w'):ItKept w w':=fun i s p hi=>(h.block i (blk_lt hi)).trans hi
theorem ItKept.set {w:World} {g:Nat} {cs:Array Value} {t:TypeId} (h:w.heap[g]? = some (.cells cs t (0,0))) (j:Nat) (v:Value):ItKept w (w.setCell ⟨g,j,none⟩ v):=by
 intro i s p hi;have hne:i ≠ g:=by
  rintro rfl;rw [h] at hi;cases hi
 exact (Below.heap_setCell w ⟨g,j,none⟩ v i hne).trans hi
theorem ItKept.keep {w w':World} {g:Nat} {cs:Array Value} {t:TypeId} {row:Option Nat} (hk:KeepBut w w' g row) (h:w.heap[g]? = some (.cells cs t (0,0))) (hr:∀ k,row=some k → ∃ cs' t',w.heap[k]? = some (.cells cs' t' (0,0))):ItKept w w':=by
 intro i s p hi;have hne:i ≠ g:=by
  rintro rfl;rw [h] at hi;cases hi
 refine (hk.2 i (blk_lt hi) hne ?_).trans hi;intro e;obtain ⟨cs',t',h'⟩:=hr i e.symm;rw [h'] at hi;cases hi
def RP (w0 wi:World) (base g:Nat) (s:ByteArray) (w:World) (r:RS):Prop :=
 ∃ lv,w.heap[g]? = some (rdr s lv r.line r.fr r.nt r.er)∧k166.R 166 w base (fun _=>True) lv r.xs∧Below base w0 w∧ItKept wi w
theorem RP.set {w0 wi:World} {base g:Nat} {s:ByteArray} {w:World} {r:RS} (h:RP w0 wi base g s w r) (hbg:base ≤ g) {r':RS} (j:Nat) (v:Value) (hx:r'.xs=r.xs)
  (hj:∀ lv,(#[Value.string s,lv,.int .i64 r.line,.int .i64 r.fr,.bool r.nt,.int .i64 r.er]:Array Value).setIfInBounds j v = #[Value.string s,lv,.int .i64 r'.line,.int .i64 r'.fr,.bool r'.nt,.int .i64 r'.er]) :
  RP w0 wi base g s (w.setCell ⟨g,j,none⟩ v) r':=by
 obtain ⟨lv,h1,h2,h3,h4⟩:=h;refine ⟨lv,?_,?_,h3.setCell hbg _,h4.trans (ItKept.set h1 j v)⟩
 ·have:=blk_set h1 j v;rw [hj lv] at this;exact this
 ·rw [hx];exact Kd.R_set h2 h1 (by decide) j v
theorem put_rs (w0 wi:World) (base g:Nat) (s:ByteArray) (w:World) (r:RS) (k:Int) (t:ByteArray) (n ln0:Int) (h:RP w0 wi base g s w r) (hbg:base ≤ g) (hl:r.xs.length ≤ 100000) :
  Calls Try.prog 141 #[.pointer (some ⟨g,0,none⟩),.agg #[.int .i64 k,.string t,.int .i64 n,.int .i64 ln0]] w fun e w'=>e = .returned (.tuple #[])∧RP w0 wi base g s w' (r.put k t n):=by
 obtain ⟨lv,h1,h2,h3,h4⟩:=h;refine (put_any g s lv r.line r.fr r.nt r.er r.xs k t n ln0 w0 w base h1 h2 h3 hbg hl).mono ?_;rintro e w' ⟨rfl,lv',g1,g2,g3,g4⟩;refine ⟨rfl,lv',g1,g2,g3,h4.trans (ItKept.keep g4 h1 fun k hk=>?_)⟩;obtain ⟨inner,ho⟩:=Kd.R_own h2;obtain ⟨cs,hc⟩:=own_typed ho k hk;exact ⟨cs,_,hc⟩
set_option maxRecDepth 1000000 in
set_option maxHeartbeats 4000000 in
theorem one_rs (w0 wi:World) (base g:Nat) (s:ByteArray) (w:World) (r:RS) (c:Int) (h:RP w0 wi base g s w r) (hbg:base ≤ g) (hl:r.xs.length ≤ 100000) (hline:0 ≤ r.line∧r.line ≤ 100000) :
  Calls Try.prog 140 #[.pointer (some ⟨g,0,none⟩),.int .i32 c] w fun e w'=>e = .returned (.tuple #[])∧RP w0 wi base g s w' (r.one c):=by
 have H:=Lib.hid h;obtain ⟨lv,hR,_,_,_⟩:=h;by_cases h32:c=32 ∨ c=9
 ·have HE:=Lib.hid (show r.one c=r by unfold RS.one;rw [if_pos h32]);by_cases h1:c=32
  ·(have e1:(c == 32)=true:=by rw [h1];rfl);clear h1 h32;go_enter Try.func140,Try.ntmps140;go_wp2;go_end0;exact ⟨rfl,by rw [HE.out];exact H.out⟩
  ·(have e1:(c == 32)=false:=by simpa using h1);(have e2:(c == 9)=true:=by rw [h32.resolve_left h1];rfl);clear h1 h32;go_enter Try.func140,Try.ntmps140;go_wp2;go_end0;exact ⟨rfl,by rw [HE.out];exact H.out⟩
 (have e1:(c == 32)=false:=by simp only [beq_eq_false_iff_ne];exact fun h=>h32 (.inl h));(have e2:(c == 9)=false:=by simp only [beq_eq_false_iff_ne];exact fun h=>h32 (.inr h));by_cases h58:c=58
 ·have HE:=Lib.hid (show r.one c=r.put 3 ⟨#[]⟩ 0 by unfold RS.one;rw [if_neg h32,if_pos h58]);(have e3:(c == 58)=true:=by rw [h58];rfl);clear h58 h32;go_enter Try.func140,Try.ntmps140;go_wp2_with fail;refine (put_rs w0 wi base g s w r 3 ⟨#[]⟩ 0 0 H.out hbg hl).mono ?_;rintro e w1 ⟨rfl,hP⟩;go_wp2;go_end0;exact ⟨rfl,by rw [HE.out];exact hP⟩
 (have e3:(c == 58)=false:=by simpa using h58);by_cases h44:c=44
 ·have HE:=Lib.hid (show r.one c=r.put 4 ⟨#[]⟩ 0 by unfold RS.one;rw [if_neg h32,if_neg h58,if_pos h44]);(have e4:(c == 44)=true:=by rw [h44];rfl);clear h44 h58 h32;go_enter Try.func140,Try.ntmps140;go_wp2_with fail;refine (put_rs w0 wi base g s w r 4 ⟨#[]⟩ 0 0 H.out hbg hl).mono ?_;rintro e w1 ⟨rfl,hP⟩;go_wp2;go_end0;exact ⟨rfl,by rw [HE.out];exact hP⟩
 (have e4:(c == 44)=false:=by simpa using h44);by_cases h10:c=10
 ·have HE:=Lib.hid (show r.one c = { r.put 5 ⟨#[]⟩ 0 with line:=r.line + 1 } by unfold RS.one;rw [if_neg h32,if_neg h58,if_neg h44,if_pos h10]);(have e5:(c == 10)=true:=by rw [h10];rfl);clear h10 h44 h58 h32 hR;go_enter Try.func140,Try.ntmps140;go_wp2_with fail;refine (put_rs w0 wi base g s w r 5 ⟨#[]⟩ 0 0 H.out hbg hl).mono ?_;rintro e w1 ⟨rfl,hP⟩;have HP:=Lib.hid hP;obtain ⟨lv1,hR1,_,_,_⟩:=hP;have d2:w1.cell? ⟨g,2,none⟩=some (.int .i64 r.line):=blk_cell hR1 2;have z2:=blk_frozen hR1 2;clear hR1;go_wp2;go_end0;refine ⟨rfl,?_⟩;rw [HE.out];exact HP.out.set hbg 2 _ rfl (fun _=>rfl)
 (have e5:(c == 10)=false:=by simpa using h10);by_cases h35:c=35
 ·have HE:=Lib.hid (show r.one c = { r with nt:=true } by unfold RS.one;rw [if_neg h32,if_neg h58,if_neg h44,if_neg h10,if_pos h35]);(have e6:(c == 35)=true:=by rw [h35];rfl);have d4:=blk_cell hR 4;have z4:=blk_frozen hR 4;clear h35 h10 h44 h58 h32 hR;go_enter Try.func140,Try.ntmps140;go_wp2;go_end0;refine ⟨rfl,?_⟩;rw [HE.out];exact H.out.set hbg 4 _ rfl (fun _=>rfl)
 ·have HE:=Lib.hid (show r.one c = { r with er:=2 } by unfold RS.one;rw [if_neg h32,if_neg h58,if_neg h44,if_neg h10,if_neg h35]);(have e6:(c == 35)=false:=by simpa using h35);have d5:=blk_cell hR 5;have z5:=blk_frozen hR 5;clear h35 h10 h44 h58 h32 hR;go_enter Try.func140,Try.ntmps140;go_wp2;go_end0;refine ⟨rfl,?_⟩;rw [HE.out];exact H.out.set hbg 5 _ rfl (fun _=>rfl)
end Go.Proofs.Ytjbjbeihkoeciaa.X
set_option linter.unusedSimpArgs false
set_option linter.unusedVariables false
namespace Go.Proofs.Ytjbjbeihkoeciaa.X
open Go.RowKit Go.Proofs.YtjbjbeihkoeciaaW.PrintWords Go.Proofs.YtjbjbeihkoeciaaW.PrintLast Go.Proofs.YtjbjbeihkoeciaaW.PrintMore
theorem RP.below {w0 wi:World} {base g:Nat} {s:ByteArray} {w w':World} {r:RS} (h:RP w0 wi base g s w r) (hbg:base ≤ g) (hb:Below w.heap.size w w'):RP w0 wi base g s w' r:=by
 obtain ⟨lv,h1,h2,h3,h4⟩:=h;(have hs:base ≤ w.heap.size:=by have:=blk_lt h1;omega);exact ⟨lv,(hb.block g (blk_lt h1)).trans h1,Kd.R_below h2 hb,below_then h3 hs hb,h4.trans (ItKept.below hb)⟩
set_option maxRecDepth 1000000 in
set_option maxHeartbeats 4000000 in
theorem close_rs (w0 wi:World) (base g:Nat) (s:ByteArray) (w:World) (r:RS) (at_:Nat) (h:RP w0 wi base g s w r) (hbg:base ≤ g) (hl:r.xs.length ≤ 100000) (hfr:r.fr ≤ at_) (hat:at_ ≤ s.size) (hs:s.size ≤ 100000) :
  Calls Try.prog 139 #[.pointer (some ⟨g,0,none⟩),.int .i64 (at_:Int)] w fun e w'=>e = .returned (.tuple #[])∧RP w0 wi base g s w' (r.close s at_):=by
 have H:=Lib.hid h;obtain ⟨lv,hR,_,_,_⟩:=h;have d3:=blk_cell hR 3;have z3:=blk_frozen hR 3;have d0:=blk_cell hR 0;by_cases hf:r.fr < 0
 ·have HE:=Lib.hid (show r.close s at_=r by unfold RS.close;rw [if_pos hf]);have e1:decide (r.fr < 0)=true:=decide_eq_true hf;go_enter Try.func139,Try.ntmps139;go_wp2;refine bodyPost_ret (results_none rfl _ _ _) rfl ?_;exact ⟨rfl,by rw [HE.out];exact H.out⟩
 have e1:decide (r.fr < 0)=false:=decide_eq_false hf;(have h0:0 ≤ r.fr:=by omega);have hb1:r.fr ≤ (at_:Int):=hfr;(have hb2:(at_:Int) ≤ (s.size:Int):=by omega);clear hR;go_enter Try.func139,Try.ntmps139;go_wp2;go_quiet (fail);go_wp2_with fail;have HP0:Hid (RP w0 wi base g s ((w.drewN nq).setCell ⟨g,3,none⟩ (.int .i64 (-1))) { r with fr:=-1 }) :=
  Lib.hid ((H.out.below hbg (w':=w.drewN nq) (pw_below_drewN (Below.refl _ _) nq)).set hbg 3 _ rfl (fun _=>rfl))
 clear d3 d0 z3 H;generalize hW:(w.drewN nq).setCell ⟨g,3,none⟩ (.int .i64 (-1))=W at *;have HC:Hid (r.close s at_=if wordB (s.extract r.fr.toNat at_) then ({ r with fr:=-1 }:RS).put 1 (s.extract r.fr.toNat at_) 0
   else if (numO (s.extract r.fr.toNat at_)).isSome then ({ r with fr:=-1 }:RS).put 2 ⟨#[]⟩ (numV (s.extract r.fr.toNat at_))
   else { r with fr:=-1,er:=2 }):=Lib.hid (by unfold RS.close;rw [if_neg (by omega)])
 (have hts:(s.extract r.fr.toNat at_).size ≤ 9223372036854775807:=by rw [ByteArray.size_extract];omega);generalize ht:s.extract r.fr.toNat at_=t at *;clear ht hW;obtain ⟨b,Hb⟩:∃ b,Hid (wordB t=b):=⟨_,Lib.hid rfl⟩;refine (word_any t W).mono ?_;rintro e w1 ⟨rfl,hb3⟩;rw [Hb.out];have HP1:Hid (RP w0 wi base g s w1 { r with fr:=-1 }):=Lib.hid (HP0.out.below hbg hb3);clear hb3 HP0;cases b with
 | true =>
  go_wp2_with fail;refine (put_rs w0 wi base g s w1 { r with fr:=-1 } 1 t 0 0 HP1.out hbg hl).mono ?_;rintro e w2 ⟨rfl,hP⟩;go_wp2;refine bodyPost_ret (results_none rfl _ _ _) rfl ?_;refine ⟨rfl,?_⟩;rw [HC.out,Hb.out];exact hP
 | false =>
  go_wp2_with fail;refine (number_any t w1 hts).mono ?_;rintro e w2 ⟨rfl,hb4⟩;obtain ⟨b2,Hb2⟩:∃ b,Hid ((numO t).isSome=b):=⟨_,Lib.hid rfl⟩;rw [Hb2.out];obtain ⟨nv,Hn⟩:∃ n,Hid (numV t=n):=⟨_,Lib.hid rfl⟩;rw [Hn.out];have HP2:Hid (RP w0 wi base g s w2 { r with fr:=-1 }):=Lib.hid (HP1.out.below hbg hb4);clear hb4 HP1;cases b2 with
  | true =>
   go_wp2_with fail;refine (put_rs w0 wi base g s w2 { r with fr:=-1 } 2 ⟨#[]⟩ nv 0 HP2.out hbg hl).mono ?_;rintro e w3 ⟨rfl,hP⟩;go_wp2;go_end0;refine ⟨rfl,?_⟩;rw [HC.out,Hb.out,Hb2.out,Hn.out];exact hP
  | false =>
   obtain ⟨lv2,hR2,_,_,_⟩:=HP2.out;have d5:=blk_cell hR2 5;have z5:=blk_frozen hR2 5;clear hR2;go_wp2;refine bodyPost_ret (results_none rfl _ _ _) rfl ?_;refine ⟨rfl,?_⟩;rw [HC.out,Hb.out,Hb2.out];exact HP2.out.set hbg 5 _ rfl (fun _=>rfl)
end Go.Proofs.Ytjbjbeihkoeciaa.X
set_option linter.unusedSimpArgs false
set_option linter.unusedVariables false
namespace Go.Proofs.Ytjbjbeihkoeciaa.X
open Go.RowKit Go.Proofs.YtjbjbeihkoeciaaW.PrintWords Go.Proofs.YtjbjbeihkoeciaaW.PrintLast Go.Proofs.YtjbjbeihkoeciaaW.PrintMore
def partB (c:Int):Bool:=letB c || digB c || decide (c=45)
theorem get_byt (s:ByteArray) (i:Nat) (h:i < s.size):((s.get! i).toNat:Int)=byt s i:=by
 rw [byt_get s i h];have:s.get! i=s[i]'h:=by
  show s.get! i=_;simp [ByteArray.get!,getElem!_pos,h];rfl
 rw [this]
theorem decode_span (s:ByteArray) (pos:Nat) (h:pos < s.size):1 ≤ (Utf8.decode s pos).2∧pos + (Utf8.decode s pos).2 ≤ s.size∧∀ j,1 ≤ j → j < (Utf8.decode s pos).2 → 128 ≤ byt s (pos + j):=by
 have hc:∀ k,(decide (pos + k < s.size) && ((s.get! (pos + k)).toNat / 64 == 2))=true → pos + k < s.size∧128 ≤ byt s (pos + k):=by
  intro k hk;simp only [Bool.and_eq_true,decide_eq_true_eq,beq_iff_eq] at hk;refine ⟨hk.1,?_⟩;rw [← get_byt s _ hk.1];omega
 simp only [Utf8.decode];split
 ·exact ⟨Nat.le_refl _,by omega,fun j h1 h2=>by simp at h2;omega⟩
 split
 ·rename_i _ h1;rw [Bool.and_eq_true] at h1;have c1:=hc 1 h1.2;split
  ·refine ⟨by simp,by simp;omega,fun j h1 h2=>?_⟩;(obtain rfl:j=1:=by simp at h2;omega);exact c1.2
  ·exact ⟨Nat.le_refl _,by omega,fun j h1 h2=>by simp at h2;omega⟩
 split
 ·rename_i _ _ h1;rw [Bool.and_eq_true,Bool.and_eq_true] at h1;have c1:=hc 1 h1.1.2;have c2:=hc 2 h1.2;split
  ·refine ⟨by simp,by simp;omega,fun j h1 h2=>?_⟩;(have:j=1 ∨ j=2:=by simp at h2;omega);rcases this with rfl|rfl
   ·exact c1.2
   ·exact c2.2
  ·exact ⟨Nat.le_refl _,by omega,fun j h1 h2=>by simp at h2;omega⟩
 split
 ·rename_i _ _ _ h1;rw [Bool.and_eq_true,Bool.and_eq_true,Bool.and_eq_true] at h1;have c1:=hc 1 h1.1.1.2;have c2:=hc 2 h1.1.2;have c3:=hc 3 h1.2;split
  ·refine ⟨by simp,by simp;omega,fun j h1 h2=>?_⟩;(have:j=1 ∨ j=2 ∨ j=3:=by simp at h2;omega);rcases this with rfl|rfl|rfl
   ·exact c1.2
   ·exact c2.2
   ·exact c3.2
  ·exact ⟨Nat.le_refl _,by omega,fun j h1 h2=>by simp at h2;omega⟩
 ·exact ⟨Nat.le_refl _,by omega,fun j h1 h2=>by simp at h2;omega⟩
def RS.step (r:RS) (s:ByteArray) (pos:Nat) (c:Int):RS:=if (({ r with nt:=false }:RS).close s pos).er=0 then (({ r with nt:=false }:RS).close s pos).one c else (({ r with nt:=false }:RS).close s pos)
def RS.last (r:RS) (s:ByteArray):RS:=if (r.close s s.size).er=0 then (r.close s s.size).put 0 ⟨#[]⟩ 0 else r.close s s.size
def RS.fin (r:RS) (s:ByteArray):List S166 × Int × Int:=if (r.last s).er=0 then ((r.last s).xs,0,0) else ([],(r.last s).line,(r.last s).er)
def RS.from_ (r:RS) (pos:Nat):RS:=if r.fr < 0 then { r with fr:=pos } else r
def rf (s:ByteArray):Nat → RS → List S166 × Int × Int
 | 0,r=>r.fin s
 | n + 1,r =>
  if r.nt=true∧¬ byt s (s.size - (n + 1))=10 then rf s n r
  else if partB (byt s (s.size - (n + 1))) then rf s n (r.from_ (s.size - (n + 1)))
  else if (r.step s (s.size - (n + 1)) (byt s (s.size - (n + 1)))).er=0 then rf s n (r.step s (s.size - (n + 1)) (byt s (s.size - (n + 1))))
  else ([],r.line,(r.step s (s.size - (n + 1)) (byt s (s.size - (n + 1)))).er)
def lexR (s:ByteArray):List S166 × Int × Int:=if 4096 < s.size then ([],0,7) else rf s s.size ⟨[],1,-1,false,0⟩
theorem rf_skip (s:ByteArray) (r:RS) (hn:r.nt=true):∀ (k n:Nat),k ≤ n → n ≤ s.size → (∀ j,j < k → ¬ byt s (s.size - n + j)=10) → rf s n r=rf s (n - k) r:=by
 intro k;induction k with
 | zero=>intro n _ _ _;rfl
 | succ k ih =>
  intro n hk hs hj;obtain ⟨m,rfl⟩:∃ m,n=m + 1:=⟨n - 1,by omega⟩;have h0:=hj 0 (by omega);rw [Nat.add_zero] at h0;rw [rf,if_pos ⟨hn,h0⟩,ih m (by omega) (by omega) (fun j hjk=>by
   have:=hj (j + 1) (by omega)
   rwa [show s.size - (m + 1) + (j + 1)=s.size - m + j by omega] at this)]
  rw [show m + 1 - (k + 1)=m - k by omega]
structure RI (r:RS) (pos:Nat):Prop where
 er:r.er=0
 len:r.xs.length ≤ 800
 line:0 ≤ r.line∧r.line ≤ pos + 1
 fr:r.fr ≤ pos
theorem RI.start (p:Nat):RI ⟨[],1,-1,false,0⟩ p:=⟨rfl,by simp,⟨by simp,by simp;omega⟩,by simp⟩
theorem RI.later {r:RS} {p q:Nat} (h:RI r p) (hpq:p ≤ q):RI r q:=⟨h.er,h.len,by have:=h.line;omega,by have:=h.fr;omega⟩
theorem RI.from_ {r:RS} {p:Nat} (h:RI r p):RI (r.from_ p) p:=by
 unfold RS.from_;split
 ·exact ⟨h.er,h.len,h.line,by simp⟩
 ·exact h
theorem errOver_zero {n:Nat} {er:Int} (h:errOver n er=0):n < 800∧er=0:=by
 unfold errOver at h;split at h
 ·omega
 ·rename_i h1;exact ⟨by
   rcases Nat.lt_or_ge n 800 with h2|h2
   ·exact h2
   ·exact absurd ⟨h2,h⟩ h1,h⟩
theorem close_len {r:RS} (s:ByteArray) (p:Nat):(r.close s p).xs.length ≤ r.xs.length + 1:=by
 unfold RS.close;split
 ·omega
 split
 ·simp [RS.put]
 split
 ·simp [RS.put]
 ·simp
theorem close_line {r:RS} (s:ByteArray) (p:Nat):(r.close s p).line=r.line:=by
 unfold RS.close;split
 ·rfl
 split
 ·rfl
 split
 ·rfl
 ·rfl
theorem close_fr {r:RS} (s:ByteArray) (p:Nat):(r.close s p).fr = -1 ∨ (r.close s p).fr < 0:=by
 unfold RS.close;split
 ·rename_i h;exact .inr h
 split
 ·exact .inl rfl
 split
 ·exact .inl rfl
 ·exact .inl rfl
theorem close_good {r:RS} (s:ByteArray) (p:Nat) (hl:r.xs.length ≤ 800) (h:(r.close s p).er=0):(r.close s p).xs.length ≤ 800:=by
 unfold RS.close at *;split at h
 ·rename_i h1;rw [if_pos h1];exact hl
 rename_i h1;rw [if_neg h1];split at h
 ·rename_i h2;rw [if_pos h2];have:=(errOver_zero h).1;simp only at this;simp [RS.put];omega
 rename_i h2;rw [if_neg h2];split at h
 ·rename_i h3;rw [if_pos h3];have:=(errOver_zero h).1;simp only at this;simp [RS.put];omega
 ·exact absurd h (by simp)
theorem one_good {r:RS} (c:Int) (hl:r.xs.length ≤ 800) (h:(r.one c).er=0):(r.one c).xs.length ≤ 800∧r.line ≤ (r.one c).line∧(r.one c).line ≤ r.line + 1∧(r.one c).fr=r.fr:=by
 unfold RS.one at *;split at h
 ·rename_i h1;rw [if_pos h1];exact ⟨hl,by omega,by omega,rfl⟩
 rename_i h1;rw [if_neg h1];split at h
 ·rename_i h2;rw [if_pos h2];have:=errOver_zero h;exact ⟨by simp [RS.put];omega,by simp [RS.put],by simp [RS.put];omega,rfl⟩
 rename_i h2;rw [if_neg h2];split at h
 ·rename_i h3;rw [if_pos h3];have:=errOver_zero h;exact ⟨by simp [RS.put];omega,by simp [RS.put],by simp [RS.put];omega,rfl⟩
 rename_i h3;rw [if_neg h3];split at h
 ·rename_i h4;rw [if_pos h4];have:=errOver_zero h;exact ⟨by simp [RS.put];omega,by simp [RS.put];omega,by simp [RS.put],rfl⟩
 rename_i h4;rw [if_neg h4];split at h
 ·rename_i h5;rw [if_pos h5];exact ⟨hl,by simp,by simp;omega,rfl⟩
 ·exact absurd h (by simp)
theorem RI.step {r:RS} {s:ByteArray} {p:Nat} {c:Int} (h:RI r p) (he:(r.step s p c).er=0):RI (r.step s p c) (p + 1):=by
 have h1:=close_len (r:={ r with nt:=false }) s p;have h2:=close_line (r:={ r with nt:=false }) s p;have h3:=close_fr (r:={ r with nt:=false }) s p;have h4:=close_good (r:={ r with nt:=false }) s p h.len;unfold RS.step at *;split at he
 ·rename_i h5;rw [if_pos h5];have h6:=one_good c (h4 h5) he;have hl:=h.line;refine ⟨he,h6.1,?_,?_⟩
  ·simp only at h2;omega
  ·rw [h6.2.2.2];omega
 ·rename_i h5;exact absurd he h5
theorem step_len {r:RS} {s:ByteArray} {p:Nat} (h:RI r p):(({ r with nt:=false }:RS).close s p).xs.length ≤ 801:=by
 have h1:=close_len (r:={ r with nt:=false }) s p;have:=h.len;simp only at h1;omega
end Go.Proofs.Ytjbjbeihkoeciaa.X
set_option linter.unusedSimpArgs false
set_option linter.unusedVariables false
namespace Go.Proofs.Ytjbjbeihkoeciaa.X
open Go.RowKit Go.Proofs.YtjbjbeihkoeciaaW.PrintWords Go.Proofs.YtjbjbeihkoeciaaW.PrintLast Go.Proofs.YtjbjbeihkoeciaaW.PrintMore
theorem part_any (c:Int) (w:World):Calls Try.prog 138 #[.int .i32 c] w fun e w'=>e = .returned (.bool (partB c))∧w=w':=by
 obtain ⟨a,ha⟩:∃ a,Hid (letB c=a):=⟨_,Lib.hid rfl⟩;obtain ⟨b,hb⟩:∃ a,Hid (digB c=a):=⟨_,Lib.hid rfl⟩;have hp:Hid (partB c=(a || b || decide (c=45))):=Lib.hid (by unfold partB;rw [ha.out,hb.out]);cases a with
 | true =>
  go_enter Try.func138,Try.ntmps138;go_wp2_with (first|(go_at_call 148;refine (letter_any _ _).mono ?_;rintro e w' ⟨rfl,rfl⟩;rw [ha.out])|(go_at_call 149;refine (digit_any _ _).mono ?_;rintro e w' ⟨rfl,rfl⟩;rw [hb.out]));go_ret;exact ⟨by rw [hp.out];rfl,rfl⟩
 | false =>
  cases b with
  | true =>
   go_enter Try.func138,Try.ntmps138;go_wp2_with (first|(go_at_call 148;refine (letter_any _ _).mono ?_;rintro e w' ⟨rfl,rfl⟩;rw [ha.out])|(go_at_call 149;refine (digit_any _ _).mono ?_;rintro e w' ⟨rfl,rfl⟩;rw [hb.out]));go_ret;exact ⟨by rw [hp.out];rfl,rfl⟩
  | false =>
   go_enter Try.func138,Try.ntmps138;go_wp2_with (first|(go_at_call 148;refine (letter_any _ _).mono ?_;rintro e w' ⟨rfl,rfl⟩;rw [ha.out])|(go_at_call 149;refine (digit_any _ _).mono ?_;rintro e w' ⟨rfl,rfl⟩;rw [hb.out]));go_ret;exact ⟨ret_bool (by rw [hp.out];rfl),rfl⟩
theorem RP.restart {w0 wi:World} {base g:Nat} {s:ByteArray} {w:World} {r:RS} (h:RP w0 wi base g s w r):RP w0 w base g s w r:=by
 obtain ⟨lv,h1,h2,h3,_⟩:=h;exact ⟨lv,h1,h2,h3,ItKept.refl _⟩
theorem RP.iterAt {w0 wi:World} {base g k:Nat} {s t:ByteArray} {w:World} {r:RS} {pos:Nat} (h:RP w0 wi base g s w r) (hk:w.heap[k]? = some (.stringIter t pos)) (hb:base ≤ k) (pos':Nat):RP w0 (w.iterAt k t pos') base g s (w.iterAt k t pos') r:=by
 obtain ⟨lv,h1,h2,h3,_⟩:=h;have hg:g ≠ k:=by
  rintro rfl;rw [h1] at hk;cases hk
 refine ⟨lv,(Lib.iterAt_other w k g t pos' hg).trans h1,?_,Lib.below_iterAt h3 hb t pos',ItKept.refl _⟩;refine Kd.R_mono (Kd.R_move (Kd.R_bound h2) (fun i hi=>?_)) (fun _ _=>trivial);obtain ⟨_,_,_,q,_,cells,hc⟩:=hi;refine Lib.iterAt_other w k i t pos' ?_;rintro rfl;rw [hc] at hk;cases hk
theorem RP.facts {w0 wi:World} {base g:Nat} {s:ByteArray} {w:World} {r:RS} (h:RP w0 wi base g s w r) :
  w.cell? ⟨g,2,none⟩=some (.int .i64 r.line)∧w.cell? ⟨g,3,none⟩=some (.int .i64 r.fr)∧w.cell? ⟨g,4,none⟩=some (.bool r.nt)∧w.cell? ⟨g,5,none⟩=some (.int .i64 r.er)∧(∀ j,w.frozen? ⟨g,j,none⟩=false):=by
 obtain ⟨lv,h1,_,_,_⟩:=h;exact ⟨blk_cell h1 2,blk_cell h1 3,blk_cell h1 4,blk_cell h1 5,fun j=>blk_frozen h1 j⟩
theorem rune_part {d:ByteArray} {pos:Nat} (hr:(byt d pos < 128∧((Utf8.decode d pos).1:Int)=byt d pos∧(Utf8.decode d pos).2=1) ∨ (128 ≤ byt d pos∧128 ≤ ((Utf8.decode d pos).1:Int)∧1 ≤ (Utf8.decode d pos).2)):partB ((Utf8.decode d pos).1:Int)=partB (byt d pos):=by
 rcases hr with ⟨_,h,_⟩ | ⟨h,h',_⟩
 ·rw [h]
 ·unfold partB;rw [digB_f (by omega),digB_f (by omega),letB_f (by omega),letB_f (by omega),decide_eq_false (by omega),decide_eq_false (by omega)]
theorem part_ascii {c:Int} (h:partB c=true):c < 128:=by
 unfold partB letB digB at h;simp at h;omega
theorem one_rune {d:ByteArray} {pos:Nat} (r:RS) (hr:(byt d pos < 128∧((Utf8.decode d pos).1:Int)=byt d pos∧(Utf8.decode d pos).2=1) ∨ (128 ≤ byt d pos∧128 ≤ ((Utf8.decode d pos).1:Int)∧1 ≤ (Utf8.decode d pos).2)) :
  r.one ((Utf8.decode d pos).1:Int)=r.one (byt d pos)∧((r.one (byt d pos)).er=0 → (Utf8.decode d pos).2=1):=by
 rcases hr with ⟨_,h,h2⟩ | ⟨h,h',_⟩
 ·rw [h];exact ⟨rfl,fun _=>h2⟩
 ·have e1:∀ c:Int,128 ≤ c → r.one c = { r with er:=2 }:=by
   intro c hc;unfold RS.one;rw [if_neg (by omega),if_neg (by omega),if_neg (by omega),if_neg (by omega),if_neg (by omega)]
  rw [e1 _ h',e1 _ h];exact ⟨rfl,fun h=>by simp at h⟩
theorem iterPos_of {w:World} {k:Nat} {s:ByteArray} {p:Nat} (h:w.heap[k]? = some (.stringIter s p)):w.iterPos k=p:=by simp [World.iterPos,h]
theorem rf_part {s:ByteArray} {n pos:Nat} {r:RS} (hn:pos + n=s.size) (hp:pos < s.size) (hA:¬ (r.nt=true∧¬ byt s pos=10)) (hP:partB (byt s pos)=true):rf s n r=rf s (n - 1) (r.from_ pos):=by
 obtain ⟨m,rfl⟩:∃ m,n=m + 1:=⟨n - 1,by omega⟩;(have hpos:s.size - (m + 1)=pos:=by omega);rw [rf,hpos,if_neg hA,if_pos hP,Nat.add_sub_cancel]
theorem rf_step {s:ByteArray} {n pos:Nat} {r:RS} (hn:pos + n=s.size) (hp:pos < s.size) (hA:¬ (r.nt=true∧¬ byt s pos=10)) (hP:partB (byt s pos)=false) :
  rf s n r=if (r.step s pos (byt s pos)).er=0 then rf s (n - 1) (r.step s pos (byt s pos)) else ([],r.line,(r.step s pos (byt s pos)).er):=by
 obtain ⟨m,rfl⟩:∃ m,n=m + 1:=⟨n - 1,by omega⟩;(have hpos:s.size - (m + 1)=pos:=by omega);rw [rf,hpos,if_neg hA,if_neg (by rw [hP];decide),Nat.add_sub_cancel]
def ReadPost (w:World) (x:List S166 × Int × Int) (e:Ending) (w':World):Prop :=
 ∃ v0_:Value,e = .returned (.tuple #[v0_,.int .i64 x.2.1,.int .i64 x.2.2])∧Kd.R k166 166 w' w.heap.size (fun _=>True) v0_ x.1∧Below w.heap.size w w'
set_option maxRecDepth 1000000 in
set_option maxHeartbeats 4000000 in
theorem read_any (s:ByteArray) (w:World):Calls Try.prog 114 #[.string s] w (ReadPost w (lexR s)):=by
 by_cases hs:4096 < s.size
 ·have HE:=Lib.hid (show lexR s=([],0,7) by unfold lexR;rw [if_pos hs]);have e1:decide (4096 < (s.size:Int))=true:=decide_eq_true (by omega);go_enter Try.func114,Try.ntmps114;go_wp2;go_ret3;rw [HE.out];exact ⟨_,rfl,Kd.R_nil _ _ _ _ _,Below.refl _ _⟩
 have HE:=Lib.hid (show lexR s=rf s s.size ⟨[],1,-1,false,0⟩ by unfold lexR;rw [if_neg hs]);have e1:decide (4096 < (s.size:Int))=false:=decide_eq_false (by omega);go_enter Try.func114,Try.ntmps114;go_wp2_with fail;have hw0:((w.alloc (rdr s (.slice none 0 0) 1 (-1) false 0)).iter s 0).heap[w.heap.size]? = some (rdr s (.slice none 0 0) 1 (-1) false 0) :=
  ((below_alloc (Below.refl _ (w.alloc (rdr s (.slice none 0 0) 1 (-1) false 0))) _).block w.heap.size (by simp)).trans (heap_alloc_new w _)
 have HW0:Hid (RP w ((w.alloc (rdr s (.slice none 0 0) 1 (-1) false 0)).iter s 0) w.heap.size w.heap.size s ((w.alloc (rdr s (.slice none 0 0) 1 (-1) false 0)).iter s 0) ⟨[],1,-1,false,0⟩) :=
  Lib.hid ⟨_,hw0,Kd.R_nil _ _ _ _ _,below_alloc (below_alloc (Below.refl _ _) _) _,ItKept.refl _⟩
 have HI0:Hid (((w.alloc (rdr s (.slice none 0 0) 1 (-1) false 0)).iter s 0).heap[w.heap.size + 1]? = some (.stringIter s 0)):=by
  have:=World.iter_heap (w.alloc (rdr s (.slice none 0 0) 1 (-1) false 0)) s 0;exact Lib.hid (by simpa using this)
 clear hw0;go_loopw [] (fun wr=>∃ (n:Nat) (r:RS),n ≤ s.size∧Hid (wr.heap[w.heap.size + 1]? = some (.stringIter s (s.size - n)))∧Hid (RP w wr w.heap.size w.heap.size s wr r)∧Hid (RI r (s.size - n))∧Hid (rf s n r=lexR s)) (fun wr=>s.size - wr.iterPos (w.heap.size + 1))
 case atStart =>
  exact ⟨s.size,_,Nat.le_refl _,by rw [Nat.sub_self];exact HI0,HW0,Lib.hid (RI.start _),Lib.hid HE.out.symm⟩
 case round =>
  clear HI0 HW0;obtain ⟨n,r,hn,HIT,HP,HI,HR⟩:=hrel;obtain ⟨pos,hpos⟩:∃ pos,pos=s.size - n:=⟨_,rfl⟩;rw [← hpos] at HIT HI;have HPOS:=Lib.hid hpos;(have hnp:pos + n=s.size:=by omega);clear hpos;have HIP:Hid (wr.iterPos (w.heap.size + 1)=pos):=Lib.hid (iterPos_of HIT.out);by_cases hp:pos < s.size
  ·have HS:=Lib.hid (decode_span s pos hp);have hd1:=HS.out.1;have hd2:=HS.out.2.1;have HB:=Lib.hid (rune_byte s pos hp);(have hnx:∀ ty,(Instr.next (.pointer (some ⟨w.heap.size + 1,0,none⟩)) true ty).run Try.prog wr=_:=fun ty=>Lib.run_next_any_at wr (w.heap.size + 1) s pos ty HIT.out hp);have HP1:=Lib.hid (HP.out.iterAt HIT.out (by omega) (pos + (Utf8.decode s pos).2));have HIT1:=Lib.hid (Lib.iterAt_heap wr (w.heap.size + 1) s pos (pos + (Utf8.decode s pos).2) HIT.out);obtain ⟨d2,d3,d4,d5,dz⟩:=HP1.out.facts;by_cases hA:r.nt=true∧¬ byt s pos=10
   ·have hc10:(((Utf8.decode s pos).1:Int) != 10)=true:=by
     rw [bne_iff_ne];rcases HB.out with ⟨_,h,_⟩ | ⟨h,h',_⟩
     ·rw [h];exact hA.2
     ·omega
    rw [hA.1] at d4;have HA:=Lib.hid hA;clear hA;go_wp2_with fail;go_roundw
    case rel =>
     refine ⟨n - (Utf8.decode s pos).2,r,by omega,?_,HP1,?_,?_⟩
     ·rw [show s.size - (n - (Utf8.decode s pos).2)=pos + (Utf8.decode s pos).2 by omega];exact HIT1
     ·rw [show s.size - (n - (Utf8.decode s pos).2)=pos + (Utf8.decode s pos).2 by omega];exact Lib.hid (HI.out.later (by omega))
     ·rw [← HR.out];refine Lib.hid (rf_skip s r HA.out.1 (Utf8.decode s pos).2 n (by omega) hn (fun j hj=>?_)).symm;rw [← HPOS.out];rcases j with _|j
      ·exact HA.out.2
      ·have:=HS.out.2.2 (j + 1) (by omega) hj;omega
    case measure =>
     rw [HIP.out,iterPos_of HIT1.out];omega
   ·by_cases hnt:r.nt=true
    ·(have h10:byt s pos=10:=Decidable.byContradiction fun h=>hA ⟨hnt,h⟩);have hc10:(((Utf8.decode s pos).1:Int) != 10)=false:=by
      rw [bne_eq_false_iff_eq];rcases HB.out with ⟨_,h,_⟩ | ⟨h,h',_⟩
      ·rw [h];exact h10
      ·omega
     have HPB:Hid (partB (byt s pos)=false):=Lib.hid (by rw [h10];rfl);rw [hnt] at d4;have HA:=Lib.hid hA;clear hA hnt h10;have HPT:=Lib.hid (rf_step hnp hp HA.out HPB.out);(have hpr:partB ((Utf8.decode s pos).1:Int)=false:=by rw [rune_part HB.out];exact HPB.out);have HP2:=Lib.hid (HP1.out.set (Nat.le_refl _) (r':={ r with nt:=false }) 4 (.bool false) rfl (fun _=>rfl));have hw2:=dz 4;go_wp2_with (go_at_call 138;refine (part_any _ _).mono ?_;rintro e w' ⟨rfl,rfl⟩;rw [hpr]);generalize hW2:(wr.iterAt (w.heap.size + 1) s (pos + (Utf8.decode s pos).2)).setCell ⟨w.heap.size,4,none⟩ (.bool false)=W2 at *;have HIT2:Hid (W2.heap[w.heap.size + 1]? = some (.stringIter s (pos + (Utf8.decode s pos).2))):=by
      obtain ⟨lv,h1,_⟩:=HP1.out;rw [← hW2];exact Lib.hid (ItKept.set h1 4 _ _ _ _ HIT1.out)
     clear hW2 hw2 d2 d3 d4 d5 dz;have hlen:=HI.out.len;refine (close_rs w W2 w.heap.size w.heap.size s W2 { r with nt:=false } pos HP2.out.restart (Nat.le_refl _) (by simp only;omega) HI.out.fr (by omega) (by omega)).mono ?_;rintro e w1 ⟨rfl,hP3⟩;obtain ⟨r1,Hr1⟩:∃ r1,Hid (({ r with nt:=false }:RS).close s pos=r1):=⟨_,Lib.hid rfl⟩;(have hl1:r1.xs.length ≤ 801:=by rw [← Hr1.out];exact step_len HI.out);(have hln1:r1.line=r.line:=by rw [← Hr1.out];exact close_line s pos);rw [Hr1.out] at hP3;have HP3:=Lib.hid hP3;have HIT3:Hid (w1.heap[w.heap.size + 1]? = some (.stringIter s (pos + (Utf8.decode s pos).2))):=by
      obtain ⟨_,_,_,_,h⟩:=hP3;exact Lib.hid (h _ _ _ HIT2.out)
     clear hP3 HIT2 HP2;have hline:=HI.out.line;have HLN:=Lib.hid hln1;(have hlr:0 ≤ r1.line∧r1.line ≤ 100000:=by rw [hln1];omega);clear hln1 hline;obtain ⟨d2,d3,d4,d5,dz⟩:=HP3.out.facts;by_cases he1:r1.er=0
     ·(have he1':(r1.er == 0)=true:=by rw [he1];rfl);have HE1:=Lib.hid he1;clear he1;go_wp2_with fail;clear d2 d3 d4 d5 dz;refine (one_rs w w1 w.heap.size w.heap.size s w1 r1 _ HP3.out.restart (Nat.le_refl _) (by omega) hlr).mono ?_;rintro e w2 ⟨rfl,hP4⟩;rw [(one_rune r1 HB.out).1] at hP4;obtain ⟨r2,Hr2⟩:∃ r2,Hid (r1.one (byt s pos)=r2):=⟨_,Lib.hid rfl⟩;rw [Hr2.out] at hP4;have HST:Hid (r.step s pos (byt s pos)=r2):=Lib.hid (by unfold RS.step;rw [Hr1.out,if_pos HE1.out];exact Hr2.out);have HP4:=Lib.hid hP4;have HIT4:Hid (w2.heap[w.heap.size + 1]? = some (.stringIter s (pos + (Utf8.decode s pos).2))):=by
       obtain ⟨_,_,_,_,h⟩:=hP4;exact Lib.hid (h _ _ _ HIT3.out)
      clear hP4 HIT3 HP3;obtain ⟨d2,d3,d4,d5,dz⟩:=HP4.out.facts;by_cases he2:r2.er=0
      ·(have he2':(r2.er != 0)=false:=by rw [he2];rfl);have HW1:Hid ((Utf8.decode s pos).2=1):=Lib.hid ((one_rune r1 HB.out).2 (by rw [Hr2.out];exact he2));have HE2:=Lib.hid he2;clear he2;go_wp2_with fail;go_roundw
       case rel =>
        refine ⟨n - 1,r2,by omega,?_,Lib.hid HP4.out.restart,?_,?_⟩
        ·rw [show s.size - (n - 1)=pos + (Utf8.decode s pos).2 by rw [HW1.out];omega];exact HIT4
        ·rw [show s.size - (n - 1)=pos + 1 by omega];refine Lib.hid ?_;rw [← HST.out];exact HI.out.step (by rw [HST.out];exact HE2.out)
        ·rw [← HR.out,HPT.out,HST.out,if_pos HE2.out];exact Lib.hid rfl
       case measure =>
        rw [HIP.out,iterPos_of HIT4.out,HW1.out];omega
      ·(have he2':(r2.er != 0)=true:=by rw [bne_iff_ne];exact he2);have HE2:=Lib.hid he2;clear he2;have HB4:Hid (Below w.heap.size w w2):=by
        obtain ⟨_,_,_,h,_⟩:=HP4.out;exact Lib.hid h
       go_wp2;go_quiet (fail);go_wp2;go_ret3;rw [← HR.out,HPT.out,HST.out,if_neg HE2.out];exact ⟨_,rfl,Kd.R_nil _ _ _ _ _,pw_below_drewN HB4.out _⟩
     ·(have he1':(r1.er == 0)=false:=by simpa using he1);(have he1n:(r1.er != 0)=true:=by rw [bne_iff_ne];exact he1);have HST:Hid (r.step s pos (byt s pos)=r1):=Lib.hid (by unfold RS.step;rw [Hr1.out,if_neg he1]);have HE1:=Lib.hid he1;clear he1;have HB3:Hid (Below w.heap.size w w1):=by
       obtain ⟨_,_,_,h,_⟩:=HP3.out;exact Lib.hid h
      go_wp2;go_quiet (fail);go_wp2;go_ret3;rw [← HR.out,HPT.out,HST.out,if_neg HE1.out];exact ⟨_,rfl,Kd.R_nil _ _ _ _ _,pw_below_drewN HB3.out _⟩
    ·(have hnf:r.nt=false:=by simpa using hnt);rw [hnf] at d4;have HA:=Lib.hid hA;clear hA hnt hnf;by_cases hpb:partB (byt s pos)=true
     ·have HPT:=Lib.hid (rf_part hnp hp HA.out hpb);(have hpr:partB ((Utf8.decode s pos).1:Int)=true:=by rw [rune_part HB.out];exact hpb);have HW1:Hid ((Utf8.decode s pos).2=1):=by
       have:=part_ascii hpb;rcases HB.out with ⟨_,_,h⟩ | ⟨h,_,_⟩
       ·exact Lib.hid h
       ·omega
      have HI2:=Lib.hid ((HI.out.from_).later (Nat.le_succ pos));by_cases hf:r.fr < 0
      ·have hf':decide (r.fr < 0)=true:=decide_eq_true hf;have HFR:Hid (r.from_ pos = { r with fr:=pos }):=Lib.hid (by unfold RS.from_;rw [if_pos hf]);have HP2:=Lib.hid (HP1.out.set (Nat.le_refl _) (r':={ r with fr:=pos }) 3 (.int .i64 (pos:Int)) rfl (fun _=>rfl));have HIT2:Hid (((wr.iterAt (w.heap.size + 1) s (pos + (Utf8.decode s pos).2)).setCell ⟨w.heap.size,3,none⟩ (.int .i64 (pos:Int))).heap[w.heap.size + 1]? = some (.stringIter s (pos + (Utf8.decode s pos).2))):=by
        obtain ⟨lv,h1,_⟩:=HP1.out;exact Lib.hid (ItKept.set h1 3 _ _ _ _ HIT1.out)
       clear hf hpb;go_wp2_with (go_at_call 138;refine (part_any _ _).mono ?_;rintro e w' ⟨rfl,rfl⟩;rw [hpr]);go_roundw
       case rel =>
        refine ⟨n - 1,_,by omega,?_,Lib.hid HP2.out.restart,?_,?_⟩
        ·rw [show s.size - (n - 1)=pos + (Utf8.decode s pos).2 by rw [HW1.out];omega];exact HIT2
        ·rw [show s.size - (n - 1)=pos + 1 by omega,← HFR.out];exact HI2
        ·rw [← HR.out,HPT.out,HFR.out];exact Lib.hid rfl
       case measure =>
        rw [HIP.out,iterPos_of HIT2.out,HW1.out];omega
      ·have hf':decide (r.fr < 0)=false:=decide_eq_false hf;have HFR:Hid (r.from_ pos=r):=Lib.hid (by unfold RS.from_;rw [if_neg hf]);clear hf hpb;go_wp2_with (go_at_call 138;refine (part_any _ _).mono ?_;rintro e w' ⟨rfl,rfl⟩;rw [hpr]);go_roundw
       case rel =>
        refine ⟨n - 1,r,by omega,?_,HP1,?_,?_⟩
        ·rw [show s.size - (n - 1)=pos + (Utf8.decode s pos).2 by rw [HW1.out];omega];exact HIT1
        ·rw [show s.size - (n - 1)=pos + 1 by omega,← HFR.out];exact HI2
        ·rw [← HR.out,HPT.out,HFR.out];exact Lib.hid rfl
       case measure =>
        rw [HIP.out,iterPos_of HIT1.out,HW1.out];omega
     ·have HPB:Hid (partB (byt s pos)=false):=Lib.hid (by simpa using hpb);clear hpb;have HPT:=Lib.hid (rf_step hnp hp HA.out HPB.out);(have hpr:partB ((Utf8.decode s pos).1:Int)=false:=by rw [rune_part HB.out];exact HPB.out);have HP2:=Lib.hid (HP1.out.set (Nat.le_refl _) (r':={ r with nt:=false }) 4 (.bool false) rfl (fun _=>rfl));have hw2:=dz 4;go_wp2_with (go_at_call 138;refine (part_any _ _).mono ?_;rintro e w' ⟨rfl,rfl⟩;rw [hpr]);generalize hW2:(wr.iterAt (w.heap.size + 1) s (pos + (Utf8.decode s pos).2)).setCell ⟨w.heap.size,4,none⟩ (.bool false)=W2 at *;have HIT2:Hid (W2.heap[w.heap.size + 1]? = some (.stringIter s (pos + (Utf8.decode s pos).2))):=by
       obtain ⟨lv,h1,_⟩:=HP1.out;rw [← hW2];exact Lib.hid (ItKept.set h1 4 _ _ _ _ HIT1.out)
      clear hW2 hw2 d2 d3 d4 d5 dz;have hlen:=HI.out.len;refine (close_rs w W2 w.heap.size w.heap.size s W2 { r with nt:=false } pos HP2.out.restart (Nat.le_refl _) (by simp only;omega) HI.out.fr (by omega) (by omega)).mono ?_;rintro e w1 ⟨rfl,hP3⟩;obtain ⟨r1,Hr1⟩:∃ r1,Hid (({ r with nt:=false }:RS).close s pos=r1):=⟨_,Lib.hid rfl⟩;(have hl1:r1.xs.length ≤ 801:=by rw [← Hr1.out];exact step_len HI.out);(have hln1:r1.line=r.line:=by rw [← Hr1.out];exact close_line s pos);rw [Hr1.out] at hP3;have HP3:=Lib.hid hP3;have HIT3:Hid (w1.heap[w.heap.size + 1]? = some (.stringIter s (pos + (Utf8.decode s pos).2))):=by
       obtain ⟨_,_,_,_,h⟩:=hP3;exact Lib.hid (h _ _ _ HIT2.out)
      clear hP3 HIT2 HP2;have hline:=HI.out.line;have HLN:=Lib.hid hln1;(have hlr:0 ≤ r1.line∧r1.line ≤ 100000:=by rw [hln1];omega);clear hln1 hline;obtain ⟨d2,d3,d4,d5,dz⟩:=HP3.out.facts;by_cases he1:r1.er=0
      ·(have he1':(r1.er == 0)=true:=by rw [he1];rfl);have HE1:=Lib.hid he1;clear he1;go_wp2_with fail;clear d2 d3 d4 d5 dz;refine (one_rs w w1 w.heap.size w.heap.size s w1 r1 _ HP3.out.restart (Nat.le_refl _) (by omega) hlr).mono ?_;rintro e w2 ⟨rfl,hP4⟩;rw [(one_rune r1 HB.out).1] at hP4;obtain ⟨r2,Hr2⟩:∃ r2,Hid (r1.one (byt s pos)=r2):=⟨_,Lib.hid rfl⟩;rw [Hr2.out] at hP4;have HST:Hid (r.step s pos (byt s pos)=r2):=Lib.hid (by unfold RS.step;rw [Hr1.out,if_pos HE1.out];exact Hr2.out);have HP4:=Lib.hid hP4;have HIT4:Hid (w2.heap[w.heap.size + 1]? = some (.stringIter s (pos + (Utf8.decode s pos).2))):=by
        obtain ⟨_,_,_,_,h⟩:=hP4;exact Lib.hid (h _ _ _ HIT3.out)
       clear hP4 HIT3 HP3;obtain ⟨d2,d3,d4,d5,dz⟩:=HP4.out.facts;by_cases he2:r2.er=0
       ·(have he2':(r2.er != 0)=false:=by rw [he2];rfl);have HW1:Hid ((Utf8.decode s pos).2=1):=Lib.hid ((one_rune r1 HB.out).2 (by rw [Hr2.out];exact he2));have HE2:=Lib.hid he2;clear he2;go_wp2_with fail;go_roundw
        case rel =>
         refine ⟨n - 1,r2,by omega,?_,Lib.hid HP4.out.restart,?_,?_⟩
         ·rw [show s.size - (n - 1)=pos + (Utf8.decode s pos).2 by rw [HW1.out];omega];exact HIT4
         ·rw [show s.size - (n - 1)=pos + 1 by omega];refine Lib.hid ?_;rw [← HST.out];exact HI.out.step (by rw [HST.out];exact HE2.out)
         ·rw [← HR.out,HPT.out,HST.out,if_pos HE2.out];exact Lib.hid rfl
        case measure =>
         rw [HIP.out,iterPos_of HIT4.out,HW1.out];omega
       ·(have he2':(r2.er != 0)=true:=by rw [bne_iff_ne];exact he2);have HE2:=Lib.hid he2;clear he2;have HB4:Hid (Below w.heap.size w w2):=by
         obtain ⟨_,_,_,h,_⟩:=HP4.out;exact Lib.hid h
        go_wp2;go_quiet (fail);go_wp2;go_ret3;rw [← HR.out,HPT.out,HST.out,if_neg HE2.out];exact ⟨_,rfl,Kd.R_nil _ _ _ _ _,pw_below_drewN HB4.out _⟩
      ·(have he1':(r1.er == 0)=false:=by simpa using he1);(have he1n:(r1.er != 0)=true:=by rw [bne_iff_ne];exact he1);have HST:Hid (r.step s pos (byt s pos)=r1):=Lib.hid (by unfold RS.step;rw [Hr1.out,if_neg he1]);have HE1:=Lib.hid he1;clear he1;have HB3:Hid (Below w.heap.size w w1):=by
        obtain ⟨_,_,_,h,_⟩:=HP3.out;exact Lib.hid h
       go_wp2;go_quiet (fail);go_wp2;go_ret3;rw [← HR.out,HPT.out,HST.out,if_neg HE1.out];exact ⟨_,rfl,Kd.R_nil _ _ _ _ _,pw_below_drewN HB3.out _⟩
  ·(obtain rfl:n=0:=by omega);(have hnx:∀ ty,(Instr.next (.pointer (some ⟨w.heap.size + 1,0,none⟩)) true ty).run Try.prog wr=_:=fun ty=>Lib.run_next_end_at wr (w.heap.size + 1) s pos ty HIT.out hp);have hlen:=HI.out.len;have hfr:=HI.out.fr;go_wp2_with fail;refine (close_rs w wr w.heap.size w.heap.size s wr r s.size HP.out.restart (Nat.le_refl _) (by omega) (by omega) (Nat.le_refl _) (by omega)).mono ?_;rintro e w1 ⟨rfl,hP1⟩;obtain ⟨r1,Hr1⟩:∃ r1,Hid (r.close s s.size=r1):=⟨_,Lib.hid rfl⟩;(have hl1:r1.xs.length ≤ 801:=by rw [← Hr1.out];have:=close_len (r:=r) s s.size;omega);rw [Hr1.out] at hP1;have HP1:=Lib.hid hP1;clear hP1;obtain ⟨d2,d3,d4,d5,dz⟩:=HP1.out.facts;have HF:Hid (lexR s=r.fin s):=Lib.hid (by rw [← HR.out];rfl);by_cases he1:r1.er=0
   ·(have he1':(r1.er == 0)=true:=by rw [he1];rfl);have HLA:Hid (r.last s=r1.put 0 ⟨#[]⟩ 0):=Lib.hid (by unfold RS.last;rw [Hr1.out,if_pos he1]);clear he1;go_wp2_with fail;clear d2 d3 d4 d5 dz;refine (put_rs w w1 w.heap.size w.heap.size s w1 r1 0 ⟨#[]⟩ 0 0 HP1.out.restart (Nat.le_refl _) (by omega)).mono ?_;rintro e w2 ⟨rfl,hP2⟩;obtain ⟨r2,Hr2⟩:∃ r2,Hid (r1.put 0 ⟨#[]⟩ 0=r2):=⟨_,Lib.hid rfl⟩;rw [Hr2.out] at hP2;have HP2:=Lib.hid hP2;clear hP2;obtain ⟨lv,k1,k2,k3,k4⟩:=HP2.out;have d1:=blk_cell k1 1;have K1:=Lib.hid k1;have K2:=Lib.hid k2;have K3:=Lib.hid k3;clear k1 k2 k3 k4;obtain ⟨d2,d3,d4,d5,dz⟩:=HP2.out.facts;by_cases he2:r2.er=0
    ·(have he2':(r2.er != 0)=false:=by rw [he2];rfl);have HX:Hid (lexR s=(r2.xs,0,0)):=Lib.hid (by rw [HF.out];unfold RS.fin;rw [HLA.out,Hr2.out,if_pos he2]);clear he2;go_wp2;go_ret3;rw [HX.out];exact ⟨_,rfl,K2.out,K3.out⟩
    ·(have he2':(r2.er != 0)=true:=by rw [bne_iff_ne];exact he2);have HX:Hid (lexR s=([],r2.line,r2.er)):=Lib.hid (by rw [HF.out];unfold RS.fin;rw [HLA.out,Hr2.out,if_neg he2]);clear he2;go_wp2;go_quiet (fail);go_wp2;go_ret3;rw [HX.out];exact ⟨_,rfl,Kd.R_nil _ _ _ _ _,pw_below_drewN K3.out _⟩
   ·(have he1':(r1.er == 0)=false:=by simpa using he1);(have he1n:(r1.er != 0)=true:=by rw [bne_iff_ne];exact he1);have HLA:Hid (r.last s=r1):=Lib.hid (by unfold RS.last;rw [Hr1.out,if_neg he1]);have HX:Hid (lexR s=([],r1.line,r1.er)):=Lib.hid (by rw [HF.out];unfold RS.fin;rw [HLA.out,if_neg he1]);clear he1;have HB3:Hid (Below w.heap.size w w1):=by
     obtain ⟨_,_,_,h,_⟩:=HP1.out;exact Lib.hid h
    go_wp2;go_quiet (fail);go_wp2;go_ret3;rw [HX.out];exact ⟨_,rfl,Kd.R_nil _ _ _ _ _,pw_below_drewN HB3.out _⟩
end Go.Proofs.Ytjbjbeihkoeciaa.X
namespace Go.Proofs.Ytjbjbeihkoeciaa.X
open Go.RowKit Go.Proofs.YtjbjbeihkoeciaaW.PrintWords
def lex_Read.f (a0:ByteArray):Option (List S166 × Int × Int):=some (lexR a0)
theorem lex_Read.calls (a0:ByteArray) (r1:List S166) (r2:Int) (r3:Int) (w:World) (h:lex_Read.f a0=some (r1,r2,r3)) :
  Calls Try.prog 114 #[.string a0] w fun e w'=>∃ v0_:Value,e = .returned (.tuple #[v0_,.int .i64 r2,.int .i64 r3])∧Kd.R k166 166 w' w.heap.size (fun _=>True) v0_ r1∧Below w.heap.size w w':=by
 have h':lexR a0=(r1,r2,r3):=Option.some.inj h;have:=read_any a0 w;rw [h'] at this;exact this
end Go.Proofs.Ytjbjbeihkoeciaa.X
namespace Go.Proofs.Ytjbjbeihkoeciaa.X
open Go.RowKit Go.Proofs.YtjbjbeihkoeciaaW.PrintWords Go.Proofs.YtjbjbeihkoeciaaW.PrintLast Go.Proofs.YtjbjbeihkoeciaaW.PrintMore
attribute [local go_sem] max2_int min2_int max_two min_two max_three min_three max_four min_four
set_option linter.unusedVariables false
set_option linter.unusedSimpArgs false
def slices_Index_string.l0:Nat → List ByteArray → ByteArray → Int → Int → Option (Int)
 | 0,_,_,_,_=>none
 | k + 1,x0,x1,x7,x8=>if x8 < x7 then (if 0 ≤ x8 then (if x8 < (x0.length:Int) then (if x1.toList=(rdOf ByteArray.empty x0 x8).toList then (some x8) else (slices_Index_string.l0 k x0 x1 x7 (wrap64 (x8 + 1)))) else (none)) else (none)) else (some (-1))
def slices_Index_string.f (k:Nat) (l0:List ByteArray) (a1:ByteArray):Option (Int):=slices_Index_string.l0 k l0 a1 (l0.length:Int) 0
set_option maxHeartbeats 8000000 in
set_option maxRecDepth 100000 in
theorem slices_Index_string.calls (k:Nat) (A0:Option Addr) (c0:Nat) (l0:List ByteArray) (a1:ByteArray) (r:Int) (w:World) (hr0:Kd.C Kd.string w A0 l0.length l0) (hc0:l0.length ≤ c0) (h:slices_Index_string.f k l0 a1=some r) :
  Calls Try.prog 135 #[.slice A0 l0.length c0,.string a1] w fun e w'=>e = .returned (.int .i64 r)∧Drawn0 w w':=by
 have HR0:=Aside0.mk hr0;have HC0:=Aside0.mk hc0;clear hr0 hc0;have H:(slices_Index_string.l0 k l0 a1 (l0.length:Int) 0)=some r:=h;clear h;have H':=Aside0.mk H;clear H;go_enter Try.func135,Try.ntmps135;go_wp2;go_loopg [8] k (fun kq v8 w'=>∃ (x8_1:Int),v8 = .int .i64 x8_1∧Aside0 (slices_Index_string.l0 kq l0 a1 (l0.length:Int) x8_1=some r)∧Aside0 (kq ≤ k)∧Drawn0 w w')
 case atStart=>exact ⟨(0),(by first|rfl|(simp;done)|(simp [*];done)),H',⟨Nat.le_refl _⟩,by repeat (first|exact Drawn0.refl _|apply Drawn0.step)⟩
 case round =>
  clear H';(try clear c1);(try clear p2);obtain ⟨x8_1,rfl,HA,HK1,⟨m1,rfl⟩⟩:=hrel;cases gk with
  | zero=>exact absurd HA.out (by simp [slices_Index_string.l0])
  | succ k1 =>
   have H:=HA.out;clear HA;simp only [slices_Index_string.l0] at H;by_cases c3:x8_1 < (l0.length:Int)
   ·rw [if_pos c3] at H;have c3b0:decide (x8_1 < (l0.length:Int))=true:=decide_eq_true c3;clear c3;by_cases c4:0 ≤ x8_1
    ·rw [if_pos c4] at H;have c4b0:decide (0 ≤ x8_1)=true:=decide_eq_true c4;clear c4;by_cases c5:x8_1 < (l0.length:Int)
     ·rw [if_pos c5] at H;have c5b0:decide (x8_1 < (l0.length:Int))=true:=decide_eq_true c5;clear c5;by_cases c6:a1.toList=(rdOf ByteArray.empty l0 x8_1).toList
      ·rw [if_pos c6] at H;have c6b0:(a1.toList == (rdOf ByteArray.empty l0 x8_1).toList)=true:=beq_iff_eq.mpr c6;have c6b1:(a1.toList != (rdOf ByteArray.empty l0 x8_1).toList)=false:=bne_eq_false_iff_eq.mpr c6;clear c6;obtain rfl:=Option.some.inj H;have p206:0 ≤ (x8_1:Int):=of_decide_eq_true (by first|(with_reducible assumption)|assumption);have q206:x8_1 < (l0.length:Int):=of_decide_eq_true (by first|(with_reducible assumption)|assumption);obtain ⟨ad206,e206,hx206_0⟩:=Kd.at_string HR0.out x8_1 p206 q206;cases e206;replace p206:=eq_true p206;replace q206:=eq_true q206;go_wp2;go_ret;exact ⟨by first|rfl|(simp;done)|(simp [*];done),by repeat (first|exact Drawn0.refl _|apply Drawn0.step)⟩
      ·rw [if_neg c6] at H;have c6b0:(a1.toList == (rdOf ByteArray.empty l0 x8_1).toList)=false:=beq_eq_false_iff_ne.mpr c6;have c6b1:(a1.toList != (rdOf ByteArray.empty l0 x8_1).toList)=true:=bne_iff_ne.mpr c6;have H':=Aside0.mk H;clear H;have p206:0 ≤ (x8_1:Int):=of_decide_eq_true (by first|(with_reducible assumption)|assumption);have q206:x8_1 < (l0.length:Int):=of_decide_eq_true (by first|(with_reducible assumption)|assumption);obtain ⟨ad206,e206,hx206_0⟩:=Kd.at_string HR0.out x8_1 p206 q206;cases e206;replace p206:=eq_true p206;replace q206:=eq_true q206;go_wp2;go_roundg k1
       case measure=>have:=HK1.out;omega
       case rel=>exact ⟨(wrap64 (x8_1 + 1)),(by first|rfl|(simp;done)|(simp [*];done)),H',⟨by have:=HK1.out;omega⟩,by repeat (first|exact Drawn0.refl _|apply Drawn0.step)⟩
     ·rw [if_neg c5] at H;exact absurd H (by simp)
    ·rw [if_neg c4] at H;exact absurd H (by simp)
   ·rw [if_neg c3] at H;have c3b0:decide (x8_1 < (l0.length:Int))=false:=decide_eq_false c3;clear c3;obtain rfl:=Option.some.inj H;go_wp2;go_ret;exact ⟨by first|rfl|(simp;done)|(simp [*];done),by repeat (first|exact Drawn0.refl _|apply Drawn0.step)⟩
end Go.Proofs.Ytjbjbeihkoeciaa.X
namespace Go.Proofs.Ytjbjbeihkoeciaa.X
open Go.RowKit Go.Proofs.YtjbjbeihkoeciaaW.PrintWords Go.Proofs.YtjbjbeihkoeciaaW.PrintLast Go.Proofs.YtjbjbeihkoeciaaW.PrintMore
attribute [local go_sem] max2_int min2_int max_two min_two max_three min_three max_four min_four
set_option linter.unusedVariables false
set_option linter.unusedSimpArgs false
def slices_Contains_string.f (k:Nat) (l0:List ByteArray) (a1:ByteArray):Option (Bool):=(slices_Index_string.f k l0 a1).bind fun t207=>(some (decide (t207 ≥ 0)))
set_option maxHeartbeats 8000000 in
set_option maxRecDepth 100000 in
theorem slices_Contains_string.calls (k:Nat) (A0:Option Addr) (c0:Nat) (l0:List ByteArray) (a1:ByteArray) (r:Bool) (w:World) (hr0:Kd.C Kd.string w A0 l0.length l0) (hc0:l0.length ≤ c0) (h:slices_Contains_string.f k l0 a1=some r) :
  Calls Try.prog 105 #[.slice A0 l0.length c0,.string a1] w fun e w'=>e = .returned (.bool r)∧Drawn0 w w':=by
 have HR0:=Aside0.mk hr0;have HC0:=Aside0.mk hc0;clear hr0 hc0;have H:((slices_Index_string.f k l0 a1).bind fun t207=>(some (decide (t207 ≥ 0))))=some r:=h;clear h;replace H:=Option.bind_eq_some_iff.mp H;obtain ⟨t207,A30,H⟩:=H;replace H:(some (decide (t207 ≥ 0)))=some r:=H;have A3:=Aside0.mk A30;clear A30;obtain rfl:=Option.some.inj H;go_enter Try.func105,Try.ntmps105;go_wp2_with (first|((with_reducible refine gate_callee (f:=135) rfl ?_);refine goesL_ (some 7) rfl rfl Try.func135 (by kernel_rfl) rfl #[.slice A0 l0.length c0,.string a1] rfl (by (try simp only [List.map_toArray,List.map_cons,List.map_nil]);first|done|rfl|(simp only [List.length_drop,List.length_take];rfl)) ?_;(with_reducible refine (slices_Index_string.calls k _ _ l0 a1 t207 _ ?side1 ?side2 A3.out).mono ?_);(case side1=>repeat (first|exact HR0.out|(with_reducible refine Kd.C_alloc ?_ _)|(with_reducible refine Kd.C_drewN ?_ _)|(with_reducible refine Kd.C_drew ?_)));(case side2=>exact HC0.out);rintro e w' ⟨rfl,⟨nd,rfl⟩⟩;refine ⟨_,rfl,?_⟩));go_ret;exact ⟨by first|rfl|(simp;done)|(simp [*];done),by repeat (first|exact Drawn0.refl _|apply Drawn0.step)⟩
end Go.Proofs.Ytjbjbeihkoeciaa.X
namespace Go.Proofs.Ytjbjbeihkoeciaa.X
open Go.RowKit Go.Proofs.YtjbjbeihkoeciaaW.PrintWords Go.Proofs.YtjbjbeihkoeciaaW.PrintLast Go.Proofs.YtjbjbeihkoeciaaW.PrintMore
attribute [local go_sem] max2_int min2_int max_two min_two max_three min_three max_four min_four
set_option linter.unusedVariables false
set_option linter.unusedSimpArgs false
def parse_Kept.f (k:Nat) (a0:ByteArray):Option (Bool):=(slices_Contains_string.f k (([(⟨#[115,101,116]⟩:ByteArray),(⟨#[99,111,117,110,116]⟩:ByteArray),(⟨#[110,111,116,101]⟩:ByteArray),(⟨#[114,117,108,101]⟩:ByteArray),(⟨#[111,112]⟩:ByteArray),(⟨#[115,116,114,105,99,116]⟩:ByteArray),(⟨#[114,101,102]⟩:ByteArray),(⟨#[98,111,116,104]⟩:ByteArray),(⟨#[108,105,109,105,116]⟩:ByteArray),(⟨#[109,111,115,116]⟩:ByteArray),(⟨#[108,101,97,115,116]⟩:ByteArray),(⟨#[110,101,101,100,115]⟩:ByteArray),(⟨#[97,100,100]⟩:ByteArray),(⟨#[100,114,111,112]⟩:ByteArray),(⟨#[117,112]⟩:ByteArray),(⟨#[100,111,119,110]⟩:ByteArray),(⟨#[112,117,116]⟩:ByteArray)]:List ByteArray)) a0).bind fun t211=>(some t211)
set_option maxHeartbeats 8000000 in
set_option maxRecDepth 100000 in
theorem parse_Kept.calls (k:Nat) (a0:ByteArray) (r:Bool) (w:World) (h:parse_Kept.f k a0=some r) :
  Calls Try.prog 122 #[.string a0] w fun e w'=>e = .returned (.bool r)∧Below w.heap.size w w':=by
 have HB:=Aside0.mk (Below.refl w.heap.size w);have H:((slices_Contains_string.f k (([(⟨#[115,101,116]⟩:ByteArray),(⟨#[99,111,117,110,116]⟩:ByteArray),(⟨#[110,111,116,101]⟩:ByteArray),(⟨#[114,117,108,101]⟩:ByteArray),(⟨#[111,112]⟩:ByteArray),(⟨#[115,116,114,105,99,116]⟩:ByteArray),(⟨#[114,101,102]⟩:ByteArray),(⟨#[98,111,116,104]⟩:ByteArray),(⟨#[108,105,109,105,116]⟩:ByteArray),(⟨#[109,111,115,116]⟩:ByteArray),(⟨#[108,101,97,115,116]⟩:ByteArray),(⟨#[110,101,101,100,115]⟩:ByteArray),(⟨#[97,100,100]⟩:ByteArray),(⟨#[100,114,111,112]⟩:ByteArray),(⟨#[117,112]⟩:ByteArray),(⟨#[100,111,119,110]⟩:ByteArray),(⟨#[112,117,116]⟩:ByteArray)]:List ByteArray)) a0).bind fun t211=>(some t211))=some r:=h;clear h;obtain ⟨y208,hy208⟩:∃ y_:List ByteArray,y_=(([(⟨#[115,101,116]⟩:ByteArray),(⟨#[99,111,117,110,116]⟩:ByteArray),(⟨#[110,111,116,101]⟩:ByteArray),(⟨#[114,117,108,101]⟩:ByteArray),(⟨#[111,112]⟩:ByteArray),(⟨#[115,116,114,105,99,116]⟩:ByteArray),(⟨#[114,101,102]⟩:ByteArray),(⟨#[98,111,116,104]⟩:ByteArray),(⟨#[108,105,109,105,116]⟩:ByteArray),(⟨#[109,111,115,116]⟩:ByteArray),(⟨#[108,101,97,115,116]⟩:ByteArray),(⟨#[110,101,101,100,115]⟩:ByteArray),(⟨#[97,100,100]⟩:ByteArray),(⟨#[100,114,111,112]⟩:ByteArray),(⟨#[117,112]⟩:ByteArray),(⟨#[100,111,119,110]⟩:ByteArray),(⟨#[112,117,116]⟩:ByteArray)]:List ByteArray)):=⟨_,rfl⟩;(replace H:((slices_Contains_string.f k y208 a0).bind fun t211=>(some t211))=some r:=by first|(rw [hy208];with_reducible exact H)|(have H2_:=(Option.bind_some _ _).symm.trans H;rw [hy208];with_reducible exact H2_)|(have H2_:=(Option.bind_some _ _).symm.trans H;with_reducible exact H2_)|with_reducible exact H|(rw [hy208];exact H)|exact H);have Ny208:=Aside0.mk hy208;clear hy208;replace H:=Option.bind_eq_some_iff.mp H;obtain ⟨t211,A20,H⟩:=H;replace H:(some t211)=some r:=H;have A2:=Aside0.mk A20;clear A20;obtain rfl:=Option.some.inj H;go_enter Try.func122,Try.ntmps122;go_wp2_with (first|((with_reducible refine gate_dst (N:=3) rfl ?_);refine Kd.R_lit Kd.string _ 9 ?hg (N:=3) ?hd (xs:=([(⟨#[115,101,116]⟩:ByteArray),(⟨#[99,111,117,110,116]⟩:ByteArray),(⟨#[110,111,116,101]⟩:ByteArray),(⟨#[114,117,108,101]⟩:ByteArray),(⟨#[111,112]⟩:ByteArray),(⟨#[115,116,114,105,99,116]⟩:ByteArray),(⟨#[114,101,102]⟩:ByteArray),(⟨#[98,111,116,104]⟩:ByteArray),(⟨#[108,105,109,105,116]⟩:ByteArray),(⟨#[109,111,115,116]⟩:ByteArray),(⟨#[108,101,97,115,116]⟩:ByteArray),(⟨#[110,101,101,100,115]⟩:ByteArray),(⟨#[97,100,100]⟩:ByteArray),(⟨#[100,114,111,112]⟩:ByteArray),(⟨#[117,112]⟩:ByteArray),(⟨#[100,111,119,110]⟩:ByteArray),(⟨#[112,117,116]⟩:ByteArray)]:List ByteArray)) (inner:=[.string (⟨#[115,101,116]⟩:ByteArray),.string (⟨#[99,111,117,110,116]⟩:ByteArray),.string (⟨#[110,111,116,101]⟩:ByteArray),.string (⟨#[114,117,108,101]⟩:ByteArray),.string (⟨#[111,112]⟩:ByteArray),.string (⟨#[115,116,114,105,99,116]⟩:ByteArray),.string (⟨#[114,101,102]⟩:ByteArray),.string (⟨#[98,111,116,104]⟩:ByteArray),.string (⟨#[108,105,109,105,116]⟩:ByteArray),.string (⟨#[109,111,115,116]⟩:ByteArray),.string (⟨#[108,101,97,115,116]⟩:ByteArray),.string (⟨#[110,101,101,100,115]⟩:ByteArray),.string (⟨#[97,100,100]⟩:ByteArray),.string (⟨#[100,114,111,112]⟩:ByteArray),.string (⟨#[117,112]⟩:ByteArray),.string (⟨#[100,111,119,110]⟩:ByteArray),.string (⟨#[112,117,116]⟩:ByteArray)]) (ok:=fun _=>True) (okp:=fun _=>True) ?hr ?hp (fun _ hk=>hk) trivial (Below.refl _ _) (Nat.le_refl _) (by simp) ?_;(case hd=>rfl);(case hg=>rfl);(case hr=>first|(go_simp;done)|(go_simp;rfl));(case hp=>exact (Reps.one (show Kd.M Kd.string _ _ _ (⟨#[115,101,116]⟩:ByteArray) [.string (⟨#[115,101,116]⟩:ByteArray)] from rfl) (Reps.one (show Kd.M Kd.string _ _ _ (⟨#[99,111,117,110,116]⟩:ByteArray) [.string (⟨#[99,111,117,110,116]⟩:ByteArray)] from rfl) (Reps.one (show Kd.M Kd.string _ _ _ (⟨#[110,111,116,101]⟩:ByteArray) [.string (⟨#[110,111,116,101]⟩:ByteArray)] from rfl) (Reps.one (show Kd.M Kd.string _ _ _ (⟨#[114,117,108,101]⟩:ByteArray) [.string (⟨#[114,117,108,101]⟩:ByteArray)] from rfl) (Reps.one (show Kd.M Kd.string _ _ _ (⟨#[111,112]⟩:ByteArray) [.string (⟨#[111,112]⟩:ByteArray)] from rfl) (Reps.one (show Kd.M Kd.string _ _ _ (⟨#[115,116,114,105,99,116]⟩:ByteArray) [.string (⟨#[115,116,114,105,99,116]⟩:ByteArray)] from rfl) (Reps.one (show Kd.M Kd.string _ _ _ (⟨#[114,101,102]⟩:ByteArray) [.string (⟨#[114,101,102]⟩:ByteArray)] from rfl) (Reps.one (show Kd.M Kd.string _ _ _ (⟨#[98,111,116,104]⟩:ByteArray) [.string (⟨#[98,111,116,104]⟩:ByteArray)] from rfl) (Reps.one (show Kd.M Kd.string _ _ _ (⟨#[108,105,109,105,116]⟩:ByteArray) [.string (⟨#[108,105,109,105,116]⟩:ByteArray)] from rfl) (Reps.one (show Kd.M Kd.string _ _ _ (⟨#[109,111,115,116]⟩:ByteArray) [.string (⟨#[109,111,115,116]⟩:ByteArray)] from rfl) (Reps.one (show Kd.M Kd.string _ _ _ (⟨#[108,101,97,115,116]⟩:ByteArray) [.string (⟨#[108,101,97,115,116]⟩:ByteArray)] from rfl) (Reps.one (show Kd.M Kd.string _ _ _ (⟨#[110,101,101,100,115]⟩:ByteArray) [.string (⟨#[110,101,101,100,115]⟩:ByteArray)] from rfl) (Reps.one (show Kd.M Kd.string _ _ _ (⟨#[97,100,100]⟩:ByteArray) [.string (⟨#[97,100,100]⟩:ByteArray)] from rfl) (Reps.one (show Kd.M Kd.string _ _ _ (⟨#[100,114,111,112]⟩:ByteArray) [.string (⟨#[100,114,111,112]⟩:ByteArray)] from rfl) (Reps.one (show Kd.M Kd.string _ _ _ (⟨#[117,112]⟩:ByteArray) [.string (⟨#[117,112]⟩:ByteArray)] from rfl) (Reps.one (show Kd.M Kd.string _ _ _ (⟨#[100,111,119,110]⟩:ByteArray) [.string (⟨#[100,111,119,110]⟩:ByteArray)] from rfl) (Reps.one (show Kd.M Kd.string _ _ _ (⟨#[112,117,116]⟩:ByteArray) [.string (⟨#[112,117,116]⟩:ByteArray)] from rfl) (Reps.none _ _)))))))))))))))))));intro v209 w3 ho4 hb hg_ hnew_;clear hg_ hnew_;(first|rw [← Ny208.out] at ho4|(simp only [Int.reduceToNat] at ho4;rw [← Ny208.out] at ho4));have n0_:=Aside0.mk (Kd.R_lower ho4 (below_size (by repeat (first|(with_reducible first|exact HB.out|apply below_alloc|apply pw_below_drewN|apply below_drew1)|exact HB.out))));have n1_:=Aside0.mk (below_step (by repeat (first|(with_reducible first|exact HB.out|apply below_alloc|apply pw_below_drewN|apply below_drew1)|exact HB.out)) hb);clear HB;have HO210:=n0_;have HB:=n1_;clear n0_ n1_;clear hb ho4;obtain ⟨Ao5,co5,eo5⟩:=Kd.R_slice HO210.out;subst eo5)|((with_reducible refine gate_callee (f:=105) rfl ?_);refine goesL_ (some 5) rfl rfl Try.func105 (by kernel_rfl) rfl #[.slice Ao5 y208.length co5,.string a0] rfl (by (try simp only [List.map_toArray,List.map_cons,List.map_nil]);first|done|rfl|(simp only [List.length_drop,List.length_take];rfl)) ?_;(with_reducible refine (slices_Contains_string.calls k _ _ y208 a0 t211 _ ?side1 ?side2 A2.out).mono ?_);(case side1=>repeat (first|exact (Kd.R_reads' HO210.out).2.2|(with_reducible refine Kd.C_alloc ?_ _)|(with_reducible refine Kd.C_drewN ?_ _)|(with_reducible refine Kd.C_drew ?_)));(case side2=>exact (Kd.R_reads' HO210.out).2.1);rintro e w' ⟨rfl,⟨nd,rfl⟩⟩;refine ⟨_,rfl,?_⟩));go_ret;exact ⟨by first|rfl|(simp [errW_none,errW_some] <;> rfl)|(simp [*,errW_none,errW_some] <;> rfl),by repeat (first|(with_reducible first|exact HB.out|apply below_alloc|apply pw_below_drewN|apply below_drew1)|exact HB.out)⟩
end Go.Proofs.Ytjbjbeihkoeciaa.X
namespace Go.Proofs.Ytjbjbeihkoeciaa.X
open Go.RowKit
def lex_Word.f (a0:ByteArray):Option Bool:=some (wordB a0)
theorem lex_Word.calls (a0:ByteArray) (r:Bool) (w:World) (h:lex_Word.f a0=some r) :
  Calls Try.prog 121 #[.string a0] w fun e w'=>e = .returned (.bool r)∧Below w.heap.size w w':=by
 obtain rfl:wordB a0=r:=Option.some.inj h;exact word_any a0 w
end Go.Proofs.Ytjbjbeihkoeciaa.X
set_option linter.unusedSimpArgs false
set_option linter.unusedVariables false
namespace Go.Proofs.Ytjbjbeihkoeciaa.X
open Go.RowKit Go.Proofs.YtjbjbeihkoeciaaW.PrintWords Go.Proofs.YtjbjbeihkoeciaaW.PrintLast Go.Proofs.YtjbjbeihkoeciaaW.PrintMore
theorem ba_toList_inj {a b:ByteArray} (h:a.toList=b.toList):a=b:=by
 (have h2:a.data.toList=b.data.toList:=by simpa [ByteArray.toList_eq] using h);cases a;cases b;simp only at h2;congr 1;exact Array.toList_inj.mp h2
theorem wrap_of {i:Int} (h1:0 ≤ i) (h2:i < 4611686018427387904):wrap64 i=i:=by
 unfold wrap64;omega
def hasB (l:List ByteArray) (a:ByteArray):Bool:=l.any (fun w=>decide (w=a))
theorem index_l0 (l:List ByteArray) (a:ByteArray) (hl:l.length < 4611686018427387904):∀ (m pos k:Nat),pos + m=l.length → m < k →
  ∃ r,slices_Index_string.l0 k l a (l.length:Int) (pos:Int)=some r∧decide (r ≥ 0)=hasB (l.drop pos) a
 | 0,pos,k,hp,hk=>by
  obtain ⟨k,rfl⟩:∃ k',k=k' + 1:=⟨k - 1,by omega⟩;refine ⟨-1,?_,?_⟩
  ·rw [slices_Index_string.l0,if_neg (by omega)]
  ·rw [List.drop_eq_nil_of_le (by omega)];rfl
 | m + 1,pos,k,hp,hk=>by
  obtain ⟨k,rfl⟩:∃ k',k=k' + 1:=⟨k - 1,by omega⟩;(have hlt:pos < l.length:=by omega);have hd:l.drop pos=l.getD pos ByteArray.empty :: l.drop (pos + 1):=by
   rw [← List.getElem_cons_drop (h:=hlt)];simp [List.getD,hlt]
  (have hrd:rdOf ByteArray.empty l (pos:Int)=l.getD pos ByteArray.empty:=by simp [rdOf]);rw [slices_Index_string.l0,if_pos (by omega),if_pos (by omega),if_pos (by omega),hrd,hd];by_cases he:a.toList=(l.getD pos ByteArray.empty).toList
  ·rw [if_pos he];have:=ba_toList_inj he;refine ⟨_,rfl,?_⟩;rw [← this];simp [hasB]
  ·rw [if_neg he];obtain ⟨r,h1,h2⟩:=index_l0 l a hl m (pos + 1) k (by omega) (by omega);refine ⟨r,?_,?_⟩
   ·rw [wrap_of (by omega) (by omega)];exact_mod_cast h1
   ·rw [h2];have:decide (l.getD pos ByteArray.empty=a)=false:=by
     rw [decide_eq_false_iff_not];intro h;exact he (by rw [h])
    show _=(decide (l.getD pos ByteArray.empty=a) || hasB (l.drop (pos + 1)) a);rw [this];rfl
def kwords:List ByteArray:=[(⟨#[115,101,116]⟩:ByteArray),(⟨#[99,111,117,110,116]⟩:ByteArray),(⟨#[110,111,116,101]⟩:ByteArray),(⟨#[114,117,108,101]⟩:ByteArray),(⟨#[111,112]⟩:ByteArray),(⟨#[115,116,114,105,99,116]⟩:ByteArray),(⟨#[114,101,102]⟩:ByteArray),(⟨#[98,111,116,104]⟩:ByteArray),(⟨#[108,105,109,105,116]⟩:ByteArray),(⟨#[109,111,115,116]⟩:ByteArray),(⟨#[108,101,97,115,116]⟩:ByteArray),(⟨#[110,101,101,100,115]⟩:ByteArray),(⟨#[97,100,100]⟩:ByteArray),(⟨#[100,114,111,112]⟩:ByteArray),(⟨#[117,112]⟩:ByteArray),(⟨#[100,111,119,110]⟩:ByteArray),(⟨#[112,117,116]⟩:ByteArray)]
def nmB (s:ByteArray):Bool:=wordB s && !hasB kwords s
theorem kept_f (s:ByteArray):parse_Kept.f 30 s=some (hasB kwords s):=by
 obtain ⟨r,h1,h2⟩:=index_l0 kwords s (by decide) 17 0 30 rfl (by decide);have e:slices_Index_string.f 30 kwords s=some r:=h1;unfold parse_Kept.f;show ((slices_Contains_string.f 30 kwords s).bind fun t=>some t)=_;unfold slices_Contains_string.f;rw [e];show some (decide (r ≥ 0))=_;rw [h2];rfl
end Go.Proofs.Ytjbjbeihkoeciaa.X
set_option linter.unusedSimpArgs false
set_option linter.unusedVariables false
namespace Go.Proofs.Ytjbjbeihkoeciaa.X
open Go.RowKit Go.Proofs.YtjbjbeihkoeciaaW.PrintWords Go.Proofs.YtjbjbeihkoeciaaW.PrintLast Go.Proofs.YtjbjbeihkoeciaaW.PrintMore
abbrev Tk:=S166
abbrev Dl:=S171
abbrev De:=S201
abbrev PR (α:Type):=Except (Int × Int) (α × List Tk)
def hdT:List Tk → Tk
 | []=>z166
 | t :: _=>t
def pFail {α:Type} (e:Int) (ts:List Tk):PR α:=.error ((hdT ts).f3,e)
def pNext (k:Int) (ts:List Tk):PR Tk:=if (hdT ts).f0=k then .ok (hdT ts,ts.tail) else pFail 2 ts
def pWordB (s:ByteArray) (ts:List Tk):Bool:=decide ((hdT ts).f0=1) && ((hdT ts).f1.toList == s.toList)
def pBind {α β:Type} (x:PR α) (f:α → List Tk → PR β):PR β:=match x with
 | .error e=>.error e
 | .ok (a,ts)=>f a ts
def pName (ts:List Tk):PR ByteArray:=if (hdT ts).f0=1∧hasB kwords (hdT ts).f1=true then pFail 2 ts else pBind (pNext 1 ts) fun t ts=>.ok (t.f1,ts)
def pNumber (ts:List Tk):PR Int:=pBind (pNext 2 ts) fun t ts=>.ok (t.f2,ts)
def pThing (k:Int) (ts:List Tk):PR Dl:=pBind (pName ts) fun s ts=>.ok (⟨k,false,s,⟨#[]⟩,0,[],0⟩,ts)
def pPair (k:Int) (ts:List Tk):PR Dl:=pBind (pThing k ts) fun d ts=>pBind (pName ts) fun s ts=>.ok ({ d with f3:=s },ts)
def pBound (k:Int) (ts:List Tk):PR Dl:=pBind (pThing k ts) fun d ts=>pBind (pNumber ts) fun n ts=>.ok ({ d with f4:=n },ts)
def GoodT:List Tk → Prop
 | []=>False
 | [t]=>t.f0=0
 | _ :: ts=>GoodT ts
theorem GoodT.ne {ts:List Tk} (h:GoodT ts):ts ≠ []:=by rintro rfl;exact h
theorem GoodT.cons {ts:List Tk} (h:GoodT ts):ts=hdT ts :: ts.tail:=by
 cases ts with
 | nil=>exact h.elim
 | cons t ts=>rfl
theorem GoodT.tail {ts:List Tk} (h:GoodT ts) (hk:(hdT ts).f0 ≠ 0):GoodT ts.tail:=by
 cases ts with
 | nil=>exact h.elim
 | cons t ts =>
  cases ts with
  | nil=>exact absurd h hk
  | cons u us=>exact h
def KB (w0 w:World) (_p:Nat):Prop:=w.os=w0.os∧w.tape=w0.tape∧w.output=w0.output∧w0.heap.size ≤ w.heap.size∧∀ (i:Nat) (cs:Array Value),w0.heap[i]? = some (.cells cs 166 (0,0)) → w.heap[i]? = some (.cells cs 166 (0,0))
theorem KB.refl (w:World) (p:Nat):KB w w p:=⟨rfl,rfl,rfl,Nat.le_refl _,fun _ _ h=>h⟩
theorem KB.step {w0 w w':World} {p:Nat} (h:KB w0 w p) (hb:Below w.heap.size w w'):KB w0 w' p:=⟨hb.os.trans h.1,hb.tape.trans h.2.1,hb.output.trans h.2.2.1,Nat.le_trans h.2.2.2.1 hb.size,fun i cs hi=>blk_below (h.2.2.2.2 i cs hi) hb⟩
theorem KB.setT {w0 w:World} {p g t:Nat} {cs:Array Value} (h:KB w0 w p) (hb:w.heap[g]? = some (.cells cs t (0,0))) (ht:t ≠ 166) (j:Nat) (v:Value):KB w0 (w.setCell ⟨g,j,none⟩ v) p:=by
 have hz:=(Below.refl 0 w).setCell (p:=⟨g,j,none⟩) (Nat.zero_le _) v;refine ⟨hz.os.trans h.1,hz.tape.trans h.2.1,hz.output.trans h.2.2.1,Nat.le_trans h.2.2.2.1 hz.size,fun i cs hi=>?_⟩;have hi2:=h.2.2.2.2 i cs hi;exact (Below.heap_setCell w ⟨g,j,none⟩ v i (blk_ne hi2 hb (Ne.symm ht))).trans hi2
theorem KB.set {w0 w:World} {p g:Nat} (h:KB w0 w p) (hg:w0.heap.size ≤ g) (j:Nat) (v:Value):KB w0 (w.setCell ⟨g,j,none⟩ v) p:=by
 have hz:=(Below.refl 0 w).setCell (p:=⟨g,j,none⟩) (Nat.zero_le _) v;refine ⟨hz.os.trans h.1,hz.tape.trans h.2.1,hz.output.trans h.2.2.1,Nat.le_trans h.2.2.2.1 hz.size,fun i cs hi=>?_⟩;exact (Below.heap_setCell w ⟨g,j,none⟩ v i (by have:=blk_lt hi;simp only;omega)).trans (h.2.2.2.2 i cs hi)
theorem KB.grown {w0 w w':World} {p:Nat} {row:Option Nat} (h:KB w0 w p) (hg:w.grownBy w' row) (hr:∀ k,row=some k → w0.heap.size ≤ k):KB w0 w' p:=by
 have hb:=(Below.refl w0.heap.size w).grown hg h.2.2.2.1 hr;exact ⟨hb.os.trans h.1,hb.tape.trans h.2.1,hb.output.trans h.2.2.1,Nat.le_trans h.2.2.2.1 hb.size,fun i cs hi=>(hb.block i (blk_lt hi)).trans (h.2.2.2.2 i cs hi)⟩
theorem KB.grownT {w0 w w':World} {p:Nat} {row:Option Nat} (h:KB w0 w p) (hg:w.grownBy w' row) (hr:∀ k,row=some k → ∃ t cs,w.heap[k]? = some (.cells cs t (0,0))∧t ≠ 166):KB w0 w' p:=by
 have hb:=(Below.refl 0 w).grown hg (Nat.zero_le _) (fun _ _=>Nat.zero_le _);refine ⟨hb.os.trans h.1,hb.tape.trans h.2.1,hb.output.trans h.2.2.1,Nat.le_trans h.2.2.2.1 hb.size,fun i cs hi=>?_⟩;have hi2:=h.2.2.2.2 i cs hi;exact blk_grown hi2 hg (fun e=>by
  obtain ⟨t,cs',h1,h2⟩:=hr i e.symm
  rw [hi2] at h1
  cases h1
  exact h2 rfl)
def PS (w0 w:World) (p:Nat) (ts:List Tk):Prop :=
 p < w.heap.size∧KB w0 w p∧GoodT ts∧ts.length ≤ 4000000000∧∃ A c,w.heap[p]? = some (.cells #[.slice A ts.length c] 161 (0,0))∧ts.length ≤ c∧Kd.C k166 w0 A ts.length ts∧∀ ad,A=some ad → ∃ cs,w0.heap[ad.block]? = some (.cells cs 166 (0,0))
def faultV (x:Int × Int):Value:=.iface 163 (.agg #[.int .i64 x.1,.int .i64 x.2])
def PPost {α:Type} (w0 w:World) (p:Nat) (x:PR α) (enc:World → Value → α → Prop) (e:Ending) (w':World):Prop:=match x with
 | .ok (a,ts)=>∃ v,e = .returned v∧enc w' v a∧PS w0 w' p ts∧KeepBut w w' p none
 | .error x=>e = .panicked [{ v:=faultV x,recovered:=false }]∧KB w0 w' p∧KeepBut w w' p none
theorem PS.size {w0 w:World} {p:Nat} {ts:List Tk} (h:PS w0 w p ts):w0.heap.size ≤ w.heap.size:=h.2.1.2.2.2.1
theorem PS.lt {w0 w:World} {p:Nat} {ts:List Tk} (h:PS w0 w p ts):p < w.heap.size:=h.1
theorem PS.stay {w0 w:World} {p:Nat} {ts:List Tk} (h:PS w0 w p ts) {w':World} (hk:KB w0 w' p) (hp:∀ o,w.heap[p]? = some o → w'.heap[p]? = some o):PS w0 w' p ts:=by
 obtain ⟨h0,h1,h2,h3,A,c,h4,h5,h6,h7⟩:=h;exact ⟨blk_lt (hp _ h4),hk,h2,h3,A,c,hp _ h4,h5,h6,h7⟩
theorem PS.step {w0 w w':World} {p:Nat} {ts:List Tk} (h:PS w0 w p ts) (hb:Below w.heap.size w w'):PS w0 w' p ts:=h.stay (h.2.1.step hb) (fun o ho=>blk_below ho hb)
theorem PS.set {w0 w:World} {p g:Nat} {ts:List Tk} (h:PS w0 w p ts) (hg:w0.heap.size ≤ g) (hne:p ≠ g) (j:Nat) (v:Value):PS w0 (w.setCell ⟨g,j,none⟩ v) p ts :=
 h.stay (h.2.1.set hg j v) (fun o ho=>(Below.heap_setCell w ⟨g,j,none⟩ v p hne).trans ho)
theorem PS.alloc {w0 w:World} {p:Nat} {ts:List Tk} (h:PS w0 w p ts) (o:Obj):PS w0 (w.alloc o) p ts:=h.step (below_alloc (Below.refl _ _) o)
theorem PS.grown {w0 w w':World} {p:Nat} {ts:List Tk} {row:Option Nat} (h:PS w0 w p ts) (hg:w.grownBy w' row) (hr:∀ k,row=some k → w0.heap.size ≤ k) (hne:some p ≠ row):PS w0 w' p ts :=
 h.stay (h.2.1.grown hg hr) (fun o ho=>blk_grown ho hg hne)
theorem PS.grownT {w0 w w':World} {p:Nat} {ts:List Tk} {row:Option Nat} (h:PS w0 w p ts) (hg:w.grownBy w' row) (hr:∀ k,row=some k → ∃ t cs,w.heap[k]? = some (.cells cs t (0,0))∧t ≠ 166) (hne:some p ≠ row):PS w0 w' p ts :=
 h.stay (h.2.1.grownT hg hr) (fun o ho=>blk_grown ho hg hne)
theorem PS.setT {w0 w:World} {p g t:Nat} {cs:Array Value} {ts:List Tk} (h:PS w0 w p ts) (hb:w.heap[g]? = some (.cells cs t (0,0))) (ht:t ≠ 166) (hne:p ≠ g) (j:Nat) (v:Value):PS w0 (w.setCell ⟨g,j,none⟩ v) p ts :=
 h.stay (h.2.1.setT hb ht j v) (fun o ho=>(Below.heap_setCell w ⟨g,j,none⟩ v p hne).trans ho)
theorem PS.reads {w0 w:World} {p:Nat} {ts:List Tk} (h:PS w0 w p ts) {A:Option Addr} {c:Nat} (hb:w.heap[p]? = some (.cells #[.slice A ts.length c] 161 (0,0))):Kd.C k166 w A ts.length ts:=by
 obtain ⟨h0,h1,h2,h3,A',c',h4,h5,h6,h7⟩:=h;rw [hb] at h4;cases h4;refine ⟨h6.1,h6.2.1,fun hn=>?_⟩;obtain ⟨ad,he,hc⟩:=h6.2.2 hn;refine ⟨ad,he,fun j q hj=>?_⟩;obtain ⟨cs,k1,k2,k3⟩:=hc j q hj;obtain ⟨cells,hcl⟩:=h7 ad he;refine ⟨cs,k1,by have:=k166_open k2;subst this;exact k166_mk w q,fun i u hu=>?_⟩;have hk:=k3 i u hu;rw [World.cell?,add_block,hcl] at hk;rw [World.cell?,add_block,h1.2.2.2.2 _ _ hcl];first|exact hk|(simp only at hk ⊢;exact hk)
theorem PS.head {w0 w:World} {p:Nat} {ts:List Tk} (h:PS w0 w p ts):∃ (ad:Addr) (n c:Nat),ts.length=n∧0 < n∧n ≤ c∧n ≤ 4000000000∧w.heap[p]? = some (.cells #[.slice (some ad) n c] 161 (0,0)) ∧
  w.cell? ad=some (.int .i64 (hdT ts).f0)∧w.cell? ⟨ad.block,ad.off + 1,none⟩=some (.string (hdT ts).f1)∧w.cell? ⟨ad.block,ad.off + 2,none⟩=some (.int .i64 (hdT ts).f2)∧w.cell? ⟨ad.block,ad.off + 3,none⟩=some (.int .i64 (hdT ts).f3):=by
 have hh:=h;obtain ⟨h0,h1,h2,h3,A,c,h4,h5,h6,h7⟩:=h;have hn:0 < ts.length:=List.length_pos_iff.2 h2.ne;obtain ⟨ad,e0,hx0,hx1,hx2,hx3⟩:=at_T166 (hh.reads h4) 0 (by omega) (by omega);cases e0;have e:rd_T166 ts 0=hdT ts:=by
  rw [h2.cons];rfl
 rw [e] at hx0 hx1 hx2 hx3;(have ea:ad.add ((0:Int).toNat * 4)=ad:=by simp [Addr.add]);rw [ea] at hx0 hx1 hx2 hx3;exact ⟨ad,_,c,rfl,hn,h5,h3,h4,hx0,hx1,hx2,hx3⟩
theorem PS.adv {w0 w:World} {p:Nat} {ts:List Tk} (h:PS w0 w p ts) {ad:Addr} {n c:Nat} (hn:ts.length=n) (hb:w.heap[p]? = some (.cells #[.slice (some ad) n c] 161 (0,0))) (hk:(hdT ts).f0 ≠ 0) :
  PS w0 (w.setCell ⟨p,0,none⟩ (.slice (some ⟨ad.block,ad.off + 4,none⟩) (n - 1) (c - 1))) p ts.tail:=by
 obtain ⟨h0,h1,h2,h3,A,c',h4,h5,h6,h7⟩:=h;rw [hb] at h4;cases h4;clear hn;(have hl:ts.tail.length=ts.length - 1:=by simp);have hg:=h2.tail hk;have h9:=List.length_pos_iff.2 hg.ne;refine ⟨by simpa using h0,h1.setT hb (by decide) 0 _,hg,by omega,some ⟨ad.block,ad.off + 4,none⟩,c - 1,?_,by omega,?_,fun ad' e=>by cases e;exact h7 ad rfl⟩
 ·rw [hl];exact blk_put hb 0 _ rfl
 ·have h8:=Kd.C_drop (m:=1) h6 (by omega) h5;rw [if_neg (by omega),List.drop_one] at h8;rw [show (⟨ad.block,ad.off + 4,none⟩:Addr)=ad.add (1 * k166.sz) from by
   rw [show k166.sz=4 from rfl]
   simp [Addr.add]]
  exact h8
end Go.Proofs.Ytjbjbeihkoeciaa.X
set_option linter.unusedSimpArgs false
set_option linter.unusedVariables false
namespace Go.Proofs.Ytjbjbeihkoeciaa.X
open Go.RowKit Go.Proofs.YtjbjbeihkoeciaaW.PrintWords Go.Proofs.YtjbjbeihkoeciaaW.PrintLast Go.Proofs.YtjbjbeihkoeciaaW.PrintMore
def Onto (w w':World) (g:Nat):Prop:=(∀ B w0,B ≤ g → Below B w0 w → Below B w0 w')∧(∀ i,i ≠ g → w'.heap[i]? = w.heap[i]?)∧w'.heap.size=w.heap.size
theorem Onto.refl (w:World) (g:Nat):Onto w w g:=⟨fun _ _ _ h=>h,fun _ _=>rfl,rfl⟩
theorem heap_size_set (w:World) (a:Addr) (v:Value):(w.setCell a v).heap.size=w.heap.size:=by simp
theorem Onto.set {w w':World} {g:Nat} (h:Onto w w' g) (j:Nat) (v:Value):Onto w (w'.setCell ⟨g,j,none⟩ v) g :=
 ⟨fun B w0 hB hb=>(h.1 B w0 hB hb).setCell hB v,fun i hi=>(Below.heap_setCell w' ⟨g,j,none⟩ v i hi).trans (h.2.1 i hi),(heap_size_set _ _ _).trans h.2.2⟩
theorem Onto.trans {w w1 w2:World} {g:Nat} (h:Onto w w1 g) (k:Onto w1 w2 g):Onto w w2 g :=
 ⟨fun B w0 hB hb=>k.1 B w0 hB (h.1 B w0 hB hb),fun i hi=>(k.2.1 i hi).trans (h.2.1 i hi),k.2.2.trans h.2.2⟩
theorem Onto.below {w0 w w':World} {g:Nat} (h:Onto w w' g) (hb:Below w0.heap.size w0 w) (hg:w0.heap.size ≤ g):Below w0.heap.size w0 w':=h.1 _ _ hg hb
theorem Onto.blk {w w':World} {g k:Nat} {o:Obj} (h:Onto w w' g) (hb:w.heap[k]? = some o) (hk:k ≠ g):w'.heap[k]? = some o:=(h.2.1 k hk).trans hb
theorem Onto.keep {w0 w w':World} {g p:Nat} {row:Option Nat} (h:Onto w w' g) (hk:KeepBut w0 w p row) (hg:w0.heap.size ≤ g ∨ g=p):KeepBut w0 w' p row :=
 ⟨Nat.le_trans hk.1 (Nat.le_of_eq h.2.2.symm),fun i hi hp hr=>(h.2.1 i (by rcases hg with h|rfl;omega;exact hp)).trans (hk.2 i hi hp hr)⟩
theorem Onto.cell {w w':World} {g:Nat} {a:Addr} {v:Value} (h:Onto w w' g) (hc:w.cell? a=some v) (hg:a.block ≠ g):w'.cell? a=some v:=by
 rw [World.cell?,h.2.1 a.block hg,← World.cell?];exact hc
section
variable {w:World} {g:Nat} {t:TypeId} {a0 a1 a2 a3 a4 a5 a6 b0 b1 b2 b3 b4 b5 b6:Value}
theorem put2_ (h:w.heap[g]? = some (.cells #[a0,a1] t (0,0))):((w.setCell ⟨g,0,none⟩ b0).setCell ⟨g,1,none⟩ b1).heap[g]? = some (.cells #[b0,b1] t (0,0)) :=
 blk_put (cs:=#[b0,a1]) (blk_put h 0 _ rfl) 1 _ rfl
theorem put3_ (h:w.heap[g]? = some (.cells #[a0,a1,a2] t (0,0))):(((w.setCell ⟨g,0,none⟩ b0).setCell ⟨g,1,none⟩ b1).setCell ⟨g,2,none⟩ b2).heap[g]? = some (.cells #[b0,b1,b2] t (0,0)) :=
 blk_put (cs:=#[b0,b1,a2]) (blk_put (cs:=#[b0,a1,a2]) (blk_put h 0 _ rfl) 1 _ rfl) 2 _ rfl
theorem put4_ (h:w.heap[g]? = some (.cells #[a0,a1,a2,a3] t (0,0))):((((w.setCell ⟨g,0,none⟩ b0).setCell ⟨g,1,none⟩ b1).setCell ⟨g,2,none⟩ b2).setCell ⟨g,3,none⟩ b3).heap[g]? = some (.cells #[b0,b1,b2,b3] t (0,0)) :=
 blk_put (cs:=#[b0,b1,b2,a3]) (blk_put (cs:=#[b0,b1,a2,a3]) (blk_put (cs:=#[b0,a1,a2,a3]) (blk_put h 0 _ rfl) 1 _ rfl) 2 _ rfl) 3 _ rfl
theorem put5_ (h:w.heap[g]? = some (.cells #[a0,a1,a2,a3,a4] t (0,0))):(((((w.setCell ⟨g,0,none⟩ b0).setCell ⟨g,1,none⟩ b1).setCell ⟨g,2,none⟩ b2).setCell ⟨g,3,none⟩ b3).setCell ⟨g,4,none⟩ b4).heap[g]? = some (.cells #[b0,b1,b2,b3,b4] t (0,0)) :=
 blk_put (cs:=#[b0,b1,b2,b3,a4]) (blk_put (cs:=#[b0,b1,b2,a3,a4]) (blk_put (cs:=#[b0,b1,a2,a3,a4]) (blk_put (cs:=#[b0,a1,a2,a3,a4]) (blk_put h 0 _ rfl) 1 _ rfl) 2 _ rfl) 3 _ rfl) 4 _ rfl
theorem put7_ (h:w.heap[g]? = some (.cells #[a0,a1,a2,a3,a4,a5,a6] t (0,0))):(((((((w.setCell ⟨g,0,none⟩ b0).setCell ⟨g,1,none⟩ b1).setCell ⟨g,2,none⟩ b2).setCell ⟨g,3,none⟩ b3).setCell ⟨g,4,none⟩ b4).setCell ⟨g,5,none⟩ b5).setCell ⟨g,6,none⟩ b6).heap[g]? = some (.cells #[b0,b1,b2,b3,b4,b5,b6] t (0,0)) :=
 blk_put (cs:=#[b0,b1,b2,b3,b4,b5,a6]) (blk_put (cs:=#[b0,b1,b2,b3,b4,a5,a6]) (blk_put (cs:=#[b0,b1,b2,b3,a4,a5,a6]) (blk_put (cs:=#[b0,b1,b2,a3,a4,a5,a6]) (blk_put (cs:=#[b0,b1,a2,a3,a4,a5,a6]) (blk_put (cs:=#[b0,a1,a2,a3,a4,a5,a6]) (blk_put h 0 _ rfl) 1 _ rfl) 2 _ rfl) 3 _ rfl) 4 _ rfl) 5 _ rfl) 6 _ rfl
theorem onto2_ (w:World) (g:Nat) (b0 b1:Value):Onto w ((w.setCell ⟨g,0,none⟩ b0).setCell ⟨g,1,none⟩ b1) g:=((Onto.refl w g).set _ _).set _ _
theorem onto3_ (w:World) (g:Nat) (b0 b1 b2:Value):Onto w (((w.setCell ⟨g,0,none⟩ b0).setCell ⟨g,1,none⟩ b1).setCell ⟨g,2,none⟩ b2) g:=(((Onto.refl w g).set _ _).set _ _).set _ _
theorem onto4_ (w:World) (g:Nat) (b0 b1 b2 b3:Value):Onto w ((((w.setCell ⟨g,0,none⟩ b0).setCell ⟨g,1,none⟩ b1).setCell ⟨g,2,none⟩ b2).setCell ⟨g,3,none⟩ b3) g:=((((Onto.refl w g).set _ _).set _ _).set _ _).set _ _
theorem onto5_ (w:World) (g:Nat) (b0 b1 b2 b3 b4:Value):Onto w (((((w.setCell ⟨g,0,none⟩ b0).setCell ⟨g,1,none⟩ b1).setCell ⟨g,2,none⟩ b2).setCell ⟨g,3,none⟩ b3).setCell ⟨g,4,none⟩ b4) g:=(((((Onto.refl w g).set _ _).set _ _).set _ _).set _ _).set _ _
theorem onto7_ (w:World) (g:Nat) (b0 b1 b2 b3 b4 b5 b6:Value):Onto w (((((((w.setCell ⟨g,0,none⟩ b0).setCell ⟨g,1,none⟩ b1).setCell ⟨g,2,none⟩ b2).setCell ⟨g,3,none⟩ b3).setCell ⟨g,4,none⟩ b4).setCell ⟨g,5,none⟩ b5).setCell ⟨g,6,none⟩ b6) g:=(((((((Onto.refl w g).set _ _).set _ _).set _ _).set _ _).set _ _).set _ _).set _ _
end
end Go.Proofs.Ytjbjbeihkoeciaa.X
set_option linter.unusedSimpArgs false
set_option linter.unusedVariables false
namespace Go.Proofs.Ytjbjbeihkoeciaa.X
open Go.RowKit Go.Proofs.YtjbjbeihkoeciaaW.PrintWords Go.Proofs.YtjbjbeihkoeciaaW.PrintLast Go.Proofs.YtjbjbeihkoeciaaW.PrintMore
theorem PS.onto {w0 w w':World} {p g:Nat} {ts:List Tk} (h:PS w0 w p ts) (k:Onto w w' g) (hg:w0.heap.size ≤ g) (hne:p ≠ g):PS w0 w' p ts:=by
 have hb:=k.1 w0.heap.size w hg (Below.refl _ _);exact h.stay ⟨hb.os.trans h.2.1.1,hb.tape.trans h.2.1.2.1,hb.output.trans h.2.1.2.2.1,Nat.le_trans h.size hb.size,fun i cs hi=>(hb.block i (blk_lt hi)).trans (h.2.1.2.2.2.2 i cs hi)⟩ (fun o ho=>k.blk ho hne)
set_option maxHeartbeats 4000000 in
set_option maxRecDepth 100000 in
theorem fail_call (w0 w:World) (p:Nat) (ts:List Tk) (er:Int) (h:PS w0 w p ts) :
  Calls Try.prog 117 #[.pointer (some ⟨p,0,none⟩),.int .i64 er] w fun e w'=>e = .panicked [{ v:=faultV ((hdT ts).f3,er),recovered:=false }]∧w=w':=by
 obtain ⟨ad,n,c,_,hn,hnc,hn4,hb,hx0,hx1,hx2,hx3⟩:=h.head;have hp0:w.cell? ⟨p,0,none⟩=some (.slice (some ad) n c):=(blk_cell hb 0).trans rfl;(have q0:(0:Int) < (n:Int):=by omega);clear hb h;go_enter Try.func117,Try.ntmps117;go_wp2_with fail;exact ⟨rfl,rfl,rfl⟩
def tkV (t:Tk):Value:=.agg #[.int .i64 t.f0,.string t.f1,.int .i64 t.f2,.int .i64 t.f3]
set_option maxHeartbeats 4000000 in
set_option maxRecDepth 100000 in
theorem next_call (w0 w:World) (p:Nat) (ts:List Tk) (k:Int) (hk:k ≠ 0) (h:PS w0 w p ts) :
  Calls Try.prog 116 #[.pointer (some ⟨p,0,none⟩),.int .i64 k] w fun e w'=>PPost w0 w p (pNext k ts) (fun _ v t=>v=tkV t) e w':=by
 obtain ⟨ad,n,c,hnl,hn,hnc,hn4,hb,hx0,hx1,hx2,hx3⟩:=h.head;have hp0:w.cell? ⟨p,0,none⟩=some (.slice (some ad) n c):=(blk_cell hb 0).trans rfl;(have q0:(0:Int) < (n:Int):=by omega);have H:=Aside0.mk h;have HB:=Aside0.mk hb;have HNL:=Aside0.mk hnl;have HK:=Aside0.mk hk;clear h hb hnl hk;go_enter Try.func116,Try.ntmps116;go_upto_region 1 with (((with_reducible refine gate_dst (N:=4) rfl ?_);refine box_event ?hg (N:=4) ?hd (cs:=#[.int .i64 0,.string ⟨#[]⟩,.int .i64 0,.int .i64 0]) (t:=166) ?hr ?_;(case hd=>rfl);(case hg=>rfl);(case hr=>first|(go_simp;done)|(go_simp;rfl));intro g1 hg_ w1 hbox hb;have HB1:=Aside0.mk hb;have BK1:=Aside0.mk hbox;have HG1:=Aside0.mk hg_;clear hb hbox hg_));replace hp0:=pw_cell_below HB1.out hp0;replace hx0:=pw_cell_below HB1.out hx0;replace hx1:=pw_cell_below HB1.out hx1;replace hx2:=pw_cell_below HB1.out hx2;replace hx3:=pw_cell_below HB1.out hx3;have H1:=Aside0.mk (H.out.step HB1.out);go_upto_region 2 with (((with_reducible refine gate_dst (N:=5) rfl ?_);refine box_event ?hg (N:=5) ?hd (cs:=#[.int .i64 0,.string ⟨#[]⟩,.int .i64 0,.int .i64 0]) (t:=166) ?hr ?_;(case hd=>rfl);(case hg=>rfl);(case hr=>first|(go_simp;done)|(go_simp;rfl));intro g2 hg_ w2 hbox hb;have HB2:=Aside0.mk hb;have BK2:=Aside0.mk hbox;have HG2:=Aside0.mk hg_;clear hb hbox hg_);have hc0:w2.cell? ⟨g2,0,none⟩=some (.int .i64 0):=(blk_cell BK2.out 0).trans rfl;have hc1:w2.cell? ⟨g2,1,none⟩=some (.string ⟨#[]⟩):=(blk_cell BK2.out 1).trans rfl;have hc2:w2.cell? ⟨g2,2,none⟩=some (.int .i64 0):=(blk_cell BK2.out 2).trans rfl;have hc3:w2.cell? ⟨g2,3,none⟩=some (.int .i64 0):=(blk_cell BK2.out 3).trans rfl;have hf0:=blk_frozen BK2.out 0;have hf1:=blk_frozen BK2.out 1;have hf2:=blk_frozen BK2.out 2;have hf3:=blk_frozen BK2.out 3);have HO:=Aside0.mk (onto4_ w2 g2 (.int .i64 (hdT ts).f0) (.string (hdT ts).f1) (.int .i64 (hdT ts).f2) (.int .i64 (hdT ts).f3));have BK3:=Aside0.mk (put4_ (b0:=.int .i64 (hdT ts).f0) (b1:=.string (hdT ts).f1) (b2:=.int .i64 (hdT ts).f2) (b3:=.int .i64 (hdT ts).f3) BK2.out);clear hc0 hc1 hc2 hc3 hf0 hf1 hf2 hf3 hp0 hx0 hx1 hx2 hx3;generalize ((((w2.setCell ⟨g2,0,none⟩ (.int .i64 (hdT ts).f0)).setCell ⟨g2,1,none⟩ (.string (hdT ts).f1)).setCell ⟨g2,2,none⟩ (.int .i64 (hdT ts).f2)).setCell ⟨g2,3,none⟩ (.int .i64 (hdT ts).f3))=w3 at *;have HPG:Aside0 (p ≠ g1∧p ≠ g2∧g1 ≠ g2∧w.heap.size ≤ g2):=⟨by
  have l1:=H.out.lt
  have l2:=H1.out.lt
  have l3:=below_size HB1.out
  have l4:=blk_lt BK1.out
  rw [HG1.out,HG2.out] at *
  omega⟩
 have H3:Aside0 (PS w0 w3 p ts):=⟨(H1.out.step HB2.out).onto HO.out (Nat.le_trans H.out.size HPG.out.2.2.2) HPG.out.2.1⟩;have BK4:Aside0 (w3.heap[g1]? = _):=⟨HO.out.blk (blk_below BK1.out HB2.out) HPG.out.2.2.1⟩;have BP4:Aside0 (w3.heap[p]? = _):=⟨HO.out.blk (blk_below (blk_below HB.out HB1.out) HB2.out) HPG.out.2.1⟩;have HB3:Aside0 (Below w.heap.size w w3):=⟨HO.out.below (below_step HB1.out HB2.out) HPG.out.2.2.2⟩;clear H1 HB1 HB2 BK1 BK2 HO;have hd0:w3.cell? ⟨g2,0,none⟩=some (.int .i64 (hdT ts).f0):=(blk_cell BK3.out 0).trans rfl;cases hkt:(((hdT ts).f0) == k) with
 | false =>
  (have hne:((hdT ts).f0 != k)=true:=by rw [bne,hkt];rfl);have HX:Aside0 (pNext k ts = .error ((hdT ts).f3,2)):=⟨by unfold pNext;rw [if_neg (by simpa using hkt)];rfl⟩;go_wp2_with fail;refine (fail_call w0 _ p ts 2 H3.out).mono ?_;rintro e w4 ⟨rfl,rfl⟩;refine ⟨rfl,?_⟩;show PPost w0 w p (pNext k ts) _ _ _;rw [HX.out];exact ⟨rfl,H3.out.2.1,KeepBut.of_below HB3.out _ _⟩
 | true =>
  (have hne:((hdT ts).f0 != k)=false:=by rw [bne,hkt];rfl);have HX:Aside0 (pNext k ts = .ok (hdT ts,ts.tail)):=⟨by unfold pNext;rw [if_pos (by simpa using hkt)]⟩;have HG:Aside0 (GoodT ts.tail):=⟨H3.out.2.2.1.tail (by rw [show (hdT ts).f0=k by simpa using hkt];exact HK.out)⟩;have hn2:1 < n:=by
   have h1:=HG.out.ne;have h2:=HNL.out;have h3:=congrArg List.length H3.out.2.2.1.cons;have h4:=List.length_pos_iff.2 h1;simp only [List.length_cons] at h3;omega
  have hp0:w3.cell? ⟨p,0,none⟩=some (.slice (some ad) n c):=(blk_cell BP4.out 0).trans rfl;have hf0:=blk_frozen BP4.out 0;have BK5:Aside0 (∀ v,(w3.setCell ⟨p,0,none⟩ v).heap[g2]? = _):=⟨fun v=>((Onto.refl w3 p).set 0 v).blk BK3.out HPG.out.2.1.symm⟩;have BK6:Aside0 (∀ v,(w3.setCell ⟨p,0,none⟩ v).heap[g1]? = _):=⟨fun v=>((Onto.refl w3 p).set 0 v).blk BK4.out HPG.out.1.symm⟩;(have he0:∀ v,(w3.setCell ⟨p,0,none⟩ v).cell? ⟨g2,0,none⟩=some (.int .i64 (hdT ts).f0):=fun v=>(blk_cell (BK5.out v) 0).trans rfl);(have he1:∀ v,(w3.setCell ⟨p,0,none⟩ v).cell? ⟨g2,1,none⟩=some (.string (hdT ts).f1):=fun v=>(blk_cell (BK5.out v) 1).trans rfl);(have he2:∀ v,(w3.setCell ⟨p,0,none⟩ v).cell? ⟨g2,2,none⟩=some (.int .i64 (hdT ts).f2):=fun v=>(blk_cell (BK5.out v) 2).trans rfl);(have he3:∀ v,(w3.setCell ⟨p,0,none⟩ v).cell? ⟨g2,3,none⟩=some (.int .i64 (hdT ts).f3):=fun v=>(blk_cell (BK5.out v) 3).trans rfl);(have hr0:∀ v,(w3.setCell ⟨p,0,none⟩ v).cell? ⟨g1,0,none⟩=some (.int .i64 0):=fun v=>(blk_cell (BK6.out v) 0).trans rfl);(have hs0:∀ v,(w3.setCell ⟨p,0,none⟩ v).frozen? ⟨g1,0,none⟩=false:=fun v=>blk_frozen (BK6.out v) 0);(have hr1:∀ v,(w3.setCell ⟨p,0,none⟩ v).cell? ⟨g1,1,none⟩=some (.string ⟨#[]⟩):=fun v=>(blk_cell (BK6.out v) 1).trans rfl);(have hs1:∀ v,(w3.setCell ⟨p,0,none⟩ v).frozen? ⟨g1,1,none⟩=false:=fun v=>blk_frozen (BK6.out v) 1);(have hr2:∀ v,(w3.setCell ⟨p,0,none⟩ v).cell? ⟨g1,2,none⟩=some (.int .i64 0):=fun v=>(blk_cell (BK6.out v) 2).trans rfl);(have hs2:∀ v,(w3.setCell ⟨p,0,none⟩ v).frozen? ⟨g1,2,none⟩=false:=fun v=>blk_frozen (BK6.out v) 2);(have hr3:∀ v,(w3.setCell ⟨p,0,none⟩ v).cell? ⟨g1,3,none⟩=some (.int .i64 0):=fun v=>(blk_cell (BK6.out v) 3).trans rfl);(have hs3:∀ v,(w3.setCell ⟨p,0,none⟩ v).frozen? ⟨g1,3,none⟩=false:=fun v=>blk_frozen (BK6.out v) 3);go_wp2_with fail;have HW:Aside0 (w.heap.size ≤ g1):=⟨by rw [HG1.out];exact Nat.le_refl _⟩;have HP4:=Aside0.mk (H3.out.adv HNL.out BP4.out (by rw [show (hdT ts).f0=k by simpa using hkt];exact HK.out));have HO4:=Aside0.mk ((Onto.refl w3 p).set 0 (.slice (some ⟨ad.block,ad.off + 4,none⟩) (n - 1) (c - 1)));have HB7:=Aside0.mk (BK6.out (.slice (some ⟨ad.block,ad.off + 4,none⟩) (n - 1) (c - 1)));clear he0 he1 he2 he3 hr0 hr1 hr2 hr3 hs0 hs1 hs2 hs3 BK5 BK6;generalize (w3.setCell ⟨p,0,none⟩ (.slice (some ⟨ad.block,ad.off + 4,none⟩) (n - 1) (c - 1)))=w4 at *;have HO5:=Aside0.mk (onto4_ w4 g1 (.int .i64 (hdT ts).f0) (.string (hdT ts).f1) (.int .i64 (hdT ts).f2) (.int .i64 (hdT ts).f3));have BK8:=Aside0.mk (put4_ (b0:=.int .i64 (hdT ts).f0) (b1:=.string (hdT ts).f1) (b2:=.int .i64 (hdT ts).f2) (b3:=.int .i64 (hdT ts).f3) HB7.out);generalize ((((w4.setCell ⟨g1,0,none⟩ (.int .i64 (hdT ts).f0)).setCell ⟨g1,1,none⟩ (.string (hdT ts).f1)).setCell ⟨g1,2,none⟩ (.int .i64 (hdT ts).f2)).setCell ⟨g1,3,none⟩ (.int .i64 (hdT ts).f3))=w5 at *;obtain ⟨hz0,hz1,hz2,hz3⟩:=bc4 BK8.out;refine bodyPost_ret (v:=tkV (hdT ts)) (by simp [results,Try.results116,go_sem,hz0,hz1,hz2,hz3,tkV]) rfl ?_;show PPost w0 w p (pNext k ts) _ _ _;rw [HX.out];exact ⟨_,rfl,rfl,HP4.out.onto HO5.out (Nat.le_trans H.out.size HW.out) HPG.out.1,HO5.out.keep (HO4.out.keep (KeepBut.of_below HB3.out _ _) (.inr rfl)) (.inl HW.out)⟩
def pWordT (s:ByteArray) (ts:List Tk):List Tk:=if pWordB s ts then ts.tail else ts
theorem PS.two {w0 w:World} {p:Nat} {ts:List Tk} (h:PS w0 w p ts) {n:Nat} (hn:ts.length=n) (hk:(hdT ts).f0 ≠ 0):1 < n:=by
 have h1:=(h.2.2.1.tail hk).ne;have h3:=congrArg List.length h.2.2.1.cons;have h4:=List.length_pos_iff.2 h1;simp only [List.length_cons] at h3;omega
set_option maxHeartbeats 4000000 in
set_option maxRecDepth 100000 in
theorem pword_call (w0 w:World) (p:Nat) (ts:List Tk) (s:ByteArray) (h:PS w0 w p ts) :
  Calls Try.prog 142 #[.pointer (some ⟨p,0,none⟩),.string s] w fun e w'=>e = .returned (.bool (pWordB s ts))∧PS w0 w' p (pWordT s ts)∧KeepBut w w' p none:=by
 obtain ⟨ad,n,c,hnl,hn,hnc,hn4,hb,hx0,hx1,hx2,hx3⟩:=h.head;have hp0:w.cell? ⟨p,0,none⟩=some (.slice (some ad) n c):=(blk_cell hb 0).trans rfl;have hf0:=blk_frozen hb 0;(have q0:(0:Int) < (n:Int):=by omega);have H:=Aside0.mk h;have HB:=Aside0.mk hb;have HNL:=Aside0.mk hnl;clear h hb hnl;cases hk:((hdT ts).f0 == 1) with
 | false =>
  (have hkn:((hdT ts).f0 != 1)=true:=by rw [bne,hk];rfl);have HX:Aside0 (pWordB s ts=false∧pWordT s ts=ts):=⟨by
   have:pWordB s ts=false:=by unfold pWordB;rw [decide_eq_false (by simpa using hk)];rfl
   exact ⟨this,by unfold pWordT;rw [this];rfl⟩⟩
  go_enter Try.func142,Try.ntmps142;go_wp2_with fail;go_ret;rw [HX.out.1,HX.out.2];exact ⟨rfl,H.out,KeepBut.refl _ _ _⟩
 | true =>
  (have hkn:((hdT ts).f0 != 1)=false:=by rw [bne,hk];rfl);have HK:Aside0 ((hdT ts).f0=1):=⟨by simpa using hk⟩;have hn2:1 < n:=H.out.two HNL.out (by rw [HK.out];decide);cases hs:((hdT ts).f1.toList == s.toList) with
  | false =>
   (have hsn:((hdT ts).f1.toList != s.toList)=true:=by rw [bne,hs];rfl);(have hsd:¬ (hdT ts).f1.toList=s.toList:=by simpa using hs);have HX:Aside0 (pWordB s ts=false∧pWordT s ts=ts):=⟨by
    have:pWordB s ts=false:=by unfold pWordB;rw [hs,Bool.and_false]
    exact ⟨this,by unfold pWordT;rw [this];rfl⟩⟩
   go_enter Try.func142,Try.ntmps142;go_wp2_with fail;go_ret;rw [HX.out.1,HX.out.2];exact ⟨rfl,H.out,KeepBut.refl _ _ _⟩
  | true =>
   (have hsn:((hdT ts).f1.toList != s.toList)=false:=by rw [bne,hs];rfl);have HX:Aside0 (pWordB s ts=true∧pWordT s ts=ts.tail):=⟨by
    have:pWordB s ts=true:=by unfold pWordB;rw [hs,decide_eq_true HK.out];rfl
    exact ⟨this,by unfold pWordT;rw [this];rfl⟩⟩
   (have hsd:(hdT ts).f1.toList=s.toList:=by simpa using hs);have hse:decide ((hdT ts).f1.toList=s.toList)=true:=decide_eq_true hsd;clear hsd;go_enter Try.func142,Try.ntmps142;go_wp2_with fail;go_ret;rw [HX.out.1,HX.out.2];exact ⟨rfl,H.out.adv HNL.out HB.out (by rw [HK.out];decide),(KeepBut.refl _ _ _).set_ 0 _⟩
end Go.Proofs.Ytjbjbeihkoeciaa.X
set_option linter.unusedSimpArgs false
set_option linter.unusedVariables false
namespace Go.Proofs.Ytjbjbeihkoeciaa.X
open Go.RowKit Go.Proofs.YtjbjbeihkoeciaaW.PrintWords Go.Proofs.YtjbjbeihkoeciaaW.PrintLast Go.Proofs.YtjbjbeihkoeciaaW.PrintMore
theorem kept_call (s:ByteArray) (w:World):Calls Try.prog 122 #[.string s] w fun e w'=>e = .returned (.bool (hasB kwords s))∧Below w.heap.size w w' :=
 parse_Kept.calls 30 s _ w (kept_f s)
theorem tk_fld1 (a b c d:Value) (w:World):(Instr.field 166 (.agg #[a,b,c,d]) 1).run Try.prog w = .ok b w:=by kernel_rfl
theorem tk_fld2 (a b c d:Value) (w:World):(Instr.field 166 (.agg #[a,b,c,d]) 2).run Try.prog w = .ok c w:=by kernel_rfl
set_option maxHeartbeats 4000000 in
set_option maxRecDepth 100000 in
theorem name_call (w0 w:World) (p:Nat) (ts:List Tk) (h:PS w0 w p ts) :
  Calls Try.prog 158 #[.pointer (some ⟨p,0,none⟩)] w fun e w'=>PPost w0 w p (pName ts) (fun _ v s=>v = .string s) e w':=by
 have hfl:=tk_fld1;obtain ⟨ad,n,c,hnl,hn,hnc,hn4,hb,hx0,hx1,hx2,hx3⟩:=h.head;have hp0:w.cell? ⟨p,0,none⟩=some (.slice (some ad) n c):=(blk_cell hb 0).trans rfl;(have q0:(0:Int) < (n:Int):=by omega);have H:=Aside0.mk h;clear h hb hnl;cases hk:((hdT ts).f0 == 1) with
 | false =>
  have HX:Aside0 (pName ts=pFail 2 ts):=⟨by
   have h1:¬ (hdT ts).f0=1:=by simpa using hk
   unfold pName;rw [if_neg (fun h=>h1 h.1)];unfold pNext;rw [if_neg h1];rfl⟩
  have HN:Aside0 (pNext 1 ts=pFail 2 ts):=⟨by unfold pNext;rw [if_neg (by simpa using hk)]⟩;go_enter Try.func158,Try.ntmps158;go_wp2_with fail;refine (next_call w0 _ p ts 1 (by decide) H.out).mono ?_;rintro e w1 hq;rw [HN.out] at hq;obtain ⟨rfl,h1,h2⟩:=hq;refine ⟨rfl,?_⟩;show PPost w0 w p (pName ts) _ _ _;rw [HX.out];exact ⟨rfl,h1,h2⟩
 | true =>
  have HK:Aside0 ((hdT ts).f0=1):=⟨by simpa using hk⟩;cases hs:hasB kwords (hdT ts).f1 with
  | true =>
   have HX:Aside0 (pName ts = .error ((hdT ts).f3,2)):=⟨by unfold pName;rw [if_pos ⟨HK.out,hs⟩];rfl⟩;have HS:=Aside0.mk hs;clear hs;go_enter Try.func158,Try.ntmps158;go_wp2_with fail;refine (kept_call _ _).mono ?_;rintro e w1 ⟨rfl,hb1⟩;rw [HS.out];have H1:=Aside0.mk (H.out.step hb1);have HB1:=Aside0.mk hb1;clear hb1;go_wp2_with fail;refine (fail_call w0 _ p ts 2 H1.out).mono ?_;rintro e w2 ⟨rfl,rfl⟩;refine ⟨rfl,?_⟩;show PPost w0 w p (pName ts) _ _ _;rw [HX.out];exact ⟨rfl,H1.out.2.1,KeepBut.of_below HB1.out _ _⟩
  | false =>
   have HX:Aside0 (pName ts = .ok ((hdT ts).f1,ts.tail)):=⟨by
    unfold pName;rw [if_neg (fun h=>by rw [hs] at h;cases h.2)];unfold pNext;rw [if_pos HK.out];rfl⟩
   have HN:Aside0 (pNext 1 ts = .ok (hdT ts,ts.tail)):=⟨by unfold pNext;rw [if_pos HK.out]⟩;have HS:=Aside0.mk hs;clear hs;go_enter Try.func158,Try.ntmps158;go_wp2_with fail;refine (kept_call _ _).mono ?_;rintro e w1 ⟨rfl,hb1⟩;rw [HS.out];have H1:=Aside0.mk (H.out.step hb1);have HB1:=Aside0.mk hb1;clear hb1;go_wp2_with fail;refine (next_call w0 _ p ts 1 (by decide) H1.out).mono ?_;rintro e w2 hq;rw [HN.out] at hq;obtain ⟨v,rfl,hv,h1,h2⟩:=hq;replace hv:v = .agg #[.int .i64 (hdT ts).f0,.string (hdT ts).f1,.int .i64 (hdT ts).f2,.int .i64 (hdT ts).f3]:=hv;subst hv;have H2:=Aside0.mk h1;have K2:=Aside0.mk h2;clear h1 h2;go_wp2_with fail;go_ret;show PPost w0 w p (pName ts) _ _ _;rw [HX.out];exact ⟨_,rfl,rfl,H2.out,(KeepBut.of_below HB1.out _ _).trans K2.out (.inl rfl)⟩
set_option maxHeartbeats 4000000 in
set_option maxRecDepth 100000 in
theorem number_call (w0 w:World) (p:Nat) (ts:List Tk) (h:PS w0 w p ts) :
  Calls Try.prog 164 #[.pointer (some ⟨p,0,none⟩)] w fun e w'=>PPost w0 w p (pNumber ts) (fun _ v n=>v = .int .i64 n) e w':=by
 have hfl:=tk_fld2;have H:=Aside0.mk h;clear h;by_cases hk:(hdT ts).f0=2
 ·have HX:Aside0 (pNumber ts = .ok ((hdT ts).f2,ts.tail)):=⟨by unfold pNumber pNext;rw [if_pos hk];rfl⟩;have HN:Aside0 (pNext 2 ts = .ok (hdT ts,ts.tail)):=⟨by unfold pNext;rw [if_pos hk]⟩;clear hk;go_enter Try.func164,Try.ntmps164;go_wp2_with fail;refine (next_call w0 _ p ts 2 (by decide) H.out).mono ?_;rintro e w2 hq;rw [HN.out] at hq;obtain ⟨v,rfl,hv,h1,h2⟩:=hq;replace hv:v = .agg #[.int .i64 (hdT ts).f0,.string (hdT ts).f1,.int .i64 (hdT ts).f2,.int .i64 (hdT ts).f3]:=hv;subst hv;have H2:=Aside0.mk h1;have K2:=Aside0.mk h2;clear h1 h2;go_wp2_with fail;go_ret;show PPost w0 w p (pNumber ts) _ _ _;rw [HX.out];exact ⟨_,rfl,rfl,H2.out,K2.out⟩
 ·have HX:Aside0 (pNumber ts=pFail 2 ts):=⟨by unfold pNumber pNext;rw [if_neg hk];rfl⟩;have HN:Aside0 (pNext 2 ts=pFail 2 ts):=⟨by unfold pNext;rw [if_neg hk]⟩;clear hk;go_enter Try.func164,Try.ntmps164;go_wp2_with fail;refine (next_call w0 _ p ts 2 (by decide) H.out).mono ?_;rintro e w1 hq;rw [HN.out] at hq;obtain ⟨rfl,h1,h2⟩:=hq;refine ⟨rfl,?_⟩;show PPost w0 w p (pNumber ts) _ _ _;rw [HX.out];exact ⟨rfl,h1,h2⟩
end Go.Proofs.Ytjbjbeihkoeciaa.X
set_option linter.unusedSimpArgs false
set_option linter.unusedVariables false
namespace Go.Proofs.Ytjbjbeihkoeciaa.X
open Go.RowKit Go.Proofs.YtjbjbeihkoeciaaW.PrintWords Go.Proofs.YtjbjbeihkoeciaaW.PrintLast Go.Proofs.YtjbjbeihkoeciaaW.PrintMore
def dlV (d:Dl) (vd:Value):Value:=.agg #[.int .i64 d.f0,.bool d.f1,.string d.f2,.string d.f3,.int .i64 d.f4,vd,.int .i64 d.f6]
def EncD (base:Nat) (w:World) (v:Value) (d:Dl):Prop:=∃ vd,v=dlV d vd∧Kd.R k201 201 w base (fun _=>True) vd d.f5
def EncD0 (w:World) (v:Value) (d:Dl):Prop:=d.f5 = []∧v=dlV d (.slice none 0 0)
theorem dl_build (k:Int) (s:ByteArray) (w:World):(Instr.build 171 #[(0,.int .i64 k),(2,.string s)]).run Try.prog w = .ok (dlV ⟨k,false,s,⟨#[]⟩,0,[],0⟩ (.slice none 0 0)) w:=by kernel_rfl
set_option maxHeartbeats 4000000 in
set_option maxRecDepth 100000 in
theorem thing_call (w0 w:World) (p:Nat) (ts:List Tk) (k:Int) (h:PS w0 w p ts) :
  Calls Try.prog 143 #[.pointer (some ⟨p,0,none⟩),.int .i64 k] w fun e w'=>PPost w0 w p (pThing k ts) EncD0 e w':=by
 have H:=Aside0.mk h;clear h;go_enter Try.func143,Try.ntmps143;go_upto_region 1 with (((with_reducible refine gate_dst (N:=4) rfl ?_);refine box_event ?hg (N:=4) ?hd (cs:=#[.int .i64 0,.bool false,.string ⟨#[]⟩,.string ⟨#[]⟩,.int .i64 0,.slice none 0 0,.int .i64 0]) (t:=171) ?hr ?_;(case hd=>rfl);(case hg=>rfl);(case hr=>first|(go_simp;done)|(go_simp;rfl));intro g1 hg_ w1 hbox hb;have HB1:=Aside0.mk hb;have BK1:=Aside0.mk hbox;have HG1:=Aside0.mk hg_;clear hb hbox hg_));have H1:=Aside0.mk (H.out.step HB1.out);have HPG:Aside0 (p ≠ g1∧w.heap.size ≤ g1):=⟨by have:=H.out.lt;rw [HG1.out];omega⟩;go_wp2_with fail;refine (name_call w0 _ p ts H1.out).mono ?_;rintro e w2 hq;cases hx:pName ts with
 | error x =>
  rw [hx] at hq;obtain ⟨rfl,h1,h2⟩:=hq;have HX:Aside0 (pThing k ts = .error x):=⟨by unfold pThing;rw [hx];rfl⟩;refine ⟨rfl,?_⟩;show PPost w0 w p (pThing k ts) _ _ _;rw [HX.out];exact ⟨rfl,h1,(KeepBut.of_below HB1.out _ _).trans h2 (.inl rfl)⟩
 | ok x =>
  obtain ⟨s,ts1⟩:=x;rw [hx] at hq;obtain ⟨v,rfl,rfl,h1,h2⟩:=hq;have HX:Aside0 (pThing k ts = .ok (⟨k,false,s,⟨#[]⟩,0,[],0⟩,ts1)):=⟨by unfold pThing;rw [hx];rfl⟩;have BK2:Aside0 (w2.heap[g1]? = _):=⟨h2.blk BK1.out HPG.out.1.symm (by simp)⟩;have H2:=Aside0.mk h1;have K2:=Aside0.mk ((KeepBut.of_below HB1.out p none).trans h2 (.inl rfl));clear h1 h2 hx;have hc0:w2.cell? ⟨g1,0,none⟩=some (.int .i64 0):=(blk_cell BK2.out 0).trans rfl;have fhc0:=blk_frozen BK2.out 0;have hc1:w2.cell? ⟨g1,1,none⟩=some (.bool false):=(blk_cell BK2.out 1).trans rfl;have fhc1:=blk_frozen BK2.out 1;have hc2:w2.cell? ⟨g1,2,none⟩=some (.string ⟨#[]⟩):=(blk_cell BK2.out 2).trans rfl;have fhc2:=blk_frozen BK2.out 2;have hc3:w2.cell? ⟨g1,3,none⟩=some (.string ⟨#[]⟩):=(blk_cell BK2.out 3).trans rfl;have fhc3:=blk_frozen BK2.out 3;have hc4:w2.cell? ⟨g1,4,none⟩=some (.int .i64 0):=(blk_cell BK2.out 4).trans rfl;have fhc4:=blk_frozen BK2.out 4;have hc5:w2.cell? ⟨g1,5,none⟩=some (.slice none 0 0):=(blk_cell BK2.out 5).trans rfl;have fhc5:=blk_frozen BK2.out 5;have hc6:w2.cell? ⟨g1,6,none⟩=some (.int .i64 0):=(blk_cell BK2.out 6).trans rfl;have fhc6:=blk_frozen BK2.out 6;have hbl:=dl_build k s;go_wp2_with fail;clear hc0 hc1 hc2 hc3 hc4 hc5 hc6 fhc0 fhc1 fhc2 fhc3 fhc4 fhc5 fhc6 hbl;have HO3:=Aside0.mk (onto7_ w2 g1 (.int .i64 k) (.bool false) (.string s) (.string ⟨#[]⟩) (.int .i64 0) (.slice none 0 0) (.int .i64 0));have BK3:=Aside0.mk (put7_ (b0:=.int .i64 k) (b1:=.bool false) (b2:=.string s) (b3:=.string ⟨#[]⟩) (b4:=.int .i64 0) (b5:=.slice none 0 0) (b6:=.int .i64 0) BK2.out);generalize (((((((w2.setCell ⟨g1,0,none⟩ (.int .i64 k)).setCell ⟨g1,1,none⟩ (.bool false)).setCell ⟨g1,2,none⟩ (.string s)).setCell ⟨g1,3,none⟩ (.string ⟨#[]⟩)).setCell ⟨g1,4,none⟩ (.int .i64 0)).setCell ⟨g1,5,none⟩ (.slice none 0 0)).setCell ⟨g1,6,none⟩ (.int .i64 0))=w3 at *;obtain ⟨hz0,hz1,hz2,hz3,hz4,hz5,hz6⟩:=bc7 BK3.out;refine bodyPost_ret (v:=dlV ⟨k,false,s,⟨#[]⟩,0,[],0⟩ (.slice none 0 0)) (by simp [results,Try.results143,go_sem,hz0,hz1,hz2,hz3,hz4,hz5,hz6,dlV]) rfl ?_;show PPost w0 w p (pThing k ts) _ _ _;rw [HX.out];exact ⟨_,rfl,⟨rfl,rfl⟩,H2.out.onto HO3.out (Nat.le_trans H.out.size HPG.out.2) HPG.out.1,HO3.out.keep K2.out (.inl HPG.out.2)⟩
set_option maxHeartbeats 4000000 in
set_option maxRecDepth 100000 in
theorem pair_call (w0 w:World) (p:Nat) (ts:List Tk) (k:Int) (h:PS w0 w p ts) :
  Calls Try.prog 159 #[.pointer (some ⟨p,0,none⟩),.int .i64 k] w fun e w'=>PPost w0 w p (pPair k ts) EncD0 e w':=by
 have H:=Aside0.mk h;clear h;go_enter Try.func159,Try.ntmps159;go_upto_region 1 with (((with_reducible refine gate_dst (N:=4) rfl ?_);refine box_event ?hg (N:=4) ?hd (cs:=#[.int .i64 0,.bool false,.string ⟨#[]⟩,.string ⟨#[]⟩,.int .i64 0,.slice none 0 0,.int .i64 0]) (t:=171) ?hr ?_;(case hd=>rfl);(case hg=>rfl);(case hr=>first|(go_simp;done)|(go_simp;rfl));intro g1 hg_ w1 hbox hb;have HB1:=Aside0.mk hb;have BK1:=Aside0.mk hbox;have HG1:=Aside0.mk hg_;clear hb hbox hg_));have H1:=Aside0.mk (H.out.step HB1.out);have HPG:Aside0 (p ≠ g1∧w.heap.size ≤ g1):=⟨by have:=H.out.lt;rw [HG1.out];omega⟩;go_wp2_with fail;refine (thing_call w0 _ p ts k H1.out).mono ?_;rintro e w2 hq;cases hx:pThing k ts with
 | error x =>
  rw [hx] at hq;obtain ⟨rfl,h1,h2⟩:=hq;have HX:Aside0 (pPair k ts = .error x):=⟨by unfold pPair;rw [hx];rfl⟩;refine ⟨rfl,?_⟩;show PPost w0 w p (pPair k ts) _ _ _;rw [HX.out];exact ⟨rfl,h1,(KeepBut.of_below HB1.out _ _).trans h2 (.inl rfl)⟩
 | ok x =>
  obtain ⟨d,ts1⟩:=x;rw [hx] at hq;obtain ⟨v,rfl,⟨hd5,hv⟩,h1,h2⟩:=hq;replace hv:v = .agg #[.int .i64 d.f0,.bool d.f1,.string d.f2,.string d.f3,.int .i64 d.f4,.slice none 0 0,.int .i64 d.f6]:=hv;subst hv;have HX1:Aside0 (pPair k ts=pBind (pName ts1) fun s ts=>.ok ({ d with f3:=s },ts)):=⟨by unfold pPair;rw [hx];rfl⟩;have HD5:=Aside0.mk hd5;have BK2:Aside0 (w2.heap[g1]? = _):=⟨h2.blk BK1.out HPG.out.1.symm (by simp)⟩;have H2:=Aside0.mk h1;have K2:=Aside0.mk ((KeepBut.of_below HB1.out p none).trans h2 (.inl rfl));clear h1 h2 hx hd5;go_upto_region 2 with (((with_reducible refine gate_dst (N:=5) rfl ?_);refine box_event ?hg (N:=5) ?hd (cs:=#[.int .i64 0,.bool false,.string ⟨#[]⟩,.string ⟨#[]⟩,.int .i64 0,.slice none 0 0,.int .i64 0]) (t:=171) ?hr ?_;(case hd=>rfl);(case hg=>rfl);(case hr=>first|(go_simp;done)|(go_simp;rfl));intro g2 hg_ w3 hbox hb;have HB2':=Aside0.mk hb;have BK2':=Aside0.mk hbox;have HG2':=Aside0.mk hg_;clear hb hbox hg_);have hc0:w3.cell? ⟨g2,0,none⟩=some (.int .i64 0):=(blk_cell BK2'.out 0).trans rfl;have fhc0:=blk_frozen BK2'.out 0;have hc1:w3.cell? ⟨g2,1,none⟩=some (.bool false):=(blk_cell BK2'.out 1).trans rfl;have fhc1:=blk_frozen BK2'.out 1;have hc2:w3.cell? ⟨g2,2,none⟩=some (.string ⟨#[]⟩):=(blk_cell BK2'.out 2).trans rfl;have fhc2:=blk_frozen BK2'.out 2;have hc3:w3.cell? ⟨g2,3,none⟩=some (.string ⟨#[]⟩):=(blk_cell BK2'.out 3).trans rfl;have fhc3:=blk_frozen BK2'.out 3;have hc4:w3.cell? ⟨g2,4,none⟩=some (.int .i64 0):=(blk_cell BK2'.out 4).trans rfl;have fhc4:=blk_frozen BK2'.out 4;have hc5:w3.cell? ⟨g2,5,none⟩=some (.slice none 0 0):=(blk_cell BK2'.out 5).trans rfl;have fhc5:=blk_frozen BK2'.out 5;have hc6:w3.cell? ⟨g2,6,none⟩=some (.int .i64 0):=(blk_cell BK2'.out 6).trans rfl;have fhc6:=blk_frozen BK2'.out 6);have HPG2:Aside0 (p ≠ g2∧g1 ≠ g2∧w.heap.size ≤ g2):=⟨by have l1:=H2.out.lt;have l2:=blk_lt BK2.out;have l3:=K2.out.1;rw [HG2'.out];omega⟩;have H3:=Aside0.mk (H2.out.step HB2'.out);have BK3:=Aside0.mk (blk_below BK2.out HB2'.out);have K3:=Aside0.mk (K2.out.trans (KeepBut.of_below HB2'.out p none) (.inl rfl));clear hc0 hc1 hc2 hc3 hc4 hc5 hc6 fhc0 fhc1 fhc2 fhc3 fhc4 fhc5 fhc6;have HO4:=Aside0.mk (onto7_ w3 g2 (.int .i64 d.f0) (.bool d.f1) (.string d.f2) (.string d.f3) (.int .i64 d.f4) (.slice none 0 0) (.int .i64 d.f6));have BK4:=Aside0.mk (put7_ (b0:=.int .i64 d.f0) (b1:=.bool d.f1) (b2:=.string d.f2) (b3:=.string d.f3) (b4:=.int .i64 d.f4) (b5:=.slice none 0 0) (b6:=.int .i64 d.f6) BK2'.out);generalize (((((((w3.setCell ⟨g2,0,none⟩ (.int .i64 d.f0)).setCell ⟨g2,1,none⟩ (.bool d.f1)).setCell ⟨g2,2,none⟩ (.string d.f2)).setCell ⟨g2,3,none⟩ (.string d.f3)).setCell ⟨g2,4,none⟩ (.int .i64 d.f4)).setCell ⟨g2,5,none⟩ (.slice none 0 0)).setCell ⟨g2,6,none⟩ (.int .i64 d.f6))=w4 at *;have H4:=Aside0.mk (H3.out.onto HO4.out (Nat.le_trans H.out.size HPG2.out.2.2) HPG2.out.1);have BJ4:=Aside0.mk (HO4.out.blk BK3.out HPG2.out.2.1);have K4:=Aside0.mk (HO4.out.keep K3.out (.inl HPG2.out.2.2));go_wp2_with fail;refine (name_call w0 _ p ts1 H4.out).mono ?_;rintro e w5 hq;cases hx:pName ts1 with
  | error x =>
   rw [hx] at hq;obtain ⟨rfl,h1,h2⟩:=hq;have HX:Aside0 (pPair k ts = .error x):=⟨by rw [HX1.out,hx];rfl⟩;refine ⟨rfl,?_⟩;show PPost w0 w p (pPair k ts) _ _ _;rw [HX.out];exact ⟨rfl,h1,K4.out.trans h2 (.inl rfl)⟩
  | ok x =>
   obtain ⟨s,ts2⟩:=x;rw [hx] at hq;obtain ⟨v,rfl,rfl,h1,h2⟩:=hq;have HX:Aside0 (pPair k ts = .ok ({ d with f3:=s },ts2)):=⟨by rw [HX1.out,hx];rfl⟩;have BK5:Aside0 (w5.heap[g2]? = _):=⟨h2.blk BK4.out HPG2.out.1.symm (by simp)⟩;have BJ5:Aside0 (w5.heap[g1]? = _):=⟨h2.blk BJ4.out HPG.out.1.symm (by simp)⟩;have H5:=Aside0.mk h1;have K5:=Aside0.mk (K4.out.trans h2 (.inl rfl));clear h1 h2 hx;have hs0:w5.cell? ⟨g2,3,none⟩=some (.string d.f3):=(blk_cell BK5.out 3).trans rfl;have hs1:=blk_frozen BK5.out 3;have HO6:=Aside0.mk ((Onto.refl w5 g2).set 3 (.string s));have BK6:Aside0 ((w5.setCell ⟨g2,3,none⟩ (.string s)).heap[g2]? = some (.cells #[.int .i64 d.f0,.bool d.f1,.string d.f2,.string s,.int .i64 d.f4,.slice none 0 0,.int .i64 d.f6] 171 (0,0))):=⟨blk_put BK5.out 3 _ rfl⟩;have BJ6:=Aside0.mk (HO6.out.blk BJ5.out HPG2.out.2.1);have H6:=Aside0.mk (H5.out.onto HO6.out (Nat.le_trans H.out.size HPG2.out.2.2) HPG2.out.1);have K6:=Aside0.mk (HO6.out.keep K5.out (.inl HPG2.out.2.2));have hy0:(w5.setCell ⟨g2,3,none⟩ (.string s)).cell? ⟨g2,0,none⟩=some (.int .i64 d.f0):=(blk_cell BK6.out 0).trans rfl;have hy1:(w5.setCell ⟨g2,3,none⟩ (.string s)).cell? ⟨g2,1,none⟩=some (.bool d.f1):=(blk_cell BK6.out 1).trans rfl;have hy2:(w5.setCell ⟨g2,3,none⟩ (.string s)).cell? ⟨g2,2,none⟩=some (.string d.f2):=(blk_cell BK6.out 2).trans rfl;have hy3:(w5.setCell ⟨g2,3,none⟩ (.string s)).cell? ⟨g2,3,none⟩=some (.string s):=(blk_cell BK6.out 3).trans rfl;have hy4:(w5.setCell ⟨g2,3,none⟩ (.string s)).cell? ⟨g2,4,none⟩=some (.int .i64 d.f4):=(blk_cell BK6.out 4).trans rfl;have hy5:(w5.setCell ⟨g2,3,none⟩ (.string s)).cell? ⟨g2,5,none⟩=some (.slice none 0 0):=(blk_cell BK6.out 5).trans rfl;have hy6:(w5.setCell ⟨g2,3,none⟩ (.string s)).cell? ⟨g2,6,none⟩=some (.int .i64 d.f6):=(blk_cell BK6.out 6).trans rfl;have hc0:(w5.setCell ⟨g2,3,none⟩ (.string s)).cell? ⟨g1,0,none⟩=some (.int .i64 0):=(blk_cell BJ6.out 0).trans rfl;have fhc0:=blk_frozen BJ6.out 0;have hc1:(w5.setCell ⟨g2,3,none⟩ (.string s)).cell? ⟨g1,1,none⟩=some (.bool false):=(blk_cell BJ6.out 1).trans rfl;have fhc1:=blk_frozen BJ6.out 1;have hc2:(w5.setCell ⟨g2,3,none⟩ (.string s)).cell? ⟨g1,2,none⟩=some (.string ⟨#[]⟩):=(blk_cell BJ6.out 2).trans rfl;have fhc2:=blk_frozen BJ6.out 2;have hc3:(w5.setCell ⟨g2,3,none⟩ (.string s)).cell? ⟨g1,3,none⟩=some (.string ⟨#[]⟩):=(blk_cell BJ6.out 3).trans rfl;have fhc3:=blk_frozen BJ6.out 3;have hc4:(w5.setCell ⟨g2,3,none⟩ (.string s)).cell? ⟨g1,4,none⟩=some (.int .i64 0):=(blk_cell BJ6.out 4).trans rfl;have fhc4:=blk_frozen BJ6.out 4;have hc5:(w5.setCell ⟨g2,3,none⟩ (.string s)).cell? ⟨g1,5,none⟩=some (.slice none 0 0):=(blk_cell BJ6.out 5).trans rfl;have fhc5:=blk_frozen BJ6.out 5;have hc6:(w5.setCell ⟨g2,3,none⟩ (.string s)).cell? ⟨g1,6,none⟩=some (.int .i64 0):=(blk_cell BJ6.out 6).trans rfl;have fhc6:=blk_frozen BJ6.out 6;go_wp2_with fail;clear hs0 hs1 hy0 hy1 hy2 hy3 hy4 hy5 hy6 hc0 hc1 hc2 hc3 hc4 hc5 hc6 fhc0 fhc1 fhc2 fhc3 fhc4 fhc5 fhc6;generalize (w5.setCell ⟨g2,3,none⟩ (.string s))=w6 at *;have HO7:=Aside0.mk (onto7_ w6 g1 (.int .i64 d.f0) (.bool d.f1) (.string d.f2) (.string s) (.int .i64 d.f4) (.slice none 0 0) (.int .i64 d.f6));have BK7:=Aside0.mk (put7_ (b0:=.int .i64 d.f0) (b1:=.bool d.f1) (b2:=.string d.f2) (b3:=.string s) (b4:=.int .i64 d.f4) (b5:=.slice none 0 0) (b6:=.int .i64 d.f6) BJ6.out);generalize (((((((w6.setCell ⟨g1,0,none⟩ (.int .i64 d.f0)).setCell ⟨g1,1,none⟩ (.bool d.f1)).setCell ⟨g1,2,none⟩ (.string d.f2)).setCell ⟨g1,3,none⟩ (.string s)).setCell ⟨g1,4,none⟩ (.int .i64 d.f4)).setCell ⟨g1,5,none⟩ (.slice none 0 0)).setCell ⟨g1,6,none⟩ (.int .i64 d.f6))=w7 at *;obtain ⟨hz0,hz1,hz2,hz3,hz4,hz5,hz6⟩:=bc7 BK7.out;refine bodyPost_ret (v:=dlV { d with f3:=s } (.slice none 0 0)) (by simp [results,Try.results159,go_sem,hz0,hz1,hz2,hz3,hz4,hz5,hz6,dlV]) rfl ?_;show PPost w0 w p (pPair k ts) _ _ _;rw [HX.out];exact ⟨_,rfl,⟨HD5.out,rfl⟩,H6.out.onto HO7.out (Nat.le_trans H.out.size HPG.out.2) HPG.out.1,HO7.out.keep K6.out (.inl HPG.out.2)⟩
set_option maxHeartbeats 4000000 in
set_option maxRecDepth 100000 in
theorem bound_call (w0 w:World) (p:Nat) (ts:List Tk) (k:Int) (h:PS w0 w p ts) :
  Calls Try.prog 160 #[.pointer (some ⟨p,0,none⟩),.int .i64 k] w fun e w'=>PPost w0 w p (pBound k ts) EncD0 e w':=by
 have H:=Aside0.mk h;clear h;go_enter Try.func160,Try.ntmps160;go_upto_region 1 with (((with_reducible refine gate_dst (N:=4) rfl ?_);refine box_event ?hg (N:=4) ?hd (cs:=#[.int .i64 0,.bool false,.string ⟨#[]⟩,.string ⟨#[]⟩,.int .i64 0,.slice none 0 0,.int .i64 0]) (t:=171) ?hr ?_;(case hd=>rfl);(case hg=>rfl);(case hr=>first|(go_simp;done)|(go_simp;rfl));intro g1 hg_ w1 hbox hb;have HB1:=Aside0.mk hb;have BK1:=Aside0.mk hbox;have HG1:=Aside0.mk hg_;clear hb hbox hg_));have H1:=Aside0.mk (H.out.step HB1.out);have HPG:Aside0 (p ≠ g1∧w.heap.size ≤ g1):=⟨by have:=H.out.lt;rw [HG1.out];omega⟩;go_wp2_with fail;refine (thing_call w0 _ p ts k H1.out).mono ?_;rintro e w2 hq;cases hx:pThing k ts with
 | error x =>
  rw [hx] at hq;obtain ⟨rfl,h1,h2⟩:=hq;have HX:Aside0 (pBound k ts = .error x):=⟨by unfold pBound;rw [hx];rfl⟩;refine ⟨rfl,?_⟩;show PPost w0 w p (pBound k ts) _ _ _;rw [HX.out];exact ⟨rfl,h1,(KeepBut.of_below HB1.out _ _).trans h2 (.inl rfl)⟩
 | ok x =>
  obtain ⟨d,ts1⟩:=x;rw [hx] at hq;obtain ⟨v,rfl,⟨hd5,hv⟩,h1,h2⟩:=hq;replace hv:v = .agg #[.int .i64 d.f0,.bool d.f1,.string d.f2,.string d.f3,.int .i64 d.f4,.slice none 0 0,.int .i64 d.f6]:=hv;subst hv;have HX1:Aside0 (pBound k ts=pBind (pNumber ts1) fun s ts=>.ok ({ d with f4:=s },ts)):=⟨by unfold pBound;rw [hx];rfl⟩;have HD5:=Aside0.mk hd5;have BK2:Aside0 (w2.heap[g1]? = _):=⟨h2.blk BK1.out HPG.out.1.symm (by simp)⟩;have H2:=Aside0.mk h1;have K2:=Aside0.mk ((KeepBut.of_below HB1.out p none).trans h2 (.inl rfl));clear h1 h2 hx hd5;go_upto_region 2 with (((with_reducible refine gate_dst (N:=5) rfl ?_);refine box_event ?hg (N:=5) ?hd (cs:=#[.int .i64 0,.bool false,.string ⟨#[]⟩,.string ⟨#[]⟩,.int .i64 0,.slice none 0 0,.int .i64 0]) (t:=171) ?hr ?_;(case hd=>rfl);(case hg=>rfl);(case hr=>first|(go_simp;done)|(go_simp;rfl));intro g2 hg_ w3 hbox hb;have HB2':=Aside0.mk hb;have BK2':=Aside0.mk hbox;have HG2':=Aside0.mk hg_;clear hb hbox hg_);have hc0:w3.cell? ⟨g2,0,none⟩=some (.int .i64 0):=(blk_cell BK2'.out 0).trans rfl;have fhc0:=blk_frozen BK2'.out 0;have hc1:w3.cell? ⟨g2,1,none⟩=some (.bool false):=(blk_cell BK2'.out 1).trans rfl;have fhc1:=blk_frozen BK2'.out 1;have hc2:w3.cell? ⟨g2,2,none⟩=some (.string ⟨#[]⟩):=(blk_cell BK2'.out 2).trans rfl;have fhc2:=blk_frozen BK2'.out 2;have hc3:w3.cell? ⟨g2,3,none⟩=some (.string ⟨#[]⟩):=(blk_cell BK2'.out 3).trans rfl;have fhc3:=blk_frozen BK2'.out 3;have hc4:w3.cell? ⟨g2,4,none⟩=some (.int .i64 0):=(blk_cell BK2'.out 4).trans rfl;have fhc4:=blk_frozen BK2'.out 4;have hc5:w3.cell? ⟨g2,5,none⟩=some (.slice none 0 0):=(blk_cell BK2'.out 5).trans rfl;have fhc5:=blk_frozen BK2'.out 5;have hc6:w3.cell? ⟨g2,6,none⟩=some (.int .i64 0):=(blk_cell BK2'.out 6).trans rfl;have fhc6:=blk_frozen BK2'.out 6);have HPG2:Aside0 (p ≠ g2∧g1 ≠ g2∧w.heap.size ≤ g2):=⟨by have l1:=H2.out.lt;have l2:=blk_lt BK2.out;have l3:=K2.out.1;rw [HG2'.out];omega⟩;have H3:=Aside0.mk (H2.out.step HB2'.out);have BK3:=Aside0.mk (blk_below BK2.out HB2'.out);have K3:=Aside0.mk (K2.out.trans (KeepBut.of_below HB2'.out p none) (.inl rfl));clear hc0 hc1 hc2 hc3 hc4 hc5 hc6 fhc0 fhc1 fhc2 fhc3 fhc4 fhc5 fhc6;have HO4:=Aside0.mk (onto7_ w3 g2 (.int .i64 d.f0) (.bool d.f1) (.string d.f2) (.string d.f3) (.int .i64 d.f4) (.slice none 0 0) (.int .i64 d.f6));have BK4:=Aside0.mk (put7_ (b0:=.int .i64 d.f0) (b1:=.bool d.f1) (b2:=.string d.f2) (b3:=.string d.f3) (b4:=.int .i64 d.f4) (b5:=.slice none 0 0) (b6:=.int .i64 d.f6) BK2'.out);generalize (((((((w3.setCell ⟨g2,0,none⟩ (.int .i64 d.f0)).setCell ⟨g2,1,none⟩ (.bool d.f1)).setCell ⟨g2,2,none⟩ (.string d.f2)).setCell ⟨g2,3,none⟩ (.string d.f3)).setCell ⟨g2,4,none⟩ (.int .i64 d.f4)).setCell ⟨g2,5,none⟩ (.slice none 0 0)).setCell ⟨g2,6,none⟩ (.int .i64 d.f6))=w4 at *;have H4:=Aside0.mk (H3.out.onto HO4.out (Nat.le_trans H.out.size HPG2.out.2.2) HPG2.out.1);have BJ4:=Aside0.mk (HO4.out.blk BK3.out HPG2.out.2.1);have K4:=Aside0.mk (HO4.out.keep K3.out (.inl HPG2.out.2.2));go_wp2_with fail;refine (number_call w0 _ p ts1 H4.out).mono ?_;rintro e w5 hq;cases hx:pNumber ts1 with
  | error x =>
   rw [hx] at hq;obtain ⟨rfl,h1,h2⟩:=hq;have HX:Aside0 (pBound k ts = .error x):=⟨by rw [HX1.out,hx];rfl⟩;refine ⟨rfl,?_⟩;show PPost w0 w p (pBound k ts) _ _ _;rw [HX.out];exact ⟨rfl,h1,K4.out.trans h2 (.inl rfl)⟩
  | ok x =>
   obtain ⟨s,ts2⟩:=x;rw [hx] at hq;obtain ⟨v,rfl,rfl,h1,h2⟩:=hq;have HX:Aside0 (pBound k ts = .ok ({ d with f4:=s },ts2)):=⟨by rw [HX1.out,hx];rfl⟩;have BK5:Aside0 (w5.heap[g2]? = _):=⟨h2.blk BK4.out HPG2.out.1.symm (by simp)⟩;have BJ5:Aside0 (w5.heap[g1]? = _):=⟨h2.blk BJ4.out HPG.out.1.symm (by simp)⟩;have H5:=Aside0.mk h1;have K5:=Aside0.mk (K4.out.trans h2 (.inl rfl));clear h1 h2 hx;have hs0:w5.cell? ⟨g2,4,none⟩=some (.int .i64 d.f4):=(blk_cell BK5.out 4).trans rfl;have hs1:=blk_frozen BK5.out 4;have HO6:=Aside0.mk ((Onto.refl w5 g2).set 4 (.int .i64 s));have BK6:Aside0 ((w5.setCell ⟨g2,4,none⟩ (.int .i64 s)).heap[g2]? = some (.cells #[.int .i64 d.f0,.bool d.f1,.string d.f2,.string d.f3,.int .i64 s,.slice none 0 0,.int .i64 d.f6] 171 (0,0))):=⟨blk_put BK5.out 4 _ rfl⟩;have BJ6:=Aside0.mk (HO6.out.blk BJ5.out HPG2.out.2.1);have H6:=Aside0.mk (H5.out.onto HO6.out (Nat.le_trans H.out.size HPG2.out.2.2) HPG2.out.1);have K6:=Aside0.mk (HO6.out.keep K5.out (.inl HPG2.out.2.2));have hy0:(w5.setCell ⟨g2,4,none⟩ (.int .i64 s)).cell? ⟨g2,0,none⟩=some (.int .i64 d.f0):=(blk_cell BK6.out 0).trans rfl;have hy1:(w5.setCell ⟨g2,4,none⟩ (.int .i64 s)).cell? ⟨g2,1,none⟩=some (.bool d.f1):=(blk_cell BK6.out 1).trans rfl;have hy2:(w5.setCell ⟨g2,4,none⟩ (.int .i64 s)).cell? ⟨g2,2,none⟩=some (.string d.f2):=(blk_cell BK6.out 2).trans rfl;have hy3:(w5.setCell ⟨g2,4,none⟩ (.int .i64 s)).cell? ⟨g2,3,none⟩=some (.string d.f3):=(blk_cell BK6.out 3).trans rfl;have hy4:(w5.setCell ⟨g2,4,none⟩ (.int .i64 s)).cell? ⟨g2,4,none⟩=some (.int .i64 s):=(blk_cell BK6.out 4).trans rfl;have hy5:(w5.setCell ⟨g2,4,none⟩ (.int .i64 s)).cell? ⟨g2,5,none⟩=some (.slice none 0 0):=(blk_cell BK6.out 5).trans rfl;have hy6:(w5.setCell ⟨g2,4,none⟩ (.int .i64 s)).cell? ⟨g2,6,none⟩=some (.int .i64 d.f6):=(blk_cell BK6.out 6).trans rfl;have hc0:(w5.setCell ⟨g2,4,none⟩ (.int .i64 s)).cell? ⟨g1,0,none⟩=some (.int .i64 0):=(blk_cell BJ6.out 0).trans rfl;have fhc0:=blk_frozen BJ6.out 0;have hc1:(w5.setCell ⟨g2,4,none⟩ (.int .i64 s)).cell? ⟨g1,1,none⟩=some (.bool false):=(blk_cell BJ6.out 1).trans rfl;have fhc1:=blk_frozen BJ6.out 1;have hc2:(w5.setCell ⟨g2,4,none⟩ (.int .i64 s)).cell? ⟨g1,2,none⟩=some (.string ⟨#[]⟩):=(blk_cell BJ6.out 2).trans rfl;have fhc2:=blk_frozen BJ6.out 2;have hc3:(w5.setCell ⟨g2,4,none⟩ (.int .i64 s)).cell? ⟨g1,3,none⟩=some (.string ⟨#[]⟩):=(blk_cell BJ6.out 3).trans rfl;have fhc3:=blk_frozen BJ6.out 3;have hc4:(w5.setCell ⟨g2,4,none⟩ (.int .i64 s)).cell? ⟨g1,4,none⟩=some (.int .i64 0):=(blk_cell BJ6.out 4).trans rfl;have fhc4:=blk_frozen BJ6.out 4;have hc5:(w5.setCell ⟨g2,4,none⟩ (.int .i64 s)).cell? ⟨g1,5,none⟩=some (.slice none 0 0):=(blk_cell BJ6.out 5).trans rfl;have fhc5:=blk_frozen BJ6.out 5;have hc6:(w5.setCell ⟨g2,4,none⟩ (.int .i64 s)).cell? ⟨g1,6,none⟩=some (.int .i64 0):=(blk_cell BJ6.out 6).trans rfl;have fhc6:=blk_frozen BJ6.out 6;go_wp2_with fail;clear hs0 hs1 hy0 hy1 hy2 hy3 hy4 hy5 hy6 hc0 hc1 hc2 hc3 hc4 hc5 hc6 fhc0 fhc1 fhc2 fhc3 fhc4 fhc5 fhc6;generalize (w5.setCell ⟨g2,4,none⟩ (.int .i64 s))=w6 at *;have HO7:=Aside0.mk (onto7_ w6 g1 (.int .i64 d.f0) (.bool d.f1) (.string d.f2) (.string d.f3) (.int .i64 s) (.slice none 0 0) (.int .i64 d.f6));have BK7:=Aside0.mk (put7_ (b0:=.int .i64 d.f0) (b1:=.bool d.f1) (b2:=.string d.f2) (b3:=.string d.f3) (b4:=.int .i64 s) (b5:=.slice none 0 0) (b6:=.int .i64 d.f6) BJ6.out);generalize (((((((w6.setCell ⟨g1,0,none⟩ (.int .i64 d.f0)).setCell ⟨g1,1,none⟩ (.bool d.f1)).setCell ⟨g1,2,none⟩ (.string d.f2)).setCell ⟨g1,3,none⟩ (.string d.f3)).setCell ⟨g1,4,none⟩ (.int .i64 s)).setCell ⟨g1,5,none⟩ (.slice none 0 0)).setCell ⟨g1,6,none⟩ (.int .i64 d.f6))=w7 at *;obtain ⟨hz0,hz1,hz2,hz3,hz4,hz5,hz6⟩:=bc7 BK7.out;refine bodyPost_ret (v:=dlV { d with f4:=s } (.slice none 0 0)) (by simp [results,Try.results160,go_sem,hz0,hz1,hz2,hz3,hz4,hz5,hz6,dlV]) rfl ?_;show PPost w0 w p (pBound k ts) _ _ _;rw [HX.out];exact ⟨_,rfl,⟨HD5.out,rfl⟩,H6.out.onto HO7.out (Nat.le_trans H.out.size HPG.out.2) HPG.out.1,HO7.out.keep K6.out (.inl HPG.out.2)⟩
end Go.Proofs.Ytjbjbeihkoeciaa.X
